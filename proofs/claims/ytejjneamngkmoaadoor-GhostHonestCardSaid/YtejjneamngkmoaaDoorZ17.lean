/- Texts that the claim leans on, part 17: X12, G1, Rng, G2, G3, G4, X13, G5. -/
import Derived.Test.YtejjneamngkmoaaDoorZ1
import Derived.Test.YtejjneamngkmoaaDoorZ2
import Derived.Test.YtejjneamngkmoaaDoorZ3
import Derived.Test.YtejjneamngkmoaaDoorZ4
import Derived.Test.YtejjneamngkmoaaDoorZ5
import Derived.Test.YtejjneamngkmoaaDoorZ6
import Derived.Test.YtejjneamngkmoaaDoorZ7
import Derived.Test.YtejjneamngkmoaaDoorZ8
import Derived.Test.YtejjneamngkmoaaDoorRows
import Derived.WalkKit
import Derived.WalkSpells
import Derived.WalkLawsBesides
import Derived.Handy
import Derived.Deep.QuietTactic
import Derived.BigQuiet
import Derived.Deep.DeepCutAuto
import Derived.Lib.Hide
import Derived.RegionTactic
import Derived.ChangeAlike
import Derived.Laws.ResultCell
import Derived.Outline
import Derived.RangeFuncNested
import Derived.RangeFuncBound
import Derived.RangeFuncCalls
import Derived.RangeFuncLeaves
import Derived.RangeFuncBox
import Derived.Shelf.Abstract
import Derived.Shelf.RegionOpen
import Derived.OwnWalkIn
import Derived.TacticsInMore
import Derived.LoopNIn
import Derived.LoopIn
import Derived.Maps.AppendAt
import Derived.Laws.IdiomStrings
import Derived.Laws.BytesArg
import Derived.Laws.MakeOwn
import Derived.Lib.SliceRun
import Derived.Laws.BitsAllLaws
import Derived.Great.BuildSlice
import Derived.Great.FillDense
import Derived.Laws.Rows
import Derived.Deep.Quiet
import Derived.Deep.RegionHeld3
import Derived.ProofKit
import Derived.OpenShut
import Derived.Laws.CopyOwn
import Derived.Laws.CopyRow
import Derived.Laws.NewBlocks
import Derived.Deep.RegionLaw
namespace Go.Proofs.YtejjneamngkmoaaDoor

/-- Is a sector hurt? -/
def hurtB (d : Dk) (s : Int) : Bool := decide ((restD d s).2.2 = 0) && ((restD d s).2.1 || !decide ((restD d s).1 = (meantD d s).1))
def rangeI (f t : Nat) : List Int := (List.range' f (t - f)).map (fun (s : Nat) => (s : Int))
/-- The sectors that are hurt, from one on, below another one. -/
def hurtsL (d : Dk) (f t : Nat) : List Int := (rangeI f t).filter (hurtB d)
theorem rangeI_self (f : Nat) : rangeI f f = [] := by simp [rangeI]
theorem rangeI_succ {f t : Nat} (h : f ≤ t) : rangeI f (t + 1) = rangeI f t ++ [(t : Int)] := by
  unfold rangeI
  rw [show t + 1 - f = (t - f) + 1 by omega, List.range'_concat, List.map_append]
  simp only [List.map_cons, List.map_nil]
  rw [show f + 1 * (t - f) = t by omega]
theorem hurtsL_self (d : Dk) (f : Nat) : hurtsL d f f = [] := by simp [hurtsL, rangeI_self]
theorem hurtsL_yes {d : Dk} {f t : Nat} (h : f ≤ t) (hb : hurtB d t = true) : hurtsL d f (t + 1) = hurtsL d f t ++ [(t : Int)] := by
  unfold hurtsL
  rw [rangeI_succ h, List.filter_append]
  simp [hb]
theorem hurtsL_no {d : Dk} {f t : Nat} (h : f ≤ t) (hb : hurtB d t = false) : hurtsL d f (t + 1) = hurtsL d f t := by
  unfold hurtsL
  rw [rangeI_succ h, List.filter_append]
  simp [hb]
theorem hurtsL_len (d : Dk) (f t : Nat) : (hurtsL d f t).length ≤ t - f := by
  unfold hurtsL rangeI
  refine Nat.le_trans (List.length_filter_le _ _) ?_
  simp
theorem hurtsL_nil {d : Dk} {f t : Nat} (h : ∀ s : Nat, f ≤ s → s < t → hurtB d s = false) : hurtsL d f t = [] := by
  unfold hurtsL
  rw [List.filter_eq_nil_iff]
  intro x hx
  unfold rangeI at hx
  simp only [List.mem_map, List.mem_range'_1] at hx
  obtain ⟨s, ⟨h1, h2⟩, rfl⟩ := hx
  rw [h s h1 (by omega)]
  simp
theorem hurtsL_ne {d : Dk} {f t s : Nat} (h1 : f ≤ s) (h2 : s < t) (h : hurtB d s = true) : hurtsL d f t ≠ [] := by
  intro hh
  unfold hurtsL at hh
  rw [List.filter_eq_nil_iff] at hh
  refine hh (s : Int) ?_ h
  unfold rangeI
  simp only [List.mem_map, List.mem_range'_1]
  exact ⟨s, ⟨h1, by omega⟩, rfl⟩
/-- Why nothing is told of a place. -/
def askN (n : Nat) (rep reg pla : Int) : Int := if n = 0 then 1 else if n < 156 ∨ rep < 0 ∨ 7 ≤ rep ∨ firstN reg pla < 0 then 2 else 0
def askG (d : Dk) (rep reg pla : Int) : Int := askN d.pl.length rep reg pla
/-- The bytes of some sectors, one behind the other. -/
def allG (f : Int → List UInt8) (a n : Nat) : List UInt8 := (List.range n).flatMap (fun (k : Nat) => f ((a + k : Nat) : Int))
def goneG (d : Dk) (a n : Nat) : Bool := (List.range n).any (fun (k : Nat) => (restD d ((a + k : Nat) : Int)).2.1)
theorem allG_zero (f : Int → List UInt8) (a : Nat) : allG f a 0 = [] := rfl
theorem allG_succ (f : Int → List UInt8) (a n : Nat) : allG f a (n + 1) = allG f a n ++ f ((a + n : Nat) : Int) := by
  unfold allG
  rw [List.range_succ, List.flatMap_append, List.flatMap_singleton]
theorem goneG_zero (d : Dk) (a : Nat) : goneG d a 0 = false := rfl
theorem goneG_succ (d : Dk) (a n : Nat) : goneG d a (n + 1) = (goneG d a n || (restD d ((a + n : Nat) : Int)).2.1) := by
  unfold goneG
  rw [List.range_succ, List.any_append]
  simp
def isHurt (d : Dk) (a n : Nat) : Bool := !(hurtsL d a (a + n)).isEmpty
def allR (d : Dk) (a n : Nat) : List UInt8 := allG (fun s => (restD d s).1) a n
def allM (d : Dk) (a n : Nat) : List UInt8 := allG (fun s => (meantD d s).1) a n
/-- Whether a place is hurt, whether that is seen. -/
def placeG (d : Dk) (rep reg pla : Int) : Bool × Bool × Int :=
  if askG d rep reg pla ≠ 0 then (false, false, askG d rep reg pla) else
  (isHurt d (firstN reg pla).toNat (wideN reg).toNat, isHurt d (firstN reg pla).toNat (wideN reg).toNat && (goneG d (firstN reg pla).toNat (wideN reg).toNat || decide ((mineF (allR d (firstN reg pla).toNat (wideN reg).toNat) rep reg pla).1 = 2)), 0)
/-- What a place is meant to hold. -/
def honG (d : Dk) (rep reg pla : Int) : (Nat × Tg × List UInt8) × Int :=
  if askG d rep reg pla ≠ 0 then ((0, zeroTg, []), askG d rep reg pla) else
  (mineF (allM d (firstN reg pla).toNat (wideN reg).toNat) rep reg pla, 0)
def seenP (d : Dk) (rep : Int) (reg : Nat) (n : Nat) : Bool := (List.range n).all (fun (p : Nat) => (placeG d rep reg p).1 == (placeG d rep reg p).2.1)
def seenR (d : Dk) (rep : Int) (n : Nat) : Bool := (List.range n).all (fun (r : Nat) => seenP d rep (r + 1) (placesN ((r + 1 : Nat) : Int)).toNat)
def seenG (d : Dk) (rep : Int) : Bool × Int := if askG d rep 1 0 ≠ 0 then (false, askG d rep 1 0) else (seenR d rep 5, 0)
theorem seenP_succ (d : Dk) (rep : Int) (reg n : Nat) : seenP d rep reg (n + 1) = (seenP d rep reg n && (placeG d rep reg n).1 == (placeG d rep reg n).2.1) := by
  unfold seenP
  rw [List.range_succ, List.all_append]
  simp
theorem seenR_succ (d : Dk) (rep : Int) (n : Nat) : seenR d rep (n + 1) = (seenR d rep n && seenP d rep (n + 1) (placesN ((n + 1 : Nat) : Int)).toNat) := by
  unfold seenR
  rw [List.range_succ, List.all_append]
  simp
theorem ask_first {d : Dk} {rep reg pla : Int} (h : askG d rep reg pla = 0) : 156 ≤ d.pl.length ∧ 0 ≤ rep ∧ rep ≤ 6 ∧ 1 ≤ reg ∧ reg ≤ 5 ∧ 0 ≤ pla ∧ pla < placesN reg ∧ 0 ≤ firstN reg pla ∧ firstN reg pla + wideN reg ≤ 156 ∧ 1 ≤ wideN reg ∧ wideN reg ≤ 2 := by
  unfold askG askN at h
  split at h
  · cases h
  · split at h
    · cases h
    · rename_i h1 h2
      have h3 : ¬ firstN reg pla < 0 := fun hh => h2 (.inr (.inr (.inr hh)))
      have h4 : ¬ (placesN reg = 0 ∨ pla < 0 ∨ placesN reg ≤ pla) := fun hh => h3 (by unfold firstN; rw [if_pos hh]; decide)
      have h5 : 0 < placesN reg := by
        have : 0 ≤ placesN reg := by unfold placesN; repeat' split <;> omega
        omega
      obtain ⟨r1, r2, _⟩ := placesN_reg h5
      refine ⟨by omega, by omega, by omega, r1, r2, by omega, by omega, by omega, ?_⟩
      have hf : firstN reg pla = startN reg + pla * wideN reg := by unfold firstN; rw [if_neg h4]
      rw [hf]
      have hr : reg = 1 ∨ reg = 2 ∨ reg = 3 ∨ reg = 4 ∨ reg = 5 := by omega
      rcases hr with rfl | rfl | rfl | rfl | rfl <;> simp [placesN, startN, wideN] at h4 ⊢ <;> omega
end Go.Proofs.YtejjneamngkmoaaDoor

namespace Go.Proofs.YtejjneamngkmoaaDoor
open Go.RowKit

theorem rest_nil {d : Dk} {s : Int} (h : ¬ ((restD d s).2.2 = 0 ∧ (restD d s).2.1 = false)) : (restD d s).1 = [] := by
  unfold restD at h ⊢
  split
  · rfl
  · rename_i h0
    rw [if_neg h0] at h
    split
    · rfl
    · rename_i h1
      rw [if_neg h1] at h
      exact absurd ⟨rfl, rfl⟩ h
theorem meant_nil {d : Dk} {s : Int} (h : ¬ (meantD d s).2 = 0) : (meantD d s).1 = [] := by
  unfold meantD at h ⊢
  split
  · rfl
  · rename_i h0
    rw [if_neg h0] at h
    exact absurd rfl h
theorem owns64 {w : World} {base : Nat} {a : Option Addr} {c : Nat} {l : List UInt8} (h : w.ownsRow base 5 1 (.slice a 64 c) 64 (bys l)) : l.length = 64 ∧ SlB w a c l := by
  have hl : l.length = 64 := by
    have := h.1
    rw [bys_len] at this
    omega
  rw [← hl] at h
  obtain ⟨a', c', e, hs⟩ := SlB.of_owns h
  injection e with e1 e2 e3
  subst e1 e3
  exact ⟨hl, hs⟩
theorem slb_nil (w : World) : SlB w none 0 [] := ⟨.inl rfl, Nat.le_refl _, by simp, fun _ => rfl⟩
theorem RestRes.slb {base : Nat} {d : Dk} {s : Int} {e : Ending} {w' : World} (h : RestRes base (restD d s) e w') : ∃ a c, e = .returned (.tuple #[.slice a (restD d s).1.length c, .bool (restD d s).2.1, .int .i64 (restD d s).2.2]) ∧ SlB w' a c (restD d s).1 := by
  have hn := @rest_nil d s
  generalize restD d s = r at *
  unfold RestRes at h
  split at h
  · rename_i h0
    obtain ⟨a, c, he, ho⟩ := h
    obtain ⟨h1, h2⟩ := owns64 ho
    refine ⟨a, c, ?_, h2⟩
    rw [he, h1, h0.1, h0.2]
  · rename_i h0
    have := hn h0
    rw [this]
    exact ⟨none, 0, h, slb_nil w'⟩
theorem ReadRes.slb {base : Nat} {r : List UInt8 × Int} {e : Ending} {w' : World} (h : ReadRes base r e w') (hn : ¬ r.2 = 0 → r.1 = []) : ∃ a c, e = .returned (.tuple #[.slice a r.1.length c, .int .i64 r.2]) ∧ SlB w' a c r.1 := by
  unfold ReadRes at h
  split at h
  · rename_i h0
    obtain ⟨a, c, he, ho⟩ := h
    obtain ⟨h1, h2⟩ := owns64 ho
    refine ⟨a, c, ?_, h2⟩
    rw [he, h1, h0]
  · rename_i h0
    rw [hn h0]
    exact ⟨none, 0, h, slb_nil w'⟩
section
variable {B g gp : Nat} {wv : Value} {d : Dk} {w : World}
theorem rest_sl (h : DiskB B g gp wv d w) (s : Int) : Calls Tryd.prog 31 #[.pointer (some ⟨g, 0, none⟩), .int .i64 s] w fun e w' => (∃ a c, e = .returned (.tuple #[.slice a (restD d s).1.length c, .bool (restD d s).2.1, .int .i64 (restD d s).2.2]) ∧ SlB w' a c (restD d s).1) ∧ Below w.heap.size w w' :=
  (rest_any h s).mono fun _ _ hh => ⟨hh.1.slb, hh.2⟩
theorem meant_sl (h : DiskB B g gp wv d w) (s : Int) : Calls Tryd.prog 54 #[.pointer (some ⟨g, 0, none⟩), .int .i64 s] w fun e w' => (∃ a c, e = .returned (.tuple #[.slice a (meantD d s).1.length c, .int .i64 (meantD d s).2]) ∧ SlB w' a c (meantD d s).1) ∧ Below w.heap.size w w' :=
  (meant_any h s).mono fun _ _ hh => ⟨hh.1.slb meant_nil, hh.2⟩
set_option maxRecDepth 100000 in
theorem is_any (h : DiskB B g gp wv d w) (q : Nat) (hq : w.cell? ⟨q, 0, none⟩ = some (.pointer (some ⟨g, 0, none⟩))) (s : Int) : Calls Tryd.prog 83 #[.int .i64 s, .pointer (some ⟨q, 0, none⟩)] w fun e w' => e = .returned (.bool (hurtB d s)) ∧ Below w.heap.size w w' := by
  have hr := rest_sl h s
  unfold hurtB
  obtain ⟨l, lost, er, hre⟩ : ∃ l lost er, restD d s = (l, lost, er) := ⟨_, _, _, rfl⟩
  obtain ⟨m, em, hme⟩ : ∃ m em, meantD d s = (m, em) := ⟨_, _, rfl⟩
  rw [hre] at hr ⊢
  rw [hme]
  have HM := Lib.hid hme
  clear hre hme
  simp only at hr ⊢
  by_cases he : er = 0
  · subst he
    cases lost
    · simp only [decide_true, Bool.true_and, Bool.false_or]
      go_enter Tryd.func83, Tryd.ntmps83
      go_wp2_with (first
        | (go_at_call 31; refine hr.mono ?_; rintro e w1 ⟨⟨a1, c1, rfl, s1⟩, hb1⟩; have hm := meant_sl (h.below hb1) s; rw [HM.out] at hm; have hq1 := cell_later hb1 hq)
        | (go_at_call 54; refine hm.mono ?_; rintro e w2 ⟨⟨a2, c2, rfl, s2⟩, hb2⟩; have hr1 := s1.row.below0 hb2; have hr2 := s2.row)
        | (go_at_call 84; refine (equal_any a1 a2 c1 c2 l m _ hr1 hr2).mono ?_; rintro e w3 ⟨rfl, rfl⟩))
      go_ret
      exact ⟨rfl, hb1.trans (hb2.mono hb1.size)⟩
    · simp only [decide_true, Bool.true_and, Bool.true_or]
      go_enter Tryd.func83, Tryd.ntmps83
      go_wp2_with (first
        | (go_at_call 31; refine hr.mono ?_; rintro e w1 ⟨⟨a1, c1, rfl, s1⟩, hb1⟩; have hm := meant_sl (h.below hb1) s; rw [HM.out] at hm; have hq1 := cell_later hb1 hq)
        | (go_at_call 54; refine hm.mono ?_; rintro e w2 ⟨⟨a2, c2, rfl, s2⟩, hb2⟩; have hr1 := s1.row.below0 hb2; have hr2 := s2.row)
        | (go_at_call 84; refine (equal_any a1 a2 c1 c2 l m _ hr1 hr2).mono ?_; rintro e w3 ⟨rfl, rfl⟩))
      go_ret
      exact ⟨rfl, hb1.trans (hb2.mono hb1.size)⟩
  · have e1 : (er == 0) = false := by rw [beq_eq_false_iff_ne]; exact he
    rw [decide_eq_false he, Bool.false_and]
    clear he
    go_enter Tryd.func83, Tryd.ntmps83
    go_wp2_with (first
      | (go_at_call 31; refine hr.mono ?_; rintro e w1 ⟨⟨a1, c1, rfl, s1⟩, hb1⟩; have hm := meant_sl (h.below hb1) s; rw [HM.out] at hm; have hq1 := cell_later hb1 hq)
      | (go_at_call 54; refine hm.mono ?_; rintro e w2 ⟨⟨a2, c2, rfl, s2⟩, hb2⟩; have hr1 := s1.row.below0 hb2; have hr2 := s2.row)
      | (go_at_call 84; refine (equal_any a1 a2 c1 c2 l m _ hr1 hr2).mono ?_; rintro e w3 ⟨rfl, rfl⟩))
    go_ret
    exact ⟨rfl, hb1.trans (hb2.mono hb1.size)⟩
end
end Go.Proofs.YtejjneamngkmoaaDoor

namespace Go.Proofs.YtejjneamngkmoaaDoor
open Go.RowKit

theorem calls_marks {P : Program} {f : FuncId} {fn : Func} {c : Code} {args : Array Value} {w : World} {R : Ending → World → Prop} (hf : P.funcs[f]? = some fn) (hb : fn.body = some c)
    (h : c.wp P (bodyPostM Fence.wide 3 P fn R) { tmps := args ++ Array.replicate (fn.ntmps - args.size) undef, defers := [] } w) : Calls P f args w R :=
  callsIn_wide.1 (callsIn_of_wp_marks (F := Fence.wide) (n := 3) hf hb trivial (wpIn_wide.2 h))
theorem wp_range {α : Type} {P : Program} {g : Operand} {ps : Array Tmp} {assign body : Code} {Q : Exit → Act → World → Prop} {a : Act} {w : World}
    {gf : Nat} {lb : Array Value} (hg : a.eval g = .func (.func gf) #[] lb) (eg : ∀ args w, (callFunc gf args).run P w = .ok (.enter gf args) w)
    {encs : α → Array Value} {Kp : World → World → Prop} {S Sp : List α → Prop} {N : Nat} (hseq : SeqStopsK Fence.wide 2 P gf lb encs Kp S Sp N w)
    (hKt : ∀ {A B C : World}, Kp A B → Kp B C → Kp A C) (hKb : ∀ (W : World) (l : Nat) (o o' : Obj), w.heap.size ≤ l → W.heap[l]? = some o → o.isCells = false → o.isWalk = false → Kp W (W.putObj l o')) (hps : ∀ x, (encs x).size = ps.size)
    (I : List α → World → Prop) (Ix : Code → List α → World → Prop) (hI : OwnFrom w.heap.size I) (hIx : ∀ c, OwnFrom w.heap.size (Ix c)) (h0 : I [] w) (a₁ : α → Act)
    (hassign : ∀ (l : Nat) (x : α) (W : World) (K : Act → World → Prop), K (a₁ x) W →
      assign.wpIn (Fence.wide.inRound l) (3 - 1 - 1) P (Exit.then K (fun _ _ _ => False)) { tmps := (ps.zip (encs x)).foldl (fun t (p, v) => t.setIfInBounds p v) a.tmps, defers := [] } W)
    (hbody : ∀ (l : Nat) (pre : List α) (x : α) (W : World), I pre W → pre.length < N → body.wpIn (Fence.wide.inRound l) (3 - 1 - 1) P (ownPostG w.heap.size Kp I Ix (pre ++ [x]) W) (a₁ x) W)
    (hdone : ∀ (D : Nat) (xs : List α) (W : World), w.heap.size ≤ D → S xs → I xs W → W.heap[D]? = some (.deferred (some [])) → Q .normal { a with defers := { target := .collected D, args := #[] } :: a.defers } W)
    (hstop : ∀ (D : Nat) (c : Code) (pre : List α) (W : World), w.heap.size ≤ D → Sp pre → Ix c pre W → W.heap[D]? = some (.deferred (some [])) → c.wp P Q { a with defers := { target := .collected D, args := #[] } :: a.defers } W) :
    (Code.rangeFunc g ps assign body).wp P Q a w :=
  wpIn_wide.1 (wpIn_rangeFunc_ownG (F := Fence.wide) (n := 3) rfl (by decide) hg trivial eg hseq hKt hKb (Below.refl _ _) hps I Ix hI hIx h0 a₁ hassign hbody hdone (fun D c pre W h1 h2 h3 h4 => wpIn_wide.2 (hstop D c pre W h1 h2 h3 h4)))
/-- A range that hands its loop no variable. -/
theorem wp_range_skip {α : Type} {P : Program} {g : Operand} {ps : Array Tmp} {body : Code} {Q : Exit → Act → World → Prop} {a : Act} {w : World}
    {gf : Nat} {lb : Array Value} (hg : a.eval g = .func (.func gf) #[] lb) (eg : ∀ args w, (callFunc gf args).run P w = .ok (.enter gf args) w)
    {encs : α → Array Value} {Kp : World → World → Prop} {S Sp : List α → Prop} {N : Nat} (hseq : SeqStopsK Fence.wide 2 P gf lb encs Kp S Sp N w)
    (hKt : ∀ {A B C : World}, Kp A B → Kp B C → Kp A C) (hKb : ∀ (W : World) (l : Nat) (o o' : Obj), w.heap.size ≤ l → W.heap[l]? = some o → o.isCells = false → o.isWalk = false → Kp W (W.putObj l o')) (hps : ∀ x, (encs x).size = ps.size)
    (I : List α → World → Prop) (Ix : Code → List α → World → Prop) (hI : OwnFrom w.heap.size I) (hIx : ∀ c, OwnFrom w.heap.size (Ix c)) (h0 : I [] w)
    (hbody : ∀ (l : Nat) (pre : List α) (x : α) (W : World), I pre W → pre.length < N → body.wpIn (Fence.wide.inRound l) (3 - 1 - 1) P (ownPostG w.heap.size Kp I Ix (pre ++ [x]) W) { tmps := (ps.zip (encs x)).foldl (fun t (p, v) => t.setIfInBounds p v) a.tmps, defers := [] } W)
    (hdone : ∀ (D : Nat) (xs : List α) (W : World), w.heap.size ≤ D → S xs → I xs W → W.heap[D]? = some (.deferred (some [])) → Q .normal { a with defers := { target := .collected D, args := #[] } :: a.defers } W)
    (hstop : ∀ (D : Nat) (c : Code) (pre : List α) (W : World), w.heap.size ≤ D → Sp pre → Ix c pre W → W.heap[D]? = some (.deferred (some [])) → c.wp P Q { a with defers := { target := .collected D, args := #[] } :: a.defers } W) :
    (Code.rangeFunc g ps .skip body).wp P Q a w :=
  wp_range hg eg hseq hKt hKb hps I Ix hI hIx h0 (fun x => { tmps := (ps.zip (encs x)).foldl (fun t (p, v) => t.setIfInBounds p v) a.tmps, defers := [] }) (fun _ _ _ _ hK => wpIn_skip hK) hbody hdone hstop
/-- What a round keeps: whatever lay below n, and four boxes from m on. -/
structure KpH (n m : Nat) (W W' : World) : Prop where
  bl : Below n W W'
  bx : ∀ k, m ≤ k → k < m + 4 → W'.heap[k]? = W.heap[k]?
theorem KpH.trans {n m : Nat} {A B C : World} (h : KpH n m A B) (k : KpH n m B C) : KpH n m A C := ⟨h.bl.trans k.bl, fun i h1 h2 => (k.bx i h1 h2).trans (h.bx i h1 h2)⟩
theorem KpH.put {n m : Nat} {w : World} (hn : n ≤ w.heap.size) (hm : m + 4 ≤ w.heap.size) (W : World) (l : Nat) (o o' : Obj) (hl : w.heap.size ≤ l) (h : W.heap[l]? = some o) (h1 : o.isCells = false) (h2 : o.isWalk = false) : KpH n m W (W.putObj l o') :=
  ⟨belowK_b hn W l o o' hl h h1 h2, fun k _ hk => (grownBy_putObj' W l o').block k (by have := (Array.getElem?_eq_some_iff.1 h).1; omega) (fun e => by cases e; omega)⟩
theorem KpH.below {n m : Nat} {W W' : World} (h : Below W.heap.size W W') (hn : n ≤ W.heap.size) (hm : m + 4 ≤ W.heap.size) : KpH n m W W' := ⟨h.mono hn, fun k _ hk => h.block k (by omega)⟩
theorem gb_none {w w' : World} (h : Below w.heap.size w w') : w.grownBy w' none := ⟨h.os, h.tape, h.output, h.size, fun i hi _ => h.block i hi⟩
theorem abides_bl {β : Type} {B : Nat} {J : β → World → Prop} (hJ : AbidesFrom B J) {s : β} {w w' : World} (hs : J s w) (h : Below w.heap.size w w') : J s w' := hJ s w w' none hs (gb_none h) (fun r e => by cases e)
theorem marks_ret {P : Program} {fn : Func} {R : Ending → World → Prop} {tmps : Array Value} {D : Nat} {v : Value} {w : World} (hK : w.heap[D]? = some (.deferred (some []))) (hres : (results fn tmps).run P (w.putObj D (.deferred none)) = .ok v (w.putObj D (.deferred none)))
    (hR : R (.returned v) (w.putObj D (.deferred none))) : bodyPostM Fence.wide 3 P fn R .ret { tmps := tmps, defers := [{ target := .collected D, args := #[] }] } w :=
  ⟨by simp, .inl ⟨_, _, rfl, run_takeDeferred hK, v, hres, hR⟩⟩
theorem marks_end {P : Program} {fn : Func} {R : Ending → World → Prop} {tmps : Array Value} {v : Value} {w : World} (hres : (results fn tmps).run P w = .ok v w) (hR : R (.returned v) w) : bodyPostM Fence.wide 3 P fn R .ret { tmps := tmps, defers := [] } w := ⟨v, hres, hR⟩
theorem below_mark {n D : Nat} {w W : World} (h : Below n w W) (hD : n ≤ D) : Below n w (W.putObj D (.deferred none)) :=
  h.trans ⟨rfl, rfl, rfl, by simp [World.putObj], fun k hk => World.putObj_heap_other (by omega)⟩
end Go.Proofs.YtejjneamngkmoaaDoor

namespace Go.Proofs.YtejjneamngkmoaaDoor
open Go.RowKit Go.Shelf

theorem hurtsL_pre (d : Dk) {f k t : Nat} (h1 : f ≤ k) (h2 : k ≤ t) : hurtsL d f k <+: hurtsL d f t := by
  unfold hurtsL rangeI
  refine List.IsPrefix.filter _ (List.IsPrefix.map _ ?_)
  refine ⟨List.range' k (t - k), ?_⟩
  have := List.range'_append_1 (s := f) (m := k - f) (n := t - k)
  rw [show f + (k - f) = k by omega, show k - f + (t - k) = t - f by omega] at this
  exact this
/-- What hurts lays: four boxes. -/
structure HuB (pa : Option Addr) (m f t : Nat) (w : World) : Prop where
  c0 : w.cell? ⟨m, 0, none⟩ = some (.pointer pa)
  c1 : w.cell? ⟨m + 1, 0, none⟩ = some (.int .i64 (f : Int))
  c2 : w.cell? ⟨m + 2, 0, none⟩ = some (.int .i64 (t : Int))
  c3 : w.cell? ⟨m + 3, 0, none⟩ = some (.func (.func 83) #[] #[.pointer (some ⟨m, 0, none⟩)])
theorem cell_bx {n m k : Nat} {w w' : World} {v : Value} (h : KpH n m w w') (h1 : m ≤ k) (h2 : k < m + 4) (hc : w.cell? ⟨k, 0, none⟩ = some v) : w'.cell? ⟨k, 0, none⟩ = some v := by
  unfold World.cell? at hc ⊢
  simp only at hc ⊢
  rw [h.bx k h1 h2]
  exact hc
theorem HuB.kp {pa : Option Addr} {m f t n : Nat} {w w' : World} (h : HuB pa m f t w) (hk : KpH n m w w') : HuB pa m f t w' :=
  ⟨cell_bx hk (by omega) (by omega) h.c0, cell_bx hk (by omega) (by omega) h.c1, cell_bx hk (by omega) (by omega) h.c2, cell_bx hk (by omega) (by omega) h.c3⟩
theorem HuB.below {pa : Option Addr} {m f t : Nat} {w w' : World} (h : HuB pa m f t w) (hb : Below w.heap.size w w') : HuB pa m f t w' :=
  ⟨cell_later hb h.c0, cell_later hb h.c1, cell_later hb h.c2, cell_later hb h.c3⟩
theorem fn_new (f : Fn) (ts lb : Array Value) : (Value.func f ts lb).cells = #[.func f ts lb] ∧ (#[Value.func f ts lb]).size = 1 ∧ ∀ u ∈ (#[Value.func f ts lb]).toList, u.oneCell' = true := ⟨rfl, rfl, by simp [Value.oneCell']⟩
set_option maxRecDepth 100000 in
theorem hurts_any (pa : Option Addr) (f t : Nat) (w : World) : Calls Tryd.prog 52 #[.pointer pa, .int .i64 (f : Int), .int .i64 (t : Int)] w fun e w' =>
    e = .returned (.func (.func 85) #[] #[.pointer (some ⟨w.heap.size + 1, 0, none⟩), .pointer (some ⟨w.heap.size + 2, 0, none⟩), .pointer (some ⟨w.heap.size + 3, 0, none⟩)]) ∧ HuB pa w.heap.size f t w' ∧ w'.heap.size = w.heap.size + 4 ∧ Below w.heap.size w w' := by
  go_enter Tryd.func52, Tryd.ntmps52
  refine wp_seq_k (fun K hK => ?_)
  have HK := Lib.hid hK
  clear hK
  go_wp2
  refine HK.out _ _ ?_
  clear HK
  have hb1 := blw w (Obj.cells #[.pointer pa] 23)
  have hb2 := hb1.alloc (by simp) (Obj.cells #[.int .i64 (f : Int)] 3)
  have hb3 := hb2.alloc (by simp; omega) (Obj.cells #[.int .i64 (t : Int)] 3)
  have d0 : (((w.alloc (Obj.cells #[.pointer pa] 23)).alloc (Obj.cells #[.int .i64 (f : Int)] 3)).alloc (Obj.cells #[.int .i64 (t : Int)] 3)).cell? ⟨w.heap.size, 0, none⟩ = some (.pointer pa) := by go_simp
  have d1 : (((w.alloc (Obj.cells #[.pointer pa] 23)).alloc (Obj.cells #[.int .i64 (f : Int)] 3)).alloc (Obj.cells #[.int .i64 (t : Int)] 3)).cell? ⟨w.heap.size + 1, 0, none⟩ = some (.int .i64 (f : Int)) := by go_simp
  have d2 : (((w.alloc (Obj.cells #[.pointer pa] 23)).alloc (Obj.cells #[.int .i64 (f : Int)] 3)).alloc (Obj.cells #[.int .i64 (t : Int)] 3)).cell? ⟨w.heap.size + 2, 0, none⟩ = some (.int .i64 (t : Int)) := by go_simp
  have hs : (((w.alloc (Obj.cells #[.pointer pa] 23)).alloc (Obj.cells #[.int .i64 (f : Int)] 3)).alloc (Obj.cells #[.int .i64 (t : Int)] 3)).heap.size = w.heap.size + 3 := by simp
  generalize (((w.alloc (Obj.cells #[.pointer pa] 23)).alloc (Obj.cells #[.int .i64 (f : Int)] 3)).alloc (Obj.cells #[.int .i64 (t : Int)] 3)) = w3 at *
  have HS := Lib.hid hs
  clear hs
  refine wp_seq_k (fun K hK => ?_)
  have HK := Lib.hid hK
  clear hK
  go_wp2_with ((first | (with_reducible refine wpList_stNew 139 _ _ ?_) | (with_reducible refine wp_stNew 139 _ _ ?_)); refine ⟨_, _, ⟨Tryd.sizeOf139, rfl, fn_new _ _ _⟩, rfl, ?_⟩)
  refine HK.out _ _ ?_
  clear HK
  have c3 := blk_cell (heap_alloc_new w3 (Obj.cells #[.func (.func 83) #[] #[.pointer (some ⟨w.heap.size, 0, none⟩)]] 139)) 0 _ rfl
  rw [HS.out] at c3
  have hb4 := blw w3 (Obj.cells #[.func (.func 83) #[] #[.pointer (some ⟨w.heap.size, 0, none⟩)]] 139)
  have hz := HS.out
  have HC := Lib.hid c3
  clear c3
  go_wp2
  go_ret
  exact ⟨rfl, ⟨cell_later hb4 d0, cell_later hb4 d1, cell_later hb4 d2, HC.out⟩, by simp; omega, hb3.alloc (by omega) _⟩
section
variable {B g gp : Nat} {wv : Value} {d : Dk} {wc : World}
set_option maxRecDepth 100000 in
set_option maxHeartbeats 1000000 in
theorem hurts_in (h : DiskB B g gp wv d wc) (f t m l : Nat) (ht : t ≤ 100000) (hf : f ≤ t) (J Jx : List Int → World → Prop) (W : World) (hm : wc.heap.size ≤ W.heap.size) (hm4 : m + 4 ≤ W.heap.size) (hB : Below wc.heap.size wc W) (hq : HuB (some ⟨g, 0, none⟩) m f t W) (hJ : AbidesFrom W.heap.size J)
    (hY : ∀ pre x W1, J pre W1 → pre.length < t → YieldAt Fence.wide 1 Tryd.prog l #[.int .i64 x] W1 fun e W' => (e = .returned (.bool true) ∧ J (pre ++ [x]) W' ∧ KpH wc.heap.size m W1 W') ∨ (e = .returned (.bool false) ∧ Jx (pre ++ [x]) W')) (h0 : J [] W) :
    CallsIn Fence.wide 2 Tryd.prog 85 (#[.func (.yield l) #[] #[]] ++ #[.pointer (some ⟨m + 1, 0, none⟩), .pointer (some ⟨m + 2, 0, none⟩), .pointer (some ⟨m + 3, 0, none⟩)]) W fun e W' => (∃ v, e = .returned v) ∧ ((∃ xs, xs = hurtsL d f t ∧ J xs W') ∨ (∃ pre, (pre <+: hurtsL d f t ∧ pre ≠ []) ∧ Jx pre W')) := by
  refine callsIn_of_wp Tryd.func85 rfl trivial ?_ rfl
  simp only [Tryd.ntmps85, List.size_toArray, List.length_cons, List.length_nil, Nat.reduceAdd, Nat.reduceSub, Array.replicate_succ, Array.replicate_zero, List.push_toArray, List.append_toArray, List.nil_append, List.cons_append]
  have c1 := hq.c1
  gi_wp2
  gi_loopw [5] (fun i wr => ∃ k : Nat, f ≤ k ∧ k ≤ t ∧ i = .int .i64 k ∧ J (hurtsL d f k) wr ∧ KpH wc.heap.size m W wr)
    (fun i _ => t - (intOf i).toNat)
  case atStart => exact ⟨f, Nat.le_refl _, hf, rfl, by rw [hurtsL_self]; exact h0, ⟨Below.refl _ _, fun _ _ _ => rfl⟩⟩
  case round =>
    obtain ⟨k, hk1, hk2, rfl, hJs, hKr⟩ := hrel
    have hqr := hq.kp hKr
    have c2 := hqr.c2
    have c3 := hqr.c3
    have hdr := h.below (hB.trans hKr.bl)
    have his := is_any hdr m hqr.c0 (k : Int)
    by_cases hlt : k < t
    · cases hb : hurtB d (k : Int)
      case true =>
        rw [hb] at his
        have hll := hurtsL_len d f k
        have hYk := fun W1 (hj : J (hurtsL d f k) W1) => hY _ (k : Int) W1 hj (by omega)
        gi_wp2_with (refine ⟨trivial, ?_⟩; gi_at_call 83; refine (callsIn_wide.2 his).mono ?_; rintro e w3 ⟨rfl, hb3⟩; have hk3 := KpH.below (n := wc.heap.size) (m := m) hb3 (by have := hKr.bl.size; omega) (by have := hKr.bl.size; omega); obtain ⟨fn, tmps, assign, body, hy, hR⟩ := hYk w3 (abides_bl hJ hJs hb3))
        refine hR.mono ?_
        rintro e W3 (⟨rfl, hJ3, hk4⟩ | ⟨rfl, hJx3⟩)
        · gi_wp2
          go_roundw
          case rel => exact ⟨k + 1, by omega, by omega, by go_num, by rw [hurtsL_yes hk1 hb]; exact hJ3, (hKr.trans hk3).trans hk4⟩
          case measure => simp [intOf]; omega
        · gi_wp2
          refine bodyPost_ret (results_none rfl _ _ _) rfl ?_
          exact ⟨⟨_, rfl⟩, .inr ⟨_, ⟨by rw [← hurtsL_yes hk1 hb]; exact hurtsL_pre d (by omega) (by omega), by simp⟩, hJx3⟩⟩
      case false =>
        rw [hb] at his
        gi_wp2_with (refine ⟨trivial, ?_⟩; gi_at_call 83; refine (callsIn_wide.2 his).mono ?_; rintro e w3 ⟨rfl, hb3⟩)
        refine ⟨fun _ h => (by cases h), ?_⟩
        gi_wp2
        have hk3 := KpH.below (n := wc.heap.size) (m := m) hb3 (by have := hKr.bl.size; omega) (by have := hKr.bl.size; omega)
        go_roundw
        case rel => exact ⟨k + 1, by omega, by omega, by go_num, by rw [hurtsL_no hk1 hb]; exact abides_bl hJ hJs hb3, hKr.trans hk3⟩
        case measure => simp [intOf]; omega
    · obtain rfl : k = t := by omega
      gi_wp2
      go_end0
      exact ⟨⟨_, rfl⟩, .inl ⟨_, rfl, hJs⟩⟩
end
end Go.Proofs.YtejjneamngkmoaaDoor

namespace Go.Proofs.YtejjneamngkmoaaDoor
open Go.RowKit Go.Shelf

attribute [local go_sem] Oper.semAt_some

theorem box_app {W w1 : World} {n₀ n1 B m : Nat} {t e : TypeId} {size : Nat} {v v' : Value} {k k' : Nat} {xs ys : List Value} {tmp : Obj}
    (hv : Boxed W B t v) (hte : t ≠ e) (hrow : W.ownsRow n1 e size v k xs) (hn1 : n1 ≤ W.heap.size) (hB : n₀ ≤ B) (hm : B < m) (hm4 : m + 4 ≤ n1)
    (hown' : w1.ownsRow n1 e size v' k' ys) (hgrow : (W.alloc tmp).grownBy w1 v.ownBlock) :
    Boxed w1 B t v ∧ Boxed (w1.setCell ⟨B, 0, none⟩ v') B t v' ∧ (w1.setCell ⟨B, 0, none⟩ v').ownsRow n1 e size v' k' ys ∧ KeepsOthers W (w1.setCell ⟨B, 0, none⟩ v') ∧ KpH n₀ m W (w1.setCell ⟨B, 0, none⟩ v') := by
  obtain ⟨h1, h2, _, h4, h5⟩ := hv.appended hte (owns_mono hrow (show n₀ ≤ n1 by omega)) (by omega) hB (owns_mono hown' (show n₀ ≤ n1 by omega)) hgrow
  refine ⟨h1, h2, hown'.kept (grownBy_setCell' w1 B v') (.inr (h1.not_row hte hown').symm), h4, h5, fun k hk1 hk2 => ?_⟩
  have hkw : k < W.heap.size := by omega
  have e1 : (w1.setCell ⟨B, 0, none⟩ v').heap[k]? = w1.heap[k]? := Below.heap_setCell _ _ _ k (by simp only; omega)
  have e2 : w1.heap[k]? = (W.alloc tmp).heap[k]? := hgrow.block k (by simp; omega) (fun e => by
    rcases hrow.2 with ⟨rfl, _⟩ | ⟨g, cap, cur, rfl, hg, _⟩
    · simp [Value.ownBlock] at e
    · simp [Value.ownBlock] at e
      omega)
  exact e1.trans (e2.trans (Below.heap_alloc W tmp k hkw))
theorem infoI : (Tryd.prog.info? 3).map (fun i => (i.zero, i.size, i.bytes)) = some (some (.int .i64 0), 1, 8) := by kernel_rfl
section
variable {B g gp : Nat} {wv : Value} {d : Dk} {w wc : World}
theorem hurts_stops (h : DiskB B g gp wv d wc) (f t m : Nat) (ht : t ≤ 100000) (hf : f ≤ t) {w : World} (hm : wc.heap.size ≤ w.heap.size) (hm4 : m + 4 ≤ w.heap.size) (hB : Below wc.heap.size wc w) (hq : HuB (some ⟨g, 0, none⟩) m f t w) :
    SeqStopsK Fence.wide 2 Tryd.prog 85 #[.pointer (some ⟨m + 1, 0, none⟩), .pointer (some ⟨m + 2, 0, none⟩), .pointer (some ⟨m + 3, 0, none⟩)] (fun x : Int => #[Value.int .i64 x]) (KpH wc.heap.size m) (fun xs => xs = hurtsL d f t) (fun pre => pre <+: hurtsL d f t ∧ pre ≠ []) t w :=
  fun l J Jx W hW hJ _ hY h0 => hurts_in h f t m l ht hf J Jx W (Nat.le_trans hm hW.size) (Nat.le_trans hm4 hW.size) (hB.trans (hW.mono hm)) (hq.below hW) hJ hY h0
set_option maxRecDepth 100000 in
set_option maxHeartbeats 1000000 in
theorem hurt_any (h : DiskB B g gp wv d w) : Calls Tryd.prog 18 #[.pointer (some ⟨g, 0, none⟩)] w fun e w' => (∃ a c, e = .returned (.slice a (hurtsL d 0 d.pl.length).length c) ∧ Row w' a ((hurtsL d 0 d.pl.length).map (Value.int .i64))) ∧ Below w.heap.size w w' := by
  obtain ⟨i0, hi, hz0, hz1, hz2⟩ := info_parts infoI
  have hbA := blw w (Obj.cells #[.slice none 0 0] 41)
  have hA := h.below hbA
  have hsz := dsize hA
  have hnl := h.nl
  have hhu := hurts_any (some ⟨g, 0, none⟩) 0 d.pl.length (w.alloc (Obj.cells #[.slice none 0 0] 41))
  simp only [Int.natCast_zero] at hhu
  refine calls_marks Tryd.func18 rfl ?_
  simp only [Tryd.ntmps18, List.size_toArray, List.length_cons, List.length_nil, Nat.reduceAdd, Nat.reduceSub, Array.replicate_succ, Array.replicate_zero, List.push_toArray, List.append_toArray, List.nil_append, List.cons_append]
  have bO := Boxed.new w 41 (.slice none 0 0)
  go_wp2_with (first
    | (go_at_call 55; refine hsz.mono ?_; rintro e w1 ⟨rfl, rfl⟩)
    | (go_at_call 52; refine hhu.mono ?_; rintro e w2 ⟨rfl, hq, hsz2, hb2⟩; have HSZ := Lib.hid hsz2; clear hsz2))
  have bO2 : Boxed w2 w.heap.size 41 (.slice none 0 0) := tr_bl hb2 bO
  rw [World.size_alloc] at hq hb2
  have hz : w.heap.size + 5 ≤ w2.heap.size := by have := HSZ.out; rw [World.size_alloc] at this; omega
  have hB2 : Below w.heap.size w w2 := hbA.trans (hb2.mono (by omega))
  clear hb2 hhu hsz hbA bO HSZ
  refine wp_range (gf := 85) rfl (enters_of Tryd.func85 (by kernel_rfl) rfl) (hurts_stops h 0 d.pl.length (w.heap.size + 1) (by omega) (by omega) hB2.size (by omega) hB2 hq) KpH.trans (KpH.put hB2.size (by omega)) (fun _ => rfl)
    (fun (pre : List Int) W => (∃ v, Boxed W w.heap.size 41 v ∧ W.ownsRow w2.heap.size 3 1 v pre.length (pre.map (Value.int .i64)) ∧ True) ∧ Below w.heap.size w W ∧ w2.heap.size ≤ W.heap.size)
    (fun _ _ _ => False)
    (OwnFrom.and (Own.from (holdsRow_own w2.heap.size w.heap.size 41 3 1 (fun (pre : List Int) => pre.length) (fun (pre : List Int) => pre.map (Value.int .i64)) (fun _ _ => True)) _) (OwnFrom.and (ownFrom_below (Nat.le_refl _) hB2.size) (fun _ _ _ _ hs hg _ => Nat.le_trans hs hg.size)))
    (fun _ _ _ _ _ hs _ _ => hs)
    ⟨⟨_, bO2, World.ownsRow_nil _ _ _ _, trivial⟩, hB2, Nat.le_refl _⟩
    (fun x => { tmps := #[.pointer (some ⟨g, 0, none⟩), undef, .slice none 0 0, .pointer (some ⟨w.heap.size, 0, none⟩), .int .i64 x, .pointer (some ⟨g, 0, none⟩), .pointer (some ⟨g, 0, none⟩), .int .i64 d.pl.length, .func (.func 85) #[] #[.pointer (some ⟨w.heap.size + 1 + 1, 0, none⟩), .pointer (some ⟨w.heap.size + 1 + 2, 0, none⟩), .pointer (some ⟨w.heap.size + 1 + 3, 0, none⟩)], .int .i64 x, undef, undef, undef, undef, undef], defers := [] }) ?assign ?body ?done ?stop
  case assign =>
    intro l x W K hK
    gi_wp2
    exact hK
  case body =>
    rintro l pre x W ⟨⟨v, hv, hrow, _⟩, hB, hsW⟩ hlt
    have hc := hv.cell
    gi_wp2_with (gi_at_builtin; refine wpListIn_append_own _ rfl _ _ 41 rfl w2.heap.size 3 i0 (.int .i64 0) 1 8 Tryd.underlying41 hi hz0 hz1 hz2 rfl (by decide) _ _ _ rfl (hrow.alloc _) ⟨W.heap.size, 0, none⟩ 1 1 [.int .i64 x] rfl rfl (cell_one_new _ _ _) (by simp [Value.oneCell']) (by simp [maxLen]; omega) (by omega) (by simp; omega) ?_; intro v' w1 hown' hgrow _; obtain ⟨g', cap', rfl⟩ := ownsRow_succ hown'; obtain ⟨hv1, hv2, hr2, hk2, hb2⟩ := box_app (n₀ := w.heap.size) (m := w.heap.size + 1) hv (by decide) hrow hsW (Nat.le_refl _) (by omega) (by omega) hown' hgrow; have hc1 := hv1.cell; have hf1 := hv1.frozen)
    exact ⟨hk2.from _, hb2, ⟨_, hv2, by simpa using hr2, trivial⟩, hB.trans hb2.bl, Nat.le_trans hsW hk2.size⟩
  case done =>
    rintro D ys W hD rfl ⟨⟨v, hv, hrow, _⟩, hB, hsW⟩ hK
    have hc := hv.cell
    go_wp2
    refine marks_ret hK (results_tmp rfl _ _ _) ?_
    have hro := ownsRow_putObj hrow (Obj.deferred none) hK rfl
    have hlen : (hurtsL d 0 d.pl.length).length = (hurtsL d 0 d.pl.length).length := rfl
    obtain ⟨a, c, rfl, hR, _⟩ := Row.of_owns hro
    exact ⟨⟨a, c, rfl, hR⟩, below_mark hB (by omega)⟩
  case stop =>
    rintro D c pre W _ _ h _
    exact h.elim
end
end Go.Proofs.YtejjneamngkmoaaDoor

namespace Go.Proofs.YtejjneamngkmoaaDoor
open Go.RowKit

set_option maxRecDepth 100000 in
theorem asked_any (p : Value) (n : Nat) (w : World) (h : DiskN w p n) (rep reg pla : Int) : Calls Tryd.prog 50 #[p, .int .i64 rep, .int .i64 reg, .int .i64 pla] w fun e w' => e = .returned (.int .i64 (askN n rep reg pla)) ∧ Below w.heap.size w w' := by
  have hsz := size_any p n w h
  have hf := first_any reg pla
  unfold askN
  generalize firstN reg pla = x at *
  by_cases h0 : n = 0
  · subst h0
    rw [if_pos rfl]
    go_enter Tryd.func50, Tryd.ntmps50
    go_wp2_with (first
      | (go_at_call 55; refine hsz.mono ?_; rintro e w1 ⟨rfl, rfl⟩)
      | (go_at_call 82; refine (all_any _).mono ?_; rintro e w2 ⟨rfl, hb2⟩)
      | (go_at_call 32; refine (hf _).mono ?_; rintro e w3 ⟨rfl, hb3⟩))
    go_ret
    exact ⟨rfl, Below.refl _ _⟩
  · rw [if_neg h0]
    have e0 : ((n : Int) == 0) = false := by rw [beq_eq_false_iff_ne]; omega
    by_cases h1 : n < 156
    · rw [if_pos (.inl h1)]
      have i1 : (n : Int) < 156 := by omega
      clear h0 h1
      go_enter Tryd.func50, Tryd.ntmps50
      go_wp2_with (first
        | (go_at_call 55; refine hsz.mono ?_; rintro e w1 ⟨rfl, rfl⟩)
        | (go_at_call 82; refine (all_any _).mono ?_; rintro e w2 ⟨rfl, hb2⟩)
        | (go_at_call 32; refine (hf _).mono ?_; rintro e w3 ⟨rfl, hb3⟩))
      go_ret
      exact ⟨rfl, hb2⟩
    · have i1 : ¬ (n : Int) < 156 := by omega
      by_cases h2 : rep < 0
      · rw [if_pos (.inr (.inl h2))]
        clear h0 h1
        go_enter Tryd.func50, Tryd.ntmps50
        go_wp2_with (first
          | (go_at_call 55; refine hsz.mono ?_; rintro e w1 ⟨rfl, rfl⟩)
          | (go_at_call 82; refine (all_any _).mono ?_; rintro e w2 ⟨rfl, hb2⟩)
          | (go_at_call 32; refine (hf _).mono ?_; rintro e w3 ⟨rfl, hb3⟩))
        go_ret
        exact ⟨rfl, hb2⟩
      · by_cases h3 : 7 ≤ rep
        · rw [if_pos (.inr (.inr (.inl h3)))]
          clear h0 h1
          go_enter Tryd.func50, Tryd.ntmps50
          go_wp2_with (first
            | (go_at_call 55; refine hsz.mono ?_; rintro e w1 ⟨rfl, rfl⟩)
            | (go_at_call 82; refine (all_any _).mono ?_; rintro e w2 ⟨rfl, hb2⟩)
            | (go_at_call 32; refine (hf _).mono ?_; rintro e w3 ⟨rfl, hb3⟩))
          go_ret
          exact ⟨rfl, hb2⟩
        · by_cases h4 : x < 0
          · rw [if_pos (.inr (.inr (.inr h4)))]
            clear h0 h1
            have hf := fun w => hf w
            go_enter Tryd.func50, Tryd.ntmps50
            go_wp2_with (first
              | (go_at_call 55; refine hsz.mono ?_; rintro e w1 ⟨rfl, rfl⟩)
              | (go_at_call 82; refine (all_any _).mono ?_; rintro e w2 ⟨rfl, hb2⟩)
              | (go_at_call 32; refine (hf _).mono ?_; rintro e w3 ⟨rfl, hb3⟩))
            go_ret
            exact ⟨rfl, hb2.trans (hb3.mono hb2.size)⟩
          · rw [if_neg (by omega)]
            clear h0 h1
            go_enter Tryd.func50, Tryd.ntmps50
            go_wp2_with (first
              | (go_at_call 55; refine hsz.mono ?_; rintro e w1 ⟨rfl, rfl⟩)
              | (go_at_call 82; refine (all_any _).mono ?_; rintro e w2 ⟨rfl, hb2⟩)
              | (go_at_call 32; refine (hf _).mono ?_; rintro e w3 ⟨rfl, hb3⟩))
            go_ret
            exact ⟨rfl, hb2.trans (hb3.mono hb2.size)⟩
end Go.Proofs.YtejjneamngkmoaaDoor

namespace Go.Proofs.YtejjneamngkmoaaDoor

/-! Without faults nothing is hurt. -/
def CleanL (l : List Pl) : Prop := ∀ p ∈ l, p.rest = p.meant ∧ p.lost = false
theorem there_pl {d : Dk} {s : Int} (h : thereD d s = 0) : ∃ p, d.pl[s.toNat]? = some p ∧ d.pl.getD s.toNat zeroPl = p ∧ p ∈ d.pl := by
  have hlt : s.toNat < d.pl.length := by
    unfold thereD at h
    split at h
    · cases h
    · split at h
      · cases h
      · omega
  have e := List.getElem?_eq_getElem hlt
  exact ⟨_, e, by rw [List.getD_eq_getElem?_getD, e]; rfl, List.getElem_mem hlt⟩
theorem hurt_pl {d : Dk} {s : Int} {p : Pl} (h : thereD d s = 0) (hp : d.pl.getD s.toNat zeroPl = p) : hurtB d s = (p.lost || !decide (p.rest = p.meant)) := by
  unfold hurtB restD meantD
  simp only [h, ne_eq, not_true_eq_false, if_false, hp]
  cases hl : p.lost <;> simp
theorem hurt_none {d : Dk} {s : Int} (h : thereD d s ≠ 0) : hurtB d s = false := by
  unfold hurtB restD
  rw [if_pos h]
  simp [h]
theorem clean_hurt {d : Dk} (h : CleanL d.pl) (s : Int) : hurtB d s = false := by
  by_cases h0 : thereD d s = 0
  · obtain ⟨p, h1, h2, h3⟩ := there_pl h0
    rw [hurt_pl h0 h2]
    obtain ⟨h4, h5⟩ := h p h3
    rw [h4, h5]
    simp
  · exact hurt_none h0
theorem clean_set {l : List Pl} (h : CleanL l) (k : Nat) (b : List UInt8) : CleanL (l.set k ⟨b, b, false⟩) := by
  intro p hp
  rcases List.mem_or_eq_of_mem_set hp with h1 | rfl
  · exact h p h1
  · exact ⟨rfl, rfl⟩
theorem clean_thru : ∀ (ws : List (List UInt8 × Nat)) (pl : List Pl) (k : Nat) (is : Nat → Bool), CleanL pl → CleanL (thruD pl ws k is)
  | [], _, _, _, h => h
  | (b, s) :: l, pl, k, is, h => by
    unfold thruD
    refine clean_thru l _ (k + 1) is ?_
    split
    · exact clean_set h s b
    · exact h
theorem spend_pl (d : Dk) : (spendD d).1.pl = d.pl ∧ (spendD d).1.waits = d.waits := by
  unfold spendD
  split
  · exact ⟨rfl, rfl⟩
  · split <;> exact ⟨rfl, rfl⟩
theorem write_pl (d : Dk) (s : Int) (b : List UInt8) : (writeD d s b).1.pl = d.pl ∧ (writeD d s b).1.waits.length ≤ d.waits.length + 1 := by
  obtain ⟨h1, h2⟩ := spend_pl d
  unfold writeD
  split
  · exact ⟨rfl, by simp⟩
  · split
    · exact ⟨rfl, by simp⟩
    · split
      · exact ⟨h1, by rw [h2]; omega⟩
      · exact ⟨h1, by simp [h2]⟩
theorem flush_pl (d : Dk) : ((flushD d).1.pl = d.pl ∧ (flushD d).1.waits = d.waits) ∨ ((flushD d).1.pl = thruD d.pl d.waits 0 (fun _ => true) ∧ (flushD d).1.waits = []) := by
  obtain ⟨h1, h2⟩ := spend_pl d
  unfold flushD
  split
  · exact .inl ⟨rfl, rfl⟩
  · split
    · exact .inl ⟨h1, h2⟩
    · exact .inr ⟨by simp [h1, h2], rfl⟩
theorem crash_pl (d : Dk) (keep : List Bool) : ((crashD d keep).1.pl = d.pl ∧ (crashD d keep).1.waits = d.waits) ∨ ((crashD d keep).1.pl = thruD d.pl d.waits 0 (keepB keep) ∧ (crashD d keep).1.waits = []) := by
  unfold crashD
  split
  · exact .inl ⟨rfl, rfl⟩
  · split
    · exact .inl ⟨rfl, rfl⟩
    · exact .inr ⟨rfl, rfl⟩
theorem start_pl (d : Dk) : (startD d).1.pl = d.pl ∧ (startD d).1.waits = d.waits := by
  unfold startD
  split
  · exact ⟨rfl, rfl⟩
  · split <;> exact ⟨rfl, rfl⟩
theorem power_pl (d : Dk) (n : Int) : (powerD d n).1.pl = d.pl ∧ (powerD d n).1.waits = d.waits := by
  unfold powerD
  split
  · exact ⟨rfl, rfl⟩
  · split <;> exact ⟨rfl, rfl⟩
/-! Acts. -/
def sectorL (n : Int) (bytes : List UInt8) : List UInt8 := if 0 < bytes.length then bytes else List.replicate 64 (UInt8.ofNat (n % 256).toNat)
def do5 (d : Dk) (k : Nat) (s n : Int) (bytes : List UInt8) (keep : List Bool) : Dk × Int :=
  if k % 9 = 0 then flushD d else if k % 9 = 1 then crashD d keep else if k % 9 = 2 then startD d else if k % 9 = 3 then flipD d s n else if k % 9 = 4 then loseD d s else if k % 9 = 5 then strayD d s n else if k % 9 = 8 then powerD d n else writeD d s (sectorL n bytes)
/-- What acts keep: how many sectors; how many writes wait. -/
structure Wk (d : Dk) (n : Nat) : Prop where
  len : d.pl.length = 156
  wt : d.waits.length ≤ n
theorem thru_len2 (pl : List Pl) (ws : List (List UInt8 × Nat)) (k : Nat) (is : Nat → Bool) : (thruD pl ws k is).length = pl.length := thru_len ws pl k is
theorem Wk.of {d d' : Dk} {n : Nat} (h : Wk d n) (h1 : d'.pl.length = d.pl.length) (h2 : d'.waits.length ≤ d.waits.length + 1) : Wk d' (n + 1) := ⟨h1.trans h.len, by have := h.wt; omega⟩
theorem flip_pl (d : Dk) (s n : Int) : (flipD d s n).1.pl.length = d.pl.length ∧ (flipD d s n).1.waits = d.waits ∧ ∀ j : Int, meantD (flipD d s n).1 j = meantD d j := by
  unfold flipD
  split
  · exact ⟨rfl, rfl, fun _ => rfl⟩
  · split
    · exact ⟨rfl, rfl, fun _ => rfl⟩
    · refine ⟨by simp, rfl, fun j => ?_⟩
      unfold meantD thereD
      simp only [List.length_modify, List.getD_eq_getElem?_getD, List.getElem?_modify]
      congr 2
      cases hj : d.pl[j.toNat]? with
      | none => rfl
      | some p => by_cases he : s.toNat = j.toNat <;> simp [he]
theorem lose_pl (d : Dk) (s : Int) : (loseD d s).1.pl.length = d.pl.length ∧ (loseD d s).1.waits = d.waits ∧ ∀ j : Int, meantD (loseD d s).1 j = meantD d j := by
  unfold loseD
  split
  · exact ⟨rfl, rfl, fun _ => rfl⟩
  · refine ⟨by simp, rfl, fun j => ?_⟩
    unfold meantD thereD
    simp only [List.length_modify, List.getD_eq_getElem?_getD, List.getElem?_modify]
    congr 2
    cases hj : d.pl[j.toNat]? with
    | none => rfl
    | some p => by_cases he : s.toNat = j.toNat <;> simp [he]
theorem stray_pl (d : Dk) (s t : Int) : (strayD d s t).1.pl.length = d.pl.length ∧ (strayD d s t).1.waits = d.waits ∧ ∀ j : Int, meantD (strayD d s t).1 j = meantD d j := by
  unfold strayD
  split
  · exact ⟨rfl, rfl, fun _ => rfl⟩
  · split
    · exact ⟨rfl, rfl, fun _ => rfl⟩
    · refine ⟨by simp, rfl, fun j => ?_⟩
      unfold meantD thereD
      simp only [List.length_modify, List.getD_eq_getElem?_getD, List.getElem?_modify]
      congr 2
      cases hj : d.pl[j.toNat]? with
      | none => rfl
      | some p => by_cases he : t.toNat = j.toNat <;> simp [he]
theorem do5_wk {d : Dk} {m : Nat} (h : Wk d m) (k : Nat) (s n : Int) (bytes : List UInt8) (keep : List Bool) : Wk (do5 d k s n bytes keep).1 (m + 1) := by
  unfold do5
  split
  · rcases flush_pl d with ⟨h1, h2⟩ | ⟨h1, h2⟩
    · exact h.of (by rw [h1]) (by rw [h2]; omega)
    · exact h.of (by rw [h1, thru_len2]) (by rw [h2]; simp)
  · split
    · rcases crash_pl d keep with ⟨h1, h2⟩ | ⟨h1, h2⟩
      · exact h.of (by rw [h1]) (by rw [h2]; omega)
      · exact h.of (by rw [h1, thru_len2]) (by rw [h2]; simp)
    · split
      · obtain ⟨h1, h2⟩ := start_pl d
        exact h.of (by rw [h1]) (by rw [h2]; omega)
      · split
        · obtain ⟨h1, h2, _⟩ := flip_pl d s n
          exact h.of h1 (by rw [h2]; omega)
        · split
          · obtain ⟨h1, h2, _⟩ := lose_pl d s
            exact h.of h1 (by rw [h2]; omega)
          · split
            · obtain ⟨h1, h2, _⟩ := stray_pl d s n
              exact h.of h1 (by rw [h2]; omega)
            · split
              · obtain ⟨h1, h2⟩ := power_pl d n
                exact h.of (by rw [h1]) (by rw [h2]; omega)
              · obtain ⟨h1, h2⟩ := write_pl d s (sectorL n bytes)
                exact h.of (by rw [h1]) h2
theorem do5_clean {d : Dk} (h : CleanL d.pl) {k : Nat} (hk : k % 9 < 3 ∨ 5 < k % 9) (s n : Int) (bytes : List UInt8) (keep : List Bool) : CleanL (do5 d k s n bytes keep).1.pl := by
  unfold do5
  split
  · rcases flush_pl d with ⟨h1, _⟩ | ⟨h1, _⟩
    · rw [h1]; exact h
    · rw [h1]; exact clean_thru _ _ _ _ h
  · split
    · rcases crash_pl d keep with ⟨h1, _⟩ | ⟨h1, _⟩
      · rw [h1]; exact h
      · rw [h1]; exact clean_thru _ _ _ _ h
    · split
      · rw [(start_pl d).1]; exact h
      · rw [if_neg (by omega), if_neg (by omega), if_neg (by omega)]
        split
        · rw [(power_pl d n).1]; exact h
        · rw [(write_pl d s _).1]; exact h
theorem do5_meant {d : Dk} {k : Nat} (hk : 3 ≤ k % 9 ∧ k % 9 ≤ 5) (s n : Int) (bytes : List UInt8) (keep : List Bool) (j : Int) : meantD (do5 d k s n bytes keep).1 j = meantD d j := by
  unfold do5
  rw [if_neg (by omega), if_neg (by omega), if_neg (by omega)]
  split
  · exact (flip_pl d s n).2.2 j
  · split
    · exact (lose_pl d s).2.2 j
    · rw [if_pos (by omega)]
      exact (stray_pl d s n).2.2 j
theorem clean_nil {d : Dk} (h : CleanL d.pl) (f t : Nat) : hurtsL d f t = [] := hurtsL_nil fun s _ _ => clean_hurt h s
theorem clean_place {d : Dk} (h : CleanL d.pl) (rep reg pla : Int) : (placeG d rep reg pla).1 = false ∧ (placeG d rep reg pla).2.1 = false := by
  unfold placeG
  split
  · exact ⟨rfl, rfl⟩
  · simp [isHurt, clean_nil h]
theorem clean_seen {d : Dk} (h : CleanL d.pl) (hl : 156 ≤ d.pl.length) {rep : Int} (hr : 0 ≤ rep ∧ rep ≤ 6) : seenG d rep = (true, 0) := by
  have ha : askG d rep 1 0 = 0 := by
    unfold askG askN
    rw [if_neg (by omega), if_neg]
    rintro (h1 | h1 | h1 | h1)
    · omega
    · omega
    · omega
    · exact absurd h1 (by decide)
  unfold seenG
  rw [if_neg (by simpa using ha)]
  congr 1
  unfold seenR seenP
  rw [List.all_eq_true]
  intro r _
  rw [List.all_eq_true]
  intro p _
  obtain ⟨h1, h2⟩ := clean_place h rep ((r : Nat) + 1 : Int) p
  simp only [Int.natCast_add, Int.natCast_one]
  rw [h1, h2]
  rfl
theorem new_clean (n : Nat) : CleanL (newDk n).pl := fun p hp => by
  rw [(List.mem_replicate.1 hp).2]
  exact ⟨rfl, rfl⟩
end Go.Proofs.YtejjneamngkmoaaDoor

namespace Go.Proofs.YtejjneamngkmoaaDoor
open Go.RowKit Go.Shelf

attribute [local go_sem] Oper.semAt_some

theorem DiskB.dn {B g gp : Nat} {wv : Value} {d : Dk} {w : World} (h : DiskB B g gp wv d w) : DiskN w (.pointer (some ⟨g, 0, none⟩)) d.pl.length := .inr ⟨g, _, _, rfl, h.c0⟩
theorem tg_new (t : Tg) : (tgV t).cells = #[.int .i64 t.rep, .int .i64 t.reg, .int .i64 t.pla, .int .i64 t.idx, .int .i64 t.inc] ∧ (#[Value.int .i64 t.rep, .int .i64 t.reg, .int .i64 t.pla, .int .i64 t.idx, .int .i64 t.inc]).size = 5 ∧ ∀ u ∈ (#[Value.int .i64 t.rep, .int .i64 t.reg, .int .i64 t.pla, .int .i64 t.idx, .int .i64 t.inc]).toList, u.oneCell' = true := ⟨rfl, rfl, by simp [Value.oneCell']⟩
theorem restD_len {B g gp : Nat} {wv : Value} {d : Dk} {w : World} (h : DiskB B g gp wv d w) (s : Int) : (restD d s).1.length ≤ 64 := by
  unfold restD
  split
  · simp
  · rename_i h0
    split
    · simp
    · obtain ⟨p, _, h2, h3⟩ := there_pl (d := d) (s := s) (by simpa using h0)
      rw [h2]
      have := (h.ok p h3).1
      simp only
      omega
theorem allR_len {B g gp : Nat} {wv : Value} {d : Dk} {w : World} (h : DiskB B g gp wv d w) (a n : Nat) : (allR d a n).length ≤ 64 * n := by
  induction n with
  | zero => simp [allR, allG]
  | succ n ih =>
    unfold allR at ih ⊢
    rw [allG_succ, List.length_append]
    have := restD_len h ((a + n : Nat) : Int)
    (try simp only)
    omega
set_option maxRecDepth 100000 in
theorem place_err (p : Value) (n : Nat) (w : World) (h : DiskN w p n) (rep reg pla : Int) (ha : askN n rep reg pla ≠ 0) : Calls Tryd.prog 15 #[p, .int .i64 rep, .int .i64 reg, .int .i64 pla] w fun e w' => e = .returned (.tuple #[.bool false, .bool false, .int .i64 (askN n rep reg pla)]) ∧ Below w.heap.size w w' := by
  have hk := asked_any p n w h rep reg pla
  generalize askN n rep reg pla = x at *
  have e0 : (x != 0) = true := by rw [bne_iff_ne]; exact ha
  refine calls_marks Tryd.func15 rfl ?_
  simp only [Tryd.ntmps15, List.size_toArray, List.length_cons, List.length_nil, Nat.reduceAdd, Nat.reduceSub, Array.replicate_succ, Array.replicate_zero, List.push_toArray, List.append_toArray, List.nil_append, List.cons_append]
  go_wp2_with (go_at_call 50; refine hk.mono ?_; rintro e w1 ⟨rfl, hb1⟩)
  refine marks_end (results_tmp3 rfl _ _ _) ?_
  exact ⟨rfl, hb1⟩
set_option maxRecDepth 100000 in
set_option maxHeartbeats 2000000 in
theorem place_ok {B g gp : Nat} {wv : Value} {d : Dk} {w : World} (h : DiskB B g gp wv d w) (rep reg pla : Int) (ha : askG d rep reg pla = 0) : Calls Tryd.prog 15 #[.pointer (some ⟨g, 0, none⟩), .int .i64 rep, .int .i64 reg, .int .i64 pla] w fun e w' => e = .returned (.tuple #[.bool (placeG d rep reg pla).1, .bool (placeG d rep reg pla).2.1, .int .i64 (placeG d rep reg pla).2.2]) ∧ Below w.heap.size w w' := by
  have hfa := ask_first ha
  have hk := asked_any _ _ w h.dn rep reg pla
  have hfi := first_any reg pla
  have hwi := wide_any reg
  unfold placeG
  rw [if_neg (by simpa using ha)]
  unfold askG at ha
  rw [ha] at hk
  obtain ⟨f, hf⟩ : ∃ f : Nat, firstN reg pla = f := ⟨(firstN reg pla).toNat, by omega⟩
  obtain ⟨n, hn⟩ : ∃ n : Nat, wideN reg = n := ⟨(wideN reg).toNat, by omega⟩
  rw [hf] at hfi hfa ⊢
  rw [hn] at hwi hfa ⊢
  simp only [Int.toNat_natCast]
  obtain ⟨_, hp1, hp2, _, _, _, _, _, hfn, hn1, hn2⟩ := hfa
  have hfn' : f + n ≤ 156 := by omega
  have hn2' : n ≤ 2 := by omega
  clear ha hf hn hfn hn2
  obtain ⟨st, tg, body, hr⟩ : ∃ st tg body, mineF (allR d f n) rep reg pla = (st, tg, body) := ⟨_, _, _, rfl⟩
  obtain ⟨go, hgo⟩ : ∃ go, goneG d f n = go := ⟨_, rfl⟩
  simp only [hr, hgo]
  have HR := Lib.hid hr
  have HGO := Lib.hid hgo
  clear hr hgo
  by_cases hL : hurtsL d f (f + n) = []
  case pos =>
    have hH : isHurt d f n = false := by unfold isHurt; rw [hL]; rfl
    rw [hH, Bool.false_and]
    clear hH
    refine calls_marks Tryd.func15 rfl ?_
    simp only [Tryd.ntmps15, List.size_toArray, List.length_cons, List.length_nil, Nat.reduceAdd, Nat.reduceSub, Array.replicate_succ, Array.replicate_zero, List.push_toArray, List.append_toArray, List.nil_append, List.cons_append]
    refine wp_seq_k (fun K hK => ?_)
    have HK := Lib.hid hK
    clear hK
    go_wp2
    refine HK.out _ _ ?_
    clear HK
    refine wp_seq_k (fun K hK => ?_)
    have HK := Lib.hid hK
    clear hK
    go_wp2_with (go_at_call 50; refine hk.mono ?_; rintro e w1 ⟨rfl, hb1⟩)
    refine HK.out _ _ ?_
    clear HK
    refine wp_seq_k (fun K hK => ?_)
    have HK := Lib.hid hK
    clear hK
    go_wp2_with (go_at_call 32; refine (hfi _).mono ?_; rintro e w2 ⟨rfl, hb2⟩)
    refine HK.out _ _ ?_
    clear HK
    refine wp_seq_k (fun K hK => ?_)
    have HK := Lib.hid hK
    clear hK
    go_wp2_with (go_at_call 51; refine (hwi _).mono ?_; rintro e w3 ⟨rfl, hb3⟩)
    refine HK.out _ _ ?_
    clear HK
    have hb4 := hb1.trans ((hb2.trans (hb3.mono hb2.size)).mono hb1.size)
    clear hb1 hb2 hb3 hk hfi hwi
    refine wp_seq_k (fun K hK => ?_)
    have HK := Lib.hid hK
    clear hK
    go_wp2
    refine HK.out _ _ ?_
    clear HK
    have hb5 := hb4.alloc hb4.size (Obj.cells #[.bool false] 4)
    have bH := Boxed.new w3 4 (.bool false)
    have hq1 := hb4.size
    have hq2 : w3.heap.size < (w3.alloc (Obj.cells #[.bool false] 4)).heap.size := by simp
    clear hb4
    generalize w3.alloc (Obj.cells #[.bool false] 4) = w5 at *
    generalize w3.heap.size = q at *
    have hhu := hurts_any (some ⟨g, 0, none⟩) f (f + n) w5
    simp only [Int.natCast_add] at hhu
    refine wp_seq_k (fun K hK => ?_)
    have HK := Lib.hid hK
    clear hK
    go_wp2_with (go_at_call 52; refine hhu.mono ?_; rintro e w6 ⟨rfl, hq, hsz2, hb6⟩; have HSZ := Lib.hid hsz2; clear hsz2)
    have bH6 : Boxed w6 q 4 (.bool false) := tr_bl hb6 bH
    have hz : w5.heap.size + 4 ≤ w6.heap.size := by have := HSZ.out; omega
    have hB6 : Below w.heap.size w w6 := hb5.trans (hb6.mono hb5.size)
    clear hb6 hhu hb5 bH HSZ
    have hz5 := hB6.size
    refine wp_range_skip (gf := 85) rfl (enters_of Tryd.func85 (by kernel_rfl) rfl) (hurts_stops h f (f + n) w5.heap.size (by omega) (by omega) hB6.size (by omega) hB6 hq) KpH.trans (KpH.put hB6.size (by omega)) (fun _ => rfl)
      (fun (pre : List Int) W => pre = [] ∧ Boxed W q 4 (.bool false) ∧ Below w.heap.size w W ∧ w6.heap.size ≤ W.heap.size)
      (fun c _ W => c = .exit 0 ∧ Boxed W q 4 (.bool true) ∧ Below w.heap.size w W ∧ w6.heap.size ≤ W.heap.size)
      ?_ ?_ ⟨rfl, bH6, hB6, Nat.le_refl _⟩ ?_ ?_ ?_
    · exact fun _ _ _ _ hs hg hr => ⟨hs.1, hs.2.1.kept hg (fun e => by have := (hr _ e.symm).1; omega), hs.2.2.1.grown hg (by omega) (fun k e => by have := (hr k e).1; omega), Nat.le_trans hs.2.2.2 hg.size⟩
    · exact fun _ _ _ _ _ hs hg hr => ⟨hs.1, hs.2.1.kept hg (fun e => by have := (hr _ e.symm).1; omega), hs.2.2.1.grown hg (by omega) (fun k e => by have := (hr k e).1; omega), Nat.le_trans hs.2.2.2 hg.size⟩
    · rintro l pre x W ⟨rfl, hbx, hB, hsW⟩ _
      have hc := hbx.cell
      have hf := hbx.frozen
      gi_wp2
      exact ⟨(KeepsOthers.setCell _ _ _).from _, rfl, hbx.set _, hB.setCell (p := ⟨q, 0, none⟩) hq1 _, by simpa [World.setCell] using hsW⟩
    · rintro D xs W hD rfl ⟨_, hbx, hB, hsW⟩ hK
      (try simp only [Exit.inBlock]); (try simp only [Exit.then])
      refine HK.out _ _ ?_
      clear HK
      have hdW := h.below hB
      have hcW := hbx.cell
      refine wp_seq_k (fun K hK => ?_)
      have HK := Lib.hid hK
      clear hK
      go_wp2
      refine HK.out _ _ ?_
      clear HK
      refine wp_seq_k (fun K hK => ?_)
      have HK := Lib.hid hK
      clear hK
      go_wp2
      go_loopw [17, 16, 15, 18, 19, 20] (fun s all gn _ _ _ wr => ∃ (j : Nat) (v : Value), j ≤ n ∧ s = .int .i64 ((f : Int) + (j : Int)) ∧ all = v ∧ wr.ownsRow W.heap.size 5 1 v (allR d f j).length (bys (allR d f j)) ∧ gn = .bool (goneG d f j) ∧ Below W.heap.size W wr) (fun s _ _ _ _ _ _ => f + n - (intOf s).toNat)
      case atStart => exact ⟨0, _, by omega, by simp, rfl, World.ownsRow_nil _ _ _ _, rfl, Below.refl _ _⟩
      case round =>
        obtain ⟨j, v, hj, rfl, rfl, hown, rfl, hbr⟩ := hrel
        have hdr := hdW.below hbr
        by_cases hlt : j < n
        case pos =>
          have hil : (f : Int) + (j : Int) < (f : Int) + (n : Int) := by omega
          have hre := rest_sl hdr ((f + j : Nat) : Int)
          have hle := allR_len h f j
          have hrl := restD_len h ((f + j : Nat) : Int)
          have hsn := allG_succ (fun s => (restD d s).1) f j
          have hgs := goneG_succ d f j
          change allR d f (j + 1) = allR d f j ++ _ at hsn
          (try simp only at hsn)
          simp only [Int.natCast_add] at hre hrl hsn hgs
          generalize restD d ((f : Int) + (j : Int)) = r at *
          obtain ⟨rl, lost, er⟩ := r
          (try simp only at hre)
          (try simp only at hrl)
          (try simp only at hsn)
          (try simp only at hgs)
          have HSN := Lib.hid hsn
          have HGS := Lib.hid hgs
          clear hsn hgs
          generalize hal : allR d f j = al at *
          generalize hgo : goneG d f j = go at *
          clear hal hgo
          cases go
          all_goals
            go_wp2_with (first
              | (go_at_call 31; refine hre.mono ?_; rintro e w8 ⟨⟨a8, c8, rfl, s8⟩, hb8⟩; have ho8 := owns_bl hown hb8; have hb9 := hbr.trans (hb8.mono hbr.size); have hr8 := s8.row)
              | (at_builtin; refine wpList_append_row rfl _ _ 38 5 elByte rfl W.heap.size _ al.length (bys al) rfl ho8 a8 rl.length c8 (bys rl) rfl (by rw [bys_len]; omega) hr8 bys_one (by omega) (by decide) hb9.size ?_; intro v9 w9 ho9 hb10))
            rw [← bys_app] at ho9
            go_roundw
            case rel => exact ⟨j + 1, v9, by omega, by simp; omega, rfl, by rw [HSN.out, List.length_append]; exact ho9, by rw [HGS.out]; simp, hb9.trans hb10⟩
            case measure => simp [intOf]; omega
        case neg =>
          obtain rfl : j = n := by omega
          obtain ⟨a9, c9, rfl, s9⟩ := SlB.of_owns hown
          have hmi := mine_any a9 c9 (allR d f j) rep reg pla wr s9 (by have := allR_len h f j; omega)
          rw [HR.out] at hmi
          have hcr := cell_later hbr hcW
          have hKr := tr_bl hbr hK
          rw [HGO.out]
          go_wp2
          refine HK.out _ _ ?_
          clear HK
          refine wp_seq_k (fun K hK => ?_)
          have HK := Lib.hid hK
          clear hK
          go_wp2_with (first
                | (go_at_call 33; refine hmi.mono ?_; rintro e w8 ⟨⟨a8, c8, rfl, ho8⟩, hb8⟩)
                | ((first | (with_reducible refine wpList_stNew 37 _ _ ?_) | (with_reducible refine wp_stNew 37 _ _ ?_)); refine ⟨_, _, ⟨Tryd.sizeOf37, rfl, tg_new _⟩, rfl, ?_⟩))
          refine HK.out _ _ ?_
          clear HK
          have hb9 := hb8.alloc hb8.size (Obj.cells #[.int .i64 tg.rep, .int .i64 tg.reg, .int .i64 tg.pla, .int .i64 tg.idx, .int .i64 tg.inc] 37)
          have hcx := cell_later hb9 hcr
          have hKx := tr_bl hb9 hKr
          have hbx := hB.trans ((hbr.trans (hb9.mono hbr.size)).mono hB.size)
          generalize w8.alloc (Obj.cells #[.int .i64 tg.rep, .int .i64 tg.reg, .int .i64 tg.pla, .int .i64 tg.idx, .int .i64 tg.inc] 37) = w9 at *
          go_wp2
          refine marks_ret hKx (results_tmp3 rfl _ _ _) ?_
          exact ⟨rfl, below_mark hbx (by omega)⟩
    · rintro D c pre W hD ⟨hp, hne⟩ _ _
      rw [hL] at hp
      exact absurd (List.prefix_nil.1 hp) hne
  case neg =>
    have hH : isHurt d f n = true := by
      unfold isHurt
      cases hh : hurtsL d f (f + n)
      · exact absurd hh hL
      · rfl
    rw [hH, Bool.true_and]
    clear hH
    cases go
    case true =>
      rw [Bool.true_or]
      refine calls_marks Tryd.func15 rfl ?_
      simp only [Tryd.ntmps15, List.size_toArray, List.length_cons, List.length_nil, Nat.reduceAdd, Nat.reduceSub, Array.replicate_succ, Array.replicate_zero, List.push_toArray, List.append_toArray, List.nil_append, List.cons_append]
      refine wp_seq_k (fun K hK => ?_)
      have HK := Lib.hid hK
      clear hK
      go_wp2
      refine HK.out _ _ ?_
      clear HK
      refine wp_seq_k (fun K hK => ?_)
      have HK := Lib.hid hK
      clear hK
      go_wp2_with (go_at_call 50; refine hk.mono ?_; rintro e w1 ⟨rfl, hb1⟩)
      refine HK.out _ _ ?_
      clear HK
      refine wp_seq_k (fun K hK => ?_)
      have HK := Lib.hid hK
      clear hK
      go_wp2_with (go_at_call 32; refine (hfi _).mono ?_; rintro e w2 ⟨rfl, hb2⟩)
      refine HK.out _ _ ?_
      clear HK
      refine wp_seq_k (fun K hK => ?_)
      have HK := Lib.hid hK
      clear hK
      go_wp2_with (go_at_call 51; refine (hwi _).mono ?_; rintro e w3 ⟨rfl, hb3⟩)
      refine HK.out _ _ ?_
      clear HK
      have hb4 := hb1.trans ((hb2.trans (hb3.mono hb2.size)).mono hb1.size)
      clear hb1 hb2 hb3 hk hfi hwi
      refine wp_seq_k (fun K hK => ?_)
      have HK := Lib.hid hK
      clear hK
      go_wp2
      refine HK.out _ _ ?_
      clear HK
      have hb5 := hb4.alloc hb4.size (Obj.cells #[.bool false] 4)
      have bH := Boxed.new w3 4 (.bool false)
      have hq1 := hb4.size
      have hq2 : w3.heap.size < (w3.alloc (Obj.cells #[.bool false] 4)).heap.size := by simp
      clear hb4
      generalize w3.alloc (Obj.cells #[.bool false] 4) = w5 at *
      generalize w3.heap.size = q at *
      have hhu := hurts_any (some ⟨g, 0, none⟩) f (f + n) w5
      simp only [Int.natCast_add] at hhu
      refine wp_seq_k (fun K hK => ?_)
      have HK := Lib.hid hK
      clear hK
      go_wp2_with (go_at_call 52; refine hhu.mono ?_; rintro e w6 ⟨rfl, hq, hsz2, hb6⟩; have HSZ := Lib.hid hsz2; clear hsz2)
      have bH6 : Boxed w6 q 4 (.bool false) := tr_bl hb6 bH
      have hz : w5.heap.size + 4 ≤ w6.heap.size := by have := HSZ.out; omega
      have hB6 : Below w.heap.size w w6 := hb5.trans (hb6.mono hb5.size)
      clear hb6 hhu hb5 bH HSZ
      have hz5 := hB6.size
      refine wp_range_skip (gf := 85) rfl (enters_of Tryd.func85 (by kernel_rfl) rfl) (hurts_stops h f (f + n) w5.heap.size (by omega) (by omega) hB6.size (by omega) hB6 hq) KpH.trans (KpH.put hB6.size (by omega)) (fun _ => rfl)
        (fun (pre : List Int) W => pre = [] ∧ Boxed W q 4 (.bool false) ∧ Below w.heap.size w W ∧ w6.heap.size ≤ W.heap.size)
        (fun c _ W => c = .exit 0 ∧ Boxed W q 4 (.bool true) ∧ Below w.heap.size w W ∧ w6.heap.size ≤ W.heap.size)
        ?_ ?_ ⟨rfl, bH6, hB6, Nat.le_refl _⟩ ?_ ?_ ?_
      · exact fun _ _ _ _ hs hg hr => ⟨hs.1, hs.2.1.kept hg (fun e => by have := (hr _ e.symm).1; omega), hs.2.2.1.grown hg (by omega) (fun k e => by have := (hr k e).1; omega), Nat.le_trans hs.2.2.2 hg.size⟩
      · exact fun _ _ _ _ _ hs hg hr => ⟨hs.1, hs.2.1.kept hg (fun e => by have := (hr _ e.symm).1; omega), hs.2.2.1.grown hg (by omega) (fun k e => by have := (hr k e).1; omega), Nat.le_trans hs.2.2.2 hg.size⟩
      · rintro l pre x W ⟨rfl, hbx, hB, hsW⟩ _
        have hc := hbx.cell
        have hf := hbx.frozen
        gi_wp2
        exact ⟨(KeepsOthers.setCell _ _ _).from _, rfl, hbx.set _, hB.setCell (p := ⟨q, 0, none⟩) hq1 _, by simpa [World.setCell] using hsW⟩
      · rintro D xs W hD rfl ⟨hn0, _⟩ _
        exact absurd hn0 hL
      · rintro D c pre W hD ⟨hp, hne⟩ ⟨rfl, hbx, hB, hsW⟩ hK
        go_wp2
        (try simp only [Exit.inBlock]); (try simp only [Exit.then])
        refine HK.out _ _ ?_
        clear HK
        have hdW := h.below hB
        have hcW := hbx.cell
        refine wp_seq_k (fun K hK => ?_)
        have HK := Lib.hid hK
        clear hK
        go_wp2
        refine HK.out _ _ ?_
        clear HK
        refine wp_seq_k (fun K hK => ?_)
        have HK := Lib.hid hK
        clear hK
        go_wp2
        go_loopw [17, 16, 15, 18, 19, 20] (fun s all gn _ _ _ wr => ∃ (j : Nat) (v : Value), j ≤ n ∧ s = .int .i64 ((f : Int) + (j : Int)) ∧ all = v ∧ wr.ownsRow W.heap.size 5 1 v (allR d f j).length (bys (allR d f j)) ∧ gn = .bool (goneG d f j) ∧ Below W.heap.size W wr) (fun s _ _ _ _ _ _ => f + n - (intOf s).toNat)
        case atStart => exact ⟨0, _, by omega, by simp, rfl, World.ownsRow_nil _ _ _ _, rfl, Below.refl _ _⟩
        case round =>
          obtain ⟨j, v, hj, rfl, rfl, hown, rfl, hbr⟩ := hrel
          have hdr := hdW.below hbr
          by_cases hlt : j < n
          case pos =>
            have hil : (f : Int) + (j : Int) < (f : Int) + (n : Int) := by omega
            have hre := rest_sl hdr ((f + j : Nat) : Int)
            have hle := allR_len h f j
            have hrl := restD_len h ((f + j : Nat) : Int)
            have hsn := allG_succ (fun s => (restD d s).1) f j
            have hgs := goneG_succ d f j
            change allR d f (j + 1) = allR d f j ++ _ at hsn
            (try simp only at hsn)
            simp only [Int.natCast_add] at hre hrl hsn hgs
            generalize restD d ((f : Int) + (j : Int)) = r at *
            obtain ⟨rl, lost, er⟩ := r
            (try simp only at hre)
            (try simp only at hrl)
            (try simp only at hsn)
            (try simp only at hgs)
            have HSN := Lib.hid hsn
            have HGS := Lib.hid hgs
            clear hsn hgs
            generalize hal : allR d f j = al at *
            generalize hgo : goneG d f j = go at *
            clear hal hgo
            cases go
            all_goals
              go_wp2_with (first
                | (go_at_call 31; refine hre.mono ?_; rintro e w8 ⟨⟨a8, c8, rfl, s8⟩, hb8⟩; have ho8 := owns_bl hown hb8; have hb9 := hbr.trans (hb8.mono hbr.size); have hr8 := s8.row)
                | (at_builtin; refine wpList_append_row rfl _ _ 38 5 elByte rfl W.heap.size _ al.length (bys al) rfl ho8 a8 rl.length c8 (bys rl) rfl (by rw [bys_len]; omega) hr8 bys_one (by omega) (by decide) hb9.size ?_; intro v9 w9 ho9 hb10))
              rw [← bys_app] at ho9
              go_roundw
              case rel => exact ⟨j + 1, v9, by omega, by simp; omega, rfl, by rw [HSN.out, List.length_append]; exact ho9, by rw [HGS.out]; simp, hb9.trans hb10⟩
              case measure => simp [intOf]; omega
          case neg =>
            obtain rfl : j = n := by omega
            obtain ⟨a9, c9, rfl, s9⟩ := SlB.of_owns hown
            have hmi := mine_any a9 c9 (allR d f j) rep reg pla wr s9 (by have := allR_len h f j; omega)
            rw [HR.out] at hmi
            have hcr := cell_later hbr hcW
            have hKr := tr_bl hbr hK
            rw [HGO.out]
            go_wp2
            refine HK.out _ _ ?_
            clear HK
            refine wp_seq_k (fun K hK => ?_)
            have HK := Lib.hid hK
            clear hK
            go_wp2_with (first
                  | (go_at_call 33; refine hmi.mono ?_; rintro e w8 ⟨⟨a8, c8, rfl, ho8⟩, hb8⟩)
                  | ((first | (with_reducible refine wpList_stNew 37 _ _ ?_) | (with_reducible refine wp_stNew 37 _ _ ?_)); refine ⟨_, _, ⟨Tryd.sizeOf37, rfl, tg_new _⟩, rfl, ?_⟩))
            refine HK.out _ _ ?_
            clear HK
            have hb9 := hb8.alloc hb8.size (Obj.cells #[.int .i64 tg.rep, .int .i64 tg.reg, .int .i64 tg.pla, .int .i64 tg.idx, .int .i64 tg.inc] 37)
            have hcx := cell_later hb9 hcr
            have hKx := tr_bl hb9 hKr
            have hbx := hB.trans ((hbr.trans (hb9.mono hbr.size)).mono hB.size)
            generalize w8.alloc (Obj.cells #[.int .i64 tg.rep, .int .i64 tg.reg, .int .i64 tg.pla, .int .i64 tg.idx, .int .i64 tg.inc] 37) = w9 at *
            go_wp2
            refine marks_ret hKx (results_tmp3 rfl _ _ _) ?_
            exact ⟨rfl, below_mark hbx (by omega)⟩
    case false =>
      rw [Bool.false_or]
      by_cases hst : st = 2
      case pos =>
        subst hst
        rw [decide_eq_true rfl]
        refine calls_marks Tryd.func15 rfl ?_
        simp only [Tryd.ntmps15, List.size_toArray, List.length_cons, List.length_nil, Nat.reduceAdd, Nat.reduceSub, Array.replicate_succ, Array.replicate_zero, List.push_toArray, List.append_toArray, List.nil_append, List.cons_append]
        refine wp_seq_k (fun K hK => ?_)
        have HK := Lib.hid hK
        clear hK
        go_wp2
        refine HK.out _ _ ?_
        clear HK
        refine wp_seq_k (fun K hK => ?_)
        have HK := Lib.hid hK
        clear hK
        go_wp2_with (go_at_call 50; refine hk.mono ?_; rintro e w1 ⟨rfl, hb1⟩)
        refine HK.out _ _ ?_
        clear HK
        refine wp_seq_k (fun K hK => ?_)
        have HK := Lib.hid hK
        clear hK
        go_wp2_with (go_at_call 32; refine (hfi _).mono ?_; rintro e w2 ⟨rfl, hb2⟩)
        refine HK.out _ _ ?_
        clear HK
        refine wp_seq_k (fun K hK => ?_)
        have HK := Lib.hid hK
        clear hK
        go_wp2_with (go_at_call 51; refine (hwi _).mono ?_; rintro e w3 ⟨rfl, hb3⟩)
        refine HK.out _ _ ?_
        clear HK
        have hb4 := hb1.trans ((hb2.trans (hb3.mono hb2.size)).mono hb1.size)
        clear hb1 hb2 hb3 hk hfi hwi
        refine wp_seq_k (fun K hK => ?_)
        have HK := Lib.hid hK
        clear hK
        go_wp2
        refine HK.out _ _ ?_
        clear HK
        have hb5 := hb4.alloc hb4.size (Obj.cells #[.bool false] 4)
        have bH := Boxed.new w3 4 (.bool false)
        have hq1 := hb4.size
        have hq2 : w3.heap.size < (w3.alloc (Obj.cells #[.bool false] 4)).heap.size := by simp
        clear hb4
        generalize w3.alloc (Obj.cells #[.bool false] 4) = w5 at *
        generalize w3.heap.size = q at *
        have hhu := hurts_any (some ⟨g, 0, none⟩) f (f + n) w5
        simp only [Int.natCast_add] at hhu
        refine wp_seq_k (fun K hK => ?_)
        have HK := Lib.hid hK
        clear hK
        go_wp2_with (go_at_call 52; refine hhu.mono ?_; rintro e w6 ⟨rfl, hq, hsz2, hb6⟩; have HSZ := Lib.hid hsz2; clear hsz2)
        have bH6 : Boxed w6 q 4 (.bool false) := tr_bl hb6 bH
        have hz : w5.heap.size + 4 ≤ w6.heap.size := by have := HSZ.out; omega
        have hB6 : Below w.heap.size w w6 := hb5.trans (hb6.mono hb5.size)
        clear hb6 hhu hb5 bH HSZ
        have hz5 := hB6.size
        refine wp_range_skip (gf := 85) rfl (enters_of Tryd.func85 (by kernel_rfl) rfl) (hurts_stops h f (f + n) w5.heap.size (by omega) (by omega) hB6.size (by omega) hB6 hq) KpH.trans (KpH.put hB6.size (by omega)) (fun _ => rfl)
          (fun (pre : List Int) W => pre = [] ∧ Boxed W q 4 (.bool false) ∧ Below w.heap.size w W ∧ w6.heap.size ≤ W.heap.size)
          (fun c _ W => c = .exit 0 ∧ Boxed W q 4 (.bool true) ∧ Below w.heap.size w W ∧ w6.heap.size ≤ W.heap.size)
          ?_ ?_ ⟨rfl, bH6, hB6, Nat.le_refl _⟩ ?_ ?_ ?_
        · exact fun _ _ _ _ hs hg hr => ⟨hs.1, hs.2.1.kept hg (fun e => by have := (hr _ e.symm).1; omega), hs.2.2.1.grown hg (by omega) (fun k e => by have := (hr k e).1; omega), Nat.le_trans hs.2.2.2 hg.size⟩
        · exact fun _ _ _ _ _ hs hg hr => ⟨hs.1, hs.2.1.kept hg (fun e => by have := (hr _ e.symm).1; omega), hs.2.2.1.grown hg (by omega) (fun k e => by have := (hr k e).1; omega), Nat.le_trans hs.2.2.2 hg.size⟩
        · rintro l pre x W ⟨rfl, hbx, hB, hsW⟩ _
          have hc := hbx.cell
          have hf := hbx.frozen
          gi_wp2
          exact ⟨(KeepsOthers.setCell _ _ _).from _, rfl, hbx.set _, hB.setCell (p := ⟨q, 0, none⟩) hq1 _, by simpa [World.setCell] using hsW⟩
        · rintro D xs W hD rfl ⟨hn0, _⟩ _
          exact absurd hn0 hL
        · rintro D c pre W hD ⟨hp, hne⟩ ⟨rfl, hbx, hB, hsW⟩ hK
          go_wp2
          (try simp only [Exit.inBlock]); (try simp only [Exit.then])
          refine HK.out _ _ ?_
          clear HK
          have hdW := h.below hB
          have hcW := hbx.cell
          refine wp_seq_k (fun K hK => ?_)
          have HK := Lib.hid hK
          clear hK
          go_wp2
          refine HK.out _ _ ?_
          clear HK
          refine wp_seq_k (fun K hK => ?_)
          have HK := Lib.hid hK
          clear hK
          go_wp2
          go_loopw [17, 16, 15, 18, 19, 20] (fun s all gn _ _ _ wr => ∃ (j : Nat) (v : Value), j ≤ n ∧ s = .int .i64 ((f : Int) + (j : Int)) ∧ all = v ∧ wr.ownsRow W.heap.size 5 1 v (allR d f j).length (bys (allR d f j)) ∧ gn = .bool (goneG d f j) ∧ Below W.heap.size W wr) (fun s _ _ _ _ _ _ => f + n - (intOf s).toNat)
          case atStart => exact ⟨0, _, by omega, by simp, rfl, World.ownsRow_nil _ _ _ _, rfl, Below.refl _ _⟩
          case round =>
            obtain ⟨j, v, hj, rfl, rfl, hown, rfl, hbr⟩ := hrel
            have hdr := hdW.below hbr
            by_cases hlt : j < n
            case pos =>
              have hil : (f : Int) + (j : Int) < (f : Int) + (n : Int) := by omega
              have hre := rest_sl hdr ((f + j : Nat) : Int)
              have hle := allR_len h f j
              have hrl := restD_len h ((f + j : Nat) : Int)
              have hsn := allG_succ (fun s => (restD d s).1) f j
              have hgs := goneG_succ d f j
              change allR d f (j + 1) = allR d f j ++ _ at hsn
              (try simp only at hsn)
              simp only [Int.natCast_add] at hre hrl hsn hgs
              generalize restD d ((f : Int) + (j : Int)) = r at *
              obtain ⟨rl, lost, er⟩ := r
              (try simp only at hre)
              (try simp only at hrl)
              (try simp only at hsn)
              (try simp only at hgs)
              have HSN := Lib.hid hsn
              have HGS := Lib.hid hgs
              clear hsn hgs
              generalize hal : allR d f j = al at *
              generalize hgo : goneG d f j = go at *
              clear hal hgo
              cases go
              all_goals
                go_wp2_with (first
                  | (go_at_call 31; refine hre.mono ?_; rintro e w8 ⟨⟨a8, c8, rfl, s8⟩, hb8⟩; have ho8 := owns_bl hown hb8; have hb9 := hbr.trans (hb8.mono hbr.size); have hr8 := s8.row)
                  | (at_builtin; refine wpList_append_row rfl _ _ 38 5 elByte rfl W.heap.size _ al.length (bys al) rfl ho8 a8 rl.length c8 (bys rl) rfl (by rw [bys_len]; omega) hr8 bys_one (by omega) (by decide) hb9.size ?_; intro v9 w9 ho9 hb10))
                rw [← bys_app] at ho9
                go_roundw
                case rel => exact ⟨j + 1, v9, by omega, by simp; omega, rfl, by rw [HSN.out, List.length_append]; exact ho9, by rw [HGS.out]; simp, hb9.trans hb10⟩
                case measure => simp [intOf]; omega
            case neg =>
              obtain rfl : j = n := by omega
              obtain ⟨a9, c9, rfl, s9⟩ := SlB.of_owns hown
              have hmi := mine_any a9 c9 (allR d f j) rep reg pla wr s9 (by have := allR_len h f j; omega)
              rw [HR.out] at hmi
              have hcr := cell_later hbr hcW
              have hKr := tr_bl hbr hK
              rw [HGO.out]
              go_wp2
              refine HK.out _ _ ?_
              clear HK
              refine wp_seq_k (fun K hK => ?_)
              have HK := Lib.hid hK
              clear hK
              go_wp2_with (first
                    | (go_at_call 33; refine hmi.mono ?_; rintro e w8 ⟨⟨a8, c8, rfl, ho8⟩, hb8⟩)
                    | ((first | (with_reducible refine wpList_stNew 37 _ _ ?_) | (with_reducible refine wp_stNew 37 _ _ ?_)); refine ⟨_, _, ⟨Tryd.sizeOf37, rfl, tg_new _⟩, rfl, ?_⟩))
              refine HK.out _ _ ?_
              clear HK
              have hb9 := hb8.alloc hb8.size (Obj.cells #[.int .i64 tg.rep, .int .i64 tg.reg, .int .i64 tg.pla, .int .i64 tg.idx, .int .i64 tg.inc] 37)
              have hcx := cell_later hb9 hcr
              have hKx := tr_bl hb9 hKr
              have hbx := hB.trans ((hbr.trans (hb9.mono hbr.size)).mono hB.size)
              generalize w8.alloc (Obj.cells #[.int .i64 tg.rep, .int .i64 tg.reg, .int .i64 tg.pla, .int .i64 tg.idx, .int .i64 tg.inc] 37) = w9 at *
              go_wp2
              refine marks_ret hKx (results_tmp3 rfl _ _ _) ?_
              exact ⟨rfl, below_mark hbx (by omega)⟩
      case neg =>
        rw [decide_eq_false hst]
        have e2 : ((st : Int) == 2) = false := by rw [beq_eq_false_iff_ne]; omega
        clear hst
        refine calls_marks Tryd.func15 rfl ?_
        simp only [Tryd.ntmps15, List.size_toArray, List.length_cons, List.length_nil, Nat.reduceAdd, Nat.reduceSub, Array.replicate_succ, Array.replicate_zero, List.push_toArray, List.append_toArray, List.nil_append, List.cons_append]
        refine wp_seq_k (fun K hK => ?_)
        have HK := Lib.hid hK
        clear hK
        go_wp2
        refine HK.out _ _ ?_
        clear HK
        refine wp_seq_k (fun K hK => ?_)
        have HK := Lib.hid hK
        clear hK
        go_wp2_with (go_at_call 50; refine hk.mono ?_; rintro e w1 ⟨rfl, hb1⟩)
        refine HK.out _ _ ?_
        clear HK
        refine wp_seq_k (fun K hK => ?_)
        have HK := Lib.hid hK
        clear hK
        go_wp2_with (go_at_call 32; refine (hfi _).mono ?_; rintro e w2 ⟨rfl, hb2⟩)
        refine HK.out _ _ ?_
        clear HK
        refine wp_seq_k (fun K hK => ?_)
        have HK := Lib.hid hK
        clear hK
        go_wp2_with (go_at_call 51; refine (hwi _).mono ?_; rintro e w3 ⟨rfl, hb3⟩)
        refine HK.out _ _ ?_
        clear HK
        have hb4 := hb1.trans ((hb2.trans (hb3.mono hb2.size)).mono hb1.size)
        clear hb1 hb2 hb3 hk hfi hwi
        refine wp_seq_k (fun K hK => ?_)
        have HK := Lib.hid hK
        clear hK
        go_wp2
        refine HK.out _ _ ?_
        clear HK
        have hb5 := hb4.alloc hb4.size (Obj.cells #[.bool false] 4)
        have bH := Boxed.new w3 4 (.bool false)
        have hq1 := hb4.size
        have hq2 : w3.heap.size < (w3.alloc (Obj.cells #[.bool false] 4)).heap.size := by simp
        clear hb4
        generalize w3.alloc (Obj.cells #[.bool false] 4) = w5 at *
        generalize w3.heap.size = q at *
        have hhu := hurts_any (some ⟨g, 0, none⟩) f (f + n) w5
        simp only [Int.natCast_add] at hhu
        refine wp_seq_k (fun K hK => ?_)
        have HK := Lib.hid hK
        clear hK
        go_wp2_with (go_at_call 52; refine hhu.mono ?_; rintro e w6 ⟨rfl, hq, hsz2, hb6⟩; have HSZ := Lib.hid hsz2; clear hsz2)
        have bH6 : Boxed w6 q 4 (.bool false) := tr_bl hb6 bH
        have hz : w5.heap.size + 4 ≤ w6.heap.size := by have := HSZ.out; omega
        have hB6 : Below w.heap.size w w6 := hb5.trans (hb6.mono hb5.size)
        clear hb6 hhu hb5 bH HSZ
        have hz5 := hB6.size
        refine wp_range_skip (gf := 85) rfl (enters_of Tryd.func85 (by kernel_rfl) rfl) (hurts_stops h f (f + n) w5.heap.size (by omega) (by omega) hB6.size (by omega) hB6 hq) KpH.trans (KpH.put hB6.size (by omega)) (fun _ => rfl)
          (fun (pre : List Int) W => pre = [] ∧ Boxed W q 4 (.bool false) ∧ Below w.heap.size w W ∧ w6.heap.size ≤ W.heap.size)
          (fun c _ W => c = .exit 0 ∧ Boxed W q 4 (.bool true) ∧ Below w.heap.size w W ∧ w6.heap.size ≤ W.heap.size)
          ?_ ?_ ⟨rfl, bH6, hB6, Nat.le_refl _⟩ ?_ ?_ ?_
        · exact fun _ _ _ _ hs hg hr => ⟨hs.1, hs.2.1.kept hg (fun e => by have := (hr _ e.symm).1; omega), hs.2.2.1.grown hg (by omega) (fun k e => by have := (hr k e).1; omega), Nat.le_trans hs.2.2.2 hg.size⟩
        · exact fun _ _ _ _ _ hs hg hr => ⟨hs.1, hs.2.1.kept hg (fun e => by have := (hr _ e.symm).1; omega), hs.2.2.1.grown hg (by omega) (fun k e => by have := (hr k e).1; omega), Nat.le_trans hs.2.2.2 hg.size⟩
        · rintro l pre x W ⟨rfl, hbx, hB, hsW⟩ _
          have hc := hbx.cell
          have hf := hbx.frozen
          gi_wp2
          exact ⟨(KeepsOthers.setCell _ _ _).from _, rfl, hbx.set _, hB.setCell (p := ⟨q, 0, none⟩) hq1 _, by simpa [World.setCell] using hsW⟩
        · rintro D xs W hD rfl ⟨hn0, _⟩ _
          exact absurd hn0 hL
        · rintro D c pre W hD ⟨hp, hne⟩ ⟨rfl, hbx, hB, hsW⟩ hK
          go_wp2
          (try simp only [Exit.inBlock]); (try simp only [Exit.then])
          refine HK.out _ _ ?_
          clear HK
          have hdW := h.below hB
          have hcW := hbx.cell
          refine wp_seq_k (fun K hK => ?_)
          have HK := Lib.hid hK
          clear hK
          go_wp2
          refine HK.out _ _ ?_
          clear HK
          refine wp_seq_k (fun K hK => ?_)
          have HK := Lib.hid hK
          clear hK
          go_wp2
          go_loopw [17, 16, 15, 18, 19, 20] (fun s all gn _ _ _ wr => ∃ (j : Nat) (v : Value), j ≤ n ∧ s = .int .i64 ((f : Int) + (j : Int)) ∧ all = v ∧ wr.ownsRow W.heap.size 5 1 v (allR d f j).length (bys (allR d f j)) ∧ gn = .bool (goneG d f j) ∧ Below W.heap.size W wr) (fun s _ _ _ _ _ _ => f + n - (intOf s).toNat)
          case atStart => exact ⟨0, _, by omega, by simp, rfl, World.ownsRow_nil _ _ _ _, rfl, Below.refl _ _⟩
          case round =>
            obtain ⟨j, v, hj, rfl, rfl, hown, rfl, hbr⟩ := hrel
            have hdr := hdW.below hbr
            by_cases hlt : j < n
            case pos =>
              have hil : (f : Int) + (j : Int) < (f : Int) + (n : Int) := by omega
              have hre := rest_sl hdr ((f + j : Nat) : Int)
              have hle := allR_len h f j
              have hrl := restD_len h ((f + j : Nat) : Int)
              have hsn := allG_succ (fun s => (restD d s).1) f j
              have hgs := goneG_succ d f j
              change allR d f (j + 1) = allR d f j ++ _ at hsn
              (try simp only at hsn)
              simp only [Int.natCast_add] at hre hrl hsn hgs
              generalize restD d ((f : Int) + (j : Int)) = r at *
              obtain ⟨rl, lost, er⟩ := r
              (try simp only at hre)
              (try simp only at hrl)
              (try simp only at hsn)
              (try simp only at hgs)
              have HSN := Lib.hid hsn
              have HGS := Lib.hid hgs
              clear hsn hgs
              generalize hal : allR d f j = al at *
              generalize hgo : goneG d f j = go at *
              clear hal hgo
              cases go
              all_goals
                go_wp2_with (first
                  | (go_at_call 31; refine hre.mono ?_; rintro e w8 ⟨⟨a8, c8, rfl, s8⟩, hb8⟩; have ho8 := owns_bl hown hb8; have hb9 := hbr.trans (hb8.mono hbr.size); have hr8 := s8.row)
                  | (at_builtin; refine wpList_append_row rfl _ _ 38 5 elByte rfl W.heap.size _ al.length (bys al) rfl ho8 a8 rl.length c8 (bys rl) rfl (by rw [bys_len]; omega) hr8 bys_one (by omega) (by decide) hb9.size ?_; intro v9 w9 ho9 hb10))
                rw [← bys_app] at ho9
                go_roundw
                case rel => exact ⟨j + 1, v9, by omega, by simp; omega, rfl, by rw [HSN.out, List.length_append]; exact ho9, by rw [HGS.out]; simp, hb9.trans hb10⟩
                case measure => simp [intOf]; omega
            case neg =>
              obtain rfl : j = n := by omega
              obtain ⟨a9, c9, rfl, s9⟩ := SlB.of_owns hown
              have hmi := mine_any a9 c9 (allR d f j) rep reg pla wr s9 (by have := allR_len h f j; omega)
              rw [HR.out] at hmi
              have hcr := cell_later hbr hcW
              have hKr := tr_bl hbr hK
              rw [HGO.out]
              go_wp2
              refine HK.out _ _ ?_
              clear HK
              refine wp_seq_k (fun K hK => ?_)
              have HK := Lib.hid hK
              clear hK
              go_wp2_with (first
                    | (go_at_call 33; refine hmi.mono ?_; rintro e w8 ⟨⟨a8, c8, rfl, ho8⟩, hb8⟩)
                    | ((first | (with_reducible refine wpList_stNew 37 _ _ ?_) | (with_reducible refine wp_stNew 37 _ _ ?_)); refine ⟨_, _, ⟨Tryd.sizeOf37, rfl, tg_new _⟩, rfl, ?_⟩))
              refine HK.out _ _ ?_
              clear HK
              have hb9 := hb8.alloc hb8.size (Obj.cells #[.int .i64 tg.rep, .int .i64 tg.reg, .int .i64 tg.pla, .int .i64 tg.idx, .int .i64 tg.inc] 37)
              have hcx := cell_later hb9 hcr
              have hKx := tr_bl hb9 hKr
              have hbx := hB.trans ((hbr.trans (hb9.mono hbr.size)).mono hB.size)
              generalize w8.alloc (Obj.cells #[.int .i64 tg.rep, .int .i64 tg.reg, .int .i64 tg.pla, .int .i64 tg.idx, .int .i64 tg.inc] 37) = w9 at *
              go_wp2
              refine marks_ret hKx (results_tmp3 rfl _ _ _) ?_
              exact ⟨rfl, below_mark hbx (by omega)⟩
theorem place_any {B g gp : Nat} {wv : Value} {d : Dk} {w : World} (h : DiskB B g gp wv d w) (rep reg pla : Int) : Calls Tryd.prog 15 #[.pointer (some ⟨g, 0, none⟩), .int .i64 rep, .int .i64 reg, .int .i64 pla] w fun e w' => e = .returned (.tuple #[.bool (placeG d rep reg pla).1, .bool (placeG d rep reg pla).2.1, .int .i64 (placeG d rep reg pla).2.2]) ∧ Below w.heap.size w w' := by
  by_cases ha : askG d rep reg pla = 0
  · exact place_ok h rep reg pla ha
  · have := place_err _ _ w h.dn rep reg pla ha
    unfold placeG
    rw [if_pos ha]
    exact this
end Go.Proofs.YtejjneamngkmoaaDoor

