/- Texts that the claim leans on, part 15: D43, X10, X11, V1, V2, V6, V7, V8. -/
import Derived.Test.YtknchbhobopkeaaGreatDoorZ1
import Derived.Test.YtknchbhobopkeaaGreatDoorZ2
import Derived.Test.YtknchbhobopkeaaGreatDoorZ3
import Derived.Test.YtknchbhobopkeaaGreatDoorZ4
import Derived.Test.YtknchbhobopkeaaGreatDoorZ5
import Derived.Test.YtknchbhobopkeaaGreatDoorZ6
import Derived.Test.YtknchbhobopkeaaGreatDoorZ7
import Derived.Test.YtknchbhobopkeaaGreatDoorZ8
import Derived.Test.YtknchbhobopkeaaGreatDoorZ9
import Derived.Test.YtknchbhobopkeaaGreatDoorZ10
import Derived.Test.YtknchbhobopkeaaGreatDoorZ11
import Derived.Test.YtknchbhobopkeaaGreatDoorZ12
import Derived.Test.YtknchbhobopkeaaGreatDoorZ13
import Derived.Test.YtknchbhobopkeaaGreatDoorZ14
import Derived.Test.YtknchbhobopkeaaGreatDoorRows
import Derived.WalkKit
import Derived.WalkSpells
import Derived.WalkLawsBesides
import Derived.Handy
import Derived.Deep.QuietTactic
import Derived.BigQuiet
import Derived.Deep.DeepCutAuto
import Derived.Lib.Hide
import Derived.RegionTactic
import Derived.ChangeAlike
import Derived.Laws.ResultCell
import Derived.Outline
import Derived.IntWalk
import Derived.Laws.IdiomStrings
import Derived.Laws.BytesArg
import Derived.LoopN
import Derived.ChangeSlices
import Derived.ProofKit
import Derived.Deep.Slices
import Derived.Deep.Strs
import Derived.OpenShut
import Derived.Lib.SmallJoins
import Derived.Laws.MakeOwn
import Derived.Lib.SliceRun
import Derived.Laws.BitsAllLaws
import Derived.Great.BuildSlice
import Derived.Great.FillDense
import Derived.Laws.Rows
import Derived.Deep.Quiet
import Derived.Deep.RegionHeld3
import Derived.Lib.AppendStr
import Derived.Laws.Strings
import Derived.Laws.CopyOwn
import Derived.Laws.CopyRow
import Derived.Laws.NewBlocks
import Derived.Deep.RegionLaw
namespace Go.Proofs.YtknchbhobopkeaaGreatDoor
open Go.RowKit
def ceZ (g : Nat) (rep reg : Int) : Array Value := ceA g rep reg 0 zeroTg (.slice none 0 0) 0 zeroTg (.slice none 0 0)
theorem lastW_mem : ∀ {l : List (List UInt8 × Nat)} {s : Nat} {b : List UInt8}, lastW l s = some b → ∃ x ∈ l, x.1 = b
  | [], _, _, h => by cases h
  | (c, k) :: l, s, b, h => by
    unfold lastW at h
    cases hl : lastW l s with
    | some x =>
      rw [hl] at h
      simp only [Option.some.injEq] at h
      subst h
      obtain ⟨y, hy, e⟩ := lastW_mem hl
      exact ⟨y, List.mem_cons_of_mem _ hy, e⟩
    | none =>
      rw [hl] at h
      simp only at h
      split at h
      · injection h with h
        exact ⟨(c, k), List.mem_cons_self, h⟩
      · cases h
theorem read_len {B g gp : Nat} {wv : Value} {d : Dk} {w : World} (h : DiskB B g gp wv d w) (s : Int) : ((readD d s).2 = 0 → (readD d s).1.length = 64) ∧ ((readD d s).2 ≠ 0 → (readD d s).1 = []) := by
  unfold readD
  by_cases h0 : liveD d s = 0
  · rw [if_neg (by simpa using h0)]
    cases hl : lastW d.waits s.toNat with
    | some b =>
      obtain ⟨x, hx, e⟩ := lastW_mem hl
      simp only
      exact ⟨fun _ => by rw [← e]; exact (h.wk x hx).1, fun hh => absurd rfl hh⟩
    | none =>
      simp only
      cases hp : d.pl[s.toNat]? with
      | none => exact ⟨(fun hh => by cases hh), fun _ => rfl⟩
      | some p =>
        simp only
        by_cases hlo : p.lost = true
        · rw [if_pos hlo]
          exact ⟨(fun hh => by cases hh), fun _ => rfl⟩
        · rw [if_neg hlo]
          exact ⟨fun _ => (h.ok p (List.mem_of_getElem? hp)).1, fun hh => absurd rfl hh⟩
  · rw [if_pos (by simpa using h0)]
    exact ⟨fun hh => absurd hh h0, fun _ => rfl⟩
theorem read_slb {B g gp : Nat} {wv : Value} {d : Dk} {w : World} (h : DiskB B g gp wv d w) (s : Int) : Calls Tryz.prog 99 #[.pointer (some ⟨g, 0, none⟩), .int .i64 s] w fun e w' => (∃ a c, e = .returned (.tuple #[.slice a (readD d s).1.length c, .int .i64 (readD d s).2]) ∧ SlB w' a c (readD d s).1) ∧ Below w.heap.size w w' := by
  obtain ⟨h1, h2⟩ := read_len h s
  refine (read_any h s).mono ?_
  rintro e w' ⟨hr, hb⟩
  refine ⟨?_, hb⟩
  unfold ReadRes at hr
  by_cases h0 : (readD d s).2 = 0
  · rw [if_pos h0] at hr
    obtain ⟨a, c, rfl, ho⟩ := hr
    rw [h1 h0, h0]
    obtain ⟨_, _, e, hs⟩ := SlB.of_owns (l := (readD d s).1) (by rw [h1 h0]; exact ho)
    rw [h1 h0] at e
    cases e
    exact ⟨a, c, rfl, hs⟩
  · rw [if_neg h0] at hr
    rw [h2 h0]
    exact ⟨none, 0, hr, ⟨.inl rfl, Nat.le_refl _, by simp, fun _ => rfl⟩⟩
end Go.Proofs.YtknchbhobopkeaaGreatDoor
namespace Go.Proofs.YtknchbhobopkeaaGreatDoor
section
variable {d : Dk} {k : Nat}
end
section
variable {d : Dk} {rep reg v c : Int} {b : List UInt8} {i : Nat} {x : Cp}
end
end Go.Proofs.YtknchbhobopkeaaGreatDoor
namespace Go.Proofs.YtknchbhobopkeaaGreatDoor
section
variable {d : Dk} {rep reg inc : Int} {body : List UInt8} {o : Vo}
end
end Go.Proofs.YtknchbhobopkeaaGreatDoor
namespace Go.Proofs.YtknchbhobopkeaaGreatDoor
open Go.RowKit
structure Lg where
  rep : Int
  inc : Int
  snap : Int
def lgA (g : Nat) (s : Lg) : Array Value := #[.pointer (some ⟨g, 0, none⟩), .int .i64 s.rep, .int .i64 s.inc, .int .i64 s.snap]
def LgB (w : World) (q g : Nat) (s : Lg) : Prop := w.heap[q]? = some (.cells (lgA g s) 74 (0, 0))
def plW (i : Int) : Int := (i - 1) % 24
def preW (d : Dk) (f : Int) : Nat → List UInt8
  | 0 => []
  | 1 => (readD d f).1
  | _ => (readD d f).1 ++ (readD d (f + 1)).1
def fr1 (d : Dk) (rep reg pla : Int) : Nat × Tg × List UInt8 := if (readD d (firstN reg pla)).2 ≠ 0 then (2, zeroTg, []) else mineF (preW d (firstN reg pla) 1) rep reg pla
def fr2 (d : Dk) (rep reg pla : Int) : Nat × Tg × List UInt8 := if (readD d (firstN reg pla)).2 ≠ 0 ∨ (readD d (firstN reg pla + 1)).2 ≠ 0 then (2, zeroTg, []) else mineF (preW d (firstN reg pla) 2) rep reg pla
def fitW (n : Int) : Bool := decide (0 ≤ n) && decide (n ≤ 1099511627752)
def liveW (d : Dk) (s : Lg) (i : Int) : Int := if i ≤ s.snap ∨ s.snap + 24 < i then 2 else if upD d = false then 5 else 0
theorem first3 {p : Int} (h : 0 ≤ p ∧ p < 24) : firstN 3 p = 4 + p := by
  unfold firstN
  rw [if_neg (by simp [placesN]; omega)]
  simp [startN, wideN]
theorem first4 {p : Int} (h : 0 ≤ p ∧ p < 48) : firstN 4 p = 28 + 2 * p := by
  unfold firstN
  rw [if_neg (by simp [placesN]; omega)]
  simp [startN, wideN]
  omega
theorem plW_in {i : Int} : 0 ≤ plW i ∧ plW i < 24 := by unfold plW; omega
theorem mine_len3 (b : List UInt8) (rep reg pla : Int) : (mineF b rep reg pla).2.2.length ≤ b.length := by
  unfold mineF openF
  (repeat' split) <;> simp <;> omega
section
variable {B g gp q : Nat} {wv : Value} {d : Dk} {w w' : World} {s : Lg}
theorem LgB.c0 (h : LgB w q g s) : w.cell? ⟨q, 0, none⟩ = some (.pointer (some ⟨g, 0, none⟩)) := blk_cell h 0 _ rfl
theorem LgB.c1 (h : LgB w q g s) : w.cell? ⟨q, 1, none⟩ = some (.int .i64 s.rep) := blk_cell h 1 _ rfl
theorem LgB.c2 (h : LgB w q g s) : w.cell? ⟨q, 2, none⟩ = some (.int .i64 s.inc) := blk_cell h 2 _ rfl
theorem LgB.c3 (h : LgB w q g s) : w.cell? ⟨q, 3, none⟩ = some (.int .i64 s.snap) := blk_cell h 3 _ rfl
theorem LgB.below (h : LgB w q g s) (hb : Below w.heap.size w w') : LgB w' q g s := tr_bl hb h
theorem LgB.kt (h : LgB w q g s) (hk : Kt B w w') : LgB w' q g s := hk.ty _ _ _ h (by decide) (by decide) (by decide)
theorem lnone_any2 (h : LgB w q g s) : Calls Tryz.prog 36 #[.pointer (some ⟨q, 0, none⟩)] w fun e w' => e = .returned (.bool false) ∧ w = w' := by
  have c0 := h.c0
  go_enter Tryz.func36, Tryz.ntmps36
  go_wp2
  go_ret
  exact ⟨rfl, rfl⟩
theorem lfits_any (n : Int) (w : World) : Calls Tryz.prog 27 #[.int .i64 n] w fun e w' => e = .returned (.bool (fitW n)) ∧ w = w' := by
  unfold fitW
  by_cases h : 0 ≤ n
  · rw [decide_eq_true h]
    go_enter Tryz.func27, Tryz.ntmps27
    go_wp2
    go_ret
    exact ⟨ret_bool (by simp), rfl⟩
  · rw [decide_eq_false h]
    go_enter Tryz.func27, Tryz.ntmps27
    go_wp2
    go_ret
    exact ⟨ret_bool (by simp), rfl⟩
theorem wplace_any (i : Int) (h1 : 1 ≤ i) (h2 : i ≤ 1099511627776) (w : World) : Calls Tryz.prog 34 #[.int .i64 i] w fun e w' => e = .returned (.int .i64 (plW i)) ∧ w = w' := by
  go_enter Tryz.func34, Tryz.ntmps34
  go_wp2
  go_ret
  refine ⟨?_, rfl⟩
  unfold plW
  first
    | rfl
    | (simp only [Int.tmod_eq_emod_of_nonneg (show (0 : Int) ≤ i - 1 by omega)]; done)
    | (rw [Int.tmod_eq_emod_of_nonneg (show (0 : Int) ≤ i - 1 by omega)])
set_option maxRecDepth 100000 in
set_option maxHeartbeats 1000000 in
theorem llive_any2 (h : LgB w q g s) (hd : DiskB B g gp wv d w) (hs : 0 ≤ s.snap ∧ s.snap ≤ 1099511627752) (i : Int) : Calls Tryz.prog 29 #[.pointer (some ⟨q, 0, none⟩), .int .i64 i] w fun e w' => e = .returned (.int .i64 (liveW d s i)) ∧ w = w' := by
  obtain ⟨r, hr⟩ : ∃ r, liveW d s i = r := ⟨_, rfl⟩
  rw [hr]
  unfold liveW at hr
  have c0 := h.c0
  have c3 := h.c3
  have hup := up_any hd
  rcases (show i ≤ s.snap ∨ (¬ i ≤ s.snap ∧ s.snap + 24 < i) ∨ (¬ i ≤ s.snap ∧ ¬ s.snap + 24 < i) by omega) with h1 | ⟨h1, h2⟩ | ⟨h1, h2⟩
  · obtain rfl : r = 2 := by rw [← hr, if_pos (.inl h1)]
    clear hr
    go_enter Tryz.func29, Tryz.ntmps29
    go_wp2_with (go_at_call 36; refine (lnone_any2 h).mono ?_; rintro e w1 ⟨rfl, rfl⟩)
    go_ret
    exact ⟨rfl, rfl⟩
  · obtain rfl : r = 2 := by rw [← hr, if_pos (.inr h2)]
    clear hr
    go_enter Tryz.func29, Tryz.ntmps29
    go_wp2_with (go_at_call 36; refine (lnone_any2 h).mono ?_; rintro e w1 ⟨rfl, rfl⟩)
    go_ret
    exact ⟨rfl, rfl⟩
  · rw [if_neg (by omega)] at hr
    cases hu : upD d
    all_goals
      rw [hu] at hr hup
      simp only [if_true, Bool.true_eq_false, if_false] at hr
      subst hr
      go_enter Tryz.func29, Tryz.ntmps29
      go_wp2_with (first
        | (go_at_call 36; refine (lnone_any2 h).mono ?_; rintro e w1 ⟨rfl, rfl⟩)
        | (go_at_call 28; refine hup.mono ?_; rintro e w1 ⟨rfl, rfl⟩))
      go_ret
      exact ⟨rfl, rfl⟩
end
end Go.Proofs.YtknchbhobopkeaaGreatDoor
namespace Go.Proofs.YtknchbhobopkeaaGreatDoor
open Go.RowKit
section
variable {B g gp q : Nat} {wv : Value} {d : Dk} {w : World} {s : Lg}
set_option maxRecDepth 100000 in
set_option maxHeartbeats 1000000 in
theorem frame1_any (h : LgB w q g s) (hd : DiskB B g gp wv d w) (p : Int) (hp : 0 ≤ p ∧ p < 24) : Calls Tryz.prog 80 #[.pointer (some ⟨q, 0, none⟩), .int .i64 3, .int .i64 p] w fun e w' => FrRes w.heap.size (fr1 d s.rep 3 p) e w' ∧ Below w.heap.size w w' := by
  have hf := first3 hp
  unfold fr1
  obtain ⟨f, hff⟩ : ∃ f, firstN 3 p = f := ⟨_, rfl⟩
  rw [hff] at hf ⊢
  obtain ⟨r, hr⟩ : ∃ r, (if (readD d f).2 ≠ 0 then ((2 : Nat), zeroTg, ([] : List UInt8)) else mineF (preW d f 1) s.rep 3 p) = r := ⟨_, rfl⟩
  rw [hr]
  have HR := Lib.hid hr
  clear hr
  have hfb : 0 ≤ f ∧ f < 200 := by omega
  have HF := Lib.hid hff
  clear hf hff
  go_enter Tryz.func80, Tryz.ntmps80
  refine wp_seq_k (fun K hK => ?_)
  have HK := Lib.hid hK
  clear hK
  go_wp2
  refine HK.out _ _ ?_
  clear HK
  have hbz := blw w (Obj.cells #[.int .i64 0, .int .i64 0, .int .i64 0, .int .i64 0, .int .i64 0] 108)
  have RZ := heap_alloc_new w (Obj.cells #[.int .i64 0, .int .i64 0, .int .i64 0, .int .i64 0, .int .i64 0] 108)
  generalize w.alloc (Obj.cells #[.int .i64 0, .int .i64 0, .int .i64 0, .int .i64 0, .int .i64 0] 108) = w0 at *
  refine wp_seq_k (fun K hK => ?_)
  have HK := Lib.hid hK
  clear hK
  go_wp2
  refine HK.out _ _ ?_
  clear HK
  refine wp_seq_k (fun K hK => ?_)
  have HK := Lib.hid hK
  clear hK
  go_wp2_with (go_at_call 49; refine (wide_any 3 _).mono ?_; rintro e w1 ⟨rfl, hb1⟩)
  rw [show wideN 3 = 1 from rfl]
  have hbz1 := hbz.trans (hb1.mono hbz.size)
  have RZ1 := tr_bl hb1 RZ
  clear hbz hb1 RZ
  go_loopw [15, 9] (fun i o wr => ∃ (j : Nat) (v : Value), j ≤ 1 ∧ i = .int .i64 (j : Nat) ∧ o = v ∧ (∀ t : Nat, t < j → (readD d (f + t)).2 = 0) ∧ wr.ownsRow (w.heap.size + 1) 5 1 v (preW d f j).length (bys (preW d f j)) ∧ Below w.heap.size w wr ∧ wr.heap[w.heap.size]? = some (.cells #[.int .i64 0, .int .i64 0, .int .i64 0, .int .i64 0, .int .i64 0] 108 (0, 0))) (fun i _ _ => 1 - (intOf i).toNat)
  case atStart => exact ⟨0, _, by omega, rfl, rfl, fun t ht => absurd ht (by omega), World.ownsRow_nil _ _ _ _, hbz1, RZ1⟩
  case' round =>
    clear hbz1 RZ1
    obtain ⟨j, v, hj, rfl, rfl, hall, hown, hbr, RB⟩ := hrel
  rcases (show j = 0 ∨ j = 1 by omega) with rfl | rfl
  · skip
    have hrd := fun w' (h' : DiskB B g gp wv d w') => read_slb h' (f)
    obtain ⟨bs, re, hbs⟩ : ∃ bs re, readD d (f) = (bs, re) := ⟨_, _, rfl⟩
    have hrl := read_len hd (f)
    rw [hbs] at hrl
    simp only [hbs] at hrd
    simp only at hrl
    have HBS := Lib.hid hbs
    clear hbs
    have hdr := hd.below hbr
    have hsr := h.below hbr
    have hpl : (preW d f 0).length = 64 * 0 := rfl
    have HPL := Lib.hid hpl
    have HPS := Lib.hid (show preW d f (0 + 1) = preW d f 0 ++ (readD d (f)).1 from rfl)
    clear hpl
    generalize preW d f 0 = pr at *
    refine wp_seq_k (fun K hK => ?_)
    have HK := Lib.hid hK
    clear hK
    go_wp2
    refine HK.out _ _ ?_
    clear HK
    refine wp_seq_k (fun K hK => ?_)
    have HK := Lib.hid hK
    clear hK
    go_wp2
    refine HK.out _ _ ?_
    clear HK
    refine wp_seq_k (fun K hK => ?_)
    have HK2 := Lib.hid hK
    clear hK
    refine wp_block ?_
    refine wp_seq_k (fun K hK => ?_)
    have HK := Lib.hid hK
    clear hK
    go_wp2
    refine HK.out _ _ ?_
    clear HK
    refine wp_seq_k (fun K hK => ?_)
    have HK3 := Lib.hid hK
    clear hK
    go_wp2_with fail
    have hbd := (Below.refl wr.heap.size wr).drew
    have D1 := hdr.below hbd
    have S1 := hsr.below hbd
    have R1 := tr_bl hbd RB
    have hb1 := hbr.trans (hbd.mono hbr.size)
    have o1 := owns_bl hown hbd
    refine wp_region_held_drew (S := fun w' => LgB w' q g s) (by kernel_rfl) S1 (fun hS0 => ?_)
    clear hbd hdr hsr hown hbr RB
    generalize wr.drew = x0 at *
    refine wpAnyH_take (i := 0) (oi := ⟨_, _, _, _, _, _⟩) (v := ?_) rfl (by kernel_rfl) (by kernel_rfl) (by kernel_rfl) (fun _ _ _ h => h) (Or.inl ⟨by rfl, ?_⟩) (by assumption) ?_
    rotate_left
    · intro wS hSw; go_simp; (try with_reducible rfl)
    (try simp only [Act.put]); (try simp only [List.setIfInBounds_toArray]); (try simp only [List.set_cons_succ]); (try simp only [List.set_cons_zero])
    refine wpAnyH_take (i := 1) (oi := ⟨_, _, _, _, _, _⟩) (v := ?_) rfl (by kernel_rfl) (by kernel_rfl) (by kernel_rfl) (fun _ _ _ h => h) (Or.inl ⟨by rfl, ?_⟩) (by assumption) ?_
    rotate_left
    · intro wS hSw; go_simp; (try with_reducible rfl)
    (try simp only [Act.put]); (try simp only [List.setIfInBounds_toArray]); (try simp only [List.set_cons_succ]); (try simp only [List.set_cons_zero])
    refine wpAnyH_take (i := 2) (oi := ⟨_, _, _, _, _, _⟩) (v := ?_) rfl (by kernel_rfl) (by kernel_rfl) (by kernel_rfl) (fun _ _ _ h => h) (Or.inl ⟨by rfl, ?_⟩) (by assumption) ?_
    rotate_left
    · intro wS hSw; go_simp; (try with_reducible rfl)
    (try simp only [Act.put]); (try simp only [List.setIfInBounds_toArray]); (try simp only [List.set_cons_succ]); (try simp only [List.set_cons_zero])
    refine wpAnyH_take (i := 3) (oi := ⟨_, _, _, _, _, _⟩) (v := ?_) rfl (by kernel_rfl) (by kernel_rfl) (by kernel_rfl) (fun _ _ _ h => h) (Or.inl ⟨by rfl, ?_⟩) (by assumption) ?_
    rotate_left
    · intro wS hSw
      have c := hSw.c0; go_simp; (try with_reducible rfl)
    (try simp only [Act.put]); (try simp only [List.setIfInBounds_toArray]); (try simp only [List.set_cons_succ]); (try simp only [List.set_cons_zero])
    refine wpAnyH_take (i := 4) (oi := ⟨_, _, _, _, _, _⟩) (v := ?_) rfl (by kernel_rfl) (by kernel_rfl) (by kernel_rfl) (fun _ _ _ h => h) (Or.inl ⟨by rfl, ?_⟩) (by assumption) ?_
    rotate_left
    · intro wS hSw; go_simp; (try with_reducible rfl)
    (try simp only [Act.put]); (try simp only [List.setIfInBounds_toArray]); (try simp only [List.set_cons_succ]); (try simp only [List.set_cons_zero])
    refine wpAnyH_take (i := 5) (oi := ⟨_, _, _, _, _, _⟩) (v := ?_) rfl (by kernel_rfl) (by kernel_rfl) (by kernel_rfl) (fun _ _ _ h => h) (Or.inl ⟨by rfl, ?_⟩) (by assumption) ?_
    rotate_left
    · intro wS hSw; go_simp; (try with_reducible rfl)
    (try simp only [Act.put]); (try simp only [List.setIfInBounds_toArray]); (try simp only [List.set_cons_succ]); (try simp only [List.set_cons_zero])
    refine wpAnyH_take (i := 7) (oi := ⟨_, _, _, _, _, _⟩) (v := ?_) rfl (by kernel_rfl) (by kernel_rfl) (by kernel_rfl) (fun _ _ _ h => h) (Or.inl ⟨by rfl, ?_⟩) (by assumption) ?_
    rotate_left
    · intro wS hSw; go_simp; (try with_reducible rfl)
    (try simp only [Act.put]); (try simp only [List.setIfInBounds_toArray]); (try simp only [List.set_cons_succ]); (try simp only [List.set_cons_zero])
    refine wpAnyH_ready (rs := [6]) (by kernel_rfl) (by simp) ?_
    refine AllReadyH.cons (o := ⟨_, _, _, _, _, _⟩) rfl (fun K' hK' => ?_) AllReadyH.nil
    refine (if_pos (by rfl)).mpr ?_
    go_simp
    refine (first_any 3 p _).mono ?_
    rintro e w2 ⟨rfl, hb2⟩
    rw [HF.out]
    have D2 := D1.below hb2
    have S2 := S1.below hb2
    have R2 := tr_bl hb2 R1
    have o2 := owns_bl o1 hb2
    have hb3 := hb1.trans (hb2.mono hb1.size)
    refine hK'.out _ _ S2 (fun _ => ?_)
    clear hK' D1 S1 R1 o1 hb1 hb2 hS0
    (try simp only [Act.put]); (try simp only [List.setIfInBounds_toArray]); (try simp only [List.set_cons_succ]); (try simp only [List.set_cons_zero])
    refine wpAnyH_take (i := 8) (oi := ⟨_, _, _, _, _, _⟩) (v := .int .i64 (f)) rfl (by kernel_rfl) (by kernel_rfl) (by kernel_rfl) (fun _ _ _ h => h) (Or.inl ⟨by rfl, fun wS hSw => ?_⟩) (by assumption) ?_
    · go_simp; (try rw [IntWalk.i64_in _ (by omega)])
    (try simp only [Act.put]); (try simp only [List.setIfInBounds_toArray]); (try simp only [List.set_cons_succ]); (try simp only [List.set_cons_zero])
    refine wpAnyH_ready (rs := [9]) (by kernel_rfl) (by simp) ?_
    refine AllReadyH.cons (o := ⟨_, _, _, _, _, _⟩) rfl (fun K' hK' => ?_) AllReadyH.nil
    refine (if_pos (by rfl)).mpr ?_
    go_simp
    refine (hrd _ D2).mono ?_
    rintro e w4 ⟨⟨a4, c4, rfl, s4⟩, hb4⟩
    have S4 := S2.below hb4
    have R4 := tr_bl hb4 R2
    have o4 := owns_bl o2 hb4
    have hb5 := hb3.trans (hb4.mono hb3.size)
    refine hK'.out _ _ S4 (fun _ => ?_)
    clear hK' D2 S2 R2 o2 hb3 hb4 hrd
    (try simp only [Act.put]); (try simp only [List.setIfInBounds_toArray]); (try simp only [List.set_cons_succ]); (try simp only [List.set_cons_zero])
    refine wpAnyH_take (i := 10) (oi := ⟨_, _, _, _, _, _⟩) (v := ?_) rfl (by kernel_rfl) (by kernel_rfl) (by kernel_rfl) (fun _ _ _ h => h) (Or.inl ⟨by rfl, ?_⟩) (by assumption) ?_
    rotate_left
    · intro wS hSw; go_simp; (try with_reducible rfl)
    (try simp only [Act.put]); (try simp only [List.setIfInBounds_toArray]); (try simp only [List.set_cons_succ]); (try simp only [List.set_cons_zero])
    refine wpAnyH_take (i := 11) (oi := ⟨_, _, _, _, _, _⟩) (v := ?_) rfl (by kernel_rfl) (by kernel_rfl) (by kernel_rfl) (fun _ _ _ h => h) (Or.inl ⟨by rfl, ?_⟩) (by assumption) ?_
    rotate_left
    · intro wS hSw; go_simp; (try with_reducible rfl)
    (try simp only [Act.put]); (try simp only [List.setIfInBounds_toArray]); (try simp only [List.set_cons_succ]); (try simp only [List.set_cons_zero])
    refine wpAnyH_take (i := 12) (oi := ⟨_, _, _, _, _, _⟩) (v := ?_) rfl (by kernel_rfl) (by kernel_rfl) (by kernel_rfl) (fun _ _ _ h => h) (Or.inl ⟨by rfl, ?_⟩) (by assumption) ?_
    rotate_left
    · intro wS hSw; go_simp; (try with_reducible rfl)
    (try simp only [Act.put]); (try simp only [List.setIfInBounds_toArray]); (try simp only [List.set_cons_succ]); (try simp only [List.set_cons_zero])
    refine wpAnyH_take (i := 13) (oi := ⟨_, _, _, _, _, _⟩) (v := ?_) rfl (by kernel_rfl) (by kernel_rfl) (by kernel_rfl) (fun _ _ _ h => h) (Or.inl ⟨by rfl, ?_⟩) (by assumption) ?_
    rotate_left
    · intro wS hSw; go_simp; (try with_reducible rfl)
    (try simp only [Act.put]); (try simp only [List.setIfInBounds_toArray]); (try simp only [List.set_cons_succ]); (try simp only [List.set_cons_zero])
    refine wpAnyH_take (i := 14) (oi := ⟨_, _, _, _, _, _⟩) (v := ?_) rfl (by kernel_rfl) (by kernel_rfl) (by kernel_rfl) (fun _ _ _ h => h) (Or.inl ⟨by rfl, ?_⟩) (by assumption) ?_
    rotate_left
    · intro wS hSw; go_simp; (try with_reducible rfl)
    (try simp only [Act.put]); (try simp only [List.setIfInBounds_toArray]); (try simp only [List.set_cons_succ]); (try simp only [List.set_cons_zero])
    refine wpAnyH_done (by kernel_rfl) ?_ _
    refine HK3.out _ _ ?_
    clear HK3
    by_cases h0 : re = 0
    · subst h0
      have HBL := Lib.hid (hrl.1 rfl)
      clear hrl
      refine wp_seq_k (fun K hK => ?_)
      have HK := Lib.hid hK
      clear hK
      go_wp2
      refine HK.out _ _ ?_
      clear HK
      go_wp2_with (at_builtin; refine wpList_append_row rfl _ _ 75 5 elByte rfl (w.heap.size + 1) _ pr.length (bys pr) rfl o4 a4 bs.length c4 (bys bs) rfl (by rw [bys_len]; omega) s4.row bys_one (by have := HPL.out; have := HBL.out; omega) (by decide) (lt_blk R4) ?_; intro v6 w6 ho6 hb6)
      (try simp only [Exit.inBlock, Exit.then])
      refine HK2.out _ _ ?_
      clear HK2
      go_wp2
      go_roundw
      case rel =>
        refine ⟨0 + 1, _, by omega, by rfl, rfl, fun t ht => ?_, ?_, hb5.trans (hb6.mono (by omega)), (hb6.block _ (by omega)).trans R4⟩
        · by_cases htj : t < 0
          · exact hall t htj
          · obtain rfl : t = 0 := by omega
            rw [show f + ((0 : Nat) : Int) = f by omega, HBS.out]
        · rw [HPS.out, HBS.out, List.length_append, bys_app]
          exact ho6
      case measure => simp [intOf]
    · have hn : (re != 0) = true := by rw [bne_iff_ne]; exact h0
      have hr0 : r = (2, zeroTg, []) := by
        rw [← HR.out, if_pos]
        (rw [HBS.out]; exact h0)
      clear HK HR HPS
      subst hr0
      go_wp2_with ((with_reducible refine wpList_stB 108 _ _ ?_); refine ⟨_, _, _, ⟨_, _, _, Tryz.sizeOf108, rfl, R4, st5 _ rfl 0 0 0 0 0⟩, ?_⟩; intro w8 B8 g8)
      refine bodyPost_ret (results_t1c1t1 rfl rfl (run_loadVar_all Tryz.isAgg108 Tryz.sizeOf108 B8 rfl)) rfl ⟨FrRes.none rfl, bl_st hb5 g8 hb5.size (by omega)⟩
  · have hr0 := hall 0 (by omega)
    rw [show f + ((0 : Nat) : Int) = f by omega] at hr0
    skip
    have hlen : (preW d f 1).length = 64 * 1 := (read_len hd f).1 hr0
    clear hall
    generalize preW d f 1 = b at *
    obtain ⟨a2, c2, rfl, s2⟩ := SlB.of_owns hown
    have hmi := mine_any a2 c2 b s.rep 3 p wr s2 (by omega)
    have hml := mine_len3 b s.rep 3 p
    obtain ⟨st, tg, body, hmm⟩ : ∃ st tg body, mineF b s.rep 3 p = (st, tg, body) := ⟨_, _, _, rfl⟩
    have hrr := HR.out
    rw [if_neg (by simp [hr0]), hmm] at hrr
    rw [hmm] at hmi
    have c1 := (h.below hbr).c1
    clear hmm hown hlen HR hml
    generalize hbn : b.length = bn at *
    clear hbn
    subst hrr
    go_wp2
    refine HK.out _ _ ?_
    clear HK
    go_wp2_with (first
      | (go_at_call 52; refine hmi.mono ?_; rintro e w2 ⟨⟨a3, c3, rfl, hO⟩, hb2⟩; have R2 := tr_bl hb2 RB)
      | ((with_reducible refine wpList_stB 108 _ _ ?_); refine ⟨_, _, _, ⟨_, _, _, Tryz.sizeOf108, rfl, R2, st5 _ rfl tg.rep tg.reg tg.pla tg.idx tg.inc⟩, ?_⟩; intro w8 B8 g8))
    have hb3 := hbr.trans (hb2.mono hbr.size)
    refine bodyPost_ret (results_t1c1t1 rfl rfl (run_loadVar_all Tryz.isAgg108 Tryz.sizeOf108 B8 rfl)) rfl ⟨⟨a3, c3, rfl, (hO.mono hbr.size).st g8 R2 (by decide)⟩, bl_st hb3 g8 hb3.size (Nat.le_refl _)⟩
set_option maxRecDepth 100000 in
set_option maxHeartbeats 1000000 in
theorem frame2_any (h : LgB w q g s) (hd : DiskB B g gp wv d w) (p : Int) (hp : 0 ≤ p ∧ p < 48) : Calls Tryz.prog 80 #[.pointer (some ⟨q, 0, none⟩), .int .i64 4, .int .i64 p] w fun e w' => FrRes w.heap.size (fr2 d s.rep 4 p) e w' ∧ Below w.heap.size w w' := by
  have hf := first4 hp
  unfold fr2
  obtain ⟨f, hff⟩ : ∃ f, firstN 4 p = f := ⟨_, rfl⟩
  rw [hff] at hf ⊢
  obtain ⟨r, hr⟩ : ∃ r, (if (readD d f).2 ≠ 0 ∨ (readD d (f + 1)).2 ≠ 0 then ((2 : Nat), zeroTg, ([] : List UInt8)) else mineF (preW d f 2) s.rep 4 p) = r := ⟨_, rfl⟩
  rw [hr]
  have HR := Lib.hid hr
  clear hr
  have hfb : 0 ≤ f ∧ f < 200 := by omega
  have HF := Lib.hid hff
  clear hf hff
  go_enter Tryz.func80, Tryz.ntmps80
  refine wp_seq_k (fun K hK => ?_)
  have HK := Lib.hid hK
  clear hK
  go_wp2
  refine HK.out _ _ ?_
  clear HK
  have hbz := blw w (Obj.cells #[.int .i64 0, .int .i64 0, .int .i64 0, .int .i64 0, .int .i64 0] 108)
  have RZ := heap_alloc_new w (Obj.cells #[.int .i64 0, .int .i64 0, .int .i64 0, .int .i64 0, .int .i64 0] 108)
  generalize w.alloc (Obj.cells #[.int .i64 0, .int .i64 0, .int .i64 0, .int .i64 0, .int .i64 0] 108) = w0 at *
  refine wp_seq_k (fun K hK => ?_)
  have HK := Lib.hid hK
  clear hK
  go_wp2
  refine HK.out _ _ ?_
  clear HK
  refine wp_seq_k (fun K hK => ?_)
  have HK := Lib.hid hK
  clear hK
  go_wp2_with (go_at_call 49; refine (wide_any 4 _).mono ?_; rintro e w1 ⟨rfl, hb1⟩)
  rw [show wideN 4 = 2 from rfl]
  have hbz1 := hbz.trans (hb1.mono hbz.size)
  have RZ1 := tr_bl hb1 RZ
  clear hbz hb1 RZ
  go_loopw [15, 9] (fun i o wr => ∃ (j : Nat) (v : Value), j ≤ 2 ∧ i = .int .i64 (j : Nat) ∧ o = v ∧ (∀ t : Nat, t < j → (readD d (f + t)).2 = 0) ∧ wr.ownsRow (w.heap.size + 1) 5 1 v (preW d f j).length (bys (preW d f j)) ∧ Below w.heap.size w wr ∧ wr.heap[w.heap.size]? = some (.cells #[.int .i64 0, .int .i64 0, .int .i64 0, .int .i64 0, .int .i64 0] 108 (0, 0))) (fun i _ _ => 2 - (intOf i).toNat)
  case atStart => exact ⟨0, _, by omega, rfl, rfl, fun t ht => absurd ht (by omega), World.ownsRow_nil _ _ _ _, hbz1, RZ1⟩
  case' round =>
    clear hbz1 RZ1
    obtain ⟨j, v, hj, rfl, rfl, hall, hown, hbr, RB⟩ := hrel
  rcases (show j = 0 ∨ j = 1 ∨ j = 2 by omega) with rfl | rfl | rfl
  · skip
    have hrd := fun w' (h' : DiskB B g gp wv d w') => read_slb h' (f)
    obtain ⟨bs, re, hbs⟩ : ∃ bs re, readD d (f) = (bs, re) := ⟨_, _, rfl⟩
    have hrl := read_len hd (f)
    rw [hbs] at hrl
    simp only [hbs] at hrd
    simp only at hrl
    have HBS := Lib.hid hbs
    clear hbs
    have hdr := hd.below hbr
    have hsr := h.below hbr
    have hpl : (preW d f 0).length = 64 * 0 := rfl
    have HPL := Lib.hid hpl
    have HPS := Lib.hid (show preW d f (0 + 1) = preW d f 0 ++ (readD d (f)).1 from rfl)
    clear hpl
    generalize preW d f 0 = pr at *
    refine wp_seq_k (fun K hK => ?_)
    have HK := Lib.hid hK
    clear hK
    go_wp2
    refine HK.out _ _ ?_
    clear HK
    refine wp_seq_k (fun K hK => ?_)
    have HK := Lib.hid hK
    clear hK
    go_wp2
    refine HK.out _ _ ?_
    clear HK
    refine wp_seq_k (fun K hK => ?_)
    have HK2 := Lib.hid hK
    clear hK
    refine wp_block ?_
    refine wp_seq_k (fun K hK => ?_)
    have HK := Lib.hid hK
    clear hK
    go_wp2
    refine HK.out _ _ ?_
    clear HK
    refine wp_seq_k (fun K hK => ?_)
    have HK3 := Lib.hid hK
    clear hK
    go_wp2_with fail
    have hbd := (Below.refl wr.heap.size wr).drew
    have D1 := hdr.below hbd
    have S1 := hsr.below hbd
    have R1 := tr_bl hbd RB
    have hb1 := hbr.trans (hbd.mono hbr.size)
    have o1 := owns_bl hown hbd
    refine wp_region_held_drew (S := fun w' => LgB w' q g s) (by kernel_rfl) S1 (fun hS0 => ?_)
    clear hbd hdr hsr hown hbr RB
    generalize wr.drew = x0 at *
    refine wpAnyH_take (i := 0) (oi := ⟨_, _, _, _, _, _⟩) (v := ?_) rfl (by kernel_rfl) (by kernel_rfl) (by kernel_rfl) (fun _ _ _ h => h) (Or.inl ⟨by rfl, ?_⟩) (by assumption) ?_
    rotate_left
    · intro wS hSw; go_simp; (try with_reducible rfl)
    (try simp only [Act.put]); (try simp only [List.setIfInBounds_toArray]); (try simp only [List.set_cons_succ]); (try simp only [List.set_cons_zero])
    refine wpAnyH_take (i := 1) (oi := ⟨_, _, _, _, _, _⟩) (v := ?_) rfl (by kernel_rfl) (by kernel_rfl) (by kernel_rfl) (fun _ _ _ h => h) (Or.inl ⟨by rfl, ?_⟩) (by assumption) ?_
    rotate_left
    · intro wS hSw; go_simp; (try with_reducible rfl)
    (try simp only [Act.put]); (try simp only [List.setIfInBounds_toArray]); (try simp only [List.set_cons_succ]); (try simp only [List.set_cons_zero])
    refine wpAnyH_take (i := 2) (oi := ⟨_, _, _, _, _, _⟩) (v := ?_) rfl (by kernel_rfl) (by kernel_rfl) (by kernel_rfl) (fun _ _ _ h => h) (Or.inl ⟨by rfl, ?_⟩) (by assumption) ?_
    rotate_left
    · intro wS hSw; go_simp; (try with_reducible rfl)
    (try simp only [Act.put]); (try simp only [List.setIfInBounds_toArray]); (try simp only [List.set_cons_succ]); (try simp only [List.set_cons_zero])
    refine wpAnyH_take (i := 3) (oi := ⟨_, _, _, _, _, _⟩) (v := ?_) rfl (by kernel_rfl) (by kernel_rfl) (by kernel_rfl) (fun _ _ _ h => h) (Or.inl ⟨by rfl, ?_⟩) (by assumption) ?_
    rotate_left
    · intro wS hSw
      have c := hSw.c0; go_simp; (try with_reducible rfl)
    (try simp only [Act.put]); (try simp only [List.setIfInBounds_toArray]); (try simp only [List.set_cons_succ]); (try simp only [List.set_cons_zero])
    refine wpAnyH_take (i := 4) (oi := ⟨_, _, _, _, _, _⟩) (v := ?_) rfl (by kernel_rfl) (by kernel_rfl) (by kernel_rfl) (fun _ _ _ h => h) (Or.inl ⟨by rfl, ?_⟩) (by assumption) ?_
    rotate_left
    · intro wS hSw; go_simp; (try with_reducible rfl)
    (try simp only [Act.put]); (try simp only [List.setIfInBounds_toArray]); (try simp only [List.set_cons_succ]); (try simp only [List.set_cons_zero])
    refine wpAnyH_take (i := 5) (oi := ⟨_, _, _, _, _, _⟩) (v := ?_) rfl (by kernel_rfl) (by kernel_rfl) (by kernel_rfl) (fun _ _ _ h => h) (Or.inl ⟨by rfl, ?_⟩) (by assumption) ?_
    rotate_left
    · intro wS hSw; go_simp; (try with_reducible rfl)
    (try simp only [Act.put]); (try simp only [List.setIfInBounds_toArray]); (try simp only [List.set_cons_succ]); (try simp only [List.set_cons_zero])
    refine wpAnyH_take (i := 7) (oi := ⟨_, _, _, _, _, _⟩) (v := ?_) rfl (by kernel_rfl) (by kernel_rfl) (by kernel_rfl) (fun _ _ _ h => h) (Or.inl ⟨by rfl, ?_⟩) (by assumption) ?_
    rotate_left
    · intro wS hSw; go_simp; (try with_reducible rfl)
    (try simp only [Act.put]); (try simp only [List.setIfInBounds_toArray]); (try simp only [List.set_cons_succ]); (try simp only [List.set_cons_zero])
    refine wpAnyH_ready (rs := [6]) (by kernel_rfl) (by simp) ?_
    refine AllReadyH.cons (o := ⟨_, _, _, _, _, _⟩) rfl (fun K' hK' => ?_) AllReadyH.nil
    refine (if_pos (by rfl)).mpr ?_
    go_simp
    refine (first_any 4 p _).mono ?_
    rintro e w2 ⟨rfl, hb2⟩
    rw [HF.out]
    have D2 := D1.below hb2
    have S2 := S1.below hb2
    have R2 := tr_bl hb2 R1
    have o2 := owns_bl o1 hb2
    have hb3 := hb1.trans (hb2.mono hb1.size)
    refine hK'.out _ _ S2 (fun _ => ?_)
    clear hK' D1 S1 R1 o1 hb1 hb2 hS0
    (try simp only [Act.put]); (try simp only [List.setIfInBounds_toArray]); (try simp only [List.set_cons_succ]); (try simp only [List.set_cons_zero])
    refine wpAnyH_take (i := 8) (oi := ⟨_, _, _, _, _, _⟩) (v := .int .i64 (f)) rfl (by kernel_rfl) (by kernel_rfl) (by kernel_rfl) (fun _ _ _ h => h) (Or.inl ⟨by rfl, fun wS hSw => ?_⟩) (by assumption) ?_
    · go_simp; (try rw [IntWalk.i64_in _ (by omega)])
    (try simp only [Act.put]); (try simp only [List.setIfInBounds_toArray]); (try simp only [List.set_cons_succ]); (try simp only [List.set_cons_zero])
    refine wpAnyH_ready (rs := [9]) (by kernel_rfl) (by simp) ?_
    refine AllReadyH.cons (o := ⟨_, _, _, _, _, _⟩) rfl (fun K' hK' => ?_) AllReadyH.nil
    refine (if_pos (by rfl)).mpr ?_
    go_simp
    refine (hrd _ D2).mono ?_
    rintro e w4 ⟨⟨a4, c4, rfl, s4⟩, hb4⟩
    have S4 := S2.below hb4
    have R4 := tr_bl hb4 R2
    have o4 := owns_bl o2 hb4
    have hb5 := hb3.trans (hb4.mono hb3.size)
    refine hK'.out _ _ S4 (fun _ => ?_)
    clear hK' D2 S2 R2 o2 hb3 hb4 hrd
    (try simp only [Act.put]); (try simp only [List.setIfInBounds_toArray]); (try simp only [List.set_cons_succ]); (try simp only [List.set_cons_zero])
    refine wpAnyH_take (i := 10) (oi := ⟨_, _, _, _, _, _⟩) (v := ?_) rfl (by kernel_rfl) (by kernel_rfl) (by kernel_rfl) (fun _ _ _ h => h) (Or.inl ⟨by rfl, ?_⟩) (by assumption) ?_
    rotate_left
    · intro wS hSw; go_simp; (try with_reducible rfl)
    (try simp only [Act.put]); (try simp only [List.setIfInBounds_toArray]); (try simp only [List.set_cons_succ]); (try simp only [List.set_cons_zero])
    refine wpAnyH_take (i := 11) (oi := ⟨_, _, _, _, _, _⟩) (v := ?_) rfl (by kernel_rfl) (by kernel_rfl) (by kernel_rfl) (fun _ _ _ h => h) (Or.inl ⟨by rfl, ?_⟩) (by assumption) ?_
    rotate_left
    · intro wS hSw; go_simp; (try with_reducible rfl)
    (try simp only [Act.put]); (try simp only [List.setIfInBounds_toArray]); (try simp only [List.set_cons_succ]); (try simp only [List.set_cons_zero])
    refine wpAnyH_take (i := 12) (oi := ⟨_, _, _, _, _, _⟩) (v := ?_) rfl (by kernel_rfl) (by kernel_rfl) (by kernel_rfl) (fun _ _ _ h => h) (Or.inl ⟨by rfl, ?_⟩) (by assumption) ?_
    rotate_left
    · intro wS hSw; go_simp; (try with_reducible rfl)
    (try simp only [Act.put]); (try simp only [List.setIfInBounds_toArray]); (try simp only [List.set_cons_succ]); (try simp only [List.set_cons_zero])
    refine wpAnyH_take (i := 13) (oi := ⟨_, _, _, _, _, _⟩) (v := ?_) rfl (by kernel_rfl) (by kernel_rfl) (by kernel_rfl) (fun _ _ _ h => h) (Or.inl ⟨by rfl, ?_⟩) (by assumption) ?_
    rotate_left
    · intro wS hSw; go_simp; (try with_reducible rfl)
    (try simp only [Act.put]); (try simp only [List.setIfInBounds_toArray]); (try simp only [List.set_cons_succ]); (try simp only [List.set_cons_zero])
    refine wpAnyH_take (i := 14) (oi := ⟨_, _, _, _, _, _⟩) (v := ?_) rfl (by kernel_rfl) (by kernel_rfl) (by kernel_rfl) (fun _ _ _ h => h) (Or.inl ⟨by rfl, ?_⟩) (by assumption) ?_
    rotate_left
    · intro wS hSw; go_simp; (try with_reducible rfl)
    (try simp only [Act.put]); (try simp only [List.setIfInBounds_toArray]); (try simp only [List.set_cons_succ]); (try simp only [List.set_cons_zero])
    refine wpAnyH_done (by kernel_rfl) ?_ _
    refine HK3.out _ _ ?_
    clear HK3
    by_cases h0 : re = 0
    · subst h0
      have HBL := Lib.hid (hrl.1 rfl)
      clear hrl
      refine wp_seq_k (fun K hK => ?_)
      have HK := Lib.hid hK
      clear hK
      go_wp2
      refine HK.out _ _ ?_
      clear HK
      go_wp2_with (at_builtin; refine wpList_append_row rfl _ _ 75 5 elByte rfl (w.heap.size + 1) _ pr.length (bys pr) rfl o4 a4 bs.length c4 (bys bs) rfl (by rw [bys_len]; omega) s4.row bys_one (by have := HPL.out; have := HBL.out; omega) (by decide) (lt_blk R4) ?_; intro v6 w6 ho6 hb6)
      (try simp only [Exit.inBlock, Exit.then])
      refine HK2.out _ _ ?_
      clear HK2
      go_wp2
      go_roundw
      case rel =>
        refine ⟨0 + 1, _, by omega, by rfl, rfl, fun t ht => ?_, ?_, hb5.trans (hb6.mono (by omega)), (hb6.block _ (by omega)).trans R4⟩
        · by_cases htj : t < 0
          · exact hall t htj
          · obtain rfl : t = 0 := by omega
            rw [show f + ((0 : Nat) : Int) = f by omega, HBS.out]
        · rw [HPS.out, HBS.out, List.length_append, bys_app]
          exact ho6
      case measure => simp [intOf]
    · have hn : (re != 0) = true := by rw [bne_iff_ne]; exact h0
      have hr0 : r = (2, zeroTg, []) := by
        rw [← HR.out, if_pos]
        (rw [HBS.out]; exact .inl h0)
      clear HK HR HPS
      subst hr0
      go_wp2_with ((with_reducible refine wpList_stB 108 _ _ ?_); refine ⟨_, _, _, ⟨_, _, _, Tryz.sizeOf108, rfl, R4, st5 _ rfl 0 0 0 0 0⟩, ?_⟩; intro w8 B8 g8)
      refine bodyPost_ret (results_t1c1t1 rfl rfl (run_loadVar_all Tryz.isAgg108 Tryz.sizeOf108 B8 rfl)) rfl ⟨FrRes.none rfl, bl_st hb5 g8 hb5.size (by omega)⟩
  · have hr0 := hall 0 (by omega)
    rw [show f + ((0 : Nat) : Int) = f by omega] at hr0
    skip
    have hrd := fun w' (h' : DiskB B g gp wv d w') => read_slb h' (f + 1)
    obtain ⟨bs, re, hbs⟩ : ∃ bs re, readD d (f + 1) = (bs, re) := ⟨_, _, rfl⟩
    have hrl := read_len hd (f + 1)
    rw [hbs] at hrl
    simp only [hbs] at hrd
    simp only at hrl
    have HBS := Lib.hid hbs
    clear hbs
    have hdr := hd.below hbr
    have hsr := h.below hbr
    have hpl : (preW d f 1).length = 64 * 1 := (read_len hd f).1 hr0
    have HPL := Lib.hid hpl
    have HPS := Lib.hid (show preW d f (1 + 1) = preW d f 1 ++ (readD d (f + 1)).1 from rfl)
    clear hpl
    generalize preW d f 1 = pr at *
    refine wp_seq_k (fun K hK => ?_)
    have HK := Lib.hid hK
    clear hK
    go_wp2
    refine HK.out _ _ ?_
    clear HK
    refine wp_seq_k (fun K hK => ?_)
    have HK := Lib.hid hK
    clear hK
    go_wp2
    refine HK.out _ _ ?_
    clear HK
    refine wp_seq_k (fun K hK => ?_)
    have HK2 := Lib.hid hK
    clear hK
    refine wp_block ?_
    refine wp_seq_k (fun K hK => ?_)
    have HK := Lib.hid hK
    clear hK
    go_wp2
    refine HK.out _ _ ?_
    clear HK
    refine wp_seq_k (fun K hK => ?_)
    have HK3 := Lib.hid hK
    clear hK
    go_wp2_with fail
    have hbd := (Below.refl wr.heap.size wr).drew
    have D1 := hdr.below hbd
    have S1 := hsr.below hbd
    have R1 := tr_bl hbd RB
    have hb1 := hbr.trans (hbd.mono hbr.size)
    have o1 := owns_bl hown hbd
    refine wp_region_held_drew (S := fun w' => LgB w' q g s) (by kernel_rfl) S1 (fun hS0 => ?_)
    clear hbd hdr hsr hown hbr RB
    generalize wr.drew = x0 at *
    refine wpAnyH_take (i := 0) (oi := ⟨_, _, _, _, _, _⟩) (v := ?_) rfl (by kernel_rfl) (by kernel_rfl) (by kernel_rfl) (fun _ _ _ h => h) (Or.inl ⟨by rfl, ?_⟩) (by assumption) ?_
    rotate_left
    · intro wS hSw; go_simp; (try with_reducible rfl)
    (try simp only [Act.put]); (try simp only [List.setIfInBounds_toArray]); (try simp only [List.set_cons_succ]); (try simp only [List.set_cons_zero])
    refine wpAnyH_take (i := 1) (oi := ⟨_, _, _, _, _, _⟩) (v := ?_) rfl (by kernel_rfl) (by kernel_rfl) (by kernel_rfl) (fun _ _ _ h => h) (Or.inl ⟨by rfl, ?_⟩) (by assumption) ?_
    rotate_left
    · intro wS hSw; go_simp; (try with_reducible rfl)
    (try simp only [Act.put]); (try simp only [List.setIfInBounds_toArray]); (try simp only [List.set_cons_succ]); (try simp only [List.set_cons_zero])
    refine wpAnyH_take (i := 2) (oi := ⟨_, _, _, _, _, _⟩) (v := ?_) rfl (by kernel_rfl) (by kernel_rfl) (by kernel_rfl) (fun _ _ _ h => h) (Or.inl ⟨by rfl, ?_⟩) (by assumption) ?_
    rotate_left
    · intro wS hSw; go_simp; (try with_reducible rfl)
    (try simp only [Act.put]); (try simp only [List.setIfInBounds_toArray]); (try simp only [List.set_cons_succ]); (try simp only [List.set_cons_zero])
    refine wpAnyH_take (i := 3) (oi := ⟨_, _, _, _, _, _⟩) (v := ?_) rfl (by kernel_rfl) (by kernel_rfl) (by kernel_rfl) (fun _ _ _ h => h) (Or.inl ⟨by rfl, ?_⟩) (by assumption) ?_
    rotate_left
    · intro wS hSw
      have c := hSw.c0; go_simp; (try with_reducible rfl)
    (try simp only [Act.put]); (try simp only [List.setIfInBounds_toArray]); (try simp only [List.set_cons_succ]); (try simp only [List.set_cons_zero])
    refine wpAnyH_take (i := 4) (oi := ⟨_, _, _, _, _, _⟩) (v := ?_) rfl (by kernel_rfl) (by kernel_rfl) (by kernel_rfl) (fun _ _ _ h => h) (Or.inl ⟨by rfl, ?_⟩) (by assumption) ?_
    rotate_left
    · intro wS hSw; go_simp; (try with_reducible rfl)
    (try simp only [Act.put]); (try simp only [List.setIfInBounds_toArray]); (try simp only [List.set_cons_succ]); (try simp only [List.set_cons_zero])
    refine wpAnyH_take (i := 5) (oi := ⟨_, _, _, _, _, _⟩) (v := ?_) rfl (by kernel_rfl) (by kernel_rfl) (by kernel_rfl) (fun _ _ _ h => h) (Or.inl ⟨by rfl, ?_⟩) (by assumption) ?_
    rotate_left
    · intro wS hSw; go_simp; (try with_reducible rfl)
    (try simp only [Act.put]); (try simp only [List.setIfInBounds_toArray]); (try simp only [List.set_cons_succ]); (try simp only [List.set_cons_zero])
    refine wpAnyH_take (i := 7) (oi := ⟨_, _, _, _, _, _⟩) (v := ?_) rfl (by kernel_rfl) (by kernel_rfl) (by kernel_rfl) (fun _ _ _ h => h) (Or.inl ⟨by rfl, ?_⟩) (by assumption) ?_
    rotate_left
    · intro wS hSw; go_simp; (try with_reducible rfl)
    (try simp only [Act.put]); (try simp only [List.setIfInBounds_toArray]); (try simp only [List.set_cons_succ]); (try simp only [List.set_cons_zero])
    refine wpAnyH_ready (rs := [6]) (by kernel_rfl) (by simp) ?_
    refine AllReadyH.cons (o := ⟨_, _, _, _, _, _⟩) rfl (fun K' hK' => ?_) AllReadyH.nil
    refine (if_pos (by rfl)).mpr ?_
    go_simp
    refine (first_any 4 p _).mono ?_
    rintro e w2 ⟨rfl, hb2⟩
    rw [HF.out]
    have D2 := D1.below hb2
    have S2 := S1.below hb2
    have R2 := tr_bl hb2 R1
    have o2 := owns_bl o1 hb2
    have hb3 := hb1.trans (hb2.mono hb1.size)
    refine hK'.out _ _ S2 (fun _ => ?_)
    clear hK' D1 S1 R1 o1 hb1 hb2 hS0
    (try simp only [Act.put]); (try simp only [List.setIfInBounds_toArray]); (try simp only [List.set_cons_succ]); (try simp only [List.set_cons_zero])
    refine wpAnyH_take (i := 8) (oi := ⟨_, _, _, _, _, _⟩) (v := .int .i64 (f + 1)) rfl (by kernel_rfl) (by kernel_rfl) (by kernel_rfl) (fun _ _ _ h => h) (Or.inl ⟨by rfl, fun wS hSw => ?_⟩) (by assumption) ?_
    · go_simp; (try rw [IntWalk.i64_in _ (by omega)])
    (try simp only [Act.put]); (try simp only [List.setIfInBounds_toArray]); (try simp only [List.set_cons_succ]); (try simp only [List.set_cons_zero])
    refine wpAnyH_ready (rs := [9]) (by kernel_rfl) (by simp) ?_
    refine AllReadyH.cons (o := ⟨_, _, _, _, _, _⟩) rfl (fun K' hK' => ?_) AllReadyH.nil
    refine (if_pos (by rfl)).mpr ?_
    go_simp
    refine (hrd _ D2).mono ?_
    rintro e w4 ⟨⟨a4, c4, rfl, s4⟩, hb4⟩
    have S4 := S2.below hb4
    have R4 := tr_bl hb4 R2
    have o4 := owns_bl o2 hb4
    have hb5 := hb3.trans (hb4.mono hb3.size)
    refine hK'.out _ _ S4 (fun _ => ?_)
    clear hK' D2 S2 R2 o2 hb3 hb4 hrd
    (try simp only [Act.put]); (try simp only [List.setIfInBounds_toArray]); (try simp only [List.set_cons_succ]); (try simp only [List.set_cons_zero])
    refine wpAnyH_take (i := 10) (oi := ⟨_, _, _, _, _, _⟩) (v := ?_) rfl (by kernel_rfl) (by kernel_rfl) (by kernel_rfl) (fun _ _ _ h => h) (Or.inl ⟨by rfl, ?_⟩) (by assumption) ?_
    rotate_left
    · intro wS hSw; go_simp; (try with_reducible rfl)
    (try simp only [Act.put]); (try simp only [List.setIfInBounds_toArray]); (try simp only [List.set_cons_succ]); (try simp only [List.set_cons_zero])
    refine wpAnyH_take (i := 11) (oi := ⟨_, _, _, _, _, _⟩) (v := ?_) rfl (by kernel_rfl) (by kernel_rfl) (by kernel_rfl) (fun _ _ _ h => h) (Or.inl ⟨by rfl, ?_⟩) (by assumption) ?_
    rotate_left
    · intro wS hSw; go_simp; (try with_reducible rfl)
    (try simp only [Act.put]); (try simp only [List.setIfInBounds_toArray]); (try simp only [List.set_cons_succ]); (try simp only [List.set_cons_zero])
    refine wpAnyH_take (i := 12) (oi := ⟨_, _, _, _, _, _⟩) (v := ?_) rfl (by kernel_rfl) (by kernel_rfl) (by kernel_rfl) (fun _ _ _ h => h) (Or.inl ⟨by rfl, ?_⟩) (by assumption) ?_
    rotate_left
    · intro wS hSw; go_simp; (try with_reducible rfl)
    (try simp only [Act.put]); (try simp only [List.setIfInBounds_toArray]); (try simp only [List.set_cons_succ]); (try simp only [List.set_cons_zero])
    refine wpAnyH_take (i := 13) (oi := ⟨_, _, _, _, _, _⟩) (v := ?_) rfl (by kernel_rfl) (by kernel_rfl) (by kernel_rfl) (fun _ _ _ h => h) (Or.inl ⟨by rfl, ?_⟩) (by assumption) ?_
    rotate_left
    · intro wS hSw; go_simp; (try with_reducible rfl)
    (try simp only [Act.put]); (try simp only [List.setIfInBounds_toArray]); (try simp only [List.set_cons_succ]); (try simp only [List.set_cons_zero])
    refine wpAnyH_take (i := 14) (oi := ⟨_, _, _, _, _, _⟩) (v := ?_) rfl (by kernel_rfl) (by kernel_rfl) (by kernel_rfl) (fun _ _ _ h => h) (Or.inl ⟨by rfl, ?_⟩) (by assumption) ?_
    rotate_left
    · intro wS hSw; go_simp; (try with_reducible rfl)
    (try simp only [Act.put]); (try simp only [List.setIfInBounds_toArray]); (try simp only [List.set_cons_succ]); (try simp only [List.set_cons_zero])
    refine wpAnyH_done (by kernel_rfl) ?_ _
    refine HK3.out _ _ ?_
    clear HK3
    by_cases h0 : re = 0
    · subst h0
      have HBL := Lib.hid (hrl.1 rfl)
      clear hrl
      refine wp_seq_k (fun K hK => ?_)
      have HK := Lib.hid hK
      clear hK
      go_wp2
      refine HK.out _ _ ?_
      clear HK
      go_wp2_with (at_builtin; refine wpList_append_row rfl _ _ 75 5 elByte rfl (w.heap.size + 1) _ pr.length (bys pr) rfl o4 a4 bs.length c4 (bys bs) rfl (by rw [bys_len]; omega) s4.row bys_one (by have := HPL.out; have := HBL.out; omega) (by decide) (lt_blk R4) ?_; intro v6 w6 ho6 hb6)
      (try simp only [Exit.inBlock, Exit.then])
      refine HK2.out _ _ ?_
      clear HK2
      go_wp2
      go_roundw
      case rel =>
        refine ⟨1 + 1, _, by omega, by rfl, rfl, fun t ht => ?_, ?_, hb5.trans (hb6.mono (by omega)), (hb6.block _ (by omega)).trans R4⟩
        · by_cases htj : t < 1
          · exact hall t htj
          · obtain rfl : t = 1 := by omega
            rw [show f + ((1 : Nat) : Int) = f + 1 by omega, HBS.out]
        · rw [HPS.out, HBS.out, List.length_append, bys_app]
          exact ho6
      case measure => simp [intOf]
    · have hn : (re != 0) = true := by rw [bne_iff_ne]; exact h0
      have hr0 : r = (2, zeroTg, []) := by
        rw [← HR.out, if_pos]
        (rw [HBS.out]; exact .inr h0)
      clear HK HR HPS
      subst hr0
      go_wp2_with ((with_reducible refine wpList_stB 108 _ _ ?_); refine ⟨_, _, _, ⟨_, _, _, Tryz.sizeOf108, rfl, R4, st5 _ rfl 0 0 0 0 0⟩, ?_⟩; intro w8 B8 g8)
      refine bodyPost_ret (results_t1c1t1 rfl rfl (run_loadVar_all Tryz.isAgg108 Tryz.sizeOf108 B8 rfl)) rfl ⟨FrRes.none rfl, bl_st hb5 g8 hb5.size (by omega)⟩
  · have hr0 := hall 0 (by omega)
    have hr1 := hall 1 (by omega)
    rw [show f + ((0 : Nat) : Int) = f by omega] at hr0
    rw [show f + ((1 : Nat) : Int) = f + 1 by omega] at hr1
    skip
    have hlen : (preW d f 2).length = 64 * 2 := (by show ((readD d f).1 ++ (readD d (f + 1)).1).length = 128; rw [List.length_append, (read_len hd f).1 hr0, (read_len hd (f + 1)).1 hr1])
    clear hall
    generalize preW d f 2 = b at *
    obtain ⟨a2, c2, rfl, s2⟩ := SlB.of_owns hown
    have hmi := mine_any a2 c2 b s.rep 4 p wr s2 (by omega)
    have hml := mine_len3 b s.rep 4 p
    obtain ⟨st, tg, body, hmm⟩ : ∃ st tg body, mineF b s.rep 4 p = (st, tg, body) := ⟨_, _, _, rfl⟩
    have hrr := HR.out
    rw [if_neg (by simp [hr0, hr1]), hmm] at hrr
    rw [hmm] at hmi
    have c1 := (h.below hbr).c1
    clear hmm hown hlen HR hml
    generalize hbn : b.length = bn at *
    clear hbn
    subst hrr
    go_wp2
    refine HK.out _ _ ?_
    clear HK
    go_wp2_with (first
      | (go_at_call 52; refine hmi.mono ?_; rintro e w2 ⟨⟨a3, c3, rfl, hO⟩, hb2⟩; have R2 := tr_bl hb2 RB)
      | ((with_reducible refine wpList_stB 108 _ _ ?_); refine ⟨_, _, _, ⟨_, _, _, Tryz.sizeOf108, rfl, R2, st5 _ rfl tg.rep tg.reg tg.pla tg.idx tg.inc⟩, ?_⟩; intro w8 B8 g8))
    have hb3 := hbr.trans (hb2.mono hbr.size)
    refine bodyPost_ret (results_t1c1t1 rfl rfl (run_loadVar_all Tryz.isAgg108 Tryz.sizeOf108 B8 rfl)) rfl ⟨⟨a3, c3, rfl, (hO.mono hbr.size).st g8 R2 (by decide)⟩, bl_st hb3 g8 hb3.size (Nat.le_refl _)⟩
end
end Go.Proofs.YtknchbhobopkeaaGreatDoor
namespace Go.Proofs.YtknchbhobopkeaaGreatDoor
open Go.RowKit
def zRec (st : Nat) : SRec := ⟨st, 0, zeroL, 0⟩
def zCp (st : Nat) : SCp := ⟨st, 0, zeroL, zeroE 0⟩
def recOf (r : Nat × Tg × List UInt8) : SRec := if r.1 ≠ 1 then zRec r.1 else match parseR r.2.2 with | none => zRec 2 | some (b, k) => ⟨1, r.2.1.idx, b, (k : Nat)⟩
def cpOf (r : Nat × Tg × List UInt8) : SCp := if r.1 ≠ 1 then zCp r.1 else match parseE r.2.2 with | none => zCp 2 | some (b, e) => ⟨1, r.2.1.idx, b, e⟩
def recW (d : Dk) (s : Lg) (i : Int) : SRec := recOf (fr1 d s.rep 3 (plW i))
def cpW (d : Dk) (s : Lg) (i : Int) (k : Nat) : SCp := cpOf (fr2 d s.rep 4 (2 * plW i + k))
theorem recOf_wh (r : Nat × Tg × List UInt8) : (recOf r).wh = 0 ∨ (recOf r).wh = 1 := by
  unfold recOf
  split
  · exact .inl rfl
  · cases h : parseR r.2.2 with
    | none => exact .inl rfl
    | some x =>
      obtain ⟨b, k⟩ := x
      unfold parseR at h
      split at h
      · rename_i hc
        injection h with h
        injection h with _ h
        simp only
        omega
      · cases h
theorem tgV_nw (t : Tg) : (tgV t).cells = #[.int .i64 t.rep, .int .i64 t.reg, .int .i64 t.pla, .int .i64 t.idx, .int .i64 t.inc] ∧ (#[Value.int .i64 t.rep, .int .i64 t.reg, .int .i64 t.pla, .int .i64 t.idx, .int .i64 t.inc]).size = 5 ∧ ∀ u ∈ (#[Value.int .i64 t.rep, .int .i64 t.reg, .int .i64 t.pla, .int .i64 t.idx, .int .i64 t.inc]).toList, u.oneCell' = true := ⟨rfl, rfl, by simp [Value.oneCell']⟩
theorem rec_over (p p' : SRec) : 0 + 5 ≤ (recA p).size ∧ (Value.agg (recA p')).cells.size = 5 ∧ (∀ u ∈ (Value.agg (recA p')).cells.toList, u.oneCell' = true) ∧ ((recA p).toList.take 0 ++ (Value.agg (recA p')).cells.toList ++ (recA p).toList.drop (0 + 5)).toArray = recA p' :=
  ⟨by show _ ≤ 5; omega, rfl, by simp [Value.cells, recA, Value.oneCell'], rfl⟩
theorem cpy_over (p p' : SCp) : 0 + 11 ≤ (cpyA p).size ∧ (Value.agg (cpyA p')).cells.size = 11 ∧ (∀ u ∈ (Value.agg (cpyA p')).cells.toList, u.oneCell' = true) ∧ ((cpyA p).toList.take 0 ++ (Value.agg (cpyA p')).cells.toList ++ (cpyA p).toList.drop (0 + 11)).toArray = cpyA p' :=
  ⟨by show _ ≤ 11; omega, rfl, by simp [Value.cells, cpyA, Value.oneCell'], rfl⟩
theorem build_rec (st : Nat) (x : Int) (b : Bal) (wh : Int) (w : World) : (Instr.build 79 #[(0, .int .u8 (st : Int)), (1, .int .i64 x), (2, .agg (blA b)), (3, .int .i64 wh)]).run Tryz.prog w = .ok (.agg (recA ⟨st, x, b, wh⟩)) w := by kernel_rfl
theorem wpList_brec {a : Act} {w : World} {ops : Array Oper} {rest : List Oper} {Q : Exit → Act → World → Prop} {dst : Option Tmp} {ty' : TypeId} {pos : String} {af : Array Edge} (st : Nat) (x : Int) (b : Bal) (wh : Int) (o0 o1 o2 o3 : Operand) (h0 : a.eval o0 = .int .u8 (st : Int)) (h1 : a.eval o1 = .int .i64 x) (h2 : a.eval o2 = .agg (blA b)) (h3 : a.eval o3 = .int .i64 wh)
    (h : wpList Tryz.prog ops Q rest (a.put dst (.agg (recA ⟨st, x, b, wh⟩))) w) : wpList Tryz.prog ops Q (Oper.mk dst (.build 79 #[(0, o0), (1, o1), (2, o2), (3, o3)]) ty' pos af none :: rest) a w :=
  wpList_run rfl (by
    have hb := build_rec st x b wh w
    unfold execOp
    simp [h0, h1, h2, h3, hb]) h
theorem build_cpy (st : Nat) (x : Int) (b : Bal) (e : En) (w : World) : (Instr.build 81 #[(0, .int .u8 (st : Int)), (1, .int .i64 x), (2, .agg (blA b)), (3, .agg (enA e))]).run Tryz.prog w = .ok (.agg (cpyA ⟨st, x, b, e⟩)) w := by kernel_rfl
theorem wpList_bcpy {a : Act} {w : World} {ops : Array Oper} {rest : List Oper} {Q : Exit → Act → World → Prop} {dst : Option Tmp} {ty' : TypeId} {pos : String} {af : Array Edge} (st : Nat) (x : Int) (b : Bal) (e : En) (o0 o1 o2 o3 : Operand) (h0 : a.eval o0 = .int .u8 (st : Int)) (h1 : a.eval o1 = .int .i64 x) (h2 : a.eval o2 = .agg (blA b)) (h3 : a.eval o3 = .agg (enA e))
    (h : wpList Tryz.prog ops Q rest (a.put dst (.agg (cpyA ⟨st, x, b, e⟩))) w) : wpList Tryz.prog ops Q (Oper.mk dst (.build 81 #[(0, o0), (1, o1), (2, o2), (3, o3)]) ty' pos af none :: rest) a w :=
  wpList_run rfl (by
    have hb := build_cpy st x b e w
    unfold execOp
    simp [h0, h1, h2, h3, hb]) h
def NxR (r : Option (Bal × Nat)) : Bal × Nat × Int := match r with | some (b, k) => (b, k, 0) | none => (zeroL, 0, 90)
theorem RcV_eq (r : Option (Bal × Nat)) : RcV r = .tuple #[.agg (blA (NxR r).1), .int .i64 ((NxR r).2.1 : Int), .int .i64 (NxR r).2.2] := by cases r <;> rfl
def NxE (r : Option (Bal × En)) : Bal × En × Int := match r with | some (b, e) => (b, e, 0) | none => (zeroL, zeroE 0, 90)
theorem PsV_eq (r : Option (Bal × En)) : PsV r = .tuple #[.agg (blA (NxE r).1), .agg (enA (NxE r).2.1), .int .i64 (NxE r).2.2] := by cases r <;> rfl
theorem new_two (w : World) (A C : Obj) : ((w.alloc A).alloc C).heap[w.heap.size + 1]? = some C := by
  have h := heap_alloc_new (w.alloc A) C
  rwa [show (w.alloc A).heap.size = w.heap.size + 1 by simp] at h
section
variable {B g gp q : Nat} {wv : Value} {d : Dk} {w : World} {s : Lg}
theorem fr1_len (hd : DiskB B g gp wv d w) (p : Int) : (fr1 d s.rep 3 p).2.2.length ≤ 1000 := by
  unfold fr1
  split
  · simp
  · have h1 := mine_len3 (preW d (firstN 3 p) 1) s.rep 3 p
    have h2 : (preW d (firstN 3 p) 1).length = 64 := (read_len hd (firstN 3 p)).1 (by rename_i h; simpa using h)
    omega
theorem fr2_len (hd : DiskB B g gp wv d w) (p : Int) : (fr2 d s.rep 4 p).2.2.length ≤ 1000 := by
  unfold fr2
  split
  · simp
  · rename_i h
    have h1 := mine_len3 (preW d (firstN 4 p) 2) s.rep 4 p
    have h2 : (preW d (firstN 4 p) 2).length = 128 := by
      show ((readD d (firstN 4 p)).1 ++ (readD d (firstN 4 p + 1)).1).length = 128
      rw [List.length_append, (read_len hd (firstN 4 p)).1 (by simpa using (fun e => h (Or.inl e))), (read_len hd (firstN 4 p + 1)).1 (by simpa using (fun e => h (Or.inr e)))]
    omega
set_option maxRecDepth 100000 in
set_option maxHeartbeats 1000000 in
theorem record_any (h : LgB w q g s) (hd : DiskB B g gp wv d w) (i : Int) (h1 : 1 ≤ i) (h2 : i ≤ 1099511627776) : Calls Tryz.prog 58 #[.pointer (some ⟨q, 0, none⟩), .int .i64 i] w fun e w' => e = .returned (.agg (recA (recW d s i))) ∧ Below w.heap.size w w' := by
  unfold recW
  have hfl := fr1_len (s := s) hd (plW i)
  have hfr := fun w' (h : LgB w' q g s) (D : DiskB B g gp wv d w') => frame1_any h D (plW i) plW_in
  have hpl := fun w => wplace_any i h1 h2 w
  obtain ⟨st, tg, body, hr⟩ : ∃ st tg body, fr1 d s.rep 3 (plW i) = (st, tg, body) := ⟨_, _, _, rfl⟩
  rw [hr] at hfl ⊢
  simp only [hr] at hfr
  simp only at hfl
  generalize plW i = p at *
  obtain ⟨r, hrr⟩ : ∃ r, recOf (st, tg, body) = r := ⟨_, rfl⟩
  rw [hrr]
  unfold recOf at hrr
  simp only at hrr
  have HRR := Lib.hid hrr
  clear hr hrr
  have hbz := blw w (Obj.cells #[.int .u8 0, .int .i64 0, .int .i64 0, .int .i64 0, .int .i64 0] 79)
  have R0 : (w.alloc (Obj.cells #[.int .u8 0, .int .i64 0, .int .i64 0, .int .i64 0, .int .i64 0] 79)).heap[w.heap.size]? = some (.cells (recA (zRec 0)) 79 (0, 0)) := heap_alloc_new w (Obj.cells #[.int .u8 0, .int .i64 0, .int .i64 0, .int .i64 0, .int .i64 0] 79)
  have L0 := h.below hbz
  have D0 := hd.below hbz
  go_enter Tryz.func58, Tryz.ntmps58
  refine wp_seq_k (fun K hK => ?_)
  have HK := Lib.hid hK
  clear hK
  go_wp2
  refine HK.out _ _ ?_
  clear HK
  generalize w.alloc (Obj.cells #[.int .u8 0, .int .i64 0, .int .i64 0, .int .i64 0, .int .i64 0] 79) = w0 at *
  clear h hd h1 h2
  refine wp_seq_k (fun K hK => ?_)
  have HK := Lib.hid hK
  clear hK
  go_wp2_with (first
      | (go_at_call 34; refine (hpl _).mono ?_; rintro e w1 ⟨rfl, rfl⟩)
      | (go_at_call 80; refine (hfr _ L0 D0).mono ?_; rintro e w2 ⟨⟨a3, c3, rfl, hO⟩, hb2⟩)
      | ((first | (with_reducible refine wpList_stNew 108 _ _ ?_) | (with_reducible refine wp_stNew 108 _ _ ?_)); refine ⟨_, _, ⟨Tryz.sizeOf108, rfl, tgV_nw _⟩, rfl, ?_⟩))
  refine HK.out _ _ ?_
  clear HK
  have hbt := blw w2 (Obj.cells #[.int .i64 tg.rep, .int .i64 tg.reg, .int .i64 tg.pla, .int .i64 tg.idx, .int .i64 tg.inc] 108)
  have T3 := heap_alloc_new w2 (Obj.cells #[.int .i64 tg.rep, .int .i64 tg.reg, .int .i64 tg.pla, .int .i64 tg.idx, .int .i64 tg.inc] 108)
  have R3 := tr_bl hbt (tr_bl hb2 R0)
  have S3 := (hO.below hbt).slb
  have hb3 := hbz.trans (hb2.mono hbz.size)
  have hb4 := hb3.trans (hbt.mono hb3.size)
  clear hbz R0 L0 D0 hpl hfr hO hb2 hb3 hbt
  (try simp only at S3)
  generalize w2.alloc (Obj.cells #[.int .i64 tg.rep, .int .i64 tg.reg, .int .i64 tg.pla, .int .i64 tg.idx, .int .i64 tg.inc] 108) = w3 at *
  generalize w2.heap.size = tb at *
  by_cases hst : st = 1
  case neg =>
    have e1 : ((st : Int) != 1) = true := by rw [bne_iff_ne]; omega
    obtain rfl : zRec st = r := by rw [← HRR.out, if_pos hst]
    have hb5 := hb4
    have RB := R3
    clear HRR hst
    go_wp2_with ((with_reducible refine wpList_stB 79 _ _ ?_); refine ⟨_, _, _, ⟨_, _, _, Tryz.sizeOf79, rfl, RB, rec_over _ (zRec st)⟩, ?_⟩; intro w9 R9 g9)
    refine bodyPost_ret (results_c1 rfl rfl (run_loadVar_all Tryz.isAgg79 Tryz.sizeOf79 R9 rfl)) rfl ⟨rfl, bls hb5 (Nat.le_refl _) g9 (Nat.le_refl _)⟩
  case pos =>
    subst hst
    have hps := bparse_any a3 c3 body w3 S3 (by omega)
    rw [RcV_eq] at hps
    obtain ⟨b, k, er, hnx⟩ : ∃ b k er, NxR (parseR body) = (b, k, er) := ⟨_, _, _, rfl⟩
    rw [hnx] at hps
    simp only at hps
    have HNX := Lib.hid hnx
    clear hnx
    refine wp_seq_k (fun K hK => ?_)
    have HK := Lib.hid hK
    clear hK
    go_wp2
    refine HK.out _ _ ?_
    clear HK
    refine wp_seq_k (fun K hK => ?_)
    have HK := Lib.hid hK
    clear hK
    go_wp2_with (first
          | (go_at_call 81; refine hps.mono ?_; rintro e w4 ⟨rfl, hb6⟩)
          | ((first | (with_reducible refine wpList_stNew 32 _ _ ?_) | (with_reducible refine wp_stNew 32 _ _ ?_)); refine ⟨_, _, ⟨Tryz.sizeOf32, rfl, bl_new _⟩, rfl, ?_⟩))
    refine HK.out _ _ ?_
    clear HK
    have hbb := blw w4 (Obj.cells (blA b) 32)
    have C5 := heap_alloc_new w4 (Obj.cells (blA b) 32)
    have T5 := tr_bl hbb (tr_bl hb6 T3)
    have RB := tr_bl hbb (tr_bl hb6 R3)
    have hb7 := hb4.trans (hb6.mono hb4.size)
    have hb5 := hb7.trans (hbb.mono hb7.size)
    clear hps T3 R3 S3 hb4 hb6 hbb hb7
    generalize w4.alloc (Obj.cells (blA b) 32) = w5 at *
    generalize w4.heap.size = cb at *
    have hrr := HRR.out
    rw [if_neg (by simp)] at hrr
    have hnx := HNX.out
    cases hp : parseR body with
    | none =>
      rw [hp] at hrr hnx
      simp only [NxR, Prod.mk.injEq] at hrr hnx
      obtain ⟨rfl, rfl, rfl⟩ := hnx
      subst hrr
      clear HRR HNX hp
      go_wp2_with ((with_reducible refine wpList_stB 79 _ _ ?_); refine ⟨_, _, _, ⟨_, _, _, Tryz.sizeOf79, rfl, RB, rec_over _ (zRec 2)⟩, ?_⟩; intro w9 R9 g9)
      refine bodyPost_ret (results_c1 rfl rfl (run_loadVar_all Tryz.isAgg79 Tryz.sizeOf79 R9 rfl)) rfl ⟨rfl, bls hb5 (Nat.le_refl _) g9 (Nat.le_refl _)⟩
    | some x =>
      obtain ⟨b', k'⟩ := x
      rw [hp] at hrr hnx
      simp only [NxR, Prod.mk.injEq] at hrr hnx
      obtain ⟨rfl, rfl, rfl⟩ := hnx
      subst hrr
      clear HRR HNX hp
      have t3 : w5.cell? ⟨tb, 3, none⟩ = some (.int .i64 tg.idx) := blk_cell T5 3 _ rfl
      go_wp2_with (first
        | ((with_reducible refine wpList_ldB 32 _ ?_); refine ⟨rfl, _, ⟨_, _, _, _, _, Tryz.isAgg32, Tryz.sizeOf32, rfl, ‹_›, arr_all rfl⟩, ?_⟩)
        | (with_reducible refine wpList_brec 1 tg.idx b' (k' : Int) _ _ _ _ (by simp [Act.eval]) (by simp [Act.eval]) (by simp [Act.eval]) (by simp [Act.eval]) ?_)
        | ((with_reducible refine wpList_stB 79 _ _ ?_); refine ⟨_, _, _, ⟨_, _, _, Tryz.sizeOf79, rfl, RB, rec_over _ ⟨1, tg.idx, b', (k' : Int)⟩⟩, ?_⟩; intro w9 R9 g9))
      refine bodyPost_ret (results_c1 rfl rfl (run_loadVar_all Tryz.isAgg79 Tryz.sizeOf79 R9 rfl)) rfl ⟨rfl, bls hb5 (Nat.le_refl _) g9 (Nat.le_refl _)⟩
set_option maxRecDepth 100000 in
set_option maxHeartbeats 1000000 in
theorem copied_any (h : LgB w q g s) (hd : DiskB B g gp wv d w) (i : Int) (h1 : 1 ≤ i) (h2 : i ≤ 1099511627776) (wh : Nat) (hwh : wh < 2) : Calls Tryz.prog 59 #[.pointer (some ⟨q, 0, none⟩), .int .i64 i, .int .i64 wh] w fun e w' => e = .returned (.agg (cpyA (cpW d s i wh))) ∧ Below w.heap.size w w' := by
  unfold cpW
  have hpin := plW_in (i := i)
  have hfl := fr2_len (s := s) hd (2 * plW i + wh)
  have hfr := fun w' (h : LgB w' q g s) (D : DiskB B g gp wv d w') => frame2_any h D (2 * plW i + wh) (by omega)
  have hpl := fun w => wplace_any i h1 h2 w
  obtain ⟨st, tg, body, hr⟩ : ∃ st tg body, fr2 d s.rep 4 (2 * plW i + wh) = (st, tg, body) := ⟨_, _, _, rfl⟩
  rw [hr] at hfl ⊢
  simp only [hr] at hfr
  simp only at hfl
  generalize plW i = p at *
  have hwi : 0 ≤ (wh : Int) ∧ (wh : Int) < 2 := by omega
  generalize (wh : Int) = wi at *
  obtain ⟨r, hrr⟩ : ∃ r, cpOf (st, tg, body) = r := ⟨_, rfl⟩
  rw [hrr]
  unfold cpOf at hrr
  simp only at hrr
  have HRR := Lib.hid hrr
  clear hr hrr hwh
  have hbz := blw w (Obj.cells #[.int .u8 0, .int .i64 0, .int .i64 0, .int .i64 0, .int .u8 0, .int .i64 0, .int .i64 0, .int .u8 0, .string ⟨#[]⟩, .string ⟨#[]⟩, .string ⟨#[]⟩] 81)
  have R0 : (w.alloc (Obj.cells #[.int .u8 0, .int .i64 0, .int .i64 0, .int .i64 0, .int .u8 0, .int .i64 0, .int .i64 0, .int .u8 0, .string ⟨#[]⟩, .string ⟨#[]⟩, .string ⟨#[]⟩] 81)).heap[w.heap.size]? = some (.cells (cpyA (zCp 0)) 81 (0, 0)) := heap_alloc_new w (Obj.cells #[.int .u8 0, .int .i64 0, .int .i64 0, .int .i64 0, .int .u8 0, .int .i64 0, .int .i64 0, .int .u8 0, .string ⟨#[]⟩, .string ⟨#[]⟩, .string ⟨#[]⟩] 81)
  have L0 := h.below hbz
  have D0 := hd.below hbz
  go_enter Tryz.func59, Tryz.ntmps59
  refine wp_seq_k (fun K hK => ?_)
  have HK := Lib.hid hK
  clear hK
  go_wp2
  refine HK.out _ _ ?_
  clear HK
  generalize w.alloc (Obj.cells #[.int .u8 0, .int .i64 0, .int .i64 0, .int .i64 0, .int .u8 0, .int .i64 0, .int .i64 0, .int .u8 0, .string ⟨#[]⟩, .string ⟨#[]⟩, .string ⟨#[]⟩] 81) = w0 at *
  clear h hd h1 h2
  refine wp_seq_k (fun K hK => ?_)
  have HK := Lib.hid hK
  clear hK
  go_wp2_with (first
      | (go_at_call 34; refine (hpl _).mono ?_; rintro e w1 ⟨rfl, rfl⟩)
      | (go_at_call 80; refine (hfr _ L0 D0).mono ?_; rintro e w2 ⟨⟨a3, c3, rfl, hO⟩, hb2⟩)
      | ((first | (with_reducible refine wpList_stNew 108 _ _ ?_) | (with_reducible refine wp_stNew 108 _ _ ?_)); refine ⟨_, _, ⟨Tryz.sizeOf108, rfl, tgV_nw _⟩, rfl, ?_⟩))
  refine HK.out _ _ ?_
  clear HK
  have hbt := blw w2 (Obj.cells #[.int .i64 tg.rep, .int .i64 tg.reg, .int .i64 tg.pla, .int .i64 tg.idx, .int .i64 tg.inc] 108)
  have T3 := heap_alloc_new w2 (Obj.cells #[.int .i64 tg.rep, .int .i64 tg.reg, .int .i64 tg.pla, .int .i64 tg.idx, .int .i64 tg.inc] 108)
  have R3 := tr_bl hbt (tr_bl hb2 R0)
  have S3 := (hO.below hbt).slb
  have hb3 := hbz.trans (hb2.mono hbz.size)
  have hb4 := hb3.trans (hbt.mono hb3.size)
  clear hbz R0 L0 D0 hpl hfr hO hb2 hb3 hbt hwi hpin
  (try simp only at S3)
  generalize w2.alloc (Obj.cells #[.int .i64 tg.rep, .int .i64 tg.reg, .int .i64 tg.pla, .int .i64 tg.idx, .int .i64 tg.inc] 108) = w3 at *
  generalize w2.heap.size = tb at *
  by_cases hst : st = 1
  case neg =>
    have e1 : ((st : Int) != 1) = true := by rw [bne_iff_ne]; omega
    obtain rfl : zCp st = r := by rw [← HRR.out, if_pos hst]
    have hb5 := hb4
    have RB := R3
    clear HRR hst
    go_wp2_with ((with_reducible refine wpList_stB 81 _ _ ?_); refine ⟨_, _, _, ⟨_, _, _, Tryz.sizeOf81, rfl, RB, cpy_over _ (zCp st)⟩, ?_⟩; intro w9 R9 g9)
    refine bodyPost_ret (results_c1 rfl rfl (run_loadVar_all Tryz.isAgg81 Tryz.sizeOf81 R9 rfl)) rfl ⟨rfl, bls hb5 (Nat.le_refl _) g9 (Nat.le_refl _)⟩
  case pos =>
    subst hst
    have hps := eparse_any a3 c3 body w3 S3 (by omega)
    rw [PsV_eq] at hps
    obtain ⟨b, en, er, hnx⟩ : ∃ b en er, NxE (parseE body) = (b, en, er) := ⟨_, _, _, rfl⟩
    rw [hnx] at hps
    simp only at hps
    have HNX := Lib.hid hnx
    clear hnx
    refine wp_seq_k (fun K hK => ?_)
    have HK := Lib.hid hK
    clear hK
    go_wp2
    refine HK.out _ _ ?_
    clear HK
    refine wp_seq_k (fun K hK => ?_)
    have HK := Lib.hid hK
    clear hK
    go_wp2_with (first
          | (go_at_call 82; refine hps.mono ?_; rintro e w4 ⟨rfl, hb6⟩; have X40 : ((w4.alloc (Obj.cells #[.int .i64 0, .int .i64 0] 32)).alloc (Obj.cells #[.int .u8 0, .int .i64 0, .int .i64 0, .int .u8 0, .string ⟨#[]⟩, .string ⟨#[]⟩, .string ⟨#[]⟩] 36)).heap[w4.heap.size]? = some (.cells (blA ⟨0, 0⟩) 32 (0, 0)) := tr_al (Obj.cells #[.int .u8 0, .int .i64 0, .int .i64 0, .int .u8 0, .string ⟨#[]⟩, .string ⟨#[]⟩, .string ⟨#[]⟩] 36) (heap_alloc_new w4 (Obj.cells #[.int .i64 0, .int .i64 0] 32)); have Y40 := new_two w4 (Obj.cells #[.int .i64 0, .int .i64 0] 32) (Obj.cells #[.int .u8 0, .int .i64 0, .int .i64 0, .int .u8 0, .string ⟨#[]⟩, .string ⟨#[]⟩, .string ⟨#[]⟩] 36))
          | ((with_reducible refine wpList_stB 32 _ _ ?_); refine ⟨_, _, _, ⟨_, _, _, Tryz.sizeOf32, rfl, X40, bl_over ⟨0, 0⟩ b⟩, ?_⟩; intro w41 X41 g41; have Y41 := tr_st g41 Y40 (by omega))
          | ((with_reducible refine wpList_stB 36 _ _ ?_); refine ⟨_, _, _, ⟨_, _, _, Tryz.sizeOf36, rfl, Y41, en_over (zeroE 0) en⟩, ?_⟩; intro w42 Y42 g42))
    refine HK.out _ _ ?_
    clear HK
    have C5 := tr_st g42 X41 (by omega)
    have hbb := (blw w4 (Obj.cells #[.int .i64 0, .int .i64 0] 32)).trans ((blw (w4.alloc (Obj.cells #[.int .i64 0, .int .i64 0] 32)) (Obj.cells #[.int .u8 0, .int .i64 0, .int .i64 0, .int .u8 0, .string ⟨#[]⟩, .string ⟨#[]⟩, .string ⟨#[]⟩] 36)).mono (blw w4 (Obj.cells #[.int .i64 0, .int .i64 0] 32)).size)
    have T40 := tr_bl hbb (tr_bl hb6 T3)
    have R40 := tr_bl hbb (tr_bl hb6 R3)
    have hb7 := hb4.trans (hb6.mono hb4.size)
    have hb8 := hb7.trans (hbb.mono hb7.size)
    have ht4 := lt_blk (tr_bl hb6 T3)
    have hr4 := lt_blk (tr_bl hb6 R3)
    have T5 := tr_st g42 (tr_st g41 T40 (by omega)) (by omega)
    have RB := tr_st g42 (tr_st g41 R40 (by omega)) (by omega)
    have hb5 := bls (bls hb8 (Nat.le_refl _) g41 (by omega)) (Nat.le_refl _) g42 (by omega)
    clear hps T3 R3 S3 hb4 hb6 hbb hb7 hb8 T40 R40 X40 Y40 X41 Y41 g41 g42
    generalize w4.heap.size = cb at *
    have hrr := HRR.out
    rw [if_neg (by simp)] at hrr
    have hnx := HNX.out
    cases hp : parseE body with
    | none =>
      rw [hp] at hrr hnx
      simp only [NxE, Prod.mk.injEq] at hrr hnx
      obtain ⟨rfl, rfl, rfl⟩ := hnx
      subst hrr
      clear HRR HNX hp
      go_wp2_with ((with_reducible refine wpList_stB 81 _ _ ?_); refine ⟨_, _, _, ⟨_, _, _, Tryz.sizeOf81, rfl, RB, cpy_over _ (zCp 2)⟩, ?_⟩; intro w9 R9 g9)
      refine bodyPost_ret (results_c1 rfl rfl (run_loadVar_all Tryz.isAgg81 Tryz.sizeOf81 R9 rfl)) rfl ⟨rfl, bls hb5 (Nat.le_refl _) g9 (Nat.le_refl _)⟩
    | some x =>
      obtain ⟨b', e'⟩ := x
      rw [hp] at hrr hnx
      simp only [NxE, Prod.mk.injEq] at hrr hnx
      obtain ⟨rfl, rfl, rfl⟩ := hnx
      subst hrr
      clear HRR HNX hp
      have t3 : w42.cell? ⟨tb, 3, none⟩ = some (.int .i64 tg.idx) := blk_cell T5 3 _ rfl
      go_wp2_with (first
        | ((with_reducible refine wpList_ldB 32 _ ?_); refine ⟨rfl, _, ⟨_, _, _, _, _, Tryz.isAgg32, Tryz.sizeOf32, rfl, ‹_›, arr_all rfl⟩, ?_⟩)
        | ((with_reducible refine wpList_ldB 36 _ ?_); refine ⟨rfl, _, ⟨_, _, _, _, _, Tryz.isAgg36, Tryz.sizeOf36, rfl, ‹_›, arr_all rfl⟩, ?_⟩)
        | (with_reducible refine wpList_bcpy 1 tg.idx b' e' _ _ _ _ (by simp [Act.eval, Act.put]) (by simp [Act.eval, Act.put]) (by simp [Act.eval, Act.put]) (by simp [Act.eval, Act.put]) ?_)
        | ((with_reducible refine wpList_stB 81 _ _ ?_); refine ⟨_, _, _, ⟨_, _, _, Tryz.sizeOf81, rfl, RB, cpy_over _ ⟨1, tg.idx, b', e'⟩⟩, ?_⟩; intro w9 R9 g9))
      refine bodyPost_ret (results_c1 rfl rfl (run_loadVar_all Tryz.isAgg81 Tryz.sizeOf81 R9 rfl)) rfl ⟨rfl, bls hb5 (Nat.le_refl _) g9 (Nat.le_refl _)⟩
end
end Go.Proofs.YtknchbhobopkeaaGreatDoor
namespace Go.Proofs.YtknchbhobopkeaaGreatDoor
open Go.RowKit
theorem results_c2 {P : Program} {fn : Func} {p t p2 t2 : Nat} {tmps : Array Value} {w : World} {A A2 : Addr} {v v2 : Value} (hf : fn.results = #[.cell p t, .cell p2 t2]) (hp : tmps.getD p undef = .pointer (some A)) (hl : (loadVar t A).run P w = .ok v w)
    (hp2 : tmps.getD p2 undef = .pointer (some A2)) (hl2 : (loadVar t2 A2).run P w = .ok v2 w) : (results fn tmps).run P w = .ok (.tuple #[v, v2]) w := by
  have hp' : tmps[p]?.getD undef = .pointer (some A) := by simpa using hp
  have hp2' : tmps[p2]?.getD undef = .pointer (some A2) := by simpa using hp2
  simp [results, hf, hp', hp2', asAddr, hl, hl2]
theorem results_t1c1 {P : Program} {fn : Func} {p t q : Nat} {tmps : Array Value} {w : World} {A : Addr} {v : Value} (hf : fn.results = #[.tmp q, .cell p t]) (hp : tmps.getD p undef = .pointer (some A)) (hl : (loadVar t A).run P w = .ok v w) : (results fn tmps).run P w = .ok (.tuple #[tmps.getD q undef, v]) w := by
  have hp' : tmps[p]?.getD undef = .pointer (some A) := by simpa using hp
  simp [results, hf, hp', asAddr, hl]
def ffW (d : Dk) (s : Lg) (i : Int) : Nat → SCp := fun k => cpW d s i k
def repW (d : Dk) (s : Lg) (i : Int) : Int × Int × Bal × En := whatS (recW d s i) (ffW d s i) i
theorem build_ff (f : Nat → SCp) (w : World) : (Instr.build 82 #[(0, .agg (cpyA (f 0))), (1, .agg (cpyA (f 1)))]).run Tryz.prog w = .ok (.agg (ffA f)) w := by kernel_rfl
theorem wpList_bff {a : Act} {w : World} {ops : Array Oper} {rest : List Oper} {Q : Exit → Act → World → Prop} {dst : Option Tmp} {ty' : TypeId} {pos : String} {af : Array Edge} (f : Nat → SCp) (o0 o1 : Operand) (h0 : a.eval o0 = .agg (cpyA (f 0))) (h1 : a.eval o1 = .agg (cpyA (f 1)))
    (h : wpList Tryz.prog ops Q rest (a.put dst (.agg (ffA f))) w) : wpList Tryz.prog ops Q (Oper.mk dst (.build 82 #[(0, o0), (1, o1)]) ty' pos af none :: rest) a w :=
  wpList_run rfl (by
    have hb := build_ff f w
    unfold execOp
    simp [h0, h1, hb]) h
theorem ff_over (x : Nat → SCp) (f : Nat → SCp) : 0 + 22 ≤ (ffA x).size ∧ (Value.agg (ffA f)).cells.size = 22 ∧ (∀ u ∈ (Value.agg (ffA f)).cells.toList, u.oneCell' = true) ∧ ((ffA x).toList.take 0 ++ (Value.agg (ffA f)).cells.toList ++ (ffA x).toList.drop (0 + 22)).toArray = ffA f :=
  ⟨by show _ ≤ 22; omega, rfl, by simp [Value.cells, ffA, Value.oneCell'], rfl⟩
theorem rp_new (i st : Int) (b : Bal) (e : En) : (Value.agg (rpA i st b e)).cells = rpA i st b e ∧ (rpA i st b e).size = 11 ∧ ∀ u ∈ (rpA i st b e).toList, u.oneCell' = true := ⟨rfl, rfl, by simp [rpA, Value.oneCell']⟩
section
variable {B g gp q : Nat} {wv : Value} {d : Dk} {w : World} {s : Lg}
set_option maxRecDepth 100000 in
set_option maxHeartbeats 1000000 in
theorem wread_any (h : LgB w q g s) (hd : DiskB B g gp wv d w) (i : Int) (h1 : 1 ≤ i) (h2 : i ≤ 1099511627776) : Calls Tryz.prog 31 #[.pointer (some ⟨q, 0, none⟩), .int .i64 i] w fun e w' => e = .returned (.tuple #[.agg (recA (recW d s i)), .agg (ffA (ffW d s i))]) ∧ Below w.heap.size w w' := by
  have hre := fun w' (h : LgB w' q g s) (D : DiskB B g gp wv d w') => record_any h D i h1 h2
  have hc0 := fun w' (h : LgB w' q g s) (D : DiskB B g gp wv d w') => copied_any h D i h1 h2 0 (by omega)
  have hc1 := fun w' (h : LgB w' q g s) (D : DiskB B g gp wv d w') => copied_any h D i h1 h2 1 (by omega)
  have e0 : cpW d s i 0 = ffW d s i 0 := rfl
  have e1 : cpW d s i 1 = ffW d s i 1 := rfl
  rw [e0] at hc0
  rw [e1] at hc1
  clear e0 e1
  generalize recW d s i = p at *
  generalize ffW d s i = f at *
  have hbz := blw w (Obj.cells #[.int .u8 0, .int .i64 0, .int .i64 0, .int .i64 0, .int .i64 0] 79)
  have hbf := hbz.trans ((blw (w.alloc (Obj.cells #[.int .u8 0, .int .i64 0, .int .i64 0, .int .i64 0, .int .i64 0] 79)) (Obj.cells #[.int .u8 0, .int .i64 0, .int .i64 0, .int .i64 0, .int .u8 0, .int .i64 0, .int .i64 0, .int .u8 0, .string ⟨#[]⟩, .string ⟨#[]⟩, .string ⟨#[]⟩, .int .u8 0, .int .i64 0, .int .i64 0, .int .i64 0, .int .u8 0, .int .i64 0, .int .i64 0, .int .u8 0, .string ⟨#[]⟩, .string ⟨#[]⟩, .string ⟨#[]⟩] 82)).mono hbz.size)
  have R0 : ((w.alloc (Obj.cells #[.int .u8 0, .int .i64 0, .int .i64 0, .int .i64 0, .int .i64 0] 79)).alloc (Obj.cells #[.int .u8 0, .int .i64 0, .int .i64 0, .int .i64 0, .int .u8 0, .int .i64 0, .int .i64 0, .int .u8 0, .string ⟨#[]⟩, .string ⟨#[]⟩, .string ⟨#[]⟩, .int .u8 0, .int .i64 0, .int .i64 0, .int .i64 0, .int .u8 0, .int .i64 0, .int .i64 0, .int .u8 0, .string ⟨#[]⟩, .string ⟨#[]⟩, .string ⟨#[]⟩] 82)).heap[w.heap.size]? = some (.cells (recA (zRec 0)) 79 (0, 0)) := tr_al (Obj.cells #[.int .u8 0, .int .i64 0, .int .i64 0, .int .i64 0, .int .u8 0, .int .i64 0, .int .i64 0, .int .u8 0, .string ⟨#[]⟩, .string ⟨#[]⟩, .string ⟨#[]⟩, .int .u8 0, .int .i64 0, .int .i64 0, .int .i64 0, .int .u8 0, .int .i64 0, .int .i64 0, .int .u8 0, .string ⟨#[]⟩, .string ⟨#[]⟩, .string ⟨#[]⟩] 82) (heap_alloc_new w (Obj.cells #[.int .u8 0, .int .i64 0, .int .i64 0, .int .i64 0, .int .i64 0] 79))
  have F0 : ((w.alloc (Obj.cells #[.int .u8 0, .int .i64 0, .int .i64 0, .int .i64 0, .int .i64 0] 79)).alloc (Obj.cells #[.int .u8 0, .int .i64 0, .int .i64 0, .int .i64 0, .int .u8 0, .int .i64 0, .int .i64 0, .int .u8 0, .string ⟨#[]⟩, .string ⟨#[]⟩, .string ⟨#[]⟩, .int .u8 0, .int .i64 0, .int .i64 0, .int .i64 0, .int .u8 0, .int .i64 0, .int .i64 0, .int .u8 0, .string ⟨#[]⟩, .string ⟨#[]⟩, .string ⟨#[]⟩] 82)).heap[w.heap.size + 1]? = some (.cells (ffA (fun _ => zCp 0)) 82 (0, 0)) := new_two w (Obj.cells #[.int .u8 0, .int .i64 0, .int .i64 0, .int .i64 0, .int .i64 0] 79) (Obj.cells #[.int .u8 0, .int .i64 0, .int .i64 0, .int .i64 0, .int .u8 0, .int .i64 0, .int .i64 0, .int .u8 0, .string ⟨#[]⟩, .string ⟨#[]⟩, .string ⟨#[]⟩, .int .u8 0, .int .i64 0, .int .i64 0, .int .i64 0, .int .u8 0, .int .i64 0, .int .i64 0, .int .u8 0, .string ⟨#[]⟩, .string ⟨#[]⟩, .string ⟨#[]⟩] 82)
  have L0 := h.below hbf
  have D0 := hd.below hbf
  go_enter Tryz.func31, Tryz.ntmps31
  refine wp_seq_k (fun K hK => ?_)
  have HK := Lib.hid hK
  clear hK
  go_wp2
  refine HK.out _ _ ?_
  clear HK
  generalize (w.alloc (Obj.cells #[.int .u8 0, .int .i64 0, .int .i64 0, .int .i64 0, .int .i64 0] 79)).alloc (Obj.cells #[.int .u8 0, .int .i64 0, .int .i64 0, .int .i64 0, .int .u8 0, .int .i64 0, .int .i64 0, .int .u8 0, .string ⟨#[]⟩, .string ⟨#[]⟩, .string ⟨#[]⟩, .int .u8 0, .int .i64 0, .int .i64 0, .int .i64 0, .int .u8 0, .int .i64 0, .int .i64 0, .int .u8 0, .string ⟨#[]⟩, .string ⟨#[]⟩, .string ⟨#[]⟩] 82) = w0 at *
  clear h hd h1 h2 hbz
  go_wp2_with fail
  refine (hre _ L0 D0).mono ?_
  rintro e w1 ⟨rfl, hb1⟩
  have L1 := L0.below hb1
  have D1 := D0.below hb1
  have R1 := tr_bl hb1 R0
  have F1 := tr_bl hb1 F0
  have hx1 := hbf.trans (hb1.mono hbf.size)
  clear L0 D0 R0 F0 hbf hb1 hre
  go_wp2_with fail
  refine (hc0 _ L1 D1).mono ?_
  rintro e w2 ⟨rfl, hb2⟩
  have L2 := L1.below hb2
  have D2 := D1.below hb2
  have R2 := tr_bl hb2 R1
  have F2 := tr_bl hb2 F1
  have hx2 := hx1.trans (hb2.mono hx1.size)
  clear L1 D1 R1 F1 hx1 hb2 hc0
  go_wp2_with fail
  refine (hc1 _ L2 D2).mono ?_
  rintro e w3 ⟨rfl, hb3⟩
  have R3 := tr_bl hb3 R2
  have F3 := tr_bl hb3 F2
  have hx3 := hx2.trans (hb3.mono hx2.size)
  clear L2 D2 R2 F2 hx2 hb3 hc1
  go_wp2_with (first
    | (with_reducible refine wpList_bff f _ _ (by simp [Act.eval]) (by simp [Act.eval]) ?_)
    | ((with_reducible refine wpList_stB 79 _ _ ?_); refine ⟨_, _, _, ⟨_, _, _, Tryz.sizeOf79, rfl, R3, rec_over _ p⟩, ?_⟩; intro w4 R4 g4; have F4 := tr_st g4 F3 (by omega))
    | ((with_reducible refine wpList_stB 82 _ _ ?_); refine ⟨_, _, _, ⟨_, _, _, Tryz.sizeOf82, rfl, F4, ff_over _ f⟩, ?_⟩; intro w5 F5 g5; have R5 := tr_st g5 R4 (by omega)))
  refine bodyPost_ret (results_c2 rfl rfl (run_loadVar_all Tryz.isAgg79 Tryz.sizeOf79 R5 rfl) rfl (run_loadVar_all Tryz.isAgg82 Tryz.sizeOf82 F5 rfl)) rfl ⟨rfl, bls (bls hx3 (Nat.le_refl _) g4 (Nat.le_refl _)) (Nat.le_refl _) g5 (by omega)⟩
set_option maxRecDepth 100000 in
set_option maxHeartbeats 1000000 in
theorem wwhat_any (h : LgB w q g s) (hd : DiskB B g gp wv d w) (i : Int) (h1 : 1 ≤ i) (h2 : i ≤ 1099511627776) : Calls Tryz.prog 38 #[.pointer (some ⟨q, 0, none⟩), .int .i64 i] w fun e w' => e = .returned (.tuple #[.int .u8 (repW d s i).1, .agg (rpA i (repW d s i).2.1 (repW d s i).2.2.1 (repW d s i).2.2.2)]) ∧ Below w.heap.size w w' := by
  unfold repW
  have hre := fun w' (h : LgB w' q g s) (D : DiskB B g gp wv d w') => wread_any h D i h1 h2
  have hwh : (recW d s i).wh = 0 ∨ (recW d s i).wh = 1 := recOf_wh _
  generalize recW d s i = p at *
  generalize ffW d s i = f at *
  have hwt := fun w => what_all (p := p) (f := f) (i := i) hwh w
  obtain ⟨z, hz⟩ : ∃ z, whatS p f i = z := ⟨_, rfl⟩
  rw [hz] at hwt ⊢
  have hbz := blw w (Obj.cells #[.int .i64 0, .int .u8 0, .int .i64 0, .int .i64 0, .int .u8 0, .int .i64 0, .int .i64 0, .int .u8 0, .string ⟨#[]⟩, .string ⟨#[]⟩, .string ⟨#[]⟩] 44)
  have R0 : (w.alloc (Obj.cells #[.int .i64 0, .int .u8 0, .int .i64 0, .int .i64 0, .int .u8 0, .int .i64 0, .int .i64 0, .int .u8 0, .string ⟨#[]⟩, .string ⟨#[]⟩, .string ⟨#[]⟩] 44)).heap[w.heap.size]? = some (.cells (rpA 0 0 zeroL (zeroE 0)) 44 (0, 0)) := heap_alloc_new w (Obj.cells #[.int .i64 0, .int .u8 0, .int .i64 0, .int .i64 0, .int .u8 0, .int .i64 0, .int .i64 0, .int .u8 0, .string ⟨#[]⟩, .string ⟨#[]⟩, .string ⟨#[]⟩] 44)
  have L0 := h.below hbz
  have D0 := hd.below hbz
  clear hz hwh
  go_enter Tryz.func38, Tryz.ntmps38
  refine wp_seq_k (fun K hK => ?_)
  have HK := Lib.hid hK
  clear hK
  go_wp2
  refine HK.out _ _ ?_
  clear HK
  generalize w.alloc (Obj.cells #[.int .i64 0, .int .u8 0, .int .i64 0, .int .i64 0, .int .u8 0, .int .i64 0, .int .i64 0, .int .u8 0, .string ⟨#[]⟩, .string ⟨#[]⟩, .string ⟨#[]⟩] 44) = w0 at *
  clear h hd h1 h2
  refine wp_seq_k (fun K hK => ?_)
  have HK := Lib.hid hK
  clear hK
  go_wp2_with (first
      | (go_at_call 31; refine (hre _ L0 D0).mono ?_; rintro e w4 ⟨rfl, hb6⟩; have X40 : ((w4.alloc (Obj.cells #[.int .u8 0, .int .i64 0, .int .i64 0, .int .i64 0, .int .i64 0] 79)).alloc (Obj.cells #[.int .u8 0, .int .i64 0, .int .i64 0, .int .i64 0, .int .u8 0, .int .i64 0, .int .i64 0, .int .u8 0, .string ⟨#[]⟩, .string ⟨#[]⟩, .string ⟨#[]⟩, .int .u8 0, .int .i64 0, .int .i64 0, .int .i64 0, .int .u8 0, .int .i64 0, .int .i64 0, .int .u8 0, .string ⟨#[]⟩, .string ⟨#[]⟩, .string ⟨#[]⟩] 82)).heap[w4.heap.size]? = some (.cells (recA (zRec 0)) 79 (0, 0)) := tr_al (Obj.cells #[.int .u8 0, .int .i64 0, .int .i64 0, .int .i64 0, .int .u8 0, .int .i64 0, .int .i64 0, .int .u8 0, .string ⟨#[]⟩, .string ⟨#[]⟩, .string ⟨#[]⟩, .int .u8 0, .int .i64 0, .int .i64 0, .int .i64 0, .int .u8 0, .int .i64 0, .int .i64 0, .int .u8 0, .string ⟨#[]⟩, .string ⟨#[]⟩, .string ⟨#[]⟩] 82) (heap_alloc_new w4 (Obj.cells #[.int .u8 0, .int .i64 0, .int .i64 0, .int .i64 0, .int .i64 0] 79)); have Y40 : ((w4.alloc (Obj.cells #[.int .u8 0, .int .i64 0, .int .i64 0, .int .i64 0, .int .i64 0] 79)).alloc (Obj.cells #[.int .u8 0, .int .i64 0, .int .i64 0, .int .i64 0, .int .u8 0, .int .i64 0, .int .i64 0, .int .u8 0, .string ⟨#[]⟩, .string ⟨#[]⟩, .string ⟨#[]⟩, .int .u8 0, .int .i64 0, .int .i64 0, .int .i64 0, .int .u8 0, .int .i64 0, .int .i64 0, .int .u8 0, .string ⟨#[]⟩, .string ⟨#[]⟩, .string ⟨#[]⟩] 82)).heap[w4.heap.size + 1]? = some (.cells (ffA (fun _ => zCp 0)) 82 (0, 0)) := new_two w4 (Obj.cells #[.int .u8 0, .int .i64 0, .int .i64 0, .int .i64 0, .int .i64 0] 79) (Obj.cells #[.int .u8 0, .int .i64 0, .int .i64 0, .int .i64 0, .int .u8 0, .int .i64 0, .int .i64 0, .int .u8 0, .string ⟨#[]⟩, .string ⟨#[]⟩, .string ⟨#[]⟩, .int .u8 0, .int .i64 0, .int .i64 0, .int .i64 0, .int .u8 0, .int .i64 0, .int .i64 0, .int .u8 0, .string ⟨#[]⟩, .string ⟨#[]⟩, .string ⟨#[]⟩] 82))
      | ((with_reducible refine wpList_stB 79 _ _ ?_); refine ⟨_, _, _, ⟨_, _, _, Tryz.sizeOf79, rfl, X40, rec_over _ p⟩, ?_⟩; intro w41 X41 g41; have Y41 := tr_st g41 Y40 (by omega))
      | ((with_reducible refine wpList_stB 82 _ _ ?_); refine ⟨_, _, _, ⟨_, _, _, Tryz.sizeOf82, rfl, Y41, ff_over _ f⟩, ?_⟩; intro w42 Y42 g42))
  refine HK.out _ _ ?_
  clear HK
  have X42 := tr_st g42 X41 (by omega)
  have hbb := (blw w4 (Obj.cells #[.int .u8 0, .int .i64 0, .int .i64 0, .int .i64 0, .int .i64 0] 79)).trans ((blw (w4.alloc (Obj.cells #[.int .u8 0, .int .i64 0, .int .i64 0, .int .i64 0, .int .i64 0] 79)) (Obj.cells #[.int .u8 0, .int .i64 0, .int .i64 0, .int .i64 0, .int .u8 0, .int .i64 0, .int .i64 0, .int .u8 0, .string ⟨#[]⟩, .string ⟨#[]⟩, .string ⟨#[]⟩, .int .u8 0, .int .i64 0, .int .i64 0, .int .i64 0, .int .u8 0, .int .i64 0, .int .i64 0, .int .u8 0, .string ⟨#[]⟩, .string ⟨#[]⟩, .string ⟨#[]⟩] 82)).mono (blw w4 (Obj.cells #[.int .u8 0, .int .i64 0, .int .i64 0, .int .i64 0, .int .i64 0] 79)).size)
  have R40 := tr_bl hbb (tr_bl hb6 R0)
  have hb7 := hbz.trans (hb6.mono hbz.size)
  have hb8 := hb7.trans (hbb.mono hb7.size)
  have hr4 := lt_blk (tr_bl hb6 R0)
  have RB := tr_st g42 (tr_st g41 R40 (by omega)) (by omega)
  have hb5 := bls (bls hb8 (Nat.le_refl _) g41 (by omega)) (Nat.le_refl _) g42 (by omega)
  clear hre R0 L0 D0 hbz hb6 hbb hb7 hb8 R40 X40 Y40 X41 Y41 g41 g42
  generalize w4.heap.size = cb at *
  refine wp_seq_k (fun K hK => ?_)
  have HK := Lib.hid hK
  clear hK
  go_wp2_with (first
      | ((with_reducible refine wpList_ldB 79 _ ?_); refine ⟨rfl, _, ⟨_, _, _, _, _, Tryz.isAgg79, Tryz.sizeOf79, rfl, ‹_›, arr_all rfl⟩, ?_⟩)
      | ((with_reducible refine wpList_ldB 82 _ ?_); refine ⟨rfl, _, ⟨_, _, _, _, _, Tryz.isAgg82, Tryz.sizeOf82, rfl, ‹_›, arr_all rfl⟩, ?_⟩)
      | (go_at_call 68; refine (hwt _).mono ?_; rintro e w6 ⟨⟨kk, rfl⟩, hb6⟩)
      | ((first | (with_reducible refine wpList_stNew 44 _ _ ?_) | (with_reducible refine wp_stNew 44 _ _ ?_)); refine ⟨_, _, ⟨Tryz.sizeOf44, rfl, rp_new _ _ _ _⟩, rfl, ?_⟩))
  refine HK.out _ _ ?_
  clear HK
  have hbo := blw w6 (Obj.cells (rpA i z.2.1 z.2.2.1 z.2.2.2) 44)
  have O7 := heap_alloc_new w6 (Obj.cells (rpA i z.2.1 z.2.2.1 z.2.2.2) 44)
  have R7 := tr_bl hbo (tr_bl hb6 RB)
  have hr6 := lt_blk (tr_bl hb6 RB)
  have hb7 := hb5.trans (hb6.mono hb5.size)
  have hb8 := hb7.trans (hbo.mono hb7.size)
  clear hb5 hb6 hb7 hbo RB X42 Y42 hwt
  generalize w6.alloc (Obj.cells (rpA i z.2.1 z.2.2.1 z.2.2.2) 44) = w7 at *
  generalize w6.heap.size = ob at *
  refine wp_seq_k (fun K hK => ?_)
  have HK2 := Lib.hid hK
  clear hK
  go_wp2_with fail
  have hbd := (Below.refl w7.heap.size w7).drew
  have O8 := tr_bl hbd O7
  have R8 := tr_bl hbd R7
  have hb13 := hb8.trans (hbd.mono hb8.size)
  clear hb8 O7 R7 hbd
  refine wp_region_held_drew (S := fun w' => w'.heap[ob]? = some (.cells (rpA i z.2.1 z.2.2.1 z.2.2.2) 44 (0, 0))) (by kernel_rfl) O8 (fun hS0 => ?_)
  generalize w7.drew = x0 at *
  refine wpAnyH_take (i := 0) (oi := ⟨_, _, _, _, _, _⟩) (v := ?_) rfl (by kernel_rfl) (by kernel_rfl) (by kernel_rfl) (fun _ _ _ h => h) (Or.inl ⟨by rfl, ?_⟩) (by assumption) ?_
  rotate_left
  · intro wS hSw; go_simp; (try with_reducible rfl)
  (try simp only [Act.put]); (try simp only [List.setIfInBounds_toArray]); (try simp only [List.set_cons_succ]); (try simp only [List.set_cons_zero])
  refine wpAnyH_take (i := 1) (oi := ⟨_, _, _, _, _, _⟩) (v := .agg (rpA i z.2.1 z.2.2.1 z.2.2.2)) rfl (by kernel_rfl) (by kernel_rfl) (by kernel_rfl) (fun _ _ _ h => h) (Or.inl ⟨by rfl, fun wS hSw => ?_⟩) (by assumption) ?_
  · exact exec_ldB 44 _ ⟨_, _, _, _, _, Tryz.isAgg44, Tryz.sizeOf44, rfl, hSw, arr_all rfl⟩
  (try simp only [Act.put]); (try simp only [List.setIfInBounds_toArray]); (try simp only [List.set_cons_succ]); (try simp only [List.set_cons_zero])
  refine wpAnyH_take (i := 2) (oi := ⟨_, _, _, _, _, _⟩) (v := ?_) rfl (by kernel_rfl) (by kernel_rfl) (by kernel_rfl) (fun _ _ _ h => h) (Or.inl ⟨by rfl, ?_⟩) (by assumption) ?_
  rotate_left
  · intro wS hSw; go_simp; (try with_reducible rfl)
  (try simp only [Act.put]); (try simp only [List.setIfInBounds_toArray]); (try simp only [List.set_cons_succ]); (try simp only [List.set_cons_zero])
  refine wpAnyH_ready (rs := [3]) (by kernel_rfl) (by simp) ?_
  refine AllReadyH.cons (o := ⟨_, _, _, _, _, _⟩) rfl (fun K' hK' => ?_) AllReadyH.nil
  refine (if_pos (by rfl)).mpr ?_
  refine wp_stB 44 _ _ ?_
  refine ⟨_, _, _, ⟨_, _, _, Tryz.sizeOf44, rfl, R8, rp_over _ _ _ _ i z.2.1 z.2.2.1 z.2.2.2⟩, ?_⟩
  intro w13 R13 g13
  refine hK'.out _ _ (tr_st g13 O8 (by omega)) (fun _ => ?_)
  clear hK'
  (try simp only [Act.put]); (try simp only [List.setIfInBounds_toArray]); (try simp only [List.set_cons_succ]); (try simp only [List.set_cons_zero])
  refine wpAnyH_done (by kernel_rfl) ?_ _
  refine HK2.out _ _ ?_
  clear HK2
  go_wp2
  refine bodyPost_ret (results_t1c1 rfl rfl (run_loadVar_all Tryz.isAgg44 Tryz.sizeOf44 R13 rfl)) rfl ⟨rfl, bls hb13 (Nat.le_refl _) g13 (Nat.le_refl _)⟩
end
end Go.Proofs.YtknchbhobopkeaaGreatDoor
namespace Go.Proofs.YtknchbhobopkeaaGreatDoor
open Go.RowKit
structure Rpt where
  idx : Int
  st : Int
  bal : Bal
  e : En
def rptA (r : Rpt) : Array Value := rpA r.idx r.st r.bal r.e
def zeroR' : Rpt := ⟨0, 0, zeroL, zeroE 0⟩
def rptW (d : Dk) (s : Lg) (i : Int) : Rpt := ⟨i, (repW d s i).2.1, (repW d s i).2.2.1, (repW d s i).2.2.2⟩
def getW (d : Dk) (s : Lg) (i : Int) : Rpt × Int := if liveW d s i ≠ 0 then (zeroR', liveW d s i) else (rptW d s i, 0)
def classW (d : Dk) (s : Lg) (i : Int) : Int × Int := if liveW d s i ≠ 0 then (0, liveW d s i) else ((repW d s i).1, 0)
structure LgOk (s : Lg) : Prop where
  r : 0 ≤ s.rep ∧ s.rep ≤ 6
  n : 1 ≤ s.inc ∧ s.inc ≤ 1099511627776
  p : 0 ≤ s.snap ∧ s.snap ≤ 1099511627752
def cutW (s : Lg) (n : Int) : Lg × Int := if n < s.snap ∨ fitW n = false then (s, 2) else ({ s with snap := n }, 0)
def openE (d : Dk) (rep inc snap : Int) : Int := if d.pl.length < 156 ∨ rep < 0 ∨ 7 ≤ rep ∨ inc < 1 ∨ 1099511627776 < inc ∨ fitW snap = false then 2 else if upD d = false then 5 else 0
theorem live_in {d : Dk} {s : Lg} {i : Int} (hs : LgOk s) (h : liveW d s i = 0) : 1 ≤ i ∧ i ≤ 1099511627776 ∧ upD d = true := by
  unfold liveW at h
  have := hs.p
  split at h
  · cases h
  · split at h
    · cases h
    · rename_i h1 h2
      exact ⟨by omega, by omega, by simpa using h2⟩
section
variable {B g gp q : Nat} {wv : Value} {d : Dk} {w w' : World} {s : Lg}
set_option maxRecDepth 100000 in
set_option maxHeartbeats 1000000 in
theorem lget_any2 (h : LgB w q g s) (hd : DiskB B g gp wv d w) (hs : LgOk s) (i : Int) : Calls Tryz.prog 15 #[.pointer (some ⟨q, 0, none⟩), .int .i64 i] w fun e w' => e = .returned (.tuple #[.agg (rptA (getW d s i).1), .int .i64 (getW d s i).2]) ∧ Below w.heap.size w w' := by
  have hli := fun w' (h : LgB w' q g s) (D : DiskB B g gp wv d w') => llive_any2 h D hs.p i
  unfold getW
  have hbz := blw w (Obj.cells #[.int .i64 0, .int .u8 0, .int .i64 0, .int .i64 0, .int .u8 0, .int .i64 0, .int .i64 0, .int .u8 0, .string ⟨#[]⟩, .string ⟨#[]⟩, .string ⟨#[]⟩] 44)
  have R0 : (w.alloc (Obj.cells #[.int .i64 0, .int .u8 0, .int .i64 0, .int .i64 0, .int .u8 0, .int .i64 0, .int .i64 0, .int .u8 0, .string ⟨#[]⟩, .string ⟨#[]⟩, .string ⟨#[]⟩] 44)).heap[w.heap.size]? = some (.cells (rpA 0 0 zeroL (zeroE 0)) 44 (0, 0)) := heap_alloc_new w (Obj.cells #[.int .i64 0, .int .u8 0, .int .i64 0, .int .i64 0, .int .u8 0, .int .i64 0, .int .i64 0, .int .u8 0, .string ⟨#[]⟩, .string ⟨#[]⟩, .string ⟨#[]⟩] 44)
  have L0 := h.below hbz
  have D0 := hd.below hbz
  by_cases h0 : liveW d s i = 0
  case neg =>
    rw [if_pos h0]
    have e0 : (liveW d s i != 0) = true := by rw [bne_iff_ne]; exact h0
    generalize liveW d s i = lv at *
    go_enter Tryz.func15, Tryz.ntmps15
    refine wp_seq_k (fun K hK => ?_)
    have HK := Lib.hid hK
    clear hK
    go_wp2
    refine HK.out _ _ ?_
    clear HK
    generalize w.alloc (Obj.cells #[.int .i64 0, .int .u8 0, .int .i64 0, .int .i64 0, .int .u8 0, .int .i64 0, .int .i64 0, .int .u8 0, .string ⟨#[]⟩, .string ⟨#[]⟩, .string ⟨#[]⟩] 44) = w0 at *
    go_wp2_with (first
      | (go_at_call 29; refine (hli _ L0 D0).mono ?_; rintro e w1 ⟨rfl, rfl⟩)
      | ((with_reducible refine wpList_stB 44 _ _ ?_); refine ⟨_, _, _, ⟨_, _, _, Tryz.sizeOf44, rfl, R0, rp_over _ _ _ _ 0 0 zeroL (zeroE 0)⟩, ?_⟩; intro w9 R9 g9))
    refine bodyPost_ret (results_c1t1 rfl rfl (run_loadVar_all Tryz.isAgg44 Tryz.sizeOf44 R9 rfl)) rfl ⟨rfl, bls hbz (Nat.le_refl _) g9 (Nat.le_refl _)⟩
  case pos =>
    obtain ⟨h1, h2, _⟩ := live_in hs h0
    rw [if_neg (by simp [h0])]
    have hwa := fun w' (h : LgB w' q g s) (D : DiskB B g gp wv d w') => wwhat_any h D i h1 h2
    unfold rptA rptW
    simp only
    generalize repW d s i = z at *
    rw [h0] at hli
    clear h0 h1 h2
    go_enter Tryz.func15, Tryz.ntmps15
    refine wp_seq_k (fun K hK => ?_)
    have HK := Lib.hid hK
    clear hK
    go_wp2
    refine HK.out _ _ ?_
    clear HK
    generalize w.alloc (Obj.cells #[.int .i64 0, .int .u8 0, .int .i64 0, .int .i64 0, .int .u8 0, .int .i64 0, .int .i64 0, .int .u8 0, .string ⟨#[]⟩, .string ⟨#[]⟩, .string ⟨#[]⟩] 44) = w0 at *
    refine wp_seq_k (fun K hK => ?_)
    have HK := Lib.hid hK
    clear hK
    go_wp2_with (go_at_call 29; refine (hli _ L0 D0).mono ?_; rintro e w1 ⟨rfl, rfl⟩)
    refine HK.out _ _ ?_
    clear HK
    refine wp_seq_k (fun K hK => ?_)
    have HK := Lib.hid hK
    clear hK
    go_wp2_with (first
          | (go_at_call 38; refine (hwa _ L0 D0).mono ?_; rintro e w6 ⟨rfl, hb6⟩)
          | ((first | (with_reducible refine wpList_stNew 44 _ _ ?_) | (with_reducible refine wp_stNew 44 _ _ ?_)); refine ⟨_, _, ⟨Tryz.sizeOf44, rfl, rp_new _ _ _ _⟩, rfl, ?_⟩))
    refine HK.out _ _ ?_
    clear HK
    have hbo := blw w6 (Obj.cells (rpA i z.2.1 z.2.2.1 z.2.2.2) 44)
    have O7 := heap_alloc_new w6 (Obj.cells (rpA i z.2.1 z.2.2.1 z.2.2.2) 44)
    have R7 := tr_bl hbo (tr_bl hb6 R0)
    have hr6 := lt_blk (tr_bl hb6 R0)
    have hb7 := hbz.trans (hb6.mono hbz.size)
    have hb8 := hb7.trans (hbo.mono hb7.size)
    clear hbz hb6 hb7 hbo R0 hli hwa
    generalize w6.alloc (Obj.cells (rpA i z.2.1 z.2.2.1 z.2.2.2) 44) = w7 at *
    generalize w6.heap.size = ob at *
    go_wp2_with (first
      | ((with_reducible refine wpList_ldB 44 _ ?_); refine ⟨rfl, _, ⟨_, _, _, _, _, Tryz.isAgg44, Tryz.sizeOf44, rfl, ‹_›, arr_all rfl⟩, ?_⟩)
      | ((with_reducible refine wpList_stB 44 _ _ ?_); refine ⟨_, _, _, ⟨_, _, _, Tryz.sizeOf44, rfl, R7, rp_over _ _ _ _ i z.2.1 z.2.2.1 z.2.2.2⟩, ?_⟩; intro w9 R9 g9))
    refine bodyPost_ret (results_c1t1 rfl rfl (run_loadVar_all Tryz.isAgg44 Tryz.sizeOf44 R9 rfl)) rfl ⟨rfl, bls hb8 (Nat.le_refl _) g9 (Nat.le_refl _)⟩
set_option maxRecDepth 100000 in
set_option maxHeartbeats 1000000 in
theorem lclass_any2 (h : LgB w q g s) (hd : DiskB B g gp wv d w) (hs : LgOk s) (i : Int) : Calls Tryz.prog 19 #[.pointer (some ⟨q, 0, none⟩), .int .i64 i] w fun e w' => e = .returned (.tuple #[.int .u8 (classW d s i).1, .int .i64 (classW d s i).2]) ∧ Below w.heap.size w w' := by
  have hli := llive_any2 h hd hs.p i
  unfold classW
  by_cases h0 : liveW d s i = 0
  case neg =>
    rw [if_pos h0]
    have e0 : (liveW d s i != 0) = true := by rw [bne_iff_ne]; exact h0
    generalize liveW d s i = lv at *
    go_enter Tryz.func19, Tryz.ntmps19
    go_wp2_with (go_at_call 29; refine hli.mono ?_; rintro e w1 ⟨rfl, rfl⟩)
    go_ret2
    exact ⟨rfl, Below.refl _ _⟩
  case pos =>
    obtain ⟨h1, h2, _⟩ := live_in hs h0
    rw [if_neg (by simp [h0])]
    have hwa := wwhat_any h hd i h1 h2
    generalize repW d s i = z at *
    rw [h0] at hli
    clear h0 h1 h2
    go_enter Tryz.func19, Tryz.ntmps19
    refine wp_seq_k (fun K hK => ?_)
    have HK := Lib.hid hK
    clear hK
    go_wp2
    refine HK.out _ _ ?_
    clear HK
    refine wp_seq_k (fun K hK => ?_)
    have HK := Lib.hid hK
    clear hK
    go_wp2_with (go_at_call 29; refine hli.mono ?_; rintro e w1 ⟨rfl, rfl⟩)
    refine HK.out _ _ ?_
    clear HK
    go_wp2_with (first
      | (go_at_call 38; refine hwa.mono ?_; rintro e w6 ⟨rfl, hb6⟩)
      | ((first | (with_reducible refine wpList_stNew 44 _ _ ?_) | (with_reducible refine wp_stNew 44 _ _ ?_)); refine ⟨_, _, ⟨Tryz.sizeOf44, rfl, rp_new _ _ _ _⟩, rfl, ?_⟩))
    go_ret2
    exact ⟨rfl, hb6.trans ((blw w6 (Obj.cells (rpA i z.2.1 z.2.2.1 z.2.2.2) 44)).mono hb6.size)⟩
theorem lg_snap (g : Nat) (s : Lg) (n : Int) : 3 + 1 ≤ (lgA g s).size ∧ (Value.int .i64 n).cells.size = 1 ∧ (∀ u ∈ (Value.int .i64 n).cells.toList, u.oneCell' = true) ∧ ((lgA g s).toList.take 3 ++ (Value.int .i64 n).cells.toList ++ (lgA g s).toList.drop (3 + 1)).toArray = lgA g { s with snap := n } :=
  ⟨by show _ ≤ 4; omega, rfl, by simp [Value.cells, Value.oneCell'], rfl⟩
set_option maxRecDepth 100000 in
set_option maxHeartbeats 1000000 in
theorem lcut_any2 (h : LgB w q g s) (n : Int) : Calls Tryz.prog 11 #[.pointer (some ⟨q, 0, none⟩), .int .i64 n] w fun e w' => e = .returned (.int .i64 (cutW s n).2) ∧ LgB w' q g (cutW s n).1 ∧ w.grownBy w' (some q) := by
  have HL : w.heap[q]? = some (.cells (lgA g s) 74 (0, 0)) := h
  have c3 := h.c3
  have hn := lnone_any2 h
  have hf := fun w => lfits_any n w
  unfold cutW
  by_cases h1 : n < s.snap
  · rw [if_pos (.inl h1)]
    go_enter Tryz.func11, Tryz.ntmps11
    go_wp2_with (go_at_call 36; refine hn.mono ?_; rintro e w1 ⟨rfl, rfl⟩)
    go_ret
    exact ⟨rfl, HL, World.grownBy.refl _ _⟩
  · cases h2 : fitW n
    · rw [if_pos (.inr rfl)]
      rw [h2] at hf
      go_enter Tryz.func11, Tryz.ntmps11
      go_wp2_with (first
        | (go_at_call 36; refine hn.mono ?_; rintro e w1 ⟨rfl, rfl⟩)
        | (go_at_call 27; refine (hf _).mono ?_; rintro e w1 ⟨rfl, rfl⟩))
      go_ret
      exact ⟨rfl, HL, World.grownBy.refl _ _⟩
    · rw [if_neg (by simp [h1])]
      rw [h2] at hf
      go_enter Tryz.func11, Tryz.ntmps11
      go_wp2_with (first
        | (go_at_call 36; refine hn.mono ?_; rintro e w1 ⟨rfl, rfl⟩)
        | (go_at_call 27; refine (hf _).mono ?_; rintro e w1 ⟨rfl, rfl⟩)
        | ((with_reducible refine wpList_stB 3 _ _ ?_); refine ⟨_, _, _, ⟨_, _, _, Tryz.sizeOf3, rfl, HL, lg_snap _ _ n⟩, ?_⟩; intro w5 L5 g5))
      go_ret
      exact ⟨rfl, L5, g5⟩
end
end Go.Proofs.YtknchbhobopkeaaGreatDoor
