/- Texts that the claim leans on, part 4: D10, D11, D12, D13, D14, D15a, Gb, D15. -/
import Derived.Test.YtbdonjenekhmdaaGreatDoorZ1
import Derived.Test.YtbdonjenekhmdaaGreatDoorZ2
import Derived.Test.YtbdonjenekhmdaaGreatDoorZ3
import Derived.Test.YtbdonjenekhmdaaGreatDoorRows
import Derived.WalkKit
import Derived.WalkSpells
import Derived.WalkLawsBesides
import Derived.Handy
import Derived.Deep.QuietTactic
import Derived.BigQuiet
import Derived.Deep.DeepCutAuto
import Derived.Lib.Hide
import Derived.RegionTactic
import Derived.ChangeAlike
import Derived.Laws.ResultCell
import Derived.Outline
import Derived.Great.BuildSlice
import Derived.Great.FillDense
import Derived.Laws.Rows
import Derived.Deep.Quiet
import Derived.Deep.RegionHeld3
import Derived.ProofKit
import Derived.OpenShut
import Derived.Deep.RegionHeld
import Derived.Laws.CopyOwn
import Derived.Laws.CopyRow
import Derived.Laws.NewBlocks
import Derived.Deep.RegionLaw
namespace Go.Proofs.YtbdonjenekhmdaaGreatDoor
open Go.RowKit
def fix64 (l : List UInt8) : List UInt8 := (l ++ List.replicate 64 0).take 64
theorem fix64_len (l : List UInt8) : (fix64 l).length = 64 := by
 unfold fix64
 rw [List.length_take, List.length_append, List.length_replicate]
 omega
theorem fix64_of {l : List UInt8} (h : l.length = 64) : fix64 l = l := by
 unfold fix64
 rw [← h, List.take_left]
def plC (p : Pl) : List Value := bys (fix64 p.rest) ++ (bys (fix64 p.meant) ++ [.bool p.lost])
theorem plC_len (p : Pl) : (plC p).length = 129 := by simp [plC, bys_len, fix64_len]
def plsV (l : List Pl) : Array Value := (l.flatMap plC).toArray
theorem plsV_size (l : List Pl) : (plsV l).size = 129 * l.length := by
 simp only [plsV, List.size_toArray]
 exact flat_len plC_len l
def wtC (x : List UInt8 × Nat) : List Value := bys (fix64 x.1) ++ [.int .i64 (x.2 : Int)]
theorem wtC_len (x : List UInt8 × Nat) : (wtC x).length = 65 := by simp [wtC, bys_len, fix64_len]
def dkA (gp : Nat) (wv : Value) (d : Dk) : Array Value := #[.slice (some ⟨gp, 0, none⟩) d.pl.length d.pl.length, wv, .bool d.down, .bool d.dead, .int .i64 d.left]
structure DiskB (B g gp : Nat) (wv : Value) (d : Dk) (w : World) : Prop where
 box : w.heap[g]? = some (.cells (dkA gp wv d) 95 (0, 0))
 pls : w.heap[gp]? = some (.cells (plsV d.pl) 255 (0, 0))
 wts : w.ownsRow B 219 65 wv d.waits.length (d.waits.flatMap wtC)
 gb : B ≤ g
 pb : B ≤ gp
 n0 : 0 < d.pl.length
 nl : d.pl.length ≤ 1024
 lo : -1 ≤ d.left
 hi : d.left ≤ 9223372036854775807
 ok : ∀ p ∈ d.pl, p.rest.length = 64 ∧ p.meant.length = 64
 wk : ∀ x ∈ d.waits, x.1.length = 64 ∧ x.2 < d.pl.length
structure Kt (B : Nat) (w w' : World) : Prop where
 bl : Below B w w'
 ty : ∀ (j : Nat) (cs : Array Value) (T : TypeId), w.heap[j]? = some (.cells cs T (0, 0)) → T ≠ 95 → T ≠ 255 → T ≠ 219 → w'.heap[j]? = some (.cells cs T (0, 0))
theorem Kt.refl (B : Nat) (w : World) : Kt B w w := ⟨Below.refl _ _, fun _ _ _ h _ _ _ => h⟩
theorem Kt.trans {B : Nat} {w w' w'' : World} (h : Kt B w w') (h2 : Kt B w' w'') : Kt B w w'' := ⟨h.bl.trans h2.bl, fun j cs T a b c d => h2.ty j cs T (h.ty j cs T a b c d) b c d⟩
theorem Kt.of {B : Nat} {w w' : World} (hb : Below w.heap.size w w') (h : B ≤ w.heap.size) : Kt B w w' := ⟨hb.mono h, fun _ _ _ a _ _ _ => tr_bl hb a⟩
theorem Kt.st {B g : Nat} {w w' : World} {cs : Array Value} {T : TypeId} (hg : w.grownBy w' (some g)) (hc : w.heap[g]? = some (.cells cs T (0, 0))) (hT : T = 95 ∨ T = 255 ∨ T = 219) (hB : B ≤ g) : Kt B w w' := by
 refine ⟨(Below.refl B w).grown hg (by have := lt_blk hc; omega) (fun k e => by cases e; exact hB), fun j cs' T' h h1 h2 h3 => tr_st hg h ?_⟩
 rintro rfl
 rw [hc] at h
 injection h with h
 injection h with _ e
 subst e
 rcases hT with h | h | h
 ·exact h1 h
 ·exact h2 h
 ·exact h3 h
section
variable {B g gp : Nat} {wv : Value} {d : Dk} {w w' : World}
theorem DiskB.below (h : DiskB B g gp wv d w) (hb : Below w.heap.size w w') : DiskB B g gp wv d w' := ⟨tr_bl hb h.box, tr_bl hb h.pls, owns_bl h.wts hb, h.gb, h.pb, h.n0, h.nl, h.lo, h.hi, h.ok, h.wk⟩
theorem DiskB.c0 (h : DiskB B g gp wv d w) : w.cell? ⟨g, 0, none⟩ = some (.slice (some ⟨gp, 0, none⟩) d.pl.length d.pl.length) := blk_cell h.box 0 _ rfl
theorem DiskB.c1 (h : DiskB B g gp wv d w) : w.cell? ⟨g, 1, none⟩ = some wv := blk_cell h.box 1 _ rfl
theorem DiskB.c2 (h : DiskB B g gp wv d w) : w.cell? ⟨g, 2, none⟩ = some (.bool d.down) := blk_cell h.box 2 _ rfl
theorem DiskB.c3 (h : DiskB B g gp wv d w) : w.cell? ⟨g, 3, none⟩ = some (.bool d.dead) := blk_cell h.box 3 _ rfl
theorem DiskB.c4 (h : DiskB B g gp wv d w) : w.cell? ⟨g, 4, none⟩ = some (.int .i64 d.left) := blk_cell h.box 4 _ rfl
end
section
variable {B g gp : Nat} {wv : Value} {d : Dk} {w : World}
theorem dsize (h : DiskB B g gp wv d w) : Calls Tryz.prog 33 #[.pointer (some ⟨g, 0, none⟩)] w fun e w' => e = .returned (.int .i64 d.pl.length) ∧ w = w' := size_at g _ _ _ w h.c0
set_option maxRecDepth 100000 in
theorem there_no (h : DiskB B g gp wv d w) : Calls Tryz.prog 181 #[.pointer (some ⟨g, 0, none⟩), .slice none 0 0] w fun e w' => e = .returned (.int .i64 0) ∧ w = w' := by
 have h0 : ((d.pl.length : Int) == 0) = false := by have := h.n0; rw [beq_eq_false_iff_ne]; omega
 go_enter Tryz.func181, Tryz.ntmps181
 go_wp2_with (go_at_call 33; refine (dsize h).mono ?_; rintro e w1 ⟨rfl, rfl⟩)
 go_loopw [12] (fun i wr => i = .int .i64 0 ∧ wr = w) (fun _ _ => 0)
 case atStart => exact ⟨rfl, rfl⟩
 case round =>
  obtain ⟨rfl, rfl⟩ := hrel
  go_wp2
  go_ret
  exact ⟨rfl, rfl⟩
set_option maxRecDepth 100000 in
theorem live_no (h : DiskB B g gp wv d w) : Calls Tryz.prog 112 #[.pointer (some ⟨g, 0, none⟩), .slice none 0 0] w fun e w' => e = .returned (.int .i64 (live0 d)) ∧ w = w' := by
 have h0 : (0 : Int) < d.pl.length := by have := h.n0; omega
 have c2 := h.c2
 have c3 := h.c3
 obtain ⟨r, hr⟩ : ∃ r, live0 d = r := ⟨_, rfl⟩
 rw [hr]
 unfold live0 there0 at hr
 have hn := h.n0
 cases hdn : d.down
 case true =>
  rw [hdn] at c2 hr
  obtain rfl : r = 5 := by rw [← hr, if_pos ⟨hn, .inl rfl⟩]
  clear hr
  go_enter Tryz.func112, Tryz.ntmps112
  go_wp2_with (first
   | (go_at_call 33; refine (dsize h).mono ?_; rintro e w1 ⟨rfl, rfl⟩)
   | (go_at_call 181; refine (there_no h).mono ?_; rintro e w1 ⟨rfl, rfl⟩))
  go_ret
  exact ⟨rfl, rfl⟩
 case false =>
  rw [hdn] at c2 hr
  cases hde : d.dead
  case true =>
   rw [hde] at c3 hr
   obtain rfl : r = 5 := by rw [← hr, if_pos ⟨hn, .inr rfl⟩]
   clear hr
   go_enter Tryz.func112, Tryz.ntmps112
   go_wp2_with (first
    | (go_at_call 33; refine (dsize h).mono ?_; rintro e w1 ⟨rfl, rfl⟩)
    | (go_at_call 181; refine (there_no h).mono ?_; rintro e w1 ⟨rfl, rfl⟩))
   go_ret
   exact ⟨rfl, rfl⟩
  case false =>
   rw [hde] at c3 hr
   obtain rfl : r = 0 := by rw [← hr, if_neg (by simp), if_neg (by omega)]
   clear hr
   go_enter Tryz.func112, Tryz.ntmps112
   go_wp2_with (first
    | (go_at_call 33; refine (dsize h).mono ?_; rintro e w1 ⟨rfl, rfl⟩)
    | (go_at_call 181; refine (there_no h).mono ?_; rintro e w1 ⟨rfl, rfl⟩))
   go_ret
   exact ⟨rfl, rfl⟩
end
end Go.Proofs.YtbdonjenekhmdaaGreatDoor
namespace Go.Proofs.YtbdonjenekhmdaaGreatDoor
open Go.RowKit
theorem dk_down (gp : Nat) (wv : Value) (d : Dk) (x : Bool) : 2 + 1 ≤ (dkA gp wv d).size ∧ (Value.bool x).cells.size = 1 ∧ (∀ u ∈ (Value.bool x).cells.toList, u.oneCell' = true) ∧ ((dkA gp wv d).toList.take 2 ++ (Value.bool x).cells.toList ++ (dkA gp wv d).toList.drop (2 + 1)).toArray = dkA gp wv { d with down := x } :=
 ⟨by show _ ≤ 5; omega, rfl, by simp [Value.cells, Value.oneCell'], rfl⟩
theorem dk_dead (gp : Nat) (wv : Value) (d : Dk) (x : Bool) : 3 + 1 ≤ (dkA gp wv d).size ∧ (Value.bool x).cells.size = 1 ∧ (∀ u ∈ (Value.bool x).cells.toList, u.oneCell' = true) ∧ ((dkA gp wv d).toList.take 3 ++ (Value.bool x).cells.toList ++ (dkA gp wv d).toList.drop (3 + 1)).toArray = dkA gp wv { d with dead := x } :=
 ⟨by show _ ≤ 5; omega, rfl, by simp [Value.cells, Value.oneCell'], rfl⟩
theorem dk_left (gp : Nat) (wv : Value) (d : Dk) (x : Int) : 4 + 1 ≤ (dkA gp wv d).size ∧ (Value.int .i64 x).cells.size = 1 ∧ (∀ u ∈ (Value.int .i64 x).cells.toList, u.oneCell' = true) ∧ ((dkA gp wv d).toList.take 4 ++ (Value.int .i64 x).cells.toList ++ (dkA gp wv d).toList.drop (4 + 1)).toArray = dkA gp wv { d with left := x } :=
 ⟨by show _ ≤ 5; omega, rfl, by simp [Value.cells, Value.oneCell'], rfl⟩
section
variable {B g gp : Nat} {wv : Value} {d d' : Dk} {w w' : World}
theorem DiskB.turn (h : DiskB B g gp wv d w) (hB : w'.heap[g]? = some (.cells (dkA gp wv d') 95 (0, 0))) (hg : w.grownBy w' (some g)) (h1 : d'.pl = d.pl) (h2 : d'.waits = d.waits) (h3 : -1 ≤ d'.left) (h4 : d'.left ≤ 9223372036854775807) : DiskB B g gp wv d' w' ∧ Kt B w w' := by
 have hne : g ≠ gp := by
  rintro rfl
  have := h.box.symm.trans h.pls
  injection this with this
  injection this with _ e
  revert e
  decide
 refine ⟨⟨hB, ?_, ?_, h.gb, h.pb, by rw [h1]; exact h.n0, by rw [h1]; exact h.nl, h3, h4, by rw [h1]; exact h.ok, by rw [h1, h2]; exact h.wk⟩, Kt.st hg h.box (.inl rfl) h.gb⟩
 ·rw [h1]
  exact tr_st hg h.pls hne
 ·rw [h2]
  exact owns_ne h.wts hg h.box (by decide)
end
section
variable {B g gp : Nat} {wv : Value} {d : Dk} {w : World}
set_option maxRecDepth 100000 in
theorem spend_any (h : DiskB B g gp wv d w) : Calls Tryz.prog 113 #[.pointer (some ⟨g, 0, none⟩)] w fun e w' => e = .returned (.int .i64 (spendD d).2) ∧ DiskB B g gp wv (spendD d).1 w' ∧ Kt B w w' := by
 have c4 := h.c4
 have hB := h.box
 have hlo := h.lo
 have hhi := h.hi
 by_cases h0 : d.left = 0
 ·have hs : spendD d = ({ d with dead := true }, 5) := by unfold spendD; rw [if_pos h0]
  rw [hs]
  rw [h0] at c4
  clear hs
  go_enter Tryz.func113, Tryz.ntmps113
  go_wp2_with ((first | (with_reducible refine wpList_stB 4 _ _ ?_) | (with_reducible refine wp_stB 4 _ _ ?_)); refine ⟨_, _, _, ⟨_, _, _, Tryz.sizeOf4, rfl, ‹_›, dk_dead _ _ _ true⟩, ?_⟩; intro w5 B5 g5)
  go_ret
  exact ⟨rfl, h.turn B5 g5 rfl rfl hlo hhi⟩
 ·by_cases h1 : 0 < d.left
  ·have hs : spendD d = ({ d with left := d.left - 1 }, 0) := by unfold spendD; rw [if_neg h0, if_pos h1]
   rw [hs]
   have h0b : (d.left == 0) = false := by rw [beq_eq_false_iff_ne]; exact h0
   clear hs
   go_enter Tryz.func113, Tryz.ntmps113
   go_wp2_with ((first | (with_reducible refine wpList_stB 3 _ _ ?_) | (with_reducible refine wp_stB 3 _ _ ?_)); refine ⟨_, _, _, ⟨_, _, _, Tryz.sizeOf3, rfl, ‹_›, dk_left _ _ _ (d.left - 1)⟩, ?_⟩; intro w5 B5 g5)
   go_ret
   exact ⟨rfl, h.turn B5 g5 rfl rfl (by simp only; omega) (by simp only; omega)⟩
  ·have hs : spendD d = (d, 0) := by unfold spendD; rw [if_neg h0, if_neg h1]
   rw [hs]
   have h0b : (d.left == 0) = false := by rw [beq_eq_false_iff_ne]; exact h0
   clear hs
   go_enter Tryz.func113, Tryz.ntmps113
   go_wp2
   go_ret
   exact ⟨rfl, h, Kt.refl _ _⟩
set_option maxRecDepth 100000 in
theorem power_any (h : DiskB B g gp wv d w) (n : Int) (hn : n ≤ 9223372036854775807) : Calls Tryz.prog 134 #[.pointer (some ⟨g, 0, none⟩), .int .i64 n] w fun e w' => e = .returned (.int .i64 (powerD d n).2) ∧ DiskB B g gp wv (powerD d n).1 w' ∧ Kt B w w' := by
 have hB := h.box
 obtain ⟨r, hr⟩ : ∃ r, live0 d = r := ⟨_, rfl⟩
 have hlv := live_no h
 rw [hr] at hlv
 unfold powerD
 rw [hr]
 by_cases h0 : r = 0
 ·subst h0
  rw [if_neg (by simp)]
  by_cases h1 : n < 0
  ·rw [if_pos h1]
   go_enter Tryz.func134, Tryz.ntmps134
   go_wp2_with (go_at_call 112; refine hlv.mono ?_; rintro e w1 ⟨rfl, rfl⟩)
   go_ret
   exact ⟨rfl, h, Kt.refl _ _⟩
  ·rw [if_neg h1]
   go_enter Tryz.func134, Tryz.ntmps134
   go_wp2_with (first
    | (go_at_call 112; refine hlv.mono ?_; rintro e w1 ⟨rfl, rfl⟩)
    | ((first | (with_reducible refine wpList_stB 3 _ _ ?_) | (with_reducible refine wp_stB 3 _ _ ?_)); refine ⟨_, _, _, ⟨_, _, _, Tryz.sizeOf3, rfl, ‹_›, dk_left _ _ _ n⟩, ?_⟩; intro w5 B5 g5))
   go_ret
   exact ⟨rfl, h.turn B5 g5 rfl rfl (by simp only; omega) hn⟩
 ·rw [if_pos h0]
  have h0b : (r != 0) = true := by simpa using h0
  go_enter Tryz.func134, Tryz.ntmps134
  go_wp2_with (go_at_call 112; refine hlv.mono ?_; rintro e w1 ⟨rfl, rfl⟩)
  go_ret
  exact ⟨rfl, h, Kt.refl _ _⟩
set_option maxRecDepth 100000 in
theorem start_any (h : DiskB B g gp wv d w) : Calls Tryz.prog 130 #[.pointer (some ⟨g, 0, none⟩)] w fun e w' => e = .returned (.int .i64 (startD d).2) ∧ DiskB B g gp wv (startD d).1 w' ∧ Kt B w w' := by
 have hB := h.box
 have c2 := h.c2
 have hn := h.n0
 have ht := there_no h
 unfold startD there0
 rw [if_neg (show ¬ d.pl.length = 0 by omega), if_neg (by simp)]
 cases hdn : d.down
 case false =>
  rw [hdn] at c2
  rw [if_pos rfl]
  go_enter Tryz.func130, Tryz.ntmps130
  go_wp2_with (go_at_call 181; refine ht.mono ?_; rintro e w1 ⟨rfl, rfl⟩)
  go_ret
  exact ⟨rfl, h, Kt.refl _ _⟩
 case true =>
  rw [hdn] at c2
  rw [if_neg (by simp)]
  go_enter Tryz.func130, Tryz.ntmps130
  go_wp2_with (first
   | (go_at_call 181; refine ht.mono ?_; rintro e w1 ⟨rfl, rfl⟩)
   | ((first | (with_reducible refine wpList_stB 4 _ _ ?_) | (with_reducible refine wp_stB 4 _ _ ?_)); refine ⟨_, _, _, ⟨_, _, _, Tryz.sizeOf4, rfl, ‹_›, dk_down _ _ d false⟩, ?_⟩; intro w5 B5 g5; have D5 := h.turn B5 g5 rfl rfl h.lo h.hi)
   | ((first | (with_reducible refine wpList_stB 4 _ _ ?_) | (with_reducible refine wp_stB 4 _ _ ?_)); refine ⟨_, _, _, ⟨_, _, _, Tryz.sizeOf4, rfl, ‹_›, dk_dead _ _ _ false⟩, ?_⟩; intro w6 B6 g6; have D6 := D5.1.turn B6 g6 rfl rfl h.lo h.hi)
   | ((first | (with_reducible refine wpList_stB 3 _ _ ?_) | (with_reducible refine wp_stB 3 _ _ ?_)); refine ⟨_, _, _, ⟨_, _, _, Tryz.sizeOf3, rfl, ‹_›, dk_left _ _ _ (-1)⟩, ?_⟩; intro w7 B7 g7; have D7 := D6.1.turn B7 g7 rfl rfl (by simp) (by simp)))
  go_ret
  exact ⟨rfl, D7.1, (D5.2.trans D6.2).trans D7.2⟩
set_option maxRecDepth 100000 in
theorem up_any (h : DiskB B g gp wv d w) : Calls Tryz.prog 43 #[.pointer (some ⟨g, 0, none⟩)] w fun e w' => e = .returned (.bool (upD d)) ∧ w = w' := by
 have c2 := h.c2
 have c3 := h.c3
 have hn := h.n0
 have h0 : (0 : Int) < d.pl.length := by omega
 unfold upD
 rw [decide_eq_true hn]
 cases hdn : d.down <;> cases hde : d.dead
 all_goals
  rw [hdn] at c2
  rw [hde] at c3
  go_enter Tryz.func43, Tryz.ntmps43
  go_wp2_with (go_at_call 33; refine (dsize h).mono ?_; rintro e w1 ⟨rfl, rfl⟩)
  go_ret
  exact ⟨rfl, rfl⟩
end
end Go.Proofs.YtbdonjenekhmdaaGreatDoor
namespace Go.Proofs.YtbdonjenekhmdaaGreatDoor
open Go.RowKit
section
variable {B g gp : Nat} {wv : Value} {d : Dk} {w : World}
set_option maxRecDepth 100000 in
theorem there_1 (h : DiskB B g gp wv d w) (s : Int) (q : Nat) (hq : w.cell? ⟨q, 0, none⟩ = some (.int .i64 s)) : Calls Tryz.prog 181 #[.pointer (some ⟨g, 0, none⟩), .slice (some ⟨q, 0, none⟩) 1 1] w fun e w' => e = .returned (.int .i64 (thereD d s)) ∧ w = w' := by
 have h0 : ((d.pl.length : Int) == 0) = false := by have := h.n0; rw [beq_eq_false_iff_ne]; omega
 have c0 := h.c0
 obtain ⟨r, hr⟩ : ∃ r, thereD d s = r := ⟨_, rfl⟩
 rw [hr]
 unfold thereD at hr
 rw [if_neg (show ¬ d.pl.length = 0 by have := h.n0; omega)] at hr
 have HR := Lib.hid hr
 clear hr
 go_enter Tryz.func181, Tryz.ntmps181
 go_wp2_with (go_at_call 33; refine (dsize h).mono ?_; rintro e w1 ⟨rfl, rfl⟩)
 go_loopw [12, 6] (fun i _ wr => ∃ k : Nat, k ≤ 1 ∧ i = .int .i64 (k : Nat) ∧ (k = 1 → r = 0) ∧ wr = w) (fun i _ _ => 1 - (intOf i).toNat)
 case atStart => exact ⟨0, by omega, rfl, by omega, rfl⟩
 case round =>
  obtain ⟨k, hk, rfl, hkr, rfl⟩ := hrel
  rcases (show k = 0 ∨ k = 1 by omega) with rfl | rfl
  ·by_cases h1 : s < 0
   ·obtain rfl : r = 2 := by rw [← HR.out, if_pos (.inl h1)]
    go_wp2
    go_ret
    exact ⟨rfl, rfl⟩
   ·by_cases h2 : (d.pl.length : Int) ≤ s
    ·obtain rfl : r = 2 := by rw [← HR.out, if_pos (.inr h2)]
     go_wp2
     go_ret
     exact ⟨rfl, rfl⟩
    ·obtain rfl : r = 0 := by rw [← HR.out, if_neg (by omega)]
     go_wp2
     go_roundw
     case rel => exact ⟨1, by omega, by first | rfl | go_num, by simp, by first | trivial | rfl⟩
     case measure => first | (simp [intOf]; done) | (simp [intOf]; omega)
  ·obtain rfl : r = 0 := hkr rfl
   go_wp2
   go_ret
   exact ⟨rfl, rfl⟩
set_option maxRecDepth 100000 in
theorem live_1 (h : DiskB B g gp wv d w) (s : Int) (q : Nat) (hq : w.cell? ⟨q, 0, none⟩ = some (.int .i64 s)) : Calls Tryz.prog 112 #[.pointer (some ⟨g, 0, none⟩), .slice (some ⟨q, 0, none⟩) 1 1] w fun e w' => e = .returned (.int .i64 (liveD d s)) ∧ w = w' := by
 have h0 : (0 : Int) < d.pl.length := by have := h.n0; omega
 have c2 := h.c2
 have c3 := h.c3
 have hn := h.n0
 have ht := there_1 h s q hq
 unfold liveD
 cases hdn : d.down
 case true =>
  rw [hdn] at c2
  rw [if_pos ⟨hn, .inl rfl⟩]
  go_enter Tryz.func112, Tryz.ntmps112
  go_wp2_with (go_at_call 33; refine (dsize h).mono ?_; rintro e w1 ⟨rfl, rfl⟩)
  go_ret
  exact ⟨rfl, rfl⟩
 case false =>
  rw [hdn] at c2
  cases hde : d.dead
  case true =>
   rw [hde] at c3
   rw [if_pos ⟨hn, .inr rfl⟩]
   go_enter Tryz.func112, Tryz.ntmps112
   go_wp2_with (go_at_call 33; refine (dsize h).mono ?_; rintro e w1 ⟨rfl, rfl⟩)
   go_ret
   exact ⟨rfl, rfl⟩
  case false =>
   rw [hde] at c3
   rw [if_neg (by simp)]
   go_enter Tryz.func112, Tryz.ntmps112
   go_wp2_with (first
    | (go_at_call 33; refine (dsize h).mono ?_; rintro e w1 ⟨rfl, rfl⟩)
    | (go_at_call 181; refine ht.mono ?_; rintro e w1 ⟨rfl, rfl⟩))
   go_ret
   exact ⟨rfl, rfl⟩
end
end Go.Proofs.YtbdonjenekhmdaaGreatDoor
namespace Go.Proofs.YtbdonjenekhmdaaGreatDoor
open Go.RowKit
theorem pl_split {l : List Pl} {s : Nat} {p : Pl} (h : l[s]? = some p) : ∃ a b, l = a ++ p :: b ∧ a.length = s ∧ ∀ p', l.set s p' = a ++ p' :: b := by
 have hs := (List.getElem?_eq_some_iff.1 h).1
 have hp := (List.getElem?_eq_some_iff.1 h).2
 refine ⟨l.take s, l.drop (s + 1), ?_, by rw [List.length_take]; omega, fun p' => by rw [List.set_eq_take_append_cons_drop, if_pos hs]⟩
 rw [← hp, ← List.drop_eq_getElem_cons hs, List.take_append_drop]
theorem flat_part {l : List Pl} {s r : Nat} {p p' : Pl} {v : List Value} (h : l[s]? = some p) (hr : r + v.length ≤ 129) (hv : (plC p).take r ++ v ++ (plC p).drop (r + v.length) = plC p') : (l.flatMap plC).take (s * 129 + r) ++ v ++ (l.flatMap plC).drop (s * 129 + r + v.length) = (l.set s p').flatMap plC := by
 obtain ⟨a, b, rfl, hl, hset⟩ := pl_split h
 have hfa : (a.flatMap plC).length = s * 129 := by rw [flat_len plC_len, hl, Nat.mul_comm]
 have hc := plC_len p
 rw [hset p', List.flatMap_append, List.flatMap_cons, List.flatMap_append, List.flatMap_cons, ← hv]
 have e1 : (a.flatMap plC ++ (plC p ++ b.flatMap plC)).take (s * 129 + r) = a.flatMap plC ++ (plC p).take r := by
  rw [List.take_append, List.take_of_length_le (by omega), hfa, show s * 129 + r - s * 129 = r by omega, List.take_append_of_le_length (by omega)]
 have e2 : (a.flatMap plC ++ (plC p ++ b.flatMap plC)).drop (s * 129 + r + v.length) = (plC p).drop (r + v.length) ++ b.flatMap plC := by
  rw [List.drop_append, List.drop_of_length_le (show (a.flatMap plC).length ≤ s * 129 + r + v.length by omega), hfa, show s * 129 + r + v.length - s * 129 = r + v.length by omega, List.nil_append, List.drop_append_of_le_length (by omega)]
 rw [e1, e2]
 simp only [List.append_assoc]
theorem pls_part {l : List Pl} {s r n : Nat} {p p' : Pl} {x : Value} (h : l[s]? = some p) (hn : x.cells.size = n) (hr : r + n ≤ 129) (h1 : ∀ u ∈ x.cells.toList, u.oneCell' = true) (hv : (plC p).take r ++ x.cells.toList ++ (plC p).drop (r + n) = plC p') :
  s * 129 + r + n ≤ (plsV l).size ∧ x.cells.size = n ∧ (∀ u ∈ x.cells.toList, u.oneCell' = true) ∧ ((plsV l).toList.take (s * 129 + r) ++ x.cells.toList ++ (plsV l).toList.drop (s * 129 + r + n)).toArray = plsV (l.set s p') := by
 have hs := (List.getElem?_eq_some_iff.1 h).1
 have hn2 : x.cells.toList.length = n := by rw [Array.length_toList]; exact hn
 refine ⟨by rw [plsV_size]; omega, hn, h1, ?_⟩
 unfold plsV
 simp only
 rw [← hn2] at hv hr ⊢
 rw [flat_part h hr hv]
theorem pls_at {l : List Pl} {s r : Nat} {p : Pl} {u : Value} (h : l[s]? = some p) (hu : (plC p)[r]? = some u) : (plsV l)[s * 129 + r]? = some u := by
 unfold plsV
 rw [List.getElem?_toArray]
 exact flat_at plC_len h r u hu
theorem pl_lost (p : Pl) (x : Bool) : (plC p).take 128 ++ (Value.bool x).cells.toList ++ (plC p).drop (128 + 1) = plC { p with lost := x } := by
 have h1 : (bys (fix64 p.rest)).length = 64 := by rw [bys_len, fix64_len]
 have h2 : (bys (fix64 p.meant)).length = 64 := by rw [bys_len, fix64_len]
 have h3 : (bys (fix64 p.rest) ++ bys (fix64 p.meant)).length = 128 := by rw [List.length_append, h1, h2]
 have e : plC p = (bys (fix64 p.rest) ++ bys (fix64 p.meant)) ++ [.bool p.lost] := by simp [plC]
 have e1 : (plC p).take 128 = bys (fix64 p.rest) ++ bys (fix64 p.meant) := by rw [e, ← h3, List.take_left]
 have e2 : (plC p).drop (128 + 1) = [] := List.drop_of_length_le (by rw [plC_len]; omega)
 rw [e1, e2]
 simp [plC, Value.cells]
theorem pls_lost {l : List Pl} {s : Nat} {p : Pl} (h : l[s]? = some p) : s * 129 + 128 + 1 ≤ (plsV l).size ∧ (Value.bool true).cells.size = 1 ∧ (∀ u ∈ (Value.bool true).cells.toList, u.oneCell' = true) ∧ ((plsV l).toList.take (s * 129 + 128) ++ (Value.bool true).cells.toList ++ (plsV l).toList.drop (s * 129 + 128 + 1)).toArray = plsV (l.set s { p with lost := true }) :=
 pls_part h rfl (by omega) (by simp [Value.cells, Value.oneCell']) (pl_lost p true)
section
variable {B g gp : Nat} {wv : Value} {d : Dk} {w w' : World}
theorem DiskB.sect (h : DiskB B g gp wv d w) {s : Nat} {p' : Pl} (hB : w'.heap[gp]? = some (.cells (plsV (d.pl.set s p')) 255 (0, 0))) (hg : w.grownBy w' (some gp)) (hp : p'.rest.length = 64 ∧ p'.meant.length = 64) : DiskB B g gp wv { d with pl := d.pl.set s p' } w' ∧ Kt B w w' := by
 have hne : gp ≠ g := by
  rintro rfl
  have := h.box.symm.trans h.pls
  injection this with this
  injection this with _ e
  revert e
  decide
 have hl : (d.pl.set s p').length = d.pl.length := List.length_set
 refine ⟨⟨?_, hB, owns_ne h.wts hg h.pls (by decide), h.gb, h.pb, by rw [hl]; exact h.n0, by rw [hl]; exact h.nl, h.lo, h.hi, ?_, ?_⟩, Kt.st hg h.pls (.inr (.inl rfl)) h.pb⟩
 ·have e : dkA gp wv { d with pl := d.pl.set s p' } = dkA gp wv d := by unfold dkA; simp only [hl]
  rw [e]
  exact tr_st hg h.box hne
 ·intro q hq
  rcases List.mem_or_eq_of_mem_set hq with hq | rfl
  ·exact h.ok q hq
  ·exact hp
 ·intro x hx
  simp only [hl]
  exact h.wk x hx
theorem modify_set {l : List Pl} {s : Nat} {p : Pl} (f : Pl → Pl) (h : l[s]? = some p) : l.modify s f = l.set s (f p) := by
 obtain ⟨a, b, rfl, hl, hset⟩ := pl_split h
 rw [hset, ← hl]
 clear h hset hl
 induction a with
 | nil => rfl
 | cons x a ih =>
  show (x :: (a ++ p :: b)).modify (a.length + 1) f = x :: (a ++ f p :: b)
  rw [List.modify_succ_cons, ih]
set_option maxRecDepth 100000 in
theorem lose_any (h : DiskB B g gp wv d w) (hb : B ≤ w.heap.size) (s : Int) : Calls Tryz.prog 132 #[.pointer (some ⟨g, 0, none⟩), .int .i64 s] w fun e w' => e = .returned (.int .i64 (loseD d s).2) ∧ DiskB B g gp wv (loseD d s).1 w' ∧ Kt B w w' := by
 have hbA := blw w (Obj.cells #[.int .i64 s] 3)
 have hA := h.below hbA
 have hk := Kt.of hbA hb
 have hq : (w.alloc (Obj.cells #[.int .i64 s] 3)).cell? ⟨w.heap.size, 0, none⟩ = some (.int .i64 s) := blk_cell (heap_alloc_new w _) 0 _ rfl
 have ht := there_1 hA s w.heap.size hq
 have c0 := hA.c0
 have hP := hA.pls
 unfold loseD
 by_cases h0 : thereD d s = 0
 ·rw [if_neg (by simpa using h0)]
  rw [h0] at ht
  have hsr : 0 ≤ s ∧ s < d.pl.length := by
   unfold thereD at h0
   split at h0
   ·cases h0
   ·split at h0
    ·cases h0
    ·omega
  obtain ⟨k, rfl⟩ : ∃ k : Nat, s = k := ⟨s.toNat, by omega⟩
  have hk2 : k < d.pl.length := by omega
  have hpk : d.pl[k]? = some d.pl[k] := List.getElem?_eq_getElem hk2
  simp only [Int.toNat_natCast]
  rw [modify_set _ hpk]
  have hok := h.ok _ (List.getElem_mem hk2)
  generalize d.pl[k] = p at *
  go_enter Tryz.func132, Tryz.ntmps132
  go_wp2_with (first
   | (go_at_call 181; refine ht.mono ?_; rintro e w1 ⟨rfl, rfl⟩)
   | ((first | (with_reducible refine wpList_stB 4 _ _ ?_) | (with_reducible refine wp_stB 4 _ _ ?_)); refine ⟨_, _, _, ⟨_, _, _, Tryz.sizeOf4, rfl, ‹_›, pls_lost hpk⟩, ?_⟩; intro w5 B5 g5))
  go_ret
  have hs := hA.sect B5 g5 hok
  exact ⟨rfl, hs.1, hk.trans hs.2⟩
 ·rw [if_pos (by simpa using h0)]
  have h0b : (thereD d s != 0) = true := by simpa using h0
  go_enter Tryz.func132, Tryz.ntmps132
  go_wp2_with (go_at_call 181; refine ht.mono ?_; rintro e w1 ⟨rfl, rfl⟩)
  go_ret
  exact ⟨rfl, hA, hk⟩
end
set_option maxRecDepth 100000 in
theorem own_any (b : List UInt8) (hb : b.length = 64) (w : World) : Calls Tryz.prog 210 #[.agg (bys b).toArray] w fun e w' => (∃ a c, e = .returned (.slice a 64 c) ∧ w'.ownsRow w.heap.size 5 1 (.slice a 64 c) 64 (bys b)) ∧ Below w.heap.size w w' := by
 have hr : Row (w.alloc (Obj.cells (bys b).toArray 217)) (some ⟨w.heap.size, 0, none⟩) (bys b) := Row.of_block (heap_alloc_new w (Obj.cells (bys b).toArray 217)) 0 (fun i u hu => by rw [Nat.zero_add]; exact hu)
 go_enter Tryz.func210, Tryz.ntmps210
 refine seqH (fun K HK => ?_)
 go_wp2
 refine HK.out _ _ ?_
 clear HK
 change Code.wp _ _ _ _ (w.alloc (Obj.cells (bys b).toArray 217))
 go_wp2_with (at_builtin; refine wpList_append_row rfl _ _ 37 5 elByte rfl w.heap.size _ 0 [] rfl (World.ownsRow_nil _ _ _ _) (some ⟨w.heap.size, 0, none⟩) 64 64 (bys b) rfl (by rw [bys_len]; omega) hr bys_one (by decide) (by decide) (by simp) ?_; intro v4 w4 ho4 hb4)
 rw [Nat.zero_add, List.nil_append] at ho4
 obtain ⟨a, c, rfl, _⟩ := Row.of_owns ho4
 go_ret
 exact ⟨⟨a, c, rfl, ho4⟩, (blw w (Obj.cells (bys b).toArray 217)).trans hb4⟩
end Go.Proofs.YtbdonjenekhmdaaGreatDoor
namespace Go.Proofs.YtbdonjenekhmdaaGreatDoor
open Go.RowKit
theorem lastW_hit {b : List UInt8} {k s : Nat} {l : List (List UInt8 × Nat)} (h : lastW l s = none) (hk : k = s) : lastW ((b, k) :: l) s = some b := by
 simp only [lastW, h]
 rw [if_pos hk]
theorem lastW_miss {b : List UInt8} {k s : Nat} {l : List (List UInt8 × Nat)} (h : lastW l s = none) (hk : k ≠ s) : lastW ((b, k) :: l) s = none := by
 simp only [lastW, h]
 rw [if_neg hk]
theorem lastW_pre {s : Nat} {b : List UInt8} : ∀ (a l : List (List UInt8 × Nat)), lastW l s = some b → lastW (a ++ l) s = some b
 | [], _, h => h
 | (c, k) :: a, l, h => by
  have := lastW_pre a l h
  simp only [List.cons_append, lastW, this]
theorem pl_rest {l : List Pl} {k : Nat} {p : Pl} (h : l[k]? = some p) (hp : p.rest.length = 64) : k * 129 + 64 ≤ (plsV l).size ∧ (plsV l).extract (k * 129) (k * 129 + 64) = (bys p.rest).toArray := by
 have hs := (List.getElem?_eq_some_iff.1 h).1
 refine ⟨by rw [plsV_size]; omega, ?_⟩
 obtain ⟨a, b, rfl, hl, _⟩ := pl_split h
 have hfa : (a.flatMap plC).length = k * 129 := by rw [flat_len plC_len, hl, Nat.mul_comm]
 have h64 : (bys p.rest).length = 64 := by rw [bys_len]; exact hp
 have e : (plsV (a ++ p :: b)).toList = a.flatMap plC ++ (bys p.rest ++ (bys (fix64 p.meant) ++ [.bool p.lost] ++ b.flatMap plC)) := by
  unfold plsV
  simp only [List.flatMap_append, List.flatMap_cons]
  rw [show plC p = bys p.rest ++ (bys (fix64 p.meant) ++ [.bool p.lost]) by unfold plC; rw [fix64_of hp]]
  simp only [List.append_assoc]
 apply Array.toList_inj.1
 rw [Array.toList_extract, e]
 show List.take (k * 129 + 64 - k * 129) (List.drop (k * 129) _) = bys p.rest
 rw [← hfa, List.drop_left, show (a.flatMap plC).length + 64 - (a.flatMap plC).length = 64 by omega, ← h64, List.take_left]
theorem pl_lostAt (p : Pl) : (plC p)[128]? = some (.bool p.lost) := by
 have h1 : (bys (fix64 p.rest)).length = 64 := by rw [bys_len, fix64_len]
 have h2 : (bys (fix64 p.meant)).length = 64 := by rw [bys_len, fix64_len]
 unfold plC
 rw [List.getElem?_append_right (by omega), h1, List.getElem?_append_right (by omega), h2]
 rfl
theorem wt_sec (x : List UInt8 × Nat) : (wtC x)[64]? = some (.int .i64 (x.2 : Int)) := by
 have h1 : (bys (fix64 x.1)).length = 64 := by rw [bys_len, fix64_len]
 unfold wtC
 rw [List.getElem?_append_right (by omega), h1]
 rfl
theorem wt_bytes {x : List UInt8 × Nat} (hx : x.1.length = 64) {j : Nat} {u : Value} (h : (bys x.1).toArray[j]? = some u) : (wtC x)[j]? = some u := by
 rw [List.getElem?_toArray] at h
 unfold wtC
 rw [fix64_of hx, List.getElem?_append_left (List.getElem?_eq_some_iff.1 h).1]
 exact h
def ReadRes (base : Nat) (r : List UInt8 × Int) (e : Ending) (w' : World) : Prop :=
 if r.2 = 0 then ∃ a c, e = .returned (.tuple #[.slice a 64 c, .int .i64 0]) ∧ w'.ownsRow base 5 1 (.slice a 64 c) 64 (bys r.1) else e = .returned (.tuple #[.slice none 0 0, .int .i64 r.2])
theorem ReadRes.err {base : Nat} {x : Int} {w' : World} (h : x ≠ 0) : ReadRes base ([], x) (.returned (.tuple #[.slice none 0 0, .int .i64 x])) w' := by
 unfold ReadRes
 rw [if_neg h]
theorem ReadRes.ok {base : Nat} {b : List UInt8} {w' : World} {a : Option Addr} {c : Nat} (h : w'.ownsRow base 5 1 (.slice a 64 c) 64 (bys b)) : ReadRes base (b, 0) (.returned (.tuple #[.slice a 64 c, .int .i64 0])) w' := by
 unfold ReadRes
 rw [if_pos rfl]
 exact ⟨a, c, rfl, h⟩
section
variable {B g gp : Nat} {wv : Value} {d : Dk} {w : World}
set_option maxRecDepth 100000 in
set_option maxHeartbeats 4000000 in
theorem read_any (h : DiskB B g gp wv d w) (s : Int) : Calls Tryz.prog 170 #[.pointer (some ⟨g, 0, none⟩), .int .i64 s] w fun e w' => ReadRes w.heap.size (readD d s) e w' ∧ Below w.heap.size w w' := by
 have hbA := blw w (Obj.cells #[.int .i64 s] 3)
 have hA := h.below hbA
 have hq : (w.alloc (Obj.cells #[.int .i64 s] 3)).cell? ⟨w.heap.size, 0, none⟩ = some (.int .i64 s) := blk_cell (heap_alloc_new w _) 0 _ rfl
 have ht := live_1 hA s w.heap.size hq
 by_cases h0 : liveD d s = 0
 case neg =>
  rw [show readD d s = ([], liveD d s) by unfold readD; rw [if_pos h0]]
  have h0b : (liveD d s != 0) = true := by simpa using h0
  go_enter Tryz.func170, Tryz.ntmps170
  go_wp2_with (go_at_call 112; refine ht.mono ?_; rintro e w1 ⟨rfl, rfl⟩)
  go_ret2
  exact ⟨ReadRes.err h0, hbA⟩
 case pos =>
  rw [h0] at ht
  have hsr : 0 ≤ s ∧ s < d.pl.length := by
   unfold liveD at h0
   split at h0
   ·cases h0
   ·unfold thereD at h0
    split at h0
    ·cases h0
    ·split at h0
     ·cases h0
     ·omega
  obtain ⟨k, rfl⟩ : ∃ k : Nat, s = k := ⟨s.toNat, by omega⟩
  obtain ⟨R, hR⟩ : ∃ R, readD d k = R := ⟨_, rfl⟩
  rw [hR]
  unfold readD at hR
  rw [if_neg (by simpa using h0)] at hR
  clear h0 hq
  have hk2 : k < d.pl.length := by omega
  have hpk : d.pl[k]? = some d.pl[k] := List.getElem?_eq_getElem hk2
  have hok := h.ok _ (List.getElem_mem hk2)
  simp only [Int.toNat_natCast] at hR
  rw [hpk] at hR
  simp only at hR
  generalize d.pl[k] = p at *
  obtain ⟨wa, wc, rfl, hwr, hwl, hwm⟩ := Row.of_owns hA.wts
  unfold maxLen at hwm
  have c0 := hA.c0
  have c1 := hA.c1
  have hP := hA.pls
  have cl : (w.alloc (Obj.cells #[.int .i64 (k : Int)] 3)).cell? ⟨gp, k * 129 + 128, none⟩ = some (.bool p.lost) := blk_cell hP _ _ (pls_at hpk (pl_lostAt p))
  have hwk := Lib.hid h.wk
  have HW := Lib.hid hwr
  have hwA : w.heap.size ≤ (w.alloc (Obj.cells #[.int .i64 (k : Int)] 3)).heap.size := hbA.size
  have HR := Lib.hid hR
  clear hR hwr h
  go_enter Tryz.func170, Tryz.ntmps170
  refine seqH (fun K HK => ?_)
  go_wp2
  refine HK.out _ _ ?_
  clear HK
  refine seqH (fun K HK => ?_)
  go_wp2_with (go_at_call 112; refine ht.mono ?_; rintro e w1 ⟨rfl, rfl⟩)
  refine HK.out _ _ ?_
  clear HK
  generalize w.alloc (Obj.cells #[.int .i64 (k : Int)] 3) = wA at *
  refine seqH (fun K HK => ?_)
  go_wp2_with fail
  go_loopw [7] (fun i wr => ∃ j : Nat, j ≤ d.waits.length ∧ i = .int .i64 ((j : Int) - 1) ∧ Hid (lastW (d.waits.drop j) k = none) ∧ wr = wA) (fun i _ => ((intOf i) + 1).toNat)
  case atStart => exact ⟨d.waits.length, Nat.le_refl _, rfl, Lib.hid (by rw [List.drop_length]; rfl), rfl⟩
  case round =>
   obtain ⟨j, hj, rfl, hla, rfl⟩ := hrel
   cases j with
   | zero =>
    have hln : lastW d.waits k = none := by have h := hla.out; rw [List.drop_zero] at h; exact h
    have hR := HR.out
    rw [hln] at hR
    simp only at hR
    clear hla hln HR
    cases hlo : p.lost
    case true =>
     rw [hlo, if_pos rfl] at hR
     rw [hlo] at cl
     subst hR
     rw [show (((0 : Nat) : Int) - 1) = -1 by omega]
     go_wp2
     refine HK.out _ _ ?_
     clear HK
     go_wp2
     go_ret2
     exact ⟨ReadRes.err (by decide), hbA⟩
    case false =>
     rw [hlo, if_neg (by simp)] at hR
     rw [hlo] at cl
     subst hR
     rw [show (((0 : Nat) : Int) - 1) = -1 by omega]
     go_wp2
     refine HK.out _ _ ?_
     clear HK
     go_wp2_with (first
      | ((with_reducible refine wpList_ldB 217 _ ?_); refine ⟨rfl, _, ⟨_, _, _, _, _, Tryz.isAgg217, Tryz.sizeOf217, rfl, ‹_›, pl_rest hpk hok.1⟩, ?_⟩)
      | (go_at_call 210; refine (own_any _ hok.1 _).mono ?_; rintro e w5 ⟨⟨a5, c5, rfl, ho5⟩, hb5⟩))
     go_ret2
     exact ⟨ReadRes.ok (owns_mono ho5 hwA), hbA.trans (hb5.mono hwA)⟩
   | succ j =>
    have hat : d.waits[j]? = some d.waits[j] := List.getElem?_eq_getElem (by omega)
    have hxk := hwk.out _ (List.getElem_mem (show j < d.waits.length by omega))
    have hdr := List.drop_eq_getElem_cons (show j < d.waits.length by omega)
    generalize d.waits[j] = x at *
    obtain ⟨b, off, rfl, hbl, hc0, hcs⟩ := HW.out.flat0 wtC_len (by decide) hat
    have cs := hcs 64 _ (wt_sec x)
    have HDR := Lib.hid hdr
    have HAT := Lib.hid hat
    clear hdr hat
    rw [show (((j + 1 : Nat) : Int) - 1) = (j : Int) by omega]
    obtain ⟨bx, kx⟩ := x
    simp only at hxk cs
    by_cases hkx : kx = k
    case pos =>
     subst hkx
     have hl2 : lastW d.waits kx = some bx := by
      have h := lastW_pre (d.waits.take j) (d.waits.drop j) (by rw [HDR.out]; exact lastW_hit hla.out rfl)
      rwa [List.take_append_drop] at h
     have hR := HR.out
     rw [hl2] at hR
     simp only at hR
     subst hR
     clear hl2 hla HR
     go_wp2_with (first
      | ((with_reducible refine wpList_ldC 217 _ ?_); refine ⟨rfl, _, ⟨_, _, _, Tryz.isAgg217, Tryz.sizeOf217, rfl, (show (bys bx).toArray.size = 64 by rw [List.size_toArray, bys_len]; exact hxk.1), fun j u hu => hcs j u (wt_bytes hxk.1 hu)⟩, ?_⟩)
      | (go_at_call 210; refine (own_any _ hxk.1 _).mono ?_; rintro e w5 ⟨⟨a5, c5, rfl, ho5⟩, hb5⟩))
     go_ret2
     exact ⟨ReadRes.ok (owns_mono ho5 hwA), hbA.trans (hb5.mono hwA)⟩
    case neg =>
     have hl2 : lastW (d.waits.drop j) k = none := by rw [HDR.out]; exact lastW_miss hla.out hkx
     have HL2 := Lib.hid hl2
     have hkb : ((kx : Int) == (k : Int)) = false := by rw [beq_eq_false_iff_ne]; omega
     clear hl2 hla
     go_wp2
     go_roundw
     case rel => exact ⟨j, by omega, by go_num, HL2, by first | trivial | rfl⟩
     case measure => first | (simp [intOf]; done) | (simp [intOf]; omega)
end
end Go.Proofs.YtbdonjenekhmdaaGreatDoor
namespace Go.Proofs.YtbdonjenekhmdaaGreatDoor
open Go.RowKit Go
theorem fill_first {place : Nat → Option (Nat × Nat)} {cells : Array Value} {v : Value} {s : Nat} (hs : 0 < s) (h0 : place 0 = some (0, s)) (hv : v.cells.size = s) (hc : s ≤ cells.size) (rest : List (Nat × Value)) :
  ∃ r : Array Value, Instr.fill place cells ((0, v) :: rest) = Instr.fill place r rest ∧ r.size = cells.size ∧ ∀ k, r[k]? = if k < s then v.cells[k]? else cells[k]? := by
 obtain ⟨r, hr, hsz, hk⟩ := Great.fill_dense hs [v] 0 cells (by intro x hx; rw [List.mem_singleton.1 hx]; exact hv) (by simpa using hc)
 refine ⟨r, ?_, hsz, fun k => ?_⟩
 ·have hr' : Instr.fill (fun i => some (i * s, s)) cells [(0, v)] = some r := hr
  simp only [Instr.fill, Nat.zero_mul] at hr'
  simp only [Instr.fill, h0]
  by_cases hb : v.cells.size ≠ s ∨ 0 + v.cells.size > cells.size
  ·rw [if_pos (by simpa using hb)] at hr'
   cases hr'
  ·rw [if_neg (by simpa using hb)] at hr' ⊢
   injection hr' with hr'
   rw [hr']
 ·rw [hk k]
  by_cases h : k < s
  ·rw [if_pos h, if_pos ⟨by simp, by simpa using h⟩]
   simp [Nat.div_eq_of_lt h, Nat.mod_eq_of_lt h]
  ·rw [if_neg h, if_neg (by simpa using h)]
theorem fill_write {place : Nat → Option (Nat × Nat)} {cells : Array Value} {x : List UInt8 × Nat} (h0 : place 0 = some (0, 64)) (h1 : place 1 = some (64, 1)) (hx : x.1.length = 64) (hc : cells.size = 65) :
  Instr.fill place cells [(0, .agg (bys x.1).toArray), (1, .int .i64 (x.2 : Int))] = some (wtC x).toArray := by
 have hsz : (Value.agg (bys x.1).toArray).cells.size = 64 := by show (bys x.1).toArray.size = 64; rw [List.size_toArray, bys_len]; exact hx
 obtain ⟨r, hr, hs, hk⟩ := fill_first (cells := cells) (by decide) h0 hsz (by omega) [(1, Value.int .i64 (x.2 : Int))]
 rw [hr]
 simp only [Instr.fill, h1]
 have h65 : r.size = 65 := by omega
 rw [if_neg (by rw [h65]; simp [Value.cells])]
 congr 1
 apply Array.ext_getElem?
 intro k
 have e : (Value.int IntKind.i64 (x.2 : Int)).cells.zipIdx.foldl (fun cs (y : Value × Nat) => cs.setIfInBounds (64 + y.2) y.1) r = r.setIfInBounds 64 (.int .i64 (x.2 : Int)) := rfl
 have e2 : (fun (cs : Array Value) (x : Value × Nat) => match x with | (c, j) => cs.setIfInBounds (64 + j) c) = (fun cs (y : Value × Nat) => cs.setIfInBounds (64 + y.2) y.1) := rfl
 rw [e2, e]
 have er : ((wtC x).toArray)[k]? = (wtC x)[k]? := by simp
 rw [er]
 unfold wtC
 rw [fix64_of hx]
 have hbl : (bys x.1).length = 64 := by rw [bys_len]; exact hx
 by_cases h64 : k = 64
 ·subst h64
  rw [Array.getElem?_setIfInBounds_self_of_lt (by omega), List.getElem?_append_right (by omega), hbl]
  rfl
 ·rw [Array.getElem?_setIfInBounds_ne (Ne.symm h64), hk k]
  by_cases hlt : k < 64
  ·rw [if_pos hlt, List.getElem?_append_left (by omega)]
   show (bys x.1).toArray[k]? = _
   simp
  ·rw [if_neg hlt, List.getElem?_append_right (by omega), hbl, Array.getElem?_eq_none (by omega), List.getElem?_eq_none (by simp; omega)]
theorem build_write {x : List UInt8 × Nat} (hx : x.1.length = 64) (w : World) : (Instr.build 219 #[(0, .agg (bys x.1).toArray), (1, .int .i64 (x.2 : Int))]).run Tryz.prog w = .ok (.agg (wtC x).toArray) w := by
 have hz : ∃ z, (zeroValue 219).run Tryz.prog w = .ok z w ∧ z.cells.size = 65 := ⟨_, Tryz.zeroValue219 w, by kernel_rfl⟩
 obtain ⟨z, hz, hzs⟩ := hz
 simp only [Instr.build, Sem.run_bind, hz, Result.andThen_ok, run_underlying Tryz.underlying219]
 have hm : ∀ w, (Array.mapM (fun (f : Field) => do let n ← sizeOf f.type; pure (f.offset, n)) #[{ name := "bytes", type := 217, offset := 0, embedded := true, tag := "", pkgPath := "sexton/disk", byteOffset := 0 }, { name := "sector", type := 3, offset := 64, embedded := false, tag := "", pkgPath := "sexton/disk", byteOffset := 64 }]).run Tryz.prog w = .ok #[(0, 64), (64, 1)] w := fun _ => by kernel_rfl
 rw [hm]
 simp only [Result.andThen_ok]
 rw [fill_write (x := x) rfl rfl hx hzs]
 rfl
theorem infoWrite : (Tryz.prog.info? 219).map (fun i => (i.zero.isSome, i.size)) = some (true, 65) := by kernel_rfl
theorem wp_build1 {o : Oper} {a : Act} {w : World} {K : Act → World → Prop} {Q : Exit → Act → World → Prop} (x : Operand) (ho : o.op = .buildSlice 93 1 #[(0, x)]) (cs : Array Value) (hcs : cs.size = 65) (hx : a.eval x = .agg cs)
  (h : K (a.put o.dst (.slice (some ⟨w.heap.size, 0, none⟩) 1 1)) (w.alloc (.cells cs 219))) : o.wp Tryz.prog a w K Q := by
 obtain ⟨ie, hie, h2⟩ := Option.map_eq_some_iff.1 infoWrite
 simp only [Prod.mk.injEq] at h2
 obtain ⟨hz, hsz⟩ := h2
 obtain ⟨z, hz⟩ := Option.isSome_iff_exists.1 hz
 refine Go.wp_buildSlice 93 219 1 _ ho cs ie z Tryz.underlying93 hie hz (by rw [hsz]; decide) (by rw [hsz]; decide) ?_ h
 have hf := Great.fill_whole (s := 65) (by decide) [Value.agg cs] ((Array.range (1 * ie.size)).map (z.cells[· % z.cells.size]!)) (by intro v hv; rw [List.mem_singleton.1 hv]; exact hcs) (by simp [hsz])
 have e : ([Value.agg cs].flatMap fun v => v.cells.toList).toArray = cs := by simp [Value.cells]
 rw [e] at hf
 rw [hsz] at hf ⊢
 simpa [hx] using hf
end Go.Proofs.YtbdonjenekhmdaaGreatDoor
namespace Go.Proofs.YtbdonjenekhmdaaGreatDoor
open Go.RowKit
theorem own_ne {w : World} {base n size g : Nat} {e t : TypeId} {v : Value} {xs : List Value} {cs : Array Value} (h : w.ownsRow base e size v n xs) (hg : w.heap[g]? = some (.cells cs t (0, 0))) (hne : e ≠ t) : v.ownBlock ≠ some g := by
 rcases h.2 with ⟨rfl, _⟩ | ⟨g', cap, cur, rfl, _, hh, _⟩
 ·simp [Value.ownBlock]
 ·intro he
  have : g' = g := by simpa [Value.ownBlock] using he
  subst this
  rw [hg] at hh
  injection hh with hh
  injection hh with _ ht
  exact hne ht.symm
theorem gb_of_below {a w : World} (h : Below a.heap.size a w) (r : Option Nat) : a.grownBy w r := ⟨h.os, h.tape, h.output, h.size, fun i hi _ => h.block i hi⟩
theorem gb_to_below {w w' : World} {r : Option Nat} (h : w.grownBy w' r) {B : Nat} (hB : B ≤ w.heap.size) (hr : ∀ k, r = some k → B ≤ k) : Below B w w' := (Below.refl _ _).grown h hB hr
theorem run_append_mixed {P : Program} {w : World} {t t' ty e e' : TypeId} (ht : P.underlying t = some (.slice e)) (ht' : P.underlying t' = some (.slice e')) (b b' : Option Addr) (n n' c c' : Nat) :
  (Builtin.append_ #[t, t'] ty #[.slice b n c, .slice b' n' c']).run P w = (Builtin.append_ #[t, t] ty #[.slice b n c, .slice b' n' c']).run P w := by
 simp [Builtin.append_, run_underlying ht, run_underlying ht']
theorem exec_append_mixed {P : Program} {w : World} {o : Oper} {a : Act} {s x : Operand} {t t' e e' : TypeId} (ht : P.underlying t = some (.slice e)) (ht' : P.underlying t' = some (.slice e'))
  (ho : o.op = .call { callee := .builtin .append, args := #[s, x], argTypes := #[t, t'] }) {b b' : Option Addr} {n n' c c' : Nat} (hs : a.eval s = .slice b n c) (hx : a.eval x = .slice b' n' c') :
  (execOp a.eval o).run P w = (execOp a.eval { o with op := .call { callee := .builtin .append, args := #[s, x], argTypes := #[t, t] } }).run P w := by
 simp [execOp, ho, resolve, invoke, builtin, hs, hx, run_append_mixed ht ht']
theorem wpList_appendN' {P : Program} {w : World} {ops : Array Oper} {rest : List Oper} {o : Oper} {a : Act} {Q : Exit → Act → World → Prop} (hgd : o.guard = none) (s x : Operand) (t t' e e' : TypeId) {size bytes : Nat} (hT : ElemT P t e size bytes) (ht' : P.underlying t' = some (.slice e'))
  (ho : o.op = .call { callee := .builtin .append, args := #[s, x], argTypes := #[t, t'] })
  (base : Nat) (v : Value) (n : Nat) (xs : List Value) (hs : a.eval s = v) (hown : w.ownsRow base e size v n xs)
  (ad : Addr) (m c : Nat) (news : List Value) (hx : a.eval x = .slice (some ad) m c) (hl : news.length = m * size) (hnews : ∀ j u, news[j]? = some u → w.cell? (ad.add j) = some u) (h1 : ∀ u ∈ news, u.oneCell' = true)
  (hn : n + m ≤ 4294967296) (hby : bytes ≤ 4096) (hbase : base ≤ w.heap.size)
  (h : ∀ v' w', w'.ownsRow base e size v' (n + m) (xs ++ news) → w.grownBy w' v.ownBlock → wpList P ops Q rest (a.put o.dst v') w') : wpList P ops Q (o :: rest) a w := by
 obtain ⟨i, z, ht, hi, hz, hsize, hbytes, hzs, hsz⟩ := hT.ex
 obtain ⟨b0, c0, hv0, _⟩ := Row.of_owns hown
 have hb1 : (n + m) * bytes ≤ 4294967296 * 4096 := Nat.mul_le_mul hn hby
 obtain ⟨v', w', hr, h2, h3, _⟩ := run_append_own (P := P) (w := w) base t o.type e i z size bytes ht hi hz hsize hbytes hzs hsz v n xs hown ad m c news hl hnews h1 (by unfold maxLen; omega) (by omega) hbase
 have he : (execOp a.eval { o with op := .call { callee := .builtin .append, args := #[s, x], argTypes := #[t, t] } }).run P w = .ok (.value v') w' := exec_append (o := { o with op := .call { callee := .builtin .append, args := #[s, x], argTypes := #[t, t] } }) s x t t rfl _ _ hs hx hr
 exact wpList_run hgd ((exec_append_mixed ht ht' ho (hs.trans hv0) hx).trans he) (h v' w' h2 h3)
theorem wp_run {P : Program} {w w' : World} {v : Value} {o : Oper} {a : Act} {K : Act → World → Prop} {Q : Exit → Act → World → Prop} (hr : (execOp a.eval o).run P w = .ok (.value v) w') (h : K (a.put o.dst v) w') : o.wp P a w K Q := by
 unfold Oper.wp
 rw [hr]
 exact h
theorem wp_appN {P : Program} {w : World} {o : Oper} {a : Act} {K : Act → World → Prop} {Q : Exit → Act → World → Prop} (s x : Operand) (t t' e e' : TypeId) {size bytes : Nat} (hT : ElemT P t e size bytes) (ht' : P.underlying t' = some (.slice e'))
  (ho : o.op = .call { callee := .builtin .append, args := #[s, x], argTypes := #[t, t'] })
  (base : Nat) (v : Value) (n : Nat) (xs : List Value) (hs : a.eval s = v) (hown : w.ownsRow base e size v n xs)
  (ad : Addr) (m c : Nat) (news : List Value) (hx : a.eval x = .slice (some ad) m c) (hl : news.length = m * size) (hnews : ∀ j u, news[j]? = some u → w.cell? (ad.add j) = some u) (h1 : ∀ u ∈ news, u.oneCell' = true)
  (hn : n + m ≤ 4294967296) (hby : bytes ≤ 4096) (hbase : base ≤ w.heap.size)
  (h : ∀ v' w', w'.ownsRow base e size v' (n + m) (xs ++ news) → w.grownBy w' v.ownBlock → K (a.put o.dst v') w') : o.wp P a w K Q := by
 obtain ⟨i, z, ht, hi, hz, hsize, hbytes, hzs, hsz⟩ := hT.ex
 obtain ⟨b0, c0, hv0, _⟩ := Row.of_owns hown
 have hb1 : (n + m) * bytes ≤ 4294967296 * 4096 := Nat.mul_le_mul hn hby
 obtain ⟨v', w', hr, h2, h3, _⟩ := run_append_own (P := P) (w := w) base t o.type e i z size bytes ht hi hz hsize hbytes hzs hsz v n xs hown ad m c news hl hnews h1 (by unfold maxLen; omega) (by omega) hbase
 have he : (execOp a.eval { o with op := .call { callee := .builtin .append, args := #[s, x], argTypes := #[t, t] } }).run P w = .ok (.value v') w' := exec_append (o := { o with op := .call { callee := .builtin .append, args := #[s, x], argTypes := #[t, t] } }) s x t t rfl _ _ hs hx hr
 exact wp_run ((exec_append_mixed ht ht' ho (hs.trans hv0) hx).trans he) (h v' w' h2 h3)
theorem wp_ldC {P : Program} {a : Act} {w : World} {K : Act → World → Prop} {Q : Exit → Act → World → Prop} {dst : Option Tmp} {ty' : TypeId} {pos : String} {af : Array Edge} {gd : Option (Nat × Bool)} (ty : TypeId) (x : Operand) {v : Array Value} (hl : LdCs P a w ty x v) (hK : K (a.put dst (.agg v)) w) : (Oper.mk dst (.load ty x) ty' pos af gd).wp P a w K Q :=
 wp_run (exec_ldC ty x hl) hK
end Go.Proofs.YtbdonjenekhmdaaGreatDoor
namespace Go.Proofs.YtbdonjenekhmdaaGreatDoor
open Go.RowKit
theorem elWrite : ElemT Tryz.prog 93 219 65 72 := ElemT.of (.agg (wtC ([], 0)).toArray) Tryz.underlying93 (by kernel_rfl) (by kernel_rfl) (by decide)
theorem wt_one (x : List UInt8 × Nat) : ∀ u ∈ wtC x, u.oneCell' = true := by
 intro u hu
 unfold wtC at hu
 rcases List.mem_append.1 hu with h | h
 ·exact bys_one u h
 ·rw [List.mem_singleton.1 h]; rfl
theorem dk_waits (gp : Nat) (wv : Value) (d : Dk) (a : Option Addr) (n c : Nat) : 1 + 1 ≤ (dkA gp wv d).size ∧ (Value.slice a n c).cells.size = 1 ∧ (∀ u ∈ (Value.slice a n c).cells.toList, u.oneCell' = true) ∧ ((dkA gp wv d).toList.take 1 ++ (Value.slice a n c).cells.toList ++ (dkA gp wv d).toList.drop (1 + 1)).toArray = dkA gp (.slice a n c) d :=
 ⟨by show _ ≤ 5; omega, rfl, by simp [Value.cells, Value.oneCell'], rfl⟩
theorem Kt.app {B n : Nat} {w w' : World} {v : Value} {xs : List Value} (h : w.ownsRow B 219 65 v n xs) (hg : w.grownBy w' v.ownBlock) (hB : B ≤ w.heap.size) : Kt B w w' :=
 ⟨gb_to_below hg hB (fun k e => (h.lt k e).1), fun _ _ _ hc _ _ h3 => tr_gb hg hc (own_ne h hc (Ne.symm h3))⟩
theorem DiskB.wrote {B g gp k len : Nat} {wv : Value} {d : Dk} {w w8 w9 : World} {b : List UInt8} {a : Option Addr} {c : Nat} {pl : List Pl} (h : DiskB B g gp wv d w) (_ : d.pl = pl) (hb : b.length = 64) (hk : k < d.pl.length) (ho : w8.ownsRow B 219 65 (.slice a len c) (d.waits.length + 1) (d.waits.flatMap wtC ++ wtC (b, k))) (hg : w.grownBy w8 wv.ownBlock)
  (hB : w9.heap[g]? = some (.cells (dkA gp (.slice a len c) d) 95 (0, 0))) (hg9 : w8.grownBy w9 (some g)) (hz : B ≤ w.heap.size) : DiskB B g gp (.slice a len c) { d with waits := d.waits ++ [(b, k)] } w9 ∧ Kt B w w9 := by
 have b8 := tr_gb hg h.box (own_ne h.wts h.box (by decide))
 have p8 := tr_gb hg h.pls (own_ne h.wts h.pls (by decide))
 have hne : g ≠ gp := by
  rintro rfl
  have := h.box.symm.trans h.pls
  injection this with this
  injection this with _ e
  revert e
  decide
 refine ⟨⟨hB, tr_st hg9 p8 hne, ?_, h.gb, h.pb, h.n0, h.nl, h.lo, h.hi, h.ok, ?_⟩, (Kt.app h.wts hg hz).trans (Kt.st hg9 b8 (.inl rfl) h.gb)⟩
 ·have := owns_ne ho hg9 b8 (by decide)
  simp only [List.length_append, List.length_singleton, List.flatMap_append, List.flatMap_cons, List.flatMap_nil, List.append_nil]
  exact this
 ·intro x hx
  rcases List.mem_append.1 hx with hx | hx
  ·exact h.wk x hx
  ·rw [List.mem_singleton.1 hx]; exact ⟨hb, hk⟩
theorem exec_write {a : Act} {w : World} {dst : Option Tmp} {ty' : TypeId} {pos : String} {af : Array Edge} {gd : Option (Nat × Bool)} {x y : Operand} {b : List UInt8} {k : Nat} (h : b.length = 64) (hx : a.eval x = .agg (bys b).toArray) (hy : a.eval y = .int .i64 (k : Int)) :
  (execOp a.eval (Oper.mk dst (.build 219 #[(0, x), (1, y)]) ty' pos af gd)).run Tryz.prog w = .ok (.value (.agg (wtC (b, k)).toArray)) w := by
 have hb := build_write (x := (b, k)) h w
 unfold execOp
 simp [hx, hy, hb]
theorem arr_at (a : Option Addr) (c : Nat) (w : World) : (Instr.arrayAt 217 (.slice a 64 c)).run Tryz.prog w = .ok (.pointer a) w := by
 simp [Instr.arrayAt, run_underlying Tryz.underlying217]
section
variable {B g gp : Nat} {wv : Value} {d : Dk} {w : World}
set_option maxRecDepth 100000 in
set_option maxHeartbeats 4000000 in
theorem write_any (h : DiskB B g gp wv d w) (hb : B ≤ w.heap.size) (s : Int) (ba : Option Addr) (bc : Nat) (b : List UInt8) (hs : ∀ w', Kt B w w' → SlB w' ba bc b) (hw : d.waits.length ≤ 1000000) :
  Calls Tryz.prog 62 #[.pointer (some ⟨g, 0, none⟩), .int .i64 s, .slice ba b.length bc] w fun e w' => e = .returned (.int .i64 (writeD d s b).2) ∧ (∃ wv', DiskB B g gp wv' (writeD d s b).1 w') ∧ Kt B w w' := by
 have hbA := blw w (Obj.cells #[.int .i64 s] 3)
 have hA := h.below hbA
 have hkA := Kt.of hbA hb
 have hq : (w.alloc (Obj.cells #[.int .i64 s] 3)).cell? ⟨w.heap.size, 0, none⟩ = some (.int .i64 s) := blk_cell (heap_alloc_new w _) 0 _ rfl
 have ht := live_1 hA s w.heap.size hq
 by_cases h0 : liveD d s = 0
 case neg =>
  rw [show writeD d s b = (d, liveD d s) by unfold writeD; rw [if_pos h0]]
  have h0b : (liveD d s != 0) = true := by simpa using h0
  go_enter Tryz.func62, Tryz.ntmps62
  go_wp2_with (go_at_call 112; refine ht.mono ?_; rintro e w1 ⟨rfl, rfl⟩)
  go_ret
  exact ⟨rfl, ⟨_, hA⟩, hkA⟩
 case pos =>
  rw [h0] at ht
  have hsr : 0 ≤ s ∧ s < d.pl.length := by
   unfold liveD at h0
   split at h0
   ·cases h0
   ·unfold thereD at h0
    split at h0
    ·cases h0
    ·split at h0
     ·cases h0
     ·omega
  by_cases h64 : b.length = 64
  case neg =>
   rw [show writeD d s b = (d, 2) by unfold writeD; rw [if_neg (by simpa using h0), if_pos h64]]
   have hnb : ((b.length : Int) != 64) = true := by rw [bne_iff_ne]; omega
   go_enter Tryz.func62, Tryz.ntmps62
   go_wp2_with (go_at_call 112; refine ht.mono ?_; rintro e w1 ⟨rfl, rfl⟩)
   go_ret
   exact ⟨rfl, ⟨_, hA⟩, hkA⟩
  case pos =>
   have hsp := spend_any hA
   obtain ⟨⟨d1, e1⟩, hsd⟩ : ∃ x, spendD d = x := ⟨_, rfl⟩
   rw [hsd] at hsp
   have hwr : writeD d s b = if e1 ≠ 0 then (d1, e1) else ({ d1 with waits := d1.waits ++ [(b, s.toNat)] }, 0) := by
    unfold writeD
    rw [if_neg (by simpa using h0), if_neg (by simpa using h64), hsd]
   rw [hwr]
   have hd1 : d1.pl = d.pl ∧ d1.waits = d.waits := by
    unfold spendD at hsd
    split at hsd
    ·injection hsd with a _; rw [← a]; exact ⟨rfl, rfl⟩
    ·split at hsd
     ·injection hsd with a _; rw [← a]; exact ⟨rfl, rfl⟩
     ·injection hsd with a _; rw [← a]; exact ⟨rfl, rfl⟩
   have HD1 := Lib.hid hd1
   clear hsd hwr h0 hd1
   by_cases he : e1 = 0
   case neg =>
    rw [if_pos he]
    have heb : (e1 != 0) = true := by simpa using he
    go_enter Tryz.func62, Tryz.ntmps62
    rw [h64]
    go_wp2_with (first
     | (go_at_call 112; refine ht.mono ?_; rintro e w1 ⟨rfl, rfl⟩)
     | (go_at_call 113; refine hsp.mono ?_; rintro e w2 ⟨rfl, hd2, hk2⟩))
    go_ret
    exact ⟨rfl, ⟨_, hd2⟩, hkA.trans hk2⟩
   case pos =>
    subst he
    rw [if_neg (by simp)]
    obtain ⟨k, rfl⟩ : ∃ k : Nat, s = k := ⟨s.toNat, by omega⟩
    simp only [Int.toNat_natCast]
    go_enter Tryz.func62, Tryz.ntmps62
    rw [h64]
    refine seqH (fun K HK => ?_)
    go_wp2
    refine HK.out _ _ ?_
    clear HK
    refine seqH (fun K HK => ?_)
    go_wp2_with (go_at_call 112; refine ht.mono ?_; rintro e w1 ⟨rfl, rfl⟩)
    refine HK.out _ _ ?_
    clear HK
    refine seqH (fun K HK => ?_)
    go_wp2
    refine HK.out _ _ ?_
    clear HK
    refine seqH (fun K HK => ?_)
    go_wp2_with (go_at_call 113; refine hsp.mono ?_; rintro e w2 ⟨rfl, hd2, hk2⟩)
    refine HK.out _ _ ?_
    clear HK
    have hk3 := hkA.trans hk2
    have hsl := hs _ hk3
    clear hs hsp ht hA hkA hk2
    refine seqH (fun K HK => ?_)
    refine wp_region_held_drew (S := fun _ => True) (by kernel_rfl) trivial (fun _ => ?_)
    have hdc := hd2.below (Below.refl w2.heap.size w2).drew
    have hs3 := hsl.below (Below.refl w2.heap.size w2).drew
    have hz2 : B ≤ w2.heap.size := Nat.le_trans hb hk3.bl.size
    have hkc := hk3.trans (Kt.of (Below.refl w2.heap.size w2).drew hz2)
    have hbc : B ≤ w2.drew.heap.size := hz2
    obtain ⟨o1, o2, rfl, hr3⟩ := hs3.row.at (k := 0) (by rw [bys_len]; omega)
    generalize w2.drew = x0 at *
    clear hk3 hsl hs3 hd2 hz2 hb
    refine tkT 0 rfl (by intro wS hSw; go_simp; (try with_reducible rfl)) ?_
    refine tkT 1 rfl (by intro wS hSw; go_simp; (try with_reducible rfl)) ?_
    refine tkT 2 rfl (by intro wS hSw; go_simp; (try with_reducible rfl)) ?_
    refine tkT 3 rfl (by intro wS hSw; go_simp; (try with_reducible rfl)) ?_
    refine tkT 5 rfl (by intro wS hSw; go_simp; (try with_reducible rfl)) ?_
    refine tkT 6 (v := .pointer (some ⟨o1, o2, none⟩)) rfl (by intro wS hSw; go_simp; rw [arr_at]; rfl) ?_
    refine tkT 8 rfl (by intro wS hSw; go_simp; (try with_reducible rfl)) ?_
    obtain ⟨wa, wc, rfl, _⟩ := Row.of_owns hdc.wts
    refine wpAnyH_ready (rs := [4, 7]) (by kernel_rfl) (by simp) ?_
    refine AllReadyH.cons (o := ⟨_, _, _, _, _, _⟩) rfl (fun K' hK' => ?_) (AllReadyH.cons (o := ⟨_, _, _, _, _, _⟩) rfl (fun K' hK' => ?_) (AllReadyH.nil))
    ·refine (if_pos (by rfl)).mpr ?_
     have c := hdc.c1
     go_simp
     clear c
     refine hK'.out _ _ trivial (fun _ => ?_)
     refine wpAnyH_ready (rs := [7]) (by kernel_rfl) (by simp) ?_
     refine AllReadyH.cons (o := ⟨_, _, _, _, _, _⟩) rfl (fun K' hK' => ?_) (AllReadyH.nil)
     ·refine (if_pos (by rfl)).mpr ?_
      refine wp_ldC 217 _ (v := (bys b).toArray) ⟨_, _, _, Tryz.isAgg217, Tryz.sizeOf217, rfl, by rw [List.size_toArray, bys_len]; exact h64, fun j u hu => hr3 j u (by rw [List.getElem?_toArray] at hu; exact hu)⟩ ?_
      refine hK'.out _ _ trivial (fun _ => ?_)
      refine tkT 9 (v := .agg (wtC (b, k)).toArray) rfl (by intro wS hSw; exact exec_write h64 rfl rfl) ?_
      refine wpAnyH_ready (rs := [10]) (by kernel_rfl) (by simp) ?_
      refine AllReadyH.cons (o := ⟨_, _, _, _, _, _⟩) rfl (fun K' hK' => ?_) (AllReadyH.nil)
      ·refine (if_pos (by rfl)).mpr ?_
       refine wp_build1 _ rfl (wtC (b, k)).toArray (by rw [List.size_toArray, wtC_len]) rfl ?_
       have hnc := heap_alloc_new x0 (Obj.cells (wtC (b, k)).toArray 219)
       have hdc := hdc.below (blw x0 (Obj.cells (wtC (b, k)).toArray 219))
       have hkc := hkc.trans (Kt.of (blw x0 (Obj.cells (wtC (b, k)).toArray 219)) hbc)
       have hbc := Nat.le_trans hbc (blw x0 (Obj.cells (wtC (b, k)).toArray 219)).size
       refine hK'.out _ _ trivial (fun _ => ?_)
       refine wpAnyH_ready (rs := [11]) (by kernel_rfl) (by simp) ?_
       refine AllReadyH.cons (o := ⟨_, _, _, _, _, _⟩) rfl (fun K' hK' => ?_) (AllReadyH.nil)
       refine (if_pos (by rfl)).mpr ?_
       refine wp_appN _ _ 93 93 219 219 elWrite Tryz.underlying93 rfl B _ _ _ rfl hdc.wts ⟨x0.heap.size, 0, none⟩ 1 1 (wtC (b, k)) rfl (wtC_len _) (fun j u hu => ?_) (wt_one _) (by rw [HD1.out.2]; omega) (by decide) hbc ?_
       ·rw [addr_add]
        exact blk_cell hnc _ u (by rw [Nat.zero_add, List.getElem?_toArray]; exact hu)
       intro v8 x8 ho8 hg8
       obtain ⟨a8, c8, rfl, _⟩ := Row.of_owns ho8
       refine hK'.out _ _ trivial (fun _ => ?_)
       refine tkT 12 rfl (by intro wS hSw; go_simp; (try with_reducible rfl)) ?_
       refine tkT 13 rfl (by intro wS hSw; go_simp; (try with_reducible rfl)) ?_
       refine wpAnyH_ready (rs := [14]) (by kernel_rfl) (by simp) ?_
       refine AllReadyH.cons (o := ⟨_, _, _, _, _, _⟩) rfl (fun K' hK' => ?_) (AllReadyH.nil)
       refine (if_pos (by rfl)).mpr ?_
       have box8 := tr_gb hg8 hdc.box (own_ne hdc.wts hdc.box (by decide))
       refine wp_stB 93 _ _ ?_
       refine ⟨_, _, _, ⟨_, _, _, Tryz.sizeOf93, rfl, box8, dk_waits _ _ _ _ _ _⟩, ?_⟩
       intro x9 B9 g9
       refine hK'.out _ _ trivial (fun _ => ?_)
       refine wpAnyH_done (by kernel_rfl) ?_ _
       refine HK.out _ _ ?_
       clear HK
       go_wp2
       go_ret
       have hfin := hdc.wrote HD1.out.1 h64 (by rw [HD1.out.1]; omega) ho8 hg8 B9 g9 hbc
       exact ⟨rfl, ⟨_, hfin.1⟩, (hkc.trans hfin.2)⟩
    ·refine (if_pos (by rfl)).mpr ?_
     refine wp_ldC 217 _ (v := (bys b).toArray) ⟨_, _, _, Tryz.isAgg217, Tryz.sizeOf217, rfl, by rw [List.size_toArray, bys_len]; exact h64, fun j u hu => hr3 j u (by rw [List.getElem?_toArray] at hu; exact hu)⟩ ?_
     refine hK'.out _ _ trivial (fun _ => ?_)
     refine tkT 9 (v := .agg (wtC (b, k)).toArray) rfl (by intro wS hSw; exact exec_write h64 rfl rfl) ?_
     refine wpAnyH_ready (rs := [4, 10]) (by kernel_rfl) (by simp) ?_
     refine AllReadyH.cons (o := ⟨_, _, _, _, _, _⟩) rfl (fun K' hK' => ?_) (AllReadyH.cons (o := ⟨_, _, _, _, _, _⟩) rfl (fun K' hK' => ?_) (AllReadyH.nil))
     ·refine (if_pos (by rfl)).mpr ?_
      have c := hdc.c1
      go_simp
      clear c
      refine hK'.out _ _ trivial (fun _ => ?_)
      refine wpAnyH_ready (rs := [10]) (by kernel_rfl) (by simp) ?_
      refine AllReadyH.cons (o := ⟨_, _, _, _, _, _⟩) rfl (fun K' hK' => ?_) (AllReadyH.nil)
      ·refine (if_pos (by rfl)).mpr ?_
       refine wp_build1 _ rfl (wtC (b, k)).toArray (by rw [List.size_toArray, wtC_len]) rfl ?_
       have hnc := heap_alloc_new x0 (Obj.cells (wtC (b, k)).toArray 219)
       have hdc := hdc.below (blw x0 (Obj.cells (wtC (b, k)).toArray 219))
       have hkc := hkc.trans (Kt.of (blw x0 (Obj.cells (wtC (b, k)).toArray 219)) hbc)
       have hbc := Nat.le_trans hbc (blw x0 (Obj.cells (wtC (b, k)).toArray 219)).size
       refine hK'.out _ _ trivial (fun _ => ?_)
       refine wpAnyH_ready (rs := [11]) (by kernel_rfl) (by simp) ?_
       refine AllReadyH.cons (o := ⟨_, _, _, _, _, _⟩) rfl (fun K' hK' => ?_) (AllReadyH.nil)
       refine (if_pos (by rfl)).mpr ?_
       refine wp_appN _ _ 93 93 219 219 elWrite Tryz.underlying93 rfl B _ _ _ rfl hdc.wts ⟨x0.heap.size, 0, none⟩ 1 1 (wtC (b, k)) rfl (wtC_len _) (fun j u hu => ?_) (wt_one _) (by rw [HD1.out.2]; omega) (by decide) hbc ?_
       ·rw [addr_add]
        exact blk_cell hnc _ u (by rw [Nat.zero_add, List.getElem?_toArray]; exact hu)
       intro v8 x8 ho8 hg8
       obtain ⟨a8, c8, rfl, _⟩ := Row.of_owns ho8
       refine hK'.out _ _ trivial (fun _ => ?_)
       refine tkT 12 rfl (by intro wS hSw; go_simp; (try with_reducible rfl)) ?_
       refine tkT 13 rfl (by intro wS hSw; go_simp; (try with_reducible rfl)) ?_
       refine wpAnyH_ready (rs := [14]) (by kernel_rfl) (by simp) ?_
       refine AllReadyH.cons (o := ⟨_, _, _, _, _, _⟩) rfl (fun K' hK' => ?_) (AllReadyH.nil)
       refine (if_pos (by rfl)).mpr ?_
       have box8 := tr_gb hg8 hdc.box (own_ne hdc.wts hdc.box (by decide))
       refine wp_stB 93 _ _ ?_
       refine ⟨_, _, _, ⟨_, _, _, Tryz.sizeOf93, rfl, box8, dk_waits _ _ _ _ _ _⟩, ?_⟩
       intro x9 B9 g9
       refine hK'.out _ _ trivial (fun _ => ?_)
       refine wpAnyH_done (by kernel_rfl) ?_ _
       refine HK.out _ _ ?_
       clear HK
       go_wp2
       go_ret
       have hfin := hdc.wrote HD1.out.1 h64 (by rw [HD1.out.1]; omega) ho8 hg8 B9 g9 hbc
       exact ⟨rfl, ⟨_, hfin.1⟩, (hkc.trans hfin.2)⟩
     ·refine (if_pos (by rfl)).mpr ?_
      refine wp_build1 _ rfl (wtC (b, k)).toArray (by rw [List.size_toArray, wtC_len]) rfl ?_
      have hnc := heap_alloc_new x0 (Obj.cells (wtC (b, k)).toArray 219)
      have hdc := hdc.below (blw x0 (Obj.cells (wtC (b, k)).toArray 219))
      have hkc := hkc.trans (Kt.of (blw x0 (Obj.cells (wtC (b, k)).toArray 219)) hbc)
      have hbc := Nat.le_trans hbc (blw x0 (Obj.cells (wtC (b, k)).toArray 219)).size
      refine hK'.out _ _ trivial (fun _ => ?_)
      refine wpAnyH_ready (rs := [4]) (by kernel_rfl) (by simp) ?_
      refine AllReadyH.cons (o := ⟨_, _, _, _, _, _⟩) rfl (fun K' hK' => ?_) (AllReadyH.nil)
      ·refine (if_pos (by rfl)).mpr ?_
       have c := hdc.c1
       go_simp
       clear c
       refine hK'.out _ _ trivial (fun _ => ?_)
       refine wpAnyH_ready (rs := [11]) (by kernel_rfl) (by simp) ?_
       refine AllReadyH.cons (o := ⟨_, _, _, _, _, _⟩) rfl (fun K' hK' => ?_) (AllReadyH.nil)
       refine (if_pos (by rfl)).mpr ?_
       refine wp_appN _ _ 93 93 219 219 elWrite Tryz.underlying93 rfl B _ _ _ rfl hdc.wts ⟨x0.heap.size, 0, none⟩ 1 1 (wtC (b, k)) rfl (wtC_len _) (fun j u hu => ?_) (wt_one _) (by rw [HD1.out.2]; omega) (by decide) hbc ?_
       ·rw [addr_add]
        exact blk_cell hnc _ u (by rw [Nat.zero_add, List.getElem?_toArray]; exact hu)
       intro v8 x8 ho8 hg8
       obtain ⟨a8, c8, rfl, _⟩ := Row.of_owns ho8
       refine hK'.out _ _ trivial (fun _ => ?_)
       refine tkT 12 rfl (by intro wS hSw; go_simp; (try with_reducible rfl)) ?_
       refine tkT 13 rfl (by intro wS hSw; go_simp; (try with_reducible rfl)) ?_
       refine wpAnyH_ready (rs := [14]) (by kernel_rfl) (by simp) ?_
       refine AllReadyH.cons (o := ⟨_, _, _, _, _, _⟩) rfl (fun K' hK' => ?_) (AllReadyH.nil)
       refine (if_pos (by rfl)).mpr ?_
       have box8 := tr_gb hg8 hdc.box (own_ne hdc.wts hdc.box (by decide))
       refine wp_stB 93 _ _ ?_
       refine ⟨_, _, _, ⟨_, _, _, Tryz.sizeOf93, rfl, box8, dk_waits _ _ _ _ _ _⟩, ?_⟩
       intro x9 B9 g9
       refine hK'.out _ _ trivial (fun _ => ?_)
       refine wpAnyH_done (by kernel_rfl) ?_ _
       refine HK.out _ _ ?_
       clear HK
       go_wp2
       go_ret
       have hfin := hdc.wrote HD1.out.1 h64 (by rw [HD1.out.1]; omega) ho8 hg8 B9 g9 hbc
       exact ⟨rfl, ⟨_, hfin.1⟩, (hkc.trans hfin.2)⟩
end
end Go.Proofs.YtbdonjenekhmdaaGreatDoor
