/- Texts that the claim leans on, part 7: D17, D18, D19, D20, D21, D22, D23, D24a. -/
import Derived.Test.YtknchbhobopkeaaGreatDoorZ1
import Derived.Test.YtknchbhobopkeaaGreatDoorZ2
import Derived.Test.YtknchbhobopkeaaGreatDoorZ3
import Derived.Test.YtknchbhobopkeaaGreatDoorZ4
import Derived.Test.YtknchbhobopkeaaGreatDoorZ5
import Derived.Test.YtknchbhobopkeaaGreatDoorZ6
import Derived.Test.YtknchbhobopkeaaGreatDoorRows
import Derived.WalkKit
import Derived.WalkSpells
import Derived.WalkLawsBesides
import Derived.Handy
import Derived.Deep.QuietTactic
import Derived.BigQuiet
import Derived.Deep.DeepCutAuto
import Derived.Lib.Hide
import Derived.RegionTactic
import Derived.ChangeAlike
import Derived.Laws.ResultCell
import Derived.Outline
import Derived.Laws.BitsAllLaws
import Derived.Laws.MakeOwn
import Derived.Great.BuildSlice
import Derived.Great.FillDense
import Derived.IntWalk
import Derived.Laws.Rows
import Derived.Deep.Quiet
import Derived.Deep.RegionHeld3
import Derived.Lib.AppendStr
import Derived.Laws.IdiomStrings
import Derived.Laws.BytesArg
import Derived.ProofKit
import Derived.OpenShut
import Derived.Laws.Strings
import Derived.Laws.CopyOwn
import Derived.Laws.CopyRow
import Derived.Laws.NewBlocks
import Derived.Deep.RegionLaw
namespace Go.Proofs.YtknchbhobopkeaaGreatDoor
open Go.RowKit
section
variable {B g gp : Nat} {wv : Value} {d : Dk} {w : World}
set_option maxRecDepth 100000 in
theorem flush_any (h : DiskB B g gp wv d w) (hb : B ≤ w.heap.size) : Calls Tryz.prog 65 #[.pointer (some ⟨g, 0, none⟩)] w fun e w' => e = .returned (.int .i64 (flushD d).2) ∧ (∃ wv', DiskB B g gp wv' (flushD d).1 w') ∧ Kt B w w' := by
  have hlv := live_no h
  have hsp := spend_any h
  obtain ⟨r, hr⟩ : ∃ r, live0 d = r := ⟨_, rfl⟩
  rw [hr] at hlv
  by_cases h0 : r = 0
  case neg =>
    rw [show flushD d = (d, r) by unfold flushD; rw [hr, if_pos h0]]
    have h0b : (r != 0) = true := by simpa using h0
    go_enter Tryz.func65, Tryz.ntmps65
    go_wp2_with (go_at_call 39; refine hlv.mono ?_; rintro e w1 ⟨rfl, rfl⟩)
    go_ret
    exact ⟨rfl, ⟨_, h⟩, Kt.refl _ _⟩
  case pos =>
    subst h0
    obtain ⟨⟨d1, e1⟩, hsd⟩ : ∃ x, spendD d = x := ⟨_, rfl⟩
    rw [hsd] at hsp
    have hfl : flushD d = if e1 ≠ 0 then (d1, e1) else ({ d1 with pl := thruD d1.pl d1.waits 0 (fun _ => true), waits := [] }, 0) := by
      unfold flushD
      rw [hr, if_neg (by simp), hsd]
    rw [hfl]
    clear hfl hsd hr
    by_cases he : e1 = 0
    case neg =>
      rw [if_pos he]
      have heb : (e1 != 0) = true := by simpa using he
      go_enter Tryz.func65, Tryz.ntmps65
      go_wp2_with (first
        | (go_at_call 39; refine hlv.mono ?_; rintro e w1 ⟨rfl, rfl⟩)
        | (go_at_call 90; refine hsp.mono ?_; rintro e w2 ⟨rfl, hd2, hk2⟩))
      go_ret
      exact ⟨rfl, ⟨_, hd2⟩, hk2⟩
    case pos =>
      subst he
      rw [if_neg (by simp)]
      go_enter Tryz.func65, Tryz.ntmps65
      go_wp2_with (first
        | (go_at_call 39; refine hlv.mono ?_; rintro e w1 ⟨rfl, rfl⟩)
        | (go_at_call 90; refine hsp.mono ?_; rintro e w2 ⟨rfl, hd2, hk2⟩)
        | (go_at_call 41; refine (through_all hd2 (Nat.le_trans hb hk2.bl.size)).mono ?_; rintro e w3 ⟨rfl, hd3, hk3⟩))
      go_ret
      exact ⟨rfl, ⟨_, hd3⟩, hk2.trans hk3⟩
end
end Go.Proofs.YtknchbhobopkeaaGreatDoor
namespace Go.Proofs.YtknchbhobopkeaaGreatDoor
open Go.RowKit
section
variable {B g gp : Nat} {wv : Value} {d : Dk} {w : World}
end
end Go.Proofs.YtknchbhobopkeaaGreatDoor
namespace Go.Proofs.YtknchbhobopkeaaGreatDoor
open Go.RowKit
section
variable {B g gp : Nat} {wv : Value} {d : Dk} {w : World}
end
end Go.Proofs.YtknchbhobopkeaaGreatDoor
namespace Go.Proofs.YtknchbhobopkeaaGreatDoor
open Go.RowKit
theorem pl_meant {l : List Pl} {k : Nat} {p : Pl} (h : l[k]? = some p) (hp : p.rest.length = 64) (hm : p.meant.length = 64) : k * 129 + 64 + 64 ≤ (plsV l).size ∧ (plsV l).extract (k * 129 + 64) (k * 129 + 64 + 64) = (bys p.meant).toArray := by
  have hs := (List.getElem?_eq_some_iff.1 h).1
  refine ⟨by rw [plsV_size]; omega, ?_⟩
  obtain ⟨a, b, rfl, hl, _⟩ := pl_split h
  have hfa : (a.flatMap plC).length = k * 129 := by rw [flat_len plC_len, hl, Nat.mul_comm]
  have h64 : (bys p.rest).length = 64 := by rw [bys_len]; exact hp
  have hm64 : (bys p.meant).length = 64 := by rw [bys_len]; exact hm
  have e : (plsV (a ++ p :: b)).toList = (a.flatMap plC ++ bys p.rest) ++ (bys p.meant ++ ([.bool p.lost] ++ b.flatMap plC)) := by
    unfold plsV
    simp only [List.flatMap_append, List.flatMap_cons]
    rw [show plC p = bys p.rest ++ (bys p.meant ++ [.bool p.lost]) by unfold plC; rw [fix64_of hp, fix64_of hm]]
    simp only [List.append_assoc]
  apply Array.toList_inj.1
  rw [Array.toList_extract, e]
  show List.take (k * 129 + 64 + 64 - (k * 129 + 64)) (List.drop (k * 129 + 64) _) = bys p.meant
  rw [show k * 129 + 64 = (a.flatMap plC ++ bys p.rest).length by rw [List.length_append, hfa, h64], List.drop_left, show (a.flatMap plC ++ bys p.rest).length + 64 - (a.flatMap plC ++ bys p.rest).length = 64 by omega, ← hm64, List.take_left]
def RestRes (base : Nat) (r : List UInt8 × Bool × Int) (e : Ending) (w' : World) : Prop :=
  if r.2.2 = 0 ∧ r.2.1 = false then ∃ a c, e = .returned (.tuple #[.slice a 64 c, .bool false, .int .i64 0]) ∧ w'.ownsRow base 5 1 (.slice a 64 c) 64 (bys r.1) else e = .returned (.tuple #[.slice none 0 0, .bool r.2.1, .int .i64 r.2.2])
section
variable {B g gp : Nat} {wv : Value} {d : Dk} {w : World}
theorem there_in {d : Dk} {s : Int} (h0 : thereD d s = 0) : 0 ≤ s ∧ s < d.pl.length := by
  unfold thereD at h0
  split at h0
  · cases h0
  · split at h0
    · cases h0
    · omega
set_option maxRecDepth 100000 in
theorem rest_any (h : DiskB B g gp wv d w) (s : Int) : Calls Tryz.prog 51 #[.pointer (some ⟨g, 0, none⟩), .int .i64 s] w fun e w' => RestRes w.heap.size (restD d s) e w' ∧ Below w.heap.size w w' := by
  have hbA := blw w (Obj.cells #[.int .i64 s] 3)
  have hA := h.below hbA
  have hq : (w.alloc (Obj.cells #[.int .i64 s] 3)).cell? ⟨w.heap.size, 0, none⟩ = some (.int .i64 s) := blk_cell (heap_alloc_new w _) 0 _ rfl
  have ht := there_1 hA s w.heap.size hq
  have c0 := hA.c0
  have hP := hA.pls
  have hwA : w.heap.size ≤ (w.alloc (Obj.cells #[.int .i64 s] 3)).heap.size := hbA.size
  unfold restD
  by_cases h0 : thereD d s = 0
  · rw [if_neg (by simpa using h0)]
    rw [h0] at ht
    have hsr := there_in h0
    clear h0 hq
    obtain ⟨k, rfl⟩ : ∃ k : Nat, s = k := ⟨s.toNat, by omega⟩
    have hk2 : k < d.pl.length := by omega
    have hpk : d.pl[k]? = some d.pl[k] := List.getElem?_eq_getElem hk2
    simp only [Int.toNat_natCast]
    rw [show d.pl.getD k zeroPl = d.pl[k] by rw [List.getD_eq_getElem?_getD, hpk]; rfl]
    have hok := h.ok _ (List.getElem_mem hk2)
    generalize d.pl[k] = p at *
    have cl : (w.alloc (Obj.cells #[.int .i64 (k : Int)] 3)).cell? ⟨gp, k * 129 + 128, none⟩ = some (.bool p.lost) := blk_cell hP _ _ (pls_at hpk (pl_lostAt p))
    cases hlo : p.lost
    case true =>
      rw [hlo] at cl
      rw [if_pos rfl]
      go_enter Tryz.func51, Tryz.ntmps51
      go_wp2_with (go_at_call 40; refine ht.mono ?_; rintro e w1 ⟨rfl, rfl⟩)
      go_ret3
      exact ⟨by unfold RestRes; rw [if_neg (by simp)]; rfl, hbA⟩
    case false =>
      rw [hlo] at cl
      rw [if_neg (by simp)]
      go_enter Tryz.func51, Tryz.ntmps51
      go_wp2_with (first
        | (go_at_call 40; refine ht.mono ?_; rintro e w1 ⟨rfl, rfl⟩)
        | ((with_reducible refine wpList_ldB 130 _ ?_); refine ⟨rfl, _, ⟨_, _, _, _, _, Tryz.isAgg130, Tryz.sizeOf130, rfl, ‹_›, pl_rest hpk hok.1⟩, ?_⟩)
        | (go_at_call 74; refine (own_any _ hok.1 _).mono ?_; rintro e w5 ⟨⟨a5, c5, rfl, ho5⟩, hb5⟩))
      go_ret3
      exact ⟨by unfold RestRes; rw [if_pos ⟨rfl, rfl⟩]; exact ⟨a5, c5, rfl, owns_mono ho5 hwA⟩, hbA.trans (hb5.mono hwA)⟩
  · rw [if_pos (by simpa using h0)]
    have h0b : (thereD d s != 0) = true := by simpa using h0
    go_enter Tryz.func51, Tryz.ntmps51
    go_wp2_with (go_at_call 40; refine ht.mono ?_; rintro e w1 ⟨rfl, rfl⟩)
    go_ret3
    exact ⟨by unfold RestRes; rw [if_neg (fun hh => h0 hh.1)]; rfl, hbA⟩
set_option maxRecDepth 100000 in
theorem meant_any (h : DiskB B g gp wv d w) (s : Int) : Calls Tryz.prog 71 #[.pointer (some ⟨g, 0, none⟩), .int .i64 s] w fun e w' => ReadRes w.heap.size (meantD d s) e w' ∧ Below w.heap.size w w' := by
  have hbA := blw w (Obj.cells #[.int .i64 s] 3)
  have hA := h.below hbA
  have hq : (w.alloc (Obj.cells #[.int .i64 s] 3)).cell? ⟨w.heap.size, 0, none⟩ = some (.int .i64 s) := blk_cell (heap_alloc_new w _) 0 _ rfl
  have ht := there_1 hA s w.heap.size hq
  have c0 := hA.c0
  have hP := hA.pls
  have hwA : w.heap.size ≤ (w.alloc (Obj.cells #[.int .i64 s] 3)).heap.size := hbA.size
  unfold meantD
  by_cases h0 : thereD d s = 0
  · rw [if_neg (by simpa using h0)]
    rw [h0] at ht
    have hsr := there_in h0
    clear h0 hq
    obtain ⟨k, rfl⟩ : ∃ k : Nat, s = k := ⟨s.toNat, by omega⟩
    have hk2 : k < d.pl.length := by omega
    have hpk : d.pl[k]? = some d.pl[k] := List.getElem?_eq_getElem hk2
    simp only [Int.toNat_natCast]
    rw [show d.pl.getD k zeroPl = d.pl[k] by rw [List.getD_eq_getElem?_getD, hpk]; rfl]
    have hok := h.ok _ (List.getElem_mem hk2)
    generalize d.pl[k] = p at *
    go_enter Tryz.func71, Tryz.ntmps71
    go_wp2_with (first
      | (go_at_call 40; refine ht.mono ?_; rintro e w1 ⟨rfl, rfl⟩)
      | ((with_reducible refine wpList_ldB 130 _ ?_); refine ⟨rfl, _, ⟨_, _, _, _, _, Tryz.isAgg130, Tryz.sizeOf130, rfl, ‹_›, pl_meant hpk hok.1 hok.2⟩, ?_⟩)
      | (go_at_call 74; refine (own_any _ hok.2 _).mono ?_; rintro e w5 ⟨⟨a5, c5, rfl, ho5⟩, hb5⟩))
    go_ret2
    exact ⟨ReadRes.ok (owns_mono ho5 hwA), hbA.trans (hb5.mono hwA)⟩
  · rw [if_pos (by simpa using h0)]
    have h0b : (thereD d s != 0) = true := by simpa using h0
    go_enter Tryz.func71, Tryz.ntmps71
    go_wp2_with (go_at_call 40; refine ht.mono ?_; rintro e w1 ⟨rfl, rfl⟩)
    go_ret2
    exact ⟨ReadRes.err h0, hbA⟩
end
end Go.Proofs.YtknchbhobopkeaaGreatDoor
namespace Go.Proofs.YtknchbhobopkeaaGreatDoor
open Go.RowKit
theorem pl_bit (p : Pl) (hp : p.rest.length = 64) (i : Nat) (hi : i < 64) (v : UInt8) : (plC p).take i ++ bys [v] ++ (plC p).drop (i + 1) = plC { p with rest := p.rest.set i v } := by
  have h64 : (bys p.rest).length = 64 := by rw [bys_len]; exact hp
  have hb : bys (p.rest.set i v) = (bys p.rest).take i ++ bys [v] ++ (bys p.rest).drop (i + 1) := by
    unfold bys
    rw [List.set_eq_take_append_cons_drop, if_pos (by omega)]
    simp only [List.map_append, List.map_cons, List.map_nil, List.map_take, List.map_drop, List.append_assoc, List.cons_append, List.nil_append]
  unfold plC
  simp only
  rw [fix64_of hp, fix64_of (show (p.rest.set i v).length = 64 by rw [List.length_set]; exact hp), hb]
  simp only [List.append_assoc]
  rw [List.take_append_of_le_length (by omega), List.drop_append_of_le_length (by omega)]
end Go.Proofs.YtknchbhobopkeaaGreatDoor
namespace Go.Proofs.YtknchbhobopkeaaGreatDoor
open Go.RowKit
section
variable {B g gp : Nat} {wv : Value} {d : Dk} {w : World}
set_option maxRecDepth 100000 in
theorem flip_any (h : DiskB B g gp wv d w) (hb : B ≤ w.heap.size) (s bit : Int) : Calls Tryz.prog 43 #[.pointer (some ⟨g, 0, none⟩), .int .i64 s, .int .i64 bit] w fun e w' => e = .returned (.int .i64 (flipD d s bit).2) ∧ DiskB B g gp wv (flipD d s bit).1 w' ∧ Kt B w w' := by
  have hbA := blw w (Obj.cells #[.int .i64 s] 3)
  have hA := h.below hbA
  have hk := Kt.of hbA hb
  have hq : (w.alloc (Obj.cells #[.int .i64 s] 3)).cell? ⟨w.heap.size, 0, none⟩ = some (.int .i64 s) := blk_cell (heap_alloc_new w _) 0 _ rfl
  have ht := there_1 hA s w.heap.size hq
  have c0 := hA.c0
  have hP := hA.pls
  unfold flipD
  by_cases h0 : thereD d s = 0
  · rw [if_neg (by simpa using h0)]
    rw [h0] at ht
    by_cases hbt : bit < 0
    · rw [if_pos hbt]
      go_enter Tryz.func43, Tryz.ntmps43
      go_wp2_with (go_at_call 40; refine ht.mono ?_; rintro e w1 ⟨rfl, rfl⟩)
      go_ret
      exact ⟨rfl, hA, hk⟩
    · rw [if_neg hbt]
      go_enter Tryz.func43, Tryz.ntmps43
      have hsr := there_in h0
      obtain ⟨k, rfl⟩ : ∃ k : Nat, s = k := ⟨s.toNat, by omega⟩
      have hk2 : k < d.pl.length := by omega
      have hk3 : (k : Int) < d.pl.length := by omega
      have hpk : d.pl[k]? = some d.pl[k] := List.getElem?_eq_getElem hk2
      simp only [Int.toNat_natCast]
      rw [modify_set _ hpk]
      have hok := h.ok _ (List.getElem_mem hk2)
      generalize d.pl[k] = p at *
      obtain ⟨n, hn, hn2⟩ : ∃ n : Nat, bit = (n : Int) ∧ n = bit.toNat := ⟨bit.toNat, by omega, rfl⟩
      obtain ⟨m, hm, hm2⟩ : ∃ m : Nat, n % 512 = m ∧ m < 512 := ⟨_, rfl, Nat.mod_lt _ (by decide)⟩
      have hmt : bit % 512 = (m : Int) := by omega
      rw [← hn2, hm]
      clear hn2
      have HM := Lib.hid hmt
      have hnn : 0 ≤ bit := by omega
      clear hmt hn hm hbt
      obtain ⟨q, hq8, hq64⟩ : ∃ q : Nat, m / 8 = q ∧ q < 64 := ⟨_, rfl, by omega⟩
      obtain ⟨r, hr8, hr64⟩ : ∃ r : Nat, m % 8 = r ∧ r < 8 := ⟨_, rfl, by omega⟩
      unfold turnBit
      rw [hq8, hr8]
      have HQ := Lib.hid (show (m : Int) / 8 = (q : Int) by omega)
      have HR := Lib.hid (show (m : Int).tmod 8 = (r : Int) by rw [Int.tmod_eq_emod_of_nonneg (by omega)]; omega)
      have hw1 : IntKind.i64.wrap (q : Int) = q := by rw [IntKind.wrap_i64]; omega
      have HW := Lib.hid hw1
      have hs8 : IntKind.u8.wrap (2 ^ r : Nat) = ((2 ^ r : Nat) : Int) := by
        have : ∀ r, r < 8 → IntKind.u8.wrap ((2 ^ r : Nat) : Int) = ((2 ^ r : Nat) : Int) := by decide
        exact this r hr64
      have HS8 := Lib.hid hs8
      have hxr : ∀ y : UInt8, bits .xor .u8 (y.toNat : Int) (2 ^ r) = ((UInt8.ofNat (y.toNat ^^^ 2 ^ r)).toNat : Int) := fun y => by
        have h2 : 2 ^ r < 2 ^ 8 := Nat.pow_lt_pow_right (by decide) hr64
        have h3 := Nat.xor_lt_two_pow (n := 8) y.toNat_lt h2
        have h4 := u8_xor_nat y.toNat (2 ^ r) y.toNat_lt h2
        rw [show ((2 ^ r : Nat) : Int) = 2 ^ r by push_cast; rfl] at h4
        rw [h4, UInt8.toNat_ofNat', Nat.mod_eq_of_lt h3]
      have HX := Lib.hid hxr
      clear hxr
      clear hq8 hr8 hw1 hs8
      obtain ⟨y, hy⟩ : ∃ y, p.rest[q]? = some y := ⟨_, List.getElem?_eq_getElem (by rw [hok.1]; exact hq64)⟩
      rw [show p.rest.getD q 0 = y by rw [List.getD_eq_getElem?_getD, hy]; rfl]
      have hcy : (plC p)[q]? = some (.int .u8 y.toNat) := by
        unfold plC
        rw [List.getElem?_append_left (by rw [bys_len, fix64_len]; exact hq64), fix64_of hok.1]
        simp [bys, byv, hy]
      have HY := Lib.hid hy
      clear hy
      go_wp2_with (go_at_call 40; refine ht.mono ?_; rintro e w1 ⟨rfl, rfl⟩)
      rw [HM.out]
      clear hq ht h0 hsr HM c0 hP hnn hbA
      generalize w.alloc (Obj.cells #[.int .i64 (k : Int)] 3) = wq at *
      have hdD := hA.below (Below.refl wq.heap.size wq).drew
      have hkD := hk.trans (Kt.of (Below.refl wq.heap.size wq).drew (Nat.le_trans hb hk.bl.size))
      have hne1 : gp ≠ g := by rintro rfl; have := hdD.box.symm.trans hdD.pls; injection this with this; injection this with _ e; revert e; decide
      refine wp_region_held_drew (S := fun w' => w'.heap[g]? = some (.cells (dkA gp wv d) 71 (0, 0))) (by kernel_rfl) hdD.box (fun hS0 => ?_)
      generalize wq.drew = x0 at *
      refine wpAnyH_take (i := 0) (oi := ⟨_, _, _, _, _, _⟩) (v := ?_) rfl (by kernel_rfl) (by kernel_rfl) (by kernel_rfl) (fun _ _ _ h => h) (Or.inl ⟨by rfl, ?_⟩) (by assumption) ?_
      rotate_left
      · intro wS hSw; go_simp; (try with_reducible rfl)
      (try simp only [Act.put]); (try simp only [List.setIfInBounds_toArray]); (try simp only [List.set_cons_succ]); (try simp only [List.set_cons_zero])
      refine wpAnyH_take (i := 1) (oi := ⟨_, _, _, _, _, _⟩) (v := ?_) rfl (by kernel_rfl) (by kernel_rfl) (by kernel_rfl) (fun _ _ _ h => h) (Or.inl ⟨by rfl, ?_⟩) (by assumption) ?_
      rotate_left
      · intro wS hSw; go_simp; (try with_reducible rfl)
      (try simp only [Act.put]); (try simp only [List.setIfInBounds_toArray]); (try simp only [List.set_cons_succ]); (try simp only [List.set_cons_zero])
      refine wpAnyH_take (i := 2) (oi := ⟨_, _, _, _, _, _⟩) (v := ?_) rfl (by kernel_rfl) (by kernel_rfl) (by kernel_rfl) (fun _ _ _ h => h) (Or.inl ⟨by rfl, ?_⟩) (by assumption) ?_
      rotate_left
      · intro wS hSw; go_simp; (try with_reducible rfl)
      (try simp only [Act.put]); (try simp only [List.setIfInBounds_toArray]); (try simp only [List.set_cons_succ]); (try simp only [List.set_cons_zero])
      refine wpAnyH_take (i := 3) (oi := ⟨_, _, _, _, _, _⟩) (v := ?_) rfl (by kernel_rfl) (by kernel_rfl) (by kernel_rfl) (fun _ _ _ h => h) (Or.inl ⟨by rfl, ?_⟩) (by assumption) ?_
      rotate_left
      · intro wS hSw
        have c := dkA_c0 hSw; go_simp; (try with_reducible rfl)
      (try simp only [Act.put]); (try simp only [List.setIfInBounds_toArray]); (try simp only [List.set_cons_succ]); (try simp only [List.set_cons_zero])
      refine wpAnyH_take (i := 4) (oi := ⟨_, _, _, _, _, _⟩) (v := ?_) rfl (by kernel_rfl) (by kernel_rfl) (by kernel_rfl) (fun _ _ _ h => h) (Or.inl ⟨by rfl, ?_⟩) (by assumption) ?_
      rotate_left
      · intro wS hSw; go_simp; (try with_reducible rfl)
      (try simp only [Act.put]); (try simp only [List.setIfInBounds_toArray]); (try simp only [List.set_cons_succ]); (try simp only [List.set_cons_zero])
      refine wpAnyH_take (i := 5) (oi := ⟨_, _, _, _, _, _⟩) (v := ?_) rfl (by kernel_rfl) (by kernel_rfl) (by kernel_rfl) (fun _ _ _ h => h) (Or.inl ⟨by rfl, ?_⟩) (by assumption) ?_
      rotate_left
      · intro wS hSw; go_simp; (try with_reducible rfl)
      (try simp only [Act.put]); (try simp only [List.setIfInBounds_toArray]); (try simp only [List.set_cons_succ]); (try simp only [List.set_cons_zero])
      refine wpAnyH_take (i := 6) (oi := ⟨_, _, _, _, _, _⟩) (v := .int .i64 (q : Int)) rfl (by kernel_rfl) (by kernel_rfl) (by kernel_rfl) (fun _ _ _ h => h) (Or.inl ⟨by rfl, fun wS hSw => ?_⟩) (by assumption) ?_
      · go_simp; rw [HQ.out, HW.out]
      (try simp only [Act.put]); (try simp only [List.setIfInBounds_toArray]); (try simp only [List.set_cons_succ]); (try simp only [List.set_cons_zero])
      refine wpAnyH_take (i := 7) (oi := ⟨_, _, _, _, _, _⟩) (v := ?_) rfl (by kernel_rfl) (by kernel_rfl) (by kernel_rfl) (fun _ _ _ h => h) (Or.inl ⟨by rfl, ?_⟩) (by assumption) ?_
      rotate_left
      · intro wS hSw; go_simp; (try with_reducible rfl)
      (try simp only [Act.put]); (try simp only [List.setIfInBounds_toArray]); (try simp only [List.set_cons_succ]); (try simp only [List.set_cons_zero])
      refine wpAnyH_take (i := 8) (oi := ⟨_, _, _, _, _, _⟩) (v := ?_) rfl (by kernel_rfl) (by kernel_rfl) (by kernel_rfl) (fun _ _ _ h => h) (Or.inl ⟨by rfl, ?_⟩) (by assumption) ?_
      rotate_left
      · intro wS hSw; go_simp; (try with_reducible rfl)
      (try simp only [Act.put]); (try simp only [List.setIfInBounds_toArray]); (try simp only [List.set_cons_succ]); (try simp only [List.set_cons_zero])
      refine wpAnyH_take (i := 9) (oi := ⟨_, _, _, _, _, _⟩) (v := .pointer (some ⟨gp, k * 129 + q, none⟩)) rfl (by kernel_rfl) (by kernel_rfl) (by kernel_rfl) (fun _ _ _ h => h) (Or.inl ⟨by rfl, fun wS hSw => ?_⟩) (by assumption) ?_
      · go_simp; exact fun hh => absurd hh (by omega)
      (try simp only [Act.put]); (try simp only [List.setIfInBounds_toArray]); (try simp only [List.set_cons_succ]); (try simp only [List.set_cons_zero])
      refine wpAnyH_take (i := 11) (oi := ⟨_, _, _, _, _, _⟩) (v := ?_) rfl (by kernel_rfl) (by kernel_rfl) (by kernel_rfl) (fun _ _ _ h => h) (Or.inl ⟨by rfl, ?_⟩) (by assumption) ?_
      rotate_left
      · intro wS hSw; go_simp; (try with_reducible rfl)
      (try simp only [Act.put]); (try simp only [List.setIfInBounds_toArray]); (try simp only [List.set_cons_succ]); (try simp only [List.set_cons_zero])
      refine wpAnyH_take (i := 12) (oi := ⟨_, _, _, _, _, _⟩) (v := .int .i64 (r : Int)) rfl (by kernel_rfl) (by kernel_rfl) (by kernel_rfl) (fun _ _ _ h => h) (Or.inl ⟨by rfl, fun wS hSw => ?_⟩) (by assumption) ?_
      · go_simp; rw [HR.out]
      (try simp only [Act.put]); (try simp only [List.setIfInBounds_toArray]); (try simp only [List.set_cons_succ]); (try simp only [List.set_cons_zero])
      refine wpAnyH_take (i := 13) (oi := ⟨_, _, _, _, _, _⟩) (v := .int .u8 ((2 ^ r : Nat) : Int)) rfl (by kernel_rfl) (by kernel_rfl) (by kernel_rfl) (fun _ _ _ h => h) (Or.inl ⟨by rfl, fun wS hSw => ?_⟩) (by assumption) ?_
      · go_simp; exact HS8.out
      (try simp only [Act.put]); (try simp only [List.setIfInBounds_toArray]); (try simp only [List.set_cons_succ]); (try simp only [List.set_cons_zero])
      refine wpAnyH_take (i := 15) (oi := ⟨_, _, _, _, _, _⟩) (v := ?_) rfl (by kernel_rfl) (by kernel_rfl) (by kernel_rfl) (fun _ _ _ h => h) (Or.inl ⟨by rfl, ?_⟩) (by assumption) ?_
      rotate_left
      · intro wS hSw; go_simp; (try with_reducible rfl)
      (try simp only [Act.put]); (try simp only [List.setIfInBounds_toArray]); (try simp only [List.set_cons_succ]); (try simp only [List.set_cons_zero])
      refine wpAnyH_take (i := 16) (oi := ⟨_, _, _, _, _, _⟩) (v := ?_) rfl (by kernel_rfl) (by kernel_rfl) (by kernel_rfl) (fun _ _ _ h => h) (Or.inl ⟨by rfl, ?_⟩) (by assumption) ?_
      rotate_left
      · intro wS hSw; go_simp; (try with_reducible rfl)
      (try simp only [Act.put]); (try simp only [List.setIfInBounds_toArray]); (try simp only [List.set_cons_succ]); (try simp only [List.set_cons_zero])
      have hcl : x0.cell? ⟨gp, k * 129 + q, none⟩ = some (.int .u8 y.toNat) := blk_cell hdD.pls _ _ (pls_at hpk hcy)
      refine wpAnyH_ready (rs := [10]) (by kernel_rfl) (by simp) ?_
      refine AllReadyH.cons (o := ⟨_, _, _, _, _, _⟩) rfl (fun K' hK' => ?_) (AllReadyH.nil)
      refine (if_pos (by rfl)).mpr ?_
      refine wp_run (v := .int .u8 y.toNat) (w' := x0) (by go_simp) ?_
      refine hK'.out _ _ hS0 (fun _ => ?_)
      clear hK'
      (try simp only [Act.put]); (try simp only [List.setIfInBounds_toArray]); (try simp only [List.set_cons_succ]); (try simp only [List.set_cons_zero])
      refine wpAnyH_take (i := 14) (oi := ⟨_, _, _, _, _, _⟩) (v := .int .u8 ((UInt8.ofNat (y.toNat ^^^ 2 ^ r)).toNat : Int)) rfl (by kernel_rfl) (by kernel_rfl) (by kernel_rfl) (fun _ _ _ h => h) (Or.inl ⟨by rfl, fun wS hSw => ?_⟩) (by assumption) ?_
      · go_simp; rw [HX.out]; simp
      (try simp only [Act.put]); (try simp only [List.setIfInBounds_toArray]); (try simp only [List.set_cons_succ]); (try simp only [List.set_cons_zero])
      refine wpAnyH_take (i := 17) (oi := ⟨_, _, _, _, _, _⟩) (v := .pointer (some ⟨gp, k * 129 + q, none⟩)) rfl (by kernel_rfl) (by kernel_rfl) (by kernel_rfl) (fun _ _ _ h => h) (Or.inl ⟨by rfl, fun wS hSw => ?_⟩) (by assumption) ?_
      · go_simp; exact fun hh => absurd hh (by omega)
      (try simp only [Act.put]); (try simp only [List.setIfInBounds_toArray]); (try simp only [List.set_cons_succ]); (try simp only [List.set_cons_zero])
      refine wpAnyH_ready (rs := [18]) (by kernel_rfl) (by simp) ?_
      refine AllReadyH.cons (o := ⟨_, _, _, _, _, _⟩) rfl (fun K' hK' => ?_) (AllReadyH.nil)
      refine (if_pos (by rfl)).mpr ?_
      refine wp_stB 5 _ _ ?_
      refine ⟨_, _, _, ⟨_, _, _, Tryz.sizeOf5, rfl, hdD.pls, pls_part (x := .int .u8 ((UInt8.ofNat (y.toNat ^^^ 2 ^ r)).toNat : Int)) (p' := { p with rest := p.rest.set q (UInt8.ofNat (y.toNat ^^^ 2 ^ r)) }) hpk rfl (by omega) (by simp [Value.cells, Value.oneCell']) (pl_bit p hok.1 q hq64 _)⟩, ?_⟩
      intro w6 B6 g6
      have hfin := hdD.sect B6 g6 ⟨by rw [List.length_set]; exact hok.1, hok.2⟩
      refine hK'.out _ _ (tr_st g6 hS0 hne1) (fun _ => ?_)
      refine wpAnyH_done (by kernel_rfl) ?_ _
      go_wp2
      go_ret
      exact ⟨rfl, hfin.1, hkD.trans hfin.2⟩
  · rw [if_pos (by simpa using h0)]
    have h0b : (thereD d s != 0) = true := by simpa using h0
    go_enter Tryz.func43, Tryz.ntmps43
    go_wp2_with (go_at_call 40; refine ht.mono ?_; rintro e w1 ⟨rfl, rfl⟩)
    go_ret
    exact ⟨rfl, hA, hk⟩
end
end Go.Proofs.YtknchbhobopkeaaGreatDoor
namespace Go.Proofs.YtknchbhobopkeaaGreatDoor
open Go.RowKit
theorem infoPl : (Tryz.prog.info? 134).map (fun i => (i.zero.map (·.cells), i.size, i.bytes)) = some (some (plC zeroPl).toArray, 129, 129) := by kernel_rfl
theorem made_pls (s : Nat) : madeCells (plC zeroPl).toArray (s * 129) = plsV (List.replicate s zeroPl) := by
  apply Array.ext_getElem?
  intro k
  by_cases hk : k < s * 129
  · have h1 : (List.replicate s zeroPl)[k / 129]? = some zeroPl := by
      rw [List.getElem?_replicate, if_pos (by omega)]
    have hlt : k % 129 < (plC zeroPl).length := by rw [plC_len]; omega
    have h2 : (plC zeroPl)[k % 129]? = some (plC zeroPl)[k % 129] := List.getElem?_eq_getElem hlt
    have h3 := pls_at h1 h2
    rw [show k / 129 * 129 + k % 129 = k by omega] at h3
    rw [h3]
    unfold madeCells
    have hs : (plC zeroPl).toArray.size = 129 := by rw [List.size_toArray, plC_len]
    rw [Array.getElem?_map, Array.getElem?_range, if_pos hk, hs]
    show some ((plC zeroPl).toArray[k % 129]!) = _
    rw [getElem!_pos _ _ (by rw [hs]; omega)]
    simp
  · rw [Array.getElem?_eq_none (by rw [size_madeCells]; omega), Array.getElem?_eq_none (by rw [plsV_size, List.length_replicate]; omega)]
theorem make_pls (s : Nat) (hs : s ≤ 1024) (w : World) : (Instr.makeSlice 68 (.int .i64 s) (.int .i64 s)).run Tryz.prog w = .ok (.slice (some ⟨w.heap.size, 0, none⟩) s s) (w.alloc (.cells (plsV (List.replicate s zeroPl)) 134)) := by
  obtain ⟨i, hi, h2⟩ := Option.map_eq_some_iff.1 infoPl
  simp only [Prod.mk.injEq] at h2
  obtain ⟨hz, hsz, hb⟩ := h2
  obtain ⟨z, hz, hzc⟩ := Option.map_eq_some_iff.1 hz
  have := run_make (P := Tryz.prog) w 68 134 i z Tryz.underlying68 hi hz .i64 .i64 s s (by omega) (by omega) (by rw [hb]; omega) (by omega)
  rw [hsz, hzc] at this
  simp only [Int.toNat_natCast] at this
  rw [made_pls] at this
  exact this
section
variable {B : Nat} {w : World}
set_option maxRecDepth 100000 in
theorem new_any (s : Nat) (h1 : 1 ≤ s) (h2 : s ≤ 1024) (hB : B ≤ w.heap.size) : Calls Tryz.prog 7 #[.int .i64 s] w fun e w' => (∃ g gp, e = .returned (.tuple #[.pointer (some ⟨g, 0, none⟩), .int .i64 0]) ∧ DiskB B g gp (.slice none 0 0) (newDk s) w') ∧ Below w.heap.size w w' := by
  have hmk := make_pls s h2
  go_enter Tryz.func7, Tryz.ntmps7
  go_wp2
  go_ret2
  have hb1 := blw w (Obj.cells (plsV (List.replicate s zeroPl)) 134)
  have n1 := heap_alloc_new w (Obj.cells (plsV (List.replicate s zeroPl)) 134)
  have hsz : (w.alloc (Obj.cells (plsV (List.replicate s zeroPl)) 134)).heap.size = w.heap.size + 1 := by simp
  generalize w.alloc (Obj.cells (plsV (List.replicate s zeroPl)) 134) = w1 at *
  have hlen : (newDk s).pl.length = s := List.length_replicate
  have e : #[Value.slice (some ⟨w.heap.size, 0, none⟩) s s, .slice none 0 0, .bool false, .bool false, .int .i64 (-1)] = dkA w.heap.size (.slice none 0 0) (newDk s) := by
    unfold dkA
    rw [hlen]
    rfl
  refine ⟨⟨w.heap.size + 1, w.heap.size, rfl, ⟨?_, ?_, World.ownsRow_nil _ _ _ _, by omega, hB, by rw [hlen]; exact h1, by rw [hlen]; exact h2, Int.le_refl _, by show (-1 : Int) ≤ _; omega, ?_, ?_⟩⟩, ?_⟩
  · rw [← e, ← hsz]
    exact heap_alloc_new w1 _
  · exact tr_al _ n1
  · intro p hp
    obtain rfl := List.eq_of_mem_replicate hp
    exact ⟨rfl, rfl⟩
  · intro x hx
    cases hx
  · exact hb1.alloc (by omega) _
end
section
variable {B g gp : Nat} {wv : Value} {d : Dk} {w : World}
end
end Go.Proofs.YtknchbhobopkeaaGreatDoor
namespace Go.Proofs.YtknchbhobopkeaaGreatDoor
open Go.RowKit
abbrev halV : Value := .agg #[.int .u32 0x00000000, .int .u32 0x105ec76f, .int .u32 0x20bd8ede, .int .u32 0x30e349b1, .int .u32 0x417b1dbc, .int .u32 0x5125dad3, .int .u32 0x61c69362, .int .u32 0x7198540d,
  .int .u32 0x82f63b78, .int .u32 0x92a8fc17, .int .u32 0xa24bb5a6, .int .u32 0xb21572c9, .int .u32 0xc38d26c4, .int .u32 0xd3d3e1ab, .int .u32 0xe330a81a, .int .u32 0xf36e6f75]
def halL : List Value := [.int .u32 0x00000000, .int .u32 0x105ec76f, .int .u32 0x20bd8ede, .int .u32 0x30e349b1, .int .u32 0x417b1dbc, .int .u32 0x5125dad3, .int .u32 0x61c69362, .int .u32 0x7198540d,
  .int .u32 0x82f63b78, .int .u32 0x92a8fc17, .int .u32 0xa24bb5a6, .int .u32 0xb21572c9, .int .u32 0xc38d26c4, .int .u32 0xd3d3e1ab, .int .u32 0xe330a81a, .int .u32 0xf36e6f75]
theorem hal_c : ∀ k, k < 16 → halL[k]? = some (.int .u32 (half k : Nat))
  | 0, _ => rfl | 1, _ => rfl | 2, _ => rfl | 3, _ => rfl | 4, _ => rfl | 5, _ => rfl | 6, _ => rfl | 7, _ => rfl
  | 8, _ => rfl | 9, _ => rfl | 10, _ => rfl | 11, _ => rfl | 12, _ => rfl | 13, _ => rfl | 14, _ => rfl | 15, _ => rfl
  | n + 16, h => absurd h (by omega)
set_option maxRecDepth 100000 in
theorem halves_any (w : World) : Calls Tryz.prog 119 #[] w fun e w' => e = .returned halV ∧ Below w.heap.size w w' := by
  go_enter Tryz.func119, Tryz.ntmps119
  go_wp2
  (try simp only [Exit.inBlock, Exit.then])
  refine bodyPost_ret (v := halV) ?hr rfl ⟨rfl, ?_⟩
  case hr =>
    simp only [results, Tryz.results119]
    go_simp
    try rfl
  (repeat' (first | (with_reducible exact Below.refl _ _) | (with_reducible assumption) | (with_reducible refine Below.alloc ?_ ?_ _) | (with_reducible refine Below.drew ?_) | (with_reducible refine below_drewN ?_ _) | (with_reducible refine Below.setCell ?_ ?_ _) | (with_reducible refine Below.trans ?_ (by assumption)) | go_size))
end Go.Proofs.YtknchbhobopkeaaGreatDoor
