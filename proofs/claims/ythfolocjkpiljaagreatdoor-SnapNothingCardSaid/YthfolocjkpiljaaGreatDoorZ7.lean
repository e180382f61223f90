/- Texts that the claim leans on, part 7: D20, D21, D22, D23, D24a, D24, D25, D26. -/
import Derived.Test.YthfolocjkpiljaaGreatDoorZ1
import Derived.Test.YthfolocjkpiljaaGreatDoorZ2
import Derived.Test.YthfolocjkpiljaaGreatDoorZ3
import Derived.Test.YthfolocjkpiljaaGreatDoorZ4
import Derived.Test.YthfolocjkpiljaaGreatDoorZ5
import Derived.Test.YthfolocjkpiljaaGreatDoorZ6
import Derived.Test.YthfolocjkpiljaaGreatDoorRows
import Derived.WalkKit
import Derived.WalkSpells
import Derived.WalkLawsBesides
import Derived.Handy
import Derived.Deep.QuietTactic
import Derived.BigQuiet
import Derived.Deep.DeepCutAuto
import Derived.Lib.Hide
import Derived.RegionTactic
import Derived.ChangeAlike
import Derived.Laws.ResultCell
import Derived.Outline
import Derived.Laws.BitsAllLaws
import Derived.Laws.MakeOwn
import Derived.Great.BuildSlice
import Derived.Great.FillDense
import Derived.Laws.Rows
import Derived.Deep.Quiet
import Derived.Deep.RegionHeld3
import Derived.ProofKit
import Derived.OpenShut
import Derived.Laws.CopyOwn
import Derived.Laws.CopyRow
import Derived.Laws.NewBlocks
import Derived.Deep.RegionLaw
namespace Go.Proofs.YthfolocjkpiljaaGreatDoor
open Go.RowKit

theorem pl_meant {l : List Pl} {k : Nat} {p : Pl} (h : l[k]? = some p) (hp : p.rest.length = 64) (hm : p.meant.length = 64) : k * 129 + 64 + 64 ≤ (plsV l).size ∧ (plsV l).extract (k * 129 + 64) (k * 129 + 64 + 64) = (bys p.meant).toArray := by
  have hs := (List.getElem?_eq_some_iff.1 h).1
  refine ⟨by rw [plsV_size]; omega, ?_⟩
  obtain ⟨a, b, rfl, hl, _⟩ := pl_split h
  have hfa : (a.flatMap plC).length = k * 129 := by rw [flat_len plC_len, hl, Nat.mul_comm]
  have h64 : (bys p.rest).length = 64 := by rw [bys_len]; exact hp
  have hm64 : (bys p.meant).length = 64 := by rw [bys_len]; exact hm
  have e : (plsV (a ++ p :: b)).toList = (a.flatMap plC ++ bys p.rest) ++ (bys p.meant ++ ([.bool p.lost] ++ b.flatMap plC)) := by
    unfold plsV
    simp only [List.flatMap_append, List.flatMap_cons]
    rw [show plC p = bys p.rest ++ (bys p.meant ++ [.bool p.lost]) by unfold plC; rw [fix64_of hp, fix64_of hm]]
    simp only [List.append_assoc]
  apply Array.toList_inj.1
  rw [Array.toList_extract, e]
  show List.take (k * 129 + 64 + 64 - (k * 129 + 64)) (List.drop (k * 129 + 64) _) = bys p.meant
  rw [show k * 129 + 64 = (a.flatMap plC ++ bys p.rest).length by rw [List.length_append, hfa, h64], List.drop_left, show (a.flatMap plC ++ bys p.rest).length + 64 - (a.flatMap plC ++ bys p.rest).length = 64 by omega, ← hm64, List.take_left]
/-- What Rest hands back. -/
def RestRes (base : Nat) (r : List UInt8 × Bool × Int) (e : Ending) (w' : World) : Prop :=
  if r.2.2 = 0 ∧ r.2.1 = false then ∃ a c, e = .returned (.tuple #[.slice a 64 c, .bool false, .int .i64 0]) ∧ w'.ownsRow base 5 1 (.slice a 64 c) 64 (bys r.1) else e = .returned (.tuple #[.slice none 0 0, .bool r.2.1, .int .i64 r.2.2])
section
variable {B g gp : Nat} {wv : Value} {d : Dk} {w : World}
theorem there_in {d : Dk} {s : Int} (h0 : thereD d s = 0) : 0 ≤ s ∧ s < d.pl.length := by
  unfold thereD at h0
  split at h0
  · cases h0
  · split at h0
    · cases h0
    · omega
set_option maxRecDepth 100000 in
theorem rest_any (h : DiskB B g gp wv d w) (s : Int) : Calls Tryz.prog 41 #[.pointer (some ⟨g, 0, none⟩), .int .i64 s] w fun e w' => RestRes w.heap.size (restD d s) e w' ∧ Below w.heap.size w w' := by
  have hbA := blw w (Obj.cells #[.int .i64 s] 3)
  have hA := h.below hbA
  have hq : (w.alloc (Obj.cells #[.int .i64 s] 3)).cell? ⟨w.heap.size, 0, none⟩ = some (.int .i64 s) := blk_cell (heap_alloc_new w _) 0 _ rfl
  have ht := there_1 hA s w.heap.size hq
  have c0 := hA.c0
  have hP := hA.pls
  have hwA : w.heap.size ≤ (w.alloc (Obj.cells #[.int .i64 s] 3)).heap.size := hbA.size
  unfold restD
  by_cases h0 : thereD d s = 0
  · rw [if_neg (by simpa using h0)]
    rw [h0] at ht
    have hsr := there_in h0
    clear h0 hq
    obtain ⟨k, rfl⟩ : ∃ k : Nat, s = k := ⟨s.toNat, by omega⟩
    have hk2 : k < d.pl.length := by omega
    have hpk : d.pl[k]? = some d.pl[k] := List.getElem?_eq_getElem hk2
    simp only [Int.toNat_natCast]
    rw [show d.pl.getD k zeroPl = d.pl[k] by rw [List.getD_eq_getElem?_getD, hpk]; rfl]
    have hok := h.ok _ (List.getElem_mem hk2)
    generalize d.pl[k] = p at *
    have cl : (w.alloc (Obj.cells #[.int .i64 (k : Int)] 3)).cell? ⟨gp, k * 129 + 128, none⟩ = some (.bool p.lost) := blk_cell hP _ _ (pls_at hpk (pl_lostAt p))
    cases hlo : p.lost
    case true =>
      rw [hlo] at cl
      rw [if_pos rfl]
      go_enter Tryz.func41, Tryz.ntmps41
      go_wp2_with (go_at_call 124; refine ht.mono ?_; rintro e w1 ⟨rfl, rfl⟩)
      go_ret3
      exact ⟨by unfold RestRes; rw [if_neg (by simp)]; rfl, hbA⟩
    case false =>
      rw [hlo] at cl
      rw [if_neg (by simp)]
      go_enter Tryz.func41, Tryz.ntmps41
      go_wp2_with (first
        | (go_at_call 124; refine ht.mono ?_; rintro e w1 ⟨rfl, rfl⟩)
        | ((with_reducible refine wpList_ldB 216 _ ?_); refine ⟨rfl, _, ⟨_, _, _, _, _, Tryz.isAgg216, Tryz.sizeOf216, rfl, ‹_›, pl_rest hpk hok.1⟩, ?_⟩)
        | (go_at_call 125; refine (own_any _ hok.1 _).mono ?_; rintro e w5 ⟨⟨a5, c5, rfl, ho5⟩, hb5⟩))
      go_ret3
      exact ⟨by unfold RestRes; rw [if_pos ⟨rfl, rfl⟩]; exact ⟨a5, c5, rfl, owns_mono ho5 hwA⟩, hbA.trans (hb5.mono hwA)⟩
  · rw [if_pos (by simpa using h0)]
    have h0b : (thereD d s != 0) = true := by simpa using h0
    go_enter Tryz.func41, Tryz.ntmps41
    go_wp2_with (go_at_call 124; refine ht.mono ?_; rintro e w1 ⟨rfl, rfl⟩)
    go_ret3
    exact ⟨by unfold RestRes; rw [if_neg (fun hh => h0 hh.1)]; rfl, hbA⟩
set_option maxRecDepth 100000 in
theorem meant_any (h : DiskB B g gp wv d w) (s : Int) : Calls Tryz.prog 104 #[.pointer (some ⟨g, 0, none⟩), .int .i64 s] w fun e w' => ReadRes w.heap.size (meantD d s) e w' ∧ Below w.heap.size w w' := by
  have hbA := blw w (Obj.cells #[.int .i64 s] 3)
  have hA := h.below hbA
  have hq : (w.alloc (Obj.cells #[.int .i64 s] 3)).cell? ⟨w.heap.size, 0, none⟩ = some (.int .i64 s) := blk_cell (heap_alloc_new w _) 0 _ rfl
  have ht := there_1 hA s w.heap.size hq
  have c0 := hA.c0
  have hP := hA.pls
  have hwA : w.heap.size ≤ (w.alloc (Obj.cells #[.int .i64 s] 3)).heap.size := hbA.size
  unfold meantD
  by_cases h0 : thereD d s = 0
  · rw [if_neg (by simpa using h0)]
    rw [h0] at ht
    have hsr := there_in h0
    clear h0 hq
    obtain ⟨k, rfl⟩ : ∃ k : Nat, s = k := ⟨s.toNat, by omega⟩
    have hk2 : k < d.pl.length := by omega
    have hpk : d.pl[k]? = some d.pl[k] := List.getElem?_eq_getElem hk2
    simp only [Int.toNat_natCast]
    rw [show d.pl.getD k zeroPl = d.pl[k] by rw [List.getD_eq_getElem?_getD, hpk]; rfl]
    have hok := h.ok _ (List.getElem_mem hk2)
    generalize d.pl[k] = p at *
    go_enter Tryz.func104, Tryz.ntmps104
    go_wp2_with (first
      | (go_at_call 124; refine ht.mono ?_; rintro e w1 ⟨rfl, rfl⟩)
      | ((with_reducible refine wpList_ldB 216 _ ?_); refine ⟨rfl, _, ⟨_, _, _, _, _, Tryz.isAgg216, Tryz.sizeOf216, rfl, ‹_›, pl_meant hpk hok.1 hok.2⟩, ?_⟩)
      | (go_at_call 125; refine (own_any _ hok.2 _).mono ?_; rintro e w5 ⟨⟨a5, c5, rfl, ho5⟩, hb5⟩))
    go_ret2
    exact ⟨ReadRes.ok (owns_mono ho5 hwA), hbA.trans (hb5.mono hwA)⟩
  · rw [if_pos (by simpa using h0)]
    have h0b : (thereD d s != 0) = true := by simpa using h0
    go_enter Tryz.func104, Tryz.ntmps104
    go_wp2_with (go_at_call 124; refine ht.mono ?_; rintro e w1 ⟨rfl, rfl⟩)
    go_ret2
    exact ⟨ReadRes.err h0, hbA⟩
end
end Go.Proofs.YthfolocjkpiljaaGreatDoor

namespace Go.Proofs.YthfolocjkpiljaaGreatDoor
open Go.RowKit

theorem pl_bit (p : Pl) (hp : p.rest.length = 64) (i : Nat) (hi : i < 64) (v : UInt8) : (plC p).take i ++ bys [v] ++ (plC p).drop (i + 1) = plC { p with rest := p.rest.set i v } := by
  have h64 : (bys p.rest).length = 64 := by rw [bys_len]; exact hp
  have hb : bys (p.rest.set i v) = (bys p.rest).take i ++ bys [v] ++ (bys p.rest).drop (i + 1) := by
    unfold bys
    rw [List.set_eq_take_append_cons_drop, if_pos (by omega)]
    simp only [List.map_append, List.map_cons, List.map_nil, List.map_take, List.map_drop, List.append_assoc, List.cons_append, List.nil_append]
  unfold plC
  simp only
  rw [fix64_of hp, fix64_of (show (p.rest.set i v).length = 64 by rw [List.length_set]; exact hp), hb]
  simp only [List.append_assoc]
  rw [List.take_append_of_le_length (by omega), List.drop_append_of_le_length (by omega)]
end Go.Proofs.YthfolocjkpiljaaGreatDoor

namespace Go.Proofs.YthfolocjkpiljaaGreatDoor
open Go.RowKit

section
variable {B g gp : Nat} {wv : Value} {d : Dk} {w : World}
set_option maxRecDepth 100000 in
theorem flip_any (h : DiskB B g gp wv d w) (hb : B ≤ w.heap.size) (s bit : Int) : Calls Tryz.prog 174 #[.pointer (some ⟨g, 0, none⟩), .int .i64 s, .int .i64 bit] w fun e w' => e = .returned (.int .i64 (flipD d s bit).2) ∧ DiskB B g gp wv (flipD d s bit).1 w' ∧ Kt B w w' := by
  have hbA := blw w (Obj.cells #[.int .i64 s] 3)
  have hA := h.below hbA
  have hk := Kt.of hbA hb
  have hq : (w.alloc (Obj.cells #[.int .i64 s] 3)).cell? ⟨w.heap.size, 0, none⟩ = some (.int .i64 s) := blk_cell (heap_alloc_new w _) 0 _ rfl
  have ht := there_1 hA s w.heap.size hq
  have c0 := hA.c0
  have hP := hA.pls
  unfold flipD
  by_cases h0 : thereD d s = 0
  · rw [if_neg (by simpa using h0)]
    rw [h0] at ht
    by_cases hbt : bit < 0
    · rw [if_pos hbt]
      go_enter Tryz.func174, Tryz.ntmps174
      go_wp2_with (go_at_call 124; refine ht.mono ?_; rintro e w1 ⟨rfl, rfl⟩)
      go_ret
      exact ⟨rfl, hA, hk⟩
    · rw [if_neg hbt]
      go_enter Tryz.func174, Tryz.ntmps174
      have hsr := there_in h0
      obtain ⟨k, rfl⟩ : ∃ k : Nat, s = k := ⟨s.toNat, by omega⟩
      have hk2 : k < d.pl.length := by omega
      have hk3 : (k : Int) < d.pl.length := by omega
      have hpk : d.pl[k]? = some d.pl[k] := List.getElem?_eq_getElem hk2
      simp only [Int.toNat_natCast]
      rw [modify_set _ hpk]
      have hok := h.ok _ (List.getElem_mem hk2)
      generalize d.pl[k] = p at *
      obtain ⟨n, hn, hn2⟩ : ∃ n : Nat, bit = (n : Int) ∧ n = bit.toNat := ⟨bit.toNat, by omega, rfl⟩
      obtain ⟨m, hm, hm2⟩ : ∃ m : Nat, n % 512 = m ∧ m < 512 := ⟨_, rfl, Nat.mod_lt _ (by decide)⟩
      have hmt : bit % 512 = (m : Int) := by omega
      rw [← hn2, hm]
      clear hn2
      have HM := Lib.hid hmt
      have hnn : 0 ≤ bit := by omega
      clear hmt hn hm hbt
      obtain ⟨q, hq8, hq64⟩ : ∃ q : Nat, m / 8 = q ∧ q < 64 := ⟨_, rfl, by omega⟩
      obtain ⟨r, hr8, hr64⟩ : ∃ r : Nat, m % 8 = r ∧ r < 8 := ⟨_, rfl, by omega⟩
      unfold turnBit
      rw [hq8, hr8]
      have HQ := Lib.hid (show (m : Int) / 8 = (q : Int) by omega)
      have HR := Lib.hid (show (m : Int).tmod 8 = (r : Int) by rw [Int.tmod_eq_emod_of_nonneg (by omega)]; omega)
      have hw1 : IntKind.i64.wrap (q : Int) = q := by rw [IntKind.wrap_i64]; omega
      have HW := Lib.hid hw1
      have hs8 : IntKind.u8.wrap (2 ^ r : Nat) = ((2 ^ r : Nat) : Int) := by
        have : ∀ r, r < 8 → IntKind.u8.wrap ((2 ^ r : Nat) : Int) = ((2 ^ r : Nat) : Int) := by decide
        exact this r hr64
      have HS8 := Lib.hid hs8
      have hxr : ∀ y : UInt8, bits .xor .u8 (y.toNat : Int) (2 ^ r) = ((UInt8.ofNat (y.toNat ^^^ 2 ^ r)).toNat : Int) := fun y => by
        have h2 : 2 ^ r < 2 ^ 8 := Nat.pow_lt_pow_right (by decide) hr64
        have h3 := Nat.xor_lt_two_pow (n := 8) y.toNat_lt h2
        have h4 := u8_xor_nat y.toNat (2 ^ r) y.toNat_lt h2
        rw [show ((2 ^ r : Nat) : Int) = 2 ^ r by push_cast; rfl] at h4
        rw [h4, UInt8.toNat_ofNat', Nat.mod_eq_of_lt h3]
      have HX := Lib.hid hxr
      clear hxr
      clear hq8 hr8 hw1 hs8
      obtain ⟨y, hy⟩ : ∃ y, p.rest[q]? = some y := ⟨_, List.getElem?_eq_getElem (by rw [hok.1]; exact hq64)⟩
      rw [show p.rest.getD q 0 = y by rw [List.getD_eq_getElem?_getD, hy]; rfl]
      have hcy : (plC p)[q]? = some (.int .u8 y.toNat) := by
        unfold plC
        rw [List.getElem?_append_left (by rw [bys_len, fix64_len]; exact hq64), fix64_of hok.1]
        simp [bys, byv, hy]
      have HY := Lib.hid hy
      clear hy
      go_wp2_with (go_at_call 124; refine ht.mono ?_; rintro e w1 ⟨rfl, rfl⟩)
      rw [HM.out]
      clear hq ht h0 hsr HM c0 hP hnn hbA
      generalize w.alloc (Obj.cells #[.int .i64 (k : Int)] 3) = wq at *
      have hdD := hA.below (Below.refl wq.heap.size wq).drew
      have hkD := hk.trans (Kt.of (Below.refl wq.heap.size wq).drew (Nat.le_trans hb hk.bl.size))
      have hne1 : gp ≠ g := by rintro rfl; have := hdD.box.symm.trans hdD.pls; injection this with this; injection this with _ e; revert e; decide
      refine wp_region_held_drew (S := fun w' => w'.heap[g]? = some (.cells (dkA gp wv d) 175 (0, 0))) (by kernel_rfl) hdD.box (fun hS0 => ?_)
      generalize wq.drew = x0 at *
      refine wpAnyH_take (i := 0) (oi := ⟨_, _, _, _, _, _⟩) (v := ?_) rfl (by kernel_rfl) (by kernel_rfl) (by kernel_rfl) (fun _ _ _ h => h) (Or.inl ⟨by rfl, ?_⟩) (by assumption) ?_
      rotate_left
      · intro wS hSw
        go_simp; (try with_reducible rfl)
      (try simp only [Act.put])
      (try simp only [List.setIfInBounds_toArray])
      (try simp only [List.set_cons_succ])
      (try simp only [List.set_cons_zero])
      refine wpAnyH_take (i := 1) (oi := ⟨_, _, _, _, _, _⟩) (v := ?_) rfl (by kernel_rfl) (by kernel_rfl) (by kernel_rfl) (fun _ _ _ h => h) (Or.inl ⟨by rfl, ?_⟩) (by assumption) ?_
      rotate_left
      · intro wS hSw
        go_simp; (try with_reducible rfl)
      (try simp only [Act.put])
      (try simp only [List.setIfInBounds_toArray])
      (try simp only [List.set_cons_succ])
      (try simp only [List.set_cons_zero])
      refine wpAnyH_take (i := 2) (oi := ⟨_, _, _, _, _, _⟩) (v := ?_) rfl (by kernel_rfl) (by kernel_rfl) (by kernel_rfl) (fun _ _ _ h => h) (Or.inl ⟨by rfl, ?_⟩) (by assumption) ?_
      rotate_left
      · intro wS hSw
        go_simp; (try with_reducible rfl)
      (try simp only [Act.put])
      (try simp only [List.setIfInBounds_toArray])
      (try simp only [List.set_cons_succ])
      (try simp only [List.set_cons_zero])
      refine wpAnyH_take (i := 3) (oi := ⟨_, _, _, _, _, _⟩) (v := ?_) rfl (by kernel_rfl) (by kernel_rfl) (by kernel_rfl) (fun _ _ _ h => h) (Or.inl ⟨by rfl, ?_⟩) (by assumption) ?_
      rotate_left
      · intro wS hSw
        have c := dkA_c0 hSw; go_simp; (try with_reducible rfl)
      (try simp only [Act.put])
      (try simp only [List.setIfInBounds_toArray])
      (try simp only [List.set_cons_succ])
      (try simp only [List.set_cons_zero])
      refine wpAnyH_take (i := 4) (oi := ⟨_, _, _, _, _, _⟩) (v := ?_) rfl (by kernel_rfl) (by kernel_rfl) (by kernel_rfl) (fun _ _ _ h => h) (Or.inl ⟨by rfl, ?_⟩) (by assumption) ?_
      rotate_left
      · intro wS hSw
        go_simp; (try with_reducible rfl)
      (try simp only [Act.put])
      (try simp only [List.setIfInBounds_toArray])
      (try simp only [List.set_cons_succ])
      (try simp only [List.set_cons_zero])
      refine wpAnyH_take (i := 5) (oi := ⟨_, _, _, _, _, _⟩) (v := ?_) rfl (by kernel_rfl) (by kernel_rfl) (by kernel_rfl) (fun _ _ _ h => h) (Or.inl ⟨by rfl, ?_⟩) (by assumption) ?_
      rotate_left
      · intro wS hSw
        go_simp; (try with_reducible rfl)
      (try simp only [Act.put])
      (try simp only [List.setIfInBounds_toArray])
      (try simp only [List.set_cons_succ])
      (try simp only [List.set_cons_zero])
      refine wpAnyH_take (i := 6) (oi := ⟨_, _, _, _, _, _⟩) (v := .int .i64 (q : Int)) rfl (by kernel_rfl) (by kernel_rfl) (by kernel_rfl) (fun _ _ _ h => h) (Or.inl ⟨by rfl, fun wS hSw => ?_⟩) (by assumption) ?_
      · go_simp; rw [HQ.out, HW.out]
      (try simp only [Act.put])
      (try simp only [List.setIfInBounds_toArray])
      (try simp only [List.set_cons_succ])
      (try simp only [List.set_cons_zero])
      refine wpAnyH_take (i := 7) (oi := ⟨_, _, _, _, _, _⟩) (v := ?_) rfl (by kernel_rfl) (by kernel_rfl) (by kernel_rfl) (fun _ _ _ h => h) (Or.inl ⟨by rfl, ?_⟩) (by assumption) ?_
      rotate_left
      · intro wS hSw
        go_simp; (try with_reducible rfl)
      (try simp only [Act.put])
      (try simp only [List.setIfInBounds_toArray])
      (try simp only [List.set_cons_succ])
      (try simp only [List.set_cons_zero])
      refine wpAnyH_take (i := 8) (oi := ⟨_, _, _, _, _, _⟩) (v := ?_) rfl (by kernel_rfl) (by kernel_rfl) (by kernel_rfl) (fun _ _ _ h => h) (Or.inl ⟨by rfl, ?_⟩) (by assumption) ?_
      rotate_left
      · intro wS hSw
        go_simp; (try with_reducible rfl)
      (try simp only [Act.put])
      (try simp only [List.setIfInBounds_toArray])
      (try simp only [List.set_cons_succ])
      (try simp only [List.set_cons_zero])
      refine wpAnyH_take (i := 9) (oi := ⟨_, _, _, _, _, _⟩) (v := .pointer (some ⟨gp, k * 129 + q, none⟩)) rfl (by kernel_rfl) (by kernel_rfl) (by kernel_rfl) (fun _ _ _ h => h) (Or.inl ⟨by rfl, fun wS hSw => ?_⟩) (by assumption) ?_
      · go_simp; exact fun hh => absurd hh (by omega)
      (try simp only [Act.put])
      (try simp only [List.setIfInBounds_toArray])
      (try simp only [List.set_cons_succ])
      (try simp only [List.set_cons_zero])
      refine wpAnyH_take (i := 11) (oi := ⟨_, _, _, _, _, _⟩) (v := ?_) rfl (by kernel_rfl) (by kernel_rfl) (by kernel_rfl) (fun _ _ _ h => h) (Or.inl ⟨by rfl, ?_⟩) (by assumption) ?_
      rotate_left
      · intro wS hSw
        go_simp; (try with_reducible rfl)
      (try simp only [Act.put])
      (try simp only [List.setIfInBounds_toArray])
      (try simp only [List.set_cons_succ])
      (try simp only [List.set_cons_zero])
      refine wpAnyH_take (i := 12) (oi := ⟨_, _, _, _, _, _⟩) (v := .int .i64 (r : Int)) rfl (by kernel_rfl) (by kernel_rfl) (by kernel_rfl) (fun _ _ _ h => h) (Or.inl ⟨by rfl, fun wS hSw => ?_⟩) (by assumption) ?_
      · go_simp; rw [HR.out]
      (try simp only [Act.put])
      (try simp only [List.setIfInBounds_toArray])
      (try simp only [List.set_cons_succ])
      (try simp only [List.set_cons_zero])
      refine wpAnyH_take (i := 13) (oi := ⟨_, _, _, _, _, _⟩) (v := .int .u8 ((2 ^ r : Nat) : Int)) rfl (by kernel_rfl) (by kernel_rfl) (by kernel_rfl) (fun _ _ _ h => h) (Or.inl ⟨by rfl, fun wS hSw => ?_⟩) (by assumption) ?_
      · go_simp; exact HS8.out
      (try simp only [Act.put])
      (try simp only [List.setIfInBounds_toArray])
      (try simp only [List.set_cons_succ])
      (try simp only [List.set_cons_zero])
      refine wpAnyH_take (i := 15) (oi := ⟨_, _, _, _, _, _⟩) (v := ?_) rfl (by kernel_rfl) (by kernel_rfl) (by kernel_rfl) (fun _ _ _ h => h) (Or.inl ⟨by rfl, ?_⟩) (by assumption) ?_
      rotate_left
      · intro wS hSw
        go_simp; (try with_reducible rfl)
      (try simp only [Act.put])
      (try simp only [List.setIfInBounds_toArray])
      (try simp only [List.set_cons_succ])
      (try simp only [List.set_cons_zero])
      refine wpAnyH_take (i := 16) (oi := ⟨_, _, _, _, _, _⟩) (v := ?_) rfl (by kernel_rfl) (by kernel_rfl) (by kernel_rfl) (fun _ _ _ h => h) (Or.inl ⟨by rfl, ?_⟩) (by assumption) ?_
      rotate_left
      · intro wS hSw
        go_simp; (try with_reducible rfl)
      (try simp only [Act.put])
      (try simp only [List.setIfInBounds_toArray])
      (try simp only [List.set_cons_succ])
      (try simp only [List.set_cons_zero])
      have hcl : x0.cell? ⟨gp, k * 129 + q, none⟩ = some (.int .u8 y.toNat) := blk_cell hdD.pls _ _ (pls_at hpk hcy)
      refine wpAnyH_ready (rs := [10]) (by kernel_rfl) (by simp) ?_
      refine AllReadyH.cons (o := ⟨_, _, _, _, _, _⟩) rfl (fun K' hK' => ?_) (AllReadyH.nil)
      refine (if_pos (by rfl)).mpr ?_
      refine wp_run (v := .int .u8 y.toNat) (w' := x0) (by go_simp) ?_
      refine hK'.out _ _ hS0 (fun _ => ?_)
      clear hK'
      (try simp only [Act.put])
      (try simp only [List.setIfInBounds_toArray])
      (try simp only [List.set_cons_succ])
      (try simp only [List.set_cons_zero])
      refine wpAnyH_take (i := 14) (oi := ⟨_, _, _, _, _, _⟩) (v := .int .u8 ((UInt8.ofNat (y.toNat ^^^ 2 ^ r)).toNat : Int)) rfl (by kernel_rfl) (by kernel_rfl) (by kernel_rfl) (fun _ _ _ h => h) (Or.inl ⟨by rfl, fun wS hSw => ?_⟩) (by assumption) ?_
      · go_simp; rw [HX.out]; simp
      (try simp only [Act.put])
      (try simp only [List.setIfInBounds_toArray])
      (try simp only [List.set_cons_succ])
      (try simp only [List.set_cons_zero])
      refine wpAnyH_take (i := 17) (oi := ⟨_, _, _, _, _, _⟩) (v := .pointer (some ⟨gp, k * 129 + q, none⟩)) rfl (by kernel_rfl) (by kernel_rfl) (by kernel_rfl) (fun _ _ _ h => h) (Or.inl ⟨by rfl, fun wS hSw => ?_⟩) (by assumption) ?_
      · go_simp; exact fun hh => absurd hh (by omega)
      (try simp only [Act.put])
      (try simp only [List.setIfInBounds_toArray])
      (try simp only [List.set_cons_succ])
      (try simp only [List.set_cons_zero])
      refine wpAnyH_ready (rs := [18]) (by kernel_rfl) (by simp) ?_
      refine AllReadyH.cons (o := ⟨_, _, _, _, _, _⟩) rfl (fun K' hK' => ?_) (AllReadyH.nil)
      refine (if_pos (by rfl)).mpr ?_
      refine wp_stB 5 _ _ ?_
      refine ⟨_, _, _, ⟨_, _, _, Tryz.sizeOf5, rfl, hdD.pls, pls_part (x := .int .u8 ((UInt8.ofNat (y.toNat ^^^ 2 ^ r)).toNat : Int)) (p' := { p with rest := p.rest.set q (UInt8.ofNat (y.toNat ^^^ 2 ^ r)) }) hpk rfl (by omega) (by simp [Value.cells, Value.oneCell']) (pl_bit p hok.1 q hq64 _)⟩, ?_⟩
      intro w6 B6 g6
      have hfin := hdD.sect B6 g6 ⟨by rw [List.length_set]; exact hok.1, hok.2⟩
      refine hK'.out _ _ (tr_st g6 hS0 hne1) (fun _ => ?_)
      refine wpAnyH_done (by kernel_rfl) ?_ _
      go_wp2
      go_ret
      exact ⟨rfl, hfin.1, hkD.trans hfin.2⟩
  · rw [if_pos (by simpa using h0)]
    have h0b : (thereD d s != 0) = true := by simpa using h0
    go_enter Tryz.func174, Tryz.ntmps174
    go_wp2_with (go_at_call 124; refine ht.mono ?_; rintro e w1 ⟨rfl, rfl⟩)
    go_ret
    exact ⟨rfl, hA, hk⟩
end
end Go.Proofs.YthfolocjkpiljaaGreatDoor

namespace Go.Proofs.YthfolocjkpiljaaGreatDoor
open Go.RowKit

theorem infoPl : (Tryz.prog.info? 218).map (fun i => (i.zero.map (·.cells), i.size, i.bytes)) = some (some (plC zeroPl).toArray, 129, 129) := by kernel_rfl
theorem made_pls (s : Nat) : madeCells (plC zeroPl).toArray (s * 129) = plsV (List.replicate s zeroPl) := by
  apply Array.ext_getElem?
  intro k
  by_cases hk : k < s * 129
  · have h1 : (List.replicate s zeroPl)[k / 129]? = some zeroPl := by
      rw [List.getElem?_replicate, if_pos (by omega)]
    have hlt : k % 129 < (plC zeroPl).length := by rw [plC_len]; omega
    have h2 : (plC zeroPl)[k % 129]? = some (plC zeroPl)[k % 129] := List.getElem?_eq_getElem hlt
    have h3 := pls_at h1 h2
    rw [show k / 129 * 129 + k % 129 = k by omega] at h3
    rw [h3]
    unfold madeCells
    have hs : (plC zeroPl).toArray.size = 129 := by rw [List.size_toArray, plC_len]
    rw [Array.getElem?_map, Array.getElem?_range, if_pos hk, hs]
    show some ((plC zeroPl).toArray[k % 129]!) = _
    rw [getElem!_pos _ _ (by rw [hs]; omega)]
    simp
  · rw [Array.getElem?_eq_none (by rw [size_madeCells]; omega), Array.getElem?_eq_none (by rw [plsV_size, List.length_replicate]; omega)]
theorem make_pls (s : Nat) (hs : s ≤ 1024) (w : World) : (Instr.makeSlice 172 (.int .i64 s) (.int .i64 s)).run Tryz.prog w = .ok (.slice (some ⟨w.heap.size, 0, none⟩) s s) (w.alloc (.cells (plsV (List.replicate s zeroPl)) 218)) := by
  obtain ⟨i, hi, h2⟩ := Option.map_eq_some_iff.1 infoPl
  simp only [Prod.mk.injEq] at h2
  obtain ⟨hz, hsz, hb⟩ := h2
  obtain ⟨z, hz, hzc⟩ := Option.map_eq_some_iff.1 hz
  have := run_make (P := Tryz.prog) w 172 218 i z Tryz.underlying172 hi hz .i64 .i64 s s (by omega) (by omega) (by rw [hb]; omega) (by omega)
  rw [hsz, hzc] at this
  simp only [Int.toNat_natCast] at this
  rw [made_pls] at this
  exact this
section
variable {B : Nat} {w : World}
set_option maxRecDepth 100000 in
theorem new_any (s : Nat) (h1 : 1 ≤ s) (h2 : s ≤ 1024) (hB : B ≤ w.heap.size) : Calls Tryz.prog 14 #[.int .i64 s] w fun e w' => (∃ g gp, e = .returned (.tuple #[.pointer (some ⟨g, 0, none⟩), .int .i64 0]) ∧ DiskB B g gp (.slice none 0 0) (newDk s) w') ∧ Below w.heap.size w w' := by
  have hmk := make_pls s h2
  go_enter Tryz.func14, Tryz.ntmps14
  go_wp2
  go_ret2
  have hb1 := blw w (Obj.cells (plsV (List.replicate s zeroPl)) 218)
  have n1 := heap_alloc_new w (Obj.cells (plsV (List.replicate s zeroPl)) 218)
  have hsz : (w.alloc (Obj.cells (plsV (List.replicate s zeroPl)) 218)).heap.size = w.heap.size + 1 := by simp
  generalize w.alloc (Obj.cells (plsV (List.replicate s zeroPl)) 218) = w1 at *
  have hlen : (newDk s).pl.length = s := List.length_replicate
  have e : #[Value.slice (some ⟨w.heap.size, 0, none⟩) s s, .slice none 0 0, .bool false, .bool false, .int .i64 (-1)] = dkA w.heap.size (.slice none 0 0) (newDk s) := by
    unfold dkA
    rw [hlen]
    rfl
  refine ⟨⟨w.heap.size + 1, w.heap.size, rfl, ⟨?_, ?_, World.ownsRow_nil _ _ _ _, by omega, hB, by rw [hlen]; exact h1, by rw [hlen]; exact h2, Int.le_refl _, by show (-1 : Int) ≤ _; omega, ?_, ?_⟩⟩, ?_⟩
  · rw [← e, ← hsz]
    exact heap_alloc_new w1 _
  · exact tr_al _ n1
  · intro p hp
    obtain rfl := List.eq_of_mem_replicate hp
    exact ⟨rfl, rfl⟩
  · intro x hx
    cases hx
  · exact hb1.alloc (by omega) _
end
section
variable {B g gp : Nat} {wv : Value} {d : Dk} {w : World}
set_option maxRecDepth 100000 in
theorem waits_any (h : DiskB B g gp wv d w) : Calls Tryz.prog 43 #[.pointer (some ⟨g, 0, none⟩)] w fun e w' => e = .returned (.int .i64 d.waits.length) ∧ w = w' := by
  obtain ⟨wa, wc, rfl, _, hwl, hwm⟩ := Row.of_owns h.wts
  have h0 : ((d.pl.length : Int) == 0) = false := by have := h.n0; rw [beq_eq_false_iff_ne]; omega
  have c1 := h.c1
  go_enter Tryz.func43, Tryz.ntmps43
  go_wp2_with (go_at_call 93; refine (dsize h).mono ?_; rintro e w1 ⟨rfl, rfl⟩)
  go_ret
  exact ⟨rfl, rfl⟩
end
end Go.Proofs.YthfolocjkpiljaaGreatDoor

namespace Go.Proofs.YthfolocjkpiljaaGreatDoor
open Go.RowKit

abbrev halV : Value := .agg #[.int .u32 0x00000000, .int .u32 0x105ec76f, .int .u32 0x20bd8ede, .int .u32 0x30e349b1, .int .u32 0x417b1dbc, .int .u32 0x5125dad3, .int .u32 0x61c69362, .int .u32 0x7198540d,
  .int .u32 0x82f63b78, .int .u32 0x92a8fc17, .int .u32 0xa24bb5a6, .int .u32 0xb21572c9, .int .u32 0xc38d26c4, .int .u32 0xd3d3e1ab, .int .u32 0xe330a81a, .int .u32 0xf36e6f75]
def halL : List Value := [.int .u32 0x00000000, .int .u32 0x105ec76f, .int .u32 0x20bd8ede, .int .u32 0x30e349b1, .int .u32 0x417b1dbc, .int .u32 0x5125dad3, .int .u32 0x61c69362, .int .u32 0x7198540d,
  .int .u32 0x82f63b78, .int .u32 0x92a8fc17, .int .u32 0xa24bb5a6, .int .u32 0xb21572c9, .int .u32 0xc38d26c4, .int .u32 0xd3d3e1ab, .int .u32 0xe330a81a, .int .u32 0xf36e6f75]
theorem hal_c : ∀ k, k < 16 → halL[k]? = some (.int .u32 (half k : Nat))
  | 0, _ => rfl | 1, _ => rfl | 2, _ => rfl | 3, _ => rfl | 4, _ => rfl | 5, _ => rfl | 6, _ => rfl | 7, _ => rfl
  | 8, _ => rfl | 9, _ => rfl | 10, _ => rfl | 11, _ => rfl | 12, _ => rfl | 13, _ => rfl | 14, _ => rfl | 15, _ => rfl
  | n + 16, h => absurd h (by omega)
set_option maxRecDepth 100000 in
theorem halves_any (w : World) : Calls Tryz.prog 296 #[] w fun e w' => e = .returned halV ∧ Below w.heap.size w w' := by
  go_enter Tryz.func296, Tryz.ntmps296
  go_wp2
  (try simp only [Exit.inBlock, Exit.then])
  refine bodyPost_ret (v := halV) ?hr rfl ⟨rfl, ?_⟩
  case hr =>
    simp only [results, Tryz.results296]
    go_simp
    try rfl
  (repeat' (first | (with_reducible exact Below.refl _ _) | (with_reducible assumption) | (with_reducible refine Below.alloc ?_ ?_ _) | (with_reducible refine Below.drew ?_) | (with_reducible refine below_drewN ?_ _) | (with_reducible refine Below.setCell ?_ ?_ _) | (with_reducible refine Below.trans ?_ (by assumption)) | go_size))
end Go.Proofs.YthfolocjkpiljaaGreatDoor

namespace Go.Proofs.YthfolocjkpiljaaGreatDoor
open Go.RowKit

theorem u32_not (r : Nat) (h : r < 4294967296) : bits .xor .u32 (r : Int) 4294967295 = ((r ^^^ ones : Nat) : Int) := u32_xor_nat r 4294967295 h (by decide)
theorem runC_snoc (r : Nat) (l : List UInt8) (j : Nat) (h : j < l.length) : runC r (l.take (j + 1)) = stepC (runC r (l.take j)) l[j] := by
  rw [List.take_succ_eq_append_getElem h, runC_app]
  rfl
theorem nib_bits (r k : Nat) (h : r < 4294967296) (hk : r % 16 = k) : bits .xor .u32 ((r : Int) / 16) (half k : Nat) = ((nib r : Nat) : Int) ∧ bits .and .u32 (r : Int) 15 = (k : Int) := by
  constructor
  · have h2 : half k < 4294967296 := half_lt _ (by omega)
    have := u32_xor_nat (r / 16) (half k) (by omega) h2
    rw [show ((r / 16 : Nat) : Int) = (r : Int) / 16 by omega] at this
    rw [this, ← hk]
    rfl
  · have := u32_and_nat r 15 h (by decide)
    rw [nat_mask4, hk] at this
    exact this
set_option maxRecDepth 100000 in
set_option maxHeartbeats 1000000 in
theorem extend_any (a : Option Addr) (cap : Nat) (l : List UInt8) (w : World) (hs : SlB w a cap l) : Calls Tryz.prog 275 #[.int .u32 0, .slice a l.length cap] w fun e w' => e = .returned (.int .u32 (crcS l : Nat)) ∧ Below w.heap.size w w' := by
  have hmx := hs.max
  have hle := hs.le
  unfold maxLen at hmx
  go_enter Tryz.func275, Tryz.ntmps275
  refine wp_seq_k (fun K hK => ?_)
  have HK := Lib.hid hK
  clear hK
  go_wp2
  refine HK.out _ _ ?_
  clear HK
  refine wp_seq_k (fun K hK => ?_)
  have HK := Lib.hid hK
  clear hK
  go_wp2_with (go_at_call 296; refine (halves_any _).mono ?_; rintro e w1 ⟨rfl, hb1⟩)
  refine HK.out _ _ ?_
  clear HK
  have hcell : ∀ k, k < 16 → (w1.alloc (.cells halL.toArray 390)).cell? ⟨w1.heap.size, k, none⟩ = some (.int .u32 (half k : Nat)) := fun k hk => by
    rw [cell_new, List.getElem?_toArray]
    exact hal_c k hk
  have hb2 : Below w.heap.size w (w1.alloc (.cells halL.toArray 390)) := hb1.trans ((blw w1 _).mono hb1.size)
  change Code.wp _ _ _ _ (w1.alloc (.cells halL.toArray 390))
  generalize w1.alloc (.cells halL.toArray 390) = w2 at *
  generalize w1.heap.size = tb at *
  have HC := Lib.hid hcell
  clear hcell
  have hsg : IntKind.u32.signed = false := rfl
  have hn0 : bits .xor .u32 IntKind.u32.max 0 = ((4294967295 : Nat) : Int) := by decide
  refine wp_seq_k (fun K hK => ?_)
  have HK := Lib.hid hK
  clear hK
  go_wp2
  refine HK.out _ _ ?_
  clear HK
  clear hn0
  refine wp_seq_k (fun K hK => ?_)
  have HK := Lib.hid hK
  clear hK
  go_wp2_with fail
  go_loopw [14, 6, 8] (fun i r _ wr => ∃ j : Nat, j ≤ l.length ∧ i = .int .i64 (j : Nat) ∧ r = .int .u32 (runC ones (l.take j) : Nat) ∧ wr = w2) (fun i _ _ _ => l.length - (intOf i).toNat)
  case atStart => exact ⟨0, by omega, rfl, rfl, rfl⟩
  case round =>
    obtain ⟨j, hj, rfl, rfl, rfl⟩ := hrel
    have hlt0 := runC_lt (l.take j) (r := ones) (by decide)
    by_cases hlt : j < l.length
    case pos =>
      obtain ⟨b, off, rfl, hc⟩ := (hs.row.below0 hb2).byte hlt
      have hsn := Lib.hid (runC_snoc ones l j hlt)
      generalize l[j] = x at *
      have hx := x.toNat_lt
      generalize runC ones (l.take j) = r at *
      obtain ⟨r1, hr1⟩ : ∃ r1, r ^^^ x.toNat = r1 := ⟨_, rfl⟩
      have hl1 : r1 < 4294967296 := by rw [← hr1]; exact Nat.xor_lt_two_pow (n := 32) hlt0 (by omega)
      have hx1 : bits .xor .u32 (r : Int) (x.toNat : Int) = (r1 : Int) := by rw [u32_xor_nat r x.toNat hlt0 (by omega), hr1]
      obtain ⟨k1, hk1, hk1l⟩ : ∃ k, r1 % 16 = k ∧ k < 16 := ⟨_, rfl, by omega⟩
      obtain ⟨hx2, ha1⟩ := nib_bits r1 k1 hl1 hk1
      have hl2 := nib_lt hl1
      obtain ⟨r2, hr2⟩ : ∃ r2, nib r1 = r2 := ⟨_, rfl⟩
      rw [hr2] at hx2 hl2
      obtain ⟨k2, hk2, hk2l⟩ : ∃ k, r2 % 16 = k ∧ k < 16 := ⟨_, rfl, by omega⟩
      obtain ⟨hx3, ha2⟩ := nib_bits r2 k2 hl2 hk2
      obtain ⟨r3, hr3⟩ : ∃ r3, nib r2 = r3 := ⟨_, rfl⟩
      rw [hr3] at hx3
      have hst : stepC r x = r3 := by unfold stepC; rw [hr1, hr2, hr3]
      have HS := Lib.hid (hsn.out.trans hst)
      have hc1 := HC.out k1 hk1l
      have hc2 := HC.out k2 hk2l
      clear hr1 hk1 hr2 hk2 hr3 hst hsn
      go_wp2
      go_roundw
      case rel => exact ⟨j + 1, by omega, by go_num, by rw [HS.out], trivial⟩
      case measure => simp [intOf]; omega
    case neg =>
      obtain rfl : j = l.length := by omega
      have hcr : bits .xor .u32 IntKind.u32.max (runC ones l : Nat) = ((crcS l : Nat) : Int) := by
        have h1 := runC_lt l (r := ones) (by decide)
        have h2 := u32_xor_nat 4294967295 (runC ones l) (by decide) h1
        rw [show IntKind.u32.max = ((4294967295 : Nat) : Int) by decide, h2, Nat.xor_comm]
        rfl
      rw [List.take_length]
      generalize runC ones l = r at *
      generalize crcS l = z at *
      go_wp2
      refine HK.out _ _ ?_
      clear HK
      go_wp2
      go_ret
      exact ⟨rfl, hb2⟩
set_option maxRecDepth 100000 in
theorem sum_any (a : Option Addr) (cap : Nat) (l : List UInt8) (w : World) (hs : SlB w a cap l) : Calls Tryz.prog 243 #[.slice a l.length cap] w fun e w' => e = .returned (.int .u32 (crcS l : Nat)) ∧ Below w.heap.size w w' := by
  go_enter Tryz.func243, Tryz.ntmps243
  go_wp2_with (go_at_call 275; refine (extend_any a cap l _ hs).mono ?_; rintro e w1 ⟨rfl, hb1⟩)
  go_ret
  exact ⟨rfl, hb1⟩
end Go.Proofs.YthfolocjkpiljaaGreatDoor

namespace Go.Proofs.YthfolocjkpiljaaGreatDoor
open Go.RowKit

def ofV (n : Int) : Value := .agg #[.int .i64 (placesN n), .int .i64 (wideN n)]
theorem ofV_out {n : Int} (h : n < 1 ∨ 5 < n) : ofV n = .agg #[.int .i64 0, .int .i64 0] := by
  unfold ofV placesN wideN
  rw [if_neg (by omega), if_neg (by omega), if_neg (by omega), if_neg (by omega), if_neg (by omega), if_neg (by omega), if_neg (by omega), if_neg (by omega), if_neg (by omega), if_neg (by omega)]
theorem st2 (x y a b : Int) : 0 + 2 ≤ (#[Value.int .i64 x, .int .i64 y]).size ∧ (Value.agg #[.int .i64 a, .int .i64 b]).cells.size = 2 ∧ (∀ u ∈ (Value.agg #[.int .i64 a, .int .i64 b]).cells.toList, u.oneCell' = true) ∧ ((#[Value.int .i64 x, .int .i64 y]).toList.take 0 ++ (Value.agg #[.int .i64 a, .int .i64 b]).cells.toList ++ (#[Value.int .i64 x, .int .i64 y]).toList.drop (0 + 2)).toArray = #[.int .i64 a, .int .i64 b] :=
  ⟨Nat.le_refl 2, rfl, by simp [Value.cells, Value.oneCell'], rfl⟩
set_option maxRecDepth 100000 in
set_option maxHeartbeats 1000000 in
theorem of_any (n : Int) (w : World) : Calls Tryz.prog 183 #[.int .i64 n] w fun e w' => e = .returned (ofV n) ∧ Below w.heap.size w w' := by
  by_cases h0 : n < 0
  · rw [ofV_out (by omega)]
    go_enter Tryz.func183, Tryz.ntmps183
    refine wp_seq_k (fun K hK => ?_)
    have HK := Lib.hid hK
    clear hK
    go_wp2
    refine HK.out _ _ ?_
    clear HK
    refine wp_seq_k (fun K hK => ?_)
    have HK := Lib.hid hK
    clear hK
    go_wp2_with (go_at_call 240; refine (regions_any _).mono ?_; rintro e w1 ⟨rfl, hb1⟩)
    refine HK.out _ _ ?_
    clear HK
    have hB1 := tr_bl hb1 (heap_alloc_new w (Obj.cells #[.int .i64 0, .int .i64 0] 280))
    have hb2 : Below w.heap.size w w1 := (blw w _).trans (hb1.mono (blw w _).size)
    have hs1 := hb2.size
    go_wp2_with ((with_reducible refine wpList_stB 280 _ _ ?_); refine ⟨_, _, _, ⟨_, _, _, Tryz.sizeOf280, rfl, tr_al _ hB1, st2 0 0 0 0⟩, ?_⟩; intro w5 B5 g5)
    refine bodyPost_ret (results_c1 rfl rfl (run_loadVar_all Tryz.isAgg280 Tryz.sizeOf280 B5 rfl)) rfl ⟨rfl, ?_⟩
    exact bl_st (hb2.alloc hs1 _) g5 (by simp; omega) (Nat.le_refl _)
  · by_cases h6 : 6 ≤ n
    · rw [ofV_out (by omega)]
      go_enter Tryz.func183, Tryz.ntmps183
      refine wp_seq_k (fun K hK => ?_)
      have HK := Lib.hid hK
      clear hK
      go_wp2
      refine HK.out _ _ ?_
      clear HK
      refine wp_seq_k (fun K hK => ?_)
      have HK := Lib.hid hK
      clear hK
      go_wp2_with (go_at_call 240; refine (regions_any _).mono ?_; rintro e w1 ⟨rfl, hb1⟩)
      refine HK.out _ _ ?_
      clear HK
      have hB1 := tr_bl hb1 (heap_alloc_new w (Obj.cells #[.int .i64 0, .int .i64 0] 280))
      have hb2 : Below w.heap.size w w1 := (blw w _).trans (hb1.mono (blw w _).size)
      have hs1 := hb2.size
      go_wp2_with ((with_reducible refine wpList_stB 280 _ _ ?_); refine ⟨_, _, _, ⟨_, _, _, Tryz.sizeOf280, rfl, tr_al _ hB1, st2 0 0 0 0⟩, ?_⟩; intro w5 B5 g5)
      refine bodyPost_ret (results_c1 rfl rfl (run_loadVar_all Tryz.isAgg280 Tryz.sizeOf280 B5 rfl)) rfl ⟨rfl, ?_⟩
      exact bl_st (hb2.alloc hs1 _) g5 (by simp; omega) (Nat.le_refl _)
    · have h : n = 0 ∨ n = 1 ∨ n = 2 ∨ n = 3 ∨ n = 4 ∨ n = 5 := by omega
      rcases h with rfl | rfl | rfl | rfl | rfl | rfl
      · rw [show ofV 0 = .agg #[.int .i64 0, .int .i64 0] from rfl]
        go_enter Tryz.func183, Tryz.ntmps183
        refine wp_seq_k (fun K hK => ?_)
        have HK := Lib.hid hK
        clear hK
        go_wp2
        refine HK.out _ _ ?_
        clear HK
        refine wp_seq_k (fun K hK => ?_)
        have HK := Lib.hid hK
        clear hK
        go_wp2_with (go_at_call 240; refine (regions_any _).mono ?_; rintro e w1 ⟨rfl, hb1⟩)
        refine HK.out _ _ ?_
        clear HK
        have hB1 := tr_bl hb1 (heap_alloc_new w (Obj.cells #[.int .i64 0, .int .i64 0] 280))
        have hb2 : Below w.heap.size w w1 := (blw w _).trans (hb1.mono (blw w _).size)
        have hs1 := hb2.size
        go_wp2_with ((with_reducible refine wpList_stB 280 _ _ ?_); refine ⟨_, _, _, ⟨_, _, _, Tryz.sizeOf280, rfl, tr_al _ hB1, st2 0 0 0 0⟩, ?_⟩; intro w5 B5 g5)
        refine bodyPost_ret (results_c1 rfl rfl (run_loadVar_all Tryz.isAgg280 Tryz.sizeOf280 B5 rfl)) rfl ⟨rfl, ?_⟩
        exact bl_st (hb2.alloc hs1 _) g5 (by simp; omega) (Nat.le_refl _)
      · rw [show ofV 1 = .agg #[.int .i64 2, .int .i64 1] from rfl]
        go_enter Tryz.func183, Tryz.ntmps183
        refine wp_seq_k (fun K hK => ?_)
        have HK := Lib.hid hK
        clear hK
        go_wp2
        refine HK.out _ _ ?_
        clear HK
        refine wp_seq_k (fun K hK => ?_)
        have HK := Lib.hid hK
        clear hK
        go_wp2_with (go_at_call 240; refine (regions_any _).mono ?_; rintro e w1 ⟨rfl, hb1⟩)
        refine HK.out _ _ ?_
        clear HK
        have hB1 := tr_bl hb1 (heap_alloc_new w (Obj.cells #[.int .i64 0, .int .i64 0] 280))
        have hb2 : Below w.heap.size w w1 := (blw w _).trans (hb1.mono (blw w _).size)
        have hs1 := hb2.size
        go_wp2_with ((with_reducible refine wpList_stB 280 _ _ ?_); refine ⟨_, _, _, ⟨_, _, _, Tryz.sizeOf280, rfl, tr_al _ hB1, st2 0 0 2 1⟩, ?_⟩; intro w5 B5 g5)
        refine bodyPost_ret (results_c1 rfl rfl (run_loadVar_all Tryz.isAgg280 Tryz.sizeOf280 B5 rfl)) rfl ⟨rfl, ?_⟩
        exact bl_st (hb2.alloc hs1 _) g5 (by simp; omega) (Nat.le_refl _)
      · rw [show ofV 2 = .agg #[.int .i64 2, .int .i64 1] from rfl]
        go_enter Tryz.func183, Tryz.ntmps183
        refine wp_seq_k (fun K hK => ?_)
        have HK := Lib.hid hK
        clear hK
        go_wp2
        refine HK.out _ _ ?_
        clear HK
        refine wp_seq_k (fun K hK => ?_)
        have HK := Lib.hid hK
        clear hK
        go_wp2_with (go_at_call 240; refine (regions_any _).mono ?_; rintro e w1 ⟨rfl, hb1⟩)
        refine HK.out _ _ ?_
        clear HK
        have hB1 := tr_bl hb1 (heap_alloc_new w (Obj.cells #[.int .i64 0, .int .i64 0] 280))
        have hb2 : Below w.heap.size w w1 := (blw w _).trans (hb1.mono (blw w _).size)
        have hs1 := hb2.size
        go_wp2_with ((with_reducible refine wpList_stB 280 _ _ ?_); refine ⟨_, _, _, ⟨_, _, _, Tryz.sizeOf280, rfl, tr_al _ hB1, st2 0 0 2 1⟩, ?_⟩; intro w5 B5 g5)
        refine bodyPost_ret (results_c1 rfl rfl (run_loadVar_all Tryz.isAgg280 Tryz.sizeOf280 B5 rfl)) rfl ⟨rfl, ?_⟩
        exact bl_st (hb2.alloc hs1 _) g5 (by simp; omega) (Nat.le_refl _)
      · rw [show ofV 3 = .agg #[.int .i64 24, .int .i64 1] from rfl]
        go_enter Tryz.func183, Tryz.ntmps183
        refine wp_seq_k (fun K hK => ?_)
        have HK := Lib.hid hK
        clear hK
        go_wp2
        refine HK.out _ _ ?_
        clear HK
        refine wp_seq_k (fun K hK => ?_)
        have HK := Lib.hid hK
        clear hK
        go_wp2_with (go_at_call 240; refine (regions_any _).mono ?_; rintro e w1 ⟨rfl, hb1⟩)
        refine HK.out _ _ ?_
        clear HK
        have hB1 := tr_bl hb1 (heap_alloc_new w (Obj.cells #[.int .i64 0, .int .i64 0] 280))
        have hb2 : Below w.heap.size w w1 := (blw w _).trans (hb1.mono (blw w _).size)
        have hs1 := hb2.size
        go_wp2_with ((with_reducible refine wpList_stB 280 _ _ ?_); refine ⟨_, _, _, ⟨_, _, _, Tryz.sizeOf280, rfl, tr_al _ hB1, st2 0 0 24 1⟩, ?_⟩; intro w5 B5 g5)
        refine bodyPost_ret (results_c1 rfl rfl (run_loadVar_all Tryz.isAgg280 Tryz.sizeOf280 B5 rfl)) rfl ⟨rfl, ?_⟩
        exact bl_st (hb2.alloc hs1 _) g5 (by simp; omega) (Nat.le_refl _)
      · rw [show ofV 4 = .agg #[.int .i64 48, .int .i64 2] from rfl]
        go_enter Tryz.func183, Tryz.ntmps183
        refine wp_seq_k (fun K hK => ?_)
        have HK := Lib.hid hK
        clear hK
        go_wp2
        refine HK.out _ _ ?_
        clear HK
        refine wp_seq_k (fun K hK => ?_)
        have HK := Lib.hid hK
        clear hK
        go_wp2_with (go_at_call 240; refine (regions_any _).mono ?_; rintro e w1 ⟨rfl, hb1⟩)
        refine HK.out _ _ ?_
        clear HK
        have hB1 := tr_bl hb1 (heap_alloc_new w (Obj.cells #[.int .i64 0, .int .i64 0] 280))
        have hb2 : Below w.heap.size w w1 := (blw w _).trans (hb1.mono (blw w _).size)
        have hs1 := hb2.size
        go_wp2_with ((with_reducible refine wpList_stB 280 _ _ ?_); refine ⟨_, _, _, ⟨_, _, _, Tryz.sizeOf280, rfl, tr_al _ hB1, st2 0 0 48 2⟩, ?_⟩; intro w5 B5 g5)
        refine bodyPost_ret (results_c1 rfl rfl (run_loadVar_all Tryz.isAgg280 Tryz.sizeOf280 B5 rfl)) rfl ⟨rfl, ?_⟩
        exact bl_st (hb2.alloc hs1 _) g5 (by simp; omega) (Nat.le_refl _)
      · rw [show ofV 5 = .agg #[.int .i64 16, .int .i64 2] from rfl]
        go_enter Tryz.func183, Tryz.ntmps183
        refine wp_seq_k (fun K hK => ?_)
        have HK := Lib.hid hK
        clear hK
        go_wp2
        refine HK.out _ _ ?_
        clear HK
        refine wp_seq_k (fun K hK => ?_)
        have HK := Lib.hid hK
        clear hK
        go_wp2_with (go_at_call 240; refine (regions_any _).mono ?_; rintro e w1 ⟨rfl, hb1⟩)
        refine HK.out _ _ ?_
        clear HK
        have hB1 := tr_bl hb1 (heap_alloc_new w (Obj.cells #[.int .i64 0, .int .i64 0] 280))
        have hb2 : Below w.heap.size w w1 := (blw w _).trans (hb1.mono (blw w _).size)
        have hs1 := hb2.size
        go_wp2_with ((with_reducible refine wpList_stB 280 _ _ ?_); refine ⟨_, _, _, ⟨_, _, _, Tryz.sizeOf280, rfl, tr_al _ hB1, st2 0 0 16 2⟩, ?_⟩; intro w5 B5 g5)
        refine bodyPost_ret (results_c1 rfl rfl (run_loadVar_all Tryz.isAgg280 Tryz.sizeOf280 B5 rfl)) rfl ⟨rfl, ?_⟩
        exact bl_st (hb2.alloc hs1 _) g5 (by simp; omega) (Nat.le_refl _)
set_option maxRecDepth 100000 in
theorem places_any (n : Int) (w : World) : Calls Tryz.prog 102 #[.int .i64 n] w fun e w' => e = .returned (.int .i64 (placesN n)) ∧ Below w.heap.size w w' := by
  have ho := of_any n
  unfold ofV at ho
  have hf : ∀ (x y : Int) (w : World), (Instr.field 280 (.agg #[.int .i64 x, .int .i64 y]) 0).run Tryz.prog w = .ok (.int .i64 x) w := fun x y w => by kernel_rfl
  go_enter Tryz.func102, Tryz.ntmps102
  go_wp2_with (go_at_call 183; refine (ho _).mono ?_; rintro e w1 ⟨rfl, hb1⟩)
  go_ret
  exact ⟨rfl, hb1⟩
set_option maxRecDepth 100000 in
theorem wide_any (n : Int) (w : World) : Calls Tryz.prog 96 #[.int .i64 n] w fun e w' => e = .returned (.int .i64 (wideN n)) ∧ Below w.heap.size w w' := by
  have ho := of_any n
  unfold ofV at ho
  have hf : ∀ (x y : Int) (w : World), (Instr.field 280 (.agg #[.int .i64 x, .int .i64 y]) 1).run Tryz.prog w = .ok (.int .i64 y) w := fun x y w => by kernel_rfl
  go_enter Tryz.func96, Tryz.ntmps96
  go_wp2_with (go_at_call 183; refine (ho _).mono ?_; rintro e w1 ⟨rfl, hb1⟩)
  go_ret
  exact ⟨rfl, hb1⟩
end Go.Proofs.YthfolocjkpiljaaGreatDoor

namespace Go.Proofs.YthfolocjkpiljaaGreatDoor
open Go.RowKit

set_option maxRecDepth 100000 in
set_option maxHeartbeats 2000000 in
theorem start_in (c : Nat) (h1 : 1 ≤ c) (h5 : c ≤ 5) (w : World) : Calls Tryz.prog 184 #[.int .i64 (c : Int)] w fun e w' => e = .returned (.int .i64 (startN c)) ∧ Below w.heap.size w w' := by
  have i0 : ∀ w, (Instr.index 328 regV (.int .i64 0)).run Tryz.prog w = .ok (.agg #[.int .i64 0, .int .i64 0]) w := fun _ => by kernel_rfl
  have i1 : ∀ w, (Instr.index 328 regV (.int .i64 1)).run Tryz.prog w = .ok (.agg #[.int .i64 2, .int .i64 1]) w := fun _ => by kernel_rfl
  have i2 : ∀ w, (Instr.index 328 regV (.int .i64 2)).run Tryz.prog w = .ok (.agg #[.int .i64 2, .int .i64 1]) w := fun _ => by kernel_rfl
  have i3 : ∀ w, (Instr.index 328 regV (.int .i64 3)).run Tryz.prog w = .ok (.agg #[.int .i64 24, .int .i64 1]) w := fun _ => by kernel_rfl
  have i4 : ∀ w, (Instr.index 328 regV (.int .i64 4)).run Tryz.prog w = .ok (.agg #[.int .i64 48, .int .i64 2]) w := fun _ => by kernel_rfl
  have i5 : ∀ w, (Instr.index 328 regV (.int .i64 5)).run Tryz.prog w = .ok (.agg #[.int .i64 16, .int .i64 2]) w := fun _ => by kernel_rfl
  go_enter Tryz.func184, Tryz.ntmps184
  refine wp_seq_k (fun K hK => ?_)
  have HK := Lib.hid hK
  clear hK
  go_wp2
  refine HK.out _ _ ?_
  clear HK
  refine wp_seq_k (fun K hK => ?_)
  have HK := Lib.hid hK
  clear hK
  go_wp2
  refine HK.out _ _ ?_
  clear HK
  go_wp2_with (go_at_call 240; refine (regions_any _).mono ?_; rintro e w1 ⟨rfl, hb1⟩)
  go_loopw [3, 7] (fun t i wr => ∃ k : Nat, k ≤ c ∧ i = .int .i64 k ∧ t = .int .i64 (atP k) ∧ Below w.heap.size w wr) (fun _ i _ => 6 - (intOf i).toNat)
  case atStart => exact ⟨0, by omega, rfl, rfl, hb1⟩
  case round =>
    obtain ⟨k, hk, rfl, rfl, hbr⟩ := hrel
    have hbs := hbr.size
    have h7 : k = 0 ∨ k = 1 ∨ k = 2 ∨ k = 3 ∨ k = 4 ∨ k = 5 := by omega
    rcases h7 with rfl | rfl | rfl | rfl | rfl | rfl
    · have ha : atP 0 = 0 := rfl
      rw [ha]
      by_cases hkc : c = 0
      · first
        | (exfalso; omega)
        | (subst hkc
           go_wp2
           go_ret
           exact ⟨rfl, by (repeat' (first | (with_reducible exact Below.refl _ _) | (with_reducible assumption) | (with_reducible refine Below.alloc ?_ ?_ _) | (with_reducible refine Below.drew ?_) | (with_reducible refine below_drewN ?_ _) | (with_reducible refine Below.setCell ?_ ?_ _) | (with_reducible refine Below.trans ?_ (by assumption)) | go_size))⟩)
      · have hne : ((0 : Int) == (c : Int)) = false := by rw [beq_eq_false_iff_ne]; omega
        have hk1 : 0 + 1 ≤ c := by omega
        go_wp2
        go_roundw
        case rel => exact ⟨0 + 1, hk1, by rfl, by rfl, by (repeat' (first | (with_reducible exact Below.refl _ _) | (with_reducible assumption) | (with_reducible refine Below.alloc ?_ ?_ _) | (with_reducible refine Below.drew ?_) | (with_reducible refine below_drewN ?_ _) | (with_reducible refine Below.setCell ?_ ?_ _) | (with_reducible refine Below.trans ?_ (by assumption)) | go_size))⟩
        case measure => simp [intOf]
    · have ha : atP 1 = 0 := rfl
      rw [ha]
      by_cases hkc : c = 1
      · first
        | (exfalso; omega)
        | (subst hkc
           go_wp2
           go_ret
           exact ⟨rfl, by (repeat' (first | (with_reducible exact Below.refl _ _) | (with_reducible assumption) | (with_reducible refine Below.alloc ?_ ?_ _) | (with_reducible refine Below.drew ?_) | (with_reducible refine below_drewN ?_ _) | (with_reducible refine Below.setCell ?_ ?_ _) | (with_reducible refine Below.trans ?_ (by assumption)) | go_size))⟩)
      · have hne : ((1 : Int) == (c : Int)) = false := by rw [beq_eq_false_iff_ne]; omega
        have hk1 : 1 + 1 ≤ c := by omega
        go_wp2
        go_roundw
        case rel => exact ⟨1 + 1, hk1, by rfl, by rfl, by (repeat' (first | (with_reducible exact Below.refl _ _) | (with_reducible assumption) | (with_reducible refine Below.alloc ?_ ?_ _) | (with_reducible refine Below.drew ?_) | (with_reducible refine below_drewN ?_ _) | (with_reducible refine Below.setCell ?_ ?_ _) | (with_reducible refine Below.trans ?_ (by assumption)) | go_size))⟩
        case measure => simp [intOf]
    · have ha : atP 2 = 2 := rfl
      rw [ha]
      by_cases hkc : c = 2
      · first
        | (exfalso; omega)
        | (subst hkc
           go_wp2
           go_ret
           exact ⟨rfl, by (repeat' (first | (with_reducible exact Below.refl _ _) | (with_reducible assumption) | (with_reducible refine Below.alloc ?_ ?_ _) | (with_reducible refine Below.drew ?_) | (with_reducible refine below_drewN ?_ _) | (with_reducible refine Below.setCell ?_ ?_ _) | (with_reducible refine Below.trans ?_ (by assumption)) | go_size))⟩)
      · have hne : ((2 : Int) == (c : Int)) = false := by rw [beq_eq_false_iff_ne]; omega
        have hk1 : 2 + 1 ≤ c := by omega
        go_wp2
        go_roundw
        case rel => exact ⟨2 + 1, hk1, by rfl, by rfl, by (repeat' (first | (with_reducible exact Below.refl _ _) | (with_reducible assumption) | (with_reducible refine Below.alloc ?_ ?_ _) | (with_reducible refine Below.drew ?_) | (with_reducible refine below_drewN ?_ _) | (with_reducible refine Below.setCell ?_ ?_ _) | (with_reducible refine Below.trans ?_ (by assumption)) | go_size))⟩
        case measure => simp [intOf]
    · have ha : atP 3 = 4 := rfl
      rw [ha]
      by_cases hkc : c = 3
      · first
        | (exfalso; omega)
        | (subst hkc
           go_wp2
           go_ret
           exact ⟨rfl, by (repeat' (first | (with_reducible exact Below.refl _ _) | (with_reducible assumption) | (with_reducible refine Below.alloc ?_ ?_ _) | (with_reducible refine Below.drew ?_) | (with_reducible refine below_drewN ?_ _) | (with_reducible refine Below.setCell ?_ ?_ _) | (with_reducible refine Below.trans ?_ (by assumption)) | go_size))⟩)
      · have hne : ((3 : Int) == (c : Int)) = false := by rw [beq_eq_false_iff_ne]; omega
        have hk1 : 3 + 1 ≤ c := by omega
        go_wp2
        go_roundw
        case rel => exact ⟨3 + 1, hk1, by rfl, by rfl, by (repeat' (first | (with_reducible exact Below.refl _ _) | (with_reducible assumption) | (with_reducible refine Below.alloc ?_ ?_ _) | (with_reducible refine Below.drew ?_) | (with_reducible refine below_drewN ?_ _) | (with_reducible refine Below.setCell ?_ ?_ _) | (with_reducible refine Below.trans ?_ (by assumption)) | go_size))⟩
        case measure => simp [intOf]
    · have ha : atP 4 = 28 := rfl
      rw [ha]
      by_cases hkc : c = 4
      · first
        | (exfalso; omega)
        | (subst hkc
           go_wp2
           go_ret
           exact ⟨rfl, by (repeat' (first | (with_reducible exact Below.refl _ _) | (with_reducible assumption) | (with_reducible refine Below.alloc ?_ ?_ _) | (with_reducible refine Below.drew ?_) | (with_reducible refine below_drewN ?_ _) | (with_reducible refine Below.setCell ?_ ?_ _) | (with_reducible refine Below.trans ?_ (by assumption)) | go_size))⟩)
      · have hne : ((4 : Int) == (c : Int)) = false := by rw [beq_eq_false_iff_ne]; omega
        have hk1 : 4 + 1 ≤ c := by omega
        go_wp2
        go_roundw
        case rel => exact ⟨4 + 1, hk1, by rfl, by rfl, by (repeat' (first | (with_reducible exact Below.refl _ _) | (with_reducible assumption) | (with_reducible refine Below.alloc ?_ ?_ _) | (with_reducible refine Below.drew ?_) | (with_reducible refine below_drewN ?_ _) | (with_reducible refine Below.setCell ?_ ?_ _) | (with_reducible refine Below.trans ?_ (by assumption)) | go_size))⟩
        case measure => simp [intOf]
    · have ha : atP 5 = 124 := rfl
      rw [ha]
      obtain rfl : c = 5 := by omega
      go_wp2
      go_ret
      exact ⟨rfl, by (repeat' (first | (with_reducible exact Below.refl _ _) | (with_reducible assumption) | (with_reducible refine Below.alloc ?_ ?_ _) | (with_reducible refine Below.drew ?_) | (with_reducible refine below_drewN ?_ _) | (with_reducible refine Below.setCell ?_ ?_ _) | (with_reducible refine Below.trans ?_ (by assumption)) | go_size))⟩
theorem firstN_out {n p : Int} (h : n < 1 ∨ 5 < n) : firstN n p = -1 := by
  have h0 : placesN n = 0 := by
    unfold placesN
    rw [if_neg (by omega), if_neg (by omega), if_neg (by omega), if_neg (by omega), if_neg (by omega)]
  unfold firstN
  rw [if_pos (.inl h0)]
set_option maxRecDepth 100000 in
set_option maxHeartbeats 2000000 in
theorem first_any (n p : Int) (w : World) : Calls Tryz.prog 89 #[.int .i64 n, .int .i64 p] w fun e w' => e = .returned (.int .i64 (firstN n p)) ∧ Below w.heap.size w w' := by
  by_cases ho : n < 1 ∨ 5 < n
  · rw [firstN_out ho]
    have ho := of_any n
    rw [ofV_out (by assumption)] at ho
    go_enter Tryz.func89, Tryz.ntmps89
    go_wp2_with (go_at_call 183; refine (ho _).mono ?_; rintro e w1 ⟨rfl, hb1⟩; have hs1 := hb1.size)
    go_ret
    exact ⟨rfl, by (repeat' (first | (with_reducible exact Below.refl _ _) | (with_reducible assumption) | (with_reducible refine Below.alloc ?_ ?_ _) | (with_reducible refine Below.drew ?_) | (with_reducible refine below_drewN ?_ _) | (with_reducible refine Below.setCell ?_ ?_ _) | (with_reducible refine Below.trans ?_ (by assumption)) | go_size))⟩
  · have h : n = 1 ∨ n = 2 ∨ n = 3 ∨ n = 4 ∨ n = 5 := by omega
    rcases h with rfl | rfl | rfl | rfl | rfl
    · skip
      have ho := of_any 1
      rw [show ofV 1 = .agg #[.int .i64 2, .int .i64 1] from rfl] at ho
      have hw := wide_any 1
      rw [show wideN 1 = 1 from rfl] at hw
      have hst := start_in 1 (by omega) (by omega)
      rw [show startN ((1 : Nat) : Int) = 0 from rfl] at hst
      by_cases hp0 : p < 0
      · rw [show firstN 1 p = -1 by unfold firstN; rw [if_pos (.inr (.inl hp0))]]
        go_enter Tryz.func89, Tryz.ntmps89
        go_wp2_with (go_at_call 183; refine (ho _).mono ?_; rintro e w1 ⟨rfl, hb1⟩; have hs1 := hb1.size)
        go_ret
        exact ⟨rfl, by (repeat' (first | (with_reducible exact Below.refl _ _) | (with_reducible assumption) | (with_reducible refine Below.alloc ?_ ?_ _) | (with_reducible refine Below.drew ?_) | (with_reducible refine below_drewN ?_ _) | (with_reducible refine Below.setCell ?_ ?_ _) | (with_reducible refine Below.trans ?_ (by assumption)) | go_size))⟩
      · by_cases hp1 : 2 ≤ p
        · rw [show firstN 1 p = -1 by unfold firstN; rw [if_pos (.inr (.inr (by rw [show placesN 1 = 2 from rfl]; exact hp1)))]]
          go_enter Tryz.func89, Tryz.ntmps89
          go_wp2_with (go_at_call 183; refine (ho _).mono ?_; rintro e w1 ⟨rfl, hb1⟩; have hs1 := hb1.size)
          go_ret
          exact ⟨rfl, by (repeat' (first | (with_reducible exact Below.refl _ _) | (with_reducible assumption) | (with_reducible refine Below.alloc ?_ ?_ _) | (with_reducible refine Below.drew ?_) | (with_reducible refine below_drewN ?_ _) | (with_reducible refine Below.setCell ?_ ?_ _) | (with_reducible refine Below.trans ?_ (by assumption)) | go_size))⟩
        · rw [show firstN 1 p = 0 + p * 1 by unfold firstN; rw [if_neg (by rw [show placesN 1 = 2 from rfl]; omega)]; rfl]
          go_enter Tryz.func89, Tryz.ntmps89
          go_wp2_with (first
            | (go_at_call 183; refine (ho _).mono ?_; rintro e w1 ⟨rfl, hb1⟩; have hs1 := hb1.size)
            | (go_at_call 184; refine (hst _).mono ?_; rintro e w2 ⟨rfl, hb2⟩; have hs2 := hb2.size)
            | (go_at_call 96; refine (hw _).mono ?_; rintro e w3 ⟨rfl, hb3⟩; have hs3 := hb3.size))
          go_ret
          exact ⟨ret_int (by omega), ((hb1.trans ((blw w1 _).mono hs1)).trans (hb2.mono (by simp; omega))).trans (hb3.mono (by simp at hs2; omega))⟩
    · skip
      have ho := of_any 2
      rw [show ofV 2 = .agg #[.int .i64 2, .int .i64 1] from rfl] at ho
      have hw := wide_any 2
      rw [show wideN 2 = 1 from rfl] at hw
      have hst := start_in 2 (by omega) (by omega)
      rw [show startN ((2 : Nat) : Int) = 2 from rfl] at hst
      by_cases hp0 : p < 0
      · rw [show firstN 2 p = -1 by unfold firstN; rw [if_pos (.inr (.inl hp0))]]
        go_enter Tryz.func89, Tryz.ntmps89
        go_wp2_with (go_at_call 183; refine (ho _).mono ?_; rintro e w1 ⟨rfl, hb1⟩; have hs1 := hb1.size)
        go_ret
        exact ⟨rfl, by (repeat' (first | (with_reducible exact Below.refl _ _) | (with_reducible assumption) | (with_reducible refine Below.alloc ?_ ?_ _) | (with_reducible refine Below.drew ?_) | (with_reducible refine below_drewN ?_ _) | (with_reducible refine Below.setCell ?_ ?_ _) | (with_reducible refine Below.trans ?_ (by assumption)) | go_size))⟩
      · by_cases hp1 : 2 ≤ p
        · rw [show firstN 2 p = -1 by unfold firstN; rw [if_pos (.inr (.inr (by rw [show placesN 2 = 2 from rfl]; exact hp1)))]]
          go_enter Tryz.func89, Tryz.ntmps89
          go_wp2_with (go_at_call 183; refine (ho _).mono ?_; rintro e w1 ⟨rfl, hb1⟩; have hs1 := hb1.size)
          go_ret
          exact ⟨rfl, by (repeat' (first | (with_reducible exact Below.refl _ _) | (with_reducible assumption) | (with_reducible refine Below.alloc ?_ ?_ _) | (with_reducible refine Below.drew ?_) | (with_reducible refine below_drewN ?_ _) | (with_reducible refine Below.setCell ?_ ?_ _) | (with_reducible refine Below.trans ?_ (by assumption)) | go_size))⟩
        · rw [show firstN 2 p = 2 + p * 1 by unfold firstN; rw [if_neg (by rw [show placesN 2 = 2 from rfl]; omega)]; rfl]
          go_enter Tryz.func89, Tryz.ntmps89
          go_wp2_with (first
            | (go_at_call 183; refine (ho _).mono ?_; rintro e w1 ⟨rfl, hb1⟩; have hs1 := hb1.size)
            | (go_at_call 184; refine (hst _).mono ?_; rintro e w2 ⟨rfl, hb2⟩; have hs2 := hb2.size)
            | (go_at_call 96; refine (hw _).mono ?_; rintro e w3 ⟨rfl, hb3⟩; have hs3 := hb3.size))
          go_ret
          exact ⟨ret_int (by omega), ((hb1.trans ((blw w1 _).mono hs1)).trans (hb2.mono (by simp; omega))).trans (hb3.mono (by simp at hs2; omega))⟩
    · skip
      have ho := of_any 3
      rw [show ofV 3 = .agg #[.int .i64 24, .int .i64 1] from rfl] at ho
      have hw := wide_any 3
      rw [show wideN 3 = 1 from rfl] at hw
      have hst := start_in 3 (by omega) (by omega)
      rw [show startN ((3 : Nat) : Int) = 4 from rfl] at hst
      by_cases hp0 : p < 0
      · rw [show firstN 3 p = -1 by unfold firstN; rw [if_pos (.inr (.inl hp0))]]
        go_enter Tryz.func89, Tryz.ntmps89
        go_wp2_with (go_at_call 183; refine (ho _).mono ?_; rintro e w1 ⟨rfl, hb1⟩; have hs1 := hb1.size)
        go_ret
        exact ⟨rfl, by (repeat' (first | (with_reducible exact Below.refl _ _) | (with_reducible assumption) | (with_reducible refine Below.alloc ?_ ?_ _) | (with_reducible refine Below.drew ?_) | (with_reducible refine below_drewN ?_ _) | (with_reducible refine Below.setCell ?_ ?_ _) | (with_reducible refine Below.trans ?_ (by assumption)) | go_size))⟩
      · by_cases hp1 : 24 ≤ p
        · rw [show firstN 3 p = -1 by unfold firstN; rw [if_pos (.inr (.inr (by rw [show placesN 3 = 24 from rfl]; exact hp1)))]]
          go_enter Tryz.func89, Tryz.ntmps89
          go_wp2_with (go_at_call 183; refine (ho _).mono ?_; rintro e w1 ⟨rfl, hb1⟩; have hs1 := hb1.size)
          go_ret
          exact ⟨rfl, by (repeat' (first | (with_reducible exact Below.refl _ _) | (with_reducible assumption) | (with_reducible refine Below.alloc ?_ ?_ _) | (with_reducible refine Below.drew ?_) | (with_reducible refine below_drewN ?_ _) | (with_reducible refine Below.setCell ?_ ?_ _) | (with_reducible refine Below.trans ?_ (by assumption)) | go_size))⟩
        · rw [show firstN 3 p = 4 + p * 1 by unfold firstN; rw [if_neg (by rw [show placesN 3 = 24 from rfl]; omega)]; rfl]
          go_enter Tryz.func89, Tryz.ntmps89
          go_wp2_with (first
            | (go_at_call 183; refine (ho _).mono ?_; rintro e w1 ⟨rfl, hb1⟩; have hs1 := hb1.size)
            | (go_at_call 184; refine (hst _).mono ?_; rintro e w2 ⟨rfl, hb2⟩; have hs2 := hb2.size)
            | (go_at_call 96; refine (hw _).mono ?_; rintro e w3 ⟨rfl, hb3⟩; have hs3 := hb3.size))
          go_ret
          exact ⟨ret_int (by omega), ((hb1.trans ((blw w1 _).mono hs1)).trans (hb2.mono (by simp; omega))).trans (hb3.mono (by simp at hs2; omega))⟩
    · skip
      have ho := of_any 4
      rw [show ofV 4 = .agg #[.int .i64 48, .int .i64 2] from rfl] at ho
      have hw := wide_any 4
      rw [show wideN 4 = 2 from rfl] at hw
      have hst := start_in 4 (by omega) (by omega)
      rw [show startN ((4 : Nat) : Int) = 28 from rfl] at hst
      by_cases hp0 : p < 0
      · rw [show firstN 4 p = -1 by unfold firstN; rw [if_pos (.inr (.inl hp0))]]
        go_enter Tryz.func89, Tryz.ntmps89
        go_wp2_with (go_at_call 183; refine (ho _).mono ?_; rintro e w1 ⟨rfl, hb1⟩; have hs1 := hb1.size)
        go_ret
        exact ⟨rfl, by (repeat' (first | (with_reducible exact Below.refl _ _) | (with_reducible assumption) | (with_reducible refine Below.alloc ?_ ?_ _) | (with_reducible refine Below.drew ?_) | (with_reducible refine below_drewN ?_ _) | (with_reducible refine Below.setCell ?_ ?_ _) | (with_reducible refine Below.trans ?_ (by assumption)) | go_size))⟩
      · by_cases hp1 : 48 ≤ p
        · rw [show firstN 4 p = -1 by unfold firstN; rw [if_pos (.inr (.inr (by rw [show placesN 4 = 48 from rfl]; exact hp1)))]]
          go_enter Tryz.func89, Tryz.ntmps89
          go_wp2_with (go_at_call 183; refine (ho _).mono ?_; rintro e w1 ⟨rfl, hb1⟩; have hs1 := hb1.size)
          go_ret
          exact ⟨rfl, by (repeat' (first | (with_reducible exact Below.refl _ _) | (with_reducible assumption) | (with_reducible refine Below.alloc ?_ ?_ _) | (with_reducible refine Below.drew ?_) | (with_reducible refine below_drewN ?_ _) | (with_reducible refine Below.setCell ?_ ?_ _) | (with_reducible refine Below.trans ?_ (by assumption)) | go_size))⟩
        · rw [show firstN 4 p = 28 + p * 2 by unfold firstN; rw [if_neg (by rw [show placesN 4 = 48 from rfl]; omega)]; rfl]
          go_enter Tryz.func89, Tryz.ntmps89
          go_wp2_with (first
            | (go_at_call 183; refine (ho _).mono ?_; rintro e w1 ⟨rfl, hb1⟩; have hs1 := hb1.size)
            | (go_at_call 184; refine (hst _).mono ?_; rintro e w2 ⟨rfl, hb2⟩; have hs2 := hb2.size)
            | (go_at_call 96; refine (hw _).mono ?_; rintro e w3 ⟨rfl, hb3⟩; have hs3 := hb3.size))
          go_ret
          exact ⟨ret_int (by omega), ((hb1.trans ((blw w1 _).mono hs1)).trans (hb2.mono (by simp; omega))).trans (hb3.mono (by simp at hs2; omega))⟩
    · skip
      have ho := of_any 5
      rw [show ofV 5 = .agg #[.int .i64 16, .int .i64 2] from rfl] at ho
      have hw := wide_any 5
      rw [show wideN 5 = 2 from rfl] at hw
      have hst := start_in 5 (by omega) (by omega)
      rw [show startN ((5 : Nat) : Int) = 124 from rfl] at hst
      by_cases hp0 : p < 0
      · rw [show firstN 5 p = -1 by unfold firstN; rw [if_pos (.inr (.inl hp0))]]
        go_enter Tryz.func89, Tryz.ntmps89
        go_wp2_with (go_at_call 183; refine (ho _).mono ?_; rintro e w1 ⟨rfl, hb1⟩; have hs1 := hb1.size)
        go_ret
        exact ⟨rfl, by (repeat' (first | (with_reducible exact Below.refl _ _) | (with_reducible assumption) | (with_reducible refine Below.alloc ?_ ?_ _) | (with_reducible refine Below.drew ?_) | (with_reducible refine below_drewN ?_ _) | (with_reducible refine Below.setCell ?_ ?_ _) | (with_reducible refine Below.trans ?_ (by assumption)) | go_size))⟩
      · by_cases hp1 : 16 ≤ p
        · rw [show firstN 5 p = -1 by unfold firstN; rw [if_pos (.inr (.inr (by rw [show placesN 5 = 16 from rfl]; exact hp1)))]]
          go_enter Tryz.func89, Tryz.ntmps89
          go_wp2_with (go_at_call 183; refine (ho _).mono ?_; rintro e w1 ⟨rfl, hb1⟩; have hs1 := hb1.size)
          go_ret
          exact ⟨rfl, by (repeat' (first | (with_reducible exact Below.refl _ _) | (with_reducible assumption) | (with_reducible refine Below.alloc ?_ ?_ _) | (with_reducible refine Below.drew ?_) | (with_reducible refine below_drewN ?_ _) | (with_reducible refine Below.setCell ?_ ?_ _) | (with_reducible refine Below.trans ?_ (by assumption)) | go_size))⟩
        · rw [show firstN 5 p = 124 + p * 2 by unfold firstN; rw [if_neg (by rw [show placesN 5 = 16 from rfl]; omega)]; rfl]
          go_enter Tryz.func89, Tryz.ntmps89
          go_wp2_with (first
            | (go_at_call 183; refine (ho _).mono ?_; rintro e w1 ⟨rfl, hb1⟩; have hs1 := hb1.size)
            | (go_at_call 184; refine (hst _).mono ?_; rintro e w2 ⟨rfl, hb2⟩; have hs2 := hb2.size)
            | (go_at_call 96; refine (hw _).mono ?_; rintro e w3 ⟨rfl, hb3⟩; have hs3 := hb3.size))
          go_ret
          exact ⟨ret_int (by omega), ((hb1.trans ((blw w1 _).mono hs1)).trans (hb2.mono (by simp; omega))).trans (hb3.mono (by simp at hs2; omega))⟩
end Go.Proofs.YthfolocjkpiljaaGreatDoor

