/- Texts that the claim leans on, part 5: D22, D23, D24a, G10, X5, X6, X7, X12. -/
import Derived.Test.YtddddemclhlfaaaGreatDoorZ1
import Derived.Test.YtddddemclhlfaaaGreatDoorZ2
import Derived.Test.YtddddemclhlfaaaGreatDoorZ3
import Derived.Test.YtddddemclhlfaaaGreatDoorZ4
import Derived.Test.YtddddemclhlfaaaGreatDoorRows
import Derived.WalkKit
import Derived.WalkSpells
import Derived.WalkLawsBesides
import Derived.Handy
import Derived.Deep.QuietTactic
import Derived.BigQuiet
import Derived.Deep.DeepCutAuto
import Derived.Lib.Hide
import Derived.RegionTactic
import Derived.ChangeAlike
import Derived.Laws.ResultCell
import Derived.Outline
import Derived.Laws.BitsAllLaws
import Derived.Laws.MakeOwn
import Derived.Great.BuildSlice
import Derived.Great.FillDense
import Derived.Laws.Rows
import Derived.Deep.Quiet
import Derived.Deep.RegionHeld3
import Derived.ProofKit
import Derived.OpenShut
import Derived.Laws.CopyOwn
import Derived.Laws.CopyRow
import Derived.Laws.NewBlocks
import Derived.Deep.RegionLaw
namespace Go.Proofs.YtddddemclhlfaaaGreatDoor
open Go.RowKit
section
variable {B g gp : Nat} {wv : Value} {d : Dk} {w : World}
set_option maxRecDepth 100000 in
theorem flip_any (h : DiskB B g gp wv d w) (hb : B ≤ w.heap.size) (s bit : Int) : Calls Tryz.prog 83 #[.pointer (some ⟨g, 0, none⟩), .int .i64 s, .int .i64 bit] w fun e w' => e = .returned (.int .i64 (flipD d s bit).2) ∧ DiskB B g gp wv (flipD d s bit).1 w' ∧ Kt B w w' := by
  have hbA := blw w (Obj.cells #[.int .i64 s] 3)
  have hA := h.below hbA
  have hk := Kt.of hbA hb
  have hq : (w.alloc (Obj.cells #[.int .i64 s] 3)).cell? ⟨w.heap.size, 0, none⟩ = some (.int .i64 s) := blk_cell (heap_alloc_new w _) 0 _ rfl
  have ht := there_1 hA s w.heap.size hq
  have c0 := hA.c0
  have hP := hA.pls
  unfold flipD
  by_cases h0 : thereD d s = 0
  · rw [if_neg (by simpa using h0)]
    rw [h0] at ht
    by_cases hbt : bit < 0
    · rw [if_pos hbt]
      go_enter Tryz.func83, Tryz.ntmps83
      go_wp2_with (go_at_call 77; refine ht.mono ?_; rintro e w1 ⟨rfl, rfl⟩)
      go_ret
      exact ⟨rfl, hA, hk⟩
    · rw [if_neg hbt]
      go_enter Tryz.func83, Tryz.ntmps83
      have hsr := there_in h0
      obtain ⟨k, rfl⟩ : ∃ k : Nat, s = k := ⟨s.toNat, by omega⟩
      have hk2 : k < d.pl.length := by omega
      have hk3 : (k : Int) < d.pl.length := by omega
      have hpk : d.pl[k]? = some d.pl[k] := List.getElem?_eq_getElem hk2
      simp only [Int.toNat_natCast]
      rw [modify_set _ hpk]
      have hok := h.ok _ (List.getElem_mem hk2)
      generalize d.pl[k] = p at *
      obtain ⟨n, hn, hn2⟩ : ∃ n : Nat, bit = (n : Int) ∧ n = bit.toNat := ⟨bit.toNat, by omega, rfl⟩
      obtain ⟨m, hm, hm2⟩ : ∃ m : Nat, n % 512 = m ∧ m < 512 := ⟨_, rfl, Nat.mod_lt _ (by decide)⟩
      have hmt : bit % 512 = (m : Int) := by omega
      rw [← hn2, hm]
      clear hn2
      have HM := Lib.hid hmt
      have hnn : 0 ≤ bit := by omega
      clear hmt hn hm hbt
      obtain ⟨q, hq8, hq64⟩ : ∃ q : Nat, m / 8 = q ∧ q < 64 := ⟨_, rfl, by omega⟩
      obtain ⟨r, hr8, hr64⟩ : ∃ r : Nat, m % 8 = r ∧ r < 8 := ⟨_, rfl, by omega⟩
      unfold turnBit
      rw [hq8, hr8]
      have HQ := Lib.hid (show (m : Int) / 8 = (q : Int) by omega)
      have HR := Lib.hid (show (m : Int).tmod 8 = (r : Int) by rw [Int.tmod_eq_emod_of_nonneg (by omega)]; omega)
      have hw1 : IntKind.i64.wrap (q : Int) = q := by rw [IntKind.wrap_i64]; omega
      have HW := Lib.hid hw1
      have hs8 : IntKind.u8.wrap (2 ^ r : Nat) = ((2 ^ r : Nat) : Int) := by
        have : ∀ r, r < 8 → IntKind.u8.wrap ((2 ^ r : Nat) : Int) = ((2 ^ r : Nat) : Int) := by decide
        exact this r hr64
      have HS8 := Lib.hid hs8
      have hxr : ∀ y : UInt8, bits .xor .u8 (y.toNat : Int) (2 ^ r) = ((UInt8.ofNat (y.toNat ^^^ 2 ^ r)).toNat : Int) := fun y => by
        have h2 : 2 ^ r < 2 ^ 8 := Nat.pow_lt_pow_right (by decide) hr64
        have h3 := Nat.xor_lt_two_pow (n := 8) y.toNat_lt h2
        have h4 := u8_xor_nat y.toNat (2 ^ r) y.toNat_lt h2
        rw [show ((2 ^ r : Nat) : Int) = 2 ^ r by push_cast; rfl] at h4
        rw [h4, UInt8.toNat_ofNat', Nat.mod_eq_of_lt h3]
      have HX := Lib.hid hxr
      clear hxr
      clear hq8 hr8 hw1 hs8
      obtain ⟨y, hy⟩ : ∃ y, p.rest[q]? = some y := ⟨_, List.getElem?_eq_getElem (by rw [hok.1]; exact hq64)⟩
      rw [show p.rest.getD q 0 = y by rw [List.getD_eq_getElem?_getD, hy]; rfl]
      have hcy : (plC p)[q]? = some (.int .u8 y.toNat) := by
        unfold plC
        rw [List.getElem?_append_left (by rw [bys_len, fix64_len]; exact hq64), fix64_of hok.1]
        simp [bys, byv, hy]
      have HY := Lib.hid hy
      clear hy
      go_wp2_with (go_at_call 77; refine ht.mono ?_; rintro e w1 ⟨rfl, rfl⟩)
      rw [HM.out]
      clear hq ht h0 hsr HM c0 hP hnn hbA
      generalize w.alloc (Obj.cells #[.int .i64 (k : Int)] 3) = wq at *
      have hdD := hA.below (Below.refl wq.heap.size wq).drew
      have hkD := hk.trans (Kt.of (Below.refl wq.heap.size wq).drew (Nat.le_trans hb hk.bl.size))
      have hne1 : gp ≠ g := by rintro rfl; have := hdD.box.symm.trans hdD.pls; injection this with this; injection this with _ e; revert e; decide
      refine wp_region_held_drew (S := fun w' => w'.heap[g]? = some (.cells (dkA gp wv d) 102 (0, 0))) (by kernel_rfl) hdD.box (fun hS0 => ?_)
      generalize wq.drew = x0 at *
      refine wpAnyH_take (i := 0) (oi := ⟨_, _, _, _, _, _⟩) (v := ?_) rfl (by kernel_rfl) (by kernel_rfl) (by kernel_rfl) (fun _ _ _ h => h) (Or.inl ⟨by rfl, ?_⟩) (by assumption) ?_
      rotate_left
      · intro wS hSw; go_simp; (try with_reducible rfl)
      (try simp only [Act.put]); (try simp only [List.setIfInBounds_toArray]); (try simp only [List.set_cons_succ]); (try simp only [List.set_cons_zero])
      refine wpAnyH_take (i := 1) (oi := ⟨_, _, _, _, _, _⟩) (v := ?_) rfl (by kernel_rfl) (by kernel_rfl) (by kernel_rfl) (fun _ _ _ h => h) (Or.inl ⟨by rfl, ?_⟩) (by assumption) ?_
      rotate_left
      · intro wS hSw; go_simp; (try with_reducible rfl)
      (try simp only [Act.put]); (try simp only [List.setIfInBounds_toArray]); (try simp only [List.set_cons_succ]); (try simp only [List.set_cons_zero])
      refine wpAnyH_take (i := 2) (oi := ⟨_, _, _, _, _, _⟩) (v := ?_) rfl (by kernel_rfl) (by kernel_rfl) (by kernel_rfl) (fun _ _ _ h => h) (Or.inl ⟨by rfl, ?_⟩) (by assumption) ?_
      rotate_left
      · intro wS hSw; go_simp; (try with_reducible rfl)
      (try simp only [Act.put]); (try simp only [List.setIfInBounds_toArray]); (try simp only [List.set_cons_succ]); (try simp only [List.set_cons_zero])
      refine wpAnyH_take (i := 3) (oi := ⟨_, _, _, _, _, _⟩) (v := ?_) rfl (by kernel_rfl) (by kernel_rfl) (by kernel_rfl) (fun _ _ _ h => h) (Or.inl ⟨by rfl, ?_⟩) (by assumption) ?_
      rotate_left
      · intro wS hSw
        have c := dkA_c0 hSw; go_simp; (try with_reducible rfl)
      (try simp only [Act.put]); (try simp only [List.setIfInBounds_toArray]); (try simp only [List.set_cons_succ]); (try simp only [List.set_cons_zero])
      refine wpAnyH_take (i := 4) (oi := ⟨_, _, _, _, _, _⟩) (v := ?_) rfl (by kernel_rfl) (by kernel_rfl) (by kernel_rfl) (fun _ _ _ h => h) (Or.inl ⟨by rfl, ?_⟩) (by assumption) ?_
      rotate_left
      · intro wS hSw; go_simp; (try with_reducible rfl)
      (try simp only [Act.put]); (try simp only [List.setIfInBounds_toArray]); (try simp only [List.set_cons_succ]); (try simp only [List.set_cons_zero])
      refine wpAnyH_take (i := 5) (oi := ⟨_, _, _, _, _, _⟩) (v := ?_) rfl (by kernel_rfl) (by kernel_rfl) (by kernel_rfl) (fun _ _ _ h => h) (Or.inl ⟨by rfl, ?_⟩) (by assumption) ?_
      rotate_left
      · intro wS hSw; go_simp; (try with_reducible rfl)
      (try simp only [Act.put]); (try simp only [List.setIfInBounds_toArray]); (try simp only [List.set_cons_succ]); (try simp only [List.set_cons_zero])
      refine wpAnyH_take (i := 6) (oi := ⟨_, _, _, _, _, _⟩) (v := .int .i64 (q : Int)) rfl (by kernel_rfl) (by kernel_rfl) (by kernel_rfl) (fun _ _ _ h => h) (Or.inl ⟨by rfl, fun wS hSw => ?_⟩) (by assumption) ?_
      · go_simp; rw [HQ.out, HW.out]
      (try simp only [Act.put]); (try simp only [List.setIfInBounds_toArray]); (try simp only [List.set_cons_succ]); (try simp only [List.set_cons_zero])
      refine wpAnyH_take (i := 7) (oi := ⟨_, _, _, _, _, _⟩) (v := ?_) rfl (by kernel_rfl) (by kernel_rfl) (by kernel_rfl) (fun _ _ _ h => h) (Or.inl ⟨by rfl, ?_⟩) (by assumption) ?_
      rotate_left
      · intro wS hSw; go_simp; (try with_reducible rfl)
      (try simp only [Act.put]); (try simp only [List.setIfInBounds_toArray]); (try simp only [List.set_cons_succ]); (try simp only [List.set_cons_zero])
      refine wpAnyH_take (i := 8) (oi := ⟨_, _, _, _, _, _⟩) (v := ?_) rfl (by kernel_rfl) (by kernel_rfl) (by kernel_rfl) (fun _ _ _ h => h) (Or.inl ⟨by rfl, ?_⟩) (by assumption) ?_
      rotate_left
      · intro wS hSw; go_simp; (try with_reducible rfl)
      (try simp only [Act.put]); (try simp only [List.setIfInBounds_toArray]); (try simp only [List.set_cons_succ]); (try simp only [List.set_cons_zero])
      refine wpAnyH_take (i := 9) (oi := ⟨_, _, _, _, _, _⟩) (v := .pointer (some ⟨gp, k * 129 + q, none⟩)) rfl (by kernel_rfl) (by kernel_rfl) (by kernel_rfl) (fun _ _ _ h => h) (Or.inl ⟨by rfl, fun wS hSw => ?_⟩) (by assumption) ?_
      · go_simp; exact fun hh => absurd hh (by omega)
      (try simp only [Act.put]); (try simp only [List.setIfInBounds_toArray]); (try simp only [List.set_cons_succ]); (try simp only [List.set_cons_zero])
      refine wpAnyH_take (i := 11) (oi := ⟨_, _, _, _, _, _⟩) (v := ?_) rfl (by kernel_rfl) (by kernel_rfl) (by kernel_rfl) (fun _ _ _ h => h) (Or.inl ⟨by rfl, ?_⟩) (by assumption) ?_
      rotate_left
      · intro wS hSw; go_simp; (try with_reducible rfl)
      (try simp only [Act.put]); (try simp only [List.setIfInBounds_toArray]); (try simp only [List.set_cons_succ]); (try simp only [List.set_cons_zero])
      refine wpAnyH_take (i := 12) (oi := ⟨_, _, _, _, _, _⟩) (v := .int .i64 (r : Int)) rfl (by kernel_rfl) (by kernel_rfl) (by kernel_rfl) (fun _ _ _ h => h) (Or.inl ⟨by rfl, fun wS hSw => ?_⟩) (by assumption) ?_
      · go_simp; rw [HR.out]
      (try simp only [Act.put]); (try simp only [List.setIfInBounds_toArray]); (try simp only [List.set_cons_succ]); (try simp only [List.set_cons_zero])
      refine wpAnyH_take (i := 13) (oi := ⟨_, _, _, _, _, _⟩) (v := .int .u8 ((2 ^ r : Nat) : Int)) rfl (by kernel_rfl) (by kernel_rfl) (by kernel_rfl) (fun _ _ _ h => h) (Or.inl ⟨by rfl, fun wS hSw => ?_⟩) (by assumption) ?_
      · go_simp; exact HS8.out
      (try simp only [Act.put]); (try simp only [List.setIfInBounds_toArray]); (try simp only [List.set_cons_succ]); (try simp only [List.set_cons_zero])
      refine wpAnyH_take (i := 15) (oi := ⟨_, _, _, _, _, _⟩) (v := ?_) rfl (by kernel_rfl) (by kernel_rfl) (by kernel_rfl) (fun _ _ _ h => h) (Or.inl ⟨by rfl, ?_⟩) (by assumption) ?_
      rotate_left
      · intro wS hSw; go_simp; (try with_reducible rfl)
      (try simp only [Act.put]); (try simp only [List.setIfInBounds_toArray]); (try simp only [List.set_cons_succ]); (try simp only [List.set_cons_zero])
      refine wpAnyH_take (i := 16) (oi := ⟨_, _, _, _, _, _⟩) (v := ?_) rfl (by kernel_rfl) (by kernel_rfl) (by kernel_rfl) (fun _ _ _ h => h) (Or.inl ⟨by rfl, ?_⟩) (by assumption) ?_
      rotate_left
      · intro wS hSw; go_simp; (try with_reducible rfl)
      (try simp only [Act.put]); (try simp only [List.setIfInBounds_toArray]); (try simp only [List.set_cons_succ]); (try simp only [List.set_cons_zero])
      have hcl : x0.cell? ⟨gp, k * 129 + q, none⟩ = some (.int .u8 y.toNat) := blk_cell hdD.pls _ _ (pls_at hpk hcy)
      refine wpAnyH_ready (rs := [10]) (by kernel_rfl) (by simp) ?_
      refine AllReadyH.cons (o := ⟨_, _, _, _, _, _⟩) rfl (fun K' hK' => ?_) (AllReadyH.nil)
      refine (if_pos (by rfl)).mpr ?_
      refine wp_run (v := .int .u8 y.toNat) (w' := x0) (by go_simp) ?_
      refine hK'.out _ _ hS0 (fun _ => ?_)
      clear hK'
      (try simp only [Act.put]); (try simp only [List.setIfInBounds_toArray]); (try simp only [List.set_cons_succ]); (try simp only [List.set_cons_zero])
      refine wpAnyH_take (i := 14) (oi := ⟨_, _, _, _, _, _⟩) (v := .int .u8 ((UInt8.ofNat (y.toNat ^^^ 2 ^ r)).toNat : Int)) rfl (by kernel_rfl) (by kernel_rfl) (by kernel_rfl) (fun _ _ _ h => h) (Or.inl ⟨by rfl, fun wS hSw => ?_⟩) (by assumption) ?_
      · go_simp; rw [HX.out]; simp
      (try simp only [Act.put]); (try simp only [List.setIfInBounds_toArray]); (try simp only [List.set_cons_succ]); (try simp only [List.set_cons_zero])
      refine wpAnyH_take (i := 17) (oi := ⟨_, _, _, _, _, _⟩) (v := .pointer (some ⟨gp, k * 129 + q, none⟩)) rfl (by kernel_rfl) (by kernel_rfl) (by kernel_rfl) (fun _ _ _ h => h) (Or.inl ⟨by rfl, fun wS hSw => ?_⟩) (by assumption) ?_
      · go_simp; exact fun hh => absurd hh (by omega)
      (try simp only [Act.put]); (try simp only [List.setIfInBounds_toArray]); (try simp only [List.set_cons_succ]); (try simp only [List.set_cons_zero])
      refine wpAnyH_ready (rs := [18]) (by kernel_rfl) (by simp) ?_
      refine AllReadyH.cons (o := ⟨_, _, _, _, _, _⟩) rfl (fun K' hK' => ?_) (AllReadyH.nil)
      refine (if_pos (by rfl)).mpr ?_
      refine wp_stB 5 _ _ ?_
      refine ⟨_, _, _, ⟨_, _, _, Tryz.sizeOf5, rfl, hdD.pls, pls_part (x := .int .u8 ((UInt8.ofNat (y.toNat ^^^ 2 ^ r)).toNat : Int)) (p' := { p with rest := p.rest.set q (UInt8.ofNat (y.toNat ^^^ 2 ^ r)) }) hpk rfl (by omega) (by simp [Value.cells, Value.oneCell']) (pl_bit p hok.1 q hq64 _)⟩, ?_⟩
      intro w6 B6 g6
      have hfin := hdD.sect B6 g6 ⟨by rw [List.length_set]; exact hok.1, hok.2⟩
      refine hK'.out _ _ (tr_st g6 hS0 hne1) (fun _ => ?_)
      refine wpAnyH_done (by kernel_rfl) ?_ _
      go_wp2
      go_ret
      exact ⟨rfl, hfin.1, hkD.trans hfin.2⟩
  · rw [if_pos (by simpa using h0)]
    have h0b : (thereD d s != 0) = true := by simpa using h0
    go_enter Tryz.func83, Tryz.ntmps83
    go_wp2_with (go_at_call 77; refine ht.mono ?_; rintro e w1 ⟨rfl, rfl⟩)
    go_ret
    exact ⟨rfl, hA, hk⟩
end
end Go.Proofs.YtddddemclhlfaaaGreatDoor
namespace Go.Proofs.YtddddemclhlfaaaGreatDoor
open Go.RowKit
theorem infoPl : (Tryz.prog.info? 150).map (fun i => (i.zero.map (·.cells), i.size, i.bytes)) = some (some (plC zeroPl).toArray, 129, 129) := by kernel_rfl
theorem made_pls (s : Nat) : madeCells (plC zeroPl).toArray (s * 129) = plsV (List.replicate s zeroPl) := by
  apply Array.ext_getElem?
  intro k
  by_cases hk : k < s * 129
  · have h1 : (List.replicate s zeroPl)[k / 129]? = some zeroPl := by
      rw [List.getElem?_replicate, if_pos (by omega)]
    have hlt : k % 129 < (plC zeroPl).length := by rw [plC_len]; omega
    have h2 : (plC zeroPl)[k % 129]? = some (plC zeroPl)[k % 129] := List.getElem?_eq_getElem hlt
    have h3 := pls_at h1 h2
    rw [show k / 129 * 129 + k % 129 = k by omega] at h3
    rw [h3]
    unfold madeCells
    have hs : (plC zeroPl).toArray.size = 129 := by rw [List.size_toArray, plC_len]
    rw [Array.getElem?_map, Array.getElem?_range, if_pos hk, hs]
    show some ((plC zeroPl).toArray[k % 129]!) = _
    rw [getElem!_pos _ _ (by rw [hs]; omega)]
    simp
  · rw [Array.getElem?_eq_none (by rw [size_madeCells]; omega), Array.getElem?_eq_none (by rw [plsV_size, List.length_replicate]; omega)]
theorem make_pls (s : Nat) (hs : s ≤ 1024) (w : World) : (Instr.makeSlice 99 (.int .i64 s) (.int .i64 s)).run Tryz.prog w = .ok (.slice (some ⟨w.heap.size, 0, none⟩) s s) (w.alloc (.cells (plsV (List.replicate s zeroPl)) 150)) := by
  obtain ⟨i, hi, h2⟩ := Option.map_eq_some_iff.1 infoPl
  simp only [Prod.mk.injEq] at h2
  obtain ⟨hz, hsz, hb⟩ := h2
  obtain ⟨z, hz, hzc⟩ := Option.map_eq_some_iff.1 hz
  have := run_make (P := Tryz.prog) w 99 150 i z Tryz.underlying99 hi hz .i64 .i64 s s (by omega) (by omega) (by rw [hb]; omega) (by omega)
  rw [hsz, hzc] at this
  simp only [Int.toNat_natCast] at this
  rw [made_pls] at this
  exact this
section
variable {B : Nat} {w : World}
set_option maxRecDepth 100000 in
theorem new_any (s : Nat) (h1 : 1 ≤ s) (h2 : s ≤ 1024) (hB : B ≤ w.heap.size) : Calls Tryz.prog 7 #[.int .i64 s] w fun e w' => (∃ g gp, e = .returned (.tuple #[.pointer (some ⟨g, 0, none⟩), .int .i64 0]) ∧ DiskB B g gp (.slice none 0 0) (newDk s) w') ∧ Below w.heap.size w w' := by
  have hmk := make_pls s h2
  go_enter Tryz.func7, Tryz.ntmps7
  go_wp2
  go_ret2
  have hb1 := blw w (Obj.cells (plsV (List.replicate s zeroPl)) 150)
  have n1 := heap_alloc_new w (Obj.cells (plsV (List.replicate s zeroPl)) 150)
  have hsz : (w.alloc (Obj.cells (plsV (List.replicate s zeroPl)) 150)).heap.size = w.heap.size + 1 := by simp
  generalize w.alloc (Obj.cells (plsV (List.replicate s zeroPl)) 150) = w1 at *
  have hlen : (newDk s).pl.length = s := List.length_replicate
  have e : #[Value.slice (some ⟨w.heap.size, 0, none⟩) s s, .slice none 0 0, .bool false, .bool false, .int .i64 (-1)] = dkA w.heap.size (.slice none 0 0) (newDk s) := by
    unfold dkA
    rw [hlen]
    rfl
  refine ⟨⟨w.heap.size + 1, w.heap.size, rfl, ⟨?_, ?_, World.ownsRow_nil _ _ _ _, by omega, hB, by rw [hlen]; exact h1, by rw [hlen]; exact h2, Int.le_refl _, by show (-1 : Int) ≤ _; omega, ?_, ?_⟩⟩, ?_⟩
  · rw [← e, ← hsz]
    exact heap_alloc_new w1 _
  · exact tr_al _ n1
  · intro p hp
    obtain rfl := List.eq_of_mem_replicate hp
    exact ⟨rfl, rfl⟩
  · intro x hx
    cases hx
  · exact hb1.alloc (by omega) _
end
section
variable {B g gp : Nat} {wv : Value} {d : Dk} {w : World}
set_option maxRecDepth 100000 in
theorem waits_any (h : DiskB B g gp wv d w) : Calls Tryz.prog 36 #[.pointer (some ⟨g, 0, none⟩)] w fun e w' => e = .returned (.int .i64 d.waits.length) ∧ w = w' := by
  obtain ⟨wa, wc, rfl, _, hwl, hwm⟩ := Row.of_owns h.wts
  have h0 : ((d.pl.length : Int) == 0) = false := by have := h.n0; rw [beq_eq_false_iff_ne]; omega
  have c1 := h.c1
  go_enter Tryz.func36, Tryz.ntmps36
  go_wp2_with (go_at_call 46; refine (dsize h).mono ?_; rintro e w1 ⟨rfl, rfl⟩)
  go_ret
  exact ⟨rfl, rfl⟩
end
end Go.Proofs.YtddddemclhlfaaaGreatDoor
namespace Go.Proofs.YtddddemclhlfaaaGreatDoor
open Go.RowKit
abbrev halV : Value := .agg #[.int .u32 0x00000000, .int .u32 0x105ec76f, .int .u32 0x20bd8ede, .int .u32 0x30e349b1, .int .u32 0x417b1dbc, .int .u32 0x5125dad3, .int .u32 0x61c69362, .int .u32 0x7198540d,
  .int .u32 0x82f63b78, .int .u32 0x92a8fc17, .int .u32 0xa24bb5a6, .int .u32 0xb21572c9, .int .u32 0xc38d26c4, .int .u32 0xd3d3e1ab, .int .u32 0xe330a81a, .int .u32 0xf36e6f75]
def halL : List Value := [.int .u32 0x00000000, .int .u32 0x105ec76f, .int .u32 0x20bd8ede, .int .u32 0x30e349b1, .int .u32 0x417b1dbc, .int .u32 0x5125dad3, .int .u32 0x61c69362, .int .u32 0x7198540d,
  .int .u32 0x82f63b78, .int .u32 0x92a8fc17, .int .u32 0xa24bb5a6, .int .u32 0xb21572c9, .int .u32 0xc38d26c4, .int .u32 0xd3d3e1ab, .int .u32 0xe330a81a, .int .u32 0xf36e6f75]
theorem hal_c : ∀ k, k < 16 → halL[k]? = some (.int .u32 (half k : Nat))
  | 0, _ => rfl | 1, _ => rfl | 2, _ => rfl | 3, _ => rfl | 4, _ => rfl | 5, _ => rfl | 6, _ => rfl | 7, _ => rfl
  | 8, _ => rfl | 9, _ => rfl | 10, _ => rfl | 11, _ => rfl | 12, _ => rfl | 13, _ => rfl | 14, _ => rfl | 15, _ => rfl
  | n + 16, h => absurd h (by omega)
set_option maxRecDepth 100000 in
theorem halves_any (w : World) : Calls Tryz.prog 155 #[] w fun e w' => e = .returned halV ∧ Below w.heap.size w w' := by
  go_enter Tryz.func155, Tryz.ntmps155
  go_wp2
  (try simp only [Exit.inBlock, Exit.then])
  refine bodyPost_ret (v := halV) ?hr rfl ⟨rfl, ?_⟩
  case hr =>
    simp only [results, Tryz.results155]
    go_simp
    try rfl
  (repeat' (first | (with_reducible exact Below.refl _ _) | (with_reducible assumption) | (with_reducible refine Below.alloc ?_ ?_ _) | (with_reducible refine Below.drew ?_) | (with_reducible refine below_drewN ?_ _) | (with_reducible refine Below.setCell ?_ ?_ _) | (with_reducible refine Below.trans ?_ (by assumption)) | go_size))
end Go.Proofs.YtddddemclhlfaaaGreatDoor
namespace Go.Proofs.YtddddemclhlfaaaGreatDoor
open Go.RowKit
set_option maxRecDepth 100000 in
theorem rin_any (r b : Nat) (w : World) (hr : r < 4294967296) (hb : b < 2) : Calls Tryz.prog 143 #[.int .u32 (r : Int), .int .u32 (b : Int)] w fun e w' => e = .returned (.int .u32 (inR r b : Nat)) ∧ w = w' := by
  have hx := u32_xor_nat (r / 2) 2197175160 (by omega) (by decide)
  rw [show ((r / 2 : Nat) : Int) = (r : Int) / 2 by omega] at hx
  obtain ⟨p, hp, hp2⟩ : ∃ p : Nat, r % 2 = p ∧ p < 2 := ⟨_, rfl, by omega⟩
  have e1 : (r : Int) % 2 = (p : Int) := by omega
  have e2 : (r : Int).tmod 2 = (p : Int) := by rw [Int.tmod_eq_emod_of_nonneg (by omega)]; exact e1
  have E2 := Lib.hid e2
  unfold inR
  rw [hp]
  by_cases h : p = b
  · subst h
    rw [if_pos rfl]
    clear hp hx e2
    go_enter Tryz.func143, Tryz.ntmps143
    go_wp2
    go_ret
    exact ⟨ret_int (by omega), rfl⟩
  · rw [if_neg h]
    have hne : ((p : Int) == (b : Int)) = false := by rw [beq_eq_false_iff_ne]; omega
    have HX := Lib.hid hx
    clear hp h hx e2
    go_enter Tryz.func143, Tryz.ntmps143
    go_wp2
    go_ret
    exact ⟨ret_int HX.out, rfl⟩
theorem u32_flip {r : Nat} (h : r < 4294967296) : ((r ^^^ ones : Nat) : Int) = 4294967295 - (r : Int) := by
  have e : r ^^^ ones = 2 ^ 32 - (r + 1) := by
    apply Nat.eq_of_testBit_eq
    intro i
    rw [Nat.testBit_two_pow_sub_succ (by omega), Nat.testBit_xor, show ones = 2 ^ 32 - 1 from rfl, Nat.testBit_two_pow_sub_one]
    by_cases hi : i < 32
    · simp [hi]
    · have : r.testBit i = false := Nat.testBit_lt_two_pow (Nat.lt_of_lt_of_le (show r < 2 ^ 32 by omega) (Nat.pow_le_pow_right (by decide) (by omega)))
      simp [hi, this]
  rw [e]
  omega
theorem runC_snoc2 (r : Nat) (l : List UInt8) (j : Nat) (h : j < l.length) : runC r (l.take (j + 1)) = stepC (runC r (l.take j)) l[j] := by
  rw [List.take_succ_eq_append_getElem h, runC_app]
  rfl
set_option maxRecDepth 100000 in
set_option maxHeartbeats 1000000 in
theorem rextend_any (a : Option Addr) (cap : Nat) (l : List UInt8) (w : World) (hs : SlB w a cap l) : Calls Tryz.prog 127 #[.int .u32 0, .slice a l.length cap] w fun e w' => e = .returned (.int .u32 (crcS l : Nat)) ∧ w = w' := by
  have hmx := hs.max
  have hle := hs.le
  unfold maxLen at hmx
  obtain ⟨z, hz⟩ : ∃ z, crcS l = z := ⟨_, rfl⟩
  rw [hz]
  have HZ := Lib.hid hz
  clear hz
  go_enter Tryz.func127, Tryz.ntmps127
  refine wp_seq_k (fun K hK => ?_)
  have HK := Lib.hid hK
  clear hK
  go_wp2
  refine HK.out _ _ ?_
  clear HK
  refine wp_seq_k (fun K hK => ?_)
  have HK := Lib.hid hK
  clear hK
  go_wp2
  refine HK.out _ _ ?_
  clear HK
  refine wp_seq_k (fun K hK => ?_)
  have HK := Lib.hid hK
  clear hK
  go_wp2_with fail
  go_loopw [6, 5, 7, 8] (fun i r _ _ wr => ∃ j : Nat, j ≤ l.length ∧ i = .int .i64 (j : Nat) ∧ r = .int .u32 (runC ones (l.take j) : Nat) ∧ wr = w) (fun i _ _ _ _ => l.length - (intOf i).toNat)
  case atStart => exact ⟨0, by omega, rfl, rfl, rfl⟩
  case round =>
    obtain ⟨j, hj, rfl, rfl, rfl⟩ := hrel
    have hlt0 := runC_lt (l.take j) (r := ones) (by decide)
    by_cases hlt : j < l.length
    case neg =>
      obtain rfl : j = l.length := by omega
      rw [List.take_length] at hlt0 ⊢
      have hfl := u32_flip hlt0
      have hcr : z = runC ones l ^^^ ones := by rw [← HZ.out]; rfl
      subst hcr
      have HFL := Lib.hid hfl
      clear hfl HZ
      generalize runC ones l = r at *
      go_wp2
      refine HK.out _ _ ?_
      clear HK
      go_wp2
      go_ret
      exact ⟨ret_int (by rw [HFL.out]), rfl⟩
    case pos =>
      obtain ⟨b, off, rfl, hc⟩ := hs.row.byte hlt
      have hsn := Lib.hid (runC_snoc2 ones l j hlt)
      generalize l[j] = x at *
      have hx := x.toNat_lt
      generalize runC ones (l.take j) = r at *
      refine wp_seq_k (fun K hK => ?_)
      have HK := Lib.hid hK
      clear hK
      go_wp2
      refine HK.out _ _ ?_
      clear HK
      refine wp_seq_k (fun K2 hK2 => ?_)
      have HK2 := Lib.hid hK2
      clear hK2
      refine wp_block ?_
      refine wp_seq_k (fun K hK => ?_)
      have HK := Lib.hid hK
      clear hK
      go_wp2
      refine HK.out _ _ ?_
      clear HK
      refine wp_seq_k (fun K hK => ?_)
      have HK := Lib.hid hK
      clear hK
      go_wp2
      refine HK.out _ _ ?_
      clear HK
      go_wp2_with fail
      go_loopw [8, 5, 7] (fun i rr xx wq => ∃ k rk xk : Nat, k ≤ 8 ∧ i = .int .i64 (k : Nat) ∧ rr = .int .u32 (rk : Nat) ∧ xx = .int .u32 (xk : Nat) ∧ rk < 4294967296 ∧ xk < 256 ∧ Hid (xk < 2 ^ (8 - k)) ∧ Hid (rk ^^^ xk = halfs k (r ^^^ x.toNat)) ∧ wq = wr) (fun i _ _ _ => 8 - (intOf i).toNat)
      case atStart => exact ⟨0, r, x.toNat, by omega, rfl, rfl, rfl, hlt0, by omega, Lib.hid (by simpa using hx), Lib.hid rfl, rfl⟩
      case round =>
        obtain ⟨k, rk, xk, hk, rfl, rfl, rfl, hrk, hxk, hxp, hst, rfl⟩ := hrel
        by_cases hk8 : k < 8
        case pos =>
          have hin := rin_any rk (xk % 2) wr hrk (by omega)
          have hst2 := Lib.hid (inR_step hst.out)
          have hlt2 := inR_lt (b := xk % 2) hrk
          have hxp2 := Lib.hid (show xk / 2 < 2 ^ (8 - (k + 1)) by
            have h1 := hxp.out
            rw [show 8 - k = 8 - (k + 1) + 1 by omega, Nat.pow_succ] at h1
            omega)
          obtain ⟨p, hp, hp2⟩ : ∃ p : Nat, xk % 2 = p ∧ p < 2 := ⟨_, rfl, by omega⟩
          rw [hp] at hin hst2 hlt2
          have e1 : (xk : Int) % 2 = (p : Int) := by omega
          have e2 : (xk : Int).tmod 2 = (p : Int) := by rw [Int.tmod_eq_emod_of_nonneg (by omega)]; exact e1
          clear hp hst hxp
          generalize inR rk p = r2 at *
          go_wp2_with (go_at_call 143; refine hin.mono ?_; rintro e w3 ⟨rfl, rfl⟩)
          go_roundw
          case rel => exact ⟨k + 1, r2, xk / 2, by omega, by go_num, rfl, by first | rfl | (exact int_eq (by omega)), hlt2, by omega, hxp2, hst2, by first | trivial | rfl⟩
          case measure => simp [intOf]; omega
        case neg =>
          obtain rfl : k = 8 := by omega
          have hx0 : xk = 0 := by have := hxp.out; simpa using this
          subst hx0
          have hfin := Lib.hid (show rk = runC ones (l.take (j + 1)) by
            rw [hsn.out, ← halfs_8, ← hst.out, Nat.xor_zero])
          clear hxp hst
          go_wp2
          (try simp only [Exit.inBlock, Exit.then])
          refine HK2.out _ _ ?_
          clear HK2
          go_wp2
          go_roundw
          case rel => exact ⟨j + 1, by omega, by go_num, by rw [hfin.out], by first | trivial | rfl⟩
          case measure => simp [intOf]; omega
set_option maxRecDepth 100000 in
theorem rsum_any (a : Option Addr) (cap : Nat) (l : List UInt8) (w : World) (hs : SlB w a cap l) : Calls Tryz.prog 91 #[.slice a l.length cap] w fun e w' => e = .returned (.int .u32 (crcS l : Nat)) ∧ w = w' := by
  go_enter Tryz.func91, Tryz.ntmps91
  go_wp2_with (go_at_call 127; refine (rextend_any a cap l _ hs).mono ?_; rintro e w1 ⟨rfl, rfl⟩)
  go_ret
  exact ⟨rfl, rfl⟩
end Go.Proofs.YtddddemclhlfaaaGreatDoor
namespace Go.Proofs.YtddddemclhlfaaaGreatDoor
structure Live (d : Dk) : Prop where
  len : d.pl.length = 156
  w : d.waits = []
  dn : d.down = false
  de : d.dead = false
section
variable {d : Dk} {t : Tg} {body : List UInt8} {k : Nat}
theorem seal64 (t : Tg) {body : List UInt8} (hb : body.length ≤ 43) : (sealF t body 64).length = 64 := sealF_len (by decide) (by simpa [roomN] using hb)
end
abbrev Vo := Option (Int × Int × List UInt8)
def okO : Vo → Prop
  | none => True
  | some (v, i, b) => 1 ≤ v ∧ v ≤ 1099511627776 ∧ 1 ≤ i ∧ i ≤ 1099511627776 ∧ b.length ≤ 43
def frO (reg : Int) (i : Int) : Vo → List UInt8
  | none => zeros64
  | some (v, c, b) => sealF ⟨0, reg, i, v, c⟩ b 64
def verO : Vo → Int
  | none => 0
  | some (v, _, _) => v
def bodO : Vo → List UInt8
  | none => []
  | some (_, _, b) => b
structure Cel (d : Dk) (reg : Int) (o0 o1 : Vo) : Prop where
  r : reg = 1 ∨ reg = 2
  k0 : okO o0
  k1 : okO o1
  p0 : ∃ m, d.pl[(firstN reg 0).toNat]? = some ⟨frO reg 0 o0, m, false⟩
  p1 : ∃ m, d.pl[(firstN reg 1).toNat]? = some ⟨frO reg 1 o1, m, false⟩
def coO (reg i : Int) : Vo → Cp
  | none => ⟨0, zeroTg, []⟩
  | some (v, c, b) => ⟨1, ⟨0, reg, i, v, c⟩, b⟩
def maxO (o0 o1 : Vo) : Vo := if verO o0 < verO o1 then o1 else o0
end Go.Proofs.YtddddemclhlfaaaGreatDoor
namespace Go.Proofs.YtddddemclhlfaaaGreatDoor
section
variable {d : Dk} {k j : Nat}
end
def putP (d : Dk) (k : Nat) (f : List UInt8) : Dk := { d with pl := d.pl.set k ⟨f, f, false⟩, waits := [], left := (if 0 < d.left then d.left - 2 else d.left) }
/-! Places of a cell. -/
def secC (reg : Int) (i : Nat) : Nat := (if reg = 1 then 0 else 2) + i
theorem sec_first {reg : Int} (hr : reg = 1 ∨ reg = 2) {i : Nat} (hi : i < 2) : firstN reg (i : Int) = ((secC reg i : Nat) : Int) ∧ secC reg i < 4 := by
  rcases hr with rfl | rfl <;> rcases (show i = 0 ∨ i = 1 by omega) with rfl | rfl <;> decide
def cop (d : Dk) (rep reg : Int) (i : Nat) : Cp := ⟨(mineF (readD d (secC reg i)).1 rep reg i).1, (mineF (readD d (secC reg i)).1 rep reg i).2.1, (mineF (readD d (secC reg i)).1 rep reg i).2.2⟩
theorem copy_cop {d : Dk} {rep reg : Int} (hr : reg = 1 ∨ reg = 2) : copyC d rep reg 0 = cop d rep reg 0 ∧ copyC d rep reg 1 = cop d rep reg 1 := by
  have a := (sec_first hr (i := 0) (by omega)).1
  have b := (sec_first hr (i := 1) (by omega)).1
  constructor
  · unfold copyC cop
    rw [← a]
    rfl
  · unfold copyC cop
    rw [← b]
    rfl
theorem cop_frame {d : Dk} {rep reg v c : Int} {b : List UInt8} {i : Nat} {e : Int} (h : readD d (secC reg i) = (sealF ⟨rep, reg, i, v, c⟩ b 64, e)) (hm : mayTg ⟨rep, reg, i, v, c⟩ = true) (hb : b.length ≤ 43) : cop d rep reg i = ⟨1, ⟨rep, reg, i, v, c⟩, b⟩ := by
  unfold cop
  rw [h]
  simp only
  have := mine_seal (n := 64) hm (by decide) (show b.length ≤ roomN 64 from hb)
  simp only at this
  rw [this]
theorem cop_zero {d : Dk} {rep reg : Int} {i : Nat} {e : Int} (h : readD d (secC reg i) = (zeros64, e)) : cop d rep reg i = ⟨0, zeroTg, []⟩ := by
  unfold cop
  rw [h]
  rfl
theorem may_cell2 {rep reg v c : Int} {i : Nat} (hp : 0 ≤ rep ∧ rep ≤ 6) (hr : reg = 1 ∨ reg = 2) (hi : i < 2) (h1 : 0 ≤ v) (h2 : v ≤ 1099511627776) (h3 : 1 ≤ c) (h4 : c ≤ 1099511627776) : mayTg ⟨rep, reg, i, v, c⟩ = true := by
  have hpl : placesN reg = 2 := by rcases hr with rfl | rfl <;> rfl
  have a2 : ((i : Nat) : Int) < 2 := by omega
  simp [mayTg, hpl, hp.1, hp.2, a2, h1, h2, h3, h4]
theorem open_live {d : Dk} {rep reg : Int} (h : Live d) (hp : 0 ≤ rep ∧ rep ≤ 6) (hr : reg = 1 ∨ reg = 2) : openC d rep reg = 0 := by
  have hu : upD d = true := by unfold upD; rw [h.len, h.dn, h.de]; rfl
  unfold openC
  rw [h.len, hu]
  have a : ¬ rep < 0 := by omega
  have b : ¬ 7 ≤ rep := by omega
  rcases hr with rfl | rfl <;> simp [a, b]
theorem load_live {d : Dk} {rep reg : Int} (h : Live d) (hp : 0 ≤ rep ∧ rep ≤ 6) (hr : reg = 1 ∨ reg = 2) : loadC d rep reg = if (loadedC (cop d rep reg 0) (cop d rep reg 1)).2.1 = false then (0, [], (loadedC (cop d rep reg 0) (cop d rep reg 1)).2.2) else ((pickC (cop d rep reg 0) (cop d rep reg 1)).tg.idx, (pickC (cop d rep reg 0) (cop d rep reg 1)).body, 0) := by
  unfold loadC
  rw [open_live h hp hr, (copy_cop hr).1, (copy_cop hr).2]
  simp
/-! A store: where there is power for all of it. -/
def firstP (c0 c1 : Cp) : Nat := if (loadedC c0 c1).2.1 = true then 1 - (loadedC c0 c1).1 else 0
theorem loaded_lt (c0 c1 : Cp) : (loadedC c0 c1).1 < 2 := by
  unfold loadedC
  split
  · simp
  · split
    · simp
    · split <;> simp
section
variable {d : Dk} {rep reg inc : Int} {body : List UInt8}
end
end Go.Proofs.YtddddemclhlfaaaGreatDoor
namespace Go.Proofs.YtddddemclhlfaaaGreatDoor
def rdP (pl : List Pl) (j : Nat) : List UInt8 × Int := match pl[j]? with | none => ([], 2) | some p => if p.lost = true then ([], 50) else (p.rest, 0)
def anew (d : Dk) (keep : List Bool) : Dk := ⟨thruD d.pl d.waits 0 (keepB keep), [], false, false, -1⟩
theorem thru_len : ∀ (l : List (List UInt8 × Nat)) (pl : List Pl) (k : Nat) (is : Nat → Bool), (thruD pl l k is).length = pl.length
  | [], _, _, _ => rfl
  | (b, s) :: l, pl, k, is => by
    simp only [thruD]
    rw [thru_len l]
    split
    · rw [List.length_set]
    · rfl
section
variable {d : Dk} {rep reg inc v : Int} {body : List UInt8}
def fraC (rep reg v inc : Int) (body : List UInt8) (i : Nat) : List UInt8 := sealF ⟨rep, reg, i, v, inc⟩ body 64
def twoP (d : Dk) (rep reg v inc : Int) (body : List UInt8) (f : Nat) : Dk × Int :=
  if (putC d ⟨rep, reg, (f : Nat), v, inc⟩ body).2 ≠ 0 then putC d ⟨rep, reg, (f : Nat), v, inc⟩ body else putC (putC d ⟨rep, reg, (f : Nat), v, inc⟩ body).1 ⟨rep, reg, ((1 - f : Nat) : Int), v, inc⟩ body
end
end Go.Proofs.YtddddemclhlfaaaGreatDoor
namespace Go.Proofs.YtddddemclhlfaaaGreatDoor
def hurtB (d : Dk) (s : Int) : Bool := decide ((restD d s).2.2 = 0) && ((restD d s).2.1 || !decide ((restD d s).1 = (meantD d s).1))
def rangeI (f t : Nat) : List Int := (List.range' f (t - f)).map (fun (s : Nat) => (s : Int))
def hurtsL (d : Dk) (f t : Nat) : List Int := (rangeI f t).filter (hurtB d)
def askN (n : Nat) (rep reg pla : Int) : Int := if n = 0 then 1 else if n < 156 ∨ rep < 0 ∨ 7 ≤ rep ∨ firstN reg pla < 0 then 2 else 0
def askG (d : Dk) (rep reg pla : Int) : Int := askN d.pl.length rep reg pla
def allG (f : Int → List UInt8) (a n : Nat) : List UInt8 := (List.range n).flatMap (fun (k : Nat) => f ((a + k : Nat) : Int))
def goneG (d : Dk) (a n : Nat) : Bool := (List.range n).any (fun (k : Nat) => (restD d ((a + k : Nat) : Int)).2.1)
def isHurt (d : Dk) (a n : Nat) : Bool := !(hurtsL d a (a + n)).isEmpty
def allR (d : Dk) (a n : Nat) : List UInt8 := allG (fun s => (restD d s).1) a n
def allM (d : Dk) (a n : Nat) : List UInt8 := allG (fun s => (meantD d s).1) a n
def placeG (d : Dk) (rep reg pla : Int) : Bool × Bool × Int :=
  if askG d rep reg pla ≠ 0 then (false, false, askG d rep reg pla) else
  (isHurt d (firstN reg pla).toNat (wideN reg).toNat, isHurt d (firstN reg pla).toNat (wideN reg).toNat && (goneG d (firstN reg pla).toNat (wideN reg).toNat || decide ((mineF (allR d (firstN reg pla).toNat (wideN reg).toNat) rep reg pla).1 = 2)), 0)
def honG (d : Dk) (rep reg pla : Int) : (Nat × Tg × List UInt8) × Int :=
  if askG d rep reg pla ≠ 0 then ((0, zeroTg, []), askG d rep reg pla) else
  (mineF (allM d (firstN reg pla).toNat (wideN reg).toNat) rep reg pla, 0)
def seenP (d : Dk) (rep : Int) (reg : Nat) (n : Nat) : Bool := (List.range n).all (fun (p : Nat) => (placeG d rep reg p).1 == (placeG d rep reg p).2.1)
def seenR (d : Dk) (rep : Int) (n : Nat) : Bool := (List.range n).all (fun (r : Nat) => seenP d rep (r + 1) (placesN ((r + 1 : Nat) : Int)).toNat)
def seenG (d : Dk) (rep : Int) : Bool × Int := if askG d rep 1 0 ≠ 0 then (false, askG d rep 1 0) else (seenR d rep 5, 0)
end Go.Proofs.YtddddemclhlfaaaGreatDoor
