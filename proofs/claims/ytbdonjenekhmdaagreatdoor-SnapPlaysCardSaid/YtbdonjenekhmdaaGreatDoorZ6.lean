/- Texts that the claim leans on, part 6: D23, D24a, D24, D25, D26, D27, D28, D29. -/
import Derived.Test.YtbdonjenekhmdaaGreatDoorZ1
import Derived.Test.YtbdonjenekhmdaaGreatDoorZ2
import Derived.Test.YtbdonjenekhmdaaGreatDoorZ3
import Derived.Test.YtbdonjenekhmdaaGreatDoorZ4
import Derived.Test.YtbdonjenekhmdaaGreatDoorZ5
import Derived.Test.YtbdonjenekhmdaaGreatDoorRows
import Derived.WalkKit
import Derived.WalkSpells
import Derived.WalkLawsBesides
import Derived.Handy
import Derived.Deep.QuietTactic
import Derived.BigQuiet
import Derived.Deep.DeepCutAuto
import Derived.Lib.Hide
import Derived.RegionTactic
import Derived.ChangeAlike
import Derived.Laws.ResultCell
import Derived.Laws.MakeOwn
import Derived.Outline
import Derived.Laws.BitsAllLaws
import Derived.Great.BuildSlice
import Derived.Great.FillDense
import Derived.Laws.Rows
import Derived.Deep.Quiet
import Derived.Deep.RegionHeld3
import Derived.ProofKit
import Derived.OpenShut
import Derived.Deep.RegionHeld
import Derived.Laws.CopyOwn
import Derived.Laws.CopyRow
import Derived.Laws.NewBlocks
import Derived.Deep.RegionLaw
namespace Go.Proofs.YtbdonjenekhmdaaGreatDoor
open Go.RowKit
theorem infoPl : (Tryz.prog.info? 255).map (fun i => (i.zero.map (·.cells), i.size, i.bytes)) = some (some (plC zeroPl).toArray, 129, 129) := by kernel_rfl
theorem made_pls (s : Nat) : madeCells (plC zeroPl).toArray (s * 129) = plsV (List.replicate s zeroPl) := by
 apply Array.ext_getElem?
 intro k
 by_cases hk : k < s * 129
 ·have h1 : (List.replicate s zeroPl)[k / 129]? = some zeroPl := by
   rw [List.getElem?_replicate, if_pos (by omega)]
  have hlt : k % 129 < (plC zeroPl).length := by rw [plC_len]; omega
  have h2 : (plC zeroPl)[k % 129]? = some (plC zeroPl)[k % 129] := List.getElem?_eq_getElem hlt
  have h3 := pls_at h1 h2
  rw [show k / 129 * 129 + k % 129 = k by omega] at h3
  rw [h3]
  unfold madeCells
  have hs : (plC zeroPl).toArray.size = 129 := by rw [List.size_toArray, plC_len]
  rw [Array.getElem?_map, Array.getElem?_range, if_pos hk, hs]
  show some ((plC zeroPl).toArray[k % 129]!) = _
  rw [getElem!_pos _ _ (by rw [hs]; omega)]
  simp
 ·rw [Array.getElem?_eq_none (by rw [size_madeCells]; omega), Array.getElem?_eq_none (by rw [plsV_size, List.length_replicate]; omega)]
theorem make_pls (s : Nat) (hs : s ≤ 1024) (w : World) : (Instr.makeSlice 92 (.int .i64 s) (.int .i64 s)).run Tryz.prog w = .ok (.slice (some ⟨w.heap.size, 0, none⟩) s s) (w.alloc (.cells (plsV (List.replicate s zeroPl)) 255)) := by
 obtain ⟨i, hi, h2⟩ := Option.map_eq_some_iff.1 infoPl
 simp only [Prod.mk.injEq] at h2
 obtain ⟨hz, hsz, hb⟩ := h2
 obtain ⟨z, hz, hzc⟩ := Option.map_eq_some_iff.1 hz
 have := run_make (P := Tryz.prog) w 92 255 i z Tryz.underlying92 hi hz .i64 .i64 s s (by omega) (by omega) (by rw [hb]; omega) (by omega)
 rw [hsz, hzc] at this
 simp only [Int.toNat_natCast] at this
 rw [made_pls] at this
 exact this
section
variable {B : Nat} {w : World}
set_option maxRecDepth 100000 in
theorem new_any (s : Nat) (h1 : 1 ≤ s) (h2 : s ≤ 1024) (hB : B ≤ w.heap.size) : Calls Tryz.prog 6 #[.int .i64 s] w fun e w' => (∃ g gp, e = .returned (.tuple #[.pointer (some ⟨g, 0, none⟩), .int .i64 0]) ∧ DiskB B g gp (.slice none 0 0) (newDk s) w') ∧ Below w.heap.size w w' := by
 have hmk := make_pls s h2
 go_enter Tryz.func6, Tryz.ntmps6
 go_wp2
 go_ret2
 have hb1 := blw w (Obj.cells (plsV (List.replicate s zeroPl)) 255)
 have n1 := heap_alloc_new w (Obj.cells (plsV (List.replicate s zeroPl)) 255)
 have hsz : (w.alloc (Obj.cells (plsV (List.replicate s zeroPl)) 255)).heap.size = w.heap.size + 1 := by simp
 generalize w.alloc (Obj.cells (plsV (List.replicate s zeroPl)) 255) = w1 at *
 have hlen : (newDk s).pl.length = s := List.length_replicate
 have e : #[Value.slice (some ⟨w.heap.size, 0, none⟩) s s, .slice none 0 0, .bool false, .bool false, .int .i64 (-1)] = dkA w.heap.size (.slice none 0 0) (newDk s) := by
  unfold dkA
  rw [hlen]
  rfl
 refine ⟨⟨w.heap.size + 1, w.heap.size, rfl, ⟨?_, ?_, World.ownsRow_nil _ _ _ _, by omega, hB, by rw [hlen]; exact h1, by rw [hlen]; exact h2, Int.le_refl _, by show (-1 : Int) ≤ _; omega, ?_, ?_⟩⟩, ?_⟩
 ·rw [← e, ← hsz]
  exact heap_alloc_new w1 _
 ·exact tr_al _ n1
 ·intro p hp
  obtain rfl := List.eq_of_mem_replicate hp
  exact ⟨rfl, rfl⟩
 ·intro x hx
  cases hx
 ·exact hb1.alloc (by omega) _
end
section
variable {B g gp : Nat} {wv : Value} {d : Dk} {w : World}
set_option maxRecDepth 100000 in
theorem waits_any (h : DiskB B g gp wv d w) : Calls Tryz.prog 18 #[.pointer (some ⟨g, 0, none⟩)] w fun e w' => e = .returned (.int .i64 d.waits.length) ∧ w = w' := by
 obtain ⟨wa, wc, rfl, _, hwl, hwm⟩ := Row.of_owns h.wts
 have h0 : ((d.pl.length : Int) == 0) = false := by have := h.n0; rw [beq_eq_false_iff_ne]; omega
 have c1 := h.c1
 go_enter Tryz.func18, Tryz.ntmps18
 go_wp2_with (go_at_call 33; refine (dsize h).mono ?_; rintro e w1 ⟨rfl, rfl⟩)
 go_ret
 exact ⟨rfl, rfl⟩
end
end Go.Proofs.YtbdonjenekhmdaaGreatDoor
namespace Go.Proofs.YtbdonjenekhmdaaGreatDoor
open Go.RowKit
abbrev halV : Value := .agg #[.int .u32 0x00000000, .int .u32 0x105ec76f, .int .u32 0x20bd8ede, .int .u32 0x30e349b1, .int .u32 0x417b1dbc, .int .u32 0x5125dad3, .int .u32 0x61c69362, .int .u32 0x7198540d,
 .int .u32 0x82f63b78, .int .u32 0x92a8fc17, .int .u32 0xa24bb5a6, .int .u32 0xb21572c9, .int .u32 0xc38d26c4, .int .u32 0xd3d3e1ab, .int .u32 0xe330a81a, .int .u32 0xf36e6f75]
def halL : List Value := [.int .u32 0x00000000, .int .u32 0x105ec76f, .int .u32 0x20bd8ede, .int .u32 0x30e349b1, .int .u32 0x417b1dbc, .int .u32 0x5125dad3, .int .u32 0x61c69362, .int .u32 0x7198540d,
 .int .u32 0x82f63b78, .int .u32 0x92a8fc17, .int .u32 0xa24bb5a6, .int .u32 0xb21572c9, .int .u32 0xc38d26c4, .int .u32 0xd3d3e1ab, .int .u32 0xe330a81a, .int .u32 0xf36e6f75]
theorem hal_c : ∀ k, k < 16 → halL[k]? = some (.int .u32 (half k : Nat))
 | 0, _ => rfl | 1, _ => rfl | 2, _ => rfl | 3, _ => rfl | 4, _ => rfl | 5, _ => rfl | 6, _ => rfl | 7, _ => rfl
 | 8, _ => rfl | 9, _ => rfl | 10, _ => rfl | 11, _ => rfl | 12, _ => rfl | 13, _ => rfl | 14, _ => rfl | 15, _ => rfl
 | n + 16, h => absurd h (by omega)
set_option maxRecDepth 100000 in
theorem halves_any (w : World) : Calls Tryz.prog 227 #[] w fun e w' => e = .returned halV ∧ Below w.heap.size w w' := by
 go_enter Tryz.func227, Tryz.ntmps227
 go_wp2
 (try simp only [Exit.inBlock, Exit.then])
 refine bodyPost_ret (v := halV) ?hr rfl ⟨rfl, ?_⟩
 case hr =>
  simp only [results, Tryz.results227]
  go_simp
  try rfl
 (repeat' (first | (with_reducible exact Below.refl _ _) | (with_reducible assumption) | (with_reducible refine Below.alloc ?_ ?_ _) | (with_reducible refine Below.drew ?_) | (with_reducible refine below_drewN ?_ _) | (with_reducible refine Below.setCell ?_ ?_ _) | (with_reducible refine Below.trans ?_ (by assumption)) | go_size))
end Go.Proofs.YtbdonjenekhmdaaGreatDoor
namespace Go.Proofs.YtbdonjenekhmdaaGreatDoor
open Go.RowKit
theorem runC_snoc (r : Nat) (l : List UInt8) (j : Nat) (h : j < l.length) : runC r (l.take (j + 1)) = stepC (runC r (l.take j)) l[j] := by
 rw [List.take_succ_eq_append_getElem h, runC_app]
 rfl
theorem nib_bits (r k : Nat) (h : r < 4294967296) (hk : r % 16 = k) : bits .xor .u32 ((r : Int) / 16) (half k : Nat) = ((nib r : Nat) : Int) ∧ bits .and .u32 (r : Int) 15 = (k : Int) := by
 constructor
 ·have h2 : half k < 4294967296 := half_lt _ (by omega)
  have := u32_xor_nat (r / 16) (half k) (by omega) h2
  rw [show ((r / 16 : Nat) : Int) = (r : Int) / 16 by omega] at this
  rw [this, ← hk]
  rfl
 ·have := u32_and_nat r 15 h (by decide)
  rw [nat_mask4, hk] at this
  exact this
set_option maxRecDepth 100000 in
set_option maxHeartbeats 4000000 in
theorem extend_any (a : Option Addr) (cap : Nat) (l : List UInt8) (w : World) (hs : SlB w a cap l) : Calls Tryz.prog 213 #[.int .u32 0, .slice a l.length cap] w fun e w' => e = .returned (.int .u32 (crcS l : Nat)) ∧ Below w.heap.size w w' := by
 have hmx := hs.max
 have hle := hs.le
 unfold maxLen at hmx
 go_enter Tryz.func213, Tryz.ntmps213
 refine seqH (fun K HK => ?_)
 go_wp2
 refine HK.out _ _ ?_
 clear HK
 refine seqH (fun K HK => ?_)
 go_wp2_with (go_at_call 227; refine (halves_any _).mono ?_; rintro e w1 ⟨rfl, hb1⟩)
 refine HK.out _ _ ?_
 clear HK
 have hcell : ∀ k, k < 16 → (w1.alloc (.cells halL.toArray 304)).cell? ⟨w1.heap.size, k, none⟩ = some (.int .u32 (half k : Nat)) := fun k hk => by
  rw [cell_new, List.getElem?_toArray]
  exact hal_c k hk
 have hb2 : Below w.heap.size w (w1.alloc (.cells halL.toArray 304)) := hb1.trans ((blw w1 _).mono hb1.size)
 change Code.wp _ _ _ _ (w1.alloc (.cells halL.toArray 304))
 generalize w1.alloc (.cells halL.toArray 304) = w2 at *
 generalize w1.heap.size = tb at *
 have HC := Lib.hid hcell
 clear hcell
 have hsg : IntKind.u32.signed = false := rfl
 have hn0 : bits .xor .u32 IntKind.u32.max 0 = ((4294967295 : Nat) : Int) := by decide
 refine seqH (fun K HK => ?_)
 go_wp2
 refine HK.out _ _ ?_
 clear HK
 clear hn0
 refine seqH (fun K HK => ?_)
 go_wp2_with fail
 go_loopw [14, 6, 8] (fun i r _ wr => ∃ j : Nat, j ≤ l.length ∧ i = .int .i64 (j : Nat) ∧ r = .int .u32 (runC ones (l.take j) : Nat) ∧ wr = w2) (fun i _ _ _ => l.length - (intOf i).toNat)
 case atStart => exact ⟨0, by omega, rfl, rfl, rfl⟩
 case round =>
  obtain ⟨j, hj, rfl, rfl, rfl⟩ := hrel
  have hlt0 := runC_lt (l.take j) (r := ones) (by decide)
  by_cases hlt : j < l.length
  case pos =>
   obtain ⟨b, off, rfl, hc⟩ := (hs.row.below0 hb2).byte hlt
   have hsn := Lib.hid (runC_snoc ones l j hlt)
   generalize l[j] = x at *
   have hx := x.toNat_lt
   generalize runC ones (l.take j) = r at *
   obtain ⟨r1, hr1⟩ : ∃ r1, r ^^^ x.toNat = r1 := ⟨_, rfl⟩
   have hl1 : r1 < 4294967296 := by rw [← hr1]; exact Nat.xor_lt_two_pow (n := 32) hlt0 (by omega)
   have hx1 : bits .xor .u32 (r : Int) (x.toNat : Int) = (r1 : Int) := by rw [u32_xor_nat r x.toNat hlt0 (by omega), hr1]
   obtain ⟨k1, hk1, hk1l⟩ : ∃ k, r1 % 16 = k ∧ k < 16 := ⟨_, rfl, by omega⟩
   obtain ⟨hx2, ha1⟩ := nib_bits r1 k1 hl1 hk1
   have hl2 := nib_lt hl1
   obtain ⟨r2, hr2⟩ : ∃ r2, nib r1 = r2 := ⟨_, rfl⟩
   rw [hr2] at hx2 hl2
   obtain ⟨k2, hk2, hk2l⟩ : ∃ k, r2 % 16 = k ∧ k < 16 := ⟨_, rfl, by omega⟩
   obtain ⟨hx3, ha2⟩ := nib_bits r2 k2 hl2 hk2
   obtain ⟨r3, hr3⟩ : ∃ r3, nib r2 = r3 := ⟨_, rfl⟩
   rw [hr3] at hx3
   have hst : stepC r x = r3 := by unfold stepC; rw [hr1, hr2, hr3]
   have HS := Lib.hid (hsn.out.trans hst)
   have hc1 := HC.out k1 hk1l
   have hc2 := HC.out k2 hk2l
   clear hr1 hk1 hr2 hk2 hr3 hst hsn
   go_wp2
   go_roundw
   case rel => exact ⟨j + 1, by omega, by go_num, by rw [HS.out], trivial⟩
   case measure => simp [intOf]; omega
  case neg =>
   obtain rfl : j = l.length := by omega
   have hcr : bits .xor .u32 IntKind.u32.max (runC ones l : Nat) = ((crcS l : Nat) : Int) := by
    have h1 := runC_lt l (r := ones) (by decide)
    have h2 := u32_xor_nat 4294967295 (runC ones l) (by decide) h1
    rw [show IntKind.u32.max = ((4294967295 : Nat) : Int) by decide, h2, Nat.xor_comm]
    rfl
   rw [List.take_length]
   generalize runC ones l = r at *
   generalize crcS l = z at *
   go_wp2
   refine HK.out _ _ ?_
   clear HK
   go_wp2
   go_ret
   exact ⟨rfl, hb2⟩
set_option maxRecDepth 100000 in
theorem sum_any (a : Option Addr) (cap : Nat) (l : List UInt8) (w : World) (hs : SlB w a cap l) : Calls Tryz.prog 180 #[.slice a l.length cap] w fun e w' => e = .returned (.int .u32 (crcS l : Nat)) ∧ Below w.heap.size w w' := by
 go_enter Tryz.func180, Tryz.ntmps180
 go_wp2_with (go_at_call 213; refine (extend_any a cap l _ hs).mono ?_; rintro e w1 ⟨rfl, hb1⟩)
 go_ret
 exact ⟨rfl, hb1⟩
end Go.Proofs.YtbdonjenekhmdaaGreatDoor
namespace Go.Proofs.YtbdonjenekhmdaaGreatDoor
open Go.RowKit
def ofV (n : Int) : Value := .agg #[.int .i64 (placesN n), .int .i64 (wideN n)]
theorem ofV_out {n : Int} (h : n < 1 ∨ 5 < n) : ofV n = .agg #[.int .i64 0, .int .i64 0] := by
 unfold ofV placesN wideN
 rw [if_neg (by omega), if_neg (by omega), if_neg (by omega), if_neg (by omega), if_neg (by omega), if_neg (by omega), if_neg (by omega), if_neg (by omega), if_neg (by omega), if_neg (by omega)]
theorem st2 (x y a b : Int) : 0 + 2 ≤ (#[Value.int .i64 x, .int .i64 y]).size ∧ (Value.agg #[.int .i64 a, .int .i64 b]).cells.size = 2 ∧ (∀ u ∈ (Value.agg #[.int .i64 a, .int .i64 b]).cells.toList, u.oneCell' = true) ∧ ((#[Value.int .i64 x, .int .i64 y]).toList.take 0 ++ (Value.agg #[.int .i64 a, .int .i64 b]).cells.toList ++ (#[Value.int .i64 x, .int .i64 y]).toList.drop (0 + 2)).toArray = #[.int .i64 a, .int .i64 b] :=
 ⟨Nat.le_refl 2, rfl, by simp [Value.cells, Value.oneCell'], rfl⟩
set_option maxRecDepth 100000 in
set_option maxHeartbeats 4000000 in
theorem of_any (n : Int) (w : World) : Calls Tryz.prog 140 #[.int .i64 n] w fun e w' => e = .returned (ofV n) ∧ Below w.heap.size w w' := by
 by_cases h0 : n < 0
 ·rw [ofV_out (by omega)]
  go_enter Tryz.func140, Tryz.ntmps140
  refine seqH (fun K HK => ?_)
  go_wp2
  refine HK.out _ _ ?_
  clear HK
  refine seqH (fun K HK => ?_)
  go_wp2_with (go_at_call 169; refine (regions_any _).mono ?_; rintro e w1 ⟨rfl, hb1⟩)
  refine HK.out _ _ ?_
  clear HK
  have hB1 := tr_bl hb1 (heap_alloc_new w (Obj.cells #[.int .i64 0, .int .i64 0] 221))
  have hb2 : Below w.heap.size w w1 := (blw w _).trans (hb1.mono (blw w _).size)
  have hs1 := hb2.size
  go_wp2_with ((with_reducible refine wpList_stB 221 _ _ ?_); refine ⟨_, _, _, ⟨_, _, _, Tryz.sizeOf221, rfl, tr_al _ hB1, st2 0 0 0 0⟩, ?_⟩; intro w5 B5 g5)
  refine bodyPost_ret (results_c1 rfl rfl (run_loadVar_all Tryz.isAgg221 Tryz.sizeOf221 B5 rfl)) rfl ⟨rfl, ?_⟩
  exact bl_st (hb2.alloc hs1 _) g5 (by simp; omega) (Nat.le_refl _)
 ·by_cases h6 : 6 ≤ n
  ·rw [ofV_out (by omega)]
   go_enter Tryz.func140, Tryz.ntmps140
   refine seqH (fun K HK => ?_)
   go_wp2
   refine HK.out _ _ ?_
   clear HK
   refine seqH (fun K HK => ?_)
   go_wp2_with (go_at_call 169; refine (regions_any _).mono ?_; rintro e w1 ⟨rfl, hb1⟩)
   refine HK.out _ _ ?_
   clear HK
   have hB1 := tr_bl hb1 (heap_alloc_new w (Obj.cells #[.int .i64 0, .int .i64 0] 221))
   have hb2 : Below w.heap.size w w1 := (blw w _).trans (hb1.mono (blw w _).size)
   have hs1 := hb2.size
   go_wp2_with ((with_reducible refine wpList_stB 221 _ _ ?_); refine ⟨_, _, _, ⟨_, _, _, Tryz.sizeOf221, rfl, tr_al _ hB1, st2 0 0 0 0⟩, ?_⟩; intro w5 B5 g5)
   refine bodyPost_ret (results_c1 rfl rfl (run_loadVar_all Tryz.isAgg221 Tryz.sizeOf221 B5 rfl)) rfl ⟨rfl, ?_⟩
   exact bl_st (hb2.alloc hs1 _) g5 (by simp; omega) (Nat.le_refl _)
  ·have h : n = 0 ∨ n = 1 ∨ n = 2 ∨ n = 3 ∨ n = 4 ∨ n = 5 := by omega
   rcases h with rfl | rfl | rfl | rfl | rfl | rfl
   ·rw [show ofV 0 = .agg #[.int .i64 0, .int .i64 0] from rfl]
    go_enter Tryz.func140, Tryz.ntmps140
    refine seqH (fun K HK => ?_)
    go_wp2
    refine HK.out _ _ ?_
    clear HK
    refine seqH (fun K HK => ?_)
    go_wp2_with (go_at_call 169; refine (regions_any _).mono ?_; rintro e w1 ⟨rfl, hb1⟩)
    refine HK.out _ _ ?_
    clear HK
    have hB1 := tr_bl hb1 (heap_alloc_new w (Obj.cells #[.int .i64 0, .int .i64 0] 221))
    have hb2 : Below w.heap.size w w1 := (blw w _).trans (hb1.mono (blw w _).size)
    have hs1 := hb2.size
    go_wp2_with ((with_reducible refine wpList_stB 221 _ _ ?_); refine ⟨_, _, _, ⟨_, _, _, Tryz.sizeOf221, rfl, tr_al _ hB1, st2 0 0 0 0⟩, ?_⟩; intro w5 B5 g5)
    refine bodyPost_ret (results_c1 rfl rfl (run_loadVar_all Tryz.isAgg221 Tryz.sizeOf221 B5 rfl)) rfl ⟨rfl, ?_⟩
    exact bl_st (hb2.alloc hs1 _) g5 (by simp; omega) (Nat.le_refl _)
   ·rw [show ofV 1 = .agg #[.int .i64 2, .int .i64 1] from rfl]
    go_enter Tryz.func140, Tryz.ntmps140
    refine seqH (fun K HK => ?_)
    go_wp2
    refine HK.out _ _ ?_
    clear HK
    refine seqH (fun K HK => ?_)
    go_wp2_with (go_at_call 169; refine (regions_any _).mono ?_; rintro e w1 ⟨rfl, hb1⟩)
    refine HK.out _ _ ?_
    clear HK
    have hB1 := tr_bl hb1 (heap_alloc_new w (Obj.cells #[.int .i64 0, .int .i64 0] 221))
    have hb2 : Below w.heap.size w w1 := (blw w _).trans (hb1.mono (blw w _).size)
    have hs1 := hb2.size
    go_wp2_with ((with_reducible refine wpList_stB 221 _ _ ?_); refine ⟨_, _, _, ⟨_, _, _, Tryz.sizeOf221, rfl, tr_al _ hB1, st2 0 0 2 1⟩, ?_⟩; intro w5 B5 g5)
    refine bodyPost_ret (results_c1 rfl rfl (run_loadVar_all Tryz.isAgg221 Tryz.sizeOf221 B5 rfl)) rfl ⟨rfl, ?_⟩
    exact bl_st (hb2.alloc hs1 _) g5 (by simp; omega) (Nat.le_refl _)
   ·rw [show ofV 2 = .agg #[.int .i64 2, .int .i64 1] from rfl]
    go_enter Tryz.func140, Tryz.ntmps140
    refine seqH (fun K HK => ?_)
    go_wp2
    refine HK.out _ _ ?_
    clear HK
    refine seqH (fun K HK => ?_)
    go_wp2_with (go_at_call 169; refine (regions_any _).mono ?_; rintro e w1 ⟨rfl, hb1⟩)
    refine HK.out _ _ ?_
    clear HK
    have hB1 := tr_bl hb1 (heap_alloc_new w (Obj.cells #[.int .i64 0, .int .i64 0] 221))
    have hb2 : Below w.heap.size w w1 := (blw w _).trans (hb1.mono (blw w _).size)
    have hs1 := hb2.size
    go_wp2_with ((with_reducible refine wpList_stB 221 _ _ ?_); refine ⟨_, _, _, ⟨_, _, _, Tryz.sizeOf221, rfl, tr_al _ hB1, st2 0 0 2 1⟩, ?_⟩; intro w5 B5 g5)
    refine bodyPost_ret (results_c1 rfl rfl (run_loadVar_all Tryz.isAgg221 Tryz.sizeOf221 B5 rfl)) rfl ⟨rfl, ?_⟩
    exact bl_st (hb2.alloc hs1 _) g5 (by simp; omega) (Nat.le_refl _)
   ·rw [show ofV 3 = .agg #[.int .i64 24, .int .i64 1] from rfl]
    go_enter Tryz.func140, Tryz.ntmps140
    refine seqH (fun K HK => ?_)
    go_wp2
    refine HK.out _ _ ?_
    clear HK
    refine seqH (fun K HK => ?_)
    go_wp2_with (go_at_call 169; refine (regions_any _).mono ?_; rintro e w1 ⟨rfl, hb1⟩)
    refine HK.out _ _ ?_
    clear HK
    have hB1 := tr_bl hb1 (heap_alloc_new w (Obj.cells #[.int .i64 0, .int .i64 0] 221))
    have hb2 : Below w.heap.size w w1 := (blw w _).trans (hb1.mono (blw w _).size)
    have hs1 := hb2.size
    go_wp2_with ((with_reducible refine wpList_stB 221 _ _ ?_); refine ⟨_, _, _, ⟨_, _, _, Tryz.sizeOf221, rfl, tr_al _ hB1, st2 0 0 24 1⟩, ?_⟩; intro w5 B5 g5)
    refine bodyPost_ret (results_c1 rfl rfl (run_loadVar_all Tryz.isAgg221 Tryz.sizeOf221 B5 rfl)) rfl ⟨rfl, ?_⟩
    exact bl_st (hb2.alloc hs1 _) g5 (by simp; omega) (Nat.le_refl _)
   ·rw [show ofV 4 = .agg #[.int .i64 48, .int .i64 2] from rfl]
    go_enter Tryz.func140, Tryz.ntmps140
    refine seqH (fun K HK => ?_)
    go_wp2
    refine HK.out _ _ ?_
    clear HK
    refine seqH (fun K HK => ?_)
    go_wp2_with (go_at_call 169; refine (regions_any _).mono ?_; rintro e w1 ⟨rfl, hb1⟩)
    refine HK.out _ _ ?_
    clear HK
    have hB1 := tr_bl hb1 (heap_alloc_new w (Obj.cells #[.int .i64 0, .int .i64 0] 221))
    have hb2 : Below w.heap.size w w1 := (blw w _).trans (hb1.mono (blw w _).size)
    have hs1 := hb2.size
    go_wp2_with ((with_reducible refine wpList_stB 221 _ _ ?_); refine ⟨_, _, _, ⟨_, _, _, Tryz.sizeOf221, rfl, tr_al _ hB1, st2 0 0 48 2⟩, ?_⟩; intro w5 B5 g5)
    refine bodyPost_ret (results_c1 rfl rfl (run_loadVar_all Tryz.isAgg221 Tryz.sizeOf221 B5 rfl)) rfl ⟨rfl, ?_⟩
    exact bl_st (hb2.alloc hs1 _) g5 (by simp; omega) (Nat.le_refl _)
   ·rw [show ofV 5 = .agg #[.int .i64 16, .int .i64 2] from rfl]
    go_enter Tryz.func140, Tryz.ntmps140
    refine seqH (fun K HK => ?_)
    go_wp2
    refine HK.out _ _ ?_
    clear HK
    refine seqH (fun K HK => ?_)
    go_wp2_with (go_at_call 169; refine (regions_any _).mono ?_; rintro e w1 ⟨rfl, hb1⟩)
    refine HK.out _ _ ?_
    clear HK
    have hB1 := tr_bl hb1 (heap_alloc_new w (Obj.cells #[.int .i64 0, .int .i64 0] 221))
    have hb2 : Below w.heap.size w w1 := (blw w _).trans (hb1.mono (blw w _).size)
    have hs1 := hb2.size
    go_wp2_with ((with_reducible refine wpList_stB 221 _ _ ?_); refine ⟨_, _, _, ⟨_, _, _, Tryz.sizeOf221, rfl, tr_al _ hB1, st2 0 0 16 2⟩, ?_⟩; intro w5 B5 g5)
    refine bodyPost_ret (results_c1 rfl rfl (run_loadVar_all Tryz.isAgg221 Tryz.sizeOf221 B5 rfl)) rfl ⟨rfl, ?_⟩
    exact bl_st (hb2.alloc hs1 _) g5 (by simp; omega) (Nat.le_refl _)
set_option maxRecDepth 100000 in
theorem places_any (n : Int) (w : World) : Calls Tryz.prog 192 #[.int .i64 n] w fun e w' => e = .returned (.int .i64 (placesN n)) ∧ Below w.heap.size w w' := by
 have ho := of_any n
 unfold ofV at ho
 have hf : ∀ (x y : Int) (w : World), (Instr.field 221 (.agg #[.int .i64 x, .int .i64 y]) 0).run Tryz.prog w = .ok (.int .i64 x) w := fun x y w => by kernel_rfl
 go_enter Tryz.func192, Tryz.ntmps192
 go_wp2_with (go_at_call 140; refine (ho _).mono ?_; rintro e w1 ⟨rfl, hb1⟩)
 go_ret
 exact ⟨rfl, hb1⟩
set_option maxRecDepth 100000 in
theorem wide_any (n : Int) (w : World) : Calls Tryz.prog 111 #[.int .i64 n] w fun e w' => e = .returned (.int .i64 (wideN n)) ∧ Below w.heap.size w w' := by
 have ho := of_any n
 unfold ofV at ho
 have hf : ∀ (x y : Int) (w : World), (Instr.field 221 (.agg #[.int .i64 x, .int .i64 y]) 1).run Tryz.prog w = .ok (.int .i64 y) w := fun x y w => by kernel_rfl
 go_enter Tryz.func111, Tryz.ntmps111
 go_wp2_with (go_at_call 140; refine (ho _).mono ?_; rintro e w1 ⟨rfl, hb1⟩)
 go_ret
 exact ⟨rfl, hb1⟩
end Go.Proofs.YtbdonjenekhmdaaGreatDoor
namespace Go.Proofs.YtbdonjenekhmdaaGreatDoor
open Go.RowKit
set_option maxRecDepth 100000 in
set_option maxHeartbeats 8000000 in
theorem start_in (c : Nat) (h1 : 1 ≤ c) (h5 : c ≤ 5) (w : World) : Calls Tryz.prog 96 #[.int .i64 (c : Int)] w fun e w' => e = .returned (.int .i64 (startN c)) ∧ Below w.heap.size w w' := by
  have i0 : ∀ w, (Instr.index 246 regV (.int .i64 0)).run Tryz.prog w = .ok (.agg #[.int .i64 0, .int .i64 0]) w := fun _ => by kernel_rfl
  have i1 : ∀ w, (Instr.index 246 regV (.int .i64 1)).run Tryz.prog w = .ok (.agg #[.int .i64 2, .int .i64 1]) w := fun _ => by kernel_rfl
  have i2 : ∀ w, (Instr.index 246 regV (.int .i64 2)).run Tryz.prog w = .ok (.agg #[.int .i64 2, .int .i64 1]) w := fun _ => by kernel_rfl
  have i3 : ∀ w, (Instr.index 246 regV (.int .i64 3)).run Tryz.prog w = .ok (.agg #[.int .i64 24, .int .i64 1]) w := fun _ => by kernel_rfl
  have i4 : ∀ w, (Instr.index 246 regV (.int .i64 4)).run Tryz.prog w = .ok (.agg #[.int .i64 48, .int .i64 2]) w := fun _ => by kernel_rfl
  have i5 : ∀ w, (Instr.index 246 regV (.int .i64 5)).run Tryz.prog w = .ok (.agg #[.int .i64 16, .int .i64 2]) w := fun _ => by kernel_rfl
  go_enter Tryz.func96, Tryz.ntmps96
  refine seqH (fun K HK => ?_)
  go_wp2
  refine HK.out _ _ ?_
  clear HK
  refine seqH (fun K HK => ?_)
  go_wp2
  refine HK.out _ _ ?_
  clear HK
  go_wp2_with (go_at_call 169; refine (regions_any _).mono ?_; rintro e w1 ⟨rfl, hb1⟩)
  go_loopw [3, 7] (fun t i wr => ∃ k : Nat, k ≤ c ∧ i = .int .i64 k ∧ t = .int .i64 (atP k) ∧ Below w.heap.size w wr) (fun _ i _ => 6 - (intOf i).toNat)
  case atStart => exact ⟨0, by omega, rfl, rfl, hb1⟩
  case round =>
    obtain ⟨k, hk, rfl, rfl, hbr⟩ := hrel
    have hbs := hbr.size
    have h7 : k = 0 ∨ k = 1 ∨ k = 2 ∨ k = 3 ∨ k = 4 ∨ k = 5 := by omega
    rcases h7 with rfl | rfl | rfl | rfl | rfl | rfl
    · have ha : atP 0 = 0 := rfl
      rw [ha]
      by_cases hkc : c = 0
      · first
        | (exfalso; omega)
        | (subst hkc
           go_wp2
           go_ret
           exact ⟨rfl, by (repeat' (first | (with_reducible exact Below.refl _ _) | (with_reducible assumption) | (with_reducible refine Below.alloc ?_ ?_ _) | (with_reducible refine Below.drew ?_) | (with_reducible refine below_drewN ?_ _) | (with_reducible refine Below.setCell ?_ ?_ _) | (with_reducible refine Below.trans ?_ (by assumption)) | go_size))⟩)
      · have hne : ((0 : Int) == (c : Int)) = false := by rw [beq_eq_false_iff_ne]; omega
        have hk1 : 0 + 1 ≤ c := by omega
        go_wp2
        go_roundw
        case rel => exact ⟨0 + 1, hk1, by rfl, by rfl, by (repeat' (first | (with_reducible exact Below.refl _ _) | (with_reducible assumption) | (with_reducible refine Below.alloc ?_ ?_ _) | (with_reducible refine Below.drew ?_) | (with_reducible refine below_drewN ?_ _) | (with_reducible refine Below.setCell ?_ ?_ _) | (with_reducible refine Below.trans ?_ (by assumption)) | go_size))⟩
        case measure => simp [intOf]
    · have ha : atP 1 = 0 := rfl
      rw [ha]
      by_cases hkc : c = 1
      · first
        | (exfalso; omega)
        | (subst hkc
           go_wp2
           go_ret
           exact ⟨rfl, by (repeat' (first | (with_reducible exact Below.refl _ _) | (with_reducible assumption) | (with_reducible refine Below.alloc ?_ ?_ _) | (with_reducible refine Below.drew ?_) | (with_reducible refine below_drewN ?_ _) | (with_reducible refine Below.setCell ?_ ?_ _) | (with_reducible refine Below.trans ?_ (by assumption)) | go_size))⟩)
      · have hne : ((1 : Int) == (c : Int)) = false := by rw [beq_eq_false_iff_ne]; omega
        have hk1 : 1 + 1 ≤ c := by omega
        go_wp2
        go_roundw
        case rel => exact ⟨1 + 1, hk1, by rfl, by rfl, by (repeat' (first | (with_reducible exact Below.refl _ _) | (with_reducible assumption) | (with_reducible refine Below.alloc ?_ ?_ _) | (with_reducible refine Below.drew ?_) | (with_reducible refine below_drewN ?_ _) | (with_reducible refine Below.setCell ?_ ?_ _) | (with_reducible refine Below.trans ?_ (by assumption)) | go_size))⟩
        case measure => simp [intOf]
    · have ha : atP 2 = 2 := rfl
      rw [ha]
      by_cases hkc : c = 2
      · first
        | (exfalso; omega)
        | (subst hkc
           go_wp2
           go_ret
           exact ⟨rfl, by (repeat' (first | (with_reducible exact Below.refl _ _) | (with_reducible assumption) | (with_reducible refine Below.alloc ?_ ?_ _) | (with_reducible refine Below.drew ?_) | (with_reducible refine below_drewN ?_ _) | (with_reducible refine Below.setCell ?_ ?_ _) | (with_reducible refine Below.trans ?_ (by assumption)) | go_size))⟩)
      · have hne : ((2 : Int) == (c : Int)) = false := by rw [beq_eq_false_iff_ne]; omega
        have hk1 : 2 + 1 ≤ c := by omega
        go_wp2
        go_roundw
        case rel => exact ⟨2 + 1, hk1, by rfl, by rfl, by (repeat' (first | (with_reducible exact Below.refl _ _) | (with_reducible assumption) | (with_reducible refine Below.alloc ?_ ?_ _) | (with_reducible refine Below.drew ?_) | (with_reducible refine below_drewN ?_ _) | (with_reducible refine Below.setCell ?_ ?_ _) | (with_reducible refine Below.trans ?_ (by assumption)) | go_size))⟩
        case measure => simp [intOf]
    · have ha : atP 3 = 4 := rfl
      rw [ha]
      by_cases hkc : c = 3
      · first
        | (exfalso; omega)
        | (subst hkc
           go_wp2
           go_ret
           exact ⟨rfl, by (repeat' (first | (with_reducible exact Below.refl _ _) | (with_reducible assumption) | (with_reducible refine Below.alloc ?_ ?_ _) | (with_reducible refine Below.drew ?_) | (with_reducible refine below_drewN ?_ _) | (with_reducible refine Below.setCell ?_ ?_ _) | (with_reducible refine Below.trans ?_ (by assumption)) | go_size))⟩)
      · have hne : ((3 : Int) == (c : Int)) = false := by rw [beq_eq_false_iff_ne]; omega
        have hk1 : 3 + 1 ≤ c := by omega
        go_wp2
        go_roundw
        case rel => exact ⟨3 + 1, hk1, by rfl, by rfl, by (repeat' (first | (with_reducible exact Below.refl _ _) | (with_reducible assumption) | (with_reducible refine Below.alloc ?_ ?_ _) | (with_reducible refine Below.drew ?_) | (with_reducible refine below_drewN ?_ _) | (with_reducible refine Below.setCell ?_ ?_ _) | (with_reducible refine Below.trans ?_ (by assumption)) | go_size))⟩
        case measure => simp [intOf]
    · have ha : atP 4 = 28 := rfl
      rw [ha]
      by_cases hkc : c = 4
      · first
        | (exfalso; omega)
        | (subst hkc
           go_wp2
           go_ret
           exact ⟨rfl, by (repeat' (first | (with_reducible exact Below.refl _ _) | (with_reducible assumption) | (with_reducible refine Below.alloc ?_ ?_ _) | (with_reducible refine Below.drew ?_) | (with_reducible refine below_drewN ?_ _) | (with_reducible refine Below.setCell ?_ ?_ _) | (with_reducible refine Below.trans ?_ (by assumption)) | go_size))⟩)
      · have hne : ((4 : Int) == (c : Int)) = false := by rw [beq_eq_false_iff_ne]; omega
        have hk1 : 4 + 1 ≤ c := by omega
        go_wp2
        go_roundw
        case rel => exact ⟨4 + 1, hk1, by rfl, by rfl, by (repeat' (first | (with_reducible exact Below.refl _ _) | (with_reducible assumption) | (with_reducible refine Below.alloc ?_ ?_ _) | (with_reducible refine Below.drew ?_) | (with_reducible refine below_drewN ?_ _) | (with_reducible refine Below.setCell ?_ ?_ _) | (with_reducible refine Below.trans ?_ (by assumption)) | go_size))⟩
        case measure => simp [intOf]
    · have ha : atP 5 = 124 := rfl
      rw [ha]
      obtain rfl : c = 5 := by omega
      go_wp2
      go_ret
      exact ⟨rfl, by (repeat' (first | (with_reducible exact Below.refl _ _) | (with_reducible assumption) | (with_reducible refine Below.alloc ?_ ?_ _) | (with_reducible refine Below.drew ?_) | (with_reducible refine below_drewN ?_ _) | (with_reducible refine Below.setCell ?_ ?_ _) | (with_reducible refine Below.trans ?_ (by assumption)) | go_size))⟩
theorem firstN_out {n p : Int} (h : n < 1 ∨ 5 < n) : firstN n p = -1 := by
  have h0 : placesN n = 0 := by
    unfold placesN
    rw [if_neg (by omega), if_neg (by omega), if_neg (by omega), if_neg (by omega), if_neg (by omega)]
  unfold firstN
  rw [if_pos (.inl h0)]
set_option maxRecDepth 100000 in
set_option maxHeartbeats 8000000 in
theorem first_any (n p : Int) (w : World) : Calls Tryz.prog 63 #[.int .i64 n, .int .i64 p] w fun e w' => e = .returned (.int .i64 (firstN n p)) ∧ Below w.heap.size w w' := by
  by_cases ho : n < 1 ∨ 5 < n
  · rw [firstN_out ho]
    have ho := of_any n
    rw [ofV_out (by assumption)] at ho
    go_enter Tryz.func63, Tryz.ntmps63
    go_wp2_with (go_at_call 140; refine (ho _).mono ?_; rintro e w1 ⟨rfl, hb1⟩; have hs1 := hb1.size)
    go_ret
    exact ⟨rfl, by (repeat' (first | (with_reducible exact Below.refl _ _) | (with_reducible assumption) | (with_reducible refine Below.alloc ?_ ?_ _) | (with_reducible refine Below.drew ?_) | (with_reducible refine below_drewN ?_ _) | (with_reducible refine Below.setCell ?_ ?_ _) | (with_reducible refine Below.trans ?_ (by assumption)) | go_size))⟩
  · have h : n = 1 ∨ n = 2 ∨ n = 3 ∨ n = 4 ∨ n = 5 := by omega
    rcases h with rfl | rfl | rfl | rfl | rfl
    · skip
      have ho := of_any 1
      rw [show ofV 1 = .agg #[.int .i64 2, .int .i64 1] from rfl] at ho
      have hw := wide_any 1
      rw [show wideN 1 = 1 from rfl] at hw
      have hst := start_in 1 (by omega) (by omega)
      rw [show startN ((1 : Nat) : Int) = 0 from rfl] at hst
      by_cases hp0 : p < 0
      · rw [show firstN 1 p = -1 by unfold firstN; rw [if_pos (.inr (.inl hp0))]]
        go_enter Tryz.func63, Tryz.ntmps63
        go_wp2_with (go_at_call 140; refine (ho _).mono ?_; rintro e w1 ⟨rfl, hb1⟩; have hs1 := hb1.size)
        go_ret
        exact ⟨rfl, by (repeat' (first | (with_reducible exact Below.refl _ _) | (with_reducible assumption) | (with_reducible refine Below.alloc ?_ ?_ _) | (with_reducible refine Below.drew ?_) | (with_reducible refine below_drewN ?_ _) | (with_reducible refine Below.setCell ?_ ?_ _) | (with_reducible refine Below.trans ?_ (by assumption)) | go_size))⟩
      · by_cases hp1 : 2 ≤ p
        · rw [show firstN 1 p = -1 by unfold firstN; rw [if_pos (.inr (.inr (by rw [show placesN 1 = 2 from rfl]; exact hp1)))]]
          go_enter Tryz.func63, Tryz.ntmps63
          go_wp2_with (go_at_call 140; refine (ho _).mono ?_; rintro e w1 ⟨rfl, hb1⟩; have hs1 := hb1.size)
          go_ret
          exact ⟨rfl, by (repeat' (first | (with_reducible exact Below.refl _ _) | (with_reducible assumption) | (with_reducible refine Below.alloc ?_ ?_ _) | (with_reducible refine Below.drew ?_) | (with_reducible refine below_drewN ?_ _) | (with_reducible refine Below.setCell ?_ ?_ _) | (with_reducible refine Below.trans ?_ (by assumption)) | go_size))⟩
        · rw [show firstN 1 p = 0 + p * 1 by unfold firstN; rw [if_neg (by rw [show placesN 1 = 2 from rfl]; omega)]; rfl]
          go_enter Tryz.func63, Tryz.ntmps63
          go_wp2_with (first
            | (go_at_call 140; refine (ho _).mono ?_; rintro e w1 ⟨rfl, hb1⟩; have hs1 := hb1.size)
            | (go_at_call 96; refine (hst _).mono ?_; rintro e w2 ⟨rfl, hb2⟩; have hs2 := hb2.size)
            | (go_at_call 111; refine (hw _).mono ?_; rintro e w3 ⟨rfl, hb3⟩; have hs3 := hb3.size))
          go_ret
          exact ⟨ret_int (by omega), ((hb1.trans ((blw w1 _).mono hs1)).trans (hb2.mono (by simp; omega))).trans (hb3.mono (by simp at hs2; omega))⟩
    · skip
      have ho := of_any 2
      rw [show ofV 2 = .agg #[.int .i64 2, .int .i64 1] from rfl] at ho
      have hw := wide_any 2
      rw [show wideN 2 = 1 from rfl] at hw
      have hst := start_in 2 (by omega) (by omega)
      rw [show startN ((2 : Nat) : Int) = 2 from rfl] at hst
      by_cases hp0 : p < 0
      · rw [show firstN 2 p = -1 by unfold firstN; rw [if_pos (.inr (.inl hp0))]]
        go_enter Tryz.func63, Tryz.ntmps63
        go_wp2_with (go_at_call 140; refine (ho _).mono ?_; rintro e w1 ⟨rfl, hb1⟩; have hs1 := hb1.size)
        go_ret
        exact ⟨rfl, by (repeat' (first | (with_reducible exact Below.refl _ _) | (with_reducible assumption) | (with_reducible refine Below.alloc ?_ ?_ _) | (with_reducible refine Below.drew ?_) | (with_reducible refine below_drewN ?_ _) | (with_reducible refine Below.setCell ?_ ?_ _) | (with_reducible refine Below.trans ?_ (by assumption)) | go_size))⟩
      · by_cases hp1 : 2 ≤ p
        · rw [show firstN 2 p = -1 by unfold firstN; rw [if_pos (.inr (.inr (by rw [show placesN 2 = 2 from rfl]; exact hp1)))]]
          go_enter Tryz.func63, Tryz.ntmps63
          go_wp2_with (go_at_call 140; refine (ho _).mono ?_; rintro e w1 ⟨rfl, hb1⟩; have hs1 := hb1.size)
          go_ret
          exact ⟨rfl, by (repeat' (first | (with_reducible exact Below.refl _ _) | (with_reducible assumption) | (with_reducible refine Below.alloc ?_ ?_ _) | (with_reducible refine Below.drew ?_) | (with_reducible refine below_drewN ?_ _) | (with_reducible refine Below.setCell ?_ ?_ _) | (with_reducible refine Below.trans ?_ (by assumption)) | go_size))⟩
        · rw [show firstN 2 p = 2 + p * 1 by unfold firstN; rw [if_neg (by rw [show placesN 2 = 2 from rfl]; omega)]; rfl]
          go_enter Tryz.func63, Tryz.ntmps63
          go_wp2_with (first
            | (go_at_call 140; refine (ho _).mono ?_; rintro e w1 ⟨rfl, hb1⟩; have hs1 := hb1.size)
            | (go_at_call 96; refine (hst _).mono ?_; rintro e w2 ⟨rfl, hb2⟩; have hs2 := hb2.size)
            | (go_at_call 111; refine (hw _).mono ?_; rintro e w3 ⟨rfl, hb3⟩; have hs3 := hb3.size))
          go_ret
          exact ⟨ret_int (by omega), ((hb1.trans ((blw w1 _).mono hs1)).trans (hb2.mono (by simp; omega))).trans (hb3.mono (by simp at hs2; omega))⟩
    · skip
      have ho := of_any 3
      rw [show ofV 3 = .agg #[.int .i64 24, .int .i64 1] from rfl] at ho
      have hw := wide_any 3
      rw [show wideN 3 = 1 from rfl] at hw
      have hst := start_in 3 (by omega) (by omega)
      rw [show startN ((3 : Nat) : Int) = 4 from rfl] at hst
      by_cases hp0 : p < 0
      · rw [show firstN 3 p = -1 by unfold firstN; rw [if_pos (.inr (.inl hp0))]]
        go_enter Tryz.func63, Tryz.ntmps63
        go_wp2_with (go_at_call 140; refine (ho _).mono ?_; rintro e w1 ⟨rfl, hb1⟩; have hs1 := hb1.size)
        go_ret
        exact ⟨rfl, by (repeat' (first | (with_reducible exact Below.refl _ _) | (with_reducible assumption) | (with_reducible refine Below.alloc ?_ ?_ _) | (with_reducible refine Below.drew ?_) | (with_reducible refine below_drewN ?_ _) | (with_reducible refine Below.setCell ?_ ?_ _) | (with_reducible refine Below.trans ?_ (by assumption)) | go_size))⟩
      · by_cases hp1 : 24 ≤ p
        · rw [show firstN 3 p = -1 by unfold firstN; rw [if_pos (.inr (.inr (by rw [show placesN 3 = 24 from rfl]; exact hp1)))]]
          go_enter Tryz.func63, Tryz.ntmps63
          go_wp2_with (go_at_call 140; refine (ho _).mono ?_; rintro e w1 ⟨rfl, hb1⟩; have hs1 := hb1.size)
          go_ret
          exact ⟨rfl, by (repeat' (first | (with_reducible exact Below.refl _ _) | (with_reducible assumption) | (with_reducible refine Below.alloc ?_ ?_ _) | (with_reducible refine Below.drew ?_) | (with_reducible refine below_drewN ?_ _) | (with_reducible refine Below.setCell ?_ ?_ _) | (with_reducible refine Below.trans ?_ (by assumption)) | go_size))⟩
        · rw [show firstN 3 p = 4 + p * 1 by unfold firstN; rw [if_neg (by rw [show placesN 3 = 24 from rfl]; omega)]; rfl]
          go_enter Tryz.func63, Tryz.ntmps63
          go_wp2_with (first
            | (go_at_call 140; refine (ho _).mono ?_; rintro e w1 ⟨rfl, hb1⟩; have hs1 := hb1.size)
            | (go_at_call 96; refine (hst _).mono ?_; rintro e w2 ⟨rfl, hb2⟩; have hs2 := hb2.size)
            | (go_at_call 111; refine (hw _).mono ?_; rintro e w3 ⟨rfl, hb3⟩; have hs3 := hb3.size))
          go_ret
          exact ⟨ret_int (by omega), ((hb1.trans ((blw w1 _).mono hs1)).trans (hb2.mono (by simp; omega))).trans (hb3.mono (by simp at hs2; omega))⟩
    · skip
      have ho := of_any 4
      rw [show ofV 4 = .agg #[.int .i64 48, .int .i64 2] from rfl] at ho
      have hw := wide_any 4
      rw [show wideN 4 = 2 from rfl] at hw
      have hst := start_in 4 (by omega) (by omega)
      rw [show startN ((4 : Nat) : Int) = 28 from rfl] at hst
      by_cases hp0 : p < 0
      · rw [show firstN 4 p = -1 by unfold firstN; rw [if_pos (.inr (.inl hp0))]]
        go_enter Tryz.func63, Tryz.ntmps63
        go_wp2_with (go_at_call 140; refine (ho _).mono ?_; rintro e w1 ⟨rfl, hb1⟩; have hs1 := hb1.size)
        go_ret
        exact ⟨rfl, by (repeat' (first | (with_reducible exact Below.refl _ _) | (with_reducible assumption) | (with_reducible refine Below.alloc ?_ ?_ _) | (with_reducible refine Below.drew ?_) | (with_reducible refine below_drewN ?_ _) | (with_reducible refine Below.setCell ?_ ?_ _) | (with_reducible refine Below.trans ?_ (by assumption)) | go_size))⟩
      · by_cases hp1 : 48 ≤ p
        · rw [show firstN 4 p = -1 by unfold firstN; rw [if_pos (.inr (.inr (by rw [show placesN 4 = 48 from rfl]; exact hp1)))]]
          go_enter Tryz.func63, Tryz.ntmps63
          go_wp2_with (go_at_call 140; refine (ho _).mono ?_; rintro e w1 ⟨rfl, hb1⟩; have hs1 := hb1.size)
          go_ret
          exact ⟨rfl, by (repeat' (first | (with_reducible exact Below.refl _ _) | (with_reducible assumption) | (with_reducible refine Below.alloc ?_ ?_ _) | (with_reducible refine Below.drew ?_) | (with_reducible refine below_drewN ?_ _) | (with_reducible refine Below.setCell ?_ ?_ _) | (with_reducible refine Below.trans ?_ (by assumption)) | go_size))⟩
        · rw [show firstN 4 p = 28 + p * 2 by unfold firstN; rw [if_neg (by rw [show placesN 4 = 48 from rfl]; omega)]; rfl]
          go_enter Tryz.func63, Tryz.ntmps63
          go_wp2_with (first
            | (go_at_call 140; refine (ho _).mono ?_; rintro e w1 ⟨rfl, hb1⟩; have hs1 := hb1.size)
            | (go_at_call 96; refine (hst _).mono ?_; rintro e w2 ⟨rfl, hb2⟩; have hs2 := hb2.size)
            | (go_at_call 111; refine (hw _).mono ?_; rintro e w3 ⟨rfl, hb3⟩; have hs3 := hb3.size))
          go_ret
          exact ⟨ret_int (by omega), ((hb1.trans ((blw w1 _).mono hs1)).trans (hb2.mono (by simp; omega))).trans (hb3.mono (by simp at hs2; omega))⟩
    · skip
      have ho := of_any 5
      rw [show ofV 5 = .agg #[.int .i64 16, .int .i64 2] from rfl] at ho
      have hw := wide_any 5
      rw [show wideN 5 = 2 from rfl] at hw
      have hst := start_in 5 (by omega) (by omega)
      rw [show startN ((5 : Nat) : Int) = 124 from rfl] at hst
      by_cases hp0 : p < 0
      · rw [show firstN 5 p = -1 by unfold firstN; rw [if_pos (.inr (.inl hp0))]]
        go_enter Tryz.func63, Tryz.ntmps63
        go_wp2_with (go_at_call 140; refine (ho _).mono ?_; rintro e w1 ⟨rfl, hb1⟩; have hs1 := hb1.size)
        go_ret
        exact ⟨rfl, by (repeat' (first | (with_reducible exact Below.refl _ _) | (with_reducible assumption) | (with_reducible refine Below.alloc ?_ ?_ _) | (with_reducible refine Below.drew ?_) | (with_reducible refine below_drewN ?_ _) | (with_reducible refine Below.setCell ?_ ?_ _) | (with_reducible refine Below.trans ?_ (by assumption)) | go_size))⟩
      · by_cases hp1 : 16 ≤ p
        · rw [show firstN 5 p = -1 by unfold firstN; rw [if_pos (.inr (.inr (by rw [show placesN 5 = 16 from rfl]; exact hp1)))]]
          go_enter Tryz.func63, Tryz.ntmps63
          go_wp2_with (go_at_call 140; refine (ho _).mono ?_; rintro e w1 ⟨rfl, hb1⟩; have hs1 := hb1.size)
          go_ret
          exact ⟨rfl, by (repeat' (first | (with_reducible exact Below.refl _ _) | (with_reducible assumption) | (with_reducible refine Below.alloc ?_ ?_ _) | (with_reducible refine Below.drew ?_) | (with_reducible refine below_drewN ?_ _) | (with_reducible refine Below.setCell ?_ ?_ _) | (with_reducible refine Below.trans ?_ (by assumption)) | go_size))⟩
        · rw [show firstN 5 p = 124 + p * 2 by unfold firstN; rw [if_neg (by rw [show placesN 5 = 16 from rfl]; omega)]; rfl]
          go_enter Tryz.func63, Tryz.ntmps63
          go_wp2_with (first
            | (go_at_call 140; refine (ho _).mono ?_; rintro e w1 ⟨rfl, hb1⟩; have hs1 := hb1.size)
            | (go_at_call 96; refine (hst _).mono ?_; rintro e w2 ⟨rfl, hb2⟩; have hs2 := hb2.size)
            | (go_at_call 111; refine (hw _).mono ?_; rintro e w3 ⟨rfl, hb3⟩; have hs3 := hb3.size))
          go_ret
          exact ⟨ret_int (by omega), ((hb1.trans ((blw w1 _).mono hs1)).trans (hb2.mono (by simp; omega))).trans (hb3.mono (by simp at hs2; omega))⟩
end Go.Proofs.YtbdonjenekhmdaaGreatDoor
namespace Go.Proofs.YtbdonjenekhmdaaGreatDoor
open Go.RowKit
abbrev tgV (t : Tg) : Value := .agg #[.int .i64 t.rep, .int .i64 t.reg, .int .i64 t.pla, .int .i64 t.idx, .int .i64 t.inc]
def inB (n lo hi : Int) : Bool := decide (lo ≤ n) && decide (n ≤ hi)
set_option maxRecDepth 100000 in
theorem in_any (n lo hi : Int) (w : World) : Calls Tryz.prog 191 #[.int .i64 n, .int .i64 lo, .int .i64 hi] w fun e w' => e = .returned (.bool (inB n lo hi)) ∧ w = w' := by
 unfold inB
 by_cases h : lo ≤ n
 ·go_enter Tryz.func191, Tryz.ntmps191
  go_wp2
  go_ret
  exact ⟨ret_bool (by simp [h]), rfl⟩
 ·go_enter Tryz.func191, Tryz.ntmps191
  go_wp2
  go_ret
  exact ⟨ret_bool (by rw [decide_eq_false (show ¬ lo ≤ n by omega), Bool.false_and]), rfl⟩
theorem mayTg_in (t : Tg) : mayTg t = (inB t.rep 0 6 && (inB t.pla 0 (placesN t.reg - 1) && (inB t.idx 0 1099511627776 && inB t.inc 1 1099511627776))) := by
 unfold mayTg inB
 have : decide (t.pla < placesN t.reg) = decide (t.pla ≤ placesN t.reg - 1) := by
  apply decide_eq_decide.2
  omega
 rw [this]
 simp only [Bool.and_assoc]
theorem places_bd (n : Int) : 0 ≤ placesN n ∧ placesN n ≤ 48 := by
 by_cases h : 0 < placesN n
 ·have := placesN_reg h
  omega
 ·unfold placesN at h ⊢
  split at h
  ·omega
  ·split at h
   ·omega
   ·split at h
    ·omega
    ·split at h
     ·omega
     ·split at h
      ·omega
      ·rename_i h1 h2 h3 h4 h5
       rw [if_neg h1, if_neg h2, if_neg h3, if_neg h4, if_neg h5]
       omega
set_option maxRecDepth 100000 in
set_option maxHeartbeats 4000000 in
theorem tmay_any (t : Tg) (w : World) : Calls Tryz.prog 139 #[tgV t] w fun e w' => e = .returned (.bool (mayTg t)) ∧ Below w.heap.size w w' := by
 obtain ⟨rep, reg, pla, idx, inc⟩ := t
 rw [mayTg_in]
 simp only
 have hpl := (places_bd reg).1
 have hpl2 := (places_bd reg).2
 cases h1 : inB rep 0 6
 case false =>
  rw [Bool.false_and]
  have c1 := fun w => in_any rep 0 6 w
  have c2 := fun w => in_any pla 0 (placesN reg - 1) w
  have c3 := fun w => in_any idx 0 1099511627776 w
  have c4 := fun w => in_any inc 1 1099511627776 w
  (try simp only [h1] at c1)
  (try simp only [h2] at c2)
  (try simp only [h3] at c3)
  replace c1 := Lib.hid c1
  replace c2 := Lib.hid c2
  replace c3 := Lib.hid c3
  replace c4 := Lib.hid c4
  go_enter Tryz.func139, Tryz.ntmps139
  refine seqH (fun K HK => ?_)
  go_wp2
  refine HK.out _ _ ?_
  clear HK
  refine seqH (fun K HK => ?_)
  go_wp2
  refine HK.out _ _ ?_
  clear HK
  have q0 := under_cell (blk_cell (heap_alloc_new w (Obj.cells #[.int .i64 rep, .int .i64 reg, .int .i64 pla, .int .i64 idx, .int .i64 inc] 39)) 0 _ rfl)
  have q1 := under_cell (blk_cell (heap_alloc_new w (Obj.cells #[.int .i64 rep, .int .i64 reg, .int .i64 pla, .int .i64 idx, .int .i64 inc] 39)) 1 _ rfl)
  have q2 := under_cell (blk_cell (heap_alloc_new w (Obj.cells #[.int .i64 rep, .int .i64 reg, .int .i64 pla, .int .i64 idx, .int .i64 inc] 39)) 2 _ rfl)
  have q3 := under_cell (blk_cell (heap_alloc_new w (Obj.cells #[.int .i64 rep, .int .i64 reg, .int .i64 pla, .int .i64 idx, .int .i64 inc] 39)) 3 _ rfl)
  have q4 := under_cell (blk_cell (heap_alloc_new w (Obj.cells #[.int .i64 rep, .int .i64 reg, .int .i64 pla, .int .i64 idx, .int .i64 inc] 39)) 4 _ rfl)
  have hbw := blw w (Obj.cells #[.int .i64 rep, .int .i64 reg, .int .i64 pla, .int .i64 idx, .int .i64 inc] 39)
  generalize w.alloc (Obj.cells #[.int .i64 rep, .int .i64 reg, .int .i64 pla, .int .i64 idx, .int .i64 inc] 39) = wq at *
  refine seqH (fun K HK => ?_)
  refine wp_region_under (by kernel_rfl) (by kernel_rfl) ?_
  repeat (first | go_big_quiet_step ((first
   | (go_at_call 191; first | (with_reducible exact under_same (c1.out _)) | (with_reducible exact under_same (c2.out _)) | (with_reducible exact under_same (c3.out _)) | (with_reducible exact under_same (c4.out _)))
   | (go_at_call 192; exact under_call (places_any _ _)))) | ((with_reducible refine wpQuiet_skip ?_ ?_) ; (focus rfl); (try simp only [Act.put]); (try simp only [List.setIfInBounds_toArray]); (try simp only [List.set_cons_succ]); (try simp only [List.set_cons_zero])))
  refine wpQuiet_nil ?_
  intro _ hw'
  obtain ⟨xU, hw''⟩ := hw'
  subst hw''
  have hbU := under_below wq xU
  refine HK.out _ _ ?_
  clear HK
  go_wp2
  go_ret
  exact ⟨by rfl, hbw.trans (hbU.mono hbw.size)⟩
 case true =>
  rw [Bool.true_and]
  cases h2 : inB pla 0 (placesN reg - 1)
  case false =>
   rw [Bool.false_and]
   have c1 := fun w => in_any rep 0 6 w
   have c2 := fun w => in_any pla 0 (placesN reg - 1) w
   have c3 := fun w => in_any idx 0 1099511627776 w
   have c4 := fun w => in_any inc 1 1099511627776 w
   (try simp only [h1] at c1)
   (try simp only [h2] at c2)
   (try simp only [h3] at c3)
   replace c1 := Lib.hid c1
   replace c2 := Lib.hid c2
   replace c3 := Lib.hid c3
   replace c4 := Lib.hid c4
   go_enter Tryz.func139, Tryz.ntmps139
   refine seqH (fun K HK => ?_)
   go_wp2
   refine HK.out _ _ ?_
   clear HK
   refine seqH (fun K HK => ?_)
   go_wp2
   refine HK.out _ _ ?_
   clear HK
   have q0 := under_cell (blk_cell (heap_alloc_new w (Obj.cells #[.int .i64 rep, .int .i64 reg, .int .i64 pla, .int .i64 idx, .int .i64 inc] 39)) 0 _ rfl)
   have q1 := under_cell (blk_cell (heap_alloc_new w (Obj.cells #[.int .i64 rep, .int .i64 reg, .int .i64 pla, .int .i64 idx, .int .i64 inc] 39)) 1 _ rfl)
   have q2 := under_cell (blk_cell (heap_alloc_new w (Obj.cells #[.int .i64 rep, .int .i64 reg, .int .i64 pla, .int .i64 idx, .int .i64 inc] 39)) 2 _ rfl)
   have q3 := under_cell (blk_cell (heap_alloc_new w (Obj.cells #[.int .i64 rep, .int .i64 reg, .int .i64 pla, .int .i64 idx, .int .i64 inc] 39)) 3 _ rfl)
   have q4 := under_cell (blk_cell (heap_alloc_new w (Obj.cells #[.int .i64 rep, .int .i64 reg, .int .i64 pla, .int .i64 idx, .int .i64 inc] 39)) 4 _ rfl)
   have hbw := blw w (Obj.cells #[.int .i64 rep, .int .i64 reg, .int .i64 pla, .int .i64 idx, .int .i64 inc] 39)
   generalize w.alloc (Obj.cells #[.int .i64 rep, .int .i64 reg, .int .i64 pla, .int .i64 idx, .int .i64 inc] 39) = wq at *
   refine seqH (fun K HK => ?_)
   refine wp_region_under (by kernel_rfl) (by kernel_rfl) ?_
   repeat (first | go_big_quiet_step ((first
    | (go_at_call 191; first | (with_reducible exact under_same (c1.out _)) | (with_reducible exact under_same (c2.out _)) | (with_reducible exact under_same (c3.out _)) | (with_reducible exact under_same (c4.out _)))
    | (go_at_call 192; exact under_call (places_any _ _)))) | ((with_reducible refine wpQuiet_skip ?_ ?_) ; (focus rfl); (try simp only [Act.put]); (try simp only [List.setIfInBounds_toArray]); (try simp only [List.set_cons_succ]); (try simp only [List.set_cons_zero])))
   refine wpQuiet_nil ?_
   intro _ hw'
   obtain ⟨xU, hw''⟩ := hw'
   subst hw''
   have hbU := under_below wq xU
   refine HK.out _ _ ?_
   clear HK
   go_wp2
   go_ret
   exact ⟨by rfl, hbw.trans (hbU.mono hbw.size)⟩
  case true =>
   rw [Bool.true_and]
   cases h3 : inB idx 0 1099511627776
   case false =>
    rw [Bool.false_and]
    have c1 := fun w => in_any rep 0 6 w
    have c2 := fun w => in_any pla 0 (placesN reg - 1) w
    have c3 := fun w => in_any idx 0 1099511627776 w
    have c4 := fun w => in_any inc 1 1099511627776 w
    (try simp only [h1] at c1)
    (try simp only [h2] at c2)
    (try simp only [h3] at c3)
    replace c1 := Lib.hid c1
    replace c2 := Lib.hid c2
    replace c3 := Lib.hid c3
    replace c4 := Lib.hid c4
    go_enter Tryz.func139, Tryz.ntmps139
    refine seqH (fun K HK => ?_)
    go_wp2
    refine HK.out _ _ ?_
    clear HK
    refine seqH (fun K HK => ?_)
    go_wp2
    refine HK.out _ _ ?_
    clear HK
    have q0 := under_cell (blk_cell (heap_alloc_new w (Obj.cells #[.int .i64 rep, .int .i64 reg, .int .i64 pla, .int .i64 idx, .int .i64 inc] 39)) 0 _ rfl)
    have q1 := under_cell (blk_cell (heap_alloc_new w (Obj.cells #[.int .i64 rep, .int .i64 reg, .int .i64 pla, .int .i64 idx, .int .i64 inc] 39)) 1 _ rfl)
    have q2 := under_cell (blk_cell (heap_alloc_new w (Obj.cells #[.int .i64 rep, .int .i64 reg, .int .i64 pla, .int .i64 idx, .int .i64 inc] 39)) 2 _ rfl)
    have q3 := under_cell (blk_cell (heap_alloc_new w (Obj.cells #[.int .i64 rep, .int .i64 reg, .int .i64 pla, .int .i64 idx, .int .i64 inc] 39)) 3 _ rfl)
    have q4 := under_cell (blk_cell (heap_alloc_new w (Obj.cells #[.int .i64 rep, .int .i64 reg, .int .i64 pla, .int .i64 idx, .int .i64 inc] 39)) 4 _ rfl)
    have hbw := blw w (Obj.cells #[.int .i64 rep, .int .i64 reg, .int .i64 pla, .int .i64 idx, .int .i64 inc] 39)
    generalize w.alloc (Obj.cells #[.int .i64 rep, .int .i64 reg, .int .i64 pla, .int .i64 idx, .int .i64 inc] 39) = wq at *
    refine seqH (fun K HK => ?_)
    refine wp_region_under (by kernel_rfl) (by kernel_rfl) ?_
    repeat (first | go_big_quiet_step ((first
     | (go_at_call 191; first | (with_reducible exact under_same (c1.out _)) | (with_reducible exact under_same (c2.out _)) | (with_reducible exact under_same (c3.out _)) | (with_reducible exact under_same (c4.out _)))
     | (go_at_call 192; exact under_call (places_any _ _)))) | ((with_reducible refine wpQuiet_skip ?_ ?_) ; (focus rfl); (try simp only [Act.put]); (try simp only [List.setIfInBounds_toArray]); (try simp only [List.set_cons_succ]); (try simp only [List.set_cons_zero])))
    refine wpQuiet_nil ?_
    intro _ hw'
    obtain ⟨xU, hw''⟩ := hw'
    subst hw''
    have hbU := under_below wq xU
    refine HK.out _ _ ?_
    clear HK
    go_wp2
    go_ret
    exact ⟨by rfl, hbw.trans (hbU.mono hbw.size)⟩
   case true =>
    rw [Bool.true_and]
    have c1 := fun w => in_any rep 0 6 w
    have c2 := fun w => in_any pla 0 (placesN reg - 1) w
    have c3 := fun w => in_any idx 0 1099511627776 w
    have c4 := fun w => in_any inc 1 1099511627776 w
    (try simp only [h1] at c1)
    (try simp only [h2] at c2)
    (try simp only [h3] at c3)
    replace c1 := Lib.hid c1
    replace c2 := Lib.hid c2
    replace c3 := Lib.hid c3
    replace c4 := Lib.hid c4
    go_enter Tryz.func139, Tryz.ntmps139
    refine seqH (fun K HK => ?_)
    go_wp2
    refine HK.out _ _ ?_
    clear HK
    refine seqH (fun K HK => ?_)
    go_wp2
    refine HK.out _ _ ?_
    clear HK
    have q0 := under_cell (blk_cell (heap_alloc_new w (Obj.cells #[.int .i64 rep, .int .i64 reg, .int .i64 pla, .int .i64 idx, .int .i64 inc] 39)) 0 _ rfl)
    have q1 := under_cell (blk_cell (heap_alloc_new w (Obj.cells #[.int .i64 rep, .int .i64 reg, .int .i64 pla, .int .i64 idx, .int .i64 inc] 39)) 1 _ rfl)
    have q2 := under_cell (blk_cell (heap_alloc_new w (Obj.cells #[.int .i64 rep, .int .i64 reg, .int .i64 pla, .int .i64 idx, .int .i64 inc] 39)) 2 _ rfl)
    have q3 := under_cell (blk_cell (heap_alloc_new w (Obj.cells #[.int .i64 rep, .int .i64 reg, .int .i64 pla, .int .i64 idx, .int .i64 inc] 39)) 3 _ rfl)
    have q4 := under_cell (blk_cell (heap_alloc_new w (Obj.cells #[.int .i64 rep, .int .i64 reg, .int .i64 pla, .int .i64 idx, .int .i64 inc] 39)) 4 _ rfl)
    have hbw := blw w (Obj.cells #[.int .i64 rep, .int .i64 reg, .int .i64 pla, .int .i64 idx, .int .i64 inc] 39)
    generalize w.alloc (Obj.cells #[.int .i64 rep, .int .i64 reg, .int .i64 pla, .int .i64 idx, .int .i64 inc] 39) = wq at *
    refine seqH (fun K HK => ?_)
    refine wp_region_under (by kernel_rfl) (by kernel_rfl) ?_
    repeat (first | go_big_quiet_step ((first
     | (go_at_call 191; first | (with_reducible exact under_same (c1.out _)) | (with_reducible exact under_same (c2.out _)) | (with_reducible exact under_same (c3.out _)) | (with_reducible exact under_same (c4.out _)))
     | (go_at_call 192; exact under_call (places_any _ _)))) | ((with_reducible refine wpQuiet_skip ?_ ?_) ; (focus rfl); (try simp only [Act.put]); (try simp only [List.setIfInBounds_toArray]); (try simp only [List.set_cons_succ]); (try simp only [List.set_cons_zero])))
    refine wpQuiet_nil ?_
    intro _ hw'
    obtain ⟨xU, hw''⟩ := hw'
    subst hw''
    have hbU := under_below wq xU
    refine HK.out _ _ ?_
    clear HK
    go_wp2
    go_ret
    exact ⟨by rfl, hbw.trans (hbU.mono hbw.size)⟩
end Go.Proofs.YtbdonjenekhmdaaGreatDoor
namespace Go.Proofs.YtbdonjenekhmdaaGreatDoor
open Go.RowKit
abbrev Part := Option Addr × Nat × List UInt8
def partV (x : Part) : Value := .slice x.1 x.2.2.length x.2.1
structure Parts (w : World) (a : Option Addr) (ls : List Part) : Prop where
 row : Row w a (ls.map partV)
 each : ∀ x ∈ ls, SlB w x.1 x.2.1 x.2.2
def joinP (ls : List Part) : List UInt8 := ls.flatMap (·.2.2)
theorem joinP_snoc (ls : List Part) (j : Nat) (h : j < ls.length) : joinP (ls.take (j + 1)) = joinP (ls.take j) ++ ls[j].2.2 := by
 rw [List.take_succ_eq_append_getElem h]
 unfold joinP
 rw [List.flatMap_append, List.flatMap_singleton]
theorem joinP_le (ls : List Part) (j : Nat) : (joinP (ls.take j)).length ≤ (joinP ls).length := by
 have : joinP ls = joinP (ls.take j) ++ joinP (ls.drop j) := by
  have h := congrArg joinP (List.take_append_drop j ls)
  refine h.symm.trans ?_
  unfold joinP
  rw [List.flatMap_append]
 rw [this, List.length_append]
 omega
set_option maxRecDepth 100000 in
set_option maxHeartbeats 4000000 in
theorem join_any (a : Option Addr) (cap : Nat) (ls : List Part) (w : World) (hp : Parts w a ls) (hn : ls.length ≤ 1000) (ht : (joinP ls).length ≤ 1000000) : Calls Tryz.prog 179 #[.slice a ls.length cap] w fun e w' => (∃ a' c', e = .returned (.slice a' (joinP ls).length c') ∧ w'.ownsRow w.heap.size 5 1 (.slice a' (joinP ls).length c') (joinP ls).length (bys (joinP ls))) ∧ Below w.heap.size w w' := by
 go_enter Tryz.func179, Tryz.ntmps179
 refine seqH (fun K HK => ?_)
 go_wp2
 refine HK.out _ _ ?_
 clear HK
 refine seqH (fun K HK => ?_)
 go_wp2
 refine HK.out _ _ ?_
 clear HK
 refine seqH (fun K HK => ?_)
 go_wp2_with fail
 go_loopw [8, 3, 5] (fun i o _ wr => ∃ (j : Nat) (v : Value), j ≤ ls.length ∧ i = .int .i64 (j : Nat) ∧ o = v ∧ wr.ownsRow w.heap.size 5 1 v (joinP (ls.take j)).length (bys (joinP (ls.take j))) ∧ Below w.heap.size w wr) (fun i _ _ _ => ls.length - (intOf i).toNat)
 case atStart => exact ⟨0, _, by omega, rfl, rfl, World.ownsRow_nil _ _ _ _, Below.refl _ _⟩
 case round =>
  obtain ⟨j, v, hj, rfl, rfl, hown, hbr⟩ := hrel
  by_cases hlt : j < ls.length
  case pos =>
   have hx := hp.each _ (List.getElem_mem hlt)
   have hsn := joinP_snoc ls j hlt
   have hle := joinP_le ls (j + 1)
   rw [hsn, List.length_append] at hle
   have HSN := Lib.hid hsn
   clear hsn
   obtain ⟨b, off, rfl, hc⟩ := (hp.row.below0 hbr).at (k := j) (by simpa using hlt)
   have hcj := hc j (partV ls[j]) (by simp [hlt])
   clear hc
   generalize ls[j] = x at *
   obtain ⟨xa, xc, xl⟩ := x
   simp only at hx hle HSN
   unfold partV at hcj
   simp only at hcj
   have hxr := hx.row.below0 hbr
   have hxl : xl.length ≤ xc := hx.le
   generalize joinP (ls.take j) = t at *
   go_wp2_with (at_builtin; refine wpList_append_row rfl _ _ 37 5 elByte rfl w.heap.size _ t.length (bys t) rfl hown xa xl.length xc (bys xl) rfl (by rw [bys_len]; omega) hxr bys_one (by omega) (by decide) hbr.size ?_; intro v4 w4 ho4 hb4)
   rw [← bys_app] at ho4
   go_roundw
   case rel => exact ⟨j + 1, _, by omega, by go_num, rfl, by rw [HSN.out, List.length_append]; exact ho4, hbr.trans hb4⟩
   case measure => simp [intOf]; omega
  case neg =>
   obtain rfl : j = ls.length := by omega
   rw [List.take_length] at hown
   obtain ⟨a', c', rfl, _⟩ := Row.of_owns hown
   go_wp2
   refine HK.out _ _ ?_
   clear HK
   go_wp2
   go_ret
   exact ⟨⟨a', c', rfl, hown⟩, hbr⟩
end Go.Proofs.YtbdonjenekhmdaaGreatDoor
namespace Go.Proofs.YtbdonjenekhmdaaGreatDoor
open Go.RowKit
abbrev widV : Value := .agg #[.int .i64 1, .int .i64 1, .int .i64 1, .int .i64 6, .int .i64 6]
set_option maxRecDepth 100000 in
theorem widths_any (w : World) : Calls Tryz.prog 212 #[] w fun e w' => e = .returned widV ∧ Below w.heap.size w w' := by
 go_enter Tryz.func212, Tryz.ntmps212
 go_wp2
 (try simp only [Exit.inBlock, Exit.then])
 refine bodyPost_ret (v := widV) ?hr rfl ⟨rfl, ?_⟩
 case hr =>
  simp only [results, Tryz.results212]
  go_simp
  try rfl
 (repeat' (first | (with_reducible exact Below.refl _ _) | (with_reducible assumption) | (with_reducible refine Below.alloc ?_ ?_ _) | (with_reducible refine Below.drew ?_) | (with_reducible refine below_drewN ?_ _) | (with_reducible refine Below.setCell ?_ ?_ _) | (with_reducible refine Below.trans ?_ (by assumption)) | go_size))
theorem oput_one {n : Int} {k : Nat} (h0 : 0 ≤ n) (h1 : n < manyI k) : oputL k n = le k n.toNat := by
 unfold oputL
 rw [if_pos (by unfold fitsB; simp [h0, h1]), Int.toNat_natCast]
def tagPre (t : Tg) : Nat → List UInt8
 | 0 => []
 | 1 => le 1 t.rep.toNat
 | 2 => le 1 t.rep.toNat ++ le 1 t.reg.toNat
 | 3 => (le 1 t.rep.toNat ++ le 1 t.reg.toNat) ++ le 1 t.pla.toNat
 | 4 => ((le 1 t.rep.toNat ++ le 1 t.reg.toNat) ++ le 1 t.pla.toNat) ++ le 6 t.idx.toNat
 | _ => (((le 1 t.rep.toNat ++ le 1 t.reg.toNat) ++ le 1 t.pla.toNat) ++ le 6 t.idx.toNat) ++ le 6 t.inc.toNat
theorem tagPre_all (t : Tg) : tagPre t 5 = tagB t := by simp [tagPre, tagB]
set_option maxRecDepth 100000 in
set_option maxHeartbeats 8000000 in
theorem tprint_ok (t : Tg) (w : World) (ht : mayTg t = true) : Calls Tryz.prog 178 #[tgV t] w fun e w' => (∃ a' c', e = .returned (.tuple #[.slice a' 15 c', .int .i64 0]) ∧ w'.ownsRow w.heap.size 5 1 (.slice a' 15 c') 15 (bys (tagB t))) ∧ Below w.heap.size w w' := by
 obtain ⟨h1, h2, h3, h4, h5, h6, h7, h8⟩ := mayTg_parts ht
 obtain ⟨g1, g2, g3⟩ := mayTg_small ht
 have i0 : ∀ (a b c d e : Int) (w : World), (Instr.index 282 (.agg #[.int .i64 a, .int .i64 b, .int .i64 c, .int .i64 d, .int .i64 e]) (.int .i64 0)).run Tryz.prog w = .ok (.int .i64 a) w := fun _ _ _ _ _ _ => by kernel_rfl
 have i1 : ∀ (a b c d e : Int) (w : World), (Instr.index 282 (.agg #[.int .i64 a, .int .i64 b, .int .i64 c, .int .i64 d, .int .i64 e]) (.int .i64 1)).run Tryz.prog w = .ok (.int .i64 b) w := fun _ _ _ _ _ _ => by kernel_rfl
 have i2 : ∀ (a b c d e : Int) (w : World), (Instr.index 282 (.agg #[.int .i64 a, .int .i64 b, .int .i64 c, .int .i64 d, .int .i64 e]) (.int .i64 2)).run Tryz.prog w = .ok (.int .i64 c) w := fun _ _ _ _ _ _ => by kernel_rfl
 have i3 : ∀ (a b c d e : Int) (w : World), (Instr.index 282 (.agg #[.int .i64 a, .int .i64 b, .int .i64 c, .int .i64 d, .int .i64 e]) (.int .i64 3)).run Tryz.prog w = .ok (.int .i64 d) w := fun _ _ _ _ _ _ => by kernel_rfl
 have i4 : ∀ (a b c d e : Int) (w : World), (Instr.index 282 (.agg #[.int .i64 a, .int .i64 b, .int .i64 c, .int .i64 d, .int .i64 e]) (.int .i64 4)).run Tryz.prog w = .ok (.int .i64 e) w := fun _ _ _ _ _ _ => by kernel_rfl
 have HT := Lib.hid ht
 clear ht
 go_enter Tryz.func178, Tryz.ntmps178
 refine seqH (fun K HK => ?_)
 go_wp2
 refine HK.out _ _ ?_
 clear HK
 refine seqH (fun K HK => ?_)
 go_wp2_with (go_at_call 139; refine (tmay_any t _).mono ?_; rintro e w1 ⟨rfl, hb1⟩; rw [HT.out])
 refine HK.out _ _ ?_
 clear HK
 have q := tr_bl hb1 (heap_alloc_new w (Obj.cells #[.int .i64 t.rep, .int .i64 t.reg, .int .i64 t.pla, .int .i64 t.idx, .int .i64 t.inc] 39))
 have hb := (blw w (Obj.cells #[.int .i64 t.rep, .int .i64 t.reg, .int .i64 t.pla, .int .i64 t.idx, .int .i64 t.inc] 39)).trans (hb1.mono (blw w _).size)
 have q0 := blk_cell q 0 _ rfl
 have q1 := blk_cell q 1 _ rfl
 have q2 := blk_cell q 2 _ rfl
 have q3 := blk_cell q 3 _ rfl
 have q4 := blk_cell q 4 _ rfl
 clear q hb1
 refine seqH (fun K HK => ?_)
 go_wp2
 refine HK.out _ _ ?_
 clear HK
 refine seqH (fun K HK => ?_)
 go_wp2_with fail
 go_loopw [23, 4, 5, 6, 7, 8] (fun i o _ _ _ _ wr => ∃ (j : Nat) (v : Value), j ≤ 5 ∧ i = .int .i64 (j : Nat) ∧ o = v ∧ wr.ownsRow w.heap.size 5 1 v (tagPre t j).length (bys (tagPre t j)) ∧ Below w.heap.size w wr) (fun i _ _ _ _ _ _ => 5 - (intOf i).toNat)
 case atStart => exact ⟨0, _, by omega, rfl, rfl, World.ownsRow_nil _ _ _ _, hb⟩
 case round =>
  clear q0 q1 q2 q3 q4
  obtain ⟨j, v, hj, rfl, rfl, hown, hbr⟩ := hrel
  have h5 : j = 0 ∨ j = 1 ∨ j = 2 ∨ j = 3 ∨ j = 4 ∨ j = 5 := by omega
  rcases h5 with rfl | rfl | rfl | rfl | rfl | rfl
  ·have HL := Lib.hid (show oputL 1 t.rep = le 1 t.rep.toNat from oput_one (k := 1) (by omega) (by show _ < 256; omega))
   have HE := Lib.hid (show tagPre t (0 + 1) = tagPre t 0 ++ le 1 t.rep.toNat from rfl)
   have hpl : (tagPre t 0).length = 0 := rfl
   have HPL := Lib.hid hpl
   have hpl2 : (tagPre t 0).length ≤ 15 := by omega
   clear hpl
   generalize tagPre t 0 = pr at *
   go_wp2_with (first
    | (go_at_call 212; refine (widths_any _).mono ?_; rintro e w1 ⟨rfl, hb1⟩; have o1 := owns_bl hown hb1)
    | (go_at_call 117; refine (put_any 1 t.rep _).mono ?_; rintro e w2 ⟨⟨v2, rfl, ho2⟩, hb2⟩; have o2 := owns_bl o1 hb2; have hb3 := hbr.trans ((hb1.trans (hb2.mono hb1.size)).mono hbr.size); rw [HL.out, le_len] at ho2; obtain ⟨a2, c2, rfl, hr2, hn2, hm2⟩ := Row.of_owns ho2)
    | (at_builtin; refine wpList_append_row rfl _ _ 37 5 elByte rfl w.heap.size _ pr.length (bys pr) rfl o2 a2 1 c2 (bys (le 1 t.rep.toNat)) rfl (by rw [bys_len, le_len]) hr2 bys_one (by omega) (by decide) hb3.size ?_; intro v4 w4 ho4 hb4))
   rw [← bys_app] at ho4
   go_roundw
   case rel => exact ⟨0 + 1, _, by omega, by rfl, rfl, by rw [HE.out, List.length_append, le_len]; exact ho4, hb3.trans hb4⟩
   case measure => simp [intOf]
  ·have HL := Lib.hid (show oputL 1 t.reg = le 1 t.reg.toNat from oput_one (k := 1) (by omega) (by show _ < 256; omega))
   have HE := Lib.hid (show tagPre t (1 + 1) = tagPre t 1 ++ le 1 t.reg.toNat from rfl)
   have hpl : (tagPre t 1).length = 1 := rfl
   have HPL := Lib.hid hpl
   have hpl2 : (tagPre t 1).length ≤ 15 := by omega
   clear hpl
   generalize tagPre t 1 = pr at *
   go_wp2_with (first
    | (go_at_call 212; refine (widths_any _).mono ?_; rintro e w1 ⟨rfl, hb1⟩; have o1 := owns_bl hown hb1)
    | (go_at_call 117; refine (put_any 1 t.reg _).mono ?_; rintro e w2 ⟨⟨v2, rfl, ho2⟩, hb2⟩; have o2 := owns_bl o1 hb2; have hb3 := hbr.trans ((hb1.trans (hb2.mono hb1.size)).mono hbr.size); rw [HL.out, le_len] at ho2; obtain ⟨a2, c2, rfl, hr2, hn2, hm2⟩ := Row.of_owns ho2)
    | (at_builtin; refine wpList_append_row rfl _ _ 37 5 elByte rfl w.heap.size _ pr.length (bys pr) rfl o2 a2 1 c2 (bys (le 1 t.reg.toNat)) rfl (by rw [bys_len, le_len]) hr2 bys_one (by omega) (by decide) hb3.size ?_; intro v4 w4 ho4 hb4))
   rw [← bys_app] at ho4
   go_roundw
   case rel => exact ⟨1 + 1, _, by omega, by rfl, rfl, by rw [HE.out, List.length_append, le_len]; exact ho4, hb3.trans hb4⟩
   case measure => simp [intOf]
  ·have HL := Lib.hid (show oputL 1 t.pla = le 1 t.pla.toNat from oput_one (k := 1) (by omega) (by show _ < 256; omega))
   have HE := Lib.hid (show tagPre t (2 + 1) = tagPre t 2 ++ le 1 t.pla.toNat from rfl)
   have hpl : (tagPre t 2).length = 2 := rfl
   have HPL := Lib.hid hpl
   have hpl2 : (tagPre t 2).length ≤ 15 := by omega
   clear hpl
   generalize tagPre t 2 = pr at *
   go_wp2_with (first
    | (go_at_call 212; refine (widths_any _).mono ?_; rintro e w1 ⟨rfl, hb1⟩; have o1 := owns_bl hown hb1)
    | (go_at_call 117; refine (put_any 1 t.pla _).mono ?_; rintro e w2 ⟨⟨v2, rfl, ho2⟩, hb2⟩; have o2 := owns_bl o1 hb2; have hb3 := hbr.trans ((hb1.trans (hb2.mono hb1.size)).mono hbr.size); rw [HL.out, le_len] at ho2; obtain ⟨a2, c2, rfl, hr2, hn2, hm2⟩ := Row.of_owns ho2)
    | (at_builtin; refine wpList_append_row rfl _ _ 37 5 elByte rfl w.heap.size _ pr.length (bys pr) rfl o2 a2 1 c2 (bys (le 1 t.pla.toNat)) rfl (by rw [bys_len, le_len]) hr2 bys_one (by omega) (by decide) hb3.size ?_; intro v4 w4 ho4 hb4))
   rw [← bys_app] at ho4
   go_roundw
   case rel => exact ⟨2 + 1, _, by omega, by rfl, rfl, by rw [HE.out, List.length_append, le_len]; exact ho4, hb3.trans hb4⟩
   case measure => simp [intOf]
  ·have HL := Lib.hid (show oputL 6 t.idx = le 6 t.idx.toNat from oput_one (k := 6) (by omega) (by show _ < 281474976710656; omega))
   have HE := Lib.hid (show tagPre t (3 + 1) = tagPre t 3 ++ le 6 t.idx.toNat from rfl)
   have hpl : (tagPre t 3).length = 3 := rfl
   have HPL := Lib.hid hpl
   have hpl2 : (tagPre t 3).length ≤ 15 := by omega
   clear hpl
   generalize tagPre t 3 = pr at *
   go_wp2_with (first
    | (go_at_call 212; refine (widths_any _).mono ?_; rintro e w1 ⟨rfl, hb1⟩; have o1 := owns_bl hown hb1)
    | (go_at_call 117; refine (put_any 6 t.idx _).mono ?_; rintro e w2 ⟨⟨v2, rfl, ho2⟩, hb2⟩; have o2 := owns_bl o1 hb2; have hb3 := hbr.trans ((hb1.trans (hb2.mono hb1.size)).mono hbr.size); rw [HL.out, le_len] at ho2; obtain ⟨a2, c2, rfl, hr2, hn2, hm2⟩ := Row.of_owns ho2)
    | (at_builtin; refine wpList_append_row rfl _ _ 37 5 elByte rfl w.heap.size _ pr.length (bys pr) rfl o2 a2 6 c2 (bys (le 6 t.idx.toNat)) rfl (by rw [bys_len, le_len]) hr2 bys_one (by omega) (by decide) hb3.size ?_; intro v4 w4 ho4 hb4))
   rw [← bys_app] at ho4
   go_roundw
   case rel => exact ⟨3 + 1, _, by omega, by rfl, rfl, by rw [HE.out, List.length_append, le_len]; exact ho4, hb3.trans hb4⟩
   case measure => simp [intOf]
  ·have HL := Lib.hid (show oputL 6 t.inc = le 6 t.inc.toNat from oput_one (k := 6) (by omega) (by show _ < 281474976710656; omega))
   have HE := Lib.hid (show tagPre t (4 + 1) = tagPre t 4 ++ le 6 t.inc.toNat from rfl)
   have hpl : (tagPre t 4).length = 9 := rfl
   have HPL := Lib.hid hpl
   have hpl2 : (tagPre t 4).length ≤ 15 := by omega
   clear hpl
   generalize tagPre t 4 = pr at *
   go_wp2_with (first
    | (go_at_call 212; refine (widths_any _).mono ?_; rintro e w1 ⟨rfl, hb1⟩; have o1 := owns_bl hown hb1)
    | (go_at_call 117; refine (put_any 6 t.inc _).mono ?_; rintro e w2 ⟨⟨v2, rfl, ho2⟩, hb2⟩; have o2 := owns_bl o1 hb2; have hb3 := hbr.trans ((hb1.trans (hb2.mono hb1.size)).mono hbr.size); rw [HL.out, le_len] at ho2; obtain ⟨a2, c2, rfl, hr2, hn2, hm2⟩ := Row.of_owns ho2)
    | (at_builtin; refine wpList_append_row rfl _ _ 37 5 elByte rfl w.heap.size _ pr.length (bys pr) rfl o2 a2 6 c2 (bys (le 6 t.inc.toNat)) rfl (by rw [bys_len, le_len]) hr2 bys_one (by omega) (by decide) hb3.size ?_; intro v4 w4 ho4 hb4))
   rw [← bys_app] at ho4
   go_roundw
   case rel => exact ⟨4 + 1, _, by omega, by rfl, rfl, by rw [HE.out, List.length_append, le_len]; exact ho4, hb3.trans hb4⟩
   case measure => simp [intOf]
  ·obtain ⟨a', c', rfl, _⟩ := Row.of_owns hown
   rw [tagPre_all, tagB_len] at hown
   have hl : (tagPre t 5).length = 15 := by rw [tagPre_all, tagB_len]
   rw [hl]
   go_wp2
   refine HK.out _ _ ?_
   clear HK
   go_wp2
   go_ret2
   exact ⟨⟨a', c', rfl, hown⟩, hbr⟩
end Go.Proofs.YtbdonjenekhmdaaGreatDoor
