/- Texts that the claim leans on, part 7: D30, D31, D32, D33, D34, D35, S1, S2. -/
import Derived.Test.YtbdonjenekhmdaaGreatDoorZ1
import Derived.Test.YtbdonjenekhmdaaGreatDoorZ2
import Derived.Test.YtbdonjenekhmdaaGreatDoorZ3
import Derived.Test.YtbdonjenekhmdaaGreatDoorZ4
import Derived.Test.YtbdonjenekhmdaaGreatDoorZ5
import Derived.Test.YtbdonjenekhmdaaGreatDoorZ6
import Derived.Test.YtbdonjenekhmdaaGreatDoorRows
import Derived.WalkKit
import Derived.WalkSpells
import Derived.WalkLawsBesides
import Derived.Handy
import Derived.Deep.QuietTactic
import Derived.BigQuiet
import Derived.Deep.DeepCutAuto
import Derived.Lib.Hide
import Derived.RegionTactic
import Derived.ChangeAlike
import Derived.Laws.ResultCell
import Derived.Outline
import Derived.Laws.MakeOwn
import Derived.Lib.SliceRun
import Derived.IntWalk
import Derived.Laws.BitsAllLaws
import Derived.Great.BuildSlice
import Derived.Great.FillDense
import Derived.Laws.Rows
import Derived.Deep.Quiet
import Derived.Deep.RegionHeld3
import Derived.ProofKit
import Derived.OpenShut
import Derived.Deep.RegionHeld
import Derived.Laws.CopyOwn
import Derived.Laws.CopyRow
import Derived.Laws.NewBlocks
import Derived.Deep.RegionLaw
namespace Go.Proofs.YtbdonjenekhmdaaGreatDoor
open Go.RowKit
def lenV : Value → Nat
 | .slice _ n _ => n
 | _ => 0
theorem SlB.take {w : World} {a : Option Addr} {cap : Nat} {l : List UInt8} (h : SlB w a cap l) (k : Nat) : SlB w a cap (l.take k) := by
 refine ⟨?_, ?_, h.max, h.nil⟩
 ·have := h.row.take k
  simpa [bys, List.map_take] using this
 ·have := h.le
  rw [List.length_take]
  omega
theorem noughts_app (l m : List UInt8) : noughtsB (l ++ m) = (noughtsB l && noughtsB m) := by simp [noughtsB]
theorem noughts_cons (x : UInt8) (l : List UInt8) : noughtsB (x :: l) = (x == 0 && noughtsB l) := rfl
theorem byte0 {x : UInt8} : ((x.toNat : Int) == 0) = (x == 0) := by
 by_cases h : x = 0
 ·subst h; rfl
 ·have : x.toNat ≠ 0 := fun e => h (by apply UInt8.toNat_inj.1; exact e)
  rw [beq_eq_false_iff_ne.2 (by omega), beq_eq_false_iff_ne.2 h]
set_option maxRecDepth 100000 in
theorem trimR_any (a : Option Addr) (cap : Nat) (l : List UInt8) (w : World) (hs : SlB w a cap l) : Calls Tryz.prog 239 #[.slice a l.length cap, .int .u8 0] w fun e w' => (∃ k : Nat, k ≤ l.length ∧ e = .returned (.slice a k cap) ∧ noughtsB (l.take k) = noughtsB l) ∧ w = w' := by
 have hle := hs.le
 have hmx := hs.max
 unfold maxLen at hmx
 go_enter Tryz.func239, Tryz.ntmps239
 refine seqH (fun K HK => ?_)
 go_wp2
 refine HK.out _ _ ?_
 clear HK
 refine seqH (fun K HK => ?_)
 go_wp2_with fail
 go_loop [0] (fun s => ∃ k : Nat, k ≤ l.length ∧ s = .slice a k cap ∧ Hid (noughtsB (l.take k) = noughtsB l)) (fun s => lenV s)
 case atStart => exact ⟨l.length, Nat.le_refl _, rfl, Lib.hid (by rw [List.take_length])⟩
 case round =>
  obtain ⟨k, hk, rfl, hn⟩ := hrel
  cases k with
  | zero =>
   go_wp2
   refine HK.out _ _ ?_
   clear HK
   go_wp2
   go_ret
   exact ⟨⟨0, Nat.zero_le _, rfl, hn.out⟩, rfl⟩
  | succ m =>
   obtain ⟨b, off, rfl, hc⟩ := hs.row.byte (i := m) (by omega)
   have htk := List.take_succ_eq_append_getElem (show m < l.length by omega)
   generalize l[m] = x at *
   have hm0 : (0 : Int) ≤ m := by omega
   cases hx : x == 0
   ·have hx2 : ((x.toNat : Int) == 0) = false := by rw [byte0, hx]
    have HN := Lib.hid hn.out
    clear htk hx
    go_wp2
    refine HK.out _ _ ?_
    clear HK
    go_wp2
    go_ret
    exact ⟨⟨m + 1, hk, rfl, HN.out⟩, rfl⟩
   ·have hx2 : ((x.toNat : Int) == 0) = true := by rw [byte0, hx]
    have HN := Lib.hid (show noughtsB (l.take m) = noughtsB l by rw [← hn.out, htk, noughts_app, noughts_cons, hx]; simp [noughtsB])
    clear htk hx hn
    go_wp2
    go_round
    case rel => exact ⟨m, by omega, by rfl, HN⟩
    case measure => simp [lenV]
theorem SlB.tail {w : World} {b off c : Nat} {x : UInt8} {r : List UInt8} (h : SlB w (some ⟨b, off, none⟩) c (x :: r)) : SlB w (some ⟨b, off + 1, none⟩) (c - 1) r := by
 have h1 := h.le
 have h2 := h.max
 simp only [List.length_cons] at h1
 refine ⟨?_, by omega, by omega, fun e => by cases e⟩
 rcases h.row with h0 | ⟨b', off', e, hc⟩
 ·simp [bys] at h0
 ·cases e
  refine .inr ⟨b, off + 1, rfl, fun i u hu => ?_⟩
  rw [Nat.add_assoc, Nat.add_comm 1 i]
  exact hc (i + 1) u (by simpa [bys] using hu)
set_option maxRecDepth 100000 in
theorem trimL_any (a : Option Addr) (cap : Nat) (l : List UInt8) (w : World) (hs : SlB w a cap l) : Calls Tryz.prog 238 #[.slice a l.length cap, .int .u8 0] w fun e w' => (∃ p n c, e = .returned (.slice p n c) ∧ ((n : Int) == 0) = noughtsB l) ∧ w = w' := by
 go_enter Tryz.func238, Tryz.ntmps238
 refine seqH (fun K HK => ?_)
 go_wp2
 refine HK.out _ _ ?_
 clear HK
 refine seqH (fun K HK => ?_)
 go_wp2_with fail
 go_loop [0] (fun s => ∃ (p : Option Addr) (c : Nat) (r : List UInt8), s = .slice p r.length c ∧ SlB w p c r ∧ Hid (noughtsB r = noughtsB l)) (fun s => lenV s)
 case atStart => exact ⟨a, cap, l, rfl, hs, Lib.hid rfl⟩
 case round =>
  obtain ⟨p, c, r, rfl, hr, hn⟩ := hrel
  have hle := hr.le
  have hmx := hr.max
  unfold maxLen at hmx
  cases r with
  | nil =>
   have HN := Lib.hid (show noughtsB l = true from hn.out.symm)
   clear hn
   go_wp2
   refine HK.out _ _ ?_
   clear HK
   go_wp2
   go_ret
   exact ⟨⟨none, 0, 0, rfl, by rw [HN.out]; rfl⟩, rfl⟩
  | cons x r =>
   obtain ⟨b, off, rfl, hc⟩ := hr.row.byte (i := 0) (by simp)
   simp only [List.getElem_cons_zero, Nat.add_zero] at hc
   simp only [List.length_cons] at hle ⊢
   have hl0 : ((r.length : Int) + 1 == 0) = false := by rw [beq_eq_false_iff_ne]; omega
   cases hx : x == 0
   ·have hx2 : ((x.toNat : Int) == 0) = false := by rw [byte0, hx]
    have HN := Lib.hid (show noughtsB l = false by rw [← hn.out, noughts_cons, hx]; rfl)
    clear hx hn
    go_wp2
    refine HK.out _ _ ?_
    clear HK
    go_wp2
    go_ret
    exact ⟨⟨some ⟨b, off, none⟩, r.length + 1, c, rfl, by rw [HN.out, beq_eq_false_iff_ne]; omega⟩, rfl⟩
   ·have hx2 : ((x.toNat : Int) == 0) = true := by rw [byte0, hx]
    have HN := Lib.hid (show noughtsB r = noughtsB l by rw [← hn.out, noughts_cons, hx]; rfl)
    have ht := hr.tail
    clear hx hn
    by_cases h1 : c = 1
    ·subst h1
     obtain rfl : r = [] := List.eq_nil_of_length_eq_zero (by omega)
     go_wp2
     go_round
     case rel => exact ⟨some ⟨b, off, none⟩, 0, [], by rfl, ⟨.inl rfl, by simp, by simp, fun e => by cases e⟩, HN⟩
     case measure => simp [lenV]
    ·have h1' : ¬ c = 1 := h1
     go_wp2
     go_round
     case rel => exact ⟨_, c - 1, r, by rfl, ht, HN⟩
     case measure => simp [lenV]
end Go.Proofs.YtbdonjenekhmdaaGreatDoor
namespace Go.Proofs.YtbdonjenekhmdaaGreatDoor
open Go.RowKit
set_option maxRecDepth 100000 in
set_option maxHeartbeats 4000000 in
theorem trim_any (a : Option Addr) (cap : Nat) (l : List UInt8) (w : World) (hs : SlB w a cap l) : Calls Tryz.prog 236 #[.slice a l.length cap, .string ⟨#[0]⟩] w fun e w' => (∃ p n c, e = .returned (.slice p n c) ∧ ((n : Int) == 0) = noughtsB l) ∧ Below w.heap.size w w' := by
 cases l with
 | nil =>
  go_enter Tryz.func236, Tryz.ntmps236
  go_wp2
  go_ret
  exact ⟨⟨none, 0, 0, rfl, rfl⟩, Below.refl _ _⟩
 | cons x r =>
  have hl0 : ((((x :: r).length : Nat) : Int) == 0) = false := by rw [beq_eq_false_iff_ne]; simp; omega
  have hlp : 0 < (x :: r).length := by simp
  generalize x :: r = l at *
  go_enter Tryz.func236, Tryz.ntmps236
  refine seqH (fun K HK => ?_)
  go_wp2
  refine HK.out _ _ ?_
  clear HK
  refine seqH (fun K HK => ?_)
  go_wp2
  refine HK.out _ _ ?_
  clear HK
  refine seqH (fun K HK => ?_)
  go_wp2
  refine HK.out _ _ ?_
  clear HK
  refine seqH (fun K HK => ?_)
  go_wp2_with fail
  refine wp_region_held_drew (S := fun _ => True) (by kernel_rfl) trivial (fun hS0 => ?_)
  refine tkT 0 rfl (by intro wS hSw; go_simp; (try with_reducible rfl)) ?_
  refine tkT 1 rfl (by intro wS hSw; go_simp; (try with_reducible rfl)) ?_
  refine tkT 2 rfl (by intro wS hSw; go_simp; (try with_reducible rfl)) ?_
  refine tkT 4 rfl (by intro wS hSw; go_simp; (try with_reducible rfl)) ?_
  refine tkT 5 rfl (by intro wS hSw; go_simp; (try with_reducible rfl)) ?_
  refine rdy1 3 rfl (fun K' hK' => ?_)
  go_simp
  have hb0 := (Below.refl w.heap.size w).drew
  generalize w.drew = w0 at *
  have hs0 := hs.below hb0
  refine (trimR_any _ _ _ _ hs0).mono ?_
  rintro e w1 ⟨⟨k, hk, rfl, hn⟩, rfl⟩
  refine hK'.out _ _ trivial (fun _ => ?_)
  clear hK'
  (try simp only [Act.put]); (try simp only [List.setIfInBounds_toArray]); (try simp only [List.set_cons_succ]); (try simp only [List.set_cons_zero])
  refine rdy1 6 rfl (fun K' hK' => ?_)
  go_simp
  have hs1 := hs0.take k
  have hc := trimL_any a cap (l.take k) w0 hs1
  rw [List.length_take, Nat.min_eq_left hk] at hc
  refine hc.mono ?_
  rintro e w1 ⟨⟨p, n, c, rfl, hn2⟩, rfl⟩
  have HN := Lib.hid (hn2.trans hn)
  clear hn hn2
  refine hK'.out _ _ trivial (fun _ => ?_)
  clear hK'
  (try simp only [Act.put]); (try simp only [List.setIfInBounds_toArray]); (try simp only [List.set_cons_succ]); (try simp only [List.set_cons_zero])
  refine tkT 7 rfl (by intro wS hSw; go_simp; (try with_reducible rfl)) ?_
  refine wpAnyH_done (by kernel_rfl) ?_ _
  go_wp2
  go_ret
  exact ⟨⟨p, n, c, rfl, HN.out⟩, hb0⟩
set_option maxRecDepth 100000 in
theorem noughts_any (a : Option Addr) (cap : Nat) (l : List UInt8) (w : World) (hs : SlB w a cap l) : Calls Tryz.prog 225 #[.slice a l.length cap] w fun e w' => e = .returned (.bool (noughtsB l)) ∧ Below w.heap.size w w' := by
 go_enter Tryz.func225, Tryz.ntmps225
 go_wp2_with (go_at_call 236; refine (trim_any a cap l _ hs).mono ?_; rintro e w1 ⟨⟨p, n, c, rfl, hn⟩, hb1⟩; have HN := Lib.hid hn; clear hn)
 go_ret
 exact ⟨ret_bool HN.out, hb1⟩
set_option maxRecDepth 100000 in
theorem room_any (n : Nat) (w : World) : Calls Tryz.prog 116 #[.int .i64 (n : Int)] w fun e w' => e = .returned (.int .i64 (roomN (64 * n) : Nat)) ∧ w = w' := by
 by_cases h1 : n = 1
 ·subst h1
  go_enter Tryz.func116, Tryz.ntmps116
  go_wp2
  go_ret
  exact ⟨rfl, rfl⟩
 ·by_cases h2 : n = 2
  ·subst h2
   go_enter Tryz.func116, Tryz.ntmps116
   go_wp2
   go_ret
   exact ⟨rfl, rfl⟩
  ·have hr : roomN (64 * n) = 0 := by unfold roomN; rw [if_neg (by omega), if_neg (by omega)]
   rw [hr]
   have a1 : ((n : Int) != 1) = true := by rw [bne_iff_ne]; omega
   have a2 : ((n : Int) != 2) = true := by rw [bne_iff_ne]; omega
   clear hr
   go_enter Tryz.func116, Tryz.ntmps116
   go_wp2
   go_ret
   exact ⟨rfl, rfl⟩
end Go.Proofs.YtbdonjenekhmdaaGreatDoor
namespace Go.Proofs.YtbdonjenekhmdaaGreatDoor
open Go.RowKit
def tlA (t : Tg) : Nat → Array Value
 | 0 => #[.int .i64 0, .int .i64 0, .int .i64 0, .int .i64 0, .int .i64 0]
 | 1 => #[.int .i64 t.rep, .int .i64 0, .int .i64 0, .int .i64 0, .int .i64 0]
 | 2 => #[.int .i64 t.rep, .int .i64 t.reg, .int .i64 0, .int .i64 0, .int .i64 0]
 | 3 => #[.int .i64 t.rep, .int .i64 t.reg, .int .i64 t.pla, .int .i64 0, .int .i64 0]
 | 4 => #[.int .i64 t.rep, .int .i64 t.reg, .int .i64 t.pla, .int .i64 t.idx, .int .i64 0]
 | _ => #[.int .i64 t.rep, .int .i64 t.reg, .int .i64 t.pla, .int .i64 t.idx, .int .i64 t.inc]
def posT : Nat → Int
 | 0 => 0 | 1 => 1 | 2 => 2 | 3 => 3 | 4 => 9 | _ => 15
def parseT (l : List UInt8) : Tg × Int := if mayTg (tagAt l 0) = true then (tagAt l 0, 0) else (zeroTg, 30)
theorem st5 (x : Array Value) (hx : x.size = 5) (a b c d e : Int) : 0 + 5 ≤ x.size ∧ (tgV ⟨a, b, c, d, e⟩).cells.size = 5 ∧ (∀ u ∈ (tgV ⟨a, b, c, d, e⟩).cells.toList, u.oneCell' = true) ∧ (x.toList.take 0 ++ (tgV ⟨a, b, c, d, e⟩).cells.toList ++ x.toList.drop (0 + 5)).toArray = #[.int .i64 a, .int .i64 b, .int .i64 c, .int .i64 d, .int .i64 e] := by
 refine ⟨by omega, rfl, by simp [Value.cells, Value.oneCell'], ?_⟩
 rw [List.drop_of_length_le (by rw [Array.length_toList]; omega)]
 rfl
theorem ld5 (a b c d e : Int) : 0 + 5 ≤ (#[Value.int .i64 a, .int .i64 b, .int .i64 c, .int .i64 d, .int .i64 e]).size ∧ (#[Value.int .i64 a, .int .i64 b, .int .i64 c, .int .i64 d, .int .i64 e]).extract 0 (0 + 5) = #[Value.int .i64 a, .int .i64 b, .int .i64 c, .int .i64 d, .int .i64 e] := ⟨Nat.le_refl 5, rfl⟩
theorem oneI (x : Int) : ∀ u ∈ (Value.int .i64 x).cells.toList, u.oneCell' = true := by simp [Value.cells, Value.oneCell']
set_option maxRecDepth 100000 in
set_option maxHeartbeats 8000000 in
theorem tparse_any (a : Option Addr) (cap : Nat) (l : List UInt8) (w : World) (hs : SlB w a cap l) (hl : l.length = 15) : Calls Tryz.prog 226 #[.slice a 15 cap] w fun e w' => e = .returned (.tuple #[tgV (parseT l).1, .int .i64 (parseT l).2]) ∧ Below w.heap.size w w' := by
 have gk0 : ∀ w, SlB w a cap l → Calls Tryz.prog 99 #[.slice a 15 cap, .int .i64 0, .int .i64 1] w fun e w' => e = .returned (.tuple #[.int .i64 (tagAt l 0).rep, .int .i64 1, .int .i64 0]) ∧ Below w.heap.size w w' := fun w h => by
  have := get_ok a cap l 0 1 w h (by omega) (by omega)
  rw [hl] at this
  exact this
 have gk1 : ∀ w, SlB w a cap l → Calls Tryz.prog 99 #[.slice a 15 cap, .int .i64 1, .int .i64 1] w fun e w' => e = .returned (.tuple #[.int .i64 (tagAt l 0).reg, .int .i64 2, .int .i64 0]) ∧ Below w.heap.size w w' := fun w h => by
  have := get_ok a cap l 1 1 w h (by omega) (by omega)
  rw [hl] at this
  exact this
 have gk2 : ∀ w, SlB w a cap l → Calls Tryz.prog 99 #[.slice a 15 cap, .int .i64 2, .int .i64 1] w fun e w' => e = .returned (.tuple #[.int .i64 (tagAt l 0).pla, .int .i64 3, .int .i64 0]) ∧ Below w.heap.size w w' := fun w h => by
  have := get_ok a cap l 2 1 w h (by omega) (by omega)
  rw [hl] at this
  exact this
 have gk3 : ∀ w, SlB w a cap l → Calls Tryz.prog 99 #[.slice a 15 cap, .int .i64 3, .int .i64 6] w fun e w' => e = .returned (.tuple #[.int .i64 (tagAt l 0).idx, .int .i64 9, .int .i64 0]) ∧ Below w.heap.size w w' := fun w h => by
  have := get_ok a cap l 3 6 w h (by omega) (by omega)
  rw [hl] at this
  exact this
 have gk4 : ∀ w, SlB w a cap l → Calls Tryz.prog 99 #[.slice a 15 cap, .int .i64 9, .int .i64 6] w fun e w' => e = .returned (.tuple #[.int .i64 (tagAt l 0).inc, .int .i64 15, .int .i64 0]) ∧ Below w.heap.size w w' := fun w h => by
  have := get_ok a cap l 9 6 w h (by omega) (by omega)
  rw [hl] at this
  exact this
 have HL := Lib.hid hl
 clear hl
 have i0 : ∀ (w : World), (Instr.index 282 widV (.int .i64 0)).run Tryz.prog w = .ok (.int .i64 1) w := fun _ => by kernel_rfl
 have i1 : ∀ (w : World), (Instr.index 282 widV (.int .i64 1)).run Tryz.prog w = .ok (.int .i64 1) w := fun _ => by kernel_rfl
 have i2 : ∀ (w : World), (Instr.index 282 widV (.int .i64 2)).run Tryz.prog w = .ok (.int .i64 1) w := fun _ => by kernel_rfl
 have i3 : ∀ (w : World), (Instr.index 282 widV (.int .i64 3)).run Tryz.prog w = .ok (.int .i64 6) w := fun _ => by kernel_rfl
 have i4 : ∀ (w : World), (Instr.index 282 widV (.int .i64 4)).run Tryz.prog w = .ok (.int .i64 6) w := fun _ => by kernel_rfl
 go_enter Tryz.func226, Tryz.ntmps226
 refine seqH (fun K HK => ?_)
 go_wp2
 refine HK.out _ _ ?_
 clear HK
 refine seqH (fun K HK => ?_)
 go_wp2
 refine HK.out _ _ ?_
 clear HK
 have B2 := tr_al (Obj.cells (tlA (tagAt l 0) 0) 282) (heap_alloc_new w (Obj.cells #[.int .i64 0, .int .i64 0, .int .i64 0, .int .i64 0, .int .i64 0] 39))
 have B4 := heap_alloc_new (w.alloc (Obj.cells #[.int .i64 0, .int .i64 0, .int .i64 0, .int .i64 0, .int .i64 0] 39)) (Obj.cells (tlA (tagAt l 0) 0) 282)
 have hb0 := (blw w (Obj.cells #[.int .i64 0, .int .i64 0, .int .i64 0, .int .i64 0, .int .i64 0] 39)).alloc (by simp) (Obj.cells (tlA (tagAt l 0) 0) 282)
 rw [show (w.alloc (Obj.cells #[.int .i64 0, .int .i64 0, .int .i64 0, .int .i64 0, .int .i64 0] 39)).heap.size = w.heap.size + 1 by simp] at B4
 change Code.wp _ _ _ _ ((w.alloc (Obj.cells #[.int .i64 0, .int .i64 0, .int .i64 0, .int .i64 0, .int .i64 0] 39)).alloc (Obj.cells (tlA (tagAt l 0) 0) 282))
 generalize (w.alloc (Obj.cells #[.int .i64 0, .int .i64 0, .int .i64 0, .int .i64 0, .int .i64 0] 39)).alloc (Obj.cells (tlA (tagAt l 0) 0) 282) = w0 at *
 refine seqH (fun K HK => ?_)
 go_wp2
 refine HK.out _ _ ?_
 clear HK
 refine seqH (fun K HK => ?_)
 go_wp2_with (go_at_call 212; refine (widths_any _).mono ?_; rintro e w1 ⟨rfl, hb1⟩; have hb01 := hb0.trans (hb1.mono hb0.size); have A2 := tr_bl hb1 B2; have A4 := tr_bl hb1 B4)
 go_loopw [13, 5, 6, 7, 8, 9, 10] (fun i p _ _ _ _ _ wr => ∃ (j : Nat), j ≤ 5 ∧ i = .int .i64 (j : Nat) ∧ p = .int .i64 (posT j) ∧ wr.heap[w.heap.size + 1]? = some (.cells (tlA (tagAt l 0) j) 282 (0, 0)) ∧ wr.heap[w.heap.size]? = some (.cells #[.int .i64 0, .int .i64 0, .int .i64 0, .int .i64 0, .int .i64 0] 39 (0, 0)) ∧ Below w.heap.size w wr) (fun i _ _ _ _ _ _ _ => 5 - (intOf i).toNat)
 case atStart => exact ⟨0, by omega, rfl, rfl, A4, A2, hb01⟩
 case round =>
  clear B2 B4 A2 A4 hb0 hb1 hb01
  obtain ⟨j, hj, rfl, rfl, B4, B2, hbr⟩ := hrel
  have hsr := hs.below hbr
  have h5 : j = 0 ∨ j = 1 ∨ j = 2 ∨ j = 3 ∨ j = 4 ∨ j = 5 := by omega
  rcases h5 with rfl | rfl | rfl | rfl | rfl | rfl
  ·have hpos : posT 0 = 0 := rfl
   rw [hpos]
   clear hpos
   go_wp2_with (first
    | (go_at_call 99; refine (gk0 _ hsr).mono ?_; rintro e w2 ⟨rfl, hb2⟩; have C4 := tr_bl hb2 B4; have C2 := tr_bl hb2 B2; have hb3 := hbr.trans (hb2.mono hbr.size))
    | ((with_reducible refine wpList_stB 3 _ _ ?_); refine ⟨_, _, _, ⟨_, _, _, Tryz.sizeOf3, rfl, C4, (⟨(by show _ ≤ 5; omega), rfl, oneI (tagAt l 0).rep, (show _ = tlA (tagAt l 0) (0 + 1) from rfl)⟩)⟩, ?_⟩; intro w5 B5 g5))
   go_roundw
   case rel => exact ⟨0 + 1, by omega, by rfl, by rfl, B5, tr_st g5 C2 (by omega), bl_st hb3 g5 hb3.size (by omega)⟩
   case measure => simp [intOf]
  ·have hpos : posT 1 = 1 := rfl
   rw [hpos]
   clear hpos
   go_wp2_with (first
    | (go_at_call 99; refine (gk1 _ hsr).mono ?_; rintro e w2 ⟨rfl, hb2⟩; have C4 := tr_bl hb2 B4; have C2 := tr_bl hb2 B2; have hb3 := hbr.trans (hb2.mono hbr.size))
    | ((with_reducible refine wpList_stB 3 _ _ ?_); refine ⟨_, _, _, ⟨_, _, _, Tryz.sizeOf3, rfl, C4, (⟨(by show _ ≤ 5; omega), rfl, oneI (tagAt l 0).reg, (show _ = tlA (tagAt l 0) (1 + 1) from rfl)⟩)⟩, ?_⟩; intro w5 B5 g5))
   go_roundw
   case rel => exact ⟨1 + 1, by omega, by rfl, by rfl, B5, tr_st g5 C2 (by omega), bl_st hb3 g5 hb3.size (by omega)⟩
   case measure => simp [intOf]
  ·have hpos : posT 2 = 2 := rfl
   rw [hpos]
   clear hpos
   go_wp2_with (first
    | (go_at_call 99; refine (gk2 _ hsr).mono ?_; rintro e w2 ⟨rfl, hb2⟩; have C4 := tr_bl hb2 B4; have C2 := tr_bl hb2 B2; have hb3 := hbr.trans (hb2.mono hbr.size))
    | ((with_reducible refine wpList_stB 3 _ _ ?_); refine ⟨_, _, _, ⟨_, _, _, Tryz.sizeOf3, rfl, C4, (⟨(by show _ ≤ 5; omega), rfl, oneI (tagAt l 0).pla, (show _ = tlA (tagAt l 0) (2 + 1) from rfl)⟩)⟩, ?_⟩; intro w5 B5 g5))
   go_roundw
   case rel => exact ⟨2 + 1, by omega, by rfl, by rfl, B5, tr_st g5 C2 (by omega), bl_st hb3 g5 hb3.size (by omega)⟩
   case measure => simp [intOf]
  ·have hpos : posT 3 = 3 := rfl
   rw [hpos]
   clear hpos
   go_wp2_with (first
    | (go_at_call 99; refine (gk3 _ hsr).mono ?_; rintro e w2 ⟨rfl, hb2⟩; have C4 := tr_bl hb2 B4; have C2 := tr_bl hb2 B2; have hb3 := hbr.trans (hb2.mono hbr.size))
    | ((with_reducible refine wpList_stB 3 _ _ ?_); refine ⟨_, _, _, ⟨_, _, _, Tryz.sizeOf3, rfl, C4, (⟨(by show _ ≤ 5; omega), rfl, oneI (tagAt l 0).idx, (show _ = tlA (tagAt l 0) (3 + 1) from rfl)⟩)⟩, ?_⟩; intro w5 B5 g5))
   go_roundw
   case rel => exact ⟨3 + 1, by omega, by rfl, by rfl, B5, tr_st g5 C2 (by omega), bl_st hb3 g5 hb3.size (by omega)⟩
   case measure => simp [intOf]
  ·have hpos : posT 4 = 9 := rfl
   rw [hpos]
   clear hpos
   go_wp2_with (first
    | (go_at_call 99; refine (gk4 _ hsr).mono ?_; rintro e w2 ⟨rfl, hb2⟩; have C4 := tr_bl hb2 B4; have C2 := tr_bl hb2 B2; have hb3 := hbr.trans (hb2.mono hbr.size))
    | ((with_reducible refine wpList_stB 3 _ _ ?_); refine ⟨_, _, _, ⟨_, _, _, Tryz.sizeOf3, rfl, C4, (⟨(by show _ ≤ 5; omega), rfl, oneI (tagAt l 0).inc, (show _ = tlA (tagAt l 0) (4 + 1) from rfl)⟩)⟩, ?_⟩; intro w5 B5 g5))
   go_roundw
   case rel => exact ⟨4 + 1, by omega, by rfl, by rfl, B5, tr_st g5 C2 (by omega), bl_st hb3 g5 hb3.size (by omega)⟩
   case measure => simp [intOf]
  ·have hpos : posT 5 = 15 := rfl
   rw [hpos]
   unfold parseT at HK
   have hsz := hbr.size
   have hlt4 := lt_blk B4
   generalize tagAt l 0 = t at *
   replace B4 : wr.heap[w.heap.size + 1]? = some (.cells #[.int .i64 t.rep, .int .i64 t.reg, .int .i64 t.pla, .int .i64 t.idx, .int .i64 t.inc] 282 (0, 0)) := B4
   have c0 := blk_cell B4 0 _ rfl
   have c1 := blk_cell B4 1 _ rfl
   have c2 := blk_cell B4 2 _ rfl
   have c3 := blk_cell B4 3 _ rfl
   have c4 := blk_cell B4 4 _ rfl
   obtain ⟨r, hr⟩ : ∃ r, mayTg t = r := ⟨_, rfl⟩
   have hmay := tmay_any t
   rw [hr] at hmay HK
   clear hr B4
   go_wp2
   refine HK.out _ _ ?_
   clear HK
   cases r
   case false =>
    rw [if_neg (by simp)]
    go_wp2_with (first
     | (go_at_call 139; refine (hmay _).mono ?_; rintro e w2 ⟨rfl, hb2⟩; have C2 := tr_bl hb2 (tr_al _ B2); have hb3 := (hbr.alloc hsz _).trans (hb2.mono (by simp; omega)))
     | ((with_reducible refine wpList_stB 39 _ _ ?_); refine ⟨_, _, _, ⟨_, _, _, Tryz.sizeOf39, rfl, C2, st5 _ rfl 0 0 0 0 0⟩, ?_⟩; intro w5 B5 g5))
    refine bodyPost_ret (results_c1t1 rfl rfl (run_loadVar_all Tryz.isAgg39 Tryz.sizeOf39 B5 rfl)) rfl ⟨rfl, bl_st hb3 g5 hb3.size (Nat.le_refl _)⟩
   case true =>
    rw [if_pos rfl]
    go_wp2_with (first
     | (go_at_call 139; refine (hmay _).mono ?_; rintro e w2 ⟨rfl, hb2⟩; have C2 := tr_bl hb2 (tr_al _ B2); have A5 := tr_bl hb2 (heap_alloc_new wr (Obj.cells #[.int .i64 t.rep, .int .i64 t.reg, .int .i64 t.pla, .int .i64 t.idx, .int .i64 t.inc] 39)); have hb3 := (hbr.alloc hsz _).trans (hb2.mono (by simp; omega)))
     | ((with_reducible refine wpList_ldB 39 _ ?_); refine ⟨rfl, _, ⟨_, _, _, _, _, Tryz.isAgg39, Tryz.sizeOf39, rfl, ‹_›, ld5 _ _ _ _ _⟩, ?_⟩)
     | ((with_reducible refine wpList_stB 39 _ _ ?_); refine ⟨_, _, _, ⟨_, _, _, Tryz.sizeOf39, rfl, C2, st5 _ rfl t.rep t.reg t.pla t.idx t.inc⟩, ?_⟩; intro w5 B5 g5))
    refine bodyPost_ret (results_c1t1 rfl rfl (run_loadVar_all Tryz.isAgg39 Tryz.sizeOf39 B5 rfl)) rfl ⟨rfl, bl_st hb3 g5 hb3.size (Nat.le_refl _)⟩
end Go.Proofs.YtbdonjenekhmdaaGreatDoor
namespace Go.Proofs.YtbdonjenekhmdaaGreatDoor
open Go.RowKit
theorem infoB : (Tryz.prog.info? 5).map (fun i => (i.zero.map (·.cells), i.size, i.bytes)) = some (some #[.int .u8 0], 1, 1) := by kernel_rfl
theorem made_bys (n : Nat) : madeCells #[.int .u8 0] (n * 1) = (bys (List.replicate n 0)).toArray := by
 apply Array.ext_getElem?
 intro k
 by_cases hk : k < n
 ·unfold madeCells
  rw [Array.getElem?_map, Array.getElem?_range, if_pos (by omega)]
  show some ((#[Value.int .u8 0] : Array Value)[k % 1]!) = _
  rw [Nat.mod_one]
  simp [bys, byv, hk]
 ·rw [Array.getElem?_eq_none (by rw [size_madeCells]; omega), Array.getElem?_eq_none (by rw [List.size_toArray, bys_len, List.length_replicate]; omega)]
theorem make_bys (n : Nat) (hn : n ≤ 1000000) (w : World) : (Instr.makeSlice 37 (.int .i64 n) (.int .i64 n)).run Tryz.prog w = .ok (.slice (some ⟨w.heap.size, 0, none⟩) n n) (w.alloc (.cells (bys (List.replicate n 0)).toArray 5)) := by
 obtain ⟨i, hi, h2⟩ := Option.map_eq_some_iff.1 infoB
 simp only [Prod.mk.injEq] at h2
 obtain ⟨hz, hsz, hb⟩ := h2
 obtain ⟨z, hz, hzc⟩ := Option.map_eq_some_iff.1 hz
 have := run_make (P := Tryz.prog) w 37 5 i z Tryz.underlying37 hi hz .i64 .i64 n n (by omega) (by omega) (by rw [hb]; omega) (by omega)
 rw [hsz, hzc] at this
 simp only [Int.toNat_natCast] at this
 rw [made_bys] at this
 exact this
theorem sizeByte : (Tryz.prog.info? 5).map (·.size) = some 1 := by kernel_rfl
/-! The frame's bytes in three steps. -/
section
variable {t : Tg} {body : List UInt8} {n : Nat}
def jnF (t : Tg) (body : List UInt8) : List UInt8 := le 2 body.length ++ (tagB t ++ body)
theorem jnF_len (t : Tg) (body : List UInt8) : (jnF t body).length = 17 + body.length := by
 unfold jnF
 rw [List.length_append, List.length_append, le_len, tagB_len]
 omega
theorem rep_split (a b : Nat) : List.replicate (a + b) (0 : UInt8) = List.replicate a 0 ++ List.replicate b 0 := by rw [List.replicate_append_replicate]
theorem seal_1 (hn : 0 < roomN n) (hb : body.length ≤ roomN n) : splice (bys (List.replicate n 0)) 0 (bys (jnF t body)) = bys (headF t body n ++ List.replicate 4 0) := by
 obtain ⟨_, hr⟩ := roomN_of hn
 unfold splice
 rw [List.take_zero, List.nil_append, bys_len, jnF_len, Nat.zero_add]
 have e1 : (bys (List.replicate n 0)).drop (17 + body.length) = bys (List.replicate (n - 21 - body.length) 0 ++ List.replicate 4 0) := by
  unfold bys
  rw [← List.map_drop, List.drop_replicate, show n - (17 + body.length) = (n - 21 - body.length) + 4 by omega, rep_split]
 rw [e1, ← bys_app]
 congr 1
 unfold jnF headF
 simp only [List.append_assoc]
theorem seal_2 (hn : 0 < roomN n) (hb : body.length ≤ roomN n) (s : List UInt8) (hs : s.length = 4) : splice (bys (headF t body n ++ List.replicate 4 0)) (n - 4) (bys s) = bys (headF t body n ++ s) := by
 have hl := headF_len (t := t) hn hb
 unfold splice
 have e1 : (bys (headF t body n ++ List.replicate 4 0)).take (n - 4) = bys (headF t body n) := by
  rw [bys_app, ← hl, ← bys_len (headF t body n), List.take_left]
 have e2 : (bys (headF t body n ++ List.replicate 4 0)).drop (n - 4 + (bys s).length) = [] := by
  rw [List.drop_of_length_le]
  rw [bys_len, bys_len, List.length_append, hl, hs, List.length_replicate]
  omega
 rw [e1, e2, List.append_nil, ← bys_app]
end
end Go.Proofs.YtbdonjenekhmdaaGreatDoor
namespace Go.Proofs.YtbdonjenekhmdaaGreatDoor
open Go.RowKit
def zrA (n : Nat) : Array Value := (bys (List.replicate n 0)).toArray
theorem row_pre {w : World} {g : Nat} {xs ys : List UInt8} (h : w.heap[g]? = some (.cells (bys (xs ++ ys)).toArray 5 (0, 0))) : Row w (some ⟨g, 0, none⟩) (bys xs) :=
 Row.of_block h 0 (fun i u hu => by
  rw [Nat.zero_add, bys_app, List.getElem?_append_left (List.getElem?_eq_some_iff.1 hu).1]
  exact hu)
theorem oput_len {n : Nat} (h : n ≤ 1000) : oputL 2 (n : Int) = le 2 n := oput_one (k := 2) (by omega) (by show _ < 65536; omega)
theorem oput4 {z : Nat} (h : z < 4294967296) : oputL 4 (z : Int) = le 4 z := oput_one (k := 4) (by omega) (by show _ < 4294967296; omega)
set_option maxRecDepth 100000 in
set_option maxHeartbeats 8000000 in
theorem seal1 (t : Tg) (a : Option Addr) (cap : Nat) (body : List UInt8) (w : World) (hs : SlB w a cap body) (ht : mayTg t = true) (hb : body.length ≤ 43) : Calls Tryz.prog 110 #[tgV t, .slice a body.length cap, .int .i64 1] w fun e w' => (∃ g, e = .returned (.tuple #[.slice (some ⟨g, 0, none⟩) 64 64, .int .i64 0]) ∧ w.heap.size ≤ g ∧ w'.heap[g]? = some (.cells (bys (sealF t body 64)).toArray 5 (0, 0))) ∧ Below w.heap.size w w' := by
 have hroom : ∀ w, Calls Tryz.prog 116 #[.int .i64 1] w fun e w' => e = .returned (.int .i64 43) ∧ w = w' := fun w => room_any 1 w
 have hb1000 : body.length ≤ 1000 := by omega
 have HT := Lib.hid ht
 clear ht
 go_enter Tryz.func110, Tryz.ntmps110
 refine seqH (fun K HK => ?_)
 go_wp2
 refine HK.out _ _ ?_
 clear HK
 refine seqH (fun K HK => ?_)
 go_wp2_with (go_at_call 178; refine (tprint_ok t _ HT.out).mono ?_; rintro e w1 ⟨⟨a1, c1, rfl, o1⟩, hb1⟩)
 refine HK.out _ _ ?_
 clear HK
 have hbB := blw w (Obj.cells #[.int .i64 t.rep, .int .i64 t.reg, .int .i64 t.pla, .int .i64 t.idx, .int .i64 t.inc] 39)
 have hb01 := hbB.trans (hb1.mono hbB.size)
 have hs1 := hs.below hb01
 have o1' := owns_mono o1 hbB.size
 clear hb1 o1 hbB
 refine seqH (fun K HK => ?_)
 go_wp2_with (go_at_call 116; refine (hroom _).mono ?_; rintro e w2 ⟨rfl, rfl⟩)
 refine HK.out _ _ ?_
 clear HK
 refine seqH (fun K HK => ?_)
 go_wp2_with (go_at_call 117; refine (put_any 2 (body.length : Int) _).mono ?_; rintro e w2 ⟨⟨v2, rfl, o2⟩, hb2⟩; rw [oput_len hb1000, le_len] at o2; obtain ⟨a2, c2, rfl, r2, n2, m2⟩ := Row.of_owns o2)
 refine HK.out _ _ ?_
 clear HK
 have hmk : (Instr.makeSlice 37 (.int .i64 64) (.int .i64 64)).run Tryz.prog w2 = .ok (.slice (some ⟨w2.heap.size, 0, none⟩) 64 64) (w2.alloc (.cells (zrA 64) 5)) := make_bys 64 (by decide) w2
 refine seqH (fun K HK => ?_)
 go_wp2
 refine HK.out _ _ ?_
 clear HK
 have hb02 := hb01.trans (hb2.mono hb01.size)
 have hG := hb02.size
 have hbz := blw w2 (Obj.cells (zrA 64) 5)
 have Z := heap_alloc_new w2 (Obj.cells (zrA 64) 5)
 have ho1 := owns_bl (owns_bl o1' hb2) hbz
 have ho2 := owns_bl o2 hbz
 have hsz := (hs1.below hb2).below hbz
 have hb0z := hb02.trans (hbz.mono hG)
 clear hmk hb2 o2 r2 n2 m2 o1' hs1 hb01 hbz
 generalize w2.alloc (Obj.cells (zrA 64) 5) = wz at *
 generalize w2.heap.size = G at *
 have hGz := lt_blk Z
 have hb8 := blw wz (Obj.cells #[.slice a2 2 c2, .slice a1 15 c1, .slice a body.length cap] 37)
 have P8 : Parts (wz.alloc (Obj.cells #[.slice a2 2 c2, .slice a1 15 c1, .slice a body.length cap] 37)) (some ⟨wz.heap.size, 0, none⟩) [(a2, c2, le 2 body.length), (a1, c1, tagB t), (a, cap, body)] := by
  constructor
  ·exact Row.of_block (cs := [.slice a2 2 c2, .slice a1 15 c1, .slice a body.length cap]) (heap_alloc_new wz _) 0 (fun i u hu => by rw [Nat.zero_add]; exact hu)
  ·intro x hx
   simp only [List.mem_cons, List.not_mem_nil, or_false] at hx
   rcases hx with rfl | rfl | rfl
   ·obtain ⟨_, _, e, h⟩ := SlB.of_owns (l := le 2 body.length) (by rw [le_len]; exact ho2)
    rw [le_len] at e
    cases e
    exact h.below hb8
   ·obtain ⟨_, _, e, h⟩ := SlB.of_owns (l := tagB t) (by rw [tagB_len]; exact ho1)
    rw [tagB_len] at e
    cases e
    exact h.below hb8
   ·exact hsz.below hb8
 have hJ : joinP [(a2, c2, le 2 body.length), (a1, c1, tagB t), (a, cap, body)] = jnF t body := by simp [joinP, jnF]
 have hj := join_any (some ⟨wz.heap.size, 0, none⟩) 3 _ _ P8 (by simp) (by rw [hJ, jnF_len]; omega)
 rw [hJ, jnF_len] at hj
 have Z8 := tr_al (Obj.cells #[.slice a2 2 c2, .slice a1 15 c1, .slice a body.length cap] 37) Z
 have hb08 := hb0z.trans (hb8.mono hb0z.size)
 have hbl := Lib.hid (jnF_len t body)
 clear P8 hJ ho1 ho2 hsz hb0z hb8 Z
 refine seqH (fun K HK => ?_)
 go_wp2_with (first
   | (go_at_call 179; refine hj.mono ?_; rintro e w9 ⟨⟨a9, c9, rfl, o9⟩, hb9⟩; clear hj; have Z9 := tr_bl hb9 Z8; have hb09 := hb08.trans (hb9.mono hb08.size); obtain ⟨_, _, e9, r9, n9, m9⟩ := Row.of_owns o9; cases e9; obtain ⟨b9, f9, rfl, hc9⟩ := r9.at (k := 0) (by rw [bys_len, hbl.out]; omega); clear r9 o9)
   | (refine wpList_copyK rfl _ _ 37 37 5 1 Tryz.underlying37 sizeByte rfl G 0 64 64 ⟨b9, f9, none⟩ (17 + body.length) c9 rfl rfl (bys (List.replicate 64 0)) 5 (bys (jnF t body)) Z9 ?_ (fun j v hv => by rw [addr_add]; exact hc9 j v hv) ?_ bys_one ?_; (rw [bys_len, hbl.out]; exact (Nat.mul_one _).symm ▸ (Nat.min_eq_left (by omega)).symm); (rw [bys_len, bys_len, hbl.out, List.length_replicate]; omega); intro w10 Z10 g10))
 refine HK.out _ _ ?_
 clear HK
 (try simp only [Act.put]); (try simp only [List.setIfInBounds_toArray]); (try simp only [List.set_cons_succ]); (try simp only [List.set_cons_zero])
 have Z10' : w10.heap[G]? = some (.cells (bys (headF t body 64 ++ List.replicate 4 0)).toArray 5 (0, 0)) := by
  have h := Z10.out
  rw [seal_1 (n := 64) (by decide) hb] at h
  exact h
 have hb10 := bl_st hb09 g10 hb09.size hG
 have hlen : (headF t body 64).length = 60 := headF_len (n := 64) (by decide) hb
 have hsum := sum_any (some ⟨G, 0, none⟩) 64 (headF t body 64) w10 ⟨row_pre Z10', by rw [hlen]; omega, by unfold maxLen; omega, fun e => by cases e⟩
 rw [hlen] at hsum
 have hcr := crcS_lt (headF t body 64)
 obtain ⟨z, hz⟩ : ∃ z, crcS (headF t body 64) = z := ⟨_, rfl⟩
 rw [hz] at hsum hcr
 have HZ := Lib.hid hz
 have HL := Lib.hid hlen
 clear hz hlen Z10 g10 hb09 hb08 Z9 hc9
 refine seqH (fun K HK => ?_)
 go_wp2
 refine HK.out _ _ ?_
 clear HK
 refine seqH (fun K HK => ?_)
 go_wp2_with (first
   | (go_at_call 180; refine hsum.mono ?_; rintro e w11 ⟨rfl, hb11⟩; clear hsum; have Z11 := tr_bl hb11 Z10'; have hb1 := hb10.trans (hb11.mono hb10.size))
   | (go_at_call 117; refine (put_any 4 (z : Int) _).mono ?_; rintro e w12 ⟨⟨v12, rfl, o12⟩, hb12⟩; rw [oput4 hcr, le_len] at o12; have Z12 := tr_bl hb12 Z11; have hb3 := hb1.trans (hb12.mono hb1.size); obtain ⟨a12, c12, rfl, r12, n12, m12⟩ := Row.of_owns o12; obtain ⟨b12, f12, rfl, hc12⟩ := r12.at (k := 0) (by rw [bys_len, le_len]; omega); clear r12 o12))
 refine HK.out _ _ ?_
 clear HK
 refine seqH (fun K HK => ?_)
 go_wp2_with (refine wpList_copyK rfl _ _ 37 37 5 1 Tryz.underlying37 sizeByte rfl G 60 4 4 ⟨b12, f12, none⟩ 4 c12 rfl rfl (bys (headF t body 64 ++ List.replicate 4 0)) 5 (bys (le 4 z)) Z12 ?_ (fun j v hv => by rw [addr_add]; exact hc12 j v hv) ?_ bys_one ?_; (rw [bys_len, le_len]; rfl); (rw [bys_len, bys_len, le_len, List.length_append, HL.out, List.length_replicate]; omega); intro w13 Z13 g13)
 refine HK.out _ _ ?_
 clear HK
 (try simp only [Act.put]); (try simp only [List.setIfInBounds_toArray]); (try simp only [List.set_cons_succ]); (try simp only [List.set_cons_zero])
 have Z14 : w13.heap[G]? = some (.cells (bys (sealF t body 64)).toArray 5 (0, 0)) := by
  have h := Z13.out
  rw [seal_2 (n := 64) (by decide) hb _ (le_len 4 z)] at h
  unfold sealF
  rw [HZ.out]
  exact h
 have hb4 := bl_st hb3 g13 hb3.size hG
 clear Z13 Z12 Z11 Z10'
 go_wp2
 go_ret2
 exact ⟨⟨G, rfl, hG, Z14⟩, hb4⟩
set_option maxRecDepth 100000 in
set_option maxHeartbeats 8000000 in
theorem seal2 (t : Tg) (a : Option Addr) (cap : Nat) (body : List UInt8) (w : World) (hs : SlB w a cap body) (ht : mayTg t = true) (hb : body.length ≤ 88) : Calls Tryz.prog 110 #[tgV t, .slice a body.length cap, .int .i64 2] w fun e w' => (∃ g, e = .returned (.tuple #[.slice (some ⟨g, 0, none⟩) 128 128, .int .i64 0]) ∧ w.heap.size ≤ g ∧ w'.heap[g]? = some (.cells (bys (sealF t body 128)).toArray 5 (0, 0))) ∧ Below w.heap.size w w' := by
 have hroom : ∀ w, Calls Tryz.prog 116 #[.int .i64 2] w fun e w' => e = .returned (.int .i64 88) ∧ w = w' := fun w => room_any 2 w
 have hb1000 : body.length ≤ 1000 := by omega
 have HT := Lib.hid ht
 clear ht
 go_enter Tryz.func110, Tryz.ntmps110
 refine seqH (fun K HK => ?_)
 go_wp2
 refine HK.out _ _ ?_
 clear HK
 refine seqH (fun K HK => ?_)
 go_wp2_with (go_at_call 178; refine (tprint_ok t _ HT.out).mono ?_; rintro e w1 ⟨⟨a1, c1, rfl, o1⟩, hb1⟩)
 refine HK.out _ _ ?_
 clear HK
 have hbB := blw w (Obj.cells #[.int .i64 t.rep, .int .i64 t.reg, .int .i64 t.pla, .int .i64 t.idx, .int .i64 t.inc] 39)
 have hb01 := hbB.trans (hb1.mono hbB.size)
 have hs1 := hs.below hb01
 have o1' := owns_mono o1 hbB.size
 clear hb1 o1 hbB
 refine seqH (fun K HK => ?_)
 go_wp2_with (go_at_call 116; refine (hroom _).mono ?_; rintro e w2 ⟨rfl, rfl⟩)
 refine HK.out _ _ ?_
 clear HK
 refine seqH (fun K HK => ?_)
 go_wp2_with (go_at_call 117; refine (put_any 2 (body.length : Int) _).mono ?_; rintro e w2 ⟨⟨v2, rfl, o2⟩, hb2⟩; rw [oput_len hb1000, le_len] at o2; obtain ⟨a2, c2, rfl, r2, n2, m2⟩ := Row.of_owns o2)
 refine HK.out _ _ ?_
 clear HK
 have hmk : (Instr.makeSlice 37 (.int .i64 128) (.int .i64 128)).run Tryz.prog w2 = .ok (.slice (some ⟨w2.heap.size, 0, none⟩) 128 128) (w2.alloc (.cells (zrA 128) 5)) := make_bys 128 (by decide) w2
 refine seqH (fun K HK => ?_)
 go_wp2
 refine HK.out _ _ ?_
 clear HK
 have hb02 := hb01.trans (hb2.mono hb01.size)
 have hG := hb02.size
 have hbz := blw w2 (Obj.cells (zrA 128) 5)
 have Z := heap_alloc_new w2 (Obj.cells (zrA 128) 5)
 have ho1 := owns_bl (owns_bl o1' hb2) hbz
 have ho2 := owns_bl o2 hbz
 have hsz := (hs1.below hb2).below hbz
 have hb0z := hb02.trans (hbz.mono hG)
 clear hmk hb2 o2 r2 n2 m2 o1' hs1 hb01 hbz
 generalize w2.alloc (Obj.cells (zrA 128) 5) = wz at *
 generalize w2.heap.size = G at *
 have hGz := lt_blk Z
 have hb8 := blw wz (Obj.cells #[.slice a2 2 c2, .slice a1 15 c1, .slice a body.length cap] 37)
 have P8 : Parts (wz.alloc (Obj.cells #[.slice a2 2 c2, .slice a1 15 c1, .slice a body.length cap] 37)) (some ⟨wz.heap.size, 0, none⟩) [(a2, c2, le 2 body.length), (a1, c1, tagB t), (a, cap, body)] := by
  constructor
  ·exact Row.of_block (cs := [.slice a2 2 c2, .slice a1 15 c1, .slice a body.length cap]) (heap_alloc_new wz _) 0 (fun i u hu => by rw [Nat.zero_add]; exact hu)
  ·intro x hx
   simp only [List.mem_cons, List.not_mem_nil, or_false] at hx
   rcases hx with rfl | rfl | rfl
   ·obtain ⟨_, _, e, h⟩ := SlB.of_owns (l := le 2 body.length) (by rw [le_len]; exact ho2)
    rw [le_len] at e
    cases e
    exact h.below hb8
   ·obtain ⟨_, _, e, h⟩ := SlB.of_owns (l := tagB t) (by rw [tagB_len]; exact ho1)
    rw [tagB_len] at e
    cases e
    exact h.below hb8
   ·exact hsz.below hb8
 have hJ : joinP [(a2, c2, le 2 body.length), (a1, c1, tagB t), (a, cap, body)] = jnF t body := by simp [joinP, jnF]
 have hj := join_any (some ⟨wz.heap.size, 0, none⟩) 3 _ _ P8 (by simp) (by rw [hJ, jnF_len]; omega)
 rw [hJ, jnF_len] at hj
 have Z8 := tr_al (Obj.cells #[.slice a2 2 c2, .slice a1 15 c1, .slice a body.length cap] 37) Z
 have hb08 := hb0z.trans (hb8.mono hb0z.size)
 have hbl := Lib.hid (jnF_len t body)
 clear P8 hJ ho1 ho2 hsz hb0z hb8 Z
 refine seqH (fun K HK => ?_)
 go_wp2_with (first
   | (go_at_call 179; refine hj.mono ?_; rintro e w9 ⟨⟨a9, c9, rfl, o9⟩, hb9⟩; clear hj; have Z9 := tr_bl hb9 Z8; have hb09 := hb08.trans (hb9.mono hb08.size); obtain ⟨_, _, e9, r9, n9, m9⟩ := Row.of_owns o9; cases e9; obtain ⟨b9, f9, rfl, hc9⟩ := r9.at (k := 0) (by rw [bys_len, hbl.out]; omega); clear r9 o9)
   | (refine wpList_copyK rfl _ _ 37 37 5 1 Tryz.underlying37 sizeByte rfl G 0 128 128 ⟨b9, f9, none⟩ (17 + body.length) c9 rfl rfl (bys (List.replicate 128 0)) 5 (bys (jnF t body)) Z9 ?_ (fun j v hv => by rw [addr_add]; exact hc9 j v hv) ?_ bys_one ?_; (rw [bys_len, hbl.out]; exact (Nat.mul_one _).symm ▸ (Nat.min_eq_left (by omega)).symm); (rw [bys_len, bys_len, hbl.out, List.length_replicate]; omega); intro w10 Z10 g10))
 refine HK.out _ _ ?_
 clear HK
 (try simp only [Act.put]); (try simp only [List.setIfInBounds_toArray]); (try simp only [List.set_cons_succ]); (try simp only [List.set_cons_zero])
 have Z10' : w10.heap[G]? = some (.cells (bys (headF t body 128 ++ List.replicate 4 0)).toArray 5 (0, 0)) := by
  have h := Z10.out
  rw [seal_1 (n := 128) (by decide) hb] at h
  exact h
 have hb10 := bl_st hb09 g10 hb09.size hG
 have hlen : (headF t body 128).length = 124 := headF_len (n := 128) (by decide) hb
 have hsum := sum_any (some ⟨G, 0, none⟩) 128 (headF t body 128) w10 ⟨row_pre Z10', by rw [hlen]; omega, by unfold maxLen; omega, fun e => by cases e⟩
 rw [hlen] at hsum
 have hcr := crcS_lt (headF t body 128)
 obtain ⟨z, hz⟩ : ∃ z, crcS (headF t body 128) = z := ⟨_, rfl⟩
 rw [hz] at hsum hcr
 have HZ := Lib.hid hz
 have HL := Lib.hid hlen
 clear hz hlen Z10 g10 hb09 hb08 Z9 hc9
 refine seqH (fun K HK => ?_)
 go_wp2
 refine HK.out _ _ ?_
 clear HK
 refine seqH (fun K HK => ?_)
 go_wp2_with (first
   | (go_at_call 180; refine hsum.mono ?_; rintro e w11 ⟨rfl, hb11⟩; clear hsum; have Z11 := tr_bl hb11 Z10'; have hb1 := hb10.trans (hb11.mono hb10.size))
   | (go_at_call 117; refine (put_any 4 (z : Int) _).mono ?_; rintro e w12 ⟨⟨v12, rfl, o12⟩, hb12⟩; rw [oput4 hcr, le_len] at o12; have Z12 := tr_bl hb12 Z11; have hb3 := hb1.trans (hb12.mono hb1.size); obtain ⟨a12, c12, rfl, r12, n12, m12⟩ := Row.of_owns o12; obtain ⟨b12, f12, rfl, hc12⟩ := r12.at (k := 0) (by rw [bys_len, le_len]; omega); clear r12 o12))
 refine HK.out _ _ ?_
 clear HK
 refine seqH (fun K HK => ?_)
 go_wp2_with (refine wpList_copyK rfl _ _ 37 37 5 1 Tryz.underlying37 sizeByte rfl G 124 4 4 ⟨b12, f12, none⟩ 4 c12 rfl rfl (bys (headF t body 128 ++ List.replicate 4 0)) 5 (bys (le 4 z)) Z12 ?_ (fun j v hv => by rw [addr_add]; exact hc12 j v hv) ?_ bys_one ?_; (rw [bys_len, le_len]; rfl); (rw [bys_len, bys_len, le_len, List.length_append, HL.out, List.length_replicate]; omega); intro w13 Z13 g13)
 refine HK.out _ _ ?_
 clear HK
 (try simp only [Act.put]); (try simp only [List.setIfInBounds_toArray]); (try simp only [List.set_cons_succ]); (try simp only [List.set_cons_zero])
 have Z14 : w13.heap[G]? = some (.cells (bys (sealF t body 128)).toArray 5 (0, 0)) := by
  have h := Z13.out
  rw [seal_2 (n := 128) (by decide) hb _ (le_len 4 z)] at h
  unfold sealF
  rw [HZ.out]
  exact h
 have hb4 := bl_st hb3 g13 hb3.size hG
 clear Z13 Z12 Z11 Z10'
 go_wp2
 go_ret2
 exact ⟨⟨G, rfl, hG, Z14⟩, hb4⟩
end Go.Proofs.YtbdonjenekhmdaaGreatDoor
namespace Go.Proofs.YtbdonjenekhmdaaGreatDoor
open Go.RowKit
def OwnB (w : World) (base : Nat) (a : Option Addr) (c : Nat) (l : List UInt8) : Prop :=
 (a = none ∧ c = 0 ∧ l = []) ∨ ∃ g ys, a = some ⟨g, 0, none⟩ ∧ base ≤ g ∧ l.length ≤ c ∧ c ≤ maxLen ∧ w.heap[g]? = some (.cells (bys l ++ ys).toArray 5 (0, 0))
section
variable {w w' : World} {base c : Nat} {a : Option Addr} {l : List UInt8}
theorem OwnB.none (w : World) (base : Nat) : OwnB w base none 0 [] := .inl ⟨rfl, rfl, rfl⟩
theorem OwnB.below (h : OwnB w base a c l) (hb : Below w.heap.size w w') : OwnB w' base a c l := by
 rcases h with h | ⟨g, ys, h1, h2, h3, h4, h5⟩
 ·exact .inl h
 ·exact .inr ⟨g, ys, h1, h2, h3, h4, tr_bl hb h5⟩
theorem OwnB.kt {B : Nat} (h : OwnB w base a c l) (hk : Kt B w w') : OwnB w' base a c l := by
 rcases h with h | ⟨g, ys, h1, h2, h3, h4, h5⟩
 ·exact .inl h
 ·exact .inr ⟨g, ys, h1, h2, h3, h4, hk.ty _ _ _ h5 (by decide) (by decide) (by decide)⟩
theorem OwnB.st {j : Nat} {cs : Array Value} {T : TypeId} (h : OwnB w base a c l) (hg : w.grownBy w' (some j)) (hc : w.heap[j]? = some (.cells cs T (0, 0))) (hT : T ≠ 5) : OwnB w' base a c l := by
 rcases h with h | ⟨g, ys, h1, h2, h3, h4, h5⟩
 ·exact .inl h
 ·refine .inr ⟨g, ys, h1, h2, h3, h4, tr_st hg h5 ?_⟩
  rintro rfl
  rw [hc] at h5
  injection h5 with h5
  injection h5 with _ e
  exact hT e
theorem OwnB.mono {base' : Nat} (h : OwnB w base a c l) (hb : base' ≤ base) : OwnB w base' a c l := by
 rcases h with h | ⟨g, ys, h1, h2, h⟩
 ·exact .inl h
 ·exact .inr ⟨g, ys, h1, Nat.le_trans hb h2, h⟩
theorem OwnB.slb (h : OwnB w base a c l) : SlB w a c l := by
 rcases h with ⟨rfl, rfl, rfl⟩ | ⟨g, ys, rfl, h2, h3, h4, h5⟩
 ·exact ⟨.inl rfl, Nat.le_refl _, by simp, fun _ => rfl⟩
 ·refine ⟨Row.of_block h5 0 (fun i u hu => ?_), h3, h4, fun e => by cases e⟩
  rw [Nat.zero_add, List.getElem?_append_left (List.getElem?_eq_some_iff.1 hu).1]
  exact hu
theorem OwnB.of_owns {v : Value} (h : w.ownsRow base 5 1 v l.length (bys l)) (hv : v ≠ .slice .none 0 0) : ∃ g cap, v = .slice (some ⟨g, 0, .none⟩) l.length cap ∧ l.length ≤ cap ∧ cap ≤ maxLen ∧ OwnB w base (some ⟨g, 0, .none⟩) l.length l := by
 rcases h.2 with ⟨h1, h2⟩ | ⟨g, cap, cur, h1, h2, h3, h4, h5, h6, h7⟩
 ·exact absurd (by rw [h1]) hv
 ·refine ⟨g, cap, h1, h4, h5, .inr ⟨g, cur.toList.drop (bys l).length, rfl, h2, Nat.le_refl _, Nat.le_trans h4 h5, ?_⟩⟩
  rw [Nat.mul_one] at h7
  have e : bys l ++ cur.toList.drop (bys l).length = cur.toList := by
   rw [bys_len, ← h7, List.take_append_drop]
  rw [e, Array.toArray_toList]
  exact h3
end
theorem drop_take_getN (l : List UInt8) (k n p q : Nat) (h : p + q ≤ n) : getN ((l.drop k).take n) p q = getN l (k + p) q := by
 unfold getN
 rw [List.drop_take, List.take_take, List.drop_drop, Nat.min_eq_left (by omega)]
theorem tagAt_sub (l : List UInt8) (k : Nat) : tagAt ((l.drop k).take 15) 0 = tagAt l k := by
 unfold tagAt
 rw [drop_take_getN l k 15 0 1 (by omega), drop_take_getN l k 15 (0 + 1) 1 (by omega), drop_take_getN l k 15 (0 + 2) 1 (by omega), drop_take_getN l k 15 (0 + 3) 6 (by omega), drop_take_getN l k 15 (0 + 9) 6 (by omega)]
 simp only [Nat.zero_add, Nat.add_zero]
theorem SlB.sub {w : World} {b off cap : Nat} {l : List UInt8} (h : SlB w (some ⟨b, off, none⟩) cap l) (k n : Nat) (hk : k ≤ l.length) : SlB w (some ⟨b, off + k, none⟩) (cap - k) ((l.drop k).take n) := by
 have h1 := h.le
 have h2 := h.max
 refine ⟨?_, by rw [List.length_take, List.length_drop]; omega, by omega, fun e => by cases e⟩
 rcases h.row with h0 | ⟨b', off', e, hc⟩
 ·have : l = [] := by cases l with | nil => rfl | cons x l => simp [bys] at h0
  subst this
  exact .inl (by simp [bys])
 ·cases e
  refine .inr ⟨b, off + k, rfl, fun i u hu => ?_⟩
  rw [Nat.add_assoc]
  refine hc (k + i) u ?_
  have hi := (List.getElem?_eq_some_iff.1 hu).1
  rw [bys_len, List.length_take] at hi
  have e : bys ((l.drop k).take n) = ((bys l).drop k).take n := by simp [bys, List.map_take, List.map_drop]
  rw [e, List.getElem?_take_of_lt (by omega), List.getElem?_drop] at hu
  exact hu
theorem SlB.some_of {w : World} {a : Option Addr} {cap : Nat} {l : List UInt8} (h : SlB w a cap l) (hl : 0 < l.length) : ∃ b off, a = some ⟨b, off, none⟩ := by
 obtain ⟨b, off, e, _⟩ := h.row.at (k := 0) (by rw [bys_len]; exact hl)
 exact ⟨b, off, e⟩
set_option maxRecDepth 100000 in
theorem clone_any (ad : Addr) (cap : Nat) (l : List UInt8) (w : World) (hs : SlB w (some ad) cap l) (hl : l.length ≤ 1000) : Calls Tryz.prog 214 #[.slice (some ad) l.length cap] w fun e w' => (∃ g c, e = .returned (.slice (some ⟨g, 0, none⟩) l.length c) ∧ l.length ≤ c ∧ c ≤ maxLen ∧ OwnB w' w.heap.size (some ⟨g, 0, none⟩) l.length l) ∧ Below w.heap.size w w' := by
 have hq : (binOp .eql 37 (.slice (some ad) l.length cap) (.slice none 0 0)).run Tryz.prog w = .ok (.bool false) w := by
  have := Lib.run_eql_slice_nil (P := Tryz.prog) w 37 5 (some ad) l.length cap 0 0 Tryz.underlying37
  exact this
 go_enter Tryz.func214, Tryz.ntmps214
 refine seqH (fun K HK => ?_)
 go_wp2
 refine HK.out _ _ ?_
 clear HK
 refine seqH (fun K HK => ?_)
 go_wp2
 refine HK.out _ _ ?_
 clear HK
 clear hq
 have hbe := blw w (Obj.cells #[] 5)
 have ho := owns_empty w 5 1
 have hse := hs.below hbe
 cases l with
 | nil =>
  go_wp2_with (at_builtin; refine wpList_run rfl (exec_append _ _ _ _ rfl _ _ rfl rfl (run_append_nothing (P := Tryz.prog) _ 37 _ 5 elByte (some ⟨w.heap.size, 0, none⟩) 0 0 (Nat.le_refl _) (some ad) cap)) ?_)
  go_ret
  exact ⟨⟨w.heap.size, 0, rfl, Nat.le_refl _, by simp, .inr ⟨w.heap.size, [], rfl, Nat.le_refl _, Nat.le_refl _, by simp, heap_alloc_new w _⟩⟩, hbe⟩
 | cons x r =>
  have hpos : 0 < (x :: r).length := by simp
  generalize x :: r = l at *
  go_wp2_with (at_builtin; refine wpList_append_row rfl _ _ 37 5 elByte rfl w.heap.size _ 0 [] rfl ho (some ad) l.length cap (bys l) rfl (by rw [bys_len]; omega) hse.row bys_one (by omega) (by decide) hbe.size ?_; intro v4 w4 ho4 hb4)
  rw [Nat.zero_add, List.nil_append] at ho4
  obtain ⟨g, c, rfl, h1, h2, h3⟩ := OwnB.of_owns ho4 (by
   rintro rfl
   obtain ⟨g, cap, e, _⟩ := owns_some ho4 hpos
   cases e)
  go_ret
  exact ⟨⟨g, c, rfl, h1, h2, h3⟩, hbe.trans hb4⟩
end Go.Proofs.YtbdonjenekhmdaaGreatDoor
namespace Go.Proofs.YtbdonjenekhmdaaGreatDoor
open Go.RowKit
set_option maxRecDepth 100000 in
set_option maxHeartbeats 4000000 in
theorem kfits_any (k cnt : Int) (n : Nat) (hc : -1000 ≤ cnt ∧ cnt ≤ 1000) (w : World) : Calls Tryz.prog 185 #[.int .i64 k, .int .i64 cnt, .int .i64 (n : Int)] w fun e w' => e = .returned (.bool (fitsC k cnt n)) ∧ Below w.heap.size w w' := by
 unfold fitsC
 by_cases h1 : cnt < 1
 ·rw [if_pos (by omega)]
  go_enter Tryz.func185, Tryz.ntmps185
  go_wp2
  go_ret
  exact ⟨rfl, by (repeat' (first | (with_reducible exact Below.refl _ _) | (with_reducible assumption) | (with_reducible refine Below.alloc ?_ ?_ _) | (with_reducible refine Below.drew ?_) | (with_reducible refine below_drewN ?_ _) | (with_reducible refine Below.setCell ?_ ?_ _) | (with_reducible refine Below.trans ?_ (by assumption)) | go_size))⟩
 by_cases h2 : 8 < cnt
 ·rw [if_pos (by omega)]
  go_enter Tryz.func185, Tryz.ntmps185
  go_wp2
  go_ret
  exact ⟨rfl, by (repeat' (first | (with_reducible exact Below.refl _ _) | (with_reducible assumption) | (with_reducible refine Below.alloc ?_ ?_ _) | (with_reducible refine Below.drew ?_) | (with_reducible refine below_drewN ?_ _) | (with_reducible refine Below.setCell ?_ ?_ _) | (with_reducible refine Below.trans ?_ (by assumption)) | go_size))⟩
 by_cases h3 : k < 0
 ·rw [if_pos (by omega)]
  go_enter Tryz.func185, Tryz.ntmps185
  go_wp2
  go_ret
  exact ⟨rfl, by (repeat' (first | (with_reducible exact Below.refl _ _) | (with_reducible assumption) | (with_reducible refine Below.alloc ?_ ?_ _) | (with_reducible refine Below.drew ?_) | (with_reducible refine below_drewN ?_ _) | (with_reducible refine Below.setCell ?_ ?_ _) | (with_reducible refine Below.trans ?_ (by assumption)) | go_size))⟩
 by_cases h4 : cnt ≤ k
 ·rw [if_pos (by omega)]
  go_enter Tryz.func185, Tryz.ntmps185
  go_wp2
  go_ret
  exact ⟨rfl, by (repeat' (first | (with_reducible exact Below.refl _ _) | (with_reducible assumption) | (with_reducible refine Below.alloc ?_ ?_ _) | (with_reducible refine Below.drew ?_) | (with_reducible refine below_drewN ?_ _) | (with_reducible refine Below.setCell ?_ ?_ _) | (with_reducible refine Below.trans ?_ (by assumption)) | go_size))⟩
 by_cases h5 : 80 < n
 ·rw [if_pos (by omega)]
  have h5' : (80 : Int) < n := by omega
  go_enter Tryz.func185, Tryz.ntmps185
  go_wp2
  go_ret
  exact ⟨rfl, by (repeat' (first | (with_reducible exact Below.refl _ _) | (with_reducible assumption) | (with_reducible refine Below.alloc ?_ ?_ _) | (with_reducible refine Below.drew ?_) | (with_reducible refine below_drewN ?_ _) | (with_reducible refine Below.setCell ?_ ?_ _) | (with_reducible refine Below.trans ?_ (by assumption)) | go_size))⟩
 rw [if_neg (by omega)]
 have h5' : ¬ (80 : Int) < n := by omega
 by_cases h6 : k = cnt - 1
 ·rw [if_neg (by simpa using h6)]
  have h6' : (k == cnt - 1) = true := by simpa using h6
  clear h6
  by_cases h7 : 0 < n
  ·have h7' : (0 : Int) < n := by omega
   go_enter Tryz.func185, Tryz.ntmps185
   go_wp2
   go_ret
   exact ⟨ret_bool (by simp), by (repeat' (first | (with_reducible exact Below.refl _ _) | (with_reducible assumption) | (with_reducible refine Below.alloc ?_ ?_ _) | (with_reducible refine Below.drew ?_) | (with_reducible refine below_drewN ?_ _) | (with_reducible refine Below.setCell ?_ ?_ _) | (with_reducible refine Below.trans ?_ (by assumption)) | go_size))⟩
  ·have h7' : ¬ (0 : Int) < n := by omega
   go_enter Tryz.func185, Tryz.ntmps185
   go_wp2
   go_ret
   exact ⟨ret_bool (by rw [Bool.eq_iff_iff]; simp), by (repeat' (first | (with_reducible exact Below.refl _ _) | (with_reducible assumption) | (with_reducible refine Below.alloc ?_ ?_ _) | (with_reducible refine Below.drew ?_) | (with_reducible refine below_drewN ?_ _) | (with_reducible refine Below.setCell ?_ ?_ _) | (with_reducible refine Below.trans ?_ (by assumption)) | go_size))⟩
 ·rw [if_pos h6]
  have h6' : (k == cnt - 1) = false := by simpa using h6
  have h8 : ((n : Int) == 80) = decide (n = 80) := by rw [Bool.eq_iff_iff]; simp; omega
  clear h6
  go_enter Tryz.func185, Tryz.ntmps185
  go_wp2
  go_ret
  exact ⟨ret_bool rfl, by (repeat' (first | (with_reducible exact Below.refl _ _) | (with_reducible assumption) | (with_reducible refine Below.alloc ?_ ?_ _) | (with_reducible refine Below.drew ?_) | (with_reducible refine below_drewN ?_ _) | (with_reducible refine Below.setCell ?_ ?_ _) | (with_reducible refine Below.trans ?_ (by assumption)) | go_size))⟩
theorem u8_nat (n : Int) (h1 : 0 ≤ n) (h2 : n ≤ 255) : ((UInt8.ofNat n.toNat).toNat : Int) = n := by
 have e : (UInt8.ofNat n.toNat).toNat = n.toNat := by simp; omega
 rw [e]; omega
set_option maxRecDepth 100000 in
set_option maxHeartbeats 4000000 in
theorem kprint_any (cnt : Int) (h1 : 1 ≤ cnt) (h2 : cnt ≤ 8) (a : Option Addr) (cap : Nat) (c : List UInt8) (hc : c.length ≤ 80) (w : World) (hs : SlB w a cap c) : Calls Tryz.prog 109 #[.int .i64 cnt, .slice a c.length cap] w fun e w' =>
  (∃ v, e = .returned (.tuple #[v, .int .i64 0]) ∧ w'.ownsRow w.heap.size 5 1 v (ckB cnt c).length (bys (ckB cnt c))) ∧ Below w.heap.size w w' := by
 have i1 : ¬ cnt < 1 := by omega
 have i2 : ¬ 8 < cnt := by omega
 have i3 : ¬ (80 : Int) < c.length := by omega
 have hlen : (ckB cnt c).length = 1 + c.length := by unfold ckB; rw [List.length_cons]; omega
 have hby : bys (ckB cnt c) = [Value.int .u8 cnt] ++ bys c := by
  have e := u8_nat cnt (by omega) (by omega)
  unfold ckB bys
  rw [List.map_cons]
  unfold byv
  rw [e]
  rfl
 rw [hlen, hby]
 clear hlen hby
 have W1 : IntKind.u8.wrap cnt = cnt := IntWalk.u8_in _ (by omega)
 have ho := owns_of_cur (w := w.alloc (.cells #[Value.int .u8 cnt] 5)) (base := w.heap.size) (n := 1) (cap := 1) (size := 1) (cur := [Value.int .u8 cnt]) (ys := [Value.int .u8 cnt]) (heap_alloc_new w _) (Nat.le_refl _) (Nat.le_refl _) (by decide) rfl rfl
 have hbe := blw w (Obj.cells #[Value.int .u8 cnt] 5)
 have hse := hs.below hbe
 go_enter Tryz.func109, Tryz.ntmps109
 refine seqH (fun K HK => ?_)
 go_wp2
 refine HK.out _ _ ?_
 clear HK
 refine seqH (fun K HK => ?_)
 go_wp2
 refine HK.out _ _ ?_
 clear HK
 go_wp2_with (at_builtin; refine wpList_append_row rfl _ _ 37 5 elByte rfl w.heap.size _ 1 [Value.int .u8 cnt] rfl ho a c.length cap (bys c) rfl (by rw [bys_len]; omega) hse.row bys_one (by omega) (by decide) hbe.size ?_; intro v4 w4 ho4 hb4)
 go_ret2
 exact ⟨⟨_, rfl, ho4⟩, hbe.trans hb4⟩
end Go.Proofs.YtbdonjenekhmdaaGreatDoor
namespace Go.Proofs.YtbdonjenekhmdaaGreatDoor
open Go.RowKit
def OwnS (w : World) (base : Nat) (a : Option Addr) (c : Nat) (l : List UInt8) : Prop := OwnB w base a l.length l ∧ l.length ≤ c ∧ c ≤ maxLen ∧ (a = none → c = 0)
section
variable {w w' : World} {base c : Nat} {a : Option Addr} {l : List UInt8}
theorem OwnS.slb (h : OwnS w base a c l) : SlB w a c l := ⟨h.1.slb.row, h.2.1, h.2.2.1, h.2.2.2⟩
theorem OwnS.below (h : OwnS w base a c l) (hb : Below w.heap.size w w') : OwnS w' base a c l := ⟨h.1.below hb, h.2⟩
theorem OwnS.kt {B : Nat} (h : OwnS w base a c l) (hk : Kt B w w') : OwnS w' base a c l := ⟨h.1.kt hk, h.2⟩
theorem OwnS.mono {base' : Nat} (h : OwnS w base a c l) (hb : base' ≤ base) : OwnS w base' a c l := ⟨h.1.mono hb, h.2⟩
end
def CkRes (base : Nat) (b : List UInt8) (e : Ending) (w' : World) : Prop :=
 ∃ a c, e = .returned (.tuple #[.int .i64 ((parseCk b).1 : Nat), .slice a (parseCk b).2.1.length c, .int .i64 (parseCk b).2.2]) ∧ OwnS w' base a c (parseCk b).2.1
theorem CkRes.err {base : Nat} {b : List UInt8} {w' : World} (h : parseCk b = (0, [], 120)) : CkRes base b (.returned (.tuple #[.int .i64 0, .slice none 0 0, .int .i64 120])) w' := by
 unfold CkRes
 rw [h]
 exact ⟨none, 0, rfl, OwnB.none _ _, Nat.le_refl _, by decide, fun _ => rfl⟩
set_option maxRecDepth 100000 in
set_option maxHeartbeats 4000000 in
theorem kparse_any (a : Option Addr) (cap : Nat) (b : List UInt8) (w : World) (hs : SlB w a cap b) (hl : b.length ≤ 1000) : Calls Tryz.prog 186 #[.slice a b.length cap] w fun e w' => CkRes w.heap.size b e w' ∧ Below w.heap.size w w' := by
 cases b with
 | nil =>
  have HP := Lib.hid (show parseCk [] = (0, [], 120) from rfl)
  have hz : (([] : List UInt8).length : Int) = 0 := rfl
  go_enter Tryz.func186, Tryz.ntmps186
  refine seqH (fun K HK => ?_)
  go_wp2
  refine HK.out _ _ ?_
  clear HK
  go_wp2_with fail
  go_ret3
  exact ⟨CkRes.err HP.out, by (repeat' (first | (with_reducible exact Below.refl _ _) | (with_reducible assumption) | (with_reducible refine Below.alloc ?_ ?_ _) | (with_reducible refine Below.drew ?_) | (with_reducible refine below_drewN ?_ _) | (with_reducible refine Below.setCell ?_ ?_ _) | (with_reducible refine Below.trans ?_ (by assumption)) | go_size))⟩
 | cons x c =>
  obtain ⟨bk, off, rfl, hcs⟩ := hs.row.at (k := 0) (by simp [bys])
  have hcl : (x :: c).length = c.length + 1 := List.length_cons
  have hx := hcs 0 (byv x) rfl
  rw [Nat.add_zero] at hx
  have hxv : byv x = .int .u8 (x.toNat : Int) := rfl
  rw [hxv] at hx
  clear hxv hcs
  have e0 : (((x :: c).length : Int) == 0) = false := by rw [beq_eq_false_iff_ne]; omega
  have hg1 : 1 ≤ (x :: c).length := by omega
  have hx255 : x.toNat < 256 := x.toNat_lt
  have W0 : IntKind.i64.wrap (x.toNat : Int) = x.toNat := IntWalk.i64_in _ (by omega)
  by_cases h1 : 80 < c.length
  ·have HP := Lib.hid (show parseCk (x :: c) = (0, [], 120) by unfold parseCk; simp only; rw [if_pos (.inl h1)])
   have e1 : (81 : Int) < ((x :: c).length : Int) := by omega
   clear hcl h1
   generalize x :: c = l at *
   go_enter Tryz.func186, Tryz.ntmps186
   refine seqH (fun K HK => ?_)
   go_wp2
   refine HK.out _ _ ?_
   clear HK
   go_wp2_with fail
   go_ret3
   exact ⟨CkRes.err HP.out, by (repeat' (first | (with_reducible exact Below.refl _ _) | (with_reducible assumption) | (with_reducible refine Below.alloc ?_ ?_ _) | (with_reducible refine Below.drew ?_) | (with_reducible refine below_drewN ?_ _) | (with_reducible refine Below.setCell ?_ ?_ _) | (with_reducible refine Below.trans ?_ (by assumption)) | go_size))⟩
  have e1 : ¬ (81 : Int) < ((x :: c).length : Int) := by omega
  by_cases h2 : x.toNat < 1
  ·have HP := Lib.hid (show parseCk (x :: c) = (0, [], 120) by unfold parseCk; simp only; rw [if_pos (.inr (.inl h2))])
   have e2 : (x.toNat : Int) < 1 := by omega
   clear hcl h1
   generalize x :: c = l at *
   go_enter Tryz.func186, Tryz.ntmps186
   refine seqH (fun K HK => ?_)
   go_wp2
   refine HK.out _ _ ?_
   clear HK
   go_wp2_with fail
   go_ret3
   exact ⟨CkRes.err HP.out, by (repeat' (first | (with_reducible exact Below.refl _ _) | (with_reducible assumption) | (with_reducible refine Below.alloc ?_ ?_ _) | (with_reducible refine Below.drew ?_) | (with_reducible refine below_drewN ?_ _) | (with_reducible refine Below.setCell ?_ ?_ _) | (with_reducible refine Below.trans ?_ (by assumption)) | go_size))⟩
  have e2 : ¬ (x.toNat : Int) < 1 := by omega
  by_cases h3 : 8 < x.toNat
  ·have HP := Lib.hid (show parseCk (x :: c) = (0, [], 120) by unfold parseCk; simp only; rw [if_pos (.inr (.inr h3))])
   have e3 : (8 : Int) < (x.toNat : Int) := by omega
   clear hcl h1
   generalize x :: c = l at *
   go_enter Tryz.func186, Tryz.ntmps186
   refine seqH (fun K HK => ?_)
   go_wp2
   refine HK.out _ _ ?_
   clear HK
   go_wp2_with fail
   go_ret3
   exact ⟨CkRes.err HP.out, by (repeat' (first | (with_reducible exact Below.refl _ _) | (with_reducible assumption) | (with_reducible refine Below.alloc ?_ ?_ _) | (with_reducible refine Below.drew ?_) | (with_reducible refine below_drewN ?_ _) | (with_reducible refine Below.setCell ?_ ?_ _) | (with_reducible refine Below.trans ?_ (by assumption)) | go_size))⟩
  have e3 : ¬ (8 : Int) < (x.toNat : Int) := by omega
  have HP := Lib.hid (show parseCk (x :: c) = (x.toNat, c, 0) by unfold parseCk; simp only; rw [if_neg (by omega)])
  have hs1 := hs.sub 1 c.length (by omega)
  rw [List.drop_succ_cons, List.drop_zero, List.take_length] at hs1
  obtain ⟨ad, had, hs2⟩ : ∃ ad, (if cap = 1 then some (⟨bk, off, none⟩ : Addr) else some ⟨bk, off + 1, none⟩) = some ad ∧ SlB w (some ad) (cap - 1) c := by
   by_cases hc1 : cap = 1
   ·refine ⟨_, if_pos hc1, ?_⟩
    have h0 : c.length = 0 := by have := hs.le; omega
    have h00 := List.eq_nil_of_length_eq_zero h0
    subst h00
    exact ⟨.inl rfl, by simp, hs1.max, fun e => by cases e⟩
   ·exact ⟨_, if_neg hc1, hs1⟩
  have HA := Lib.hid had
  clear had hs1
  have HL := Lib.hid hcl
  have HB := Lib.hid hs.le
  have HM := Lib.hid h1
  clear hcl h1 h2 h3 hs
  generalize x :: c = l at *
  go_enter Tryz.func186, Tryz.ntmps186
  refine seqH (fun K HK => ?_)
  go_wp2
  refine HK.out _ _ ?_
  clear HK
  refine seqH (fun K HK => ?_)
  go_wp2
  refine HK.out _ _ ?_
  clear HK
  refine seqH (fun K HK => ?_)
  go_wp2_with fail
  have hbd := (Below.refl w.heap.size w).drew
  have s1 := hs2.below hbd
  have x1 := cell_later hbd hx
  refine wp_region_held_drew (S := fun w' => w'.cell? ⟨bk, off, none⟩ = some (.int .u8 (x.toNat : Int))) (by kernel_rfl) x1 (fun hS0 => ?_)
  generalize w.drew = x0 at *
  refine tkT 0 rfl (by intro wS hSw; go_simp; (try with_reducible rfl)) ?_
  refine tkT 1 rfl (by intro wS hSw; go_simp; (try with_reducible rfl)) ?_
  refine tkT 2 rfl (by intro wS hSw; have c := hSw; go_simp; (try with_reducible rfl)) ?_
  refine tkT 3 (v := .int .i64 (x.toNat : Int)) rfl (by intro wS hSw; go_simp) ?_
  refine tkT 4 rfl (by intro wS hSw; go_simp; (try with_reducible rfl)) ?_
  refine tkT 5 (v := .slice (some ad) c.length (cap - 1)) rfl (by intro wS hSw; have hl0 := HL.out; go_simp; rw [if_pos (by omega), HA.out]) ?_
  refine rdy1 6 rfl (fun K' hK' => ?_)
  go_simp
  refine (clone_any _ _ c _ s1 (by have := HM.out; omega)).mono ?_
  rintro e w2 ⟨⟨G, C, rfl, h1, h2, O2⟩, hb2⟩
  refine hK'.out _ _ (cell_later hb2 x1) (fun _ => ?_)
  clear hK'
  (try simp only [Act.put]); (try simp only [List.setIfInBounds_toArray]); (try simp only [List.set_cons_succ]); (try simp only [List.set_cons_zero])
  refine tkT 7 rfl (by intro wS hSw; go_simp; (try with_reducible rfl)) ?_
  refine tkT 8 rfl (by intro wS hSw; go_simp; (try with_reducible rfl)) ?_
  refine tkT 9 rfl (by intro wS hSw; go_simp; (try with_reducible rfl)) ?_
  refine wpAnyH_done (by kernel_rfl) ?_ _
  refine HK.out _ _ ?_
  clear HK
  go_wp2
  go_ret3
  refine ⟨?_, hbd.trans (hb2.mono hbd.size)⟩
  unfold CkRes
  rw [HP.out]
  exact ⟨_, _, rfl, O2.mono hbd.size, h1, h2, fun e => by cases e⟩
end Go.Proofs.YtbdonjenekhmdaaGreatDoor
