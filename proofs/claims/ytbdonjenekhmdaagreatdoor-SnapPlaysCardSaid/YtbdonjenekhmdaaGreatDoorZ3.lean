/- Texts that the claim leans on, part 3: X21, Own, Under, D0, Flat, Blk, Qui, Blk2. -/
import Derived.Test.YtbdonjenekhmdaaGreatDoorZ1
import Derived.Test.YtbdonjenekhmdaaGreatDoorZ2
import Derived.Test.YtbdonjenekhmdaaGreatDoorRows
import Derived.WalkKit
import Derived.WalkSpells
import Derived.WalkLawsBesides
import Derived.Handy
import Derived.Deep.QuietTactic
import Derived.BigQuiet
import Derived.Deep.DeepCutAuto
import Derived.Lib.Hide
import Derived.RegionTactic
import Derived.ChangeAlike
import Derived.Laws.ResultCell
import Derived.Outline
import Derived.Laws.Rows
import Derived.Deep.Quiet
import Derived.Deep.RegionHeld3
import Derived.ProofKit
import Derived.OpenShut
import Derived.Deep.RegionHeld
import Derived.Laws.CopyOwn
import Derived.Laws.CopyRow
import Derived.Laws.NewBlocks
import Derived.Deep.RegionLaw
namespace Go.Proofs.YtbdonjenekhmdaaGreatDoor
structure Sh where
 idx : Int
 area : Int
 cnt : Int
 rep : Int
 inc : Int
def plaS (s : Sh) (k : Int) : Int := 8 * s.area + k
def secsS (d : Dk) (p : Int) : List UInt8 × Bool := ((readD d (firstN 5 p)).1 ++ (readD d (firstN 5 p + 1)).1, decide ((readD d (firstN 5 p)).2 = 0) && decide ((readD d (firstN 5 p + 1)).2 = 0))
def frameS (s : Sh) (k : Int) (m : Nat × Tg × List UInt8) : List UInt8 × Bool :=
 ((parseCk m.2.2).2.1, decide (m.1 = 1) && (decide (m.2.1.idx = s.idx) && (decide ((parseCk m.2.2).2.2 = 0) && (decide (((parseCk m.2.2).1 : Int) = s.cnt) && fitsC k ((parseCk m.2.2).1 : Int) (parseCk m.2.2).2.1.length))))
def readS (d : Dk) (s : Sh) (k : Int) : List UInt8 × Bool :=
 if (secsS d (plaS s k)).2 = false then ([], false) else frameS s k (mineF (secsS d (plaS s k)).1 s.rep 5 (plaS s k))
def askedS (d : Dk) (s : Sh) (k : Int) : Int := if k < 0 ∨ s.cnt ≤ k then 2 else if upD d = false then 5 else 0
def hurtS (d : Dk) (s : Sh) (n : Nat) : List Int := ((List.range n).filter (fun (k : Nat) => !(readS d s k).2)).map (fun (k : Nat) => (k : Int))
def chunkS (d : Dk) (s : Sh) (k : Int) : List UInt8 × Int := if askedS d s k ≠ 0 then ([], askedS d s k) else if (readS d s k).2 = false then ([], 130) else ((readS d s k).1, 0)
def allS (d : Dk) (s : Sh) (n : Nat) : List UInt8 := (List.range n).flatMap (fun (k : Nat) => (readS d s k).1)
def bytesS (d : Dk) (s : Sh) : List UInt8 × Int :=
 if upD d = false then ([], 5) else if (List.range s.cnt.toNat).all (fun (k : Nat) => (readS d s k).2) = true then (allS d s s.cnt.toNat, 0) else ([], 130)
def tagS (s : Sh) (k : Int) : Tg := ⟨s.rep, 5, plaS s k, s.idx, s.inc⟩
def frmS (s : Sh) (k : Int) (c : List UInt8) : List UInt8 := sealF (tagS s k) (ckB s.cnt c) 128
def putS (d : Dk) (s : Sh) (k : Int) (c : List UInt8) : Dk × Int :=
 if (writeD d (firstN 5 (plaS s k)) (pcD (frmS s k c) 0)).2 ≠ 0 then writeD d (firstN 5 (plaS s k)) (pcD (frmS s k c) 0) else
 writeD (writeD d (firstN 5 (plaS s k)) (pcD (frmS s k c) 0)).1 (firstN 5 (plaS s k) + 1) (pcD (frmS s k c) 1)
def putsS (d : Dk) (s : Sh) : Nat → List (List UInt8) → Dk × Int
 | _, [] => (d, 0)
 | k, c :: l => if (putS d s k c).2 ≠ 0 then putS d s k c else putsS (putS d s k c).1 s (k + 1) l
def nextS (s : Sh) (idx : Int) (n : Nat) : Sh := { s with idx := idx, area := if 0 < s.idx then 1 - s.area else 0, cnt := (n : Int) }
def installS (d : Dk) (s : Sh) (idx : Int) (b : List UInt8) : Dk × Sh × Int :=
 if idx ≤ s.idx ∨ 1099511627752 < idx then (d, s, 2) else
 if 640 < b.length then (d, s, 3) else
 if upD d = false then (d, s, 5) else
 let m := nextS s idx (numC b.length)
 let p := putsS d m 0 (splitC b)
 if p.2 ≠ 0 then (p.1, s, p.2) else
 let f := flushD p.1
 if f.2 ≠ 0 then (f.1, s, f.2) else
 let t := storeC f.1 s.rep 2 s.inc (manB m.idx m.area m.cnt)
 if t.2 ≠ 0 then (t.1, s, t.2) else (t.1, m, 0)
def mendS (d : Dk) (s : Sh) (k : Int) (c : List UInt8) : Dk × Int :=
 if askedS d s k = 2 ∨ fitsC k s.cnt c.length = false then (d, 2) else
 if askedS d s k ≠ 0 then (d, askedS d s k) else
 if (readS d s k).2 = true then (d, 2) else
 if (putS d s k c).2 ≠ 0 then putS d s k c else flushD (putS d s k c).1
def openS (d : Dk) (rep inc : Int) : Dk × Sh × Int :=
 let z : Sh := ⟨0, 0, 0, rep, inc⟩
 if 0 < d.pl.length ∧ (d.pl.length < 156 ∨ rep < 0 ∨ 7 ≤ rep ∨ inc < 1 ∨ 1099511627776 < inc) then (d, z, 2) else
 let l := loadC d rep 2
 if l.2.2 ≠ 0 then (d, z, l.2.2) else
 let m := parseMan l.2.1
 if 0 < l.1 ∧ m.2 ≠ 0 then (d, z, m.2) else
 let s : Sh := if 0 < l.1 then ⟨m.1.1, m.1.2.1, m.1.2.2, rep, inc⟩ else z
 let h := healC d rep 2
 (h.1, s, h.2)
structure ShOk (s : Sh) : Prop where
 i : 0 ≤ s.idx ∧ s.idx ≤ 1099511627752
 a : 0 ≤ s.area ∧ s.area ≤ 1
 c : 0 ≤ s.cnt ∧ s.cnt ≤ 8
 r : 0 ≤ s.rep ∧ s.rep ≤ 6
 n : 1 ≤ s.inc ∧ s.inc ≤ 1099511627776
theorem first5 {p : Int} (h : 0 ≤ p ∧ p < 16) : firstN 5 p = 124 + 2 * p := by
 unfold firstN placesN startN wideN
 simp only [show ¬ (5 : Int) = 1 by decide, show ¬ (5 : Int) = 2 by decide, show ¬ (5 : Int) = 3 by decide, show ¬ (5 : Int) = 4 by decide, if_false, if_true]
 rw [if_neg (by omega)]
 omega
theorem tagS_may {s : Sh} (h : ShOk s) {k : Int} (hk : 0 ≤ k ∧ k < 8) : mayTg (tagS s k) = true := by
 have h1 := h.i
 have h2 := h.a
 have h3 := h.r
 have h4 := h.n
 unfold mayTg tagS plaS placesN
 simp
 omega
theorem frmS_len {s : Sh} {k : Int} {c : List UInt8} (hc : c.length ≤ 80) : (frmS s k c).length = 128 := sealF_len (by decide) (by simp [roomN, ckB]; omega)
theorem read_len2 (d : Dk) (s : Sh) (k : Int) : (readS d s k).1.length ≤ 80 := by
 unfold readS
 split
 ·simp
 ·exact (parse_ck_le _).2
end Go.Proofs.YtbdonjenekhmdaaGreatDoor
namespace Go.Proofs.YtbdonjenekhmdaaGreatDoor
open Go.RowKit
theorem owns_after {w w' : World} {base n size : Nat} {e : TypeId} {v : Value} {xs : List Value} (h : w.ownsRow base e size v n xs) (hb : Below w.heap.size w w') : w'.ownsRow base e size v n xs := by
 obtain ⟨hl, h | ⟨g, cap, cur, hv, hg, hc, r⟩⟩ := h
 ·exact ⟨hl, .inl h⟩
 ·exact ⟨hl, .inr ⟨g, cap, cur, hv, hg, (hb.block g (Array.getElem?_eq_some_iff.1 hc).1).trans hc, r⟩⟩
end Go.Proofs.YtbdonjenekhmdaaGreatDoor
namespace Go.Proofs.YtbdonjenekhmdaaGreatDoor
open Go.RowKit
open Classical in
noncomputable def Under (w x : World) : World := if Below w.heap.size w x then x else w
theorem under_below (w x : World) : Below w.heap.size w (Under w x) := by
 unfold Under
 split
 ·assumption
 ·exact Below.refl _ _
theorem under_of {w y : World} (h : Below w.heap.size w y) : y = Under w y := by
 unfold Under
 rw [if_pos h]
theorem under_cell {w : World} {p : Addr} {v : Value} (h : w.cell? p = some v) : ∀ x, (Under w x).cell? p = some v := fun x => by
 have h2 := World.block_lt_of_cell? _ _ h
 rw [(under_below w x).cell h2]
 exact h
theorem under_call {P : Program} {f : FuncId} {args : Array Value} {w x : World} {v : Value}
  (h : Calls P f args (Under w x) fun e w' => e = .returned v ∧ Below (Under w x).heap.size (Under w x) w') : Calls P f args (Under w x) fun e w'' => e = .returned v ∧ ∃ y, w'' = Under w y :=
 h.mono fun _ w' ⟨he, hb⟩ => ⟨he, w', under_of ((under_below w x).trans (hb.mono (under_below w x).size))⟩
theorem under_same {P : Program} {f : FuncId} {args : Array Value} {w x : World} {v : Value}
  (h : Calls P f args (Under w x) fun e w' => e = .returned v ∧ Under w x = w') : Calls P f args (Under w x) fun e w'' => e = .returned v ∧ ∃ y, w'' = Under w y :=
 h.mono fun _ _ ⟨he, hm⟩ => ⟨he, x, hm.symm⟩
theorem wp_region_under {P : Program} {id : Nat} {Q : Exit → Act → World → Prop} {a : Act} {w : World} {l : List Oper} (hm : P.follows .mixedOrders = true) (hB : Region.lexB .any l.toArray = true)
  (h : wpQuiet P l.toArray (fun w' => ∃ x, w' = Under w x) (fun a' => ∀ w', (∃ x, w' = Under w x) → Q .normal a' w') l a) : (Code.region id l.toArray true).wp P Q a w :=
 wp_region_quiet (C := fun w' => ∃ x, w' = Under w x) hm hB ⟨_, under_of ((Below.refl _ _).drew)⟩ (by simpa using h)
end Go.Proofs.YtbdonjenekhmdaaGreatDoor
namespace Go.Proofs.YtbdonjenekhmdaaGreatDoor
open Go.RowKit
theorem size_at (g n cap : Nat) (a : Option Addr) (w : World) (hc : w.cell? ⟨g, 0, none⟩ = some (.slice a n cap)) : Calls Tryz.prog 33 #[.pointer (some ⟨g, 0, none⟩)] w fun e w' => e = .returned (.int .i64 n) ∧ w = w' := by
 go_enter Tryz.func33, Tryz.ntmps33
 go_wp2
 go_ret
 exact ⟨rfl, rfl⟩
def DiskN (w : World) (p : Value) (n : Nat) : Prop := (p = .pointer none ∧ n = 0) ∨ ∃ g a cap, p = .pointer (some ⟨g, 0, none⟩) ∧ w.cell? ⟨g, 0, none⟩ = some (.slice a n cap)
theorem DiskN.below {w w' : World} {p : Value} {n : Nat} (h : DiskN w p n) (hb : Below w.heap.size w w') : DiskN w' p n := by
 rcases h with h | ⟨g, a, cap, hp, hc⟩
 ·exact .inl h
 ·exact .inr ⟨g, a, cap, hp, (hb.cell (World.block_lt_of_cell? _ _ hc)).trans hc⟩
abbrev regV : Value := .agg #[.int .i64 0, .int .i64 0, .int .i64 2, .int .i64 1, .int .i64 2, .int .i64 1, .int .i64 24, .int .i64 1, .int .i64 48, .int .i64 2, .int .i64 16, .int .i64 2]
set_option maxRecDepth 100000 in
theorem regions_any (w : World) : Calls Tryz.prog 169 #[] w fun e w' => e = .returned regV ∧ Below w.heap.size w w' := by
 go_enter Tryz.func169, Tryz.ntmps169
 go_wp2
 (try simp only [Exit.inBlock, Exit.then])
 refine bodyPost_ret (v := regV) ?hr rfl ⟨rfl, ?_⟩
 case hr =>
  simp only [results, Tryz.results169]
  go_simp
  try rfl
 (repeat' (first | (with_reducible exact Below.refl _ _) | (with_reducible assumption) | (with_reducible refine Below.alloc ?_ ?_ _) | (with_reducible refine Below.drew ?_) | (with_reducible refine below_drewN ?_ _) | (with_reducible refine Below.setCell ?_ ?_ _) | (with_reducible refine Below.trans ?_ (by assumption)) | go_size))
def atP (k : Nat) : Int := [(0 : Int), 0, 2, 4, 28, 124, 156].getD k 156
set_option maxRecDepth 100000 in
set_option maxHeartbeats 8000000 in
theorem all_start (w : World) : Calls Tryz.prog 96 #[.int .i64 (-1)] w fun e w' => e = .returned (.int .i64 156) ∧ Below w.heap.size w w' := by
 have i0 : ∀ w, (Instr.index 246 regV (.int .i64 0)).run Tryz.prog w = .ok (.agg #[.int .i64 0, .int .i64 0]) w := fun _ => by kernel_rfl
 have i1 : ∀ w, (Instr.index 246 regV (.int .i64 1)).run Tryz.prog w = .ok (.agg #[.int .i64 2, .int .i64 1]) w := fun _ => by kernel_rfl
 have i2 : ∀ w, (Instr.index 246 regV (.int .i64 2)).run Tryz.prog w = .ok (.agg #[.int .i64 2, .int .i64 1]) w := fun _ => by kernel_rfl
 have i3 : ∀ w, (Instr.index 246 regV (.int .i64 3)).run Tryz.prog w = .ok (.agg #[.int .i64 24, .int .i64 1]) w := fun _ => by kernel_rfl
 have i4 : ∀ w, (Instr.index 246 regV (.int .i64 4)).run Tryz.prog w = .ok (.agg #[.int .i64 48, .int .i64 2]) w := fun _ => by kernel_rfl
 have i5 : ∀ w, (Instr.index 246 regV (.int .i64 5)).run Tryz.prog w = .ok (.agg #[.int .i64 16, .int .i64 2]) w := fun _ => by kernel_rfl
 go_enter Tryz.func96, Tryz.ntmps96
 refine seqH (fun K HK => ?_)
 go_wp2
 refine HK.out _ _ ?_
 clear HK
 refine seqH (fun K HK => ?_)
 go_wp2
 refine HK.out _ _ ?_
 clear HK
 go_wp2_with (go_at_call 169; refine (regions_any _).mono ?_; rintro e w1 ⟨rfl, hb1⟩)
 go_loopw [3, 7] (fun t i wr => ∃ k : Nat, k ≤ 6 ∧ i = .int .i64 k ∧ t = .int .i64 (atP k) ∧ Below w.heap.size w wr) (fun _ i _ => 6 - (intOf i).toNat)
 case atStart => exact ⟨0, by omega, rfl, rfl, hb1⟩
 case round =>
  obtain ⟨k, hk, rfl, rfl, hbr⟩ := hrel
  have hbs := hbr.size
  have h7 : k = 0 ∨ k = 1 ∨ k = 2 ∨ k = 3 ∨ k = 4 ∨ k = 5 ∨ k = 6 := by omega
  rcases h7 with rfl | rfl | rfl | rfl | rfl | rfl | rfl
  ·have ha : atP 0 = 0 := rfl
   rw [ha]
   go_wp2
   go_roundw
   case rel => exact ⟨1, by omega, by rfl, by rfl, by (repeat' (first | (with_reducible exact Below.refl _ _) | (with_reducible assumption) | (with_reducible refine Below.alloc ?_ ?_ _) | (with_reducible refine Below.drew ?_) | (with_reducible refine below_drewN ?_ _) | (with_reducible refine Below.setCell ?_ ?_ _) | (with_reducible refine Below.trans ?_ (by assumption)) | go_size))⟩
   case measure => simp [intOf]
  ·have ha : atP 1 = 0 := rfl
   rw [ha]
   go_wp2
   go_roundw
   case rel => exact ⟨2, by omega, by rfl, by rfl, by (repeat' (first | (with_reducible exact Below.refl _ _) | (with_reducible assumption) | (with_reducible refine Below.alloc ?_ ?_ _) | (with_reducible refine Below.drew ?_) | (with_reducible refine below_drewN ?_ _) | (with_reducible refine Below.setCell ?_ ?_ _) | (with_reducible refine Below.trans ?_ (by assumption)) | go_size))⟩
   case measure => simp [intOf]
  ·have ha : atP 2 = 2 := rfl
   rw [ha]
   go_wp2
   go_roundw
   case rel => exact ⟨3, by omega, by rfl, by rfl, by (repeat' (first | (with_reducible exact Below.refl _ _) | (with_reducible assumption) | (with_reducible refine Below.alloc ?_ ?_ _) | (with_reducible refine Below.drew ?_) | (with_reducible refine below_drewN ?_ _) | (with_reducible refine Below.setCell ?_ ?_ _) | (with_reducible refine Below.trans ?_ (by assumption)) | go_size))⟩
   case measure => simp [intOf]
  ·have ha : atP 3 = 4 := rfl
   rw [ha]
   go_wp2
   go_roundw
   case rel => exact ⟨4, by omega, by rfl, by rfl, by (repeat' (first | (with_reducible exact Below.refl _ _) | (with_reducible assumption) | (with_reducible refine Below.alloc ?_ ?_ _) | (with_reducible refine Below.drew ?_) | (with_reducible refine below_drewN ?_ _) | (with_reducible refine Below.setCell ?_ ?_ _) | (with_reducible refine Below.trans ?_ (by assumption)) | go_size))⟩
   case measure => simp [intOf]
  ·have ha : atP 4 = 28 := rfl
   rw [ha]
   go_wp2
   go_roundw
   case rel => exact ⟨5, by omega, by rfl, by rfl, by (repeat' (first | (with_reducible exact Below.refl _ _) | (with_reducible assumption) | (with_reducible refine Below.alloc ?_ ?_ _) | (with_reducible refine Below.drew ?_) | (with_reducible refine below_drewN ?_ _) | (with_reducible refine Below.setCell ?_ ?_ _) | (with_reducible refine Below.trans ?_ (by assumption)) | go_size))⟩
   case measure => simp [intOf]
  ·have ha : atP 5 = 124 := rfl
   rw [ha]
   go_wp2
   go_roundw
   case rel => exact ⟨6, by omega, by rfl, by rfl, by (repeat' (first | (with_reducible exact Below.refl _ _) | (with_reducible assumption) | (with_reducible refine Below.alloc ?_ ?_ _) | (with_reducible refine Below.drew ?_) | (with_reducible refine below_drewN ?_ _) | (with_reducible refine Below.setCell ?_ ?_ _) | (with_reducible refine Below.trans ?_ (by assumption)) | go_size))⟩
   case measure => simp [intOf]
  ·have ha : atP 6 = 156 := rfl
   rw [ha]
   go_wp2
   go_ret
   exact ⟨rfl, hbr⟩
set_option maxRecDepth 100000 in
theorem all_any (w : World) : Calls Tryz.prog 34 #[] w fun e w' => e = .returned (.int .i64 156) ∧ Below w.heap.size w w' := by
 go_enter Tryz.func34, Tryz.ntmps34
 go_wp2_with (go_at_call 96; refine (all_start _).mono ?_; rintro e w1 ⟨rfl, hb1⟩)
 go_ret
 exact ⟨rfl, hb1⟩
end Go.Proofs.YtbdonjenekhmdaaGreatDoor
namespace Go.Proofs.YtbdonjenekhmdaaGreatDoor
open Go.RowKit
theorem flat_len {α : Type} {f : α → List Value} {n : Nat} (hf : ∀ x, (f x).length = n) : ∀ (l : List α), (l.flatMap f).length = n * l.length
 | [] => by simp
 | x :: l => by
  have := flat_len hf l
  rw [List.flatMap_cons, List.length_append, this, hf, List.length_cons, Nat.mul_succ]
  omega
theorem flat_at {α : Type} {f : α → List Value} {n : Nat} (hf : ∀ x, (f x).length = n) : ∀ {l : List α} {i : Nat} {c : α}, l[i]? = some c → ∀ j u, (f c)[j]? = some u → (l.flatMap f)[i * n + j]? = some u
 | [], i, c, h => by simp at h
 | q :: l, 0, c, h => by
  simp at h
  subst h
  intro j u hj
  have hlt := (List.getElem?_eq_some_iff.1 hj).1
  simp only [List.flatMap_cons, Nat.zero_mul, Nat.zero_add]
  rw [List.getElem?_append_left hlt]
  exact hj
 | q :: l, i + 1, c, h => by
  simp only [List.getElem?_cons_succ] at h
  intro j u hj
  have := flat_at hf h j u hj
  simp only [List.flatMap_cons]
  rw [List.getElem?_append_right (by rw [hf, Nat.succ_mul]; omega), hf]
  rw [show (i + 1) * n + j - n = i * n + j by rw [Nat.succ_mul]; omega]
  exact this
theorem Row.flat {α : Type} {f : α → List Value} {n : Nat} (hf : ∀ x, (f x).length = n) (hn : 0 < n) {w : World} {a : Option Addr} {l : List α} (h : Row w a (l.flatMap f)) {i : Nat} {c : α} (hp : l[i]? = some c) :
  ∃ b off, a = some ⟨b, off, none⟩ ∧ b < w.heap.size ∧ ∀ j u, (f c)[j]? = some u → w.cell? ⟨b, off + i * n + j, none⟩ = some u := by
 have hi := (List.getElem?_eq_some_iff.1 hp).1
 have hpos : 0 < (l.flatMap f).length := by rw [flat_len hf]; exact Nat.mul_pos hn (by omega)
 obtain ⟨b, off, ha, hc⟩ := h.at hpos
 have hat := flat_at hf hp
 have H : ∀ j u, (f c)[j]? = some u → w.cell? ⟨b, off + i * n + j, none⟩ = some u := fun j u hj => by
  rw [Nat.add_assoc]
  exact hc _ _ (hat j u hj)
 refine ⟨b, off, ha, ?_, H⟩
 have h0 : (f c)[0]? = some ((f c)[0]'(by rw [hf]; exact hn)) := List.getElem?_eq_getElem _
 exact World.block_lt_of_cell? _ _ (H 0 _ h0)
theorem Row.flat0 {α : Type} {f : α → List Value} {n : Nat} (hf : ∀ x, (f x).length = n) (hn : 0 < n) {w : World} {a : Option Addr} {l : List α} (h : Row w a (l.flatMap f)) {i : Nat} {c : α} (hp : l[i]? = some c) :
  ∃ b off, a = some ⟨b, off, none⟩ ∧ b < w.heap.size ∧ (∀ u, (f c)[0]? = some u → w.cell? ⟨b, off + i * n, none⟩ = some u) ∧ ∀ j u, (f c)[j]? = some u → w.cell? ⟨b, off + i * n + j, none⟩ = some u := by
 obtain ⟨b, off, ha, hb, hc⟩ := h.flat hf hn hp
 exact ⟨b, off, ha, hb, fun u hu => hc 0 u hu, hc⟩
theorem Row.of_block {w : World} {g : Nat} {cs : List Value} {T : TypeId} {xs : List Value} (h : w.heap[g]? = some (.cells cs.toArray T (0, 0))) (off : Nat) (hx : ∀ i u, xs[i]? = some u → cs[off + i]? = some u) : Row w (some ⟨g, off, none⟩) xs := by
 refine .inr ⟨g, off, rfl, fun i u hu => ?_⟩
 simp only [World.cell?, h]
 simpa using hx i u hu
theorem blk_cell {w : World} {g : Nat} {cs : Array Value} {T : TypeId} (h : w.heap[g]? = some (.cells cs T (0, 0))) (j : Nat) (v : Value) (hj : cs[j]? = some v) : w.cell? ⟨g, j, none⟩ = some v := by
 simp only [World.cell?, h]
 simpa using hj
theorem blw (w : World) (o : Obj) : Below w.heap.size w (w.alloc o) := (Below.refl _ _).alloc (Nat.le_refl _) o
end Go.Proofs.YtbdonjenekhmdaaGreatDoor
namespace Go.Proofs.YtbdonjenekhmdaaGreatDoor
open Go.RowKit
variable {P : Program}
theorem run_loadVar_part (w : World) (g off n : Nat) (T ty : TypeId) (cs : Array Value) (ha : (isAgg ty).run P w = .ok true w) (hs : (sizeOf ty).run P w = .ok n w) (hg : w.heap[g]? = some (.cells cs T (0, 0))) (hn : off + n ≤ cs.size) :
  (loadVar ty ⟨g, off, none⟩).run P w = .ok (.agg (cs.extract off (off + n))) w := by
 have hlen : (cs.extract off (off + n)).toList.length = n := by simp; omega
 have hl := run_loadCells_list (P := P) (w := w) ⟨g, off, none⟩ (cs.extract off (off + n)).toList (fun j v hv => by
  have hj := (List.getElem?_eq_some_iff.1 hv).1
  rw [hlen] at hj
  rw [addr_add, cell_of_row w g (off + j) cs T (0, 0) hg]
  have h2 : (cs.extract off (off + n))[j]? = some v := by rw [← Array.getElem?_toList]; exact hv
  rw [Array.getElem?_extract] at h2
  split at h2
  ·exact h2
  ·cases h2)
 rw [hlen] at hl
 simp only [Array.toArray_toList] at hl
 simp only [loadVar, Sem.run_bind, ha, hs, hl, Result.andThen_ok, if_true, Sem.run_pure]
theorem arr_all {cs : Array Value} {n : Nat} (h : cs.size = n) : 0 + n ≤ cs.size ∧ cs.extract 0 (0 + n) = cs := ⟨by omega, by subst h; simp⟩
def LdAt (P : Program) (a : Act) (w : World) (ty : TypeId) (x : Operand) (v : Array Value) : Prop :=
 ∃ (g off n : Nat) (cs : Array Value) (T : TypeId), (∀ w, (isAgg ty).run P w = .ok true w) ∧ (∀ w, (sizeOf ty).run P w = .ok n w) ∧ a.eval x = .pointer (some ⟨g, off, none⟩) ∧ w.heap[g]? = some (.cells cs T (0, 0)) ∧ (off + n ≤ cs.size ∧ cs.extract off (off + n) = v)
theorem wp_ldB {a : Act} {w : World} {K : Act → World → Prop} {Q : Exit → Act → World → Prop} {dst : Option Tmp} {ty' : TypeId} {pos : String} {af : Array Edge} {gd : Option (Nat × Bool)} (ty : TypeId) (x : Operand) (hl : ∃ v, LdAt P a w ty x v ∧ K (a.put dst (.agg v)) w) : (Oper.mk dst (.load ty x) ty' pos af gd).wp P a w K Q := by
 obtain ⟨v, ⟨g, off, n, cs, T, ha, hs, hx, hg, hn, rfl⟩, h⟩ := hl
 unfold Oper.wp execOp
 simp only [hx, Instr.loadAt, Instr.sureAddr, Sem.run_bind, Sem.run_pure, Result.andThen_ok, run_loadVar_part w g off n T ty cs (ha w) (hs w) hg hn]
 exact h
theorem wpList_ldB {ops : Array Oper} {rest : List Oper} {a : Act} {w : World} {Q : Exit → Act → World → Prop} {dst : Option Tmp} {ty' : TypeId} {pos : String} {af : Array Edge} {gd : Option (Nat × Bool)} (ty : TypeId) (x : Operand)
  (hl : Region.wanted (Oper.mk dst (.load ty x) ty' pos af gd) (yielded ops a.tmps) = true ∧ ∃ v, LdAt P a w ty x v ∧ wpList P ops Q rest (a.put dst (.agg v)) w) : wpList P ops Q (Oper.mk dst (.load ty x) ty' pos af gd :: rest) a w :=
 BigFrame.wpList_want hl.1 fun _ hK => wp_ldB ty x (hl.2.imp fun _ h => ⟨h.1, hK _ _ h.2⟩)
theorem exec_ldB {a : Act} {w : World} {dst : Option Tmp} {ty' : TypeId} {pos : String} {af : Array Edge} {gd : Option (Nat × Bool)} (ty : TypeId) (x : Operand) {v : Array Value} (hl : LdAt P a w ty x v) : (execOp a.eval (Oper.mk dst (.load ty x) ty' pos af gd)).run P w = .ok (.value (.agg v)) w := by
 obtain ⟨g, off, n, cs, T, ha, hs, hx, hg, hn, rfl⟩ := hl
 unfold execOp
 simp only [hx, Instr.loadAt, Instr.sureAddr, Sem.run_bind, Sem.run_pure, Result.andThen_ok, run_loadVar_part w g off n T ty cs (ha w) (hs w) hg hn]
theorem run_storeVar_part (w : World) (g off n : Nat) (T ty : TypeId) (cs : Array Value) (v : Value) (hs : (sizeOf ty).run P w = .ok n w) (hv : v.cells.size = n) (h1 : ∀ u ∈ v.cells.toList, u.oneCell' = true) (hg : w.heap[g]? = some (.cells cs T (0, 0))) (hn : off + n ≤ cs.size) :
  (storeVar ty ⟨g, off, none⟩ v).run P w = .ok () (w.setRow g (cs.toList.take off ++ v.cells.toList ++ cs.toList.drop (off + n)).toArray) := by
 have hst := run_storeCells_at P g off T v.cells.toList 0 cs w hg (by simpa [hv] using hn) h1
 simp only [Nat.add_zero, Array.length_toList, hv] at hst
 simp [storeVar, Sem.run_bind, hs, hv, hst]
def StAt (P : Program) (a : Act) (w : World) (ty : TypeId) (x y : Operand) (g : Nat) (T : TypeId) (cs' : Array Value) : Prop :=
 ∃ (off n : Nat) (cs : Array Value), (∀ w, (sizeOf ty).run P w = .ok n w) ∧ a.eval x = .pointer (some ⟨g, off, none⟩) ∧ w.heap[g]? = some (.cells cs T (0, 0)) ∧
  (off + n ≤ cs.size ∧ (a.eval y).cells.size = n ∧ (∀ u ∈ (a.eval y).cells.toList, u.oneCell' = true) ∧ (cs.toList.take off ++ (a.eval y).cells.toList ++ cs.toList.drop (off + n)).toArray = cs')
theorem setRow_grown (w : World) (g : Nat) (cs : Array Value) : w.grownBy (w.setRow g cs) (some g) := grownBy_setRow w g cs
theorem wp_stB {a : Act} {w : World} {K : Act → World → Prop} {Q : Exit → Act → World → Prop} {ty' : TypeId} {pos : String} {af : Array Edge} {gd : Option (Nat × Bool)} (ty : TypeId) (x y : Operand) (hl : ∃ (g : Nat) (T : TypeId) (cs' : Array Value), StAt P a w ty x y g T cs' ∧ ∀ w', w'.heap[g]? = some (.cells cs' T (0, 0)) → w.grownBy w' (some g) → K a w') : (Oper.mk none (.store ty x y) ty' pos af gd).wp P a w K Q := by
 obtain ⟨g, T, cs', ⟨off, n, cs, hs, hx, hg, hn, hv, h1, hc⟩, h⟩ := hl
 unfold Oper.wp execOp
 simp only [hx, Instr.storeAt, Instr.sureAddr, Sem.run_bind, Sem.run_pure, Result.andThen_ok, run_storeVar_part w g off n T ty cs _ (hs w) hv h1 hg hn, hc]
 exact h _ (setRow_heap w g _ _ T _ hg) (setRow_grown w g _)
theorem wpList_stB {ops : Array Oper} {rest : List Oper} {a : Act} {w : World} {Q : Exit → Act → World → Prop} {ty' : TypeId} {pos : String} {af : Array Edge} (ty : TypeId) (x y : Operand) (hl : ∃ (g : Nat) (T : TypeId) (cs' : Array Value), StAt P a w ty x y g T cs' ∧ ∀ w', w'.heap[g]? = some (.cells cs' T (0, 0)) → w.grownBy w' (some g) → wpList P ops Q rest a w') : wpList P ops Q (Oper.mk none (.store ty x y) ty' pos af none :: rest) a w := by
 obtain ⟨g, T, cs', hs, h⟩ := hl
 exact wpList_plain rfl fun _ hK => wp_stB ty x y ⟨g, T, cs', hs, fun w' h1 h2 => hK _ _ (h w' h1 h2)⟩
def StNew (P : Program) (a : Act) (w : World) (ty : TypeId) (x y : Operand) (n : Nat) (cs' : Array Value) : Prop :=
 (∀ w, (sizeOf ty).run P w = .ok n w) ∧ a.eval x = .pointer (some ⟨w.heap.size, 0, none⟩) ∧ (a.eval y).cells = cs' ∧ cs'.size = n ∧ (∀ u ∈ cs'.toList, u.oneCell' = true)
theorem setRow_alloc (w : World) (cs cs' : Array Value) (T : TypeId) : (w.alloc (.cells cs T)).setRow w.heap.size cs' = w.alloc (.cells cs' T) := by
 unfold World.setRow World.alloc
 congr 1
 apply Array.ext
 ·simp
 ·intro i h1 h2
  rw [Array.getElem_modify]
  simp only [Array.getElem_push]
  by_cases hi : w.heap.size = i
  ·subst hi; simp
  ·have : i < w.heap.size := by simp at h2; omega
   simp [hi, this]
theorem wp_stNew {a : Act} {w : World} {K : Act → World → Prop} {Q : Exit → Act → World → Prop} {ty' : TypeId} {pos : String} {af : Array Edge} {gd : Option (Nat × Bool)} (ty : TypeId) (x y : Operand) {cs : Array Value} {T : TypeId} (hl : ∃ (n : Nat) (cs' : Array Value), StNew P a w ty x y n cs' ∧ cs.size = n ∧ K a (w.alloc (.cells cs' T))) : (Oper.mk none (.store ty x y) ty' pos af gd).wp P a (w.alloc (.cells cs T)) K Q := by
 obtain ⟨n, cs', ⟨hs, hx, hv, hc, h1⟩, hsz, h⟩ := hl
 have hst := run_storeVar_part (P := P) (w.alloc (.cells cs T)) w.heap.size 0 n T ty cs (a.eval y) (hs _) (by rw [hv]; exact hc) (by rw [hv]; exact h1) (heap_alloc_new w _) (by omega)
 rw [hv] at hst
 have e : (cs.toList.take 0 ++ cs'.toList ++ cs.toList.drop (0 + n)).toArray = cs' := by
  rw [List.drop_of_length_le (by simp; omega)]
  simp
 rw [e, setRow_alloc] at hst
 unfold Oper.wp execOp
 simp only [hx, Instr.storeAt, Instr.sureAddr, Sem.run_bind, Sem.run_pure, Result.andThen_ok, hst]
 exact h
theorem wpList_stNew {ops : Array Oper} {rest : List Oper} {a : Act} {w : World} {Q : Exit → Act → World → Prop} {ty' : TypeId} {pos : String} {af : Array Edge} (ty : TypeId) (x y : Operand) {cs : Array Value} {T : TypeId} (hl : ∃ (n : Nat) (cs' : Array Value), StNew P a w ty x y n cs' ∧ cs.size = n ∧ wpList P ops Q rest a (w.alloc (.cells cs' T))) : wpList P ops Q (Oper.mk none (.store ty x y) ty' pos af none :: rest) a (w.alloc (.cells cs T)) := by
 obtain ⟨n, cs', hs, hsz, h⟩ := hl
 exact wpList_plain rfl fun _ hK => wp_stNew ty x y ⟨n, cs', hs, hsz, hK _ _ h⟩
/-! Facts on blocks, carried on. -/
theorem tr_gb {w w' : World} {r : Option Nat} {j : Nat} {o : Obj} (hg : w.grownBy w' r) (h : w.heap[j]? = some o) (hne : r ≠ some j) : w'.heap[j]? = some o := (hg.block j (Array.getElem?_eq_some_iff.1 h).1 (fun e => hne e.symm)).trans h
theorem tr_st {w w' : World} {g j : Nat} {o : Obj} (hg : w.grownBy w' (some g)) (h : w.heap[j]? = some o) (hne : g ≠ j) : w'.heap[j]? = some o := tr_gb hg h (fun e => hne (Option.some.inj e))
theorem tr_bl {w w' : World} {j : Nat} {o : Obj} (hb : Below w.heap.size w w') (h : w.heap[j]? = some o) : w'.heap[j]? = some o := (hb.block j (Array.getElem?_eq_some_iff.1 h).1).trans h
theorem tr_al {w : World} {j : Nat} {o : Obj} (o' : Obj) (h : w.heap[j]? = some o) : (w.alloc o').heap[j]? = some o := tr_bl (blw w o') h
theorem lt_blk {w : World} {j : Nat} {o : Obj} (h : w.heap[j]? = some o) : j < w.heap.size := (Array.getElem?_eq_some_iff.1 h).1
theorem owns_ne {w w' : World} {base n size g : Nat} {e T : TypeId} {v : Value} {xs : List Value} {cs : Array Value} (h : w.ownsRow base e size v n xs) (hg : w.grownBy w' (some g)) (hc : w.heap[g]? = some (.cells cs T (0, 0))) (hne : e ≠ T) : w'.ownsRow base e size v n xs := by
 obtain ⟨hl, h | ⟨k, cap, cur, hv, hk, hc2, r⟩⟩ := h
 ·exact ⟨hl, .inl h⟩
 ·refine ⟨hl, .inr ⟨k, cap, cur, hv, hk, tr_st hg hc2 ?_, r⟩⟩
  rintro rfl
  rw [hc] at hc2
  injection hc2 with hc2
  injection hc2 with _ ht
  exact hne ht.symm
theorem owns_bl {w w' : World} {base n size : Nat} {e : TypeId} {v : Value} {xs : List Value} (h : w.ownsRow base e size v n xs) (hb : Below w.heap.size w w') : w'.ownsRow base e size v n xs := owns_after h hb
theorem bl_st {B : Nat} {w w' w'' : World} {g : Nat} (hb : Below B w w') (hg : w'.grownBy w'' (some g)) (hB : B ≤ w'.heap.size) (h : B ≤ g) : Below B w w'' := hb.grown hg hB (fun k e => by cases e; exact h)
/-! Results that lie in blocks. -/
theorem results_c1 {fn : Func} {p t : Nat} {tmps : Array Value} {w : World} {A : Addr} {v : Value} (hf : fn.results = #[.cell p t]) (hp : tmps.getD p undef = .pointer (some A)) (hl : (loadVar t A).run P w = .ok v w) : (results fn tmps).run P w = .ok v w := by
 have hp' : tmps[p]?.getD undef = .pointer (some A) := by simpa using hp
 simp [results, hf, hp', asAddr, hl]
theorem results_c1t1 {fn : Func} {p t q : Nat} {tmps : Array Value} {w : World} {A : Addr} {v : Value} (hf : fn.results = #[.cell p t, .tmp q]) (hp : tmps.getD p undef = .pointer (some A)) (hl : (loadVar t A).run P w = .ok v w) : (results fn tmps).run P w = .ok (.tuple #[v, tmps.getD q undef]) w := by
 have hp' : tmps[p]?.getD undef = .pointer (some A) := by simpa using hp
 simp [results, hf, hp', asAddr, hl]
theorem run_loadVar_all {w : World} {g n : Nat} {T ty : TypeId} {cs : Array Value} (ha : ∀ w, (isAgg ty).run P w = .ok true w) (hs : ∀ w, (sizeOf ty).run P w = .ok n w) (hg : w.heap[g]? = some (.cells cs T (0, 0))) (hn : cs.size = n) : (loadVar ty ⟨g, 0, none⟩).run P w = .ok (.agg cs) w := by
 have := run_loadVar_part (P := P) w g 0 n T ty cs (ha w) (hs w) hg (by omega)
 rw [this]
 subst hn
 simp
end Go.Proofs.YtbdonjenekhmdaaGreatDoor
namespace Go.Proofs.YtbdonjenekhmdaaGreatDoor
open Go.RowKit
variable {P : Program} {ops : Array Oper} {C : World → Prop}
theorem wp_region_cls {id : Nat} {Q : Exit → Act → World → Prop} {a : Act} {w : World} {l : List Oper} (hm : P.follows .mixedOrders = true) (hB : Region.lexB .any l.toArray = true) (hC : C w.drew)
  (h : wpQuiet P l.toArray C (fun a' => ∀ w', C w' → Q .normal a' w') l a) : (Code.region id l.toArray true).wp P Q a w :=
 wp_region_quiet (C := C) hm hB hC (by simpa using h)
theorem wpQuiet_gen {Q : Act → Prop} {a : Act} {o : Oper} {rest : List Oper} (hw : Region.wanted o (yielded ops a.tmps) = true) (v : Value) (hy : ∀ w, C w → o.quietAt P a C w v)
  (h : wpQuiet P ops C Q rest (a.put o.dst v)) : wpQuiet P ops C Q (o :: rest) a := by
 unfold wpQuiet
 rw [if_pos hw]
 exact ⟨v, hy, h⟩
theorem wpQuiet_val {Q : Act → Prop} {a : Act} {o : Oper} {rest : List Oper} (hw : Region.wanted o (yielded ops a.tmps) = true) (v : Value) (hy : ∀ w, C w → (execOp a.eval o).run P w = .ok (.value v) w)
  (h : wpQuiet P ops C Q rest (a.put o.dst v)) : wpQuiet P ops C Q (o :: rest) a :=
 wpQuiet_gen hw v (fun w hC => by unfold Oper.quietAt; rw [hy w hC]; exact ⟨rfl, rfl⟩) h
theorem wpQuiet_skip {Q : Act → Prop} {a : Act} {o : Oper} {rest : List Oper} (hw : Region.wanted o (yielded ops a.tmps) = false) (h : wpQuiet P ops C Q rest (a.put o.dst undef)) : wpQuiet P ops C Q (o :: rest) a := by
 unfold wpQuiet
 rw [if_neg (by rw [hw]; simp)]
 exact h
end Go.Proofs.YtbdonjenekhmdaaGreatDoor
namespace Go.Proofs.YtbdonjenekhmdaaGreatDoor
open Go.RowKit
variable {P : Program}
def LdCs (P : Program) (a : Act) (w : World) (ty : TypeId) (x : Operand) (v : Array Value) : Prop :=
 ∃ (b off n : Nat), (∀ w, (isAgg ty).run P w = .ok true w) ∧ (∀ w, (sizeOf ty).run P w = .ok n w) ∧ a.eval x = .pointer (some ⟨b, off, none⟩) ∧ v.size = n ∧ ∀ j u, v[j]? = some u → w.cell? ⟨b, off + j, none⟩ = some u
theorem run_loadVar_cs (w : World) (b off n : Nat) (ty : TypeId) (v : Array Value) (ha : (isAgg ty).run P w = .ok true w) (hs : (sizeOf ty).run P w = .ok n w) (hn : v.size = n) (hc : ∀ j u, v[j]? = some u → w.cell? ⟨b, off + j, none⟩ = some u) :
  (loadVar ty ⟨b, off, none⟩).run P w = .ok (.agg v) w := by
 have hl := run_loadCells_list (P := P) (w := w) ⟨b, off, none⟩ v.toList (fun j u hu => by
  rw [addr_add]
  exact hc j u (by rw [← Array.getElem?_toList]; exact hu))
 rw [Array.length_toList, hn] at hl
 simp only [Array.toArray_toList] at hl
 simp only [loadVar, Sem.run_bind, ha, hs, hl, Result.andThen_ok, if_true, Sem.run_pure]
theorem exec_ldC {a : Act} {w : World} {dst : Option Tmp} {ty' : TypeId} {pos : String} {af : Array Edge} {gd : Option (Nat × Bool)} (ty : TypeId) (x : Operand) {v : Array Value} (hl : LdCs P a w ty x v) : (execOp a.eval (Oper.mk dst (.load ty x) ty' pos af gd)).run P w = .ok (.value (.agg v)) w := by
 obtain ⟨b, off, n, ha, hs, hx, hn, hc⟩ := hl
 unfold execOp
 simp only [hx, Instr.loadAt, Instr.sureAddr, Sem.run_bind, Sem.run_pure, Result.andThen_ok, run_loadVar_cs w b off n ty v (ha w) (hs w) hn hc]
theorem wpList_ldC {ops : Array Oper} {rest : List Oper} {a : Act} {w : World} {Q : Exit → Act → World → Prop} {dst : Option Tmp} {ty' : TypeId} {pos : String} {af : Array Edge} {gd : Option (Nat × Bool)} (ty : TypeId) (x : Operand)
  (hl : Region.wanted (Oper.mk dst (.load ty x) ty' pos af gd) (yielded ops a.tmps) = true ∧ ∃ v, LdCs P a w ty x v ∧ wpList P ops Q rest (a.put dst (.agg v)) w) : wpList P ops Q (Oper.mk dst (.load ty x) ty' pos af gd :: rest) a w := by
 obtain ⟨hw, v, h1, h2⟩ := hl
 refine BigFrame.wpList_want hw fun K hK => ?_
 unfold Oper.wp
 rw [exec_ldC ty x h1]
 exact hK _ _ h2
end Go.Proofs.YtbdonjenekhmdaaGreatDoor
