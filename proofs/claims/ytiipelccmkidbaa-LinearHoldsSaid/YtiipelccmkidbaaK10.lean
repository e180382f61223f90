/- was, get. -/
import Derived.Test.YtiipelccmkidbaaK2b
import Derived.Test.YtiipelccmkidbaaK9
import Derived.Test.YtiipelccmkidbaaK4
import Derived.Test.YtiipelccmkidbaaRows
import Derived.WalkKit
import Derived.WalkSpells
import Derived.WalkLawsBesides
import Derived.Handy
import Derived.Deep.QuietTactic
import Derived.BigQuiet
import Derived.Deep.DeepCutAuto
import Derived.Lib.Hide
import Derived.RegionTactic
import Derived.ChangeAlike
import Derived.RegionTactic
import Derived.Deep.RegionHeld3
import Derived.Deep.RegionWith
import Derived.StillTailTactics
import Derived.Laws.ResultCell
namespace Go.Proofs.Ytiipelccmkidbaa
open Go.RowKit

theorem trio {w : World} {g : Nat} {x y z : Value} {T : TypeId} (h : w.heap[g]? = some (.cells #[x, y, z] T (0, 0))) :
    w.cell? ⟨g, 0, none⟩ = some x ∧ w.cell? ⟨g, 1, none⟩ = some y ∧ w.cell? ⟨g, 2, none⟩ = some z ∧ w.frozen? ⟨g, 0, none⟩ = false ∧ w.frozen? ⟨g, 1, none⟩ = false ∧ w.frozen? ⟨g, 2, none⟩ = false := by
  refine ⟨?_, ?_, ?_, ?_, ?_, ?_⟩
  all_goals simp [World.cell?, World.frozen?, h]
theorem four {w : World} {g : Nat} {x y z u : Value} {T : TypeId} (h : w.heap[g]? = some (.cells #[x, y, z, u] T (0, 0))) :
    w.cell? ⟨g, 0, none⟩ = some x ∧ w.cell? ⟨g, 1, none⟩ = some y ∧ w.cell? ⟨g, 2, none⟩ = some z ∧ w.cell? ⟨g, 3, none⟩ = some u := by
  refine ⟨?_, ?_, ?_, ?_⟩
  all_goals simp [World.cell?, h]

set_option maxRecDepth 100000 in
set_option maxHeartbeats 1000000 in
theorem was_any (a : Option Addr) (cap : Nat) (l : List Pr) (k : Tx) (w : World) (hr : Row w a (prs l)) (hl : l.length ≤ 1000000) (hso : Rises l) (r : Rp) (hres : wasR l k = r) :
    Calls Try.prog 30 #[.slice a l.length cap, .string k] w fun e w' => e = .returned (rpV r) ∧ Below w.heap.size w w' := by
  have hb0 : Below w.heap.size w (w.alloc (Obj.cells #[.int .i64 0, .bool false, .string ⟨#[]⟩] 30)) := (Below.refl _ _).alloc (Nat.le_refl _) _
  have hr0 := hr.below0 hb0
  subst hres
  cases hlk : look l k with
  | none =>
    have hh : hasK l k = false := by simp [hasK, hlk]
    have hw : wasR l k = ⟨0, false, ⟨#[]⟩⟩ := by simp [wasR, hlk]
    rw [hw]
    have HH := Lib.hid hh
    clear hh hw hlk
    go_enter Try.func30, Try.ntmps30
    go_wp2_with (go_at_call 31; refine (find_any _ _ _ _ _ hr0 hl hso).mono ?_; rintro e w1 ⟨rfl, hb1⟩; rw [HH.out]; obtain ⟨c0, c1, c2, f0, f1, f2⟩ := trio ((hb1.block w.heap.size (by simp)).trans (heap_alloc_new _ _)); have hbw1 := hb0.trans (hb1.mono (by simp)))
    (try simp only [Exit.inBlock, Exit.then])
    refine bodyPost_ret ?hr rfl ⟨rfl, ?_⟩
    case hr =>
      simp only [results, Try.results30]
      go_simp
      try rfl
    (repeat' (first | (with_reducible exact Below.refl _ _) | (with_reducible assumption) | (with_reducible refine Below.alloc ?_ ?_ _) | (with_reducible refine Below.drew ?_) | (with_reducible refine below_drewN ?_ _) | (with_reducible refine Below.setCell ?_ ?_ _) | (with_reducible refine Below.trans ?_ (by assumption)) | go_size))
  | some v =>
    have hh : hasK l k = true := by simp [hasK, hlk]
    have hw : wasR l k = ⟨0, true, v⟩ := by simp [wasR, hlk]
    have hat := at_yes hso hlk
    obtain ⟨bb, off, rfl, hblt, hcs⟩ := hr.pair hat
    obtain ⟨d0, d1⟩ := hcs _ _ hat
    have hlo := (List.getElem?_eq_some_iff.1 hat).1
    rw [hw]
    have HH := Lib.hid hh
    clear hh hw hlk hat hcs
    go_enter Try.func30, Try.ntmps30
    go_wp2_with (go_at_call 31; refine (find_any _ _ _ _ _ hr0 hl hso).mono ?_; rintro e w1 ⟨rfl, hb1⟩; rw [HH.out]; obtain ⟨c0, c1, c2, f0, f1, f2⟩ := trio ((hb1.block w.heap.size (by simp)).trans (heap_alloc_new _ _)); have hbw1 := hb0.trans (hb1.mono (by simp)); have e1 := (hbw1.cell (p := ⟨bb, off + (lo l k).length * 2 + 1, none⟩) hblt).trans d1)
    (try simp only [Exit.inBlock, Exit.then])
    refine bodyPost_ret ?hr rfl ⟨rfl, ?_⟩
    case hr =>
      simp only [results, Try.results30]
      go_simp
      try rfl
    (repeat' (first | (with_reducible exact Below.refl _ _) | (with_reducible assumption) | (with_reducible refine Below.alloc ?_ ?_ _) | (with_reducible refine Below.drew ?_) | (with_reducible refine below_drewN ?_ _) | (with_reducible refine Below.setCell ?_ ?_ _) | (with_reducible refine Below.trans ?_ (by assumption)) | go_size))

set_option maxRecDepth 100000 in
set_option maxHeartbeats 1000000 in
theorem get_any (a : Option Addr) (cap : Nat) (l : List Pr) (o : Opn) (w : World) (hr : Row w a (prs l)) (hl : l.length ≤ 1000000) (hso : Rises l) (r : Rp) (hres : wasR l o.key = r) :
    Calls Try.prog 25 #[.slice a l.length cap, opV o] w fun e w' => e = .returned (.tuple #[.slice a l.length cap, rpV r]) ∧ Below w.heap.size w w' := by
  obtain ⟨kd, key, old, val⟩ := o
  unfold opV
  have hb0 : Below w.heap.size w ((w.alloc (Obj.cells #[.int .u8 kd, .string key, .string old, .string val] 27)).alloc (Obj.cells #[.int .i64 0, .bool false, .string ⟨#[]⟩] 30)) := ((Below.refl _ _).alloc (Nat.le_refl _) _).alloc (by simp) _
  have hr0 := hr.below0 hb0
  go_enter Try.func25, Try.ntmps25
  go_wp2_with (go_at_call 30; refine (was_any _ _ _ _ _ hr0 hl hso r hres).mono ?_; rintro e w1 ⟨rfl, hb1⟩; obtain ⟨c0, c1, c2, f0, f1, f2⟩ := trio ((hb1.block (w.heap.size + 1) (by simp)).trans (heap_alloc2_new _ _ _)); have hbw1 := hb0.trans (hb1.mono (by simp; omega)); unfold rpV)
  (try simp only [Exit.inBlock, Exit.then])
  refine bodyPost_ret ?hr rfl ⟨rfl, ?_⟩
  case hr =>
    simp only [results, Try.results25]
    go_simp
    try rfl
  (repeat' (first | (with_reducible exact Below.refl _ _) | (with_reducible assumption) | (with_reducible refine Below.alloc ?_ ?_ _) | (with_reducible refine Below.drew ?_) | (with_reducible refine below_drewN ?_ _) | (with_reducible refine Below.setCell ?_ ?_ _) | (with_reducible refine Below.trans ?_ (by assumption)) | go_size))
end Go.Proofs.Ytiipelccmkidbaa
