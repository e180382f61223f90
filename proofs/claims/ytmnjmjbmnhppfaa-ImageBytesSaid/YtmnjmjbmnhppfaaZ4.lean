/- Texts that the claim leans on, part 4: I4b, I5, I6, Blk, I6b, K16, K17. -/
import Derived.Test.YtmnjmjbmnhppfaaZ1
import Derived.Test.YtmnjmjbmnhppfaaZ2
import Derived.Test.YtmnjmjbmnhppfaaZ3
import Derived.Test.YtmnjmjbmnhppfaaRows
import Derived.WalkKit
import Derived.WalkSpells
import Derived.WalkLawsBesides
import Derived.Handy
import Derived.Deep.QuietTactic
import Derived.BigQuiet
import Derived.Deep.DeepCutAuto
import Derived.Lib.Hide
import Derived.RegionTactic
import Derived.ChangeAlike
import Derived.Laws.ResultCell
import Derived.StillTailTactics
import Derived.Laws.Rows
import Derived.Deep.RegionHeld3
import Derived.Outline
import Derived.Laws.EntriesVeiled
import Derived.Lib.Overlaps
import Derived.Deep.RegionWith
import Derived.ProofKit
import Derived.OpenShut
import Derived.Laws.Strings
import Derived.Laws.CopyOwn
import Derived.Laws.CopyRow
import Derived.Laws.NewBlocks
import Derived.Deep.RegionLaw
namespace Go.Proofs.Ytmnjmjbmnhppfaa
open Go.RowKit

@[go_sem] theorem eqOp9 (k k' : Int) (a b c a' b' c' : Tx) (w : World) : (Op.equalIn 9999 61 (.agg #[.int .u8 k, .string a, .string b, .string c]) (.agg #[.int .u8 k', .string a', .string b', .string c'])).run Try.prog w = .ok (k == k' && a.toList == a'.toList && b.toList == b'.toList && c.toList == c'.toList) w := by
  have u3 := Try.underlying9
  have a3 := Try.isAgg9
  have z3 := Try.sizeOf9
  have u5 := Try.underlying5
  have a5 := Try.isAgg5
  have z5 := Try.sizeOf5
  have hS : Try.prog.underlying 61 = some (.struct (Try.prog.fieldsOf 61)) := by kernel_rfl
  rw [show (9999 : Nat) = 9998 + 1 from rfl, run_equalIn_agg w 9998 61 _ _ hS (by kernel_rfl)]
  simp only [Program.fieldsOf, Try.underlying61]
  go_simp
  cases h1 : (k == k') <;> cases h2 : (a.toList == a'.toList) <;> cases h3 : (b.toList == b'.toList) <;> cases h4 : (c.toList == c'.toList) <;> simp_all
@[go_sem] theorem eqEntry (q q' c1 c1' s s' k k' : Int) (a b c a' b' c' : Tx) (w : World) : (Op.equalIn 10000 80 (.agg #[.int .u8 q, .int .i64 c1, .int .i64 s, .int .u8 k, .string a, .string b, .string c]) (.agg #[.int .u8 q', .int .i64 c1', .int .i64 s', .int .u8 k', .string a', .string b', .string c'])).run Try.prog w = .ok (q == q' && c1 == c1' && s == s' && (k == k' && a.toList == a'.toList && b.toList == b'.toList && c.toList == c'.toList)) w := by
  have u3 := Try.underlying3
  have a3 := Try.isAgg3
  have z3 := Try.sizeOf3
  have u5 := Try.underlying5
  have a5 := Try.isAgg5
  have z5 := Try.sizeOf5
  have a4 := Try.isAgg61
  have z4 := Try.sizeOf61
  have hS : Try.prog.underlying 80 = some (.struct (Try.prog.fieldsOf 80)) := by kernel_rfl
  rw [show (10000 : Nat) = 9999 + 1 from rfl, run_equalIn_agg w 9999 80 _ _ hS (by kernel_rfl)]
  simp only [Program.fieldsOf, Try.underlying80]
  go_simp
  cases h1 : (q == q') <;> cases h2 : (c1 == c1') <;> cases h3 : (s == s') <;> cases h4 : (k == k') <;> cases h5 : (a.toList == a'.toList) <;> cases h6 : (b.toList == b'.toList) <;> cases h7 : (c.toList == c'.toList) <;> simp_all

def enA (e : En) : Array Value := #[.int .u8 e.kind, .int .i64 e.cli, .int .i64 e.seq, .int .u8 e.op.kind, .string e.op.key, .string e.op.old, .string e.op.val]

theorem mayE_noop {e : En} (h : e.kind = 1) : mayE e = (e.cli == 0 && e.seq == 0 && nilO e.op) := by unfold mayE; rw [if_pos h]
theorem mayE_op {e : En} (h : e.kind = 2) : mayE e = (decide (0 ≤ e.cli) && decide (e.cli < 4) && decide (1 ≤ e.seq) && decide (e.seq ≤ 1099511627776) && mayO e.op && e.op.kind != 1) := by
  unfold mayE
  rw [if_neg (by omega)]
  simp [h, big40]
  rfl
theorem mayE_else {e : En} (h : e.kind ≠ 1) (h2 : e.kind ≠ 2) : mayE e = false := by
  unfold mayE
  rw [if_neg h]
  have : (e.kind == 2) = false := by simpa using h2
  simp [this]

set_option maxRecDepth 100000 in
set_option maxHeartbeats 8000000 in
theorem emay_any (e : En) (w : World) (r : Bool) (hr : mayE e = r) : Calls Try.prog 83 #[.agg (enA e)] w fun en w' => en = .returned (.bool r) ∧ Below w.heap.size w w' := by
  obtain ⟨kd, cl, sq, ⟨ok, key, old, val⟩⟩ := e
  unfold enA
  simp only
  have hb0 : Below w.heap.size w (w.alloc (Obj.cells #[.int .u8 kd, .int .i64 cl, .int .i64 sq, .int .u8 ok, .string key, .string old, .string val] 80)) := (Below.refl _ _).alloc (Nat.le_refl _) _
  have HR := Lib.hid hr
  clear hr
  by_cases k1 : kd = 1
  · subst k1
    have hz : (1 == (1 : Int) && cl == 0 && sq == 0 && (ok == 0 && key.toList == [] && old.toList == [] && val.toList == [])) = r := by
      rw [← HR.out, mayE_noop rfl]
      rfl
    have HZ := Lib.hid hz
    clear hz
    go_enter Try.func83, Try.ntmps83
    go_wp2
    all_goals
      go_ret
      exact ⟨ret_bool (by rw [← HZ.out]; simp [*]), by (repeat' (first | (with_reducible exact Below.refl _ _) | (with_reducible assumption) | (with_reducible refine Below.alloc ?_ ?_ _) | (with_reducible refine Below.drew ?_) | (with_reducible refine below_drewN ?_ _) | (with_reducible refine Below.setCell ?_ ?_ _) | (with_reducible refine Below.trans ?_ (by assumption)) | go_size))⟩
  · have k1b : (kd == 1) = false := beq_eq_false_iff_ne.2 k1
    by_cases k2 : kd = 2
    · subst k2
      have hm := (mayE_op (e := ⟨2, cl, sq, ⟨ok, key, old, val⟩⟩) rfl).symm.trans HR.out
      have HM := Lib.hid hm
      have hcs : cl < 0 ∨ (0 ≤ cl ∧ 4 ≤ cl) ∨ (0 ≤ cl ∧ cl < 4 ∧ sq < 1) ∨ (0 ≤ cl ∧ cl < 4 ∧ 1 ≤ sq ∧ 1099511627776 < sq) ∨ (0 ≤ cl ∧ cl < 4 ∧ 1 ≤ sq ∧ sq ≤ 1099511627776) := by omega
      obtain ⟨mo, hmo⟩ : ∃ mo, mayO ⟨ok, key, old, val⟩ = mo := ⟨_, rfl⟩
      have HMO := Lib.hid hmo
      clear hm k1 k1b hmo
      rcases hcs with h | ⟨h, h2⟩ | ⟨h, h2, h3⟩ | ⟨h, h2, h3, h4⟩ | ⟨h, h2, h3, h4⟩
      · obtain rfl : r = false := by rw [← HM.out, decide_eq_false (show ¬ 0 ≤ cl by omega)]; simp
        go_enter Try.func83, Try.ntmps83
        go_wp2
        go_ret
        exact ⟨rfl, hb0⟩
      · obtain rfl : r = false := by rw [← HM.out, decide_eq_false (show ¬ cl < 4 by omega)]; simp
        go_enter Try.func83, Try.ntmps83
        go_wp2
        go_ret
        exact ⟨rfl, hb0⟩
      · obtain rfl : r = false := by rw [← HM.out, decide_eq_false (show ¬ 1 ≤ sq by omega)]; simp
        go_enter Try.func83, Try.ntmps83
        go_wp2
        go_ret
        exact ⟨rfl, hb0⟩
      · obtain rfl : r = false := by rw [← HM.out, decide_eq_false (show ¬ sq ≤ 1099511627776 by omega)]; simp
        go_enter Try.func83, Try.ntmps83
        go_wp2
        go_ret
        exact ⟨rfl, hb0⟩
      · have hr2 : (mo && ok != 1) = r := by rw [← HM.out, HMO.out, decide_eq_true h, decide_eq_true (show cl < 4 by omega), decide_eq_true h3, decide_eq_true h4]; simp
        have HR2 := Lib.hid hr2
        clear hr2
        cases mo
        all_goals
          go_enter Try.func83, Try.ntmps83
          go_wp2_with (go_at_call 103; refine (emayO_any _ _ _ _ _ _ HMO.out).mono ?_; rintro en w1 ⟨rfl, hb1⟩; have d3 := blk_cell ((hb1.block w.heap.size (by simp)).trans (heap_alloc_new w (Obj.cells #[.int .u8 2, .int .i64 cl, .int .i64 sq, .int .u8 ok, .string key, .string old, .string val] 80))) 3 _ rfl)
          all_goals
            go_ret
            exact ⟨ret_bool (by rw [← HR2.out]; first | rfl | simp [*]), hb0.trans (hb1.mono hb0.size)⟩
    · have k2b : (kd == 2) = false := beq_eq_false_iff_ne.2 k2
      have hrf : r = false := by rw [← HR.out]; exact mayE_else k1 k2
      subst hrf
      clear k1 k2
      go_enter Try.func83, Try.ntmps83
      go_wp2
      go_ret
      exact ⟨rfl, hb0⟩

set_option maxRecDepth 100000 in
set_option maxHeartbeats 8000000 in
theorem fmay_any (e : En) (w : World) (r : Bool) (hr : mayE e = r) : Calls Try.prog 82 #[.agg (enA e)] w fun en w' => en = .returned (.bool r) ∧ Below w.heap.size w w' := by
  obtain ⟨kd, cl, sq, ⟨ok, key, old, val⟩⟩ := e
  unfold enA
  simp only
  have hb0 : Below w.heap.size w (w.alloc (Obj.cells #[.int .u8 kd, .int .i64 cl, .int .i64 sq, .int .u8 ok, .string key, .string old, .string val] 80)) := (Below.refl _ _).alloc (Nat.le_refl _) _
  have HR := Lib.hid hr
  clear hr
  go_enter Try.func82, Try.ntmps82
  refine wp_seq_k (fun K hK => ?_)
  have HK := Lib.hid hK
  clear hK
  go_wp2
  refine HK.out _ _ ?_
  clear HK
  have d0 := blk_cell (heap_alloc_new w (Obj.cells #[.int .u8 kd, .int .i64 cl, .int .i64 sq, .int .u8 ok, .string key, .string old, .string val] 80)) 0 _ rfl
  refine wp_seq_k (fun K hK => ?_)
  go_cut [3] (fun z wx => z = .bool (cl == 0 && sq == 0 && (ok == 0 && key.toList == [] && old.toList == [] && val.toList == [])) ∧ wx = w.alloc (Obj.cells #[.int .u8 kd, .int .i64 cl, .int .i64 sq, .int .u8 ok, .string key, .string old, .string val] 80))
  case first =>
    cases h1 : (cl == 0)
    · go_wp2
      go_meet
      exact ⟨bool_eq (by rw [h1]; rfl), rfl⟩
    · cases h2 : (sq == 0)
      · go_wp2
        go_meet
        exact ⟨bool_eq (by rw [h1, h2]; rfl), rfl⟩
      · cases h3 : (ok == 0) <;> cases h4 : (key.toList == []) <;> cases h5 : (old.toList == []) <;> cases h6 : (val.toList == [])
        all_goals
          go_wp2
          go_meet
          exact ⟨bool_eq (by rw [h1, h2, h3, h4, h5, h6]; rfl), rfl⟩
  obtain ⟨rfl, rfl⟩ := hcut
  refine hK _ _ ?_; clear hK
  by_cases k1 : kd = 1
  · subst k1
    have hz : (cl == 0 && sq == 0 && (ok == 0 && key.toList == [] && old.toList == [] && val.toList == [])) = r := by
      rw [← HR.out, mayE_noop rfl]
      rfl
    rw [hz]
    clear hz
    go_wp2
    go_ret
    exact ⟨rfl, hb0⟩
  · have k1b : (kd == 1) = false := beq_eq_false_iff_ne.2 k1
    by_cases k2 : kd = 2
    · subst k2
      have hm := (mayE_op (e := ⟨2, cl, sq, ⟨ok, key, old, val⟩⟩) rfl).symm.trans HR.out
      have HM := Lib.hid hm
      have hcs : cl < 0 ∨ (0 ≤ cl ∧ 3 < cl) ∨ (0 ≤ cl ∧ cl ≤ 3 ∧ sq < 1) ∨ (0 ≤ cl ∧ cl ≤ 3 ∧ 1 ≤ sq ∧ 1099511627776 < sq) ∨ (0 ≤ cl ∧ cl ≤ 3 ∧ 1 ≤ sq ∧ sq ≤ 1099511627776) := by omega
      obtain ⟨mo, hmo⟩ : ∃ mo, mayO ⟨ok, key, old, val⟩ = mo := ⟨_, rfl⟩
      have HMO := Lib.hid hmo
      clear hm k1 k1b hmo
      generalize (cl == 0 && sq == 0 && (ok == 0 && key.toList == [] && old.toList == [] && val.toList == [])) = zz
      rcases hcs with h | ⟨h, h2⟩ | ⟨h, h2, h3⟩ | ⟨h, h2, h3, h4⟩ | ⟨h, h2, h3, h4⟩
      · obtain rfl : r = false := by rw [← HM.out, decide_eq_false (show ¬ 0 ≤ cl by omega)]; simp
        go_wp2
        go_ret
        exact ⟨rfl, hb0⟩
      · obtain rfl : r = false := by rw [← HM.out, decide_eq_false (show ¬ cl < 4 by omega)]; simp
        go_wp2
        go_ret
        exact ⟨rfl, hb0⟩
      · obtain rfl : r = false := by rw [← HM.out, decide_eq_false (show ¬ 1 ≤ sq by omega)]; simp
        go_wp2
        go_ret
        exact ⟨rfl, hb0⟩
      · obtain rfl : r = false := by rw [← HM.out, decide_eq_false (show ¬ sq ≤ 1099511627776 by omega)]; simp
        go_wp2
        go_ret
        exact ⟨rfl, hb0⟩
      · have hr2 : (mo && ok != 1) = r := by rw [← HM.out, HMO.out, decide_eq_true h, decide_eq_true (show cl < 4 by omega), decide_eq_true h3, decide_eq_true h4]; simp
        have HR2 := Lib.hid hr2
        clear hr2
        cases mo
        all_goals
          go_wp2_with (go_at_call 102; refine (fmayO_any _ _ _ _ _ _ HMO.out).mono ?_; rintro en w1 ⟨rfl, hb1⟩; have d3 := blk_cell ((hb1.block w.heap.size (by simp)).trans (heap_alloc_new w (Obj.cells #[.int .u8 2, .int .i64 cl, .int .i64 sq, .int .u8 ok, .string key, .string old, .string val] 80))) 3 _ rfl)
          all_goals
            go_ret
            exact ⟨ret_bool (by rw [← HR2.out]; first | rfl | simp [*]), hb0.trans (hb1.mono hb0.size)⟩
    · have k2b : (kd == 2) = false := beq_eq_false_iff_ne.2 k2
      have hrf : r = false := by rw [← HR.out]; exact mayE_else k1 k2
      subst hrf
      clear k1 k2
      generalize (cl == 0 && sq == 0 && (ok == 0 && key.toList == [] && old.toList == [] && val.toList == [])) = zz
      go_wp2
      go_ret
      exact ⟨rfl, hb0⟩
end Go.Proofs.Ytmnjmjbmnhppfaa

namespace Go.Proofs.Ytmnjmjbmnhppfaa
open Go.RowKit

def imA (idx : Int) (sv : Value) (t : Tb) : Array Value := #[.int .i64 idx, sv, .int .i64 t.r0.seq, .int .i64 t.r0.rep.err, .bool t.r0.rep.found, .string t.r0.rep.val, .int .i64 t.r1.seq, .int .i64 t.r1.rep.err, .bool t.r1.rep.found, .string t.r1.rep.val, .int .i64 t.r2.seq, .int .i64 t.r2.rep.err, .bool t.r2.rep.found, .string t.r2.rep.val, .int .i64 t.r3.seq, .int .i64 t.r3.rep.err, .bool t.r3.rep.found, .string t.r3.rep.val]
/-- The eighteen cells of an image's box. -/
structure ImC (w : World) (g : Nat) (idx : Int) (sv : Value) (t : Tb) : Prop where
  c0 : w.cell? ⟨g, 0, none⟩ = some (.int .i64 idx)
  c1 : w.cell? ⟨g, 1, none⟩ = some (sv)
  c2 : w.cell? ⟨g, 2, none⟩ = some (.int .i64 t.r0.seq)
  c3 : w.cell? ⟨g, 3, none⟩ = some (.int .i64 t.r0.rep.err)
  c4 : w.cell? ⟨g, 4, none⟩ = some (.bool t.r0.rep.found)
  c5 : w.cell? ⟨g, 5, none⟩ = some (.string t.r0.rep.val)
  c6 : w.cell? ⟨g, 6, none⟩ = some (.int .i64 t.r1.seq)
  c7 : w.cell? ⟨g, 7, none⟩ = some (.int .i64 t.r1.rep.err)
  c8 : w.cell? ⟨g, 8, none⟩ = some (.bool t.r1.rep.found)
  c9 : w.cell? ⟨g, 9, none⟩ = some (.string t.r1.rep.val)
  c10 : w.cell? ⟨g, 10, none⟩ = some (.int .i64 t.r2.seq)
  c11 : w.cell? ⟨g, 11, none⟩ = some (.int .i64 t.r2.rep.err)
  c12 : w.cell? ⟨g, 12, none⟩ = some (.bool t.r2.rep.found)
  c13 : w.cell? ⟨g, 13, none⟩ = some (.string t.r2.rep.val)
  c14 : w.cell? ⟨g, 14, none⟩ = some (.int .i64 t.r3.seq)
  c15 : w.cell? ⟨g, 15, none⟩ = some (.int .i64 t.r3.rep.err)
  c16 : w.cell? ⟨g, 16, none⟩ = some (.bool t.r3.rep.found)
  c17 : w.cell? ⟨g, 17, none⟩ = some (.string t.r3.rep.val)
structure ImB (w : World) (g : Nat) (idx : Int) (sv : Value) (t : Tb) : Prop where
  blk : w.heap[g]? = some (.cells (imA idx sv t) 49 (0, 0))
theorem ImB.cells {w : World} {g : Nat} {idx : Int} {sv : Value} {t : Tb} (h : ImB w g idx sv t) : ImC w g idx sv t := by
  have hb := h.blk
  unfold imA at hb
  constructor
  all_goals simp [World.cell?, hb]
theorem ImB.lt {w : World} {g : Nat} {idx : Int} {sv : Value} {t : Tb} (h : ImB w g idx sv t) : g < w.heap.size := (Array.getElem?_eq_some_iff.1 h.blk).1
theorem ImB.below {w w' : World} {g : Nat} {idx : Int} {sv : Value} {t : Tb} (h : ImB w g idx sv t) (hb : Below w.heap.size w w') : ImB w' g idx sv t := ⟨(hb.block g h.lt).trans h.blk⟩
theorem ImB.new (w : World) (idx : Int) (sv : Value) (t : Tb) : ImB (w.alloc (Obj.cells (imA idx sv t) 49)) w.heap.size idx sv t := ⟨heap_alloc_new w _⟩
theorem ImB.frozen {w : World} {g : Nat} {idx : Int} {sv : Value} {t : Tb} (h : ImB w g idx sv t) : ∀ j, w.frozen? ⟨g, j, none⟩ = false := fun j => blk_frozen h.blk j

theorem mayI_idx0 {i : Int} {l : List Pr} {t : Tb} {r : Bool} (hr : mayI ⟨i, l, t⟩ = r) (h : i < 0) : r = false := by rw [← hr]; unfold mayI; rw [decide_eq_false (show ¬ 0 ≤ i by omega)]; rfl
theorem mayI_idx1 {i : Int} {l : List Pr} {t : Tb} {r : Bool} (hr : mayI ⟨i, l, t⟩ = r) (h : 1099511627776 < i) : r = false := by rw [← hr]; unfold mayI; rw [decide_eq_false (show ¬ i ≤ big40 by unfold big40; omega)]; simp
theorem mayI_in {i : Int} {l : List Pr} {t : Tb} {r : Bool} (hr : mayI ⟨i, l, t⟩ = r) (h : 0 ≤ i) (h2 : i ≤ 1099511627776) : (mayS l && mayT t) = r := by rw [← hr]; unfold mayI; rw [decide_eq_true h, decide_eq_true (show i ≤ big40 from h2)]; simp

set_option maxRecDepth 100000 in
set_option maxHeartbeats 4000000 in
theorem imay_any (idx : Int) (a : Option Addr) (cap : Nat) (l : List Pr) (t : Tb) (w : World) (hr : Row w a (prs l)) (hl : l.length ≤ 1000) (r : Bool) (hres : mayI ⟨idx, l, t⟩ = r) :
    Calls Try.prog 49 #[.agg (imA idx (.slice a l.length cap) t)] w fun e w' => e = .returned (.bool r) ∧ Below w.heap.size w w' := by
  have hb0 : Below w.heap.size w (w.alloc (Obj.cells (imA idx (.slice a l.length cap) t) 49)) := (Below.refl _ _).alloc (Nat.le_refl _) _
  have hi := ImB.new w idx (.slice a l.length cap) t
  have hrow := hr.below0 hb0
  have hsz := hb0.size
  unfold imA
  go_enter Try.func49, Try.ntmps49
  refine wp_seq_k (fun K hK => ?_)
  have HK := Lib.hid hK
  clear hK
  go_wp2
  refine HK.out _ _ ?_
  clear HK
  change Code.wp _ _ _ _ (w.alloc (Obj.cells (imA idx (.slice a l.length cap) t) 49))
  generalize w.alloc (Obj.cells (imA idx (.slice a l.length cap) t) 49) = w0 at *
  obtain ⟨c0, c1, c2, c3, c4, c5, c6, c7, c8, c9, c10, c11, c12, c13, c14, c15, c16, c17⟩ := hi.cells
  have HI := Lib.hid hi
  have HR := Lib.hid hres
  have HROW := Lib.hid hrow
  clear hi hres hrow
  have hcs : idx < 0 ∨ (0 ≤ idx ∧ 1099511627776 < idx) ∨ (0 ≤ idx ∧ idx ≤ 1099511627776) := by omega
  rcases hcs with h | ⟨h, h2⟩ | ⟨h, h2⟩
  · obtain rfl := mayI_idx0 HR.out h
    go_wp2
    go_ret
    exact ⟨rfl, hb0⟩
  · obtain rfl := mayI_idx1 HR.out h2
    go_wp2
    go_ret
    exact ⟨rfl, hb0⟩
  · have HR2 := Lib.hid (mayI_in HR.out h h2)
    obtain ⟨ms, hms⟩ : ∃ ms, mayS l = ms := ⟨_, rfl⟩
    have HMS := Lib.hid hms
    clear hms
    cases ms
    · obtain rfl : r = false := by rw [← HR2.out, HMS.out]; rfl
      go_wp2_with (go_at_call 33; refine (may_any _ _ _ _ HROW.out hl).mono ?_; (rintro e w1 ⟨rfl, hb1⟩); rw [HMS.out])
      go_ret
      exact ⟨rfl, hb0.trans (hb1.mono hsz)⟩
    · have HT : Hid (mayT t = r) := Lib.hid (by rw [← HR2.out, HMS.out]; rfl)
      go_wp2_with (first
        | (go_at_call 33; refine (may_any _ _ _ _ HROW.out hl).mono ?_; (rintro e w1 ⟨rfl, hb1⟩); rw [HMS.out]; obtain ⟨e0, e1, e2, e3, e4, e5, e6, e7, e8, e9, e10, e11, e12, e13, e14, e15, e16, e17⟩ := (HI.out.below hb1).cells)
        | (go_at_call 86; refine (smay_any _ _).mono ?_; rintro e w2 ⟨rfl, hb2⟩; rw [HT.out]))
      go_ret
      exact ⟨rfl, hb0.trans ((hb1.trans (hb2.mono hb1.size)).mono hsz)⟩

set_option maxRecDepth 100000 in
set_option maxHeartbeats 4000000 in
theorem rimay_any (idx : Int) (a : Option Addr) (cap : Nat) (l : List Pr) (t : Tb) (w : World) (hr : Row w a (prs l)) (hl : l.length ≤ 1000) (hsm : ∀ p ∈ l, p.1.size ≤ 100000) (r : Bool) (hres : mayI ⟨idx, l, t⟩ = r) :
    Calls Try.prog 50 #[.agg (imA idx (.slice a l.length cap) t)] w fun e w' => e = .returned (.bool r) ∧ Below w.heap.size w w' := by
  have hb0 : Below w.heap.size w (w.alloc (Obj.cells (imA idx (.slice a l.length cap) t) 49)) := (Below.refl _ _).alloc (Nat.le_refl _) _
  have hi := ImB.new w idx (.slice a l.length cap) t
  have hrow := hr.below0 hb0
  have hsz := hb0.size
  unfold imA
  go_enter Try.func50, Try.ntmps50
  refine wp_seq_k (fun K hK => ?_)
  have HK := Lib.hid hK
  clear hK
  go_wp2
  refine HK.out _ _ ?_
  clear HK
  change Code.wp _ _ _ _ (w.alloc (Obj.cells (imA idx (.slice a l.length cap) t) 49))
  generalize w.alloc (Obj.cells (imA idx (.slice a l.length cap) t) 49) = w0 at *
  obtain ⟨c0, c1, c2, c3, c4, c5, c6, c7, c8, c9, c10, c11, c12, c13, c14, c15, c16, c17⟩ := hi.cells
  have HI := Lib.hid hi
  have HR := Lib.hid hres
  have HROW := Lib.hid hrow
  clear hi hres hrow
  have hcs : idx < 0 ∨ (0 ≤ idx ∧ 1099511627776 < idx) ∨ (0 ≤ idx ∧ idx ≤ 1099511627776) := by omega
  rcases hcs with h | ⟨h, h2⟩ | ⟨h, h2⟩
  · obtain rfl := mayI_idx0 HR.out h
    go_wp2
    go_ret
    exact ⟨rfl, hb0⟩
  · obtain rfl := mayI_idx1 HR.out h2
    go_wp2
    go_ret
    exact ⟨rfl, hb0⟩
  · have HR2 := Lib.hid (mayI_in HR.out h h2)
    obtain ⟨ms, hms⟩ : ∃ ms, mayS l = ms := ⟨_, rfl⟩
    have HMS := Lib.hid hms
    clear hms
    cases ms
    · obtain rfl : r = false := by rw [← HR2.out, HMS.out]; rfl
      go_wp2_with (go_at_call 41; refine (rmay_any _ _ _ _ HROW.out hl hsm).mono ?_; (rintro e w1 ⟨rfl, q, rfl⟩; have hb1 := below_drewN (Below.refl w0.heap.size w0) q); rw [HMS.out])
      go_ret
      exact ⟨rfl, hb0.trans (hb1.mono hsz)⟩
    · have HT : Hid (mayT t = r) := Lib.hid (by rw [← HR2.out, HMS.out]; rfl)
      go_wp2_with (first
        | (go_at_call 41; refine (rmay_any _ _ _ _ HROW.out hl hsm).mono ?_; (rintro e w1 ⟨rfl, q, rfl⟩; have hb1 := below_drewN (Below.refl w0.heap.size w0) q); rw [HMS.out]; obtain ⟨e0, e1, e2, e3, e4, e5, e6, e7, e8, e9, e10, e11, e12, e13, e14, e15, e16, e17⟩ := (HI.out.below hb1).cells)
        | (go_at_call 87; refine (rsmay_any _ _).mono ?_; rintro e w2 ⟨rfl, hb2⟩; rw [HT.out]))
      go_ret
      exact ⟨rfl, hb0.trans ((hb1.trans (hb2.mono hb1.size)).mono hsz)⟩

end Go.Proofs.Ytmnjmjbmnhppfaa

namespace Go.Proofs.Ytmnjmjbmnhppfaa
open Go.RowKit

structure TbC (w : World) (g : Nat) (t : Tb) : Prop where
  c0 : w.cell? ⟨g, 0, none⟩ = some (.int .i64 t.r0.seq)
  c1 : w.cell? ⟨g, 1, none⟩ = some (.int .i64 t.r0.rep.err)
  c2 : w.cell? ⟨g, 2, none⟩ = some (.bool t.r0.rep.found)
  c3 : w.cell? ⟨g, 3, none⟩ = some (.string t.r0.rep.val)
  c4 : w.cell? ⟨g, 4, none⟩ = some (.int .i64 t.r1.seq)
  c5 : w.cell? ⟨g, 5, none⟩ = some (.int .i64 t.r1.rep.err)
  c6 : w.cell? ⟨g, 6, none⟩ = some (.bool t.r1.rep.found)
  c7 : w.cell? ⟨g, 7, none⟩ = some (.string t.r1.rep.val)
  c8 : w.cell? ⟨g, 8, none⟩ = some (.int .i64 t.r2.seq)
  c9 : w.cell? ⟨g, 9, none⟩ = some (.int .i64 t.r2.rep.err)
  c10 : w.cell? ⟨g, 10, none⟩ = some (.bool t.r2.rep.found)
  c11 : w.cell? ⟨g, 11, none⟩ = some (.string t.r2.rep.val)
  c12 : w.cell? ⟨g, 12, none⟩ = some (.int .i64 t.r3.seq)
  c13 : w.cell? ⟨g, 13, none⟩ = some (.int .i64 t.r3.rep.err)
  c14 : w.cell? ⟨g, 14, none⟩ = some (.bool t.r3.rep.found)
  c15 : w.cell? ⟨g, 15, none⟩ = some (.string t.r3.rep.val)
structure TbB (w : World) (g : Nat) (t : Tb) : Prop where
  blk : w.heap[g]? = some (.cells (tbA t) 47 (0, 0))
theorem TbB.cells {w : World} {g : Nat} {t : Tb} (h : TbB w g t) : TbC w g t := by
  have hb := h.blk
  unfold tbA at hb
  constructor
  all_goals simp [World.cell?, hb]
theorem TbB.lt {w : World} {g : Nat} {t : Tb} (h : TbB w g t) : g < w.heap.size := (Array.getElem?_eq_some_iff.1 h.blk).1
theorem TbB.below {w w' : World} {g : Nat} {t : Tb} (h : TbB w g t) (hb : Below w.heap.size w w') : TbB w' g t := ⟨(hb.block g h.lt).trans h.blk⟩
theorem TbB.new (w : World) (t : Tb) : TbB (w.alloc (Obj.cells (tbA t) 47)) w.heap.size t := ⟨heap_alloc_new w _⟩
theorem TbB.frozen {w : World} {g : Nat} {t : Tb} (h : TbB w g t) : ∀ j, w.frozen? ⟨g, j, none⟩ = false := fun j => blk_frozen h.blk j


def askR (t : Tb) (c s : Int) : Value := if (t.at c).seq < s then .tuple #[.bool true, rpV zeroR, .int .i64 0] else if s < (t.at c).seq then .tuple #[.bool false, rpV zeroR, .int .i64 220] else .tuple #[.bool false, rpV (t.at c).rep, .int .i64 0]

set_option maxRecDepth 100000 in
set_option maxHeartbeats 4000000 in
theorem ask_any (t : Tb) (c s : Int) (w : World) (hm : mayT t = true) (hc : 0 ≤ c) (hc2 : c < 4) (hs : 1 ≤ s) (hs2 : s ≤ 1099511627776) :
    Calls Try.prog 84 #[.agg (tbA t), .int .i64 c, .int .i64 s] w fun e w' => e = .returned (askR t c s) ∧ Below w.heap.size w w' := by
  have HM := Lib.hid hm
  clear hm
  have hb0 : Below w.heap.size w ((w.alloc (Obj.cells (tbA t) 47)).alloc (Obj.cells #[.int .i64 0, .bool false, .string ⟨#[]⟩] 43)) := ((Below.refl _ _).alloc (Nat.le_refl _) _).alloc (by simp) _
  have hi := (TbB.new w t).below ((Below.refl _ _).alloc (Nat.le_refl _) (Obj.cells #[.int .i64 0, .bool false, .string ⟨#[]⟩] 43))
  have hr := heap_alloc2_new w (Obj.cells (tbA t) 47) (Obj.cells #[.int .i64 0, .bool false, .string ⟨#[]⟩] 43)
  have hsz := hb0.size
  unfold tbA
  go_enter Try.func84, Try.ntmps84
  refine wp_seq_k (fun K hK => ?_)
  have HK := Lib.hid hK
  clear hK
  go_wp2
  refine HK.out _ _ ?_
  clear HK
  change Code.wp _ _ _ _ ((w.alloc (Obj.cells (tbA t) 47)).alloc (Obj.cells #[.int .i64 0, .bool false, .string ⟨#[]⟩] 43))
  have hzz : w.heap.size + 1 < ((w.alloc (Obj.cells (tbA t) 47)).alloc (Obj.cells #[.int .i64 0, .bool false, .string ⟨#[]⟩] 43)).heap.size := by simp
  generalize (w.alloc (Obj.cells (tbA t) 47)).alloc (Obj.cells #[.int .i64 0, .bool false, .string ⟨#[]⟩] 43) = w0 at *
  have HI := Lib.hid hi
  have HRB := Lib.hid hr
  obtain ⟨c0, c1, c2, c3, c4, c5, c6, c7, c8, c9, c10, c11, c12, c13, c14, c15⟩ := hi.cells
  clear hi hr
  refine wp_seq_k (fun K hK => ?_)
  have HK := Lib.hid hK
  clear hK
  go_wp2_with (go_at_call 86; refine (smay_any _ _).mono ?_; rintro e w1 ⟨rfl, hb1⟩; rw [HM.out])
  refine HK.out _ _ ?_
  clear HK
  have hi := HI.out.below hb1
  have hr := (hb1.block _ hzz).trans HRB.out
  have hbw := hb0.trans (hb1.mono hsz)
  have hsz1 := hb1.size
  clear c0 c1 c2 c3 c4 c5 c6 c7 c8 c9 c10 c11 c12 c13 c14 c15
  obtain ⟨c0, c1, c2, c3, c4, c5, c6, c7, c8, c9, c10, c11, c12, c13, c14, c15⟩ := hi.cells
  have hlt1 := hi.lt
  clear hi
  have hcs : c = 0 ∨ c = 1 ∨ c = 2 ∨ c = 3 := by omega
  have HCS := Lib.hid hcs
  clear hcs
  rcases HCS.out with rfl | rfl | rfl | rfl
  · have ha : askR t 0 s = (if t.r0.seq < s then .tuple #[.bool true, rpV zeroR, .int .i64 0] else if s < t.r0.seq then .tuple #[.bool false, rpV zeroR, .int .i64 220] else .tuple #[.bool false, rpV t.r0.rep, .int .i64 0]) := rfl
    rw [ha]
    clear ha
    refine wp_seq_k (fun K hK => ?_)
    have HK := Lib.hid hK
    clear hK
    go_wp2
    refine HK.out _ _ ?_
    clear HK
    have hp := blw w1 (Obj.cells #[.int .i64 t.r0.seq, .int .i64 t.r0.rep.err, .bool t.r0.rep.found, .string t.r0.rep.val] 45)
    have bl := heap_alloc_new w1 (Obj.cells #[.int .i64 t.r0.seq, .int .i64 t.r0.rep.err, .bool t.r0.rep.found, .string t.r0.rep.val] 45)
    have hzr : w.heap.size + 1 < w1.heap.size := Nat.lt_of_lt_of_le hzz hsz1
    have hr2 := (hp.block _ hzr).trans hr
    have hbw2 := hbw.trans (hp.mono hbw.size)
    clear hr hp c0 c1 c2 c3 c4 c5 c6 c7 c8 c9 c10 c11 c12 c13 c14 c15
    generalize w1.alloc (Obj.cells #[.int .i64 t.r0.seq, .int .i64 t.r0.rep.err, .bool t.r0.rep.found, .string t.r0.rep.val] 45) = w2 at *
    obtain ⟨d0, d1, d2, f0, f1, f2⟩ := trio hr2
    obtain ⟨l0, l1, l2, l3⟩ := four bl
    have HB := Lib.hid bl
    have HR2 := Lib.hid hr2
    clear bl hr2
    by_cases h1 : t.r0.seq < s
    · rw [if_pos h1]
      go_wp2
      refine bodyPost_ret (v := .tuple #[.bool true, rpV zeroR, .int .i64 0]) (by simp only [results, Try.results84]; go_simp; try rfl) rfl ⟨rfl, ?_⟩
      (repeat' (first | (with_reducible exact Below.refl _ _) | (with_reducible assumption) | (with_reducible refine Below.alloc ?_ ?_ _) | (with_reducible refine Below.drew ?_) | (with_reducible refine below_drewN ?_ _) | (with_reducible refine Below.setCell ?_ ?_ _) | (with_reducible refine Below.trans ?_ (by assumption)) | go_size))
    · rw [if_neg h1]
      by_cases h2 : s < t.r0.seq
      · rw [if_pos h2]
        go_wp2
        refine bodyPost_ret (v := .tuple #[.bool false, rpV zeroR, .int .i64 220]) (by simp only [results, Try.results84]; go_simp; try rfl) rfl ⟨rfl, ?_⟩
        (repeat' (first | (with_reducible exact Below.refl _ _) | (with_reducible assumption) | (with_reducible refine Below.alloc ?_ ?_ _) | (with_reducible refine Below.drew ?_) | (with_reducible refine below_drewN ?_ _) | (with_reducible refine Below.setCell ?_ ?_ _) | (with_reducible refine Below.trans ?_ (by assumption)) | go_size))
      · rw [if_neg h2]
        go_wp2
        go_region
        all_goals
          go_wp2
          refine bodyPost_ret (v := .tuple #[.bool false, rpV t.r0.rep, .int .i64 0]) (by simp only [results, Try.results84]; go_simp; try rfl) rfl ⟨rfl, ?_⟩
          (repeat' (first | (with_reducible exact Below.refl _ _) | (with_reducible assumption) | (with_reducible refine Below.alloc ?_ ?_ _) | (with_reducible refine Below.drew ?_) | (with_reducible refine below_drewN ?_ _) | (with_reducible refine Below.setCell ?_ ?_ _) | (with_reducible refine Below.trans ?_ (by assumption)) | go_size))
  · have ha : askR t 1 s = (if t.r1.seq < s then .tuple #[.bool true, rpV zeroR, .int .i64 0] else if s < t.r1.seq then .tuple #[.bool false, rpV zeroR, .int .i64 220] else .tuple #[.bool false, rpV t.r1.rep, .int .i64 0]) := rfl
    rw [ha]
    clear ha
    refine wp_seq_k (fun K hK => ?_)
    have HK := Lib.hid hK
    clear hK
    go_wp2
    refine HK.out _ _ ?_
    clear HK
    have hp := blw w1 (Obj.cells #[.int .i64 t.r1.seq, .int .i64 t.r1.rep.err, .bool t.r1.rep.found, .string t.r1.rep.val] 45)
    have bl := heap_alloc_new w1 (Obj.cells #[.int .i64 t.r1.seq, .int .i64 t.r1.rep.err, .bool t.r1.rep.found, .string t.r1.rep.val] 45)
    have hzr : w.heap.size + 1 < w1.heap.size := Nat.lt_of_lt_of_le hzz hsz1
    have hr2 := (hp.block _ hzr).trans hr
    have hbw2 := hbw.trans (hp.mono hbw.size)
    clear hr hp c0 c1 c2 c3 c4 c5 c6 c7 c8 c9 c10 c11 c12 c13 c14 c15
    generalize w1.alloc (Obj.cells #[.int .i64 t.r1.seq, .int .i64 t.r1.rep.err, .bool t.r1.rep.found, .string t.r1.rep.val] 45) = w2 at *
    obtain ⟨d0, d1, d2, f0, f1, f2⟩ := trio hr2
    obtain ⟨l0, l1, l2, l3⟩ := four bl
    have HB := Lib.hid bl
    have HR2 := Lib.hid hr2
    clear bl hr2
    by_cases h1 : t.r1.seq < s
    · rw [if_pos h1]
      go_wp2
      refine bodyPost_ret (v := .tuple #[.bool true, rpV zeroR, .int .i64 0]) (by simp only [results, Try.results84]; go_simp; try rfl) rfl ⟨rfl, ?_⟩
      (repeat' (first | (with_reducible exact Below.refl _ _) | (with_reducible assumption) | (with_reducible refine Below.alloc ?_ ?_ _) | (with_reducible refine Below.drew ?_) | (with_reducible refine below_drewN ?_ _) | (with_reducible refine Below.setCell ?_ ?_ _) | (with_reducible refine Below.trans ?_ (by assumption)) | go_size))
    · rw [if_neg h1]
      by_cases h2 : s < t.r1.seq
      · rw [if_pos h2]
        go_wp2
        refine bodyPost_ret (v := .tuple #[.bool false, rpV zeroR, .int .i64 220]) (by simp only [results, Try.results84]; go_simp; try rfl) rfl ⟨rfl, ?_⟩
        (repeat' (first | (with_reducible exact Below.refl _ _) | (with_reducible assumption) | (with_reducible refine Below.alloc ?_ ?_ _) | (with_reducible refine Below.drew ?_) | (with_reducible refine below_drewN ?_ _) | (with_reducible refine Below.setCell ?_ ?_ _) | (with_reducible refine Below.trans ?_ (by assumption)) | go_size))
      · rw [if_neg h2]
        go_wp2
        go_region
        all_goals
          go_wp2
          refine bodyPost_ret (v := .tuple #[.bool false, rpV t.r1.rep, .int .i64 0]) (by simp only [results, Try.results84]; go_simp; try rfl) rfl ⟨rfl, ?_⟩
          (repeat' (first | (with_reducible exact Below.refl _ _) | (with_reducible assumption) | (with_reducible refine Below.alloc ?_ ?_ _) | (with_reducible refine Below.drew ?_) | (with_reducible refine below_drewN ?_ _) | (with_reducible refine Below.setCell ?_ ?_ _) | (with_reducible refine Below.trans ?_ (by assumption)) | go_size))
  · have ha : askR t 2 s = (if t.r2.seq < s then .tuple #[.bool true, rpV zeroR, .int .i64 0] else if s < t.r2.seq then .tuple #[.bool false, rpV zeroR, .int .i64 220] else .tuple #[.bool false, rpV t.r2.rep, .int .i64 0]) := rfl
    rw [ha]
    clear ha
    refine wp_seq_k (fun K hK => ?_)
    have HK := Lib.hid hK
    clear hK
    go_wp2
    refine HK.out _ _ ?_
    clear HK
    have hp := blw w1 (Obj.cells #[.int .i64 t.r2.seq, .int .i64 t.r2.rep.err, .bool t.r2.rep.found, .string t.r2.rep.val] 45)
    have bl := heap_alloc_new w1 (Obj.cells #[.int .i64 t.r2.seq, .int .i64 t.r2.rep.err, .bool t.r2.rep.found, .string t.r2.rep.val] 45)
    have hzr : w.heap.size + 1 < w1.heap.size := Nat.lt_of_lt_of_le hzz hsz1
    have hr2 := (hp.block _ hzr).trans hr
    have hbw2 := hbw.trans (hp.mono hbw.size)
    clear hr hp c0 c1 c2 c3 c4 c5 c6 c7 c8 c9 c10 c11 c12 c13 c14 c15
    generalize w1.alloc (Obj.cells #[.int .i64 t.r2.seq, .int .i64 t.r2.rep.err, .bool t.r2.rep.found, .string t.r2.rep.val] 45) = w2 at *
    obtain ⟨d0, d1, d2, f0, f1, f2⟩ := trio hr2
    obtain ⟨l0, l1, l2, l3⟩ := four bl
    have HB := Lib.hid bl
    have HR2 := Lib.hid hr2
    clear bl hr2
    by_cases h1 : t.r2.seq < s
    · rw [if_pos h1]
      go_wp2
      refine bodyPost_ret (v := .tuple #[.bool true, rpV zeroR, .int .i64 0]) (by simp only [results, Try.results84]; go_simp; try rfl) rfl ⟨rfl, ?_⟩
      (repeat' (first | (with_reducible exact Below.refl _ _) | (with_reducible assumption) | (with_reducible refine Below.alloc ?_ ?_ _) | (with_reducible refine Below.drew ?_) | (with_reducible refine below_drewN ?_ _) | (with_reducible refine Below.setCell ?_ ?_ _) | (with_reducible refine Below.trans ?_ (by assumption)) | go_size))
    · rw [if_neg h1]
      by_cases h2 : s < t.r2.seq
      · rw [if_pos h2]
        go_wp2
        refine bodyPost_ret (v := .tuple #[.bool false, rpV zeroR, .int .i64 220]) (by simp only [results, Try.results84]; go_simp; try rfl) rfl ⟨rfl, ?_⟩
        (repeat' (first | (with_reducible exact Below.refl _ _) | (with_reducible assumption) | (with_reducible refine Below.alloc ?_ ?_ _) | (with_reducible refine Below.drew ?_) | (with_reducible refine below_drewN ?_ _) | (with_reducible refine Below.setCell ?_ ?_ _) | (with_reducible refine Below.trans ?_ (by assumption)) | go_size))
      · rw [if_neg h2]
        go_wp2
        go_region
        all_goals
          go_wp2
          refine bodyPost_ret (v := .tuple #[.bool false, rpV t.r2.rep, .int .i64 0]) (by simp only [results, Try.results84]; go_simp; try rfl) rfl ⟨rfl, ?_⟩
          (repeat' (first | (with_reducible exact Below.refl _ _) | (with_reducible assumption) | (with_reducible refine Below.alloc ?_ ?_ _) | (with_reducible refine Below.drew ?_) | (with_reducible refine below_drewN ?_ _) | (with_reducible refine Below.setCell ?_ ?_ _) | (with_reducible refine Below.trans ?_ (by assumption)) | go_size))
  · have ha : askR t 3 s = (if t.r3.seq < s then .tuple #[.bool true, rpV zeroR, .int .i64 0] else if s < t.r3.seq then .tuple #[.bool false, rpV zeroR, .int .i64 220] else .tuple #[.bool false, rpV t.r3.rep, .int .i64 0]) := rfl
    rw [ha]
    clear ha
    refine wp_seq_k (fun K hK => ?_)
    have HK := Lib.hid hK
    clear hK
    go_wp2
    refine HK.out _ _ ?_
    clear HK
    have hp := blw w1 (Obj.cells #[.int .i64 t.r3.seq, .int .i64 t.r3.rep.err, .bool t.r3.rep.found, .string t.r3.rep.val] 45)
    have bl := heap_alloc_new w1 (Obj.cells #[.int .i64 t.r3.seq, .int .i64 t.r3.rep.err, .bool t.r3.rep.found, .string t.r3.rep.val] 45)
    have hzr : w.heap.size + 1 < w1.heap.size := Nat.lt_of_lt_of_le hzz hsz1
    have hr2 := (hp.block _ hzr).trans hr
    have hbw2 := hbw.trans (hp.mono hbw.size)
    clear hr hp c0 c1 c2 c3 c4 c5 c6 c7 c8 c9 c10 c11 c12 c13 c14 c15
    generalize w1.alloc (Obj.cells #[.int .i64 t.r3.seq, .int .i64 t.r3.rep.err, .bool t.r3.rep.found, .string t.r3.rep.val] 45) = w2 at *
    obtain ⟨d0, d1, d2, f0, f1, f2⟩ := trio hr2
    obtain ⟨l0, l1, l2, l3⟩ := four bl
    have HB := Lib.hid bl
    have HR2 := Lib.hid hr2
    clear bl hr2
    by_cases h1 : t.r3.seq < s
    · rw [if_pos h1]
      go_wp2
      refine bodyPost_ret (v := .tuple #[.bool true, rpV zeroR, .int .i64 0]) (by simp only [results, Try.results84]; go_simp; try rfl) rfl ⟨rfl, ?_⟩
      (repeat' (first | (with_reducible exact Below.refl _ _) | (with_reducible assumption) | (with_reducible refine Below.alloc ?_ ?_ _) | (with_reducible refine Below.drew ?_) | (with_reducible refine below_drewN ?_ _) | (with_reducible refine Below.setCell ?_ ?_ _) | (with_reducible refine Below.trans ?_ (by assumption)) | go_size))
    · rw [if_neg h1]
      by_cases h2 : s < t.r3.seq
      · rw [if_pos h2]
        go_wp2
        refine bodyPost_ret (v := .tuple #[.bool false, rpV zeroR, .int .i64 220]) (by simp only [results, Try.results84]; go_simp; try rfl) rfl ⟨rfl, ?_⟩
        (repeat' (first | (with_reducible exact Below.refl _ _) | (with_reducible assumption) | (with_reducible refine Below.alloc ?_ ?_ _) | (with_reducible refine Below.drew ?_) | (with_reducible refine below_drewN ?_ _) | (with_reducible refine Below.setCell ?_ ?_ _) | (with_reducible refine Below.trans ?_ (by assumption)) | go_size))
      · rw [if_neg h2]
        go_wp2
        go_region
        all_goals
          go_wp2
          refine bodyPost_ret (v := .tuple #[.bool false, rpV t.r3.rep, .int .i64 0]) (by simp only [results, Try.results84]; go_simp; try rfl) rfl ⟨rfl, ?_⟩
          (repeat' (first | (with_reducible exact Below.refl _ _) | (with_reducible assumption) | (with_reducible refine Below.alloc ?_ ?_ _) | (with_reducible refine Below.drew ?_) | (with_reducible refine below_drewN ?_ _) | (with_reducible refine Below.setCell ?_ ?_ _) | (with_reducible refine Below.trans ?_ (by assumption)) | go_size))
end Go.Proofs.Ytmnjmjbmnhppfaa

namespace Go.Proofs.Ytmnjmjbmnhppfaa
open Go.RowKit
variable {P : Program}

theorem run_loadVar_part (w : World) (g off n : Nat) (T ty : TypeId) (cs : Array Value) (ha : (isAgg ty).run P w = .ok true w) (hs : (sizeOf ty).run P w = .ok n w) (hg : w.heap[g]? = some (.cells cs T (0, 0))) (hn : off + n ≤ cs.size) :
    (loadVar ty ⟨g, off, none⟩).run P w = .ok (.agg (cs.extract off (off + n))) w := by
  have hlen : (cs.extract off (off + n)).toList.length = n := by simp; omega
  have hl := run_loadCells_list (P := P) (w := w) ⟨g, off, none⟩ (cs.extract off (off + n)).toList (fun j v hv => by
    have hj := (List.getElem?_eq_some_iff.1 hv).1
    rw [hlen] at hj
    rw [addr_add, cell_of_row w g (off + j) cs T (0, 0) hg]
    have h2 : (cs.extract off (off + n))[j]? = some v := by rw [← Array.getElem?_toList]; exact hv
    rw [Array.getElem?_extract] at h2
    split at h2
    · exact h2
    · cases h2)
  rw [hlen] at hl
  simp only [Array.toArray_toList] at hl
  simp only [loadVar, Sem.run_bind, ha, hs, hl, Result.andThen_ok, if_true, Sem.run_pure]

theorem arr_all {cs : Array Value} {n : Nat} (h : cs.size = n) : 0 + n ≤ cs.size ∧ cs.extract 0 (0 + n) = cs := ⟨by omega, by subst h; simp⟩
/-- What an aggregate's load at an operand reads. -/
def LdAt (P : Program) (a : Act) (w : World) (ty : TypeId) (x : Operand) (v : Array Value) : Prop :=
  ∃ (g off n : Nat) (cs : Array Value) (T : TypeId), (∀ w, (isAgg ty).run P w = .ok true w) ∧ (∀ w, (sizeOf ty).run P w = .ok n w) ∧ a.eval x = .pointer (some ⟨g, off, none⟩) ∧ w.heap[g]? = some (.cells cs T (0, 0)) ∧ (off + n ≤ cs.size ∧ cs.extract off (off + n) = v)

theorem wp_ldB {a : Act} {w : World} {K : Act → World → Prop} {Q : Exit → Act → World → Prop} {dst : Option Tmp} {ty' : TypeId} {pos : String} {af : Array Edge} {gd : Option (Nat × Bool)} (ty : TypeId) (x : Operand) (hl : ∃ v, LdAt P a w ty x v ∧ K (a.put dst (.agg v)) w) : (Oper.mk dst (.load ty x) ty' pos af gd).wp P a w K Q := by
  obtain ⟨v, ⟨g, off, n, cs, T, ha, hs, hx, hg, hn, rfl⟩, h⟩ := hl
  unfold Oper.wp execOp
  simp only [hx, Instr.loadAt, Instr.sureAddr, Sem.run_bind, Sem.run_pure, Result.andThen_ok, run_loadVar_part w g off n T ty cs (ha w) (hs w) hg hn]
  exact h
theorem wpList_ldB {ops : Array Oper} {rest : List Oper} {a : Act} {w : World} {Q : Exit → Act → World → Prop} {dst : Option Tmp} {ty' : TypeId} {pos : String} {af : Array Edge} {gd : Option (Nat × Bool)} (ty : TypeId) (x : Operand)
    (hl : Region.wanted (Oper.mk dst (.load ty x) ty' pos af gd) (yielded ops a.tmps) = true ∧ ∃ v, LdAt P a w ty x v ∧ wpList P ops Q rest (a.put dst (.agg v)) w) : wpList P ops Q (Oper.mk dst (.load ty x) ty' pos af gd :: rest) a w :=
  BigFrame.wpList_want hl.1 fun _ hK => wp_ldB ty x (hl.2.imp fun _ h => ⟨h.1, hK _ _ h.2⟩)
theorem exec_ldB {a : Act} {w : World} {dst : Option Tmp} {ty' : TypeId} {pos : String} {af : Array Edge} {gd : Option (Nat × Bool)} (ty : TypeId) (x : Operand) {v : Array Value} (hl : LdAt P a w ty x v) : (execOp a.eval (Oper.mk dst (.load ty x) ty' pos af gd)).run P w = .ok (.value (.agg v)) w := by
  obtain ⟨g, off, n, cs, T, ha, hs, hx, hg, hn, rfl⟩ := hl
  unfold execOp
  simp only [hx, Instr.loadAt, Instr.sureAddr, Sem.run_bind, Sem.run_pure, Result.andThen_ok, run_loadVar_part w g off n T ty cs (ha w) (hs w) hg hn]

theorem run_storeVar_part (w : World) (g off n : Nat) (T ty : TypeId) (cs : Array Value) (v : Value) (hs : (sizeOf ty).run P w = .ok n w) (hv : v.cells.size = n) (h1 : ∀ u ∈ v.cells.toList, u.oneCell' = true) (hg : w.heap[g]? = some (.cells cs T (0, 0))) (hn : off + n ≤ cs.size) :
    (storeVar ty ⟨g, off, none⟩ v).run P w = .ok () (w.setRow g (cs.toList.take off ++ v.cells.toList ++ cs.toList.drop (off + n)).toArray) := by
  have hst := run_storeCells_at P g off T v.cells.toList 0 cs w hg (by simpa [hv] using hn) h1
  simp only [Nat.add_zero, Array.length_toList, hv] at hst
  simp [storeVar, Sem.run_bind, hs, hv, hst]

/-- What a store at an operand turns a block into. -/
def StAt (P : Program) (a : Act) (w : World) (ty : TypeId) (x y : Operand) (g : Nat) (T : TypeId) (cs' : Array Value) : Prop :=
  ∃ (off n : Nat) (cs : Array Value), (∀ w, (sizeOf ty).run P w = .ok n w) ∧ a.eval x = .pointer (some ⟨g, off, none⟩) ∧ w.heap[g]? = some (.cells cs T (0, 0)) ∧
    (off + n ≤ cs.size ∧ (a.eval y).cells.size = n ∧ (∀ u ∈ (a.eval y).cells.toList, u.oneCell' = true) ∧ (cs.toList.take off ++ (a.eval y).cells.toList ++ cs.toList.drop (off + n)).toArray = cs')

theorem setRow_grown (w : World) (g : Nat) (cs : Array Value) : w.grownBy (w.setRow g cs) (some g) := grownBy_setRow w g cs

theorem wp_stB {a : Act} {w : World} {K : Act → World → Prop} {Q : Exit → Act → World → Prop} {ty' : TypeId} {pos : String} {af : Array Edge} {gd : Option (Nat × Bool)} (ty : TypeId) (x y : Operand) (hl : ∃ (g : Nat) (T : TypeId) (cs' : Array Value), StAt P a w ty x y g T cs' ∧ ∀ w', w'.heap[g]? = some (.cells cs' T (0, 0)) → w.grownBy w' (some g) → K a w') : (Oper.mk none (.store ty x y) ty' pos af gd).wp P a w K Q := by
  obtain ⟨g, T, cs', ⟨off, n, cs, hs, hx, hg, hn, hv, h1, hc⟩, h⟩ := hl
  unfold Oper.wp execOp
  simp only [hx, Instr.storeAt, Instr.sureAddr, Sem.run_bind, Sem.run_pure, Result.andThen_ok, run_storeVar_part w g off n T ty cs _ (hs w) hv h1 hg hn, hc]
  exact h _ (setRow_heap w g _ _ T _ hg) (setRow_grown w g _)
theorem wpList_stB {ops : Array Oper} {rest : List Oper} {a : Act} {w : World} {Q : Exit → Act → World → Prop} {ty' : TypeId} {pos : String} {af : Array Edge} (ty : TypeId) (x y : Operand) (hl : ∃ (g : Nat) (T : TypeId) (cs' : Array Value), StAt P a w ty x y g T cs' ∧ ∀ w', w'.heap[g]? = some (.cells cs' T (0, 0)) → w.grownBy w' (some g) → wpList P ops Q rest a w') : wpList P ops Q (Oper.mk none (.store ty x y) ty' pos af none :: rest) a w := by
  obtain ⟨g, T, cs', hs, h⟩ := hl
  exact wpList_plain rfl fun _ hK => wp_stB ty x y ⟨g, T, cs', hs, fun w' h1 h2 => hK _ _ (h w' h1 h2)⟩

/-- A store over the whole of the newest block. -/
def StNew (P : Program) (a : Act) (w : World) (ty : TypeId) (x y : Operand) (n : Nat) (cs' : Array Value) : Prop :=
  (∀ w, (sizeOf ty).run P w = .ok n w) ∧ a.eval x = .pointer (some ⟨w.heap.size, 0, none⟩) ∧ (a.eval y).cells = cs' ∧ cs'.size = n ∧ (∀ u ∈ cs'.toList, u.oneCell' = true)
theorem setRow_alloc (w : World) (cs cs' : Array Value) (T : TypeId) : (w.alloc (.cells cs T)).setRow w.heap.size cs' = w.alloc (.cells cs' T) := by
  unfold World.setRow World.alloc
  congr 1
  apply Array.ext
  · simp
  · intro i h1 h2
    rw [Array.getElem_modify]
    simp only [Array.getElem_push]
    by_cases hi : w.heap.size = i
    · subst hi; simp
    · have : i < w.heap.size := by simp at h2; omega
      simp [hi, this]
theorem wp_stNew {a : Act} {w : World} {K : Act → World → Prop} {Q : Exit → Act → World → Prop} {ty' : TypeId} {pos : String} {af : Array Edge} {gd : Option (Nat × Bool)} (ty : TypeId) (x y : Operand) {cs : Array Value} {T : TypeId} (hl : ∃ (n : Nat) (cs' : Array Value), StNew P a w ty x y n cs' ∧ cs.size = n ∧ K a (w.alloc (.cells cs' T))) : (Oper.mk none (.store ty x y) ty' pos af gd).wp P a (w.alloc (.cells cs T)) K Q := by
  obtain ⟨n, cs', ⟨hs, hx, hv, hc, h1⟩, hsz, h⟩ := hl
  have hst := run_storeVar_part (P := P) (w.alloc (.cells cs T)) w.heap.size 0 n T ty cs (a.eval y) (hs _) (by rw [hv]; exact hc) (by rw [hv]; exact h1) (heap_alloc_new w _) (by omega)
  rw [hv] at hst
  have e : (cs.toList.take 0 ++ cs'.toList ++ cs.toList.drop (0 + n)).toArray = cs' := by
    rw [List.drop_of_length_le (by simp; omega)]
    simp
  rw [e, setRow_alloc] at hst
  unfold Oper.wp execOp
  simp only [hx, Instr.storeAt, Instr.sureAddr, Sem.run_bind, Sem.run_pure, Result.andThen_ok, hst]
  exact h
theorem wpList_stNew {ops : Array Oper} {rest : List Oper} {a : Act} {w : World} {Q : Exit → Act → World → Prop} {ty' : TypeId} {pos : String} {af : Array Edge} (ty : TypeId) (x y : Operand) {cs : Array Value} {T : TypeId} (hl : ∃ (n : Nat) (cs' : Array Value), StNew P a w ty x y n cs' ∧ cs.size = n ∧ wpList P ops Q rest a (w.alloc (.cells cs' T))) : wpList P ops Q (Oper.mk none (.store ty x y) ty' pos af none :: rest) a (w.alloc (.cells cs T)) := by
  obtain ⟨n, cs', hs, hsz, h⟩ := hl
  exact wpList_plain rfl fun _ hK => wp_stNew ty x y ⟨n, cs', hs, hsz, hK _ _ h⟩

/-! Facts on blocks, carried on. -/
theorem tr_gb {w w' : World} {r : Option Nat} {j : Nat} {o : Obj} (hg : w.grownBy w' r) (h : w.heap[j]? = some o) (hne : r ≠ some j) : w'.heap[j]? = some o := (hg.block j (Array.getElem?_eq_some_iff.1 h).1 (fun e => hne e.symm)).trans h
theorem tr_st {w w' : World} {g j : Nat} {o : Obj} (hg : w.grownBy w' (some g)) (h : w.heap[j]? = some o) (hne : g ≠ j) : w'.heap[j]? = some o := tr_gb hg h (fun e => hne (Option.some.inj e))
theorem tr_bl {w w' : World} {j : Nat} {o : Obj} (hb : Below w.heap.size w w') (h : w.heap[j]? = some o) : w'.heap[j]? = some o := (hb.block j (Array.getElem?_eq_some_iff.1 h).1).trans h
theorem tr_al {w : World} {j : Nat} {o : Obj} (o' : Obj) (h : w.heap[j]? = some o) : (w.alloc o').heap[j]? = some o := tr_bl (blw w o') h
theorem lt_blk {w : World} {j : Nat} {o : Obj} (h : w.heap[j]? = some o) : j < w.heap.size := (Array.getElem?_eq_some_iff.1 h).1

theorem owns_st {w w' : World} {base n size g : Nat} {e : TypeId} {v : Value} {xs : List Value} (h : w.ownsRow base e size v n xs) (hg : w.grownBy w' (some g)) (hlt : g < base) : w'.ownsRow base e size v n xs := by
  obtain ⟨hl, h | ⟨k, cap, cur, hv, hk, hc, r⟩⟩ := h
  · exact ⟨hl, .inl h⟩
  · exact ⟨hl, .inr ⟨k, cap, cur, hv, hk, tr_st hg hc (by omega), r⟩⟩
theorem owns_ne {w w' : World} {base n size g : Nat} {e T : TypeId} {v : Value} {xs : List Value} {cs : Array Value} (h : w.ownsRow base e size v n xs) (hg : w.grownBy w' (some g)) (hc : w.heap[g]? = some (.cells cs T (0, 0))) (hne : e ≠ T) : w'.ownsRow base e size v n xs := by
  obtain ⟨hl, h | ⟨k, cap, cur, hv, hk, hc2, r⟩⟩ := h
  · exact ⟨hl, .inl h⟩
  · refine ⟨hl, .inr ⟨k, cap, cur, hv, hk, tr_st hg hc2 ?_, r⟩⟩
    rintro rfl
    rw [hc] at hc2
    injection hc2 with hc2
    injection hc2 with _ ht
    exact hne ht.symm
theorem owns_bl {w w' : World} {base n size : Nat} {e : TypeId} {v : Value} {xs : List Value} (h : w.ownsRow base e size v n xs) (hb : Below w.heap.size w w') : w'.ownsRow base e size v n xs := owns_after h hb
theorem bl_st {B : Nat} {w w' w'' : World} {g : Nat} (hb : Below B w w') (hg : w'.grownBy w'' (some g)) (hB : B ≤ w'.heap.size) (h : B ≤ g) : Below B w w'' := hb.grown hg hB (fun k e => by cases e; exact h)

/-! Results that lie in blocks. -/
theorem results_c1 {fn : Func} {p t : Nat} {tmps : Array Value} {w : World} {A : Addr} {v : Value} (hf : fn.results = #[.cell p t]) (hp : tmps.getD p undef = .pointer (some A)) (hl : (loadVar t A).run P w = .ok v w) : (results fn tmps).run P w = .ok v w := by
  have hp' : tmps[p]?.getD undef = .pointer (some A) := by simpa using hp
  simp [results, hf, hp', asAddr, hl]
theorem results_c1t1 {fn : Func} {p t q : Nat} {tmps : Array Value} {w : World} {A : Addr} {v : Value} (hf : fn.results = #[.cell p t, .tmp q]) (hp : tmps.getD p undef = .pointer (some A)) (hl : (loadVar t A).run P w = .ok v w) : (results fn tmps).run P w = .ok (.tuple #[v, tmps.getD q undef]) w := by
  have hp' : tmps[p]?.getD undef = .pointer (some A) := by simpa using hp
  simp [results, hf, hp', asAddr, hl]
theorem results_c2t1 {fn : Func} {p t p2 t2 q : Nat} {tmps : Array Value} {w : World} {A A2 : Addr} {v v2 : Value} (hf : fn.results = #[.cell p t, .cell p2 t2, .tmp q]) (hp : tmps.getD p undef = .pointer (some A)) (hl : (loadVar t A).run P w = .ok v w)
    (hp2 : tmps.getD p2 undef = .pointer (some A2)) (hl2 : (loadVar t2 A2).run P w = .ok v2 w) : (results fn tmps).run P w = .ok (.tuple #[v, v2, tmps.getD q undef]) w := by
  have hp' : tmps[p]?.getD undef = .pointer (some A) := by simpa using hp
  have hp2' : tmps[p2]?.getD undef = .pointer (some A2) := by simpa using hp2
  simp [results, hf, hp', hp2', asAddr, hl, hl2]
/-- A whole block, loaded. -/
theorem run_loadVar_all {w : World} {g n : Nat} {T ty : TypeId} {cs : Array Value} (ha : ∀ w, (isAgg ty).run P w = .ok true w) (hs : ∀ w, (sizeOf ty).run P w = .ok n w) (hg : w.heap[g]? = some (.cells cs T (0, 0))) (hn : cs.size = n) : (loadVar ty ⟨g, 0, none⟩).run P w = .ok (.agg cs) w := by
  have := run_loadVar_part (P := P) w g 0 n T ty cs (ha w) (hs w) hg (by omega)
  rw [this]
  subst hn
  simp
end Go.Proofs.Ytmnjmjbmnhppfaa

namespace Go.Proofs.Ytmnjmjbmnhppfaa
open Go.RowKit

theorem askR_fresh {t : Tb} {c s : Int} (h : (t.at c).seq < s) : askR t c s = .tuple #[.bool true, rpV zeroR, .int .i64 0] := by unfold askR; rw [if_pos h]
theorem tbA_all (t : Tb) : 0 + 16 ≤ (tbA t).size ∧ (tbA t).extract 0 (0 + 16) = tbA t := ⟨Nat.le_refl _, rfl⟩
def rowA (r : Rw) : Array Value := #[.int .i64 r.seq, .int .i64 r.rep.err, .bool r.rep.found, .string r.rep.val]
theorem four_cases {c : Nat} (h : c < 4) : c = 0 ∨ c = 1 ∨ c = 2 ∨ c = 3 := by omega
theorem tbA_row (t : Tb) {c : Nat} (h : c < 4) : c * 4 + 4 ≤ (tbA t).size ∧ (tbA t).extract (c * 4) (c * 4 + 4) = rowA (t.at c) := by
  rcases four_cases h with rfl | rfl | rfl | rfl
  all_goals exact ⟨by show _ ≤ 16; omega, rfl⟩
theorem rowA_one (r : Rw) : ∀ u ∈ (rowA r).toList, u.oneCell' = true := by
  intro u hu
  simp [rowA] at hu
  rcases hu with rfl | rfl | rfl | rfl <;> rfl
theorem tbA_one (t : Tb) : ∀ u ∈ (tbA t).toList, u.oneCell' = true := by
  intro u hu
  simp [tbA] at hu
  rcases hu with rfl | rfl | rfl | rfl | rfl | rfl | rfl | rfl | rfl | rfl | rfl | rfl | rfl | rfl | rfl | rfl <;> rfl
theorem tbA_put (t : Tb) (r : Rw) {c : Nat} (h : c < 4) : c * 4 + 4 ≤ (tbA t).size ∧ (Value.agg (rowA r)).cells.size = 4 ∧ (∀ u ∈ (Value.agg (rowA r)).cells.toList, u.oneCell' = true) ∧ ((tbA t).toList.take (c * 4) ++ (Value.agg (rowA r)).cells.toList ++ (tbA t).toList.drop (c * 4 + 4)).toArray = tbA (t.put c r) := by
  rcases four_cases h with rfl | rfl | rfl | rfl
  all_goals exact ⟨by show _ ≤ 16; omega, rfl, rowA_one r, rfl⟩
theorem tbA_new (t : Tb) : (Value.agg (tbA t)).cells = tbA t ∧ (tbA t).size = 16 ∧ ∀ u ∈ (tbA t).toList, u.oneCell' = true := ⟨rfl, rfl, tbA_one t⟩
theorem tbA_over (t u : Tb) : 0 + 16 ≤ (tbA u).size ∧ (Value.agg (tbA t)).cells.size = 16 ∧ (∀ x ∈ (Value.agg (tbA t)).cells.toList, x.oneCell' = true) ∧ ((tbA u).toList.take 0 ++ (Value.agg (tbA t)).cells.toList ++ (tbA u).toList.drop (0 + 16)).toArray = tbA t := ⟨Nat.le_refl _, rfl, tbA_one t, rfl⟩

set_option maxRecDepth 100000 in
set_option maxHeartbeats 4000000 in
theorem note_any (t : Tb) (c : Nat) (s er : Int) (fo : Bool) (va : Tx) (w : World) (hm : mayT t = true) (hc : c < 4) (hs : 1 ≤ s) (hs2 : s ≤ 1099511627776) (hf : (t.at c).seq < s) (hbad : badR ⟨er, fo, va⟩ = false) :
    Calls Try.prog 85 #[.agg (tbA t), .int .i64 c, .int .i64 s, .agg #[.int .i64 er, .bool fo, .string va]] w fun e w' => e = .returned (.tuple #[.agg (tbA (t.put c ⟨s, ⟨er, fo, va⟩⟩)), .int .i64 0]) ∧ Below w.heap.size w w' := by
  have HM := Lib.hid hm
  have HBAD := Lib.hid hbad
  have HA := Lib.hid (askR_fresh hf)
  clear hm hbad hf
  have hb0 : Below w.heap.size w (((w.alloc (Obj.cells (tbA t) 47)).alloc (Obj.cells #[.int .i64 er, .bool fo, .string va] 43)).alloc (Obj.cells (tbA zeroT) 47)) := (((Below.refl _ _).alloc (Nat.le_refl _) _).alloc (by simp) _).alloc (by simp; omega) _
  have B4 := tr_al (Obj.cells (tbA zeroT) 47) (tr_al (Obj.cells #[.int .i64 er, .bool fo, .string va] 43) (heap_alloc_new w (Obj.cells (tbA t) 47)))
  have B7 := tr_al (Obj.cells (tbA zeroT) 47) (heap_alloc2_new w (Obj.cells (tbA t) 47) (Obj.cells #[.int .i64 er, .bool fo, .string va] 43))
  have B8 := heap_alloc_new ((w.alloc (Obj.cells (tbA t) 47)).alloc (Obj.cells #[.int .i64 er, .bool fo, .string va] 43)) (Obj.cells (tbA zeroT) 47)
  rw [show ((w.alloc (Obj.cells (tbA t) 47)).alloc (Obj.cells #[.int .i64 er, .bool fo, .string va] 43)).heap.size = w.heap.size + 1 + 1 by simp] at B8
  have hsz := hb0.size
  go_enter Try.func85, Try.ntmps85
  refine wp_seq_k (fun K hK => ?_)
  have HK := Lib.hid hK
  clear hK
  go_wp2
  refine HK.out _ _ ?_
  clear HK
  change Code.wp _ _ _ _ (((w.alloc (Obj.cells (tbA t) 47)).alloc (Obj.cells #[.int .i64 er, .bool fo, .string va] 43)).alloc (Obj.cells (tbA zeroT) 47))
  generalize ((w.alloc (Obj.cells (tbA t) 47)).alloc (Obj.cells #[.int .i64 er, .bool fo, .string va] 43)).alloc (Obj.cells (tbA zeroT) 47) = w0 at *
  refine wp_seq_k (fun K hK => ?_)
  have HK := Lib.hid hK
  clear hK
  go_wp2_with (first
      | ((with_reducible refine wpList_ldB 47 _ ?_); refine ⟨rfl, _, ⟨_, _, _, _, _, Try.isAgg47, Try.sizeOf47, rfl, ‹_›, tbA_all _⟩, ?_⟩)
      | (go_at_call 84; refine (ask_any _ _ _ _ HM.out (by omega) (by omega) (by assumption) (by assumption)).mono ?_; rintro e w1 ⟨rfl, hb1⟩; rw [HA.out]; unfold rpV zeroR))
  refine HK.out _ _ ?_
  clear HK
  have B4 := tr_al (Obj.cells #[.int .i64 0, .bool false, .string ⟨#[]⟩] 43) (tr_bl hb1 B4)
  have B7 := tr_al (Obj.cells #[.int .i64 0, .bool false, .string ⟨#[]⟩] 43) (tr_bl hb1 B7)
  have B8 := tr_al (Obj.cells #[.int .i64 0, .bool false, .string ⟨#[]⟩] 43) (tr_bl hb1 B8)
  have B11 := heap_alloc_new w1 (Obj.cells #[.int .i64 0, .bool false, .string ⟨#[]⟩] 43)
  have hbw := (hb0.trans (hb1.mono hsz)).trans ((blw w1 (Obj.cells #[.int .i64 0, .bool false, .string ⟨#[]⟩] 43)).mono (hb0.trans (hb1.mono hsz)).size)
  clear hb0
  generalize w1.alloc (Obj.cells #[.int .i64 0, .bool false, .string ⟨#[]⟩] 43) = w2 at *
  obtain ⟨d0, d1, d2, _⟩ := trio B7
  refine wp_seq_k (fun K hK => ?_)
  have HK := Lib.hid hK
  clear hK
  go_wp2_with (go_at_call 104; refine (bad_any _ _ _ _).mono ?_; rintro e w3 ⟨rfl, hb3⟩; rw [HBAD.out])
  refine HK.out _ _ ?_
  clear HK
  have B4 := tr_bl hb3 B4
  have B7 := tr_bl hb3 B7
  have B8 := tr_bl hb3 B8
  have hbw3 := hbw.trans (hb3.mono hbw.size)
  clear d0 d1 d2 hbw B11
  obtain ⟨d0, d1, d2, _⟩ := trio B7
  go_wp2_with (first
    | ((with_reducible refine wpList_ldB 47 _ ?_); refine ⟨rfl, _, ⟨_, _, _, _, _, Try.isAgg47, Try.sizeOf47, rfl, ‹_›, tbA_all _⟩, ?_⟩)
    | ((first | (with_reducible refine wpList_stB 45 _ _ ?_) | (with_reducible refine wp_stB 45 _ _ ?_)); refine ⟨_, _, _, ⟨_, _, _, Try.sizeOf45, rfl, ‹_›, tbA_put t ⟨s, ⟨er, fo, va⟩⟩ hc⟩, ?_⟩; intro w4 N4 g4; have N8 := tr_st g4 B8 (by omega); clear B4 B7 B8 d0 d1 d2)
    | ((first | (with_reducible refine wpList_stB 47 _ _ ?_) | (with_reducible refine wp_stB 47 _ _ ?_)); refine ⟨_, _, _, ⟨_, _, _, Try.sizeOf47, rfl, ‹_›, tbA_over (t.put c ⟨s, ⟨er, fo, va⟩⟩) zeroT⟩, ?_⟩; intro w5 N5 g5))
  refine bodyPost_ret (results_c1t1 rfl rfl (run_loadVar_all Try.isAgg47 Try.sizeOf47 N5 rfl)) rfl ⟨rfl, ?_⟩
  have hbw4 : Below w.heap.size w w4 := hbw3.grown g4 hbw3.size (fun k e => by cases e; exact Nat.le_refl _)
  exact hbw4.grown g5 hbw4.size (fun k e => by cases e; omega)
end Go.Proofs.Ytmnjmjbmnhppfaa

namespace Go.Proofs.Ytmnjmjbmnhppfaa
open Go.RowKit

def ActRes (base : Nat) (v : Value) (w : World) (lr : List Pr × Rp) (e : Ending) (w' : World) : Prop := StRes base lr.1 lr.2 e w' ∧ w.grownBy w' v.ownBlock

section
variable (base : Nat) (a : Option Addr) (cap : Nat) (l : List Pr) (o : Opn) (w : World) (hown : w.ownsRow base 74 2 (.slice a l.length cap) l.length (prs l)) (hbase : base ≤ w.heap.size) (hl : l.length ≤ 1000) (hso : Rises l)
include hown hl hso
theorem get_own : Calls Try.prog 98 #[.slice a l.length cap, opV o] w (ActRes base (.slice a l.length cap) w (l, wasR l o.key)) := by
  obtain ⟨a0, c0, hv0, hr, hcap, hmx⟩ := Row.of_owns hown
  injection hv0 with hv1 _ hv2
  subst hv1 hv2
  refine (get_any a cap l o w hr (by omega) hso _ rfl).mono ?_
  rintro e w' ⟨rfl, hb⟩
  exact ⟨⟨_, rfl, owns_after hown hb⟩, gb_of_below hb _⟩
include hbase
theorem put_own : Calls Try.prog 99 #[.slice a l.length cap, opV o] w (ActRes base (.slice a l.length cap) w (if look l o.key = none ∧ l.length = 8 then (l, ⟨211, false, ⟨#[]⟩⟩) else (putL l o.key o.val, wasR l o.key))) := by
  cases hlk : look l o.key with
  | none =>
    have hw : wasR l o.key = ⟨0, false, ⟨#[]⟩⟩ := by simp [wasR, hlk]
    by_cases h8 : l.length = 8
    · rw [if_pos ⟨rfl, h8⟩]
      exact put_full_any base a cap l o w hown h8 hso hlk
    · rw [if_neg (fun h => h8 h.2), hw]
      exact put_new_any base a cap l o w hown hbase hl h8 hso hlk
  | some u =>
    have hw : wasR l o.key = ⟨0, true, u⟩ := by simp [wasR, hlk]
    rw [if_neg (fun h => by cases h.1), hw]
    exact put_there_any base _ l o u w hown hl hso hlk
theorem del_own : Calls Try.prog 100 #[.slice a l.length cap, opV o] w (ActRes base (.slice a l.length cap) w (delL l o.key, wasR l o.key)) := by
  cases hlk : look l o.key with
  | none =>
    have hw : wasR l o.key = ⟨0, false, ⟨#[]⟩⟩ := by simp [wasR, hlk]
    rw [hw, del_none hso hlk]
    exact delete_none_any base a cap l o w hown hl hso hlk
  | some u =>
    have hw : wasR l o.key = ⟨0, true, u⟩ := by simp [wasR, hlk]
    rw [hw]
    exact delete_there_any base a cap l o w hown hbase hl hso u hlk
omit hbase
theorem swap_own : Calls Try.prog 101 #[.slice a l.length cap, opV o] w (ActRes base (.slice a l.length cap) w (if look l o.key = some o.old then (putL l o.key o.val, wasR l o.key) else (l, { wasR l o.key with found := false }))) := by
  cases hlk : look l o.key with
  | none =>
    have hw : wasR l o.key = ⟨0, false, ⟨#[]⟩⟩ := by simp [wasR, hlk]
    rw [if_neg (by simp), hw]
    exact swap_none_any base a cap l o w hown hl hso hlk
  | some u =>
    have hw : wasR l o.key = ⟨0, true, u⟩ := by simp [wasR, hlk]
    by_cases hu : u = o.old
    · subst hu
      rw [if_pos rfl, hw]
      exact swap_yes_any base a cap l o w hown hl hso hlk
    · rw [if_neg (fun e => hu (Option.some.inj e)), hw]
      exact swap_other_any base a cap l o w hown hl hso u hlk hu
end

@[go_sem] theorem index_does1 (w : World) : (Instr.index 130 doesV (.int .u8 1)).run Try.prog w = .ok (fnV 98) w := by kernel_rfl
@[go_sem] theorem index_does2 (w : World) : (Instr.index 130 doesV (.int .u8 2)).run Try.prog w = .ok (fnV 99) w := by kernel_rfl
@[go_sem] theorem index_does3 (w : World) : (Instr.index 130 doesV (.int .u8 3)).run Try.prog w = .ok (fnV 100) w := by kernel_rfl
@[go_sem] theorem index_does4 (w : World) : (Instr.index 130 doesV (.int .u8 4)).run Try.prog w = .ok (fnV 101) w := by kernel_rfl
end Go.Proofs.Ytmnjmjbmnhppfaa

namespace Go.Proofs.Ytmnjmjbmnhppfaa
open Go.RowKit

theorem keep_b {x y : World} (hb : Below x.heap.size x y) {p : Addr} {v : Value} (hc : x.cell? p = some v) : y.cell? p = some v := (hb.cell (World.block_lt_of_cell? x p hc)).trans hc
theorem keep_bf {x y : World} (hb : Below x.heap.size x y) {p : Addr} {v : Value} (hc : x.cell? p = some v) (hf : x.frozen? p = false) : y.frozen? p = false := (hb.frozen (World.block_lt_of_cell? x p hc)).trans hf

set_option maxRecDepth 100000 in
set_option maxHeartbeats 4000000 in
theorem do_nomay (a : Option Addr) (cap : Nat) (l : List Pr) (k : Int) (key old val : Tx) (w : World) (hs : SlP w a cap l) (hl : l.length ≤ 1000) (hm : mayS l = false) :
    Calls Try.prog 36 #[.slice a l.length cap, .agg #[.int .u8 k, .string key, .string old, .string val]] w fun e w' => StRes w.heap.size [] ⟨2, false, ⟨#[]⟩⟩ e w' ∧ Below w.heap.size w w' := by
  have hb0 : Below w.heap.size w ((w.alloc (Obj.cells #[.int .u8 k, .string key, .string old, .string val] 61)).alloc (Obj.cells #[.int .i64 0, .bool false, .string ⟨#[]⟩] 43)) := ((Below.refl _ _).alloc (Nat.le_refl _) _).alloc (by simp) _
  have hr0 := hs.row.below0 hb0
  have HM := Lib.hid hm
  clear hm
  go_enter Try.func36, Try.ntmps36
  refine wp_seq_k (fun K hK => ?_)
  have HK := Lib.hid hK
  clear hK
  go_wp2
  refine HK.out _ _ ?_
  clear HK
  go_wp2_with (go_at_call 33; refine (may_any _ _ _ _ hr0 hl).mono ?_; rintro e w1 ⟨rfl, hb1⟩; rw [HM.out]; obtain ⟨p0, p1, p2, q0, q1, q2⟩ := trio ((hb1.block (w.heap.size + 1) (by simp)).trans (heap_alloc2_new w _ (Obj.cells #[.int .i64 0, .bool false, .string ⟨#[]⟩] 43))); have hbw1 := hb0.trans (hb1.mono (by simp; omega)))
  (try simp only [Exit.inBlock, Exit.then])
  refine bodyPost_ret (v := .tuple #[.slice none 0 0, rpV ⟨2, false, ⟨#[]⟩⟩]) ?hr rfl ⟨⟨_, rfl, World.ownsRow_nil _ _ _ _⟩, ?_⟩
  case hr =>
    simp only [results, Try.results36]
    go_simp
    try rfl
  (repeat' (first | (with_reducible exact Below.refl _ _) | (with_reducible assumption) | (with_reducible refine Below.alloc ?_ ?_ _) | (with_reducible refine Below.drew ?_) | (with_reducible refine below_drewN ?_ _) | (with_reducible refine Below.setCell ?_ ?_ _) | (with_reducible refine Below.trans ?_ (by assumption)) | go_size))

set_option maxRecDepth 100000 in
set_option maxHeartbeats 4000000 in
theorem do_badop (a : Option Addr) (cap : Nat) (l : List Pr) (k : Int) (key old val : Tx) (w : World) (hs : SlP w a cap l) (hl : l.length ≤ 1000) (hm : mayS l = true) (ho : mayO ⟨k, key, old, val⟩ = false) :
    Calls Try.prog 36 #[.slice a l.length cap, .agg #[.int .u8 k, .string key, .string old, .string val]] w fun e w' => StRes w.heap.size l ⟨210, false, ⟨#[]⟩⟩ e w' ∧ Below w.heap.size w w' := by
  have hb0 : Below w.heap.size w ((w.alloc (Obj.cells #[.int .u8 k, .string key, .string old, .string val] 61)).alloc (Obj.cells #[.int .i64 0, .bool false, .string ⟨#[]⟩] 43)) := ((Below.refl _ _).alloc (Nat.le_refl _) _).alloc (by simp) _
  have hr0 := hs.row.below0 hb0
  have HM := Lib.hid hm
  have HOP := Lib.hid ho
  clear hm ho
  go_enter Try.func36, Try.ntmps36
  refine wp_seq_k (fun K hK => ?_)
  have HK := Lib.hid hK
  clear hK
  go_wp2
  refine HK.out _ _ ?_
  clear HK
  refine wp_seq_k (fun K hK => ?_)
  have HK := Lib.hid hK
  clear hK
  go_wp2_with (go_at_call 33; refine (may_any _ _ _ _ hr0 hl).mono ?_; rintro e w1 ⟨rfl, hb1⟩; rw [HM.out])
  refine HK.out _ _ ?_
  clear HK
  have hbw1 := hb0.trans (hb1.mono (by simp; omega))
  have hs1 := hb1.size
  simp at hs1
  have b3 := (hb1.block w.heap.size (by simp; omega)).trans ((heap_alloc_old _ _ (by simp)).trans (heap_alloc_new w (Obj.cells #[.int .u8 k, .string key, .string old, .string val] 61)))
  have b5 := (hb1.block (w.heap.size + 1) (by simp)).trans (heap_alloc2_new w _ (Obj.cells #[.int .i64 0, .bool false, .string ⟨#[]⟩] 43))
  have hs1' := hs.below hbw1
  refine wp_seq_k (fun K hK => ?_)
  have HK := Lib.hid hK
  clear hK
  go_wp2_with (go_at_call 76; refine (clone_any _ _ _ _ hs1' hl).mono ?_; rintro e w2 ⟨⟨v2, rfl, hown2⟩, hb2⟩)
  refine HK.out _ _ ?_
  clear HK
  have b3' := (hb2.block w.heap.size (by omega)).trans b3
  have b5' := (hb2.block (w.heap.size + 1) (by omega)).trans b5
  have hs2 := hb2.size
  have hbw2 := hbw1.trans (hb2.mono (by omega))
  have hown := owns_mono hown2 (show w.heap.size ≤ w1.heap.size by omega)
  obtain ⟨d0, d1, d2, d3⟩ := four b3'
  have HO := Lib.hid hown
  have HO2 := Lib.hid hown2
  clear hown hown2
  go_wp2_with (go_at_call 34; refine (pmayO_any _ _ _ _ _ _ HOP.out).mono ?_; rintro e w3 ⟨rfl, hb3⟩; obtain ⟨p0, p1, p2, q0, q1, q2⟩ := trio ((hb3.block (w.heap.size + 1) (by omega)).trans b5'); have hbw3 := hbw2.trans (hb3.mono (by omega)))
  have hown3 := owns_after HO.out hb3
  have hne : v2.ownBlock ≠ some (w.heap.size + 1) := by
    intro e
    have := (HO2.out.lt _ e).1
    omega
  (try simp only [Exit.inBlock, Exit.then])
  refine bodyPost_ret (v := .tuple #[v2, rpV ⟨210, false, ⟨#[]⟩⟩]) ?hr rfl ⟨⟨_, rfl, ?_⟩, ?_⟩
  case hr =>
    simp only [results, Try.results36]
    go_simp
    try rfl
  · repeat (first | exact hown3 | refine World.ownsRow.drew ?_ | refine owns_far ?_ hne _)
  · (repeat' (first | (with_reducible exact Below.refl _ _) | (with_reducible assumption) | (with_reducible refine Below.alloc ?_ ?_ _) | (with_reducible refine Below.drew ?_) | (with_reducible refine below_drewN ?_ _) | (with_reducible refine Below.setCell ?_ ?_ _) | (with_reducible refine Below.trans ?_ (by assumption)) | go_size))
end Go.Proofs.Ytmnjmjbmnhppfaa

