/- Texts that the claim leans on, part 11: K14, K15, I3, I5, I6, I6b, K16, K17. -/
import Derived.Test.YtkkoookmnnmiiaaZ1
import Derived.Test.YtkkoookmnnmiiaaZ2
import Derived.Test.YtkkoookmnnmiiaaZ3
import Derived.Test.YtkkoookmnnmiiaaZ10
import Derived.Test.YtkkoookmnnmiiaaRows
import Derived.WalkKit
import Derived.WalkSpells
import Derived.WalkLawsBesides
import Derived.Handy
import Derived.Deep.QuietTactic
import Derived.BigQuiet
import Derived.Deep.DeepCutAuto
import Derived.Lib.Hide
import Derived.RegionTactic
import Derived.ChangeAlike
import Derived.Laws.ResultCell
import Derived.Outline
import Derived.Deep.RegionHeld3
import Derived.Laws.EntriesVeiled
import Derived.StillTailTactics
import Derived.Lib.Overlaps
import Derived.Deep.RegionWith
import Derived.Laws.Rows
import Derived.Deep.Quiet
import Derived.ProofKit
import Derived.OpenShut
import Derived.Laws.Strings
import Derived.Laws.CopyOwn
import Derived.Laws.CopyRow
import Derived.Laws.NewBlocks
import Derived.Deep.RegionLaw
namespace Go.Proofs.Ytkkoookmnnmiiaa
open Go.RowKit

set_option maxRecDepth 100000 in
set_option maxHeartbeats 4000000 in
theorem swap_none_any (base : Nat) (a : Option Addr) (cap : Nat) (l : List Pr) (o : Opn) (w : World) (hown : w.ownsRow base 81 2 (.slice a l.length cap) l.length (prs l)) (hl : l.length ≤ 1000) (hso : Rises l) (hlk : look l o.key = none) :
    Calls Try.prog 77 #[.slice a l.length cap, opV o] w fun e w' => StRes base l ⟨0, false, ⟨#[]⟩⟩ e w' ∧ w.grownBy w' (Value.slice a l.length cap).ownBlock := by
  obtain ⟨kd, key, old, val⟩ := o
  unfold opV
  simp only at hlk ⊢
  have hb0 : Below w.heap.size w ((w.alloc (Obj.cells #[.int .u8 kd, .string key, .string old, .string val] 32)).alloc (Obj.cells #[.int .i64 0, .bool false, .string ⟨#[]⟩] 51)) := ((Below.refl _ _).alloc (Nat.le_refl _) _).alloc (by simp) _
  obtain ⟨a0, c0, hv0, hr, hcap, hmx⟩ := Row.of_owns hown
  injection hv0 with hv1 _ hv2
  subst hv1 hv2
  have hr0 := hr.below0 hb0
  have hw : wasR l key = ⟨0, false, ⟨#[]⟩⟩ := by simp [wasR, hlk]
  have HO := Lib.hid hown
  clear hown
  go_enter Try.func77, Try.ntmps77
  refine wp_seq_k (fun K hK => ?_)
  have HK := Lib.hid hK
  clear hK
  go_wp2
  refine HK.out _ _ ?_
  clear HK
  refine wp_seq_k (fun K hK => ?_)
  have HK := Lib.hid hK
  clear hK
  go_wp2_with (go_at_call 92; refine (was_any _ _ _ _ _ hr0 (by omega) hso _ hw).mono ?_; rintro e w1 ⟨rfl, hb1⟩; unfold rpV)
  refine HK.out _ _ ?_
  clear HK
  have hbw1 := hb0.trans (hb1.mono (by simp; omega))
  have hb12 : Below w1.heap.size w1 (w1.alloc (Obj.cells #[.int .i64 0, .bool false, .string ⟨#[]⟩] 51)) := (Below.refl _ _).alloc (Nat.le_refl _) _
  have hs1 := hb1.size
  simp at hs1
  have hbw2 := hbw1.trans (hb12.mono (by omega))
  have b3 := (hb12.block w.heap.size (by omega)).trans ((hb1.block w.heap.size (by simp; omega)).trans ((heap_alloc_old _ _ (by simp)).trans (heap_alloc_new w (Obj.cells #[.int .u8 kd, .string key, .string old, .string val] 32))))
  have b5 := (hb12.block (w.heap.size + 1) (by omega)).trans ((hb1.block (w.heap.size + 1) (by simp)).trans (heap_alloc2_new w _ (Obj.cells #[.int .i64 0, .bool false, .string ⟨#[]⟩] 51)))
  have b6 := heap_alloc_new w1 (Obj.cells #[.int .i64 0, .bool false, .string ⟨#[]⟩] 51)
  have hs2 : w1.heap.size < (w1.alloc (Obj.cells #[.int .i64 0, .bool false, .string ⟨#[]⟩] 51)).heap.size := by simp
  generalize w1.alloc (Obj.cells #[.int .i64 0, .bool false, .string ⟨#[]⟩] 51) = w2 at *
  obtain ⟨d0, d1, d2, d3⟩ := four b3
  have hne : (Value.slice a l.length cap).ownBlock ≠ some (w.heap.size + 1) := by
    intro e
    have := HO.out.lt _ e
    omega
  have hne6 : (Value.slice a l.length cap).ownBlock ≠ some w1.heap.size := by
    intro e
    have := HO.out.lt _ e
    omega
  obtain ⟨r0, r1, r2, s0, s1, s2⟩ := trio b6
  have hown3 := Lib.hid (owns_after HO.out hbw2)
  have hbw4 : w.grownBy (w2.setCell ⟨w1.heap.size, 1, none⟩ (.bool false)) (Value.slice a l.length cap).ownBlock := gb_setCell (gb_of_below hbw2 _) (.inr (by simp; omega)) _
  have b5' := (heap_setCell_other w2 ⟨w1.heap.size, 1, none⟩ (w.heap.size + 1) (.bool false) (by simp; omega)).trans b5
  have b6' : (w2.setCell ⟨w1.heap.size, 1, none⟩ (.bool false)).heap[w1.heap.size]? = some (.cells #[.int .i64 0, .bool false, .string ⟨#[]⟩] 51 (0, 0)) := heap_setCell_same w2 w1.heap.size 1 _ _ _ b6
  have hown4 := Lib.hid (owns_far hown3.out hne6 (.bool false) (j := 1))
  go_wp2_with fail
  generalize w2.setCell ⟨w1.heap.size, 1, none⟩ (.bool false) = w4 at *
  clear r0 r1 r2 s0 s1 s2
  obtain ⟨p0, p1, p2, q0, q1, q2⟩ := trio b5'
  obtain ⟨r0, r1, r2, s0, s1, s2⟩ := trio b6'
  go_region
  go_wp2
  (try simp only [Exit.inBlock, Exit.then])
  refine bodyPost_ret (v := .tuple #[.slice a l.length cap, rpV ⟨0, false, ⟨#[]⟩⟩]) ?hr rfl ⟨⟨_, rfl, ?_⟩, ?_⟩
  case hr =>
    simp only [results, Try.results77]
    go_simp
    try rfl
  · repeat (first | exact hown4.out | refine World.ownsRow.drew ?_ | refine owns_far ?_ hne _)
  · (repeat' (first | (with_reducible exact World.grownBy.refl _ _) | (with_reducible assumption) | (with_reducible refine gb_alloc ?_ _) | (with_reducible refine gb_drew ?_) | (with_reducible refine gb_drewN ?_ _) | (with_reducible refine gb_setCell ?_ ?_ _) | (with_reducible refine gb_below ?_ (by assumption)) | exact .inl rfl | exact .inr (by first | (simp; done) | (simp; omega) | omega)))

set_option maxRecDepth 100000 in
set_option maxHeartbeats 4000000 in
theorem swap_other_any (base : Nat) (a : Option Addr) (cap : Nat) (l : List Pr) (o : Opn) (w : World) (hown : w.ownsRow base 81 2 (.slice a l.length cap) l.length (prs l)) (hl : l.length ≤ 1000) (hso : Rises l) (u : Tx) (hlk : look l o.key = some u) (hou : u ≠ o.old) :
    Calls Try.prog 77 #[.slice a l.length cap, opV o] w fun e w' => StRes base l ⟨0, false, u⟩ e w' ∧ w.grownBy w' (Value.slice a l.length cap).ownBlock := by
  obtain ⟨kd, key, old, val⟩ := o
  unfold opV
  simp only at hlk ⊢
  have hb0 : Below w.heap.size w ((w.alloc (Obj.cells #[.int .u8 kd, .string key, .string old, .string val] 32)).alloc (Obj.cells #[.int .i64 0, .bool false, .string ⟨#[]⟩] 51)) := ((Below.refl _ _).alloc (Nat.le_refl _) _).alloc (by simp) _
  obtain ⟨a0, c0, hv0, hr, hcap, hmx⟩ := Row.of_owns hown
  injection hv0 with hv1 _ hv2
  subst hv1 hv2
  have hr0 := hr.below0 hb0
  have hw : wasR l key = ⟨0, true, u⟩ := by simp [wasR, hlk]
  have HO := Lib.hid hown
  clear hown
  have huo : (u.toList == old.toList) = false := by rw [tx_eq]; exact decide_eq_false hou
  have HU := Lib.hid hou
  clear hou
  go_enter Try.func77, Try.ntmps77
  refine wp_seq_k (fun K hK => ?_)
  have HK := Lib.hid hK
  clear hK
  go_wp2
  refine HK.out _ _ ?_
  clear HK
  refine wp_seq_k (fun K hK => ?_)
  have HK := Lib.hid hK
  clear hK
  go_wp2_with (go_at_call 92; refine (was_any _ _ _ _ _ hr0 (by omega) hso _ hw).mono ?_; rintro e w1 ⟨rfl, hb1⟩; unfold rpV)
  refine HK.out _ _ ?_
  clear HK
  have hbw1 := hb0.trans (hb1.mono (by simp; omega))
  have hb12 : Below w1.heap.size w1 (w1.alloc (Obj.cells #[.int .i64 0, .bool true, .string u] 51)) := (Below.refl _ _).alloc (Nat.le_refl _) _
  have hs1 := hb1.size
  simp at hs1
  have hbw2 := hbw1.trans (hb12.mono (by omega))
  have b3 := (hb12.block w.heap.size (by omega)).trans ((hb1.block w.heap.size (by simp; omega)).trans ((heap_alloc_old _ _ (by simp)).trans (heap_alloc_new w (Obj.cells #[.int .u8 kd, .string key, .string old, .string val] 32))))
  have b5 := (hb12.block (w.heap.size + 1) (by omega)).trans ((hb1.block (w.heap.size + 1) (by simp)).trans (heap_alloc2_new w _ (Obj.cells #[.int .i64 0, .bool false, .string ⟨#[]⟩] 51)))
  have b6 := heap_alloc_new w1 (Obj.cells #[.int .i64 0, .bool true, .string u] 51)
  have hs2 : w1.heap.size < (w1.alloc (Obj.cells #[.int .i64 0, .bool true, .string u] 51)).heap.size := by simp
  generalize w1.alloc (Obj.cells #[.int .i64 0, .bool true, .string u] 51) = w2 at *
  obtain ⟨d0, d1, d2, d3⟩ := four b3
  have hne : (Value.slice a l.length cap).ownBlock ≠ some (w.heap.size + 1) := by
    intro e
    have := HO.out.lt _ e
    omega
  have hne6 : (Value.slice a l.length cap).ownBlock ≠ some w1.heap.size := by
    intro e
    have := HO.out.lt _ e
    omega
  obtain ⟨r0, r1, r2, s0, s1, s2⟩ := trio b6
  have hown3 := Lib.hid (owns_after HO.out hbw2)
  have hbw4 : w.grownBy (w2.setCell ⟨w1.heap.size, 1, none⟩ (.bool false)) (Value.slice a l.length cap).ownBlock := gb_setCell (gb_of_below hbw2 _) (.inr (by simp; omega)) _
  have b5' := (heap_setCell_other w2 ⟨w1.heap.size, 1, none⟩ (w.heap.size + 1) (.bool false) (by simp; omega)).trans b5
  have b6' : (w2.setCell ⟨w1.heap.size, 1, none⟩ (.bool false)).heap[w1.heap.size]? = some (.cells #[.int .i64 0, .bool false, .string u] 51 (0, 0)) := heap_setCell_same w2 w1.heap.size 1 _ _ _ b6
  have hown4 := Lib.hid (owns_far hown3.out hne6 (.bool false) (j := 1))
  go_wp2_with fail
  generalize w2.setCell ⟨w1.heap.size, 1, none⟩ (.bool false) = w4 at *
  clear r0 r1 r2 s0 s1 s2
  obtain ⟨p0, p1, p2, q0, q1, q2⟩ := trio b5'
  obtain ⟨r0, r1, r2, s0, s1, s2⟩ := trio b6'
  go_region
  go_wp2
  (try simp only [Exit.inBlock, Exit.then])
  refine bodyPost_ret (v := .tuple #[.slice a l.length cap, rpV ⟨0, false, u⟩]) ?hr rfl ⟨⟨_, rfl, ?_⟩, ?_⟩
  case hr =>
    simp only [results, Try.results77]
    go_simp
    try rfl
  · repeat (first | exact hown4.out | refine World.ownsRow.drew ?_ | refine owns_far ?_ hne _)
  · (repeat' (first | (with_reducible exact World.grownBy.refl _ _) | (with_reducible assumption) | (with_reducible refine gb_alloc ?_ _) | (with_reducible refine gb_drew ?_) | (with_reducible refine gb_drewN ?_ _) | (with_reducible refine gb_setCell ?_ ?_ _) | (with_reducible refine gb_below ?_ (by assumption)) | exact .inl rfl | exact .inr (by first | (simp; done) | (simp; omega) | omega)))

set_option maxRecDepth 100000 in
set_option maxHeartbeats 4000000 in
theorem swap_yes_any (base : Nat) (a : Option Addr) (cap : Nat) (l : List Pr) (o : Opn) (w : World) (hown : w.ownsRow base 81 2 (.slice a l.length cap) l.length (prs l)) (hl : l.length ≤ 1000) (hso : Rises l) (hlk : look l o.key = some o.old) :
    Calls Try.prog 77 #[.slice a l.length cap, opV o] w fun e w' => StRes base (putL l o.key o.val) ⟨0, true, o.old⟩ e w' ∧ w.grownBy w' (Value.slice a l.length cap).ownBlock := by
  obtain ⟨kd, key, old, val⟩ := o
  unfold opV
  simp only at hlk ⊢
  have hb0 : Below w.heap.size w ((w.alloc (Obj.cells #[.int .u8 kd, .string key, .string old, .string val] 32)).alloc (Obj.cells #[.int .i64 0, .bool false, .string ⟨#[]⟩] 51)) := ((Below.refl _ _).alloc (Nat.le_refl _) _).alloc (by simp) _
  obtain ⟨a0, c0, hv0, hr, hcap, hmx⟩ := Row.of_owns hown
  injection hv0 with hv1 _ hv2
  subst hv1 hv2
  have hr0 := hr.below0 hb0
  have hw : wasR l key = ⟨0, true, old⟩ := by simp [wasR, hlk]
  have HO := Lib.hid hown
  clear hown
  have huo : (old.toList == old.toList) = true := by simp
  go_enter Try.func77, Try.ntmps77
  refine wp_seq_k (fun K hK => ?_)
  have HK := Lib.hid hK
  clear hK
  go_wp2
  refine HK.out _ _ ?_
  clear HK
  refine wp_seq_k (fun K hK => ?_)
  have HK := Lib.hid hK
  clear hK
  go_wp2_with (go_at_call 92; refine (was_any _ _ _ _ _ hr0 (by omega) hso _ hw).mono ?_; rintro e w1 ⟨rfl, hb1⟩; unfold rpV)
  refine HK.out _ _ ?_
  clear HK
  have hbw1 := hb0.trans (hb1.mono (by simp; omega))
  have hb12 : Below w1.heap.size w1 (w1.alloc (Obj.cells #[.int .i64 0, .bool true, .string old] 51)) := (Below.refl _ _).alloc (Nat.le_refl _) _
  have hs1 := hb1.size
  simp at hs1
  have hbw2 := hbw1.trans (hb12.mono (by omega))
  have b3 := (hb12.block w.heap.size (by omega)).trans ((hb1.block w.heap.size (by simp; omega)).trans ((heap_alloc_old _ _ (by simp)).trans (heap_alloc_new w (Obj.cells #[.int .u8 kd, .string key, .string old, .string val] 32))))
  have b5 := (hb12.block (w.heap.size + 1) (by omega)).trans ((hb1.block (w.heap.size + 1) (by simp)).trans (heap_alloc2_new w _ (Obj.cells #[.int .i64 0, .bool false, .string ⟨#[]⟩] 51)))
  have b6 := heap_alloc_new w1 (Obj.cells #[.int .i64 0, .bool true, .string old] 51)
  have hs2 : w1.heap.size < (w1.alloc (Obj.cells #[.int .i64 0, .bool true, .string old] 51)).heap.size := by simp
  generalize w1.alloc (Obj.cells #[.int .i64 0, .bool true, .string old] 51) = w2 at *
  obtain ⟨d0, d1, d2, d3⟩ := four b3
  have hne : (Value.slice a l.length cap).ownBlock ≠ some (w.heap.size + 1) := by
    intro e
    have := HO.out.lt _ e
    omega
  have hne6 : (Value.slice a l.length cap).ownBlock ≠ some w1.heap.size := by
    intro e
    have := HO.out.lt _ e
    omega
  have hown2 := owns_after HO.out hbw2
  have HP := Lib.hid (put_there_any base (.slice a l.length cap) l ⟨kd, key, old, val⟩ old w2 hown2 hl hso hlk)
  unfold opV at HP
  clear hown2
  obtain ⟨r0, r1, r2, s0, s1, s2⟩ := trio b6
  refine wp_seq_k (fun K hK => ?_)
  have HK := Lib.hid hK
  clear hK
  go_wp2
  refine HK.out _ _ ?_
  clear HK
  refine wp_seq_k (fun K hK => ?_)
  go_cut [0] (fun s wx => wx.ownsRow base 81 2 s (putL l key val).length (prs (putL l key val)) ∧ w2.grownBy wx (Value.slice a l.length cap).ownBlock)
  case first =>
    go_wp2_with (go_at_call 75; refine HP.out.mono ?_; rintro e w4 ⟨⟨v4, rfl, hown4⟩, hg4⟩; unfold rpV)
    go_meet
    exact ⟨hown4, hg4⟩
  obtain ⟨hown4, hg4⟩ := hcut
  refine hK _ _ ?_; clear hK
  have b5' := (hg4.block (w.heap.size + 1) (by omega) (fun e => hne e.symm)).trans b5
  have b6' := (hg4.block w1.heap.size (by omega) (fun e => hne6 e.symm)).trans b6
  have hbw4 : w.grownBy wc (Value.slice a l.length cap).ownBlock := gb_trans (gb_of_below hbw2 _) hg4 (fun k e => .inr e)
  have hne4 := own_ne hown4 b5' (by decide)
  have HO4 := Lib.hid hown4
  clear hown4 r0 r1 r2 s0 s1 s2
  obtain ⟨p0, p1, p2, q0, q1, q2⟩ := trio b5'
  obtain ⟨r0, r1, r2, s0, s1, s2⟩ := trio b6'
  go_wp2_with fail
  go_region
  go_wp2
  (try simp only [Exit.inBlock, Exit.then])
  refine bodyPost_ret (v := .tuple #[u0, rpV ⟨0, true, old⟩]) ?hr rfl ⟨⟨_, rfl, ?_⟩, ?_⟩
  case hr =>
    simp only [results, Try.results77]
    go_simp
    try rfl
  · repeat (first | exact HO4.out | refine World.ownsRow.drew ?_ | refine owns_far ?_ hne4 _)
  · (repeat' (first | (with_reducible exact World.grownBy.refl _ _) | (with_reducible assumption) | (with_reducible refine gb_alloc ?_ _) | (with_reducible refine gb_drew ?_) | (with_reducible refine gb_drewN ?_ _) | (with_reducible refine gb_setCell ?_ ?_ _) | (with_reducible refine gb_below ?_ (by assumption)) | exact .inl rfl | exact .inr (by first | (simp; done) | (simp; omega) | omega)))
end Go.Proofs.Ytkkoookmnnmiiaa

namespace Go.Proofs.Ytkkoookmnnmiiaa
open Go.RowKit

abbrev fnV (f : FuncId) : Value := .func (.func f) #[] #[]
def doesV : Value := .agg #[.nilFunc, fnV 74, fnV 75, fnV 76, fnV 77]

set_option maxRecDepth 100000 in
theorem does_any (w : World) : Calls Try.prog 57 #[] w fun e w' => e = .returned doesV ∧ Below w.heap.size w w' := by
  go_enter Try.func57, Try.ntmps57
  go_wp2
  (try simp only [Exit.inBlock, Exit.then])
  refine bodyPost_ret (v := doesV) ?hr rfl ⟨rfl, ?_⟩
  case hr =>
    simp only [results, Try.results57]
    go_simp
    try rfl
  (repeat' (first | (with_reducible exact Below.refl _ _) | (with_reducible assumption) | (with_reducible refine Below.alloc ?_ ?_ _) | (with_reducible refine Below.drew ?_) | (with_reducible refine below_drewN ?_ _) | (with_reducible refine Below.setCell ?_ ?_ _) | (with_reducible refine Below.trans ?_ (by assumption)) | go_size))
end Go.Proofs.Ytkkoookmnnmiiaa

namespace Go.Proofs.Ytkkoookmnnmiiaa
open Go.RowKit

def rowC (r : Rw) : List Value := [.int .i64 r.seq, .int .i64 r.rep.err, .bool r.rep.found, .string r.rep.val]
theorem rowC_len (r : Rw) : (rowC r).length = 4 := rfl
def Tb.list (t : Tb) : List Rw := [t.r0, t.r1, t.r2, t.r3]
def tbA (t : Tb) : Array Value := #[.int .i64 t.r0.seq, .int .i64 t.r0.rep.err, .bool t.r0.rep.found, .string t.r0.rep.val, .int .i64 t.r1.seq, .int .i64 t.r1.rep.err, .bool t.r1.rep.found, .string t.r1.rep.val,
  .int .i64 t.r2.seq, .int .i64 t.r2.rep.err, .bool t.r2.rep.found, .string t.r2.rep.val, .int .i64 t.r3.seq, .int .i64 t.r3.rep.err, .bool t.r3.rep.found, .string t.r3.rep.val]
theorem tbA_list (t : Tb) : t.list.flatMap rowC = (tbA t).toList := rfl
theorem mayT_any (t : Tb) : mayT t = !t.list.any oddR := by
  unfold mayT Tb.list
  simp [Bool.and_assoc]
theorem mayT_ref (t : Tb) : mayT t = !t.list.any oddRef := by
  rw [mayT_any]
  congr 2
  funext r
  exact (odd_eq r).symm

def IdxRes (l : List Rw) (e : Ending) : Prop := ∃ n : Int, e = .returned (.int .i64 n) ∧ decide (0 ≤ n) = l.any oddR
theorem any_at {α : Type} {l : List α} {p : α → Bool} {k : Nat} {c : α} (h : l[k]? = some c) (hp : p c = true) : l.any p = true := List.any_eq_true.2 ⟨c, List.mem_of_getElem? h, hp⟩
theorem any_no {α : Type} {l : List α} {p : α → Bool} (h : ∀ (j : Nat) (c : α), l[j]? = some c → p c = false) : l.any p = false := by
  rw [List.any_eq_false]
  intro x hx
  obtain ⟨j, hj, rfl⟩ := List.getElem_of_mem hx
  rw [h j _ (List.getElem?_eq_getElem hj)]
  simp
/-- None of the first k. -/
def NoneTo (p : Rw → Bool) (l : List Rw) (k : Nat) : Prop := ∀ (j : Nat) (c : Rw), j < k → l[j]? = some c → p c = false
theorem noneTo_zero (p : Rw → Bool) (l : List Rw) : NoneTo p l 0 := fun _ _ h _ => by omega
theorem noneTo_succ {p : Rw → Bool} {l : List Rw} {k : Nat} {c : Rw} (h : NoneTo p l k) (hc : l[k]? = some c) (hp : p c = false) : NoneTo p l (k + 1) := by
  intro j d hj hd
  by_cases e : j = k
  · subst e
    rw [hc] at hd
    cases hd
    exact hp
  · exact h j d (by omega) hd

set_option maxRecDepth 100000 in
set_option maxHeartbeats 2000000 in
theorem idxOdd_any (a : Option Addr) (cap : Nat) (l : List Rw) (w : World) (hr : Row w a (l.flatMap rowC)) (hl : l.length ≤ 1000000) :
    Calls Try.prog 91 #[.slice a l.length cap, fnV 73] w fun e w' => IdxRes l e ∧ Below w.heap.size w w' := by
  go_enter Try.func91, Try.ntmps91
  refine wp_seq_k (fun K hK => ?_)
  have HK := Lib.hid hK
  clear hK
  go_wp2
  refine HK.out _ _ ?_
  clear HK
  go_wp2_with fail
  go_loopw [8, 5] (fun i _ wr => ∃ k : Nat, k ≤ l.length ∧ i = .int .i64 k ∧ NoneTo oddR l k ∧ Below w.heap.size w wr) (fun i _ _ => l.length - (intOf i).toNat)
  case atStart => exact ⟨0, by omega, rfl, noneTo_zero _ _, Below.refl _ _⟩
  case round =>
    obtain ⟨k, hk, rfl, hn, hbr⟩ := hrel
    by_cases hlt : k < l.length
    · obtain ⟨b, off, rfl, hblt, h0, hc⟩ := (hr.below0 hbr).flat0 rowC_len (by omega) (List.getElem?_eq_getElem hlt)
      have c0 := h0 _ rfl
      have c1 := hc 1 _ rfl
      have c2 := hc 2 _ rfl
      have c3 := hc 3 _ rfl
      have hat : l[k]? = some l[k] := List.getElem?_eq_getElem hlt
      have hnx : oddR l[k] = false → NoneTo oddR l (k + 1) := fun e => noneTo_succ hn hat e
      have hyx : oddR l[k] = true → l.any oddR = true := fun e => any_at hat e
      have HN := Lib.hid hnx
      have HY := Lib.hid hyx
      clear hnx hyx hat hc h0
      generalize l[k] = r at *
      obtain ⟨s, er, fo, va⟩ := r
      cases ho : oddR ⟨s, ⟨er, fo, va⟩⟩
      all_goals
        have HO := Lib.hid ho
        clear ho
        go_wp2_with (go_at_call 73; refine (odd_any _ _ _ _ _).mono ?_; rintro e w1 ⟨rfl, hb1⟩; rw [HO.out])
      · go_roundw
        case rel => exact ⟨k + 1, by omega, by go_num, HN.out HO.out, hbr.trans (hb1.mono hbr.size)⟩
        case measure => simp [intOf]; omega
      · go_ret
        exact ⟨⟨_, rfl, by rw [HY.out HO.out]; exact decide_eq_true (by omega)⟩, hbr.trans (hb1.mono hbr.size)⟩
    · have hno : l.any oddR = false := any_no fun j c hj => hn j c (by have := (List.getElem?_eq_some_iff.1 hj).1; omega) hj
      have HNO := Lib.hid hno
      clear hno
      go_wp2
      go_ret
      exact ⟨⟨_, rfl, by rw [HNO.out]; rfl⟩, hbr⟩

set_option maxRecDepth 100000 in
theorem conOdd_any (a : Option Addr) (cap : Nat) (l : List Rw) (w : World) (hr : Row w a (l.flatMap rowC)) (hl : l.length ≤ 1000000) (r : Bool) (hres : l.any oddR = r) (n : Nat) (hn : l.length = n) :
    Calls Try.prog 72 #[.slice a n cap, fnV 73] w fun e w' => e = .returned (.bool r) ∧ Below w.heap.size w w' := by
  subst hn
  have HR := Lib.hid hres
  clear hres
  go_enter Try.func72, Try.ntmps72
  go_wp2_with (go_at_call 91; refine (idxOdd_any _ _ _ _ hr hl).mono ?_; rintro e w1 ⟨⟨n, rfl, hn⟩, hb1⟩; rw [HR.out] at hn; have HN := Lib.hid hn; clear hn)
  go_ret
  exact ⟨ret_bool HN.out, hb1⟩

set_option maxRecDepth 100000 in
set_option maxHeartbeats 1000000 in
theorem smay_any (t : Tb) (w : World) : Calls Try.prog 55 #[.agg (tbA t)] w fun e w' => e = .returned (.bool (mayT t)) ∧ Below w.heap.size w w' := by
  obtain ⟨r, hr⟩ : ∃ r, t.list.any oddR = r := ⟨_, rfl⟩
  rw [mayT_any, hr]
  have HR := Lib.hid hr
  clear hr
  have hb0 : Below w.heap.size w (w.alloc (Obj.cells (tbA t) 55)) := (Below.refl _ _).alloc (Nat.le_refl _) _
  have hrow : Row (w.alloc (Obj.cells (tbA t) 55)) (some ⟨w.heap.size, 0, none⟩) (t.list.flatMap rowC) := by
    rw [tbA_list]
    exact Row.of_block (heap_alloc_new w _) 0 fun i u hu => by rw [Nat.zero_add]; exact hu
  have HROW := Lib.hid hrow
  clear hrow
  unfold tbA at *
  go_enter Try.func55, Try.ntmps55
  go_wp2_with (go_at_call 72; refine (conOdd_any _ _ t.list _ HROW.out (show t.list.length ≤ 1000000 from (by decide : 4 ≤ 1000000)) _ HR.out _ rfl).mono ?_; rintro e w1 ⟨rfl, hb1⟩)
  go_ret
  exact ⟨rfl, hb0.trans (hb1.mono (by simp))⟩

set_option maxRecDepth 100000 in
set_option maxHeartbeats 4000000 in
theorem rsmay_any (t : Tb) (w : World) : Calls Try.prog 65 #[.agg (tbA t)] w fun e w' => e = .returned (.bool (mayT t)) ∧ Below w.heap.size w w' := by
  obtain ⟨m, hm⟩ : ∃ m, mayT t = m := ⟨_, rfl⟩
  rw [hm]
  rw [mayT_ref] at hm
  have HM := Lib.hid hm
  clear hm
  have hb0 : Below w.heap.size w (w.alloc (Obj.cells (tbA t) 55)) := (Below.refl _ _).alloc (Nat.le_refl _) _
  have hrow : Row (w.alloc (Obj.cells (tbA t) 55)) (some ⟨w.heap.size, 0, none⟩) (t.list.flatMap rowC) := by
    rw [tbA_list]
    exact Row.of_block (heap_alloc_new w _) 0 fun i u hu => by rw [Nat.zero_add]; exact hu
  have HROW := Lib.hid hrow
  clear hrow
  have hlen : t.list.length = 4 := rfl
  have HLEN := Lib.hid hlen
  clear hlen
  unfold tbA at *
  go_enter Try.func65, Try.ntmps65
  refine wp_seq_k (fun K hK => ?_)
  have HK := Lib.hid hK
  clear hK
  go_wp2
  refine HK.out _ _ ?_
  clear HK
  have hsz0 := hb0.size
  generalize w.alloc _ = wb at *
  go_wp2_with fail
  go_loopw [3, 4] (fun i _ wr => ∃ k : Nat, k ≤ 4 ∧ i = .int .i64 k ∧ NoneTo oddRef t.list k ∧ Below wb.heap.size wb wr) (fun i _ _ => 4 - (intOf i).toNat)
  case atStart => exact ⟨0, by omega, rfl, noneTo_zero _ _, Below.refl _ _⟩
  case round =>
    obtain ⟨k, hk, rfl, hn, hbr⟩ := hrel
    by_cases hlt : k < 4
    · have hat : t.list[k]? = some (t.list[k]'hlt) := List.getElem?_eq_getElem hlt
      obtain ⟨b, off, hbo, hblt, h0, hc⟩ := (HROW.out.below0 hbr).flat0 rowC_len (by omega) hat
      injection hbo with hbo
      injection hbo with hb1 hb2
      subst hb1 hb2
      have c0 := h0 _ rfl
      have c1 := hc 1 _ rfl
      have c2 := hc 2 _ rfl
      have c3 := hc 3 _ rfl
      simp only [Nat.zero_add] at c0 c1 c2 c3
      have hnx : oddRef (t.list[k]'hlt) = false → NoneTo oddRef t.list (k + 1) := fun e => noneTo_succ hn hat e
      have hyx : oddRef (t.list[k]'hlt) = true → m = false := fun e => by rw [← HM.out, any_at hat e]; rfl
      have HN := Lib.hid hnx
      have HY := Lib.hid hyx
      clear hnx hyx hat hc h0
      generalize t.list[k] = r at *
      obtain ⟨s, er, fo, va⟩ := r
      have hcs : s < 0 ∨ (0 ≤ s ∧ 1099511627776 < s) ∨ (0 ≤ s ∧ s ≤ 1099511627776 ∧ badR ⟨er, fo, va⟩ = true) ∨ (1 ≤ s ∧ s ≤ 1099511627776 ∧ badR ⟨er, fo, va⟩ = false) ∨ (s = 0 ∧ badR ⟨er, fo, va⟩ = false) := by
        cases badR ⟨er, fo, va⟩ <;> simp <;> omega
      have HC := Lib.hid hcs
      clear hcs
      go_upto_region 4 with (fail)
      go_cut [4] (fun z wx => z = .bool (zeroB ⟨er, fo, va⟩) ∧ wx = wr)
      case first =>
        cases h1 : (er == 0) <;> cases fo
        all_goals
          go_wp2
          go_meet
          exact ⟨bool_eq (by unfold zeroB; simp [h1]), rfl⟩
      obtain ⟨rfl, rfl⟩ := hcut
      have hnx2 : (decide (s < 0) || decide (big40 < s) || badR ⟨er, fo, va⟩ || (s == 0 && !zeroB ⟨er, fo, va⟩)) = false → NoneTo oddRef t.list (k + 1) := HN.out
      have hyx2 : (decide (s < 0) || decide (big40 < s) || badR ⟨er, fo, va⟩ || (s == 0 && !zeroB ⟨er, fo, va⟩)) = true → m = false := HY.out
      have HN := Lib.hid hnx2
      have HY := Lib.hid hyx2
      clear hnx2 hyx2
      unfold big40 at *
      generalize zeroB ⟨er, fo, va⟩ = z at *
      rcases HC.out with hs | ⟨hs, hs2⟩ | ⟨hs, hs2, hb⟩ | ⟨hs, hs2, hb⟩ | ⟨rfl, hb⟩
      · go_wp2
        go_ret
        exact ⟨ret_bool (HY.out (by rw [decide_eq_true hs]; rfl)).symm, hb0.trans (hbr.mono hsz0)⟩
      · go_wp2
        go_ret
        exact ⟨ret_bool (HY.out (by rw [decide_eq_true hs2]; simp)).symm, hb0.trans (hbr.mono hsz0)⟩
      · have HB := Lib.hid hb
        clear hb
        go_wp2_with (go_at_call 90; refine (mayReply_any _ _ _ _).mono ?_; rintro e w1 ⟨rfl, hbx⟩; rw [HB.out]; have c0 := (hbx.cell (p := ⟨w.heap.size, k * 4, none⟩) hblt).trans c0)
        go_ret
        exact ⟨ret_bool (HY.out (by rw [HB.out]; simp)).symm, hb0.trans ((hbr.trans (hbx.mono hbr.size)).mono hsz0)⟩
      · have HB := Lib.hid hb
        clear hb
        have hs0 : (s == 0) = false := by rw [beq_eq_false_iff_ne]; omega
        go_wp2_with (go_at_call 90; refine (mayReply_any _ _ _ _).mono ?_; rintro e w1 ⟨rfl, hbx⟩; rw [HB.out]; have c0 := (hbx.cell (p := ⟨w.heap.size, k * 4, none⟩) hblt).trans c0)
        go_roundw
        case rel => exact ⟨k + 1, by omega, by go_num, HN.out (by rw [HB.out, hs0, decide_eq_false (by omega), decide_eq_false (by omega)]; rfl), hbr.trans (hbx.mono hbr.size)⟩
        case measure => simp [intOf]; omega
      · have HB := Lib.hid hb
        clear hb
        cases z
        · go_wp2_with (go_at_call 90; refine (mayReply_any _ _ _ _).mono ?_; rintro e w1 ⟨rfl, hbx⟩; rw [HB.out]; have c0 := (hbx.cell (p := ⟨w.heap.size, k * 4, none⟩) hblt).trans c0)
          go_ret
          exact ⟨ret_bool (HY.out (by rw [HB.out]; simp)).symm, hb0.trans ((hbr.trans (hbx.mono hbr.size)).mono hsz0)⟩
        · go_wp2_with (go_at_call 90; refine (mayReply_any _ _ _ _).mono ?_; rintro e w1 ⟨rfl, hbx⟩; rw [HB.out]; have c0 := (hbx.cell (p := ⟨w.heap.size, k * 4, none⟩) hblt).trans c0)
          go_roundw
          case rel => exact ⟨k + 1, by omega, by go_num, HN.out (by rw [HB.out]; simp), hbr.trans (hbx.mono hbr.size)⟩
          case measure => simp [intOf]; omega
    · have hno : t.list.any oddRef = false := any_no fun j c hj => hn j c (by have := (List.getElem?_eq_some_iff.1 hj).1; have := HLEN.out; omega) hj
      have hmt : m = true := by rw [← HM.out, hno]; rfl
      have HMT := Lib.hid hmt
      clear hno hmt
      go_wp2
      go_ret
      exact ⟨ret_bool HMT.out.symm, hb0.trans (hbr.mono hsz0)⟩
end Go.Proofs.Ytkkoookmnnmiiaa

namespace Go.Proofs.Ytkkoookmnnmiiaa
open Go.RowKit

def imA (idx : Int) (sv : Value) (t : Tb) : Array Value := #[.int .i64 idx, sv, .int .i64 t.r0.seq, .int .i64 t.r0.rep.err, .bool t.r0.rep.found, .string t.r0.rep.val, .int .i64 t.r1.seq, .int .i64 t.r1.rep.err, .bool t.r1.rep.found, .string t.r1.rep.val, .int .i64 t.r2.seq, .int .i64 t.r2.rep.err, .bool t.r2.rep.found, .string t.r2.rep.val, .int .i64 t.r3.seq, .int .i64 t.r3.rep.err, .bool t.r3.rep.found, .string t.r3.rep.val]
/-- The eighteen cells of an image's box. -/
structure ImC (w : World) (g : Nat) (idx : Int) (sv : Value) (t : Tb) : Prop where
  c0 : w.cell? ⟨g, 0, none⟩ = some (.int .i64 idx)
  c1 : w.cell? ⟨g, 1, none⟩ = some (sv)
  c2 : w.cell? ⟨g, 2, none⟩ = some (.int .i64 t.r0.seq)
  c3 : w.cell? ⟨g, 3, none⟩ = some (.int .i64 t.r0.rep.err)
  c4 : w.cell? ⟨g, 4, none⟩ = some (.bool t.r0.rep.found)
  c5 : w.cell? ⟨g, 5, none⟩ = some (.string t.r0.rep.val)
  c6 : w.cell? ⟨g, 6, none⟩ = some (.int .i64 t.r1.seq)
  c7 : w.cell? ⟨g, 7, none⟩ = some (.int .i64 t.r1.rep.err)
  c8 : w.cell? ⟨g, 8, none⟩ = some (.bool t.r1.rep.found)
  c9 : w.cell? ⟨g, 9, none⟩ = some (.string t.r1.rep.val)
  c10 : w.cell? ⟨g, 10, none⟩ = some (.int .i64 t.r2.seq)
  c11 : w.cell? ⟨g, 11, none⟩ = some (.int .i64 t.r2.rep.err)
  c12 : w.cell? ⟨g, 12, none⟩ = some (.bool t.r2.rep.found)
  c13 : w.cell? ⟨g, 13, none⟩ = some (.string t.r2.rep.val)
  c14 : w.cell? ⟨g, 14, none⟩ = some (.int .i64 t.r3.seq)
  c15 : w.cell? ⟨g, 15, none⟩ = some (.int .i64 t.r3.rep.err)
  c16 : w.cell? ⟨g, 16, none⟩ = some (.bool t.r3.rep.found)
  c17 : w.cell? ⟨g, 17, none⟩ = some (.string t.r3.rep.val)
structure ImB (w : World) (g : Nat) (idx : Int) (sv : Value) (t : Tb) : Prop where
  blk : w.heap[g]? = some (.cells (imA idx sv t) 57 (0, 0))
theorem ImB.cells {w : World} {g : Nat} {idx : Int} {sv : Value} {t : Tb} (h : ImB w g idx sv t) : ImC w g idx sv t := by
  have hb := h.blk
  unfold imA at hb
  constructor
  all_goals simp [World.cell?, hb]
theorem ImB.lt {w : World} {g : Nat} {idx : Int} {sv : Value} {t : Tb} (h : ImB w g idx sv t) : g < w.heap.size := (Array.getElem?_eq_some_iff.1 h.blk).1
theorem ImB.below {w w' : World} {g : Nat} {idx : Int} {sv : Value} {t : Tb} (h : ImB w g idx sv t) (hb : Below w.heap.size w w') : ImB w' g idx sv t := ⟨(hb.block g h.lt).trans h.blk⟩
theorem ImB.new (w : World) (idx : Int) (sv : Value) (t : Tb) : ImB (w.alloc (Obj.cells (imA idx sv t) 57)) w.heap.size idx sv t := ⟨heap_alloc_new w _⟩
theorem ImB.frozen {w : World} {g : Nat} {idx : Int} {sv : Value} {t : Tb} (h : ImB w g idx sv t) : ∀ j, w.frozen? ⟨g, j, none⟩ = false := fun j => blk_frozen h.blk j

theorem mayI_idx0 {i : Int} {l : List Pr} {t : Tb} {r : Bool} (hr : mayI ⟨i, l, t⟩ = r) (h : i < 0) : r = false := by rw [← hr]; unfold mayI; rw [decide_eq_false (show ¬ 0 ≤ i by omega)]; rfl
theorem mayI_idx1 {i : Int} {l : List Pr} {t : Tb} {r : Bool} (hr : mayI ⟨i, l, t⟩ = r) (h : 1099511627776 < i) : r = false := by rw [← hr]; unfold mayI; rw [decide_eq_false (show ¬ i ≤ big40 by unfold big40; omega)]; simp
theorem mayI_in {i : Int} {l : List Pr} {t : Tb} {r : Bool} (hr : mayI ⟨i, l, t⟩ = r) (h : 0 ≤ i) (h2 : i ≤ 1099511627776) : (mayS l && mayT t) = r := by rw [← hr]; unfold mayI; rw [decide_eq_true h, decide_eq_true (show i ≤ big40 from h2)]; simp

set_option maxRecDepth 100000 in
set_option maxHeartbeats 4000000 in
theorem imay_any (idx : Int) (a : Option Addr) (cap : Nat) (l : List Pr) (t : Tb) (w : World) (hr : Row w a (prs l)) (hl : l.length ≤ 1000) (r : Bool) (hres : mayI ⟨idx, l, t⟩ = r) :
    Calls Try.prog 39 #[.agg (imA idx (.slice a l.length cap) t)] w fun e w' => e = .returned (.bool r) ∧ Below w.heap.size w w' := by
  have hb0 : Below w.heap.size w (w.alloc (Obj.cells (imA idx (.slice a l.length cap) t) 57)) := (Below.refl _ _).alloc (Nat.le_refl _) _
  have hi := ImB.new w idx (.slice a l.length cap) t
  have hrow := hr.below0 hb0
  have hsz := hb0.size
  unfold imA
  go_enter Try.func39, Try.ntmps39
  refine wp_seq_k (fun K hK => ?_)
  have HK := Lib.hid hK
  clear hK
  go_wp2
  refine HK.out _ _ ?_
  clear HK
  change Code.wp _ _ _ _ (w.alloc (Obj.cells (imA idx (.slice a l.length cap) t) 57))
  generalize w.alloc (Obj.cells (imA idx (.slice a l.length cap) t) 57) = w0 at *
  obtain ⟨c0, c1, c2, c3, c4, c5, c6, c7, c8, c9, c10, c11, c12, c13, c14, c15, c16, c17⟩ := hi.cells
  have HI := Lib.hid hi
  have HR := Lib.hid hres
  have HROW := Lib.hid hrow
  clear hi hres hrow
  have hcs : idx < 0 ∨ (0 ≤ idx ∧ 1099511627776 < idx) ∨ (0 ≤ idx ∧ idx ≤ 1099511627776) := by omega
  rcases hcs with h | ⟨h, h2⟩ | ⟨h, h2⟩
  · obtain rfl := mayI_idx0 HR.out h
    go_wp2
    go_ret
    exact ⟨rfl, hb0⟩
  · obtain rfl := mayI_idx1 HR.out h2
    go_wp2
    go_ret
    exact ⟨rfl, hb0⟩
  · have HR2 := Lib.hid (mayI_in HR.out h h2)
    obtain ⟨ms, hms⟩ : ∃ ms, mayS l = ms := ⟨_, rfl⟩
    have HMS := Lib.hid hms
    clear hms
    cases ms
    · obtain rfl : r = false := by rw [← HR2.out, HMS.out]; rfl
      go_wp2_with (go_at_call 54; refine (may_any _ _ _ _ HROW.out hl).mono ?_; (rintro e w1 ⟨rfl, hb1⟩); rw [HMS.out])
      go_ret
      exact ⟨rfl, hb0.trans (hb1.mono hsz)⟩
    · have HT : Hid (mayT t = r) := Lib.hid (by rw [← HR2.out, HMS.out]; rfl)
      go_wp2_with (first
        | (go_at_call 54; refine (may_any _ _ _ _ HROW.out hl).mono ?_; (rintro e w1 ⟨rfl, hb1⟩); rw [HMS.out]; obtain ⟨e0, e1, e2, e3, e4, e5, e6, e7, e8, e9, e10, e11, e12, e13, e14, e15, e16, e17⟩ := (HI.out.below hb1).cells)
        | (go_at_call 55; refine (smay_any _ _).mono ?_; rintro e w2 ⟨rfl, hb2⟩; rw [HT.out]))
      go_ret
      exact ⟨rfl, hb0.trans ((hb1.trans (hb2.mono hb1.size)).mono hsz)⟩

set_option maxRecDepth 100000 in
set_option maxHeartbeats 4000000 in
theorem rimay_any (idx : Int) (a : Option Addr) (cap : Nat) (l : List Pr) (t : Tb) (w : World) (hr : Row w a (prs l)) (hl : l.length ≤ 1000) (hsm : ∀ p ∈ l, p.1.size ≤ 100000) (r : Bool) (hres : mayI ⟨idx, l, t⟩ = r) :
    Calls Try.prog 51 #[.agg (imA idx (.slice a l.length cap) t)] w fun e w' => e = .returned (.bool r) ∧ Below w.heap.size w w' := by
  have hb0 : Below w.heap.size w (w.alloc (Obj.cells (imA idx (.slice a l.length cap) t) 57)) := (Below.refl _ _).alloc (Nat.le_refl _) _
  have hi := ImB.new w idx (.slice a l.length cap) t
  have hrow := hr.below0 hb0
  have hsz := hb0.size
  unfold imA
  go_enter Try.func51, Try.ntmps51
  refine wp_seq_k (fun K hK => ?_)
  have HK := Lib.hid hK
  clear hK
  go_wp2
  refine HK.out _ _ ?_
  clear HK
  change Code.wp _ _ _ _ (w.alloc (Obj.cells (imA idx (.slice a l.length cap) t) 57))
  generalize w.alloc (Obj.cells (imA idx (.slice a l.length cap) t) 57) = w0 at *
  obtain ⟨c0, c1, c2, c3, c4, c5, c6, c7, c8, c9, c10, c11, c12, c13, c14, c15, c16, c17⟩ := hi.cells
  have HI := Lib.hid hi
  have HR := Lib.hid hres
  have HROW := Lib.hid hrow
  clear hi hres hrow
  have hcs : idx < 0 ∨ (0 ≤ idx ∧ 1099511627776 < idx) ∨ (0 ≤ idx ∧ idx ≤ 1099511627776) := by omega
  rcases hcs with h | ⟨h, h2⟩ | ⟨h, h2⟩
  · obtain rfl := mayI_idx0 HR.out h
    go_wp2
    go_ret
    exact ⟨rfl, hb0⟩
  · obtain rfl := mayI_idx1 HR.out h2
    go_wp2
    go_ret
    exact ⟨rfl, hb0⟩
  · have HR2 := Lib.hid (mayI_in HR.out h h2)
    obtain ⟨ms, hms⟩ : ∃ ms, mayS l = ms := ⟨_, rfl⟩
    have HMS := Lib.hid hms
    clear hms
    cases ms
    · obtain rfl : r = false := by rw [← HR2.out, HMS.out]; rfl
      go_wp2_with (go_at_call 64; refine (rmay_any _ _ _ _ HROW.out hl hsm).mono ?_; (rintro e w1 ⟨rfl, q, rfl⟩; have hb1 := below_drewN (Below.refl w0.heap.size w0) q); rw [HMS.out])
      go_ret
      exact ⟨rfl, hb0.trans (hb1.mono hsz)⟩
    · have HT : Hid (mayT t = r) := Lib.hid (by rw [← HR2.out, HMS.out]; rfl)
      go_wp2_with (first
        | (go_at_call 64; refine (rmay_any _ _ _ _ HROW.out hl hsm).mono ?_; (rintro e w1 ⟨rfl, q, rfl⟩; have hb1 := below_drewN (Below.refl w0.heap.size w0) q); rw [HMS.out]; obtain ⟨e0, e1, e2, e3, e4, e5, e6, e7, e8, e9, e10, e11, e12, e13, e14, e15, e16, e17⟩ := (HI.out.below hb1).cells)
        | (go_at_call 65; refine (rsmay_any _ _).mono ?_; rintro e w2 ⟨rfl, hb2⟩; rw [HT.out]))
      go_ret
      exact ⟨rfl, hb0.trans ((hb1.trans (hb2.mono hb1.size)).mono hsz)⟩

end Go.Proofs.Ytkkoookmnnmiiaa

namespace Go.Proofs.Ytkkoookmnnmiiaa
open Go.RowKit

structure TbC (w : World) (g : Nat) (t : Tb) : Prop where
  c0 : w.cell? ⟨g, 0, none⟩ = some (.int .i64 t.r0.seq)
  c1 : w.cell? ⟨g, 1, none⟩ = some (.int .i64 t.r0.rep.err)
  c2 : w.cell? ⟨g, 2, none⟩ = some (.bool t.r0.rep.found)
  c3 : w.cell? ⟨g, 3, none⟩ = some (.string t.r0.rep.val)
  c4 : w.cell? ⟨g, 4, none⟩ = some (.int .i64 t.r1.seq)
  c5 : w.cell? ⟨g, 5, none⟩ = some (.int .i64 t.r1.rep.err)
  c6 : w.cell? ⟨g, 6, none⟩ = some (.bool t.r1.rep.found)
  c7 : w.cell? ⟨g, 7, none⟩ = some (.string t.r1.rep.val)
  c8 : w.cell? ⟨g, 8, none⟩ = some (.int .i64 t.r2.seq)
  c9 : w.cell? ⟨g, 9, none⟩ = some (.int .i64 t.r2.rep.err)
  c10 : w.cell? ⟨g, 10, none⟩ = some (.bool t.r2.rep.found)
  c11 : w.cell? ⟨g, 11, none⟩ = some (.string t.r2.rep.val)
  c12 : w.cell? ⟨g, 12, none⟩ = some (.int .i64 t.r3.seq)
  c13 : w.cell? ⟨g, 13, none⟩ = some (.int .i64 t.r3.rep.err)
  c14 : w.cell? ⟨g, 14, none⟩ = some (.bool t.r3.rep.found)
  c15 : w.cell? ⟨g, 15, none⟩ = some (.string t.r3.rep.val)
structure TbB (w : World) (g : Nat) (t : Tb) : Prop where
  blk : w.heap[g]? = some (.cells (tbA t) 55 (0, 0))
theorem TbB.cells {w : World} {g : Nat} {t : Tb} (h : TbB w g t) : TbC w g t := by
  have hb := h.blk
  unfold tbA at hb
  constructor
  all_goals simp [World.cell?, hb]
theorem TbB.lt {w : World} {g : Nat} {t : Tb} (h : TbB w g t) : g < w.heap.size := (Array.getElem?_eq_some_iff.1 h.blk).1
theorem TbB.below {w w' : World} {g : Nat} {t : Tb} (h : TbB w g t) (hb : Below w.heap.size w w') : TbB w' g t := ⟨(hb.block g h.lt).trans h.blk⟩
theorem TbB.new (w : World) (t : Tb) : TbB (w.alloc (Obj.cells (tbA t) 55)) w.heap.size t := ⟨heap_alloc_new w _⟩
theorem TbB.frozen {w : World} {g : Nat} {t : Tb} (h : TbB w g t) : ∀ j, w.frozen? ⟨g, j, none⟩ = false := fun j => blk_frozen h.blk j


def askR (t : Tb) (c s : Int) : Value := if (t.at c).seq < s then .tuple #[.bool true, rpV zeroR, .int .i64 0] else if s < (t.at c).seq then .tuple #[.bool false, rpV zeroR, .int .i64 220] else .tuple #[.bool false, rpV (t.at c).rep, .int .i64 0]

set_option maxRecDepth 100000 in
set_option maxHeartbeats 4000000 in
theorem ask_any (t : Tb) (c s : Int) (w : World) (hm : mayT t = true) (hc : 0 ≤ c) (hc2 : c < 4) (hs : 1 ≤ s) (hs2 : s ≤ 1099511627776) :
    Calls Try.prog 41 #[.agg (tbA t), .int .i64 c, .int .i64 s] w fun e w' => e = .returned (askR t c s) ∧ Below w.heap.size w w' := by
  have HM := Lib.hid hm
  clear hm
  have hb0 : Below w.heap.size w ((w.alloc (Obj.cells (tbA t) 55)).alloc (Obj.cells #[.int .i64 0, .bool false, .string ⟨#[]⟩] 51)) := ((Below.refl _ _).alloc (Nat.le_refl _) _).alloc (by simp) _
  have hi := (TbB.new w t).below ((Below.refl _ _).alloc (Nat.le_refl _) (Obj.cells #[.int .i64 0, .bool false, .string ⟨#[]⟩] 51))
  have hr := heap_alloc2_new w (Obj.cells (tbA t) 55) (Obj.cells #[.int .i64 0, .bool false, .string ⟨#[]⟩] 51)
  have hsz := hb0.size
  unfold tbA
  go_enter Try.func41, Try.ntmps41
  refine wp_seq_k (fun K hK => ?_)
  have HK := Lib.hid hK
  clear hK
  go_wp2
  refine HK.out _ _ ?_
  clear HK
  change Code.wp _ _ _ _ ((w.alloc (Obj.cells (tbA t) 55)).alloc (Obj.cells #[.int .i64 0, .bool false, .string ⟨#[]⟩] 51))
  have hzz : w.heap.size + 1 < ((w.alloc (Obj.cells (tbA t) 55)).alloc (Obj.cells #[.int .i64 0, .bool false, .string ⟨#[]⟩] 51)).heap.size := by simp
  generalize (w.alloc (Obj.cells (tbA t) 55)).alloc (Obj.cells #[.int .i64 0, .bool false, .string ⟨#[]⟩] 51) = w0 at *
  have HI := Lib.hid hi
  have HRB := Lib.hid hr
  obtain ⟨c0, c1, c2, c3, c4, c5, c6, c7, c8, c9, c10, c11, c12, c13, c14, c15⟩ := hi.cells
  clear hi hr
  refine wp_seq_k (fun K hK => ?_)
  have HK := Lib.hid hK
  clear hK
  go_wp2_with (go_at_call 55; refine (smay_any _ _).mono ?_; rintro e w1 ⟨rfl, hb1⟩; rw [HM.out])
  refine HK.out _ _ ?_
  clear HK
  have hi := HI.out.below hb1
  have hr := (hb1.block _ hzz).trans HRB.out
  have hbw := hb0.trans (hb1.mono hsz)
  have hsz1 := hb1.size
  clear c0 c1 c2 c3 c4 c5 c6 c7 c8 c9 c10 c11 c12 c13 c14 c15
  obtain ⟨c0, c1, c2, c3, c4, c5, c6, c7, c8, c9, c10, c11, c12, c13, c14, c15⟩ := hi.cells
  have hlt1 := hi.lt
  clear hi
  have hcs : c = 0 ∨ c = 1 ∨ c = 2 ∨ c = 3 := by omega
  have HCS := Lib.hid hcs
  clear hcs
  rcases HCS.out with rfl | rfl | rfl | rfl
  · have ha : askR t 0 s = (if t.r0.seq < s then .tuple #[.bool true, rpV zeroR, .int .i64 0] else if s < t.r0.seq then .tuple #[.bool false, rpV zeroR, .int .i64 220] else .tuple #[.bool false, rpV t.r0.rep, .int .i64 0]) := rfl
    rw [ha]
    clear ha
    refine wp_seq_k (fun K hK => ?_)
    have HK := Lib.hid hK
    clear hK
    go_wp2
    refine HK.out _ _ ?_
    clear HK
    have hp := blw w1 (Obj.cells #[.int .i64 t.r0.seq, .int .i64 t.r0.rep.err, .bool t.r0.rep.found, .string t.r0.rep.val] 53)
    have bl := heap_alloc_new w1 (Obj.cells #[.int .i64 t.r0.seq, .int .i64 t.r0.rep.err, .bool t.r0.rep.found, .string t.r0.rep.val] 53)
    have hzr : w.heap.size + 1 < w1.heap.size := Nat.lt_of_lt_of_le hzz hsz1
    have hr2 := (hp.block _ hzr).trans hr
    have hbw2 := hbw.trans (hp.mono hbw.size)
    clear hr hp c0 c1 c2 c3 c4 c5 c6 c7 c8 c9 c10 c11 c12 c13 c14 c15
    generalize w1.alloc (Obj.cells #[.int .i64 t.r0.seq, .int .i64 t.r0.rep.err, .bool t.r0.rep.found, .string t.r0.rep.val] 53) = w2 at *
    obtain ⟨d0, d1, d2, f0, f1, f2⟩ := trio hr2
    obtain ⟨l0, l1, l2, l3⟩ := four bl
    have HB := Lib.hid bl
    have HR2 := Lib.hid hr2
    clear bl hr2
    by_cases h1 : t.r0.seq < s
    · rw [if_pos h1]
      go_wp2
      refine bodyPost_ret (v := .tuple #[.bool true, rpV zeroR, .int .i64 0]) (by simp only [results, Try.results41]; go_simp; try rfl) rfl ⟨rfl, ?_⟩
      (repeat' (first | (with_reducible exact Below.refl _ _) | (with_reducible assumption) | (with_reducible refine Below.alloc ?_ ?_ _) | (with_reducible refine Below.drew ?_) | (with_reducible refine below_drewN ?_ _) | (with_reducible refine Below.setCell ?_ ?_ _) | (with_reducible refine Below.trans ?_ (by assumption)) | go_size))
    · rw [if_neg h1]
      by_cases h2 : s < t.r0.seq
      · rw [if_pos h2]
        go_wp2
        refine bodyPost_ret (v := .tuple #[.bool false, rpV zeroR, .int .i64 220]) (by simp only [results, Try.results41]; go_simp; try rfl) rfl ⟨rfl, ?_⟩
        (repeat' (first | (with_reducible exact Below.refl _ _) | (with_reducible assumption) | (with_reducible refine Below.alloc ?_ ?_ _) | (with_reducible refine Below.drew ?_) | (with_reducible refine below_drewN ?_ _) | (with_reducible refine Below.setCell ?_ ?_ _) | (with_reducible refine Below.trans ?_ (by assumption)) | go_size))
      · rw [if_neg h2]
        go_wp2
        go_region
        all_goals
          go_wp2
          refine bodyPost_ret (v := .tuple #[.bool false, rpV t.r0.rep, .int .i64 0]) (by simp only [results, Try.results41]; go_simp; try rfl) rfl ⟨rfl, ?_⟩
          (repeat' (first | (with_reducible exact Below.refl _ _) | (with_reducible assumption) | (with_reducible refine Below.alloc ?_ ?_ _) | (with_reducible refine Below.drew ?_) | (with_reducible refine below_drewN ?_ _) | (with_reducible refine Below.setCell ?_ ?_ _) | (with_reducible refine Below.trans ?_ (by assumption)) | go_size))
  · have ha : askR t 1 s = (if t.r1.seq < s then .tuple #[.bool true, rpV zeroR, .int .i64 0] else if s < t.r1.seq then .tuple #[.bool false, rpV zeroR, .int .i64 220] else .tuple #[.bool false, rpV t.r1.rep, .int .i64 0]) := rfl
    rw [ha]
    clear ha
    refine wp_seq_k (fun K hK => ?_)
    have HK := Lib.hid hK
    clear hK
    go_wp2
    refine HK.out _ _ ?_
    clear HK
    have hp := blw w1 (Obj.cells #[.int .i64 t.r1.seq, .int .i64 t.r1.rep.err, .bool t.r1.rep.found, .string t.r1.rep.val] 53)
    have bl := heap_alloc_new w1 (Obj.cells #[.int .i64 t.r1.seq, .int .i64 t.r1.rep.err, .bool t.r1.rep.found, .string t.r1.rep.val] 53)
    have hzr : w.heap.size + 1 < w1.heap.size := Nat.lt_of_lt_of_le hzz hsz1
    have hr2 := (hp.block _ hzr).trans hr
    have hbw2 := hbw.trans (hp.mono hbw.size)
    clear hr hp c0 c1 c2 c3 c4 c5 c6 c7 c8 c9 c10 c11 c12 c13 c14 c15
    generalize w1.alloc (Obj.cells #[.int .i64 t.r1.seq, .int .i64 t.r1.rep.err, .bool t.r1.rep.found, .string t.r1.rep.val] 53) = w2 at *
    obtain ⟨d0, d1, d2, f0, f1, f2⟩ := trio hr2
    obtain ⟨l0, l1, l2, l3⟩ := four bl
    have HB := Lib.hid bl
    have HR2 := Lib.hid hr2
    clear bl hr2
    by_cases h1 : t.r1.seq < s
    · rw [if_pos h1]
      go_wp2
      refine bodyPost_ret (v := .tuple #[.bool true, rpV zeroR, .int .i64 0]) (by simp only [results, Try.results41]; go_simp; try rfl) rfl ⟨rfl, ?_⟩
      (repeat' (first | (with_reducible exact Below.refl _ _) | (with_reducible assumption) | (with_reducible refine Below.alloc ?_ ?_ _) | (with_reducible refine Below.drew ?_) | (with_reducible refine below_drewN ?_ _) | (with_reducible refine Below.setCell ?_ ?_ _) | (with_reducible refine Below.trans ?_ (by assumption)) | go_size))
    · rw [if_neg h1]
      by_cases h2 : s < t.r1.seq
      · rw [if_pos h2]
        go_wp2
        refine bodyPost_ret (v := .tuple #[.bool false, rpV zeroR, .int .i64 220]) (by simp only [results, Try.results41]; go_simp; try rfl) rfl ⟨rfl, ?_⟩
        (repeat' (first | (with_reducible exact Below.refl _ _) | (with_reducible assumption) | (with_reducible refine Below.alloc ?_ ?_ _) | (with_reducible refine Below.drew ?_) | (with_reducible refine below_drewN ?_ _) | (with_reducible refine Below.setCell ?_ ?_ _) | (with_reducible refine Below.trans ?_ (by assumption)) | go_size))
      · rw [if_neg h2]
        go_wp2
        go_region
        all_goals
          go_wp2
          refine bodyPost_ret (v := .tuple #[.bool false, rpV t.r1.rep, .int .i64 0]) (by simp only [results, Try.results41]; go_simp; try rfl) rfl ⟨rfl, ?_⟩
          (repeat' (first | (with_reducible exact Below.refl _ _) | (with_reducible assumption) | (with_reducible refine Below.alloc ?_ ?_ _) | (with_reducible refine Below.drew ?_) | (with_reducible refine below_drewN ?_ _) | (with_reducible refine Below.setCell ?_ ?_ _) | (with_reducible refine Below.trans ?_ (by assumption)) | go_size))
  · have ha : askR t 2 s = (if t.r2.seq < s then .tuple #[.bool true, rpV zeroR, .int .i64 0] else if s < t.r2.seq then .tuple #[.bool false, rpV zeroR, .int .i64 220] else .tuple #[.bool false, rpV t.r2.rep, .int .i64 0]) := rfl
    rw [ha]
    clear ha
    refine wp_seq_k (fun K hK => ?_)
    have HK := Lib.hid hK
    clear hK
    go_wp2
    refine HK.out _ _ ?_
    clear HK
    have hp := blw w1 (Obj.cells #[.int .i64 t.r2.seq, .int .i64 t.r2.rep.err, .bool t.r2.rep.found, .string t.r2.rep.val] 53)
    have bl := heap_alloc_new w1 (Obj.cells #[.int .i64 t.r2.seq, .int .i64 t.r2.rep.err, .bool t.r2.rep.found, .string t.r2.rep.val] 53)
    have hzr : w.heap.size + 1 < w1.heap.size := Nat.lt_of_lt_of_le hzz hsz1
    have hr2 := (hp.block _ hzr).trans hr
    have hbw2 := hbw.trans (hp.mono hbw.size)
    clear hr hp c0 c1 c2 c3 c4 c5 c6 c7 c8 c9 c10 c11 c12 c13 c14 c15
    generalize w1.alloc (Obj.cells #[.int .i64 t.r2.seq, .int .i64 t.r2.rep.err, .bool t.r2.rep.found, .string t.r2.rep.val] 53) = w2 at *
    obtain ⟨d0, d1, d2, f0, f1, f2⟩ := trio hr2
    obtain ⟨l0, l1, l2, l3⟩ := four bl
    have HB := Lib.hid bl
    have HR2 := Lib.hid hr2
    clear bl hr2
    by_cases h1 : t.r2.seq < s
    · rw [if_pos h1]
      go_wp2
      refine bodyPost_ret (v := .tuple #[.bool true, rpV zeroR, .int .i64 0]) (by simp only [results, Try.results41]; go_simp; try rfl) rfl ⟨rfl, ?_⟩
      (repeat' (first | (with_reducible exact Below.refl _ _) | (with_reducible assumption) | (with_reducible refine Below.alloc ?_ ?_ _) | (with_reducible refine Below.drew ?_) | (with_reducible refine below_drewN ?_ _) | (with_reducible refine Below.setCell ?_ ?_ _) | (with_reducible refine Below.trans ?_ (by assumption)) | go_size))
    · rw [if_neg h1]
      by_cases h2 : s < t.r2.seq
      · rw [if_pos h2]
        go_wp2
        refine bodyPost_ret (v := .tuple #[.bool false, rpV zeroR, .int .i64 220]) (by simp only [results, Try.results41]; go_simp; try rfl) rfl ⟨rfl, ?_⟩
        (repeat' (first | (with_reducible exact Below.refl _ _) | (with_reducible assumption) | (with_reducible refine Below.alloc ?_ ?_ _) | (with_reducible refine Below.drew ?_) | (with_reducible refine below_drewN ?_ _) | (with_reducible refine Below.setCell ?_ ?_ _) | (with_reducible refine Below.trans ?_ (by assumption)) | go_size))
      · rw [if_neg h2]
        go_wp2
        go_region
        all_goals
          go_wp2
          refine bodyPost_ret (v := .tuple #[.bool false, rpV t.r2.rep, .int .i64 0]) (by simp only [results, Try.results41]; go_simp; try rfl) rfl ⟨rfl, ?_⟩
          (repeat' (first | (with_reducible exact Below.refl _ _) | (with_reducible assumption) | (with_reducible refine Below.alloc ?_ ?_ _) | (with_reducible refine Below.drew ?_) | (with_reducible refine below_drewN ?_ _) | (with_reducible refine Below.setCell ?_ ?_ _) | (with_reducible refine Below.trans ?_ (by assumption)) | go_size))
  · have ha : askR t 3 s = (if t.r3.seq < s then .tuple #[.bool true, rpV zeroR, .int .i64 0] else if s < t.r3.seq then .tuple #[.bool false, rpV zeroR, .int .i64 220] else .tuple #[.bool false, rpV t.r3.rep, .int .i64 0]) := rfl
    rw [ha]
    clear ha
    refine wp_seq_k (fun K hK => ?_)
    have HK := Lib.hid hK
    clear hK
    go_wp2
    refine HK.out _ _ ?_
    clear HK
    have hp := blw w1 (Obj.cells #[.int .i64 t.r3.seq, .int .i64 t.r3.rep.err, .bool t.r3.rep.found, .string t.r3.rep.val] 53)
    have bl := heap_alloc_new w1 (Obj.cells #[.int .i64 t.r3.seq, .int .i64 t.r3.rep.err, .bool t.r3.rep.found, .string t.r3.rep.val] 53)
    have hzr : w.heap.size + 1 < w1.heap.size := Nat.lt_of_lt_of_le hzz hsz1
    have hr2 := (hp.block _ hzr).trans hr
    have hbw2 := hbw.trans (hp.mono hbw.size)
    clear hr hp c0 c1 c2 c3 c4 c5 c6 c7 c8 c9 c10 c11 c12 c13 c14 c15
    generalize w1.alloc (Obj.cells #[.int .i64 t.r3.seq, .int .i64 t.r3.rep.err, .bool t.r3.rep.found, .string t.r3.rep.val] 53) = w2 at *
    obtain ⟨d0, d1, d2, f0, f1, f2⟩ := trio hr2
    obtain ⟨l0, l1, l2, l3⟩ := four bl
    have HB := Lib.hid bl
    have HR2 := Lib.hid hr2
    clear bl hr2
    by_cases h1 : t.r3.seq < s
    · rw [if_pos h1]
      go_wp2
      refine bodyPost_ret (v := .tuple #[.bool true, rpV zeroR, .int .i64 0]) (by simp only [results, Try.results41]; go_simp; try rfl) rfl ⟨rfl, ?_⟩
      (repeat' (first | (with_reducible exact Below.refl _ _) | (with_reducible assumption) | (with_reducible refine Below.alloc ?_ ?_ _) | (with_reducible refine Below.drew ?_) | (with_reducible refine below_drewN ?_ _) | (with_reducible refine Below.setCell ?_ ?_ _) | (with_reducible refine Below.trans ?_ (by assumption)) | go_size))
    · rw [if_neg h1]
      by_cases h2 : s < t.r3.seq
      · rw [if_pos h2]
        go_wp2
        refine bodyPost_ret (v := .tuple #[.bool false, rpV zeroR, .int .i64 220]) (by simp only [results, Try.results41]; go_simp; try rfl) rfl ⟨rfl, ?_⟩
        (repeat' (first | (with_reducible exact Below.refl _ _) | (with_reducible assumption) | (with_reducible refine Below.alloc ?_ ?_ _) | (with_reducible refine Below.drew ?_) | (with_reducible refine below_drewN ?_ _) | (with_reducible refine Below.setCell ?_ ?_ _) | (with_reducible refine Below.trans ?_ (by assumption)) | go_size))
      · rw [if_neg h2]
        go_wp2
        go_region
        all_goals
          go_wp2
          refine bodyPost_ret (v := .tuple #[.bool false, rpV t.r3.rep, .int .i64 0]) (by simp only [results, Try.results41]; go_simp; try rfl) rfl ⟨rfl, ?_⟩
          (repeat' (first | (with_reducible exact Below.refl _ _) | (with_reducible assumption) | (with_reducible refine Below.alloc ?_ ?_ _) | (with_reducible refine Below.drew ?_) | (with_reducible refine below_drewN ?_ _) | (with_reducible refine Below.setCell ?_ ?_ _) | (with_reducible refine Below.trans ?_ (by assumption)) | go_size))
end Go.Proofs.Ytkkoookmnnmiiaa

namespace Go.Proofs.Ytkkoookmnnmiiaa
open Go.RowKit

theorem askR_fresh {t : Tb} {c s : Int} (h : (t.at c).seq < s) : askR t c s = .tuple #[.bool true, rpV zeroR, .int .i64 0] := by unfold askR; rw [if_pos h]
theorem tbA_all (t : Tb) : 0 + 16 ≤ (tbA t).size ∧ (tbA t).extract 0 (0 + 16) = tbA t := ⟨Nat.le_refl _, rfl⟩
def rowA (r : Rw) : Array Value := #[.int .i64 r.seq, .int .i64 r.rep.err, .bool r.rep.found, .string r.rep.val]
theorem four_cases {c : Nat} (h : c < 4) : c = 0 ∨ c = 1 ∨ c = 2 ∨ c = 3 := by omega
theorem tbA_row (t : Tb) {c : Nat} (h : c < 4) : c * 4 + 4 ≤ (tbA t).size ∧ (tbA t).extract (c * 4) (c * 4 + 4) = rowA (t.at c) := by
  rcases four_cases h with rfl | rfl | rfl | rfl
  all_goals exact ⟨by show _ ≤ 16; omega, rfl⟩
theorem rowA_one (r : Rw) : ∀ u ∈ (rowA r).toList, u.oneCell' = true := by
  intro u hu
  simp [rowA] at hu
  rcases hu with rfl | rfl | rfl | rfl <;> rfl
theorem tbA_one (t : Tb) : ∀ u ∈ (tbA t).toList, u.oneCell' = true := by
  intro u hu
  simp [tbA] at hu
  rcases hu with rfl | rfl | rfl | rfl | rfl | rfl | rfl | rfl | rfl | rfl | rfl | rfl | rfl | rfl | rfl | rfl <;> rfl
theorem tbA_put (t : Tb) (r : Rw) {c : Nat} (h : c < 4) : c * 4 + 4 ≤ (tbA t).size ∧ (Value.agg (rowA r)).cells.size = 4 ∧ (∀ u ∈ (Value.agg (rowA r)).cells.toList, u.oneCell' = true) ∧ ((tbA t).toList.take (c * 4) ++ (Value.agg (rowA r)).cells.toList ++ (tbA t).toList.drop (c * 4 + 4)).toArray = tbA (t.put c r) := by
  rcases four_cases h with rfl | rfl | rfl | rfl
  all_goals exact ⟨by show _ ≤ 16; omega, rfl, rowA_one r, rfl⟩
theorem tbA_new (t : Tb) : (Value.agg (tbA t)).cells = tbA t ∧ (tbA t).size = 16 ∧ ∀ u ∈ (tbA t).toList, u.oneCell' = true := ⟨rfl, rfl, tbA_one t⟩
theorem tbA_over (t u : Tb) : 0 + 16 ≤ (tbA u).size ∧ (Value.agg (tbA t)).cells.size = 16 ∧ (∀ x ∈ (Value.agg (tbA t)).cells.toList, x.oneCell' = true) ∧ ((tbA u).toList.take 0 ++ (Value.agg (tbA t)).cells.toList ++ (tbA u).toList.drop (0 + 16)).toArray = tbA t := ⟨Nat.le_refl _, rfl, tbA_one t, rfl⟩

set_option maxRecDepth 100000 in
set_option maxHeartbeats 4000000 in
theorem note_any (t : Tb) (c : Nat) (s er : Int) (fo : Bool) (va : Tx) (w : World) (hm : mayT t = true) (hc : c < 4) (hs : 1 ≤ s) (hs2 : s ≤ 1099511627776) (hf : (t.at c).seq < s) (hbad : badR ⟨er, fo, va⟩ = false) :
    Calls Try.prog 43 #[.agg (tbA t), .int .i64 c, .int .i64 s, .agg #[.int .i64 er, .bool fo, .string va]] w fun e w' => e = .returned (.tuple #[.agg (tbA (t.put c ⟨s, ⟨er, fo, va⟩⟩)), .int .i64 0]) ∧ Below w.heap.size w w' := by
  have HM := Lib.hid hm
  have HBAD := Lib.hid hbad
  have HA := Lib.hid (askR_fresh hf)
  clear hm hbad hf
  have hb0 : Below w.heap.size w (((w.alloc (Obj.cells (tbA t) 55)).alloc (Obj.cells #[.int .i64 er, .bool fo, .string va] 51)).alloc (Obj.cells (tbA zeroT) 55)) := (((Below.refl _ _).alloc (Nat.le_refl _) _).alloc (by simp) _).alloc (by simp; omega) _
  have B4 := tr_al (Obj.cells (tbA zeroT) 55) (tr_al (Obj.cells #[.int .i64 er, .bool fo, .string va] 51) (heap_alloc_new w (Obj.cells (tbA t) 55)))
  have B7 := tr_al (Obj.cells (tbA zeroT) 55) (heap_alloc2_new w (Obj.cells (tbA t) 55) (Obj.cells #[.int .i64 er, .bool fo, .string va] 51))
  have B8 := heap_alloc_new ((w.alloc (Obj.cells (tbA t) 55)).alloc (Obj.cells #[.int .i64 er, .bool fo, .string va] 51)) (Obj.cells (tbA zeroT) 55)
  rw [show ((w.alloc (Obj.cells (tbA t) 55)).alloc (Obj.cells #[.int .i64 er, .bool fo, .string va] 51)).heap.size = w.heap.size + 1 + 1 by simp] at B8
  have hsz := hb0.size
  go_enter Try.func43, Try.ntmps43
  refine wp_seq_k (fun K hK => ?_)
  have HK := Lib.hid hK
  clear hK
  go_wp2
  refine HK.out _ _ ?_
  clear HK
  change Code.wp _ _ _ _ (((w.alloc (Obj.cells (tbA t) 55)).alloc (Obj.cells #[.int .i64 er, .bool fo, .string va] 51)).alloc (Obj.cells (tbA zeroT) 55))
  generalize ((w.alloc (Obj.cells (tbA t) 55)).alloc (Obj.cells #[.int .i64 er, .bool fo, .string va] 51)).alloc (Obj.cells (tbA zeroT) 55) = w0 at *
  refine wp_seq_k (fun K hK => ?_)
  have HK := Lib.hid hK
  clear hK
  go_wp2_with (first
      | ((with_reducible refine wpList_ldB 55 _ ?_); refine ⟨rfl, _, ⟨_, _, _, _, _, Try.isAgg55, Try.sizeOf55, rfl, ‹_›, tbA_all _⟩, ?_⟩)
      | (go_at_call 41; refine (ask_any _ _ _ _ HM.out (by omega) (by omega) (by assumption) (by assumption)).mono ?_; rintro e w1 ⟨rfl, hb1⟩; rw [HA.out]; unfold rpV zeroR))
  refine HK.out _ _ ?_
  clear HK
  have B4 := tr_al (Obj.cells #[.int .i64 0, .bool false, .string ⟨#[]⟩] 51) (tr_bl hb1 B4)
  have B7 := tr_al (Obj.cells #[.int .i64 0, .bool false, .string ⟨#[]⟩] 51) (tr_bl hb1 B7)
  have B8 := tr_al (Obj.cells #[.int .i64 0, .bool false, .string ⟨#[]⟩] 51) (tr_bl hb1 B8)
  have B11 := heap_alloc_new w1 (Obj.cells #[.int .i64 0, .bool false, .string ⟨#[]⟩] 51)
  have hbw := (hb0.trans (hb1.mono hsz)).trans ((blw w1 (Obj.cells #[.int .i64 0, .bool false, .string ⟨#[]⟩] 51)).mono (hb0.trans (hb1.mono hsz)).size)
  clear hb0
  generalize w1.alloc (Obj.cells #[.int .i64 0, .bool false, .string ⟨#[]⟩] 51) = w2 at *
  obtain ⟨d0, d1, d2, _⟩ := trio B7
  refine wp_seq_k (fun K hK => ?_)
  have HK := Lib.hid hK
  clear hK
  go_wp2_with (go_at_call 58; refine (bad_any _ _ _ _).mono ?_; rintro e w3 ⟨rfl, hb3⟩; rw [HBAD.out])
  refine HK.out _ _ ?_
  clear HK
  have B4 := tr_bl hb3 B4
  have B7 := tr_bl hb3 B7
  have B8 := tr_bl hb3 B8
  have hbw3 := hbw.trans (hb3.mono hbw.size)
  clear d0 d1 d2 hbw B11
  obtain ⟨d0, d1, d2, _⟩ := trio B7
  go_wp2_with (first
    | ((with_reducible refine wpList_ldB 55 _ ?_); refine ⟨rfl, _, ⟨_, _, _, _, _, Try.isAgg55, Try.sizeOf55, rfl, ‹_›, tbA_all _⟩, ?_⟩)
    | ((first | (with_reducible refine wpList_stB 53 _ _ ?_) | (with_reducible refine wp_stB 53 _ _ ?_)); refine ⟨_, _, _, ⟨_, _, _, Try.sizeOf53, rfl, ‹_›, tbA_put t ⟨s, ⟨er, fo, va⟩⟩ hc⟩, ?_⟩; intro w4 N4 g4; have N8 := tr_st g4 B8 (by omega); clear B4 B7 B8 d0 d1 d2)
    | ((first | (with_reducible refine wpList_stB 55 _ _ ?_) | (with_reducible refine wp_stB 55 _ _ ?_)); refine ⟨_, _, _, ⟨_, _, _, Try.sizeOf55, rfl, ‹_›, tbA_over (t.put c ⟨s, ⟨er, fo, va⟩⟩) zeroT⟩, ?_⟩; intro w5 N5 g5))
  refine bodyPost_ret (results_c1t1 rfl rfl (run_loadVar_all Try.isAgg55 Try.sizeOf55 N5 rfl)) rfl ⟨rfl, ?_⟩
  have hbw4 : Below w.heap.size w w4 := hbw3.grown g4 hbw3.size (fun k e => by cases e; exact Nat.le_refl _)
  exact hbw4.grown g5 hbw4.size (fun k e => by cases e; omega)
end Go.Proofs.Ytkkoookmnnmiiaa

namespace Go.Proofs.Ytkkoookmnnmiiaa
open Go.RowKit

def ActRes (base : Nat) (v : Value) (w : World) (lr : List Pr × Rp) (e : Ending) (w' : World) : Prop := StRes base lr.1 lr.2 e w' ∧ w.grownBy w' v.ownBlock

section
variable (base : Nat) (a : Option Addr) (cap : Nat) (l : List Pr) (o : Opn) (w : World) (hown : w.ownsRow base 81 2 (.slice a l.length cap) l.length (prs l)) (hbase : base ≤ w.heap.size) (hl : l.length ≤ 1000) (hso : Rises l)
include hown hl hso
theorem get_own : Calls Try.prog 74 #[.slice a l.length cap, opV o] w (ActRes base (.slice a l.length cap) w (l, wasR l o.key)) := by
  obtain ⟨a0, c0, hv0, hr, hcap, hmx⟩ := Row.of_owns hown
  injection hv0 with hv1 _ hv2
  subst hv1 hv2
  refine (get_any a cap l o w hr (by omega) hso _ rfl).mono ?_
  rintro e w' ⟨rfl, hb⟩
  exact ⟨⟨_, rfl, owns_after hown hb⟩, gb_of_below hb _⟩
include hbase
theorem put_own : Calls Try.prog 75 #[.slice a l.length cap, opV o] w (ActRes base (.slice a l.length cap) w (if look l o.key = none ∧ l.length = 8 then (l, ⟨211, false, ⟨#[]⟩⟩) else (putL l o.key o.val, wasR l o.key))) := by
  cases hlk : look l o.key with
  | none =>
    have hw : wasR l o.key = ⟨0, false, ⟨#[]⟩⟩ := by simp [wasR, hlk]
    by_cases h8 : l.length = 8
    · rw [if_pos ⟨rfl, h8⟩]
      exact put_full_any base a cap l o w hown h8 hso hlk
    · rw [if_neg (fun h => h8 h.2), hw]
      exact put_new_any base a cap l o w hown hbase hl h8 hso hlk
  | some u =>
    have hw : wasR l o.key = ⟨0, true, u⟩ := by simp [wasR, hlk]
    rw [if_neg (fun h => by cases h.1), hw]
    exact put_there_any base _ l o u w hown hl hso hlk
theorem del_own : Calls Try.prog 76 #[.slice a l.length cap, opV o] w (ActRes base (.slice a l.length cap) w (delL l o.key, wasR l o.key)) := by
  cases hlk : look l o.key with
  | none =>
    have hw : wasR l o.key = ⟨0, false, ⟨#[]⟩⟩ := by simp [wasR, hlk]
    rw [hw, del_none hso hlk]
    exact delete_none_any base a cap l o w hown hl hso hlk
  | some u =>
    have hw : wasR l o.key = ⟨0, true, u⟩ := by simp [wasR, hlk]
    rw [hw]
    exact delete_there_any base a cap l o w hown hbase hl hso u hlk
omit hbase
theorem swap_own : Calls Try.prog 77 #[.slice a l.length cap, opV o] w (ActRes base (.slice a l.length cap) w (if look l o.key = some o.old then (putL l o.key o.val, wasR l o.key) else (l, { wasR l o.key with found := false }))) := by
  cases hlk : look l o.key with
  | none =>
    have hw : wasR l o.key = ⟨0, false, ⟨#[]⟩⟩ := by simp [wasR, hlk]
    rw [if_neg (by simp), hw]
    exact swap_none_any base a cap l o w hown hl hso hlk
  | some u =>
    have hw : wasR l o.key = ⟨0, true, u⟩ := by simp [wasR, hlk]
    by_cases hu : u = o.old
    · subst hu
      rw [if_pos rfl, hw]
      exact swap_yes_any base a cap l o w hown hl hso hlk
    · rw [if_neg (fun e => hu (Option.some.inj e)), hw]
      exact swap_other_any base a cap l o w hown hl hso u hlk hu
end

@[go_sem] theorem index_does1 (w : World) : (Instr.index 97 doesV (.int .u8 1)).run Try.prog w = .ok (fnV 74) w := by kernel_rfl
@[go_sem] theorem index_does2 (w : World) : (Instr.index 97 doesV (.int .u8 2)).run Try.prog w = .ok (fnV 75) w := by kernel_rfl
@[go_sem] theorem index_does3 (w : World) : (Instr.index 97 doesV (.int .u8 3)).run Try.prog w = .ok (fnV 76) w := by kernel_rfl
@[go_sem] theorem index_does4 (w : World) : (Instr.index 97 doesV (.int .u8 4)).run Try.prog w = .ok (fnV 77) w := by kernel_rfl
end Go.Proofs.Ytkkoookmnnmiiaa

namespace Go.Proofs.Ytkkoookmnnmiiaa
open Go.RowKit

theorem keep_b {x y : World} (hb : Below x.heap.size x y) {p : Addr} {v : Value} (hc : x.cell? p = some v) : y.cell? p = some v := (hb.cell (World.block_lt_of_cell? x p hc)).trans hc
theorem keep_bf {x y : World} (hb : Below x.heap.size x y) {p : Addr} {v : Value} (hc : x.cell? p = some v) (hf : x.frozen? p = false) : y.frozen? p = false := (hb.frozen (World.block_lt_of_cell? x p hc)).trans hf

set_option maxRecDepth 100000 in
set_option maxHeartbeats 4000000 in
theorem do_nomay (a : Option Addr) (cap : Nat) (l : List Pr) (k : Int) (key old val : Tx) (w : World) (hs : SlP w a cap l) (hl : l.length ≤ 1000) (hm : mayS l = false) :
    Calls Try.prog 42 #[.slice a l.length cap, .agg #[.int .u8 k, .string key, .string old, .string val]] w fun e w' => StRes w.heap.size [] ⟨2, false, ⟨#[]⟩⟩ e w' ∧ Below w.heap.size w w' := by
  have hb0 : Below w.heap.size w ((w.alloc (Obj.cells #[.int .u8 k, .string key, .string old, .string val] 32)).alloc (Obj.cells #[.int .i64 0, .bool false, .string ⟨#[]⟩] 51)) := ((Below.refl _ _).alloc (Nat.le_refl _) _).alloc (by simp) _
  have hr0 := hs.row.below0 hb0
  have HM := Lib.hid hm
  clear hm
  go_enter Try.func42, Try.ntmps42
  refine wp_seq_k (fun K hK => ?_)
  have HK := Lib.hid hK
  clear hK
  go_wp2
  refine HK.out _ _ ?_
  clear HK
  go_wp2_with (go_at_call 54; refine (may_any _ _ _ _ hr0 hl).mono ?_; rintro e w1 ⟨rfl, hb1⟩; rw [HM.out]; obtain ⟨p0, p1, p2, q0, q1, q2⟩ := trio ((hb1.block (w.heap.size + 1) (by simp)).trans (heap_alloc2_new w _ (Obj.cells #[.int .i64 0, .bool false, .string ⟨#[]⟩] 51))); have hbw1 := hb0.trans (hb1.mono (by simp; omega)))
  (try simp only [Exit.inBlock, Exit.then])
  refine bodyPost_ret (v := .tuple #[.slice none 0 0, rpV ⟨2, false, ⟨#[]⟩⟩]) ?hr rfl ⟨⟨_, rfl, World.ownsRow_nil _ _ _ _⟩, ?_⟩
  case hr =>
    simp only [results, Try.results42]
    go_simp
    try rfl
  (repeat' (first | (with_reducible exact Below.refl _ _) | (with_reducible assumption) | (with_reducible refine Below.alloc ?_ ?_ _) | (with_reducible refine Below.drew ?_) | (with_reducible refine below_drewN ?_ _) | (with_reducible refine Below.setCell ?_ ?_ _) | (with_reducible refine Below.trans ?_ (by assumption)) | go_size))

set_option maxRecDepth 100000 in
set_option maxHeartbeats 4000000 in
theorem do_badop (a : Option Addr) (cap : Nat) (l : List Pr) (k : Int) (key old val : Tx) (w : World) (hs : SlP w a cap l) (hl : l.length ≤ 1000) (hm : mayS l = true) (ho : mayO ⟨k, key, old, val⟩ = false) :
    Calls Try.prog 42 #[.slice a l.length cap, .agg #[.int .u8 k, .string key, .string old, .string val]] w fun e w' => StRes w.heap.size l ⟨210, false, ⟨#[]⟩⟩ e w' ∧ Below w.heap.size w w' := by
  have hb0 : Below w.heap.size w ((w.alloc (Obj.cells #[.int .u8 k, .string key, .string old, .string val] 32)).alloc (Obj.cells #[.int .i64 0, .bool false, .string ⟨#[]⟩] 51)) := ((Below.refl _ _).alloc (Nat.le_refl _) _).alloc (by simp) _
  have hr0 := hs.row.below0 hb0
  have HM := Lib.hid hm
  have HOP := Lib.hid ho
  clear hm ho
  go_enter Try.func42, Try.ntmps42
  refine wp_seq_k (fun K hK => ?_)
  have HK := Lib.hid hK
  clear hK
  go_wp2
  refine HK.out _ _ ?_
  clear HK
  refine wp_seq_k (fun K hK => ?_)
  have HK := Lib.hid hK
  clear hK
  go_wp2_with (go_at_call 54; refine (may_any _ _ _ _ hr0 hl).mono ?_; rintro e w1 ⟨rfl, hb1⟩; rw [HM.out])
  refine HK.out _ _ ?_
  clear HK
  have hbw1 := hb0.trans (hb1.mono (by simp; omega))
  have hs1 := hb1.size
  simp at hs1
  have b3 := (hb1.block w.heap.size (by simp; omega)).trans ((heap_alloc_old _ _ (by simp)).trans (heap_alloc_new w (Obj.cells #[.int .u8 k, .string key, .string old, .string val] 32)))
  have b5 := (hb1.block (w.heap.size + 1) (by simp)).trans (heap_alloc2_new w _ (Obj.cells #[.int .i64 0, .bool false, .string ⟨#[]⟩] 51))
  have hs1' := hs.below hbw1
  refine wp_seq_k (fun K hK => ?_)
  have HK := Lib.hid hK
  clear hK
  go_wp2_with (go_at_call 40; refine (clone_any _ _ _ _ hs1' hl).mono ?_; rintro e w2 ⟨⟨v2, rfl, hown2⟩, hb2⟩)
  refine HK.out _ _ ?_
  clear HK
  have b3' := (hb2.block w.heap.size (by omega)).trans b3
  have b5' := (hb2.block (w.heap.size + 1) (by omega)).trans b5
  have hs2 := hb2.size
  have hbw2 := hbw1.trans (hb2.mono (by omega))
  have hown := owns_mono hown2 (show w.heap.size ≤ w1.heap.size by omega)
  obtain ⟨d0, d1, d2, d3⟩ := four b3'
  have HO := Lib.hid hown
  have HO2 := Lib.hid hown2
  clear hown hown2
  go_wp2_with (go_at_call 56; refine (pmayO_any _ _ _ _ _ _ HOP.out).mono ?_; rintro e w3 ⟨rfl, hb3⟩; obtain ⟨p0, p1, p2, q0, q1, q2⟩ := trio ((hb3.block (w.heap.size + 1) (by omega)).trans b5'); have hbw3 := hbw2.trans (hb3.mono (by omega)))
  have hown3 := owns_after HO.out hb3
  have hne : v2.ownBlock ≠ some (w.heap.size + 1) := by
    intro e
    have := (HO2.out.lt _ e).1
    omega
  (try simp only [Exit.inBlock, Exit.then])
  refine bodyPost_ret (v := .tuple #[v2, rpV ⟨210, false, ⟨#[]⟩⟩]) ?hr rfl ⟨⟨_, rfl, ?_⟩, ?_⟩
  case hr =>
    simp only [results, Try.results42]
    go_simp
    try rfl
  · repeat (first | exact hown3 | refine World.ownsRow.drew ?_ | refine owns_far ?_ hne _)
  · (repeat' (first | (with_reducible exact Below.refl _ _) | (with_reducible assumption) | (with_reducible refine Below.alloc ?_ ?_ _) | (with_reducible refine Below.drew ?_) | (with_reducible refine below_drewN ?_ _) | (with_reducible refine Below.setCell ?_ ?_ _) | (with_reducible refine Below.trans ?_ (by assumption)) | go_size))
end Go.Proofs.Ytkkoookmnnmiiaa

