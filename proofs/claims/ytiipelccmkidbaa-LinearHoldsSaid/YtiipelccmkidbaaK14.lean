/- swap. -/
import Derived.Test.YtiipelccmkidbaaK13
import Derived.Test.YtiipelccmkidbaaRows
import Derived.WalkKit
import Derived.WalkSpells
import Derived.WalkLawsBesides
import Derived.Handy
import Derived.Deep.QuietTactic
import Derived.BigQuiet
import Derived.Deep.DeepCutAuto
import Derived.Lib.Hide
import Derived.RegionTactic
import Derived.ChangeAlike
import Derived.Laws.ResultCell
import Derived.Outline
namespace Go.Proofs.Ytiipelccmkidbaa
open Go.RowKit

set_option maxRecDepth 100000 in
set_option maxHeartbeats 4000000 in
theorem swap_none_any (base : Nat) (a : Option Addr) (cap : Nat) (l : List Pr) (o : Opn) (w : World) (hown : w.ownsRow base 46 2 (.slice a l.length cap) l.length (prs l)) (hl : l.length ≤ 1000) (hso : Rises l) (hlk : look l o.key = none) :
    Calls Try.prog 28 #[.slice a l.length cap, opV o] w fun e w' => StRes base l ⟨0, false, ⟨#[]⟩⟩ e w' ∧ w.grownBy w' (Value.slice a l.length cap).ownBlock := by
  obtain ⟨kd, key, old, val⟩ := o
  unfold opV
  simp only at hlk ⊢
  have hb0 : Below w.heap.size w ((w.alloc (Obj.cells #[.int .u8 kd, .string key, .string old, .string val] 27)).alloc (Obj.cells #[.int .i64 0, .bool false, .string ⟨#[]⟩] 30)) := ((Below.refl _ _).alloc (Nat.le_refl _) _).alloc (by simp) _
  obtain ⟨a0, c0, hv0, hr, hcap, hmx⟩ := Row.of_owns hown
  injection hv0 with hv1 _ hv2
  subst hv1 hv2
  have hr0 := hr.below0 hb0
  have hw : wasR l key = ⟨0, false, ⟨#[]⟩⟩ := by simp [wasR, hlk]
  have HO := Lib.hid hown
  clear hown
  go_enter Try.func28, Try.ntmps28
  refine wp_seq_k (fun K hK => ?_)
  have HK := Lib.hid hK
  clear hK
  go_wp2
  refine HK.out _ _ ?_
  clear HK
  refine wp_seq_k (fun K hK => ?_)
  have HK := Lib.hid hK
  clear hK
  go_wp2_with (go_at_call 30; refine (was_any _ _ _ _ _ hr0 (by omega) hso _ hw).mono ?_; rintro e w1 ⟨rfl, hb1⟩; unfold rpV)
  refine HK.out _ _ ?_
  clear HK
  have hbw1 := hb0.trans (hb1.mono (by simp; omega))
  have hb12 : Below w1.heap.size w1 (w1.alloc (Obj.cells #[.int .i64 0, .bool false, .string ⟨#[]⟩] 30)) := (Below.refl _ _).alloc (Nat.le_refl _) _
  have hs1 := hb1.size
  simp at hs1
  have hbw2 := hbw1.trans (hb12.mono (by omega))
  have b3 := (hb12.block w.heap.size (by omega)).trans ((hb1.block w.heap.size (by simp; omega)).trans ((heap_alloc_old _ _ (by simp)).trans (heap_alloc_new w (Obj.cells #[.int .u8 kd, .string key, .string old, .string val] 27))))
  have b5 := (hb12.block (w.heap.size + 1) (by omega)).trans ((hb1.block (w.heap.size + 1) (by simp)).trans (heap_alloc2_new w _ (Obj.cells #[.int .i64 0, .bool false, .string ⟨#[]⟩] 30)))
  have b6 := heap_alloc_new w1 (Obj.cells #[.int .i64 0, .bool false, .string ⟨#[]⟩] 30)
  have hs2 : w1.heap.size < (w1.alloc (Obj.cells #[.int .i64 0, .bool false, .string ⟨#[]⟩] 30)).heap.size := by simp
  generalize w1.alloc (Obj.cells #[.int .i64 0, .bool false, .string ⟨#[]⟩] 30) = w2 at *
  obtain ⟨d0, d1, d2, d3⟩ := four b3
  have hne : (Value.slice a l.length cap).ownBlock ≠ some (w.heap.size + 1) := by
    intro e
    have := HO.out.lt _ e
    omega
  have hne6 : (Value.slice a l.length cap).ownBlock ≠ some w1.heap.size := by
    intro e
    have := HO.out.lt _ e
    omega
  obtain ⟨r0, r1, r2, s0, s1, s2⟩ := trio b6
  have hown3 := Lib.hid (owns_after HO.out hbw2)
  have hbw4 : w.grownBy (w2.setCell ⟨w1.heap.size, 1, none⟩ (.bool false)) (Value.slice a l.length cap).ownBlock := gb_setCell (gb_of_below hbw2 _) (.inr (by simp; omega)) _
  have b5' := (heap_setCell_other w2 ⟨w1.heap.size, 1, none⟩ (w.heap.size + 1) (.bool false) (by simp; omega)).trans b5
  have b6' : (w2.setCell ⟨w1.heap.size, 1, none⟩ (.bool false)).heap[w1.heap.size]? = some (.cells #[.int .i64 0, .bool false, .string ⟨#[]⟩] 30 (0, 0)) := heap_setCell_same w2 w1.heap.size 1 _ _ _ b6
  have hown4 := Lib.hid (owns_far hown3.out hne6 (.bool false) (j := 1))
  go_wp2_with fail
  generalize w2.setCell ⟨w1.heap.size, 1, none⟩ (.bool false) = w4 at *
  clear r0 r1 r2 s0 s1 s2
  obtain ⟨p0, p1, p2, q0, q1, q2⟩ := trio b5'
  obtain ⟨r0, r1, r2, s0, s1, s2⟩ := trio b6'
  go_region
  go_wp2
  (try simp only [Exit.inBlock, Exit.then])
  refine bodyPost_ret (v := .tuple #[.slice a l.length cap, rpV ⟨0, false, ⟨#[]⟩⟩]) ?hr rfl ⟨⟨_, rfl, ?_⟩, ?_⟩
  case hr =>
    simp only [results, Try.results28]
    go_simp
    try rfl
  · repeat (first | exact hown4.out | refine World.ownsRow.drew ?_ | refine owns_far ?_ hne _)
  · (repeat' (first | (with_reducible exact World.grownBy.refl _ _) | (with_reducible assumption) | (with_reducible refine gb_alloc ?_ _) | (with_reducible refine gb_drew ?_) | (with_reducible refine gb_drewN ?_ _) | (with_reducible refine gb_setCell ?_ ?_ _) | (with_reducible refine gb_below ?_ (by assumption)) | exact .inl rfl | exact .inr (by first | (simp; done) | (simp; omega) | omega)))

set_option maxRecDepth 100000 in
set_option maxHeartbeats 4000000 in
theorem swap_other_any (base : Nat) (a : Option Addr) (cap : Nat) (l : List Pr) (o : Opn) (w : World) (hown : w.ownsRow base 46 2 (.slice a l.length cap) l.length (prs l)) (hl : l.length ≤ 1000) (hso : Rises l) (u : Tx) (hlk : look l o.key = some u) (hou : u ≠ o.old) :
    Calls Try.prog 28 #[.slice a l.length cap, opV o] w fun e w' => StRes base l ⟨0, false, u⟩ e w' ∧ w.grownBy w' (Value.slice a l.length cap).ownBlock := by
  obtain ⟨kd, key, old, val⟩ := o
  unfold opV
  simp only at hlk ⊢
  have hb0 : Below w.heap.size w ((w.alloc (Obj.cells #[.int .u8 kd, .string key, .string old, .string val] 27)).alloc (Obj.cells #[.int .i64 0, .bool false, .string ⟨#[]⟩] 30)) := ((Below.refl _ _).alloc (Nat.le_refl _) _).alloc (by simp) _
  obtain ⟨a0, c0, hv0, hr, hcap, hmx⟩ := Row.of_owns hown
  injection hv0 with hv1 _ hv2
  subst hv1 hv2
  have hr0 := hr.below0 hb0
  have hw : wasR l key = ⟨0, true, u⟩ := by simp [wasR, hlk]
  have HO := Lib.hid hown
  clear hown
  have huo : (u.toList == old.toList) = false := by rw [tx_eq]; exact decide_eq_false hou
  have HU := Lib.hid hou
  clear hou
  go_enter Try.func28, Try.ntmps28
  refine wp_seq_k (fun K hK => ?_)
  have HK := Lib.hid hK
  clear hK
  go_wp2
  refine HK.out _ _ ?_
  clear HK
  refine wp_seq_k (fun K hK => ?_)
  have HK := Lib.hid hK
  clear hK
  go_wp2_with (go_at_call 30; refine (was_any _ _ _ _ _ hr0 (by omega) hso _ hw).mono ?_; rintro e w1 ⟨rfl, hb1⟩; unfold rpV)
  refine HK.out _ _ ?_
  clear HK
  have hbw1 := hb0.trans (hb1.mono (by simp; omega))
  have hb12 : Below w1.heap.size w1 (w1.alloc (Obj.cells #[.int .i64 0, .bool true, .string u] 30)) := (Below.refl _ _).alloc (Nat.le_refl _) _
  have hs1 := hb1.size
  simp at hs1
  have hbw2 := hbw1.trans (hb12.mono (by omega))
  have b3 := (hb12.block w.heap.size (by omega)).trans ((hb1.block w.heap.size (by simp; omega)).trans ((heap_alloc_old _ _ (by simp)).trans (heap_alloc_new w (Obj.cells #[.int .u8 kd, .string key, .string old, .string val] 27))))
  have b5 := (hb12.block (w.heap.size + 1) (by omega)).trans ((hb1.block (w.heap.size + 1) (by simp)).trans (heap_alloc2_new w _ (Obj.cells #[.int .i64 0, .bool false, .string ⟨#[]⟩] 30)))
  have b6 := heap_alloc_new w1 (Obj.cells #[.int .i64 0, .bool true, .string u] 30)
  have hs2 : w1.heap.size < (w1.alloc (Obj.cells #[.int .i64 0, .bool true, .string u] 30)).heap.size := by simp
  generalize w1.alloc (Obj.cells #[.int .i64 0, .bool true, .string u] 30) = w2 at *
  obtain ⟨d0, d1, d2, d3⟩ := four b3
  have hne : (Value.slice a l.length cap).ownBlock ≠ some (w.heap.size + 1) := by
    intro e
    have := HO.out.lt _ e
    omega
  have hne6 : (Value.slice a l.length cap).ownBlock ≠ some w1.heap.size := by
    intro e
    have := HO.out.lt _ e
    omega
  obtain ⟨r0, r1, r2, s0, s1, s2⟩ := trio b6
  have hown3 := Lib.hid (owns_after HO.out hbw2)
  have hbw4 : w.grownBy (w2.setCell ⟨w1.heap.size, 1, none⟩ (.bool false)) (Value.slice a l.length cap).ownBlock := gb_setCell (gb_of_below hbw2 _) (.inr (by simp; omega)) _
  have b5' := (heap_setCell_other w2 ⟨w1.heap.size, 1, none⟩ (w.heap.size + 1) (.bool false) (by simp; omega)).trans b5
  have b6' : (w2.setCell ⟨w1.heap.size, 1, none⟩ (.bool false)).heap[w1.heap.size]? = some (.cells #[.int .i64 0, .bool false, .string u] 30 (0, 0)) := heap_setCell_same w2 w1.heap.size 1 _ _ _ b6
  have hown4 := Lib.hid (owns_far hown3.out hne6 (.bool false) (j := 1))
  go_wp2_with fail
  generalize w2.setCell ⟨w1.heap.size, 1, none⟩ (.bool false) = w4 at *
  clear r0 r1 r2 s0 s1 s2
  obtain ⟨p0, p1, p2, q0, q1, q2⟩ := trio b5'
  obtain ⟨r0, r1, r2, s0, s1, s2⟩ := trio b6'
  go_region
  go_wp2
  (try simp only [Exit.inBlock, Exit.then])
  refine bodyPost_ret (v := .tuple #[.slice a l.length cap, rpV ⟨0, false, u⟩]) ?hr rfl ⟨⟨_, rfl, ?_⟩, ?_⟩
  case hr =>
    simp only [results, Try.results28]
    go_simp
    try rfl
  · repeat (first | exact hown4.out | refine World.ownsRow.drew ?_ | refine owns_far ?_ hne _)
  · (repeat' (first | (with_reducible exact World.grownBy.refl _ _) | (with_reducible assumption) | (with_reducible refine gb_alloc ?_ _) | (with_reducible refine gb_drew ?_) | (with_reducible refine gb_drewN ?_ _) | (with_reducible refine gb_setCell ?_ ?_ _) | (with_reducible refine gb_below ?_ (by assumption)) | exact .inl rfl | exact .inr (by first | (simp; done) | (simp; omega) | omega)))

set_option maxRecDepth 100000 in
set_option maxHeartbeats 4000000 in
theorem swap_yes_any (base : Nat) (a : Option Addr) (cap : Nat) (l : List Pr) (o : Opn) (w : World) (hown : w.ownsRow base 46 2 (.slice a l.length cap) l.length (prs l)) (hl : l.length ≤ 1000) (hso : Rises l) (hlk : look l o.key = some o.old) :
    Calls Try.prog 28 #[.slice a l.length cap, opV o] w fun e w' => StRes base (putL l o.key o.val) ⟨0, true, o.old⟩ e w' ∧ w.grownBy w' (Value.slice a l.length cap).ownBlock := by
  obtain ⟨kd, key, old, val⟩ := o
  unfold opV
  simp only at hlk ⊢
  have hb0 : Below w.heap.size w ((w.alloc (Obj.cells #[.int .u8 kd, .string key, .string old, .string val] 27)).alloc (Obj.cells #[.int .i64 0, .bool false, .string ⟨#[]⟩] 30)) := ((Below.refl _ _).alloc (Nat.le_refl _) _).alloc (by simp) _
  obtain ⟨a0, c0, hv0, hr, hcap, hmx⟩ := Row.of_owns hown
  injection hv0 with hv1 _ hv2
  subst hv1 hv2
  have hr0 := hr.below0 hb0
  have hw : wasR l key = ⟨0, true, old⟩ := by simp [wasR, hlk]
  have HO := Lib.hid hown
  clear hown
  have huo : (old.toList == old.toList) = true := by simp
  go_enter Try.func28, Try.ntmps28
  refine wp_seq_k (fun K hK => ?_)
  have HK := Lib.hid hK
  clear hK
  go_wp2
  refine HK.out _ _ ?_
  clear HK
  refine wp_seq_k (fun K hK => ?_)
  have HK := Lib.hid hK
  clear hK
  go_wp2_with (go_at_call 30; refine (was_any _ _ _ _ _ hr0 (by omega) hso _ hw).mono ?_; rintro e w1 ⟨rfl, hb1⟩; unfold rpV)
  refine HK.out _ _ ?_
  clear HK
  have hbw1 := hb0.trans (hb1.mono (by simp; omega))
  have hb12 : Below w1.heap.size w1 (w1.alloc (Obj.cells #[.int .i64 0, .bool true, .string old] 30)) := (Below.refl _ _).alloc (Nat.le_refl _) _
  have hs1 := hb1.size
  simp at hs1
  have hbw2 := hbw1.trans (hb12.mono (by omega))
  have b3 := (hb12.block w.heap.size (by omega)).trans ((hb1.block w.heap.size (by simp; omega)).trans ((heap_alloc_old _ _ (by simp)).trans (heap_alloc_new w (Obj.cells #[.int .u8 kd, .string key, .string old, .string val] 27))))
  have b5 := (hb12.block (w.heap.size + 1) (by omega)).trans ((hb1.block (w.heap.size + 1) (by simp)).trans (heap_alloc2_new w _ (Obj.cells #[.int .i64 0, .bool false, .string ⟨#[]⟩] 30)))
  have b6 := heap_alloc_new w1 (Obj.cells #[.int .i64 0, .bool true, .string old] 30)
  have hs2 : w1.heap.size < (w1.alloc (Obj.cells #[.int .i64 0, .bool true, .string old] 30)).heap.size := by simp
  generalize w1.alloc (Obj.cells #[.int .i64 0, .bool true, .string old] 30) = w2 at *
  obtain ⟨d0, d1, d2, d3⟩ := four b3
  have hne : (Value.slice a l.length cap).ownBlock ≠ some (w.heap.size + 1) := by
    intro e
    have := HO.out.lt _ e
    omega
  have hne6 : (Value.slice a l.length cap).ownBlock ≠ some w1.heap.size := by
    intro e
    have := HO.out.lt _ e
    omega
  have hown2 := owns_after HO.out hbw2
  have HP := Lib.hid (put_there_any base (.slice a l.length cap) l ⟨kd, key, old, val⟩ old w2 hown2 hl hso hlk)
  unfold opV at HP
  clear hown2
  obtain ⟨r0, r1, r2, s0, s1, s2⟩ := trio b6
  refine wp_seq_k (fun K hK => ?_)
  have HK := Lib.hid hK
  clear hK
  go_wp2
  refine HK.out _ _ ?_
  clear HK
  refine wp_seq_k (fun K hK => ?_)
  go_cut [0] (fun s wx => wx.ownsRow base 46 2 s (putL l key val).length (prs (putL l key val)) ∧ w2.grownBy wx (Value.slice a l.length cap).ownBlock)
  case first =>
    go_wp2_with (go_at_call 26; refine HP.out.mono ?_; rintro e w4 ⟨⟨v4, rfl, hown4⟩, hg4⟩; unfold rpV)
    go_meet
    exact ⟨hown4, hg4⟩
  obtain ⟨hown4, hg4⟩ := hcut
  refine hK _ _ ?_; clear hK
  have b5' := (hg4.block (w.heap.size + 1) (by omega) (fun e => hne e.symm)).trans b5
  have b6' := (hg4.block w1.heap.size (by omega) (fun e => hne6 e.symm)).trans b6
  have hbw4 : w.grownBy wc (Value.slice a l.length cap).ownBlock := gb_trans (gb_of_below hbw2 _) hg4 (fun k e => .inr e)
  have hne4 := own_ne hown4 b5' (by decide)
  have HO4 := Lib.hid hown4
  clear hown4 r0 r1 r2 s0 s1 s2
  obtain ⟨p0, p1, p2, q0, q1, q2⟩ := trio b5'
  obtain ⟨r0, r1, r2, s0, s1, s2⟩ := trio b6'
  go_wp2_with fail
  go_region
  go_wp2
  (try simp only [Exit.inBlock, Exit.then])
  refine bodyPost_ret (v := .tuple #[u0, rpV ⟨0, true, old⟩]) ?hr rfl ⟨⟨_, rfl, ?_⟩, ?_⟩
  case hr =>
    simp only [results, Try.results28]
    go_simp
    try rfl
  · repeat (first | exact HO4.out | refine World.ownsRow.drew ?_ | refine owns_far ?_ hne4 _)
  · (repeat' (first | (with_reducible exact World.grownBy.refl _ _) | (with_reducible assumption) | (with_reducible refine gb_alloc ?_ _) | (with_reducible refine gb_drew ?_) | (with_reducible refine gb_drewN ?_ _) | (with_reducible refine gb_setCell ?_ ?_ _) | (with_reducible refine gb_below ?_ (by assumption)) | exact .inl rfl | exact .inr (by first | (simp; done) | (simp; omega) | omega)))
end Go.Proofs.Ytiipelccmkidbaa
