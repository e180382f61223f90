/- delete, swap. -/
import Derived.Test.YtiipelccmkidbaaK12
import Derived.Test.YtiipelccmkidbaaRows
import Derived.WalkKit
import Derived.WalkSpells
import Derived.WalkLawsBesides
import Derived.Handy
import Derived.Deep.QuietTactic
import Derived.BigQuiet
import Derived.Deep.DeepCutAuto
import Derived.Lib.Hide
import Derived.RegionTactic
import Derived.ChangeAlike
import Derived.Laws.ResultCell
import Derived.Outline
namespace Go.Proofs.Ytiipelccmkidbaa
open Go.RowKit

theorem prs_del {l : List Pr} {i : Nat} (hi : i < l.length) : (prs l).take (i * 2) ++ (prs l).drop ((i + 1) * 2) = prs (l.take i ++ l.drop (i + 1)) := by
  have e : prs l = prs (l.take i) ++ prs (l.drop i) := by rw [← prs_app, List.take_append_drop]
  have e2 : prs l = prs (l.take (i + 1)) ++ prs (l.drop (i + 1)) := by rw [← prs_app, List.take_append_drop]
  have l1 : i * 2 = (prs (l.take i)).length := by rw [prs_len, List.length_take]; omega
  have l2 : (i + 1) * 2 = (prs (l.take (i + 1))).length := by rw [prs_len, List.length_take]; omega
  have f1 : (prs l).take (i * 2) = prs (l.take i) := by rw [l1, e, List.take_left]
  have f2 : (prs l).drop ((i + 1) * 2) = prs (l.drop (i + 1)) := by rw [l2, e2, List.drop_left]
  rw [f1, f2, prs_app]

set_option maxRecDepth 100000 in
set_option maxHeartbeats 4000000 in
theorem delete_none_any (base : Nat) (a : Option Addr) (cap : Nat) (l : List Pr) (o : Opn) (w : World) (hown : w.ownsRow base 46 2 (.slice a l.length cap) l.length (prs l)) (hl : l.length ≤ 1000) (hso : Rises l) (hlk : look l o.key = none) :
    Calls Try.prog 27 #[.slice a l.length cap, opV o] w fun e w' => StRes base l ⟨0, false, ⟨#[]⟩⟩ e w' ∧ w.grownBy w' (Value.slice a l.length cap).ownBlock := by
  obtain ⟨kd, key, old, val⟩ := o
  unfold opV
  simp only at hlk ⊢
  have hb0 : Below w.heap.size w ((w.alloc (Obj.cells #[.int .u8 kd, .string key, .string old, .string val] 27)).alloc (Obj.cells #[.int .i64 0, .bool false, .string ⟨#[]⟩] 30)) := ((Below.refl _ _).alloc (Nat.le_refl _) _).alloc (by simp) _
  obtain ⟨a0, c0, hv0, hr, hcap, hmx⟩ := Row.of_owns hown
  injection hv0 with hv1 _ hv2
  subst hv1 hv2
  have hr0 := hr.below0 hb0
  have hh : hasK l key = false := by simp [hasK, hlk]
  have hw : wasR l key = ⟨0, false, ⟨#[]⟩⟩ := by simp [wasR, hlk]
  have HH := Lib.hid hh
  have HO := Lib.hid hown
  clear hh hown
  go_enter Try.func27, Try.ntmps27
  refine wp_seq_k (fun K hK => ?_)
  have HK := Lib.hid hK
  clear hK
  go_wp2
  refine HK.out _ _ ?_
  clear HK
  refine wp_seq_k (fun K hK => ?_)
  have HK := Lib.hid hK
  clear hK
  go_wp2_with (go_at_call 30; refine (was_any _ _ _ _ _ hr0 (by omega) hso _ hw).mono ?_; rintro e w1 ⟨rfl, hb1⟩; unfold rpV)
  refine HK.out _ _ ?_
  clear HK
  have hbw1 := hb0.trans (hb1.mono (by simp; omega))
  have hb12 : Below w1.heap.size w1 (w1.alloc (Obj.cells #[.int .i64 0, .bool false, .string ⟨#[]⟩] 30)) := (Below.refl _ _).alloc (Nat.le_refl _) _
  have hs1 := hb1.size
  simp at hs1
  have hbw2 := hbw1.trans (hb12.mono (by omega))
  have b3 := (hb12.block w.heap.size (by omega)).trans ((hb1.block w.heap.size (by simp; omega)).trans ((heap_alloc_old _ _ (by simp)).trans (heap_alloc_new w (Obj.cells #[.int .u8 kd, .string key, .string old, .string val] 27))))
  have b5 := (hb12.block (w.heap.size + 1) (by omega)).trans ((hb1.block (w.heap.size + 1) (by simp)).trans (heap_alloc2_new w _ (Obj.cells #[.int .i64 0, .bool false, .string ⟨#[]⟩] 30)))
  have b6 := heap_alloc_new w1 (Obj.cells #[.int .i64 0, .bool false, .string ⟨#[]⟩] 30)
  have hs2 : w1.heap.size < (w1.alloc (Obj.cells #[.int .i64 0, .bool false, .string ⟨#[]⟩] 30)).heap.size := by simp
  generalize w1.alloc (Obj.cells #[.int .i64 0, .bool false, .string ⟨#[]⟩] 30) = w2 at *
  obtain ⟨d0, d1, d2, d3⟩ := four b3
  have hr2 := hr.below0 hbw2
  refine wp_seq_k (fun K hK => ?_)
  go_cut [0] (fun s wx => s = .slice a l.length cap ∧ Below w2.heap.size w2 wx)
  case first =>
    go_wp2_with (go_at_call 31; refine (find_any _ _ _ _ _ hr2 (by omega) hso).mono ?_; rintro e w3 ⟨rfl, hb3⟩; rw [HH.out])
    go_meet
    exact ⟨rfl, hb3⟩
  obtain ⟨rfl, hb3⟩ := hcut
  refine hK _ _ ?_; clear hK
  have b5' := (hb3.block (w.heap.size + 1) (by omega)).trans b5
  have b6' := (hb3.block w1.heap.size (by omega)).trans b6
  have hbw3 := hbw2.trans (hb3.mono (by omega))
  have hown3 := Lib.hid (owns_after HO.out hbw3)
  have hbw4 : w.grownBy wc (Value.slice a l.length cap).ownBlock := gb_of_below hbw3 _
  have hne : (Value.slice a l.length cap).ownBlock ≠ some (w.heap.size + 1) := by
    intro e
    have := HO.out.lt _ e
    omega
  obtain ⟨p0, p1, p2, q0, q1, q2⟩ := trio b5'
  obtain ⟨r0, r1, r2, s0, s1, s2⟩ := trio b6'
  go_wp2_with fail
  go_region
  go_wp2
  (try simp only [Exit.inBlock, Exit.then])
  refine bodyPost_ret (v := .tuple #[.slice a l.length cap, rpV ⟨0, false, ⟨#[]⟩⟩]) ?hr rfl ⟨⟨_, rfl, ?_⟩, ?_⟩
  case hr =>
    simp only [results, Try.results27]
    go_simp
    try rfl
  · repeat (first | exact hown3.out | refine World.ownsRow.drew ?_ | refine owns_far ?_ hne _)
  · (repeat' (first | (with_reducible exact World.grownBy.refl _ _) | (with_reducible assumption) | (with_reducible refine gb_alloc ?_ _) | (with_reducible refine gb_drew ?_) | (with_reducible refine gb_drewN ?_ _) | (with_reducible refine gb_setCell ?_ ?_ _) | (with_reducible refine gb_below ?_ (by assumption)) | exact .inl rfl | exact .inr (by first | (simp; done) | (simp; omega) | omega)))
set_option maxRecDepth 100000 in
set_option maxHeartbeats 4000000 in
theorem delete_there_any (base : Nat) (a : Option Addr) (cap : Nat) (l : List Pr) (o : Opn) (w : World) (hown : w.ownsRow base 46 2 (.slice a l.length cap) l.length (prs l)) (hbase : base ≤ w.heap.size) (hl : l.length ≤ 1000) (hso : Rises l) (u : Tx) (hlk : look l o.key = some u) :
    Calls Try.prog 27 #[.slice a l.length cap, opV o] w fun e w' => StRes base (delL l o.key) ⟨0, true, u⟩ e w' ∧ w.grownBy w' (Value.slice a l.length cap).ownBlock := by
  obtain ⟨kd, key, old, val⟩ := o
  unfold opV
  simp only at hlk ⊢
  have hb0 : Below w.heap.size w ((w.alloc (Obj.cells #[.int .u8 kd, .string key, .string old, .string val] 27)).alloc (Obj.cells #[.int .i64 0, .bool false, .string ⟨#[]⟩] 30)) := ((Below.refl _ _).alloc (Nat.le_refl _) _).alloc (by simp) _
  obtain ⟨a0, c0, hv0, hr, hcap, hmx⟩ := Row.of_owns hown
  injection hv0 with hv1 _ hv2
  subst hv1 hv2
  have hr0 := hr.below0 hb0
  have hh : hasK l key = true := by simp [hasK, hlk]
  have hw : wasR l key = ⟨0, true, u⟩ := by simp [wasR, hlk]
  have HH := Lib.hid hh
  have HO := Lib.hid hown
  clear hh hown
  go_enter Try.func27, Try.ntmps27
  refine wp_seq_k (fun K hK => ?_)
  have HK := Lib.hid hK
  clear hK
  go_wp2
  refine HK.out _ _ ?_
  clear HK
  refine wp_seq_k (fun K hK => ?_)
  have HK := Lib.hid hK
  clear hK
  go_wp2_with (go_at_call 30; refine (was_any _ _ _ _ _ hr0 (by omega) hso _ hw).mono ?_; rintro e w1 ⟨rfl, hb1⟩; unfold rpV)
  refine HK.out _ _ ?_
  clear HK
  have hbw1 := hb0.trans (hb1.mono (by simp; omega))
  have hb12 : Below w1.heap.size w1 (w1.alloc (Obj.cells #[.int .i64 0, .bool true, .string u] 30)) := (Below.refl _ _).alloc (Nat.le_refl _) _
  have hs1 := hb1.size
  simp at hs1
  have hbw2 := hbw1.trans (hb12.mono (by omega))
  have b3 := (hb12.block w.heap.size (by omega)).trans ((hb1.block w.heap.size (by simp; omega)).trans ((heap_alloc_old _ _ (by simp)).trans (heap_alloc_new w (Obj.cells #[.int .u8 kd, .string key, .string old, .string val] 27))))
  have b5 := (hb12.block (w.heap.size + 1) (by omega)).trans ((hb1.block (w.heap.size + 1) (by simp)).trans (heap_alloc2_new w _ (Obj.cells #[.int .i64 0, .bool false, .string ⟨#[]⟩] 30)))
  have b6 := heap_alloc_new w1 (Obj.cells #[.int .i64 0, .bool true, .string u] 30)
  have hs2 : w1.heap.size < (w1.alloc (Obj.cells #[.int .i64 0, .bool true, .string u] 30)).heap.size := by simp
  generalize w1.alloc (Obj.cells #[.int .i64 0, .bool true, .string u] 30) = w2 at *
  obtain ⟨d0, d1, d2, d3⟩ := four b3
  have hr2 := hr.below0 hbw2
  have hlo := (List.getElem?_eq_some_iff.1 (at_yes hso hlk)).1
  have hdel := del_there hso hlk
  have hprs := prs_del hlo
  rw [hdel] at hprs
  have hlen : (delL l key).length = l.length - 1 := by
    rw [← hdel, List.length_append, List.length_take, List.length_drop]
    omega
  have HP := Lib.hid hprs
  have HL := Lib.hid hlen
  have hlm : l.length ≤ 1000000 := by omega
  clear hdel hprs hlen hlk hw
  refine wp_seq_k (fun K hK => ?_)
  go_cut [0] (fun s wx => ∃ wy, Below w2.heap.size w2 wy ∧ wx.ownsRow base 46 2 s (l.length - 1) (prs (delL l key)) ∧ wy.grownBy wx (Value.slice a l.length cap).ownBlock)
  case first =>
    go_wp2_with (first
      | (go_at_call 31; refine (find_any _ _ _ _ _ hr2 (by omega) hso).mono ?_; rintro e w3 ⟨rfl, hb3⟩; rw [HH.out])
      | (go_at_call 33; refine (delete_own base l.length (lo l key).length (.slice a l.length cap) (prs l) _ (owns_after HO.out (hbw2.trans (hb3.mono (by omega)))) prs_one hlm hlo ?_).mono ?_; exact Nat.le_trans hbase (Nat.le_trans (hbw2.trans (hb3.mono (by omega))).size (Nat.le_refl _)); rintro e w4 ⟨⟨v4, rfl, hown4⟩, hg4⟩))
    go_meet
    rw [HP.out] at hown4
    exact ⟨w3, hb3, hown4, hg4⟩
  obtain ⟨wy, hb3, hown4, hg4⟩ := hcut
  refine hK _ _ ?_; clear hK
  have hne : (Value.slice a l.length cap).ownBlock ≠ some (w.heap.size + 1) := by
    intro e
    have := HO.out.lt _ e
    omega
  have hne6 : (Value.slice a l.length cap).ownBlock ≠ some w1.heap.size := by
    intro e
    have := HO.out.lt _ e
    omega
  have hs3 := hb3.size
  have b5' := (hg4.block (w.heap.size + 1) (by omega) (fun e => hne e.symm)).trans ((hb3.block (w.heap.size + 1) (by omega)).trans b5)
  have b6' := (hg4.block w1.heap.size (by omega) (fun e => hne6 e.symm)).trans ((hb3.block w1.heap.size (by omega)).trans b6)
  have hbw3 := hbw2.trans (hb3.mono (by omega))
  have hbw4 : w.grownBy wc (Value.slice a l.length cap).ownBlock := gb_trans (gb_of_below hbw3 _) hg4 (fun k e => .inr e)
  have hne4 := own_ne hown4 b5' (by decide)
  have HO4 := Lib.hid hown4
  clear hown4
  obtain ⟨p0, p1, p2, q0, q1, q2⟩ := trio b5'
  obtain ⟨r0, r1, r2, s0, s1, s2⟩ := trio b6'
  go_wp2_with fail
  go_region
  go_wp2
  (try simp only [Exit.inBlock, Exit.then])
  refine bodyPost_ret (v := .tuple #[u0, rpV ⟨0, true, u⟩]) ?hr rfl ⟨⟨_, rfl, ?_⟩, ?_⟩
  case hr =>
    simp only [results, Try.results27]
    go_simp
    try rfl
  · rw [HL.out]
    repeat (first | exact HO4.out | refine World.ownsRow.drew ?_ | refine owns_far ?_ hne4 _)
  · (repeat' (first | (with_reducible exact World.grownBy.refl _ _) | (with_reducible assumption) | (with_reducible refine gb_alloc ?_ _) | (with_reducible refine gb_drew ?_) | (with_reducible refine gb_drewN ?_ _) | (with_reducible refine gb_setCell ?_ ?_ _) | (with_reducible refine gb_below ?_ (by assumption)) | exact .inl rfl | exact .inr (by first | (simp; done) | (simp; omega) | omega)))
end Go.Proofs.Ytiipelccmkidbaa
