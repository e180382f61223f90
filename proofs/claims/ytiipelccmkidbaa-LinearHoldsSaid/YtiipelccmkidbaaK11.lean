/- put. -/
import Derived.Test.YtiipelccmkidbaaK10
import Derived.Test.YtiipelccmkidbaaRows
import Derived.WalkKit
import Derived.WalkSpells
import Derived.WalkLawsBesides
import Derived.Handy
import Derived.Deep.QuietTactic
import Derived.BigQuiet
import Derived.Deep.DeepCutAuto
import Derived.Lib.Hide
import Derived.RegionTactic
import Derived.ChangeAlike
import Derived.Deep.RegionHeld3
import Derived.Laws.ResultCell
import Derived.Outline
namespace Go.Proofs.Ytiipelccmkidbaa
open Go.RowKit

def StRes (base : Nat) (l : List Pr) (r : Rp) (e : Ending) (w' : World) : Prop := ∃ v', e = .returned (.tuple #[v', rpV r]) ∧ w'.ownsRow base 46 2 v' l.length (prs l)

theorem owns_far {w : World} {base n size : Nat} {e : TypeId} {v : Value} {xs : List Value} (h : w.ownsRow base e size v n xs) {b j : Nat} (hne : v.ownBlock ≠ some b) (u : Value) : (w.setCell ⟨b, j, none⟩ u).ownsRow base e size v n xs :=
  h.kept (row := some b) ⟨rfl, rfl, rfl, by simp, fun k _ hk => heap_setCell_other w ⟨b, j, none⟩ k u (fun e => hk (by simp [e]))⟩ (.inr hne)

theorem prs_set {l : List Pr} {i : Nat} {k v u : Tx} (h : l[i]? = some (k, v)) : prs (l.set i (k, u)) = (prs l).set (i * 2 + 1) (.string u) := by
  induction l generalizing i with
  | nil => simp at h
  | cons p l ih =>
    cases i with
    | zero =>
      simp at h
      subst h
      rfl
    | succ i =>
      simp only [List.getElem?_cons_succ] at h
      have := ih h
      rw [show (i + 1) * 2 + 1 = i * 2 + 1 + 1 + 1 by omega]
      simp only [prs, List.set_cons_succ, List.flatMap_cons, List.cons_append, List.nil_append] at this ⊢
      rw [this]

set_option maxRecDepth 100000 in
set_option maxHeartbeats 2000000 in
theorem put_there_any (base : Nat) (v : Value) (l : List Pr) (o : Opn) (u : Tx) (w : World) (hown : w.ownsRow base 46 2 v l.length (prs l)) (hl : l.length ≤ 1000) (hso : Rises l) (hlk : look l o.key = some u) :
    Calls Try.prog 26 #[v, opV o] w fun e w' => StRes base (putL l o.key o.val) ⟨0, true, u⟩ e w' ∧ w.grownBy w' v.ownBlock := by
  obtain ⟨kd, key, old, val⟩ := o
  unfold opV
  simp only at hlk ⊢
  have hb0 : Below w.heap.size w ((w.alloc (Obj.cells #[.int .u8 kd, .string key, .string old, .string val] 27)).alloc (Obj.cells #[.int .i64 0, .bool false, .string ⟨#[]⟩] 30)) := ((Below.refl _ _).alloc (Nat.le_refl _) _).alloc (by simp) _
  have hat := at_yes hso hlk
  have hlo := (List.getElem?_eq_some_iff.1 hat).1
  obtain ⟨g, cap, rfl, _⟩ := owns_some hown (by omega)
  obtain ⟨a0, c0, hv0, hr, hcap, hmx⟩ := Row.of_owns hown
  injection hv0 with hv1 _ hv2
  subst hv1 hv2
  have hr0 := hr.below0 hb0
  have hh : hasK l key = true := by simp [hasK, hlk]
  have hw : wasR l key = ⟨0, true, u⟩ := by simp [wasR, hlk]
  have hset := prs_set (u := val) hat
  rw [put_there hso hlk] at hset
  have hlen : (putL l key val).length = l.length := by rw [← put_there hso hlk, List.length_set]
  have HH := Lib.hid hh
  have HS := Lib.hid hset
  have HL := Lib.hid hlen
  clear hh hset hat hlen
  go_enter Try.func26, Try.ntmps26
  refine wp_seq_k (fun K hK => ?_)
  have HK := Lib.hid hK
  clear hK
  go_wp2
  refine HK.out _ _ ?_
  clear HK
  refine wp_seq_k (fun K hK => ?_)
  have HK := Lib.hid hK
  clear hK
  go_wp2_with (go_at_call 31; refine (find_any _ _ _ _ _ hr0 (by omega) hso).mono ?_; rintro e w1 ⟨rfl, hb1⟩; rw [HH.out])
  refine HK.out _ _ ?_
  clear HK
  have hbw1 := hb0.trans (hb1.mono (by simp; omega))
  obtain ⟨d0, d1, d2, d3⟩ := four ((hb1.block w.heap.size (by simp; omega)).trans ((heap_alloc_old _ _ (by simp)).trans (heap_alloc_new _ _)))
  have hr1 := hr.below0 hbw1
  refine wp_seq_k (fun K hK => ?_)
  have HK := Lib.hid hK
  clear hK
  go_wp2_with (go_at_call 30; refine (was_any _ _ _ _ _ hr1 (by omega) hso _ hw).mono ?_; rintro e w2 ⟨rfl, hb2⟩; unfold rpV)
  refine HK.out _ _ ?_
  clear HK
  have hs1 := hb1.size
  simp at hs1
  have hs2 := hb2.size
  have hbw2 := hbw1.trans (hb2.mono (by omega))
  have hgs : g < w.heap.size := by
    have := hown.lt g rfl
    omega
  have hb23 : Below w2.heap.size w2 (w2.alloc (Obj.cells #[.int .i64 0, .bool true, .string u] 30)) := (Below.refl _ _).alloc (Nat.le_refl _) _
  have hbw3 := hbw2.trans (hb23.mono (by omega))
  have b3 := (hb23.block w.heap.size (by omega)).trans ((hb2.block w.heap.size (by omega)).trans ((hb1.block w.heap.size (by simp; omega)).trans ((heap_alloc_old _ _ (by simp)).trans (heap_alloc_new w (Obj.cells #[.int .u8 kd, .string key, .string old, .string val] 27)))))
  have b5 := (hb23.block (w.heap.size + 1) (by omega)).trans ((hb2.block (w.heap.size + 1) (by omega)).trans ((hb1.block (w.heap.size + 1) (by simp)).trans (heap_alloc2_new w _ (Obj.cells #[.int .i64 0, .bool false, .string ⟨#[]⟩] 30))))
  have b8 := heap_alloc_new w2 (Obj.cells #[.int .i64 0, .bool true, .string u] 30)
  have hown3 := owns_after hown hbw3
  have hs3 := hbw3.size
  clear d0 d1 d2 d3
  generalize w2.alloc (Obj.cells #[.int .i64 0, .bool true, .string u] 30) = w3 at *
  obtain ⟨d0, d1, d2, d3⟩ := four b3
  have ex : w3.cell? ⟨g, (lo l key).length * 2 + 1, none⟩ = some (.string u) := by
    rw [hown3.cellAt _ (by omega)]
    exact (prs_at (at_yes hso hlk)).2
  have fx : w3.frozen? ⟨g, (lo l key).length * 2 + 1, none⟩ = false := hown3.frozenAt _
  obtain ⟨hown4, hg4⟩ := hown3.stored ((lo l key).length * 2 + 1) (.string val)
  rw [← HS.out] at hown4
  have b5' := (heap_setCell_other w3 ⟨g, (lo l key).length * 2 + 1, none⟩ (w.heap.size + 1) (.string val) (by simp; omega)).trans b5
  have b8' := (heap_setCell_other w3 ⟨g, (lo l key).length * 2 + 1, none⟩ w2.heap.size (.string val) (by simp; omega)).trans b8
  have hbw4 : w.grownBy (w3.setCell ⟨g, (lo l key).length * 2 + 1, none⟩ (.string val)) (some g) := gb_setCell (gb_of_below hbw3 _) (.inl rfl) _
  have HL4 := Lib.hid hown4
  clear hown4 hown3 hlk hw
  go_wp2_with fail
  generalize w3.setCell ⟨g, (lo l key).length * 2 + 1, none⟩ (.string val) = w4 at *
  obtain ⟨p0, p1, p2, q0, q1, q2⟩ := trio b5'
  obtain ⟨r0, r1, r2, s0, s1, s2⟩ := trio b8'
  go_region
  go_wp2
  (try simp only [Exit.inBlock, Exit.then])
  refine bodyPost_ret (v := .tuple #[.slice (some ⟨g, 0, none⟩) l.length cap, rpV ⟨0, true, u⟩]) ?hr rfl ⟨⟨_, rfl, ?_⟩, ?_⟩
  case hr =>
    simp only [results, Try.results26]
    go_simp
    try rfl
  · rw [HL.out]
    repeat (first | exact HL4.out | refine World.ownsRow.drew ?_ | refine owns_far ?_ (by simp [Value.ownBlock]; omega) _)
  · show World.grownBy w _ (some g)
    (repeat' (first | (with_reducible exact World.grownBy.refl _ _) | (with_reducible assumption) | (with_reducible refine gb_alloc ?_ _) | (with_reducible refine gb_drew ?_) | (with_reducible refine gb_drewN ?_ _) | (with_reducible refine gb_setCell ?_ ?_ _) | (with_reducible refine gb_below ?_ (by assumption)) | exact .inl rfl | exact .inr (by first | (simp; done) | (simp; omega) | omega)))
end Go.Proofs.Ytiipelccmkidbaa
