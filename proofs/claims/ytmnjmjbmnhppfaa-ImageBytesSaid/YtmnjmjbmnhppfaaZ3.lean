/- Texts that the claim leans on, part 3: K12, K13, K14, K15, I3, I4. -/
import Derived.Test.YtmnjmjbmnhppfaaZ1
import Derived.Test.YtmnjmjbmnhppfaaZ2
import Derived.Test.YtmnjmjbmnhppfaaRows
import Derived.WalkKit
import Derived.WalkSpells
import Derived.WalkLawsBesides
import Derived.Handy
import Derived.Deep.QuietTactic
import Derived.BigQuiet
import Derived.Deep.DeepCutAuto
import Derived.Lib.Hide
import Derived.RegionTactic
import Derived.ChangeAlike
import Derived.Deep.RegionHeld3
import Derived.Laws.ResultCell
import Derived.Outline
import Derived.Laws.EntriesVeiled
import Derived.Lib.Overlaps
import Derived.StillTailTactics
import Derived.Deep.RegionWith
import Derived.ProofKit
import Derived.OpenShut
import Derived.Laws.Strings
import Derived.Laws.CopyOwn
import Derived.Laws.CopyRow
import Derived.Laws.NewBlocks
import Derived.Deep.RegionLaw
namespace Go.Proofs.Ytmnjmjbmnhppfaa
open Go.RowKit

theorem gb_keep {x y : World} {r : Option Nat} (hg : x.grownBy y r) {p : Addr} {v : Value} (hc : x.cell? p = some v) (hne : r ≠ some p.block) : y.cell? p = some v := hg.cell hc (fun e => hne e.symm)
theorem gb_keepf {x y : World} {r : Option Nat} (hg : x.grownBy y r) {p : Addr} {v : Value} (hc : x.cell? p = some v) (hf : x.frozen? p = false) (hne : r ≠ some p.block) : y.frozen? p = false := by
  rw [World.frozen?_of_block (hg.block p.block (World.block_lt_of_cell? x p hc) (fun e => hne e.symm))]
  exact hf
theorem al_keepf {x : World} {p : Addr} {v : Value} {o : Obj} (hc : x.cell? p = some v) (hf : x.frozen? p = false) : (x.alloc o).frozen? p = false := gb_keepf (World.grownBy_alloc x o none) hc hf (by simp)
theorem al_keep {x : World} {p : Addr} {v : Value} {o : Obj} (hc : x.cell? p = some v) : (x.alloc o).cell? p = some v := gb_keep (World.grownBy_alloc x o none) hc (by simp)
theorem al_keepd {x : World} {p : Addr} {v : Value} {o : Obj} (hc : x.cell? p = some v) : (x.alloc o).drew.cell? p = some v := al_keep hc
theorem al_keepfd {x : World} {p : Addr} {v : Value} {o : Obj} (hc : x.cell? p = some v) (hf : x.frozen? p = false) : (x.alloc o).drew.frozen? p = false := al_keepf hc hf

theorem own_ne {w : World} {base n size g : Nat} {e t : TypeId} {v : Value} {xs : List Value} {cs : Array Value} (h : w.ownsRow base e size v n xs) (hg : w.heap[g]? = some (.cells cs t (0, 0))) (hne : e ≠ t) : v.ownBlock ≠ some g := by
  rcases h.2 with ⟨rfl, _⟩ | ⟨g', cap, cur, rfl, _, hh, _⟩
  · simp [Value.ownBlock]
  · intro he
    have : g' = g := by simpa [Value.ownBlock] using he
    subst this
    rw [hg] at hh
    injection hh with hh
    injection hh with _ ht
    exact hne ht.symm

set_option maxRecDepth 100000 in
set_option maxHeartbeats 2000000 in
theorem put_full_any (base : Nat) (a : Option Addr) (cap : Nat) (l : List Pr) (o : Opn) (w : World) (hown : w.ownsRow base 74 2 (.slice a l.length cap) l.length (prs l)) (hl : l.length = 8) (hso : Rises l) (hlk : look l o.key = none) :
    Calls Try.prog 99 #[.slice a l.length cap, opV o] w fun e w' => StRes base l ⟨211, false, ⟨#[]⟩⟩ e w' ∧ w.grownBy w' (Value.slice a l.length cap).ownBlock := by
  obtain ⟨kd, key, old, val⟩ := o
  unfold opV
  simp only at hlk ⊢
  have hb0 : Below w.heap.size w ((w.alloc (Obj.cells #[.int .u8 kd, .string key, .string old, .string val] 61)).alloc (Obj.cells #[.int .i64 0, .bool false, .string ⟨#[]⟩] 43)) := ((Below.refl _ _).alloc (Nat.le_refl _) _).alloc (by simp) _
  obtain ⟨a0, c0, hv0, hr, hcap, hmx⟩ := Row.of_owns hown
  injection hv0 with hv1 _ hv2
  subst hv1 hv2
  have hr0 := hr.below0 hb0
  have hh : hasK l key = false := by simp [hasK, hlk]
  have hw : wasR l key = ⟨0, false, ⟨#[]⟩⟩ := by simp [wasR, hlk]
  have h8 : ((l.length : Int) == 8) = true := by rw [hl]; rfl
  have HH := Lib.hid hh
  have HL := Lib.hid hl
  have hl2 : l.length ≤ 8 := by omega
  have HO := Lib.hid hown
  clear hh hl hown
  go_enter Try.func99, Try.ntmps99
  refine wp_seq_k (fun K hK => ?_)
  have HK := Lib.hid hK
  clear hK
  go_wp2
  refine HK.out _ _ ?_
  clear HK
  refine wp_seq_k (fun K hK => ?_)
  have HK := Lib.hid hK
  clear hK
  go_wp2_with (go_at_call 109; refine (find_any _ _ _ _ _ hr0 (by omega) hso).mono ?_; rintro e w1 ⟨rfl, hb1⟩; rw [HH.out])
  refine HK.out _ _ ?_
  clear HK
  have hbw1 := hb0.trans (hb1.mono (by simp; omega))
  obtain ⟨d0, d1, d2, d3⟩ := four ((hb1.block w.heap.size (by simp; omega)).trans ((heap_alloc_old _ _ (by simp)).trans (heap_alloc_new _ _)))
  have hr1 := hr.below0 hbw1
  refine wp_seq_k (fun K hK => ?_)
  have HK := Lib.hid hK
  clear hK
  go_wp2_with (go_at_call 108; refine (was_any _ _ _ _ _ hr1 (by omega) hso _ hw).mono ?_; rintro e w2 ⟨rfl, hb2⟩; unfold rpV)
  refine HK.out _ _ ?_
  clear HK
  have hs1 := hb1.size
  simp at hs1
  have hs2 := hb2.size
  have hbw2 := hbw1.trans (hb2.mono (by omega))
  have hb23 : Below w2.heap.size w2 (w2.alloc (Obj.cells #[.int .i64 0, .bool false, .string ⟨#[]⟩] 43)) := (Below.refl _ _).alloc (Nat.le_refl _) _
  have hbw3 := hbw2.trans (hb23.mono (by omega))
  have b5 := (hb23.block (w.heap.size + 1) (by omega)).trans ((hb2.block (w.heap.size + 1) (by omega)).trans ((hb1.block (w.heap.size + 1) (by simp)).trans (heap_alloc2_new w _ (Obj.cells #[.int .i64 0, .bool false, .string ⟨#[]⟩] 43))))
  have hown3 := Lib.hid (owns_after HO.out hbw3)
  have hs3 := hbw3.size
  clear d0 d1 d2 d3
  generalize w2.alloc (Obj.cells #[.int .i64 0, .bool false, .string ⟨#[]⟩] 43) = w3 at *
  obtain ⟨p0, p1, p2, q0, q1, q2⟩ := trio b5
  have hbw4 : w.grownBy w3 (Value.slice a l.length cap).ownBlock := gb_of_below hbw3 _
  have hne : (Value.slice a l.length cap).ownBlock ≠ some (w.heap.size + 1) := by
    intro e
    have := HO.out.lt _ e
    omega
  go_wp2
  (try simp only [Exit.inBlock, Exit.then])
  refine bodyPost_ret (v := .tuple #[.slice a l.length cap, rpV ⟨211, false, ⟨#[]⟩⟩]) ?hr rfl ⟨⟨_, rfl, ?_⟩, ?_⟩
  case hr =>
    simp only [results, Try.results99]
    go_simp
    try rfl
  · repeat (first | exact hown3.out | refine World.ownsRow.drew ?_ | refine owns_far ?_ hne _)
  · (repeat' (first | (with_reducible exact World.grownBy.refl _ _) | (with_reducible assumption) | (with_reducible refine gb_alloc ?_ _) | (with_reducible refine gb_drew ?_) | (with_reducible refine gb_drewN ?_ _) | (with_reducible refine gb_setCell ?_ ?_ _) | (with_reducible refine gb_below ?_ (by assumption)) | exact .inl rfl | exact .inr (by first | (simp; done) | (simp; omega) | omega)))

set_option maxRecDepth 100000 in
set_option maxHeartbeats 4000000 in
theorem put_new_any (base : Nat) (a : Option Addr) (cap : Nat) (l : List Pr) (o : Opn) (w : World) (hown : w.ownsRow base 74 2 (.slice a l.length cap) l.length (prs l)) (hbase : base ≤ w.heap.size) (hl : l.length ≤ 1000) (hl8 : l.length ≠ 8) (hso : Rises l) (hlk : look l o.key = none) :
    Calls Try.prog 99 #[.slice a l.length cap, opV o] w fun e w' => StRes base (putL l o.key o.val) ⟨0, false, ⟨#[]⟩⟩ e w' ∧ w.grownBy w' (Value.slice a l.length cap).ownBlock := by
  obtain ⟨kd, key, old, val⟩ := o
  unfold opV
  simp only at hlk ⊢
  have hb0 : Below w.heap.size w ((w.alloc (Obj.cells #[.int .u8 kd, .string key, .string old, .string val] 61)).alloc (Obj.cells #[.int .i64 0, .bool false, .string ⟨#[]⟩] 43)) := ((Below.refl _ _).alloc (Nat.le_refl _) _).alloc (by simp) _
  obtain ⟨a0, c0, hv0, hr, hcap, hmx⟩ := Row.of_owns hown
  injection hv0 with hv1 _ hv2
  subst hv1 hv2
  have hr0 := hr.below0 hb0
  have hh : hasK l key = false := by simp [hasK, hlk]
  have hw : wasR l key = ⟨0, false, ⟨#[]⟩⟩ := by simp [wasR, hlk]
  have h8 : ((l.length : Int) == 8) = false := by rw [beq_eq_false_iff_ne]; omega
  have hlo := lo_le l key
  have hput := put_new (w := val) hso hlk
  have hprs : (prs l).take ((lo l key).length * 2) ++ .string key :: .string val :: (prs l).drop ((lo l key).length * 2) = prs (putL l key val) := by
    rw [← hput]
    have e : prs l = prs (l.take (lo l key).length) ++ prs (l.drop (lo l key).length) := by rw [← prs_app, List.take_append_drop]
    have e2 : (lo l key).length * 2 = (prs (l.take (lo l key).length)).length := by rw [prs_len, List.length_take]; omega
    rw [e2, e, List.take_left, List.drop_left, prs_app]
    rfl
  have hlen : (putL l key val).length = l.length + 1 := by rw [len_put hso, if_pos hlk]
  have HP := Lib.hid hprs
  have HL := Lib.hid hlen
  have HH := Lib.hid hh
  have HO := Lib.hid hown
  clear hh hown hput hprs hlen
  go_enter Try.func99, Try.ntmps99
  refine wp_seq_k (fun K hK => ?_)
  have HK := Lib.hid hK
  clear hK
  go_wp2
  refine HK.out _ _ ?_
  clear HK
  refine wp_seq_k (fun K hK => ?_)
  have HK := Lib.hid hK
  clear hK
  go_wp2_with (go_at_call 109; refine (find_any _ _ _ _ _ hr0 (by omega) hso).mono ?_; rintro e w1 ⟨rfl, hb1⟩; rw [HH.out])
  refine HK.out _ _ ?_
  clear HK
  have hbw1 := hb0.trans (hb1.mono (by simp; omega))
  obtain ⟨d0, d1, d2, d3⟩ := four ((hb1.block w.heap.size (by simp; omega)).trans ((heap_alloc_old _ _ (by simp)).trans (heap_alloc_new _ _)))
  have hr1 := hr.below0 hbw1
  refine wp_seq_k (fun K hK => ?_)
  have HK := Lib.hid hK
  clear hK
  go_wp2_with (go_at_call 108; refine (was_any _ _ _ _ _ hr1 (by omega) hso _ hw).mono ?_; rintro e w2 ⟨rfl, hb2⟩; unfold rpV)
  refine HK.out _ _ ?_
  clear HK
  have hs1 := hb1.size
  simp at hs1
  have hs2 := hb2.size
  have hbw2 := hbw1.trans (hb2.mono (by omega))
  have hb23 : Below w2.heap.size w2 (w2.alloc (Obj.cells #[.int .i64 0, .bool false, .string ⟨#[]⟩] 43)) := (Below.refl _ _).alloc (Nat.le_refl _) _
  have hbw3 := hbw2.trans (hb23.mono (by omega))
  have b3 := (hb23.block w.heap.size (by omega)).trans ((hb2.block w.heap.size (by omega)).trans ((hb1.block w.heap.size (by simp; omega)).trans ((heap_alloc_old _ _ (by simp)).trans (heap_alloc_new w (Obj.cells #[.int .u8 kd, .string key, .string old, .string val] 61)))))
  have b5 := (hb23.block (w.heap.size + 1) (by omega)).trans ((hb2.block (w.heap.size + 1) (by omega)).trans ((hb1.block (w.heap.size + 1) (by simp)).trans (heap_alloc2_new w _ (Obj.cells #[.int .i64 0, .bool false, .string ⟨#[]⟩] 43))))
  have b8 := heap_alloc_new w2 (Obj.cells #[.int .i64 0, .bool false, .string ⟨#[]⟩] 43)
  have hown3 := Lib.hid (owns_after HO.out hbw3)
  have hs3 := hbw3.size
  have hs4 : w2.heap.size < (w2.alloc (Obj.cells #[.int .i64 0, .bool false, .string ⟨#[]⟩] 43)).heap.size := by simp
  clear d0 d1 d2 d3
  generalize w2.alloc (Obj.cells #[.int .i64 0, .bool false, .string ⟨#[]⟩] 43) = w3 at *
  obtain ⟨d0, d1, d2, d3⟩ := four b3
  obtain ⟨p0, p1, p2, q0, q1, q2⟩ := trio b5
  obtain ⟨r0, r1, r2, s0, s1, s2⟩ := trio b8
  have hbw4 : w.grownBy w3 (Value.slice a l.length cap).ownBlock := gb_of_below hbw3 _
  have hne : (Value.slice a l.length cap).ownBlock ≠ some (w.heap.size + 1) := by
    intro e
    have := HO.out.lt _ e
    omega
  go_wp2_with fail
  have hnw8 : (Value.slice a l.length cap).ownBlock ≠ some w2.heap.size := by
    intro e
    have := HO.out.lt _ e
    omega
  have hnw3 : (Value.slice a l.length cap).ownBlock ≠ some w.heap.size := by
    intro e
    have := HO.out.lt _ e
    omega
  have hbs3 : base ≤ w3.heap.size := by omega
  have hlm : l.length ≤ 1000000 := by omega
  have hnv : (Value.slice a l.length cap).ownBlock ≠ some w3.heap.size := fun e => by have := hown3.out.lt _ e; omega
  have hbs5 : base ≤ w3.heap.size + 1 := by omega
  have H8 := Lib.hid h8
  clear h8
  have hn25 : w2.heap.size ≠ w.heap.size + 1 := by omega
  have hn25' : ¬ w.heap.size + 1 = w2.heap.size := by omega
  go_region_held3 (fun w' => w'.cell? ⟨w.heap.size, 0, none⟩ = some (.int .u8 kd) ∧ w'.cell? ⟨w.heap.size, 1, none⟩ = some (.string key) ∧ w'.cell? ⟨w.heap.size, 2, none⟩ = some (.string old) ∧ w'.cell? ⟨w.heap.size, 3, none⟩ = some (.string val) ∧
      w'.cell? ⟨w2.heap.size, 0, none⟩ = some (.int .i64 0) ∧ w'.cell? ⟨w2.heap.size, 1, none⟩ = some (.bool false) ∧ w'.cell? ⟨w2.heap.size, 2, none⟩ = some (.string ⟨#[]⟩))
    (first
      | exact ⟨d0, d1, d2, d3, r0, r1, r2⟩
      | (go_split_ands; refine ⟨?_, ?_, ?_, ?_, ?_, ?_, ?_⟩ <;> first | exact al_keepd (by assumption) | exact al_keep (by assumption) | exact gb_keep hg4 (by assumption) (by assumption))
      | go_keep)
    ((go_at_call 110; refine (insert_own base l.length (lo l key).length (.slice a l.length cap) (prs l) _ ?_ w3.heap.size (.string key) (.string val) 74 ?_ ?_ rfl rfl prs_one hlm hlo ?_).mono ?_; exact (hown3.out.alloc _).drew; exact heap_alloc_new w3 _; exact hnv; (first | exact hbs5 | (simp; exact hbs5)); rintro e w4 ⟨⟨v4, rfl, hown4⟩, hg4⟩; have P0 := gb_keep hg4 (al_keepd p0) hne; have P1 := gb_keep hg4 (al_keepd p1) hne; have P2 := gb_keep hg4 (al_keepd p2) hne; have Q0 := gb_keepf hg4 (al_keepd p0) (al_keepfd p0 q0) hne; have Q1 := gb_keepf hg4 (al_keepd p1) (al_keepfd p1 q1) hne; have Q2 := gb_keepf hg4 (al_keepd p2) (al_keepfd p2 q2) hne))
  go_wp2
  (try simp only [Exit.inBlock, Exit.then])
  refine bodyPost_ret (v := .tuple #[v4, rpV ⟨0, false, ⟨#[]⟩⟩]) ?hr rfl ⟨⟨_, rfl, ?_⟩, ?_⟩
  case hr =>
    simp only [results, Try.results99]
    go_simp
    try rfl
  · have hB : w4.heap[w.heap.size + 1]? = some (Obj.cells #[.int .i64 0, .bool false, .string ⟨#[]⟩] 43 (0, 0)) := (hg4.block (w.heap.size + 1) (by simp; omega) (fun e => hne e.symm)).trans ((heap_alloc_old w3 _ (by omega)).trans b5)
    have hne4 := own_ne hown4 hB (by decide)
    rw [HL.out, ← HP.out]
    repeat (first | exact hown4 | refine World.ownsRow.drew ?_ | refine owns_far ?_ hne4 _)
  · have hbwx : w.grownBy w4 (Value.slice a l.length cap).ownBlock := gb_trans (gb_drew (gb_alloc hbw4 _)) hg4 (fun k e => .inr e)
    (repeat' (first | (with_reducible exact World.grownBy.refl _ _) | (with_reducible assumption) | (with_reducible refine gb_alloc ?_ _) | (with_reducible refine gb_drew ?_) | (with_reducible refine gb_drewN ?_ _) | (with_reducible refine gb_setCell ?_ ?_ _) | (with_reducible refine gb_below ?_ (by assumption)) | exact .inl rfl | exact .inr (by first | (simp; done) | (simp; omega) | omega)))
end Go.Proofs.Ytmnjmjbmnhppfaa

namespace Go.Proofs.Ytmnjmjbmnhppfaa
open Go.RowKit

theorem prs_del {l : List Pr} {i : Nat} (hi : i < l.length) : (prs l).take (i * 2) ++ (prs l).drop ((i + 1) * 2) = prs (l.take i ++ l.drop (i + 1)) := by
  have e : prs l = prs (l.take i) ++ prs (l.drop i) := by rw [← prs_app, List.take_append_drop]
  have e2 : prs l = prs (l.take (i + 1)) ++ prs (l.drop (i + 1)) := by rw [← prs_app, List.take_append_drop]
  have l1 : i * 2 = (prs (l.take i)).length := by rw [prs_len, List.length_take]; omega
  have l2 : (i + 1) * 2 = (prs (l.take (i + 1))).length := by rw [prs_len, List.length_take]; omega
  have f1 : (prs l).take (i * 2) = prs (l.take i) := by rw [l1, e, List.take_left]
  have f2 : (prs l).drop ((i + 1) * 2) = prs (l.drop (i + 1)) := by rw [l2, e2, List.drop_left]
  rw [f1, f2, prs_app]

set_option maxRecDepth 100000 in
set_option maxHeartbeats 4000000 in
theorem delete_none_any (base : Nat) (a : Option Addr) (cap : Nat) (l : List Pr) (o : Opn) (w : World) (hown : w.ownsRow base 74 2 (.slice a l.length cap) l.length (prs l)) (hl : l.length ≤ 1000) (hso : Rises l) (hlk : look l o.key = none) :
    Calls Try.prog 100 #[.slice a l.length cap, opV o] w fun e w' => StRes base l ⟨0, false, ⟨#[]⟩⟩ e w' ∧ w.grownBy w' (Value.slice a l.length cap).ownBlock := by
  obtain ⟨kd, key, old, val⟩ := o
  unfold opV
  simp only at hlk ⊢
  have hb0 : Below w.heap.size w ((w.alloc (Obj.cells #[.int .u8 kd, .string key, .string old, .string val] 61)).alloc (Obj.cells #[.int .i64 0, .bool false, .string ⟨#[]⟩] 43)) := ((Below.refl _ _).alloc (Nat.le_refl _) _).alloc (by simp) _
  obtain ⟨a0, c0, hv0, hr, hcap, hmx⟩ := Row.of_owns hown
  injection hv0 with hv1 _ hv2
  subst hv1 hv2
  have hr0 := hr.below0 hb0
  have hh : hasK l key = false := by simp [hasK, hlk]
  have hw : wasR l key = ⟨0, false, ⟨#[]⟩⟩ := by simp [wasR, hlk]
  have HH := Lib.hid hh
  have HO := Lib.hid hown
  clear hh hown
  go_enter Try.func100, Try.ntmps100
  refine wp_seq_k (fun K hK => ?_)
  have HK := Lib.hid hK
  clear hK
  go_wp2
  refine HK.out _ _ ?_
  clear HK
  refine wp_seq_k (fun K hK => ?_)
  have HK := Lib.hid hK
  clear hK
  go_wp2_with (go_at_call 108; refine (was_any _ _ _ _ _ hr0 (by omega) hso _ hw).mono ?_; rintro e w1 ⟨rfl, hb1⟩; unfold rpV)
  refine HK.out _ _ ?_
  clear HK
  have hbw1 := hb0.trans (hb1.mono (by simp; omega))
  have hb12 : Below w1.heap.size w1 (w1.alloc (Obj.cells #[.int .i64 0, .bool false, .string ⟨#[]⟩] 43)) := (Below.refl _ _).alloc (Nat.le_refl _) _
  have hs1 := hb1.size
  simp at hs1
  have hbw2 := hbw1.trans (hb12.mono (by omega))
  have b3 := (hb12.block w.heap.size (by omega)).trans ((hb1.block w.heap.size (by simp; omega)).trans ((heap_alloc_old _ _ (by simp)).trans (heap_alloc_new w (Obj.cells #[.int .u8 kd, .string key, .string old, .string val] 61))))
  have b5 := (hb12.block (w.heap.size + 1) (by omega)).trans ((hb1.block (w.heap.size + 1) (by simp)).trans (heap_alloc2_new w _ (Obj.cells #[.int .i64 0, .bool false, .string ⟨#[]⟩] 43)))
  have b6 := heap_alloc_new w1 (Obj.cells #[.int .i64 0, .bool false, .string ⟨#[]⟩] 43)
  have hs2 : w1.heap.size < (w1.alloc (Obj.cells #[.int .i64 0, .bool false, .string ⟨#[]⟩] 43)).heap.size := by simp
  generalize w1.alloc (Obj.cells #[.int .i64 0, .bool false, .string ⟨#[]⟩] 43) = w2 at *
  obtain ⟨d0, d1, d2, d3⟩ := four b3
  have hr2 := hr.below0 hbw2
  refine wp_seq_k (fun K hK => ?_)
  go_cut [0] (fun s wx => s = .slice a l.length cap ∧ Below w2.heap.size w2 wx)
  case first =>
    go_wp2_with (go_at_call 109; refine (find_any _ _ _ _ _ hr2 (by omega) hso).mono ?_; rintro e w3 ⟨rfl, hb3⟩; rw [HH.out])
    go_meet
    exact ⟨rfl, hb3⟩
  obtain ⟨rfl, hb3⟩ := hcut
  refine hK _ _ ?_; clear hK
  have b5' := (hb3.block (w.heap.size + 1) (by omega)).trans b5
  have b6' := (hb3.block w1.heap.size (by omega)).trans b6
  have hbw3 := hbw2.trans (hb3.mono (by omega))
  have hown3 := Lib.hid (owns_after HO.out hbw3)
  have hbw4 : w.grownBy wc (Value.slice a l.length cap).ownBlock := gb_of_below hbw3 _
  have hne : (Value.slice a l.length cap).ownBlock ≠ some (w.heap.size + 1) := by
    intro e
    have := HO.out.lt _ e
    omega
  obtain ⟨p0, p1, p2, q0, q1, q2⟩ := trio b5'
  obtain ⟨r0, r1, r2, s0, s1, s2⟩ := trio b6'
  go_wp2_with fail
  go_region
  go_wp2
  (try simp only [Exit.inBlock, Exit.then])
  refine bodyPost_ret (v := .tuple #[.slice a l.length cap, rpV ⟨0, false, ⟨#[]⟩⟩]) ?hr rfl ⟨⟨_, rfl, ?_⟩, ?_⟩
  case hr =>
    simp only [results, Try.results100]
    go_simp
    try rfl
  · repeat (first | exact hown3.out | refine World.ownsRow.drew ?_ | refine owns_far ?_ hne _)
  · (repeat' (first | (with_reducible exact World.grownBy.refl _ _) | (with_reducible assumption) | (with_reducible refine gb_alloc ?_ _) | (with_reducible refine gb_drew ?_) | (with_reducible refine gb_drewN ?_ _) | (with_reducible refine gb_setCell ?_ ?_ _) | (with_reducible refine gb_below ?_ (by assumption)) | exact .inl rfl | exact .inr (by first | (simp; done) | (simp; omega) | omega)))
set_option maxRecDepth 100000 in
set_option maxHeartbeats 4000000 in
theorem delete_there_any (base : Nat) (a : Option Addr) (cap : Nat) (l : List Pr) (o : Opn) (w : World) (hown : w.ownsRow base 74 2 (.slice a l.length cap) l.length (prs l)) (hbase : base ≤ w.heap.size) (hl : l.length ≤ 1000) (hso : Rises l) (u : Tx) (hlk : look l o.key = some u) :
    Calls Try.prog 100 #[.slice a l.length cap, opV o] w fun e w' => StRes base (delL l o.key) ⟨0, true, u⟩ e w' ∧ w.grownBy w' (Value.slice a l.length cap).ownBlock := by
  obtain ⟨kd, key, old, val⟩ := o
  unfold opV
  simp only at hlk ⊢
  have hb0 : Below w.heap.size w ((w.alloc (Obj.cells #[.int .u8 kd, .string key, .string old, .string val] 61)).alloc (Obj.cells #[.int .i64 0, .bool false, .string ⟨#[]⟩] 43)) := ((Below.refl _ _).alloc (Nat.le_refl _) _).alloc (by simp) _
  obtain ⟨a0, c0, hv0, hr, hcap, hmx⟩ := Row.of_owns hown
  injection hv0 with hv1 _ hv2
  subst hv1 hv2
  have hr0 := hr.below0 hb0
  have hh : hasK l key = true := by simp [hasK, hlk]
  have hw : wasR l key = ⟨0, true, u⟩ := by simp [wasR, hlk]
  have HH := Lib.hid hh
  have HO := Lib.hid hown
  clear hh hown
  go_enter Try.func100, Try.ntmps100
  refine wp_seq_k (fun K hK => ?_)
  have HK := Lib.hid hK
  clear hK
  go_wp2
  refine HK.out _ _ ?_
  clear HK
  refine wp_seq_k (fun K hK => ?_)
  have HK := Lib.hid hK
  clear hK
  go_wp2_with (go_at_call 108; refine (was_any _ _ _ _ _ hr0 (by omega) hso _ hw).mono ?_; rintro e w1 ⟨rfl, hb1⟩; unfold rpV)
  refine HK.out _ _ ?_
  clear HK
  have hbw1 := hb0.trans (hb1.mono (by simp; omega))
  have hb12 : Below w1.heap.size w1 (w1.alloc (Obj.cells #[.int .i64 0, .bool true, .string u] 43)) := (Below.refl _ _).alloc (Nat.le_refl _) _
  have hs1 := hb1.size
  simp at hs1
  have hbw2 := hbw1.trans (hb12.mono (by omega))
  have b3 := (hb12.block w.heap.size (by omega)).trans ((hb1.block w.heap.size (by simp; omega)).trans ((heap_alloc_old _ _ (by simp)).trans (heap_alloc_new w (Obj.cells #[.int .u8 kd, .string key, .string old, .string val] 61))))
  have b5 := (hb12.block (w.heap.size + 1) (by omega)).trans ((hb1.block (w.heap.size + 1) (by simp)).trans (heap_alloc2_new w _ (Obj.cells #[.int .i64 0, .bool false, .string ⟨#[]⟩] 43)))
  have b6 := heap_alloc_new w1 (Obj.cells #[.int .i64 0, .bool true, .string u] 43)
  have hs2 : w1.heap.size < (w1.alloc (Obj.cells #[.int .i64 0, .bool true, .string u] 43)).heap.size := by simp
  generalize w1.alloc (Obj.cells #[.int .i64 0, .bool true, .string u] 43) = w2 at *
  obtain ⟨d0, d1, d2, d3⟩ := four b3
  have hr2 := hr.below0 hbw2
  have hlo := (List.getElem?_eq_some_iff.1 (at_yes hso hlk)).1
  have hdel := del_there hso hlk
  have hprs := prs_del hlo
  rw [hdel] at hprs
  have hlen : (delL l key).length = l.length - 1 := by
    rw [← hdel, List.length_append, List.length_take, List.length_drop]
    omega
  have HP := Lib.hid hprs
  have HL := Lib.hid hlen
  have hlm : l.length ≤ 1000000 := by omega
  clear hdel hprs hlen hlk hw
  refine wp_seq_k (fun K hK => ?_)
  go_cut [0] (fun s wx => ∃ wy, Below w2.heap.size w2 wy ∧ wx.ownsRow base 74 2 s (l.length - 1) (prs (delL l key)) ∧ wy.grownBy wx (Value.slice a l.length cap).ownBlock)
  case first =>
    go_wp2_with (first
      | (go_at_call 109; refine (find_any _ _ _ _ _ hr2 (by omega) hso).mono ?_; rintro e w3 ⟨rfl, hb3⟩; rw [HH.out])
      | (go_at_call 111; refine (delete_own base l.length (lo l key).length (.slice a l.length cap) (prs l) _ (owns_after HO.out (hbw2.trans (hb3.mono (by omega)))) prs_one hlm hlo ?_).mono ?_; exact Nat.le_trans hbase (Nat.le_trans (hbw2.trans (hb3.mono (by omega))).size (Nat.le_refl _)); rintro e w4 ⟨⟨v4, rfl, hown4⟩, hg4⟩))
    go_meet
    rw [HP.out] at hown4
    exact ⟨w3, hb3, hown4, hg4⟩
  obtain ⟨wy, hb3, hown4, hg4⟩ := hcut
  refine hK _ _ ?_; clear hK
  have hne : (Value.slice a l.length cap).ownBlock ≠ some (w.heap.size + 1) := by
    intro e
    have := HO.out.lt _ e
    omega
  have hne6 : (Value.slice a l.length cap).ownBlock ≠ some w1.heap.size := by
    intro e
    have := HO.out.lt _ e
    omega
  have hs3 := hb3.size
  have b5' := (hg4.block (w.heap.size + 1) (by omega) (fun e => hne e.symm)).trans ((hb3.block (w.heap.size + 1) (by omega)).trans b5)
  have b6' := (hg4.block w1.heap.size (by omega) (fun e => hne6 e.symm)).trans ((hb3.block w1.heap.size (by omega)).trans b6)
  have hbw3 := hbw2.trans (hb3.mono (by omega))
  have hbw4 : w.grownBy wc (Value.slice a l.length cap).ownBlock := gb_trans (gb_of_below hbw3 _) hg4 (fun k e => .inr e)
  have hne4 := own_ne hown4 b5' (by decide)
  have HO4 := Lib.hid hown4
  clear hown4
  obtain ⟨p0, p1, p2, q0, q1, q2⟩ := trio b5'
  obtain ⟨r0, r1, r2, s0, s1, s2⟩ := trio b6'
  go_wp2_with fail
  go_region
  go_wp2
  (try simp only [Exit.inBlock, Exit.then])
  refine bodyPost_ret (v := .tuple #[u0, rpV ⟨0, true, u⟩]) ?hr rfl ⟨⟨_, rfl, ?_⟩, ?_⟩
  case hr =>
    simp only [results, Try.results100]
    go_simp
    try rfl
  · rw [HL.out]
    repeat (first | exact HO4.out | refine World.ownsRow.drew ?_ | refine owns_far ?_ hne4 _)
  · (repeat' (first | (with_reducible exact World.grownBy.refl _ _) | (with_reducible assumption) | (with_reducible refine gb_alloc ?_ _) | (with_reducible refine gb_drew ?_) | (with_reducible refine gb_drewN ?_ _) | (with_reducible refine gb_setCell ?_ ?_ _) | (with_reducible refine gb_below ?_ (by assumption)) | exact .inl rfl | exact .inr (by first | (simp; done) | (simp; omega) | omega)))
end Go.Proofs.Ytmnjmjbmnhppfaa

namespace Go.Proofs.Ytmnjmjbmnhppfaa
open Go.RowKit

set_option maxRecDepth 100000 in
set_option maxHeartbeats 4000000 in
theorem swap_none_any (base : Nat) (a : Option Addr) (cap : Nat) (l : List Pr) (o : Opn) (w : World) (hown : w.ownsRow base 74 2 (.slice a l.length cap) l.length (prs l)) (hl : l.length ≤ 1000) (hso : Rises l) (hlk : look l o.key = none) :
    Calls Try.prog 101 #[.slice a l.length cap, opV o] w fun e w' => StRes base l ⟨0, false, ⟨#[]⟩⟩ e w' ∧ w.grownBy w' (Value.slice a l.length cap).ownBlock := by
  obtain ⟨kd, key, old, val⟩ := o
  unfold opV
  simp only at hlk ⊢
  have hb0 : Below w.heap.size w ((w.alloc (Obj.cells #[.int .u8 kd, .string key, .string old, .string val] 61)).alloc (Obj.cells #[.int .i64 0, .bool false, .string ⟨#[]⟩] 43)) := ((Below.refl _ _).alloc (Nat.le_refl _) _).alloc (by simp) _
  obtain ⟨a0, c0, hv0, hr, hcap, hmx⟩ := Row.of_owns hown
  injection hv0 with hv1 _ hv2
  subst hv1 hv2
  have hr0 := hr.below0 hb0
  have hw : wasR l key = ⟨0, false, ⟨#[]⟩⟩ := by simp [wasR, hlk]
  have HO := Lib.hid hown
  clear hown
  go_enter Try.func101, Try.ntmps101
  refine wp_seq_k (fun K hK => ?_)
  have HK := Lib.hid hK
  clear hK
  go_wp2
  refine HK.out _ _ ?_
  clear HK
  refine wp_seq_k (fun K hK => ?_)
  have HK := Lib.hid hK
  clear hK
  go_wp2_with (go_at_call 108; refine (was_any _ _ _ _ _ hr0 (by omega) hso _ hw).mono ?_; rintro e w1 ⟨rfl, hb1⟩; unfold rpV)
  refine HK.out _ _ ?_
  clear HK
  have hbw1 := hb0.trans (hb1.mono (by simp; omega))
  have hb12 : Below w1.heap.size w1 (w1.alloc (Obj.cells #[.int .i64 0, .bool false, .string ⟨#[]⟩] 43)) := (Below.refl _ _).alloc (Nat.le_refl _) _
  have hs1 := hb1.size
  simp at hs1
  have hbw2 := hbw1.trans (hb12.mono (by omega))
  have b3 := (hb12.block w.heap.size (by omega)).trans ((hb1.block w.heap.size (by simp; omega)).trans ((heap_alloc_old _ _ (by simp)).trans (heap_alloc_new w (Obj.cells #[.int .u8 kd, .string key, .string old, .string val] 61))))
  have b5 := (hb12.block (w.heap.size + 1) (by omega)).trans ((hb1.block (w.heap.size + 1) (by simp)).trans (heap_alloc2_new w _ (Obj.cells #[.int .i64 0, .bool false, .string ⟨#[]⟩] 43)))
  have b6 := heap_alloc_new w1 (Obj.cells #[.int .i64 0, .bool false, .string ⟨#[]⟩] 43)
  have hs2 : w1.heap.size < (w1.alloc (Obj.cells #[.int .i64 0, .bool false, .string ⟨#[]⟩] 43)).heap.size := by simp
  generalize w1.alloc (Obj.cells #[.int .i64 0, .bool false, .string ⟨#[]⟩] 43) = w2 at *
  obtain ⟨d0, d1, d2, d3⟩ := four b3
  have hne : (Value.slice a l.length cap).ownBlock ≠ some (w.heap.size + 1) := by
    intro e
    have := HO.out.lt _ e
    omega
  have hne6 : (Value.slice a l.length cap).ownBlock ≠ some w1.heap.size := by
    intro e
    have := HO.out.lt _ e
    omega
  obtain ⟨r0, r1, r2, s0, s1, s2⟩ := trio b6
  have hown3 := Lib.hid (owns_after HO.out hbw2)
  have hbw4 : w.grownBy (w2.setCell ⟨w1.heap.size, 1, none⟩ (.bool false)) (Value.slice a l.length cap).ownBlock := gb_setCell (gb_of_below hbw2 _) (.inr (by simp; omega)) _
  have b5' := (heap_setCell_other w2 ⟨w1.heap.size, 1, none⟩ (w.heap.size + 1) (.bool false) (by simp; omega)).trans b5
  have b6' : (w2.setCell ⟨w1.heap.size, 1, none⟩ (.bool false)).heap[w1.heap.size]? = some (.cells #[.int .i64 0, .bool false, .string ⟨#[]⟩] 43 (0, 0)) := heap_setCell_same w2 w1.heap.size 1 _ _ _ b6
  have hown4 := Lib.hid (owns_far hown3.out hne6 (.bool false) (j := 1))
  go_wp2_with fail
  generalize w2.setCell ⟨w1.heap.size, 1, none⟩ (.bool false) = w4 at *
  clear r0 r1 r2 s0 s1 s2
  obtain ⟨p0, p1, p2, q0, q1, q2⟩ := trio b5'
  obtain ⟨r0, r1, r2, s0, s1, s2⟩ := trio b6'
  go_region
  go_wp2
  (try simp only [Exit.inBlock, Exit.then])
  refine bodyPost_ret (v := .tuple #[.slice a l.length cap, rpV ⟨0, false, ⟨#[]⟩⟩]) ?hr rfl ⟨⟨_, rfl, ?_⟩, ?_⟩
  case hr =>
    simp only [results, Try.results101]
    go_simp
    try rfl
  · repeat (first | exact hown4.out | refine World.ownsRow.drew ?_ | refine owns_far ?_ hne _)
  · (repeat' (first | (with_reducible exact World.grownBy.refl _ _) | (with_reducible assumption) | (with_reducible refine gb_alloc ?_ _) | (with_reducible refine gb_drew ?_) | (with_reducible refine gb_drewN ?_ _) | (with_reducible refine gb_setCell ?_ ?_ _) | (with_reducible refine gb_below ?_ (by assumption)) | exact .inl rfl | exact .inr (by first | (simp; done) | (simp; omega) | omega)))

set_option maxRecDepth 100000 in
set_option maxHeartbeats 4000000 in
theorem swap_other_any (base : Nat) (a : Option Addr) (cap : Nat) (l : List Pr) (o : Opn) (w : World) (hown : w.ownsRow base 74 2 (.slice a l.length cap) l.length (prs l)) (hl : l.length ≤ 1000) (hso : Rises l) (u : Tx) (hlk : look l o.key = some u) (hou : u ≠ o.old) :
    Calls Try.prog 101 #[.slice a l.length cap, opV o] w fun e w' => StRes base l ⟨0, false, u⟩ e w' ∧ w.grownBy w' (Value.slice a l.length cap).ownBlock := by
  obtain ⟨kd, key, old, val⟩ := o
  unfold opV
  simp only at hlk ⊢
  have hb0 : Below w.heap.size w ((w.alloc (Obj.cells #[.int .u8 kd, .string key, .string old, .string val] 61)).alloc (Obj.cells #[.int .i64 0, .bool false, .string ⟨#[]⟩] 43)) := ((Below.refl _ _).alloc (Nat.le_refl _) _).alloc (by simp) _
  obtain ⟨a0, c0, hv0, hr, hcap, hmx⟩ := Row.of_owns hown
  injection hv0 with hv1 _ hv2
  subst hv1 hv2
  have hr0 := hr.below0 hb0
  have hw : wasR l key = ⟨0, true, u⟩ := by simp [wasR, hlk]
  have HO := Lib.hid hown
  clear hown
  have huo : (u.toList == old.toList) = false := by rw [tx_eq]; exact decide_eq_false hou
  have HU := Lib.hid hou
  clear hou
  go_enter Try.func101, Try.ntmps101
  refine wp_seq_k (fun K hK => ?_)
  have HK := Lib.hid hK
  clear hK
  go_wp2
  refine HK.out _ _ ?_
  clear HK
  refine wp_seq_k (fun K hK => ?_)
  have HK := Lib.hid hK
  clear hK
  go_wp2_with (go_at_call 108; refine (was_any _ _ _ _ _ hr0 (by omega) hso _ hw).mono ?_; rintro e w1 ⟨rfl, hb1⟩; unfold rpV)
  refine HK.out _ _ ?_
  clear HK
  have hbw1 := hb0.trans (hb1.mono (by simp; omega))
  have hb12 : Below w1.heap.size w1 (w1.alloc (Obj.cells #[.int .i64 0, .bool true, .string u] 43)) := (Below.refl _ _).alloc (Nat.le_refl _) _
  have hs1 := hb1.size
  simp at hs1
  have hbw2 := hbw1.trans (hb12.mono (by omega))
  have b3 := (hb12.block w.heap.size (by omega)).trans ((hb1.block w.heap.size (by simp; omega)).trans ((heap_alloc_old _ _ (by simp)).trans (heap_alloc_new w (Obj.cells #[.int .u8 kd, .string key, .string old, .string val] 61))))
  have b5 := (hb12.block (w.heap.size + 1) (by omega)).trans ((hb1.block (w.heap.size + 1) (by simp)).trans (heap_alloc2_new w _ (Obj.cells #[.int .i64 0, .bool false, .string ⟨#[]⟩] 43)))
  have b6 := heap_alloc_new w1 (Obj.cells #[.int .i64 0, .bool true, .string u] 43)
  have hs2 : w1.heap.size < (w1.alloc (Obj.cells #[.int .i64 0, .bool true, .string u] 43)).heap.size := by simp
  generalize w1.alloc (Obj.cells #[.int .i64 0, .bool true, .string u] 43) = w2 at *
  obtain ⟨d0, d1, d2, d3⟩ := four b3
  have hne : (Value.slice a l.length cap).ownBlock ≠ some (w.heap.size + 1) := by
    intro e
    have := HO.out.lt _ e
    omega
  have hne6 : (Value.slice a l.length cap).ownBlock ≠ some w1.heap.size := by
    intro e
    have := HO.out.lt _ e
    omega
  obtain ⟨r0, r1, r2, s0, s1, s2⟩ := trio b6
  have hown3 := Lib.hid (owns_after HO.out hbw2)
  have hbw4 : w.grownBy (w2.setCell ⟨w1.heap.size, 1, none⟩ (.bool false)) (Value.slice a l.length cap).ownBlock := gb_setCell (gb_of_below hbw2 _) (.inr (by simp; omega)) _
  have b5' := (heap_setCell_other w2 ⟨w1.heap.size, 1, none⟩ (w.heap.size + 1) (.bool false) (by simp; omega)).trans b5
  have b6' : (w2.setCell ⟨w1.heap.size, 1, none⟩ (.bool false)).heap[w1.heap.size]? = some (.cells #[.int .i64 0, .bool false, .string u] 43 (0, 0)) := heap_setCell_same w2 w1.heap.size 1 _ _ _ b6
  have hown4 := Lib.hid (owns_far hown3.out hne6 (.bool false) (j := 1))
  go_wp2_with fail
  generalize w2.setCell ⟨w1.heap.size, 1, none⟩ (.bool false) = w4 at *
  clear r0 r1 r2 s0 s1 s2
  obtain ⟨p0, p1, p2, q0, q1, q2⟩ := trio b5'
  obtain ⟨r0, r1, r2, s0, s1, s2⟩ := trio b6'
  go_region
  go_wp2
  (try simp only [Exit.inBlock, Exit.then])
  refine bodyPost_ret (v := .tuple #[.slice a l.length cap, rpV ⟨0, false, u⟩]) ?hr rfl ⟨⟨_, rfl, ?_⟩, ?_⟩
  case hr =>
    simp only [results, Try.results101]
    go_simp
    try rfl
  · repeat (first | exact hown4.out | refine World.ownsRow.drew ?_ | refine owns_far ?_ hne _)
  · (repeat' (first | (with_reducible exact World.grownBy.refl _ _) | (with_reducible assumption) | (with_reducible refine gb_alloc ?_ _) | (with_reducible refine gb_drew ?_) | (with_reducible refine gb_drewN ?_ _) | (with_reducible refine gb_setCell ?_ ?_ _) | (with_reducible refine gb_below ?_ (by assumption)) | exact .inl rfl | exact .inr (by first | (simp; done) | (simp; omega) | omega)))

set_option maxRecDepth 100000 in
set_option maxHeartbeats 4000000 in
theorem swap_yes_any (base : Nat) (a : Option Addr) (cap : Nat) (l : List Pr) (o : Opn) (w : World) (hown : w.ownsRow base 74 2 (.slice a l.length cap) l.length (prs l)) (hl : l.length ≤ 1000) (hso : Rises l) (hlk : look l o.key = some o.old) :
    Calls Try.prog 101 #[.slice a l.length cap, opV o] w fun e w' => StRes base (putL l o.key o.val) ⟨0, true, o.old⟩ e w' ∧ w.grownBy w' (Value.slice a l.length cap).ownBlock := by
  obtain ⟨kd, key, old, val⟩ := o
  unfold opV
  simp only at hlk ⊢
  have hb0 : Below w.heap.size w ((w.alloc (Obj.cells #[.int .u8 kd, .string key, .string old, .string val] 61)).alloc (Obj.cells #[.int .i64 0, .bool false, .string ⟨#[]⟩] 43)) := ((Below.refl _ _).alloc (Nat.le_refl _) _).alloc (by simp) _
  obtain ⟨a0, c0, hv0, hr, hcap, hmx⟩ := Row.of_owns hown
  injection hv0 with hv1 _ hv2
  subst hv1 hv2
  have hr0 := hr.below0 hb0
  have hw : wasR l key = ⟨0, true, old⟩ := by simp [wasR, hlk]
  have HO := Lib.hid hown
  clear hown
  have huo : (old.toList == old.toList) = true := by simp
  go_enter Try.func101, Try.ntmps101
  refine wp_seq_k (fun K hK => ?_)
  have HK := Lib.hid hK
  clear hK
  go_wp2
  refine HK.out _ _ ?_
  clear HK
  refine wp_seq_k (fun K hK => ?_)
  have HK := Lib.hid hK
  clear hK
  go_wp2_with (go_at_call 108; refine (was_any _ _ _ _ _ hr0 (by omega) hso _ hw).mono ?_; rintro e w1 ⟨rfl, hb1⟩; unfold rpV)
  refine HK.out _ _ ?_
  clear HK
  have hbw1 := hb0.trans (hb1.mono (by simp; omega))
  have hb12 : Below w1.heap.size w1 (w1.alloc (Obj.cells #[.int .i64 0, .bool true, .string old] 43)) := (Below.refl _ _).alloc (Nat.le_refl _) _
  have hs1 := hb1.size
  simp at hs1
  have hbw2 := hbw1.trans (hb12.mono (by omega))
  have b3 := (hb12.block w.heap.size (by omega)).trans ((hb1.block w.heap.size (by simp; omega)).trans ((heap_alloc_old _ _ (by simp)).trans (heap_alloc_new w (Obj.cells #[.int .u8 kd, .string key, .string old, .string val] 61))))
  have b5 := (hb12.block (w.heap.size + 1) (by omega)).trans ((hb1.block (w.heap.size + 1) (by simp)).trans (heap_alloc2_new w _ (Obj.cells #[.int .i64 0, .bool false, .string ⟨#[]⟩] 43)))
  have b6 := heap_alloc_new w1 (Obj.cells #[.int .i64 0, .bool true, .string old] 43)
  have hs2 : w1.heap.size < (w1.alloc (Obj.cells #[.int .i64 0, .bool true, .string old] 43)).heap.size := by simp
  generalize w1.alloc (Obj.cells #[.int .i64 0, .bool true, .string old] 43) = w2 at *
  obtain ⟨d0, d1, d2, d3⟩ := four b3
  have hne : (Value.slice a l.length cap).ownBlock ≠ some (w.heap.size + 1) := by
    intro e
    have := HO.out.lt _ e
    omega
  have hne6 : (Value.slice a l.length cap).ownBlock ≠ some w1.heap.size := by
    intro e
    have := HO.out.lt _ e
    omega
  have hown2 := owns_after HO.out hbw2
  have HP := Lib.hid (put_there_any base (.slice a l.length cap) l ⟨kd, key, old, val⟩ old w2 hown2 hl hso hlk)
  unfold opV at HP
  clear hown2
  obtain ⟨r0, r1, r2, s0, s1, s2⟩ := trio b6
  refine wp_seq_k (fun K hK => ?_)
  have HK := Lib.hid hK
  clear hK
  go_wp2
  refine HK.out _ _ ?_
  clear HK
  refine wp_seq_k (fun K hK => ?_)
  go_cut [0] (fun s wx => wx.ownsRow base 74 2 s (putL l key val).length (prs (putL l key val)) ∧ w2.grownBy wx (Value.slice a l.length cap).ownBlock)
  case first =>
    go_wp2_with (go_at_call 99; refine HP.out.mono ?_; rintro e w4 ⟨⟨v4, rfl, hown4⟩, hg4⟩; unfold rpV)
    go_meet
    exact ⟨hown4, hg4⟩
  obtain ⟨hown4, hg4⟩ := hcut
  refine hK _ _ ?_; clear hK
  have b5' := (hg4.block (w.heap.size + 1) (by omega) (fun e => hne e.symm)).trans b5
  have b6' := (hg4.block w1.heap.size (by omega) (fun e => hne6 e.symm)).trans b6
  have hbw4 : w.grownBy wc (Value.slice a l.length cap).ownBlock := gb_trans (gb_of_below hbw2 _) hg4 (fun k e => .inr e)
  have hne4 := own_ne hown4 b5' (by decide)
  have HO4 := Lib.hid hown4
  clear hown4 r0 r1 r2 s0 s1 s2
  obtain ⟨p0, p1, p2, q0, q1, q2⟩ := trio b5'
  obtain ⟨r0, r1, r2, s0, s1, s2⟩ := trio b6'
  go_wp2_with fail
  go_region
  go_wp2
  (try simp only [Exit.inBlock, Exit.then])
  refine bodyPost_ret (v := .tuple #[u0, rpV ⟨0, true, old⟩]) ?hr rfl ⟨⟨_, rfl, ?_⟩, ?_⟩
  case hr =>
    simp only [results, Try.results101]
    go_simp
    try rfl
  · repeat (first | exact HO4.out | refine World.ownsRow.drew ?_ | refine owns_far ?_ hne4 _)
  · (repeat' (first | (with_reducible exact World.grownBy.refl _ _) | (with_reducible assumption) | (with_reducible refine gb_alloc ?_ _) | (with_reducible refine gb_drew ?_) | (with_reducible refine gb_drewN ?_ _) | (with_reducible refine gb_setCell ?_ ?_ _) | (with_reducible refine gb_below ?_ (by assumption)) | exact .inl rfl | exact .inr (by first | (simp; done) | (simp; omega) | omega)))
end Go.Proofs.Ytmnjmjbmnhppfaa

namespace Go.Proofs.Ytmnjmjbmnhppfaa
open Go.RowKit

abbrev fnV (f : FuncId) : Value := .func (.func f) #[] #[]
def doesV : Value := .agg #[.nilFunc, fnV 98, fnV 99, fnV 100, fnV 101]

set_option maxRecDepth 100000 in
theorem does_any (w : World) : Calls Try.prog 77 #[] w fun e w' => e = .returned doesV ∧ Below w.heap.size w w' := by
  go_enter Try.func77, Try.ntmps77
  go_wp2
  (try simp only [Exit.inBlock, Exit.then])
  refine bodyPost_ret (v := doesV) ?hr rfl ⟨rfl, ?_⟩
  case hr =>
    simp only [results, Try.results77]
    go_simp
    try rfl
  (repeat' (first | (with_reducible exact Below.refl _ _) | (with_reducible assumption) | (with_reducible refine Below.alloc ?_ ?_ _) | (with_reducible refine Below.drew ?_) | (with_reducible refine below_drewN ?_ _) | (with_reducible refine Below.setCell ?_ ?_ _) | (with_reducible refine Below.trans ?_ (by assumption)) | go_size))
end Go.Proofs.Ytmnjmjbmnhppfaa

namespace Go.Proofs.Ytmnjmjbmnhppfaa
open Go.RowKit

def rowC (r : Rw) : List Value := [.int .i64 r.seq, .int .i64 r.rep.err, .bool r.rep.found, .string r.rep.val]
theorem rowC_len (r : Rw) : (rowC r).length = 4 := rfl
def Tb.list (t : Tb) : List Rw := [t.r0, t.r1, t.r2, t.r3]
def tbA (t : Tb) : Array Value := #[.int .i64 t.r0.seq, .int .i64 t.r0.rep.err, .bool t.r0.rep.found, .string t.r0.rep.val, .int .i64 t.r1.seq, .int .i64 t.r1.rep.err, .bool t.r1.rep.found, .string t.r1.rep.val,
  .int .i64 t.r2.seq, .int .i64 t.r2.rep.err, .bool t.r2.rep.found, .string t.r2.rep.val, .int .i64 t.r3.seq, .int .i64 t.r3.rep.err, .bool t.r3.rep.found, .string t.r3.rep.val]
theorem tbA_list (t : Tb) : t.list.flatMap rowC = (tbA t).toList := rfl
theorem mayT_any (t : Tb) : mayT t = !t.list.any oddR := by
  unfold mayT Tb.list
  simp [Bool.and_assoc]
theorem mayT_ref (t : Tb) : mayT t = !t.list.any oddRef := by
  rw [mayT_any]
  congr 2
  funext r
  exact (odd_eq r).symm

def IdxRes (l : List Rw) (e : Ending) : Prop := ∃ n : Int, e = .returned (.int .i64 n) ∧ decide (0 ≤ n) = l.any oddR
theorem any_at {α : Type} {l : List α} {p : α → Bool} {k : Nat} {c : α} (h : l[k]? = some c) (hp : p c = true) : l.any p = true := List.any_eq_true.2 ⟨c, List.mem_of_getElem? h, hp⟩
theorem any_no {α : Type} {l : List α} {p : α → Bool} (h : ∀ (j : Nat) (c : α), l[j]? = some c → p c = false) : l.any p = false := by
  rw [List.any_eq_false]
  intro x hx
  obtain ⟨j, hj, rfl⟩ := List.getElem_of_mem hx
  rw [h j _ (List.getElem?_eq_getElem hj)]
  simp
/-- None of the first k. -/
def NoneTo (p : Rw → Bool) (l : List Rw) (k : Nat) : Prop := ∀ (j : Nat) (c : Rw), j < k → l[j]? = some c → p c = false
theorem noneTo_zero (p : Rw → Bool) (l : List Rw) : NoneTo p l 0 := fun _ _ h _ => by omega
theorem noneTo_succ {p : Rw → Bool} {l : List Rw} {k : Nat} {c : Rw} (h : NoneTo p l k) (hc : l[k]? = some c) (hp : p c = false) : NoneTo p l (k + 1) := by
  intro j d hj hd
  by_cases e : j = k
  · subst e
    rw [hc] at hd
    cases hd
    exact hp
  · exact h j d (by omega) hd

set_option maxRecDepth 100000 in
set_option maxHeartbeats 2000000 in
theorem idxOdd_any (a : Option Addr) (cap : Nat) (l : List Rw) (w : World) (hr : Row w a (l.flatMap rowC)) (hl : l.length ≤ 1000000) :
    Calls Try.prog 112 #[.slice a l.length cap, fnV 106] w fun e w' => IdxRes l e ∧ Below w.heap.size w w' := by
  go_enter Try.func112, Try.ntmps112
  refine wp_seq_k (fun K hK => ?_)
  have HK := Lib.hid hK
  clear hK
  go_wp2
  refine HK.out _ _ ?_
  clear HK
  go_wp2_with fail
  go_loopw [8, 5] (fun i _ wr => ∃ k : Nat, k ≤ l.length ∧ i = .int .i64 k ∧ NoneTo oddR l k ∧ Below w.heap.size w wr) (fun i _ _ => l.length - (intOf i).toNat)
  case atStart => exact ⟨0, by omega, rfl, noneTo_zero _ _, Below.refl _ _⟩
  case round =>
    obtain ⟨k, hk, rfl, hn, hbr⟩ := hrel
    by_cases hlt : k < l.length
    · obtain ⟨b, off, rfl, hblt, h0, hc⟩ := (hr.below0 hbr).flat0 rowC_len (by omega) (List.getElem?_eq_getElem hlt)
      have c0 := h0 _ rfl
      have c1 := hc 1 _ rfl
      have c2 := hc 2 _ rfl
      have c3 := hc 3 _ rfl
      have hat : l[k]? = some l[k] := List.getElem?_eq_getElem hlt
      have hnx : oddR l[k] = false → NoneTo oddR l (k + 1) := fun e => noneTo_succ hn hat e
      have hyx : oddR l[k] = true → l.any oddR = true := fun e => any_at hat e
      have HN := Lib.hid hnx
      have HY := Lib.hid hyx
      clear hnx hyx hat hc h0
      generalize l[k] = r at *
      obtain ⟨s, er, fo, va⟩ := r
      cases ho : oddR ⟨s, ⟨er, fo, va⟩⟩
      all_goals
        have HO := Lib.hid ho
        clear ho
        go_wp2_with (go_at_call 106; refine (odd_any _ _ _ _ _).mono ?_; rintro e w1 ⟨rfl, hb1⟩; rw [HO.out])
      · go_roundw
        case rel => exact ⟨k + 1, by omega, by go_num, HN.out HO.out, hbr.trans (hb1.mono hbr.size)⟩
        case measure => simp [intOf]; omega
      · go_ret
        exact ⟨⟨_, rfl, by rw [HY.out HO.out]; exact decide_eq_true (by omega)⟩, hbr.trans (hb1.mono hbr.size)⟩
    · have hno : l.any oddR = false := any_no fun j c hj => hn j c (by have := (List.getElem?_eq_some_iff.1 hj).1; omega) hj
      have HNO := Lib.hid hno
      clear hno
      go_wp2
      go_ret
      exact ⟨⟨_, rfl, by rw [HNO.out]; rfl⟩, hbr⟩

set_option maxRecDepth 100000 in
theorem conOdd_any (a : Option Addr) (cap : Nat) (l : List Rw) (w : World) (hr : Row w a (l.flatMap rowC)) (hl : l.length ≤ 1000000) (r : Bool) (hres : l.any oddR = r) (n : Nat) (hn : l.length = n) :
    Calls Try.prog 105 #[.slice a n cap, fnV 106] w fun e w' => e = .returned (.bool r) ∧ Below w.heap.size w w' := by
  subst hn
  have HR := Lib.hid hres
  clear hres
  go_enter Try.func105, Try.ntmps105
  go_wp2_with (go_at_call 112; refine (idxOdd_any _ _ _ _ hr hl).mono ?_; rintro e w1 ⟨⟨n, rfl, hn⟩, hb1⟩; rw [HR.out] at hn; have HN := Lib.hid hn; clear hn)
  go_ret
  exact ⟨ret_bool HN.out, hb1⟩

set_option maxRecDepth 100000 in
set_option maxHeartbeats 1000000 in
theorem smay_any (t : Tb) (w : World) : Calls Try.prog 86 #[.agg (tbA t)] w fun e w' => e = .returned (.bool (mayT t)) ∧ Below w.heap.size w w' := by
  obtain ⟨r, hr⟩ : ∃ r, t.list.any oddR = r := ⟨_, rfl⟩
  rw [mayT_any, hr]
  have HR := Lib.hid hr
  clear hr
  have hb0 : Below w.heap.size w (w.alloc (Obj.cells (tbA t) 47)) := (Below.refl _ _).alloc (Nat.le_refl _) _
  have hrow : Row (w.alloc (Obj.cells (tbA t) 47)) (some ⟨w.heap.size, 0, none⟩) (t.list.flatMap rowC) := by
    rw [tbA_list]
    exact Row.of_block (heap_alloc_new w _) 0 fun i u hu => by rw [Nat.zero_add]; exact hu
  have HROW := Lib.hid hrow
  clear hrow
  unfold tbA at *
  go_enter Try.func86, Try.ntmps86
  go_wp2_with (go_at_call 105; refine (conOdd_any _ _ t.list _ HROW.out (show t.list.length ≤ 1000000 from (by decide : 4 ≤ 1000000)) _ HR.out _ rfl).mono ?_; rintro e w1 ⟨rfl, hb1⟩)
  go_ret
  exact ⟨rfl, hb0.trans (hb1.mono (by simp))⟩

set_option maxRecDepth 100000 in
set_option maxHeartbeats 4000000 in
theorem rsmay_any (t : Tb) (w : World) : Calls Try.prog 87 #[.agg (tbA t)] w fun e w' => e = .returned (.bool (mayT t)) ∧ Below w.heap.size w w' := by
  obtain ⟨m, hm⟩ : ∃ m, mayT t = m := ⟨_, rfl⟩
  rw [hm]
  rw [mayT_ref] at hm
  have HM := Lib.hid hm
  clear hm
  have hb0 : Below w.heap.size w (w.alloc (Obj.cells (tbA t) 47)) := (Below.refl _ _).alloc (Nat.le_refl _) _
  have hrow : Row (w.alloc (Obj.cells (tbA t) 47)) (some ⟨w.heap.size, 0, none⟩) (t.list.flatMap rowC) := by
    rw [tbA_list]
    exact Row.of_block (heap_alloc_new w _) 0 fun i u hu => by rw [Nat.zero_add]; exact hu
  have HROW := Lib.hid hrow
  clear hrow
  have hlen : t.list.length = 4 := rfl
  have HLEN := Lib.hid hlen
  clear hlen
  unfold tbA at *
  go_enter Try.func87, Try.ntmps87
  refine wp_seq_k (fun K hK => ?_)
  have HK := Lib.hid hK
  clear hK
  go_wp2
  refine HK.out _ _ ?_
  clear HK
  have hsz0 := hb0.size
  generalize w.alloc _ = wb at *
  go_wp2_with fail
  go_loopw [3, 4] (fun i _ wr => ∃ k : Nat, k ≤ 4 ∧ i = .int .i64 k ∧ NoneTo oddRef t.list k ∧ Below wb.heap.size wb wr) (fun i _ _ => 4 - (intOf i).toNat)
  case atStart => exact ⟨0, by omega, rfl, noneTo_zero _ _, Below.refl _ _⟩
  case round =>
    obtain ⟨k, hk, rfl, hn, hbr⟩ := hrel
    by_cases hlt : k < 4
    · have hat : t.list[k]? = some (t.list[k]'hlt) := List.getElem?_eq_getElem hlt
      obtain ⟨b, off, hbo, hblt, h0, hc⟩ := (HROW.out.below0 hbr).flat0 rowC_len (by omega) hat
      injection hbo with hbo
      injection hbo with hb1 hb2
      subst hb1 hb2
      have c0 := h0 _ rfl
      have c1 := hc 1 _ rfl
      have c2 := hc 2 _ rfl
      have c3 := hc 3 _ rfl
      simp only [Nat.zero_add] at c0 c1 c2 c3
      have hnx : oddRef (t.list[k]'hlt) = false → NoneTo oddRef t.list (k + 1) := fun e => noneTo_succ hn hat e
      have hyx : oddRef (t.list[k]'hlt) = true → m = false := fun e => by rw [← HM.out, any_at hat e]; rfl
      have HN := Lib.hid hnx
      have HY := Lib.hid hyx
      clear hnx hyx hat hc h0
      generalize t.list[k] = r at *
      obtain ⟨s, er, fo, va⟩ := r
      have hcs : s < 0 ∨ (0 ≤ s ∧ 1099511627776 < s) ∨ (0 ≤ s ∧ s ≤ 1099511627776 ∧ badR ⟨er, fo, va⟩ = true) ∨ (1 ≤ s ∧ s ≤ 1099511627776 ∧ badR ⟨er, fo, va⟩ = false) ∨ (s = 0 ∧ badR ⟨er, fo, va⟩ = false) := by
        cases badR ⟨er, fo, va⟩ <;> simp <;> omega
      have HC := Lib.hid hcs
      clear hcs
      go_upto_region 4 with (fail)
      go_cut [4] (fun z wx => z = .bool (zeroB ⟨er, fo, va⟩) ∧ wx = wr)
      case first =>
        cases h1 : (er == 0) <;> cases fo
        all_goals
          go_wp2
          go_meet
          exact ⟨bool_eq (by unfold zeroB; simp [h1]), rfl⟩
      obtain ⟨rfl, rfl⟩ := hcut
      have hnx2 : (decide (s < 0) || decide (big40 < s) || badR ⟨er, fo, va⟩ || (s == 0 && !zeroB ⟨er, fo, va⟩)) = false → NoneTo oddRef t.list (k + 1) := HN.out
      have hyx2 : (decide (s < 0) || decide (big40 < s) || badR ⟨er, fo, va⟩ || (s == 0 && !zeroB ⟨er, fo, va⟩)) = true → m = false := HY.out
      have HN := Lib.hid hnx2
      have HY := Lib.hid hyx2
      clear hnx2 hyx2
      unfold big40 at *
      generalize zeroB ⟨er, fo, va⟩ = z at *
      rcases HC.out with hs | ⟨hs, hs2⟩ | ⟨hs, hs2, hb⟩ | ⟨hs, hs2, hb⟩ | ⟨rfl, hb⟩
      · go_wp2
        go_ret
        exact ⟨ret_bool (HY.out (by rw [decide_eq_true hs]; rfl)).symm, hb0.trans (hbr.mono hsz0)⟩
      · go_wp2
        go_ret
        exact ⟨ret_bool (HY.out (by rw [decide_eq_true hs2]; simp)).symm, hb0.trans (hbr.mono hsz0)⟩
      · have HB := Lib.hid hb
        clear hb
        go_wp2_with (go_at_call 107; refine (mayReply_any _ _ _ _).mono ?_; rintro e w1 ⟨rfl, hbx⟩; rw [HB.out]; have c0 := (hbx.cell (p := ⟨w.heap.size, k * 4, none⟩) hblt).trans c0)
        go_ret
        exact ⟨ret_bool (HY.out (by rw [HB.out]; simp)).symm, hb0.trans ((hbr.trans (hbx.mono hbr.size)).mono hsz0)⟩
      · have HB := Lib.hid hb
        clear hb
        have hs0 : (s == 0) = false := by rw [beq_eq_false_iff_ne]; omega
        go_wp2_with (go_at_call 107; refine (mayReply_any _ _ _ _).mono ?_; rintro e w1 ⟨rfl, hbx⟩; rw [HB.out]; have c0 := (hbx.cell (p := ⟨w.heap.size, k * 4, none⟩) hblt).trans c0)
        go_roundw
        case rel => exact ⟨k + 1, by omega, by go_num, HN.out (by rw [HB.out, hs0, decide_eq_false (by omega), decide_eq_false (by omega)]; rfl), hbr.trans (hbx.mono hbr.size)⟩
        case measure => simp [intOf]; omega
      · have HB := Lib.hid hb
        clear hb
        cases z
        · go_wp2_with (go_at_call 107; refine (mayReply_any _ _ _ _).mono ?_; rintro e w1 ⟨rfl, hbx⟩; rw [HB.out]; have c0 := (hbx.cell (p := ⟨w.heap.size, k * 4, none⟩) hblt).trans c0)
          go_ret
          exact ⟨ret_bool (HY.out (by rw [HB.out]; simp)).symm, hb0.trans ((hbr.trans (hbx.mono hbr.size)).mono hsz0)⟩
        · go_wp2_with (go_at_call 107; refine (mayReply_any _ _ _ _).mono ?_; rintro e w1 ⟨rfl, hbx⟩; rw [HB.out]; have c0 := (hbx.cell (p := ⟨w.heap.size, k * 4, none⟩) hblt).trans c0)
          go_roundw
          case rel => exact ⟨k + 1, by omega, by go_num, HN.out (by rw [HB.out]; simp), hbr.trans (hbx.mono hbr.size)⟩
          case measure => simp [intOf]; omega
    · have hno : t.list.any oddRef = false := any_no fun j c hj => hn j c (by have := (List.getElem?_eq_some_iff.1 hj).1; have := HLEN.out; omega) hj
      have hmt : m = true := by rw [← HM.out, hno]; rfl
      have HMT := Lib.hid hmt
      clear hno hmt
      go_wp2
      go_ret
      exact ⟨ret_bool HMT.out.symm, hb0.trans (hbr.mono hsz0)⟩
end Go.Proofs.Ytmnjmjbmnhppfaa

namespace Go.Proofs.Ytmnjmjbmnhppfaa
open Go.RowKit

theorem mv1_ok {k : Int} (hk : k = 1 ∨ k = 3) : mayV k ⟨#[]⟩ ⟨#[]⟩ = true := by unfold mayV; rw [if_pos hk]; rfl
theorem mv1_old {k : Int} {old val : Tx} (hk : k = 1 ∨ k = 3) (h : ¬ old.size = 0) : mayV k old val = false := by unfold mayV; rw [if_pos hk, decide_eq_false h]; rfl
theorem mv1_val {k : Int} {old val : Tx} (hk : k = 1 ∨ k = 3) (h : ¬ val.size = 0) : mayV k old val = false := by unfold mayV; rw [if_pos hk, decide_eq_false h, Bool.and_false]
theorem mv2_ok (val : Tx) : mayV 2 ⟨#[]⟩ val = true := by unfold mayV; rw [if_neg (by decide), if_pos rfl]; rfl
theorem mv2_no {old val : Tx} (h : ¬ old.size = 0) : mayV 2 old val = false := by unfold mayV; rw [if_neg (by decide), if_pos rfl, decide_eq_false h]
theorem mv4 (old val : Tx) : mayV 4 old val = true := by unfold mayV; rw [if_neg (by decide), if_neg (by decide)]; rfl
theorem mv_no {k : Int} {old val : Tx} (h1 : (k == 1) = false) (h3 : (k == 3) = false) (h2 : (k == 2) = false) (h4 : (k == 4) = false) : mayV k old val = false := by
  simp only [beq_eq_false_iff_ne] at h1 h2 h3 h4
  unfold mayV
  rw [if_neg (by omega), if_neg h2, decide_eq_false h4]
theorem keyOk_no {key : Tx} (h : key.size < 1 ∨ 8 < key.size) : keyOk key = false := by
  unfold keyOk
  rcases h with h | h
  · rw [decide_eq_false (by omega)]; rfl
  · rw [decide_eq_false (show ¬ key.size ≤ 8 by omega), Bool.and_false]
theorem keyOk_yes {key : Tx} (h : 1 ≤ key.size) (h2 : key.size ≤ 8) : keyOk key = true := by unfold keyOk; rw [decide_eq_true h, decide_eq_true h2]; rfl
theorem mo_key {a b c d r : Bool} (hr : (a && b && c && d) = r) (h : a = false) : r = false := by rw [← hr, h]; rfl
theorem mo_old {a b c d r : Bool} (hr : (a && b && c && d) = r) (h : b = false) : r = false := by rw [← hr, h]; simp
theorem mo_val {a b c d r : Bool} (hr : (a && b && c && d) = r) (h : c = false) : r = false := by rw [← hr, h]; simp
theorem mo_v {a b c d r : Bool} (hr : (a && b && c && d) = r) (h : d = false) : r = false := by rw [← hr, h]; simp
theorem mo_yes {a b c d r : Bool} (hr : (a && b && c && d) = r) (h1 : a = true) (h2 : b = true) (h3 : c = true) (h4 : d = true) : r = true := by rw [← hr, h1, h2, h3, h4]; rfl
theorem vo_yes {v : Tx} (h : v.size ≤ 16) : valOk v = true := decide_eq_true h
theorem vo_no {v : Tx} (h : ¬ v.size ≤ 16) : valOk v = false := decide_eq_false h

set_option maxRecDepth 100000 in
set_option maxHeartbeats 8000000 in
theorem emayO_any (k : Int) (key old val : Tx) (w : World) (r : Bool) (hr : mayO ⟨k, key, old, val⟩ = r) :
    Calls Try.prog 103 #[.agg #[.int .u8 k, .string key, .string old, .string val]] w fun e w' => e = .returned (.bool r) ∧ Below w.heap.size w w' := by
  rw [mayO_eq] at hr
  have HR := Lib.hid hr
  clear hr
  have hb0 : Below w.heap.size w (w.alloc (Obj.cells #[.int .u8 k, .string key, .string old, .string val] 61)) := (Below.refl _ _).alloc (Nat.le_refl _) _
  have hkd : k = 1 ∨ k = 3 ∨ k = 2 ∨ k = 4 ∨ ((k == 1) = false ∧ (k == 3) = false ∧ (k == 2) = false ∧ (k == 4) = false) := by
    simp only [beq_eq_false_iff_ne]
    omega
  have HKD := Lib.hid hkd
  clear hkd
  have hk : key.size < 1 ∨ (1 ≤ key.size ∧ 8 < key.size) ∨ (1 ≤ key.size ∧ key.size ≤ 8) := by omega
  rcases hk with hk | ⟨hk, hk2⟩ | ⟨hk, hk2⟩
  · obtain rfl := mo_key HR.out (keyOk_no (.inl hk))
    rcases HKD.out with rfl | rfl | rfl | rfl | ⟨k1, k2, k3, k4⟩
    all_goals
      go_enter Try.func103, Try.ntmps103
      go_wp2
      go_ret
      exact ⟨ret_bool (by first | rfl | (exact decide_eq_false (by omega))), hb0⟩
  · obtain rfl := mo_key HR.out (keyOk_no (.inr hk2))
    rcases HKD.out with rfl | rfl | rfl | rfl | ⟨k1, k2, k3, k4⟩
    all_goals
      go_enter Try.func103, Try.ntmps103
      go_wp2
      go_ret
      exact ⟨ret_bool (by first | rfl | (exact decide_eq_false (by omega))), hb0⟩
  · rcases HKD.out with rfl | rfl | rfl | rfl | ⟨k1, k2, k3, k4⟩
    · by_cases hv : val.size = 0
      · obtain rfl := tx_nil hv
        by_cases ho : old.size = 0
        · obtain rfl := tx_nil ho
          obtain rfl := mo_yes HR.out (keyOk_yes hk hk2) rfl rfl (mv1_ok (.inl rfl))
          clear hv ho
          go_enter Try.func103, Try.ntmps103
          go_wp2
          go_ret
          exact ⟨ret_bool (by first | rfl | (exact decide_eq_true (by omega)) | (exact decide_eq_false (by omega))), hb0⟩
        · obtain ⟨n1, n2⟩ := tx_some ho
          obtain rfl := mo_v HR.out (mv1_old (.inl rfl) ho)
          clear hv
          go_enter Try.func103, Try.ntmps103
          go_wp2
          go_ret
          exact ⟨ret_bool (by first | rfl | (exact decide_eq_true (by omega)) | (exact decide_eq_false (by omega))), hb0⟩
      · obtain ⟨n1, n2⟩ := tx_some hv
        obtain rfl := mo_v HR.out (mv1_val (.inl rfl) hv)
        go_enter Try.func103, Try.ntmps103
        go_wp2
        go_ret
        exact ⟨ret_bool (by first | rfl | (exact decide_eq_true (by omega)) | (exact decide_eq_false (by omega))), hb0⟩
    · by_cases hv : val.size = 0
      · obtain rfl := tx_nil hv
        by_cases ho : old.size = 0
        · obtain rfl := tx_nil ho
          obtain rfl := mo_yes HR.out (keyOk_yes hk hk2) rfl rfl (mv1_ok (.inr rfl))
          clear hv ho
          go_enter Try.func103, Try.ntmps103
          go_wp2
          go_ret
          exact ⟨ret_bool (by first | rfl | (exact decide_eq_true (by omega)) | (exact decide_eq_false (by omega))), hb0⟩
        · obtain ⟨n1, n2⟩ := tx_some ho
          obtain rfl := mo_v HR.out (mv1_old (.inr rfl) ho)
          clear hv
          go_enter Try.func103, Try.ntmps103
          go_wp2
          go_ret
          exact ⟨ret_bool (by first | rfl | (exact decide_eq_true (by omega)) | (exact decide_eq_false (by omega))), hb0⟩
      · obtain ⟨n1, n2⟩ := tx_some hv
        obtain rfl := mo_v HR.out (mv1_val (.inr rfl) hv)
        go_enter Try.func103, Try.ntmps103
        go_wp2
        go_ret
        exact ⟨ret_bool (by first | rfl | (exact decide_eq_true (by omega)) | (exact decide_eq_false (by omega))), hb0⟩
    · by_cases ho : old.size = 0
      · obtain rfl := tx_nil ho
        clear ho
        by_cases hv : val.size ≤ 16
        · obtain rfl := mo_yes HR.out (keyOk_yes hk hk2) rfl (vo_yes hv) (mv2_ok _)
          go_enter Try.func103, Try.ntmps103
          go_wp2
          go_ret
          exact ⟨ret_bool (by first | rfl | (exact decide_eq_true (by omega)) | (exact decide_eq_false (by omega))), hb0⟩
        · obtain rfl := mo_val HR.out (vo_no hv)
          go_enter Try.func103, Try.ntmps103
          go_wp2
          go_ret
          exact ⟨ret_bool (by first | rfl | (exact decide_eq_true (by omega)) | (exact decide_eq_false (by omega))), hb0⟩
      · obtain ⟨n1, n2⟩ := tx_some ho
        obtain rfl := mo_v HR.out (mv2_no ho)
        go_enter Try.func103, Try.ntmps103
        go_wp2
        go_ret
        exact ⟨ret_bool (by first | rfl | (exact decide_eq_true (by omega)) | (exact decide_eq_false (by omega))), hb0⟩
    · by_cases ho : old.size ≤ 16
      · by_cases hv : val.size ≤ 16
        · obtain rfl := mo_yes HR.out (keyOk_yes hk hk2) (vo_yes ho) (vo_yes hv) (mv4 _ _)
          go_enter Try.func103, Try.ntmps103
          go_wp2
          go_ret
          exact ⟨ret_bool (by first | rfl | (exact decide_eq_true (by omega)) | (exact decide_eq_false (by omega))), hb0⟩
        · obtain rfl := mo_val HR.out (vo_no hv)
          go_enter Try.func103, Try.ntmps103
          go_wp2
          go_ret
          exact ⟨ret_bool (by first | rfl | (exact decide_eq_true (by omega)) | (exact decide_eq_false (by omega))), hb0⟩
      · obtain rfl := mo_old HR.out (vo_no ho)
        go_enter Try.func103, Try.ntmps103
        go_wp2
        go_ret
        exact ⟨ret_bool (by first | rfl | (exact decide_eq_true (by omega)) | (exact decide_eq_false (by omega))), hb0⟩
    · obtain rfl := mo_v HR.out (mv_no k1 k2 k3 k4)
      go_enter Try.func103, Try.ntmps103
      go_wp2
      go_ret
      exact ⟨ret_bool (by first | rfl | (exact decide_eq_true (by omega)) | (exact decide_eq_false (by omega))), hb0⟩

set_option maxRecDepth 100000 in
set_option maxHeartbeats 8000000 in
theorem fmayO_any (k : Int) (key old val : Tx) (w : World) (r : Bool) (hr : mayO ⟨k, key, old, val⟩ = r) :
    Calls Try.prog 102 #[.agg #[.int .u8 k, .string key, .string old, .string val]] w fun e w' => e = .returned (.bool r) ∧ Below w.heap.size w w' := by
  rw [mayO_eq] at hr
  have HR := Lib.hid hr
  clear hr
  have hb0 : Below w.heap.size w (w.alloc (Obj.cells #[.int .u8 k, .string key, .string old, .string val] 61)) := (Below.refl _ _).alloc (Nat.le_refl _) _
  have hkd : k = 1 ∨ k = 3 ∨ k = 2 ∨ k = 4 ∨ ((k == 1) = false ∧ (k == 3) = false ∧ (k == 2) = false ∧ (k == 4) = false) := by
    simp only [beq_eq_false_iff_ne]
    omega
  have HKD := Lib.hid hkd
  clear hkd
  have hk : key.size < 1 ∨ (1 ≤ key.size ∧ 8 < key.size) ∨ (1 ≤ key.size ∧ key.size ≤ 8 ∧ ¬ old.size ≤ 16) ∨ (1 ≤ key.size ∧ key.size ≤ 8 ∧ old.size ≤ 16 ∧ ¬ val.size ≤ 16) ∨ (1 ≤ key.size ∧ key.size ≤ 8 ∧ old.size ≤ 16 ∧ val.size ≤ 16) := by omega
  rcases hk with hk | ⟨hk, hk2⟩ | ⟨hk, hk2, hk3⟩ | ⟨hk, hk2, hk3, hk4⟩ | ⟨hk, hk2, hk3, hk4⟩
  · obtain rfl := mo_key HR.out (keyOk_no (.inl hk))
    go_enter Try.func102, Try.ntmps102
    go_wp2
    go_ret
    exact ⟨ret_bool (by first | rfl | (exact decide_eq_true (by omega)) | (exact decide_eq_false (by omega))), hb0⟩
  · obtain rfl := mo_key HR.out (keyOk_no (.inr hk2))
    go_enter Try.func102, Try.ntmps102
    go_wp2
    go_ret
    exact ⟨ret_bool (by first | rfl | (exact decide_eq_true (by omega)) | (exact decide_eq_false (by omega))), hb0⟩
  · obtain rfl := mo_old HR.out (vo_no hk3)
    go_enter Try.func102, Try.ntmps102
    go_wp2
    go_ret
    exact ⟨ret_bool (by first | rfl | (exact decide_eq_true (by omega)) | (exact decide_eq_false (by omega))), hb0⟩
  · obtain rfl := mo_val HR.out (vo_no hk4)
    go_enter Try.func102, Try.ntmps102
    go_wp2
    go_ret
    exact ⟨ret_bool (by first | rfl | (exact decide_eq_true (by omega)) | (exact decide_eq_false (by omega))), hb0⟩
  · rcases HKD.out with rfl | rfl | rfl | rfl | ⟨k1, k2, k3, k4⟩
    · by_cases hv : val.size = 0
      · obtain rfl := tx_nil hv
        by_cases ho : old.size = 0
        · obtain rfl := tx_nil ho
          obtain rfl := mo_yes HR.out (keyOk_yes hk hk2) rfl rfl (mv1_ok (.inl rfl))
          clear hv ho
          go_enter Try.func102, Try.ntmps102
          go_wp2
          go_ret
          exact ⟨ret_bool (by first | rfl | (exact decide_eq_true (by omega)) | (exact decide_eq_false (by omega))), hb0⟩
        · obtain ⟨n1, n2⟩ := tx_some ho
          obtain rfl := mo_v HR.out (mv1_old (.inl rfl) ho)
          clear hv
          go_enter Try.func102, Try.ntmps102
          go_wp2
          go_ret
          exact ⟨ret_bool (by first | rfl | (exact decide_eq_true (by omega)) | (exact decide_eq_false (by omega))), hb0⟩
      · obtain ⟨n1, n2⟩ := tx_some hv
        by_cases ho : old.size = 0
        · obtain rfl := tx_nil ho
          obtain rfl := mo_v HR.out (mv1_val (.inl rfl) hv)
          clear ho
          go_enter Try.func102, Try.ntmps102
          go_wp2
          go_ret
          exact ⟨ret_bool (by first | rfl | (exact decide_eq_true (by omega)) | (exact decide_eq_false (by omega))), hb0⟩
        · obtain ⟨m1, m2⟩ := tx_some ho
          obtain rfl := mo_v HR.out (mv1_val (.inl rfl) hv)
          go_enter Try.func102, Try.ntmps102
          go_wp2
          go_ret
          exact ⟨ret_bool (by first | rfl | (exact decide_eq_true (by omega)) | (exact decide_eq_false (by omega))), hb0⟩
    · by_cases hv : val.size = 0
      · obtain rfl := tx_nil hv
        by_cases ho : old.size = 0
        · obtain rfl := tx_nil ho
          obtain rfl := mo_yes HR.out (keyOk_yes hk hk2) rfl rfl (mv1_ok (.inr rfl))
          clear hv ho
          go_enter Try.func102, Try.ntmps102
          go_wp2
          go_ret
          exact ⟨ret_bool (by first | rfl | (exact decide_eq_true (by omega)) | (exact decide_eq_false (by omega))), hb0⟩
        · obtain ⟨n1, n2⟩ := tx_some ho
          obtain rfl := mo_v HR.out (mv1_old (.inr rfl) ho)
          clear hv
          go_enter Try.func102, Try.ntmps102
          go_wp2
          go_ret
          exact ⟨ret_bool (by first | rfl | (exact decide_eq_true (by omega)) | (exact decide_eq_false (by omega))), hb0⟩
      · obtain ⟨n1, n2⟩ := tx_some hv
        by_cases ho : old.size = 0
        · obtain rfl := tx_nil ho
          obtain rfl := mo_v HR.out (mv1_val (.inr rfl) hv)
          clear ho
          go_enter Try.func102, Try.ntmps102
          go_wp2
          go_ret
          exact ⟨ret_bool (by first | rfl | (exact decide_eq_true (by omega)) | (exact decide_eq_false (by omega))), hb0⟩
        · obtain ⟨m1, m2⟩ := tx_some ho
          obtain rfl := mo_v HR.out (mv1_val (.inr rfl) hv)
          go_enter Try.func102, Try.ntmps102
          go_wp2
          go_ret
          exact ⟨ret_bool (by first | rfl | (exact decide_eq_true (by omega)) | (exact decide_eq_false (by omega))), hb0⟩
    · by_cases ho : old.size = 0
      · obtain rfl := tx_nil ho
        obtain rfl := mo_yes HR.out (keyOk_yes hk hk2) rfl (vo_yes hk4) (mv2_ok _)
        clear ho
        go_enter Try.func102, Try.ntmps102
        go_wp2
        go_ret
        exact ⟨ret_bool (by first | rfl | (exact decide_eq_true (by omega)) | (exact decide_eq_false (by omega))), hb0⟩
      · obtain ⟨n1, n2⟩ := tx_some ho
        obtain rfl := mo_v HR.out (mv2_no ho)
        go_enter Try.func102, Try.ntmps102
        go_wp2
        go_ret
        exact ⟨ret_bool (by first | rfl | (exact decide_eq_true (by omega)) | (exact decide_eq_false (by omega))), hb0⟩
    · obtain rfl := mo_yes HR.out (keyOk_yes hk hk2) (vo_yes hk3) (vo_yes hk4) (mv4 _ _)
      go_enter Try.func102, Try.ntmps102
      go_wp2
      go_ret
      exact ⟨ret_bool (by first | rfl | (exact decide_eq_true (by omega)) | (exact decide_eq_false (by omega))), hb0⟩
    · obtain rfl := mo_v HR.out (mv_no k1 k2 k3 k4)
      go_enter Try.func102, Try.ntmps102
      go_wp2
      go_ret
      exact ⟨ret_bool (by first | rfl | (exact decide_eq_true (by omega)) | (exact decide_eq_false (by omega))), hb0⟩

end Go.Proofs.Ytmnjmjbmnhppfaa

