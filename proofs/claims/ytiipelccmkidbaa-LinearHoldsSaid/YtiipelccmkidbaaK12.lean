/- put of a new key. -/
import Derived.Test.YtiipelccmkidbaaK11
import Derived.Test.YtiipelccmkidbaaRows
import Derived.WalkKit
import Derived.WalkSpells
import Derived.WalkLawsBesides
import Derived.Handy
import Derived.Deep.QuietTactic
import Derived.BigQuiet
import Derived.Deep.DeepCutAuto
import Derived.Lib.Hide
import Derived.RegionTactic
import Derived.ChangeAlike
import Derived.Deep.RegionHeld3
import Derived.Laws.ResultCell
import Derived.Outline
namespace Go.Proofs.Ytiipelccmkidbaa
open Go.RowKit

theorem gb_keep {x y : World} {r : Option Nat} (hg : x.grownBy y r) {p : Addr} {v : Value} (hc : x.cell? p = some v) (hne : r ≠ some p.block) : y.cell? p = some v := hg.cell hc (fun e => hne e.symm)
theorem gb_keepf {x y : World} {r : Option Nat} (hg : x.grownBy y r) {p : Addr} {v : Value} (hc : x.cell? p = some v) (hf : x.frozen? p = false) (hne : r ≠ some p.block) : y.frozen? p = false := by
  rw [World.frozen?_of_block (hg.block p.block (World.block_lt_of_cell? x p hc) (fun e => hne e.symm))]
  exact hf
theorem al_keepf {x : World} {p : Addr} {v : Value} {o : Obj} (hc : x.cell? p = some v) (hf : x.frozen? p = false) : (x.alloc o).frozen? p = false := gb_keepf (World.grownBy_alloc x o none) hc hf (by simp)
theorem al_keep {x : World} {p : Addr} {v : Value} {o : Obj} (hc : x.cell? p = some v) : (x.alloc o).cell? p = some v := gb_keep (World.grownBy_alloc x o none) hc (by simp)
theorem al_keepd {x : World} {p : Addr} {v : Value} {o : Obj} (hc : x.cell? p = some v) : (x.alloc o).drew.cell? p = some v := al_keep hc
theorem al_keepfd {x : World} {p : Addr} {v : Value} {o : Obj} (hc : x.cell? p = some v) (hf : x.frozen? p = false) : (x.alloc o).drew.frozen? p = false := al_keepf hc hf

theorem own_ne {w : World} {base n size g : Nat} {e t : TypeId} {v : Value} {xs : List Value} {cs : Array Value} (h : w.ownsRow base e size v n xs) (hg : w.heap[g]? = some (.cells cs t (0, 0))) (hne : e ≠ t) : v.ownBlock ≠ some g := by
  rcases h.2 with ⟨rfl, _⟩ | ⟨g', cap, cur, rfl, _, hh, _⟩
  · simp [Value.ownBlock]
  · intro he
    have : g' = g := by simpa [Value.ownBlock] using he
    subst this
    rw [hg] at hh
    injection hh with hh
    injection hh with _ ht
    exact hne ht.symm

set_option maxRecDepth 100000 in
set_option maxHeartbeats 2000000 in
theorem put_full_any (base : Nat) (a : Option Addr) (cap : Nat) (l : List Pr) (o : Opn) (w : World) (hown : w.ownsRow base 46 2 (.slice a l.length cap) l.length (prs l)) (hl : l.length = 8) (hso : Rises l) (hlk : look l o.key = none) :
    Calls Try.prog 26 #[.slice a l.length cap, opV o] w fun e w' => StRes base l ⟨211, false, ⟨#[]⟩⟩ e w' ∧ w.grownBy w' (Value.slice a l.length cap).ownBlock := by
  obtain ⟨kd, key, old, val⟩ := o
  unfold opV
  simp only at hlk ⊢
  have hb0 : Below w.heap.size w ((w.alloc (Obj.cells #[.int .u8 kd, .string key, .string old, .string val] 27)).alloc (Obj.cells #[.int .i64 0, .bool false, .string ⟨#[]⟩] 30)) := ((Below.refl _ _).alloc (Nat.le_refl _) _).alloc (by simp) _
  obtain ⟨a0, c0, hv0, hr, hcap, hmx⟩ := Row.of_owns hown
  injection hv0 with hv1 _ hv2
  subst hv1 hv2
  have hr0 := hr.below0 hb0
  have hh : hasK l key = false := by simp [hasK, hlk]
  have hw : wasR l key = ⟨0, false, ⟨#[]⟩⟩ := by simp [wasR, hlk]
  have h8 : ((l.length : Int) == 8) = true := by rw [hl]; rfl
  have HH := Lib.hid hh
  have HL := Lib.hid hl
  have hl2 : l.length ≤ 8 := by omega
  have HO := Lib.hid hown
  clear hh hl hown
  go_enter Try.func26, Try.ntmps26
  refine wp_seq_k (fun K hK => ?_)
  have HK := Lib.hid hK
  clear hK
  go_wp2
  refine HK.out _ _ ?_
  clear HK
  refine wp_seq_k (fun K hK => ?_)
  have HK := Lib.hid hK
  clear hK
  go_wp2_with (go_at_call 31; refine (find_any _ _ _ _ _ hr0 (by omega) hso).mono ?_; rintro e w1 ⟨rfl, hb1⟩; rw [HH.out])
  refine HK.out _ _ ?_
  clear HK
  have hbw1 := hb0.trans (hb1.mono (by simp; omega))
  obtain ⟨d0, d1, d2, d3⟩ := four ((hb1.block w.heap.size (by simp; omega)).trans ((heap_alloc_old _ _ (by simp)).trans (heap_alloc_new _ _)))
  have hr1 := hr.below0 hbw1
  refine wp_seq_k (fun K hK => ?_)
  have HK := Lib.hid hK
  clear hK
  go_wp2_with (go_at_call 30; refine (was_any _ _ _ _ _ hr1 (by omega) hso _ hw).mono ?_; rintro e w2 ⟨rfl, hb2⟩; unfold rpV)
  refine HK.out _ _ ?_
  clear HK
  have hs1 := hb1.size
  simp at hs1
  have hs2 := hb2.size
  have hbw2 := hbw1.trans (hb2.mono (by omega))
  have hb23 : Below w2.heap.size w2 (w2.alloc (Obj.cells #[.int .i64 0, .bool false, .string ⟨#[]⟩] 30)) := (Below.refl _ _).alloc (Nat.le_refl _) _
  have hbw3 := hbw2.trans (hb23.mono (by omega))
  have b5 := (hb23.block (w.heap.size + 1) (by omega)).trans ((hb2.block (w.heap.size + 1) (by omega)).trans ((hb1.block (w.heap.size + 1) (by simp)).trans (heap_alloc2_new w _ (Obj.cells #[.int .i64 0, .bool false, .string ⟨#[]⟩] 30))))
  have hown3 := Lib.hid (owns_after HO.out hbw3)
  have hs3 := hbw3.size
  clear d0 d1 d2 d3
  generalize w2.alloc (Obj.cells #[.int .i64 0, .bool false, .string ⟨#[]⟩] 30) = w3 at *
  obtain ⟨p0, p1, p2, q0, q1, q2⟩ := trio b5
  have hbw4 : w.grownBy w3 (Value.slice a l.length cap).ownBlock := gb_of_below hbw3 _
  have hne : (Value.slice a l.length cap).ownBlock ≠ some (w.heap.size + 1) := by
    intro e
    have := HO.out.lt _ e
    omega
  go_wp2
  (try simp only [Exit.inBlock, Exit.then])
  refine bodyPost_ret (v := .tuple #[.slice a l.length cap, rpV ⟨211, false, ⟨#[]⟩⟩]) ?hr rfl ⟨⟨_, rfl, ?_⟩, ?_⟩
  case hr =>
    simp only [results, Try.results26]
    go_simp
    try rfl
  · repeat (first | exact hown3.out | refine World.ownsRow.drew ?_ | refine owns_far ?_ hne _)
  · (repeat' (first | (with_reducible exact World.grownBy.refl _ _) | (with_reducible assumption) | (with_reducible refine gb_alloc ?_ _) | (with_reducible refine gb_drew ?_) | (with_reducible refine gb_drewN ?_ _) | (with_reducible refine gb_setCell ?_ ?_ _) | (with_reducible refine gb_below ?_ (by assumption)) | exact .inl rfl | exact .inr (by first | (simp; done) | (simp; omega) | omega)))

set_option maxRecDepth 100000 in
set_option maxHeartbeats 4000000 in
theorem put_new_any (base : Nat) (a : Option Addr) (cap : Nat) (l : List Pr) (o : Opn) (w : World) (hown : w.ownsRow base 46 2 (.slice a l.length cap) l.length (prs l)) (hbase : base ≤ w.heap.size) (hl : l.length ≤ 1000) (hl8 : l.length ≠ 8) (hso : Rises l) (hlk : look l o.key = none) :
    Calls Try.prog 26 #[.slice a l.length cap, opV o] w fun e w' => StRes base (putL l o.key o.val) ⟨0, false, ⟨#[]⟩⟩ e w' ∧ w.grownBy w' (Value.slice a l.length cap).ownBlock := by
  obtain ⟨kd, key, old, val⟩ := o
  unfold opV
  simp only at hlk ⊢
  have hb0 : Below w.heap.size w ((w.alloc (Obj.cells #[.int .u8 kd, .string key, .string old, .string val] 27)).alloc (Obj.cells #[.int .i64 0, .bool false, .string ⟨#[]⟩] 30)) := ((Below.refl _ _).alloc (Nat.le_refl _) _).alloc (by simp) _
  obtain ⟨a0, c0, hv0, hr, hcap, hmx⟩ := Row.of_owns hown
  injection hv0 with hv1 _ hv2
  subst hv1 hv2
  have hr0 := hr.below0 hb0
  have hh : hasK l key = false := by simp [hasK, hlk]
  have hw : wasR l key = ⟨0, false, ⟨#[]⟩⟩ := by simp [wasR, hlk]
  have h8 : ((l.length : Int) == 8) = false := by rw [beq_eq_false_iff_ne]; omega
  have hlo := lo_le l key
  have hput := put_new (w := val) hso hlk
  have hprs : (prs l).take ((lo l key).length * 2) ++ .string key :: .string val :: (prs l).drop ((lo l key).length * 2) = prs (putL l key val) := by
    rw [← hput]
    have e : prs l = prs (l.take (lo l key).length) ++ prs (l.drop (lo l key).length) := by rw [← prs_app, List.take_append_drop]
    have e2 : (lo l key).length * 2 = (prs (l.take (lo l key).length)).length := by rw [prs_len, List.length_take]; omega
    rw [e2, e, List.take_left, List.drop_left, prs_app]
    rfl
  have hlen : (putL l key val).length = l.length + 1 := by rw [len_put hso, if_pos hlk]
  have HP := Lib.hid hprs
  have HL := Lib.hid hlen
  have HH := Lib.hid hh
  have HO := Lib.hid hown
  clear hh hown hput hprs hlen
  go_enter Try.func26, Try.ntmps26
  refine wp_seq_k (fun K hK => ?_)
  have HK := Lib.hid hK
  clear hK
  go_wp2
  refine HK.out _ _ ?_
  clear HK
  refine wp_seq_k (fun K hK => ?_)
  have HK := Lib.hid hK
  clear hK
  go_wp2_with (go_at_call 31; refine (find_any _ _ _ _ _ hr0 (by omega) hso).mono ?_; rintro e w1 ⟨rfl, hb1⟩; rw [HH.out])
  refine HK.out _ _ ?_
  clear HK
  have hbw1 := hb0.trans (hb1.mono (by simp; omega))
  obtain ⟨d0, d1, d2, d3⟩ := four ((hb1.block w.heap.size (by simp; omega)).trans ((heap_alloc_old _ _ (by simp)).trans (heap_alloc_new _ _)))
  have hr1 := hr.below0 hbw1
  refine wp_seq_k (fun K hK => ?_)
  have HK := Lib.hid hK
  clear hK
  go_wp2_with (go_at_call 30; refine (was_any _ _ _ _ _ hr1 (by omega) hso _ hw).mono ?_; rintro e w2 ⟨rfl, hb2⟩; unfold rpV)
  refine HK.out _ _ ?_
  clear HK
  have hs1 := hb1.size
  simp at hs1
  have hs2 := hb2.size
  have hbw2 := hbw1.trans (hb2.mono (by omega))
  have hb23 : Below w2.heap.size w2 (w2.alloc (Obj.cells #[.int .i64 0, .bool false, .string ⟨#[]⟩] 30)) := (Below.refl _ _).alloc (Nat.le_refl _) _
  have hbw3 := hbw2.trans (hb23.mono (by omega))
  have b3 := (hb23.block w.heap.size (by omega)).trans ((hb2.block w.heap.size (by omega)).trans ((hb1.block w.heap.size (by simp; omega)).trans ((heap_alloc_old _ _ (by simp)).trans (heap_alloc_new w (Obj.cells #[.int .u8 kd, .string key, .string old, .string val] 27)))))
  have b5 := (hb23.block (w.heap.size + 1) (by omega)).trans ((hb2.block (w.heap.size + 1) (by omega)).trans ((hb1.block (w.heap.size + 1) (by simp)).trans (heap_alloc2_new w _ (Obj.cells #[.int .i64 0, .bool false, .string ⟨#[]⟩] 30))))
  have b8 := heap_alloc_new w2 (Obj.cells #[.int .i64 0, .bool false, .string ⟨#[]⟩] 30)
  have hown3 := Lib.hid (owns_after HO.out hbw3)
  have hs3 := hbw3.size
  have hs4 : w2.heap.size < (w2.alloc (Obj.cells #[.int .i64 0, .bool false, .string ⟨#[]⟩] 30)).heap.size := by simp
  clear d0 d1 d2 d3
  generalize w2.alloc (Obj.cells #[.int .i64 0, .bool false, .string ⟨#[]⟩] 30) = w3 at *
  obtain ⟨d0, d1, d2, d3⟩ := four b3
  obtain ⟨p0, p1, p2, q0, q1, q2⟩ := trio b5
  obtain ⟨r0, r1, r2, s0, s1, s2⟩ := trio b8
  have hbw4 : w.grownBy w3 (Value.slice a l.length cap).ownBlock := gb_of_below hbw3 _
  have hne : (Value.slice a l.length cap).ownBlock ≠ some (w.heap.size + 1) := by
    intro e
    have := HO.out.lt _ e
    omega
  go_wp2_with fail
  have hnw8 : (Value.slice a l.length cap).ownBlock ≠ some w2.heap.size := by
    intro e
    have := HO.out.lt _ e
    omega
  have hnw3 : (Value.slice a l.length cap).ownBlock ≠ some w.heap.size := by
    intro e
    have := HO.out.lt _ e
    omega
  have hbs3 : base ≤ w3.heap.size := by omega
  have hlm : l.length ≤ 1000000 := by omega
  have hnv : (Value.slice a l.length cap).ownBlock ≠ some w3.heap.size := fun e => by have := hown3.out.lt _ e; omega
  have hbs5 : base ≤ w3.heap.size + 1 := by omega
  have H8 := Lib.hid h8
  clear h8
  have hn25 : w2.heap.size ≠ w.heap.size + 1 := by omega
  have hn25' : ¬ w.heap.size + 1 = w2.heap.size := by omega
  go_region_held3 (fun w' => w'.cell? ⟨w.heap.size, 0, none⟩ = some (.int .u8 kd) ∧ w'.cell? ⟨w.heap.size, 1, none⟩ = some (.string key) ∧ w'.cell? ⟨w.heap.size, 2, none⟩ = some (.string old) ∧ w'.cell? ⟨w.heap.size, 3, none⟩ = some (.string val) ∧
      w'.cell? ⟨w2.heap.size, 0, none⟩ = some (.int .i64 0) ∧ w'.cell? ⟨w2.heap.size, 1, none⟩ = some (.bool false) ∧ w'.cell? ⟨w2.heap.size, 2, none⟩ = some (.string ⟨#[]⟩))
    (first
      | exact ⟨d0, d1, d2, d3, r0, r1, r2⟩
      | (go_split_ands; refine ⟨?_, ?_, ?_, ?_, ?_, ?_, ?_⟩ <;> first | exact al_keepd (by assumption) | exact al_keep (by assumption) | exact gb_keep hg4 (by assumption) (by assumption))
      | go_keep)
    ((go_at_call 32; refine (insert_own base l.length (lo l key).length (.slice a l.length cap) (prs l) _ ?_ w3.heap.size (.string key) (.string val) 46 ?_ ?_ rfl rfl prs_one hlm hlo ?_).mono ?_; exact (hown3.out.alloc _).drew; exact heap_alloc_new w3 _; exact hnv; (first | exact hbs5 | (simp; exact hbs5)); rintro e w4 ⟨⟨v4, rfl, hown4⟩, hg4⟩; have P0 := gb_keep hg4 (al_keepd p0) hne; have P1 := gb_keep hg4 (al_keepd p1) hne; have P2 := gb_keep hg4 (al_keepd p2) hne; have Q0 := gb_keepf hg4 (al_keepd p0) (al_keepfd p0 q0) hne; have Q1 := gb_keepf hg4 (al_keepd p1) (al_keepfd p1 q1) hne; have Q2 := gb_keepf hg4 (al_keepd p2) (al_keepfd p2 q2) hne))
  go_wp2
  (try simp only [Exit.inBlock, Exit.then])
  refine bodyPost_ret (v := .tuple #[v4, rpV ⟨0, false, ⟨#[]⟩⟩]) ?hr rfl ⟨⟨_, rfl, ?_⟩, ?_⟩
  case hr =>
    simp only [results, Try.results26]
    go_simp
    try rfl
  · have hB : w4.heap[w.heap.size + 1]? = some (Obj.cells #[.int .i64 0, .bool false, .string ⟨#[]⟩] 30 (0, 0)) := (hg4.block (w.heap.size + 1) (by simp; omega) (fun e => hne e.symm)).trans ((heap_alloc_old w3 _ (by omega)).trans b5)
    have hne4 := own_ne hown4 hB (by decide)
    rw [HL.out, ← HP.out]
    repeat (first | exact hown4 | refine World.ownsRow.drew ?_ | refine owns_far ?_ hne4 _)
  · have hbwx : w.grownBy w4 (Value.slice a l.length cap).ownBlock := gb_trans (gb_drew (gb_alloc hbw4 _)) hg4 (fun k e => .inr e)
    (repeat' (first | (with_reducible exact World.grownBy.refl _ _) | (with_reducible assumption) | (with_reducible refine gb_alloc ?_ _) | (with_reducible refine gb_drew ?_) | (with_reducible refine gb_drewN ?_ _) | (with_reducible refine gb_setCell ?_ ?_ _) | (with_reducible refine gb_below ?_ (by assumption)) | exact .inl rfl | exact .inr (by first | (simp; done) | (simp; omega) | omega)))
end Go.Proofs.Ytiipelccmkidbaa
