/- Texts that the claim leans on, part 4: K11, K12, K13, K14, K1b, K15, K16, K17. -/
import Derived.Test.YtaojblejnpemkaaDoorZ1
import Derived.Test.YtaojblejnpemkaaDoorZ2
import Derived.Test.YtaojblejnpemkaaDoorZ3
import Derived.Test.YtaojblejnpemkaaDoorRows
import Derived.WalkKit
import Derived.WalkSpells
import Derived.WalkLawsBesides
import Derived.Handy
import Derived.Deep.QuietTactic
import Derived.BigQuiet
import Derived.Deep.DeepCutAuto
import Derived.Lib.Hide
import Derived.RegionTactic
import Derived.ChangeAlike
import Derived.Deep.RegionHeld3
import Derived.Laws.ResultCell
import Derived.Outline
import Derived.Laws.EntriesVeiled
import Derived.StillTailTactics
import Derived.Deep.RegionWith
import Derived.Laws.BitsAllLaws
import Derived.Laws.Shifts
import Derived.IntWalk
import Derived.Lib.Overlaps
import Derived.ProofKit
import Derived.OpenShut
import Derived.Laws.Strings
import Derived.Laws.CopyOwn
import Derived.Laws.CopyRow
import Derived.Laws.NewBlocks
import Derived.Deep.RegionLaw
namespace Go.Proofs.YtaojblejnpemkaaDoor
open Go.RowKit
def StRes (base : Nat) (l : List Pr) (r : Rp) (e : Ending) (w' : World) : Prop := ∃ v', e = .returned (.tuple #[v', rpV r]) ∧ w'.ownsRow base 72 2 v' l.length (prs l)
theorem owns_far {w : World} {base n size : Nat} {e : TypeId} {v : Value} {xs : List Value} (h : w.ownsRow base e size v n xs) {b j : Nat} (hne : v.ownBlock ≠ some b) (u : Value) : (w.setCell ⟨b, j, none⟩ u).ownsRow base e size v n xs :=
  h.kept (row := some b) ⟨rfl, rfl, rfl, by simp, fun k _ hk => heap_setCell_other w ⟨b, j, none⟩ k u (fun e => hk (by simp [e]))⟩ (.inr hne)
theorem prs_set {l : List Pr} {i : Nat} {k v u : Tx} (h : l[i]? = some (k, v)) : prs (l.set i (k, u)) = (prs l).set (i * 2 + 1) (.string u) := by
  induction l generalizing i with
  | nil => simp at h
  | cons p l ih =>
    cases i with
    | zero =>
      simp at h
      subst h
      rfl
    | succ i =>
      simp only [List.getElem?_cons_succ] at h
      have := ih h
      rw [show (i + 1) * 2 + 1 = i * 2 + 1 + 1 + 1 by omega]
      simp only [prs, List.set_cons_succ, List.flatMap_cons, List.cons_append, List.nil_append] at this ⊢
      rw [this]
set_option maxRecDepth 100000 in
set_option maxHeartbeats 2000000 in
theorem put_there_any (base : Nat) (v : Value) (l : List Pr) (o : Opn) (u : Tx) (w : World) (hown : w.ownsRow base 72 2 v l.length (prs l)) (hl : l.length ≤ 1000) (hso : Rises l) (hlk : look l o.key = some u) :
    Calls Tryd.prog 43 #[v, opV o] w fun e w' => StRes base (putL l o.key o.val) ⟨0, true, u⟩ e w' ∧ w.grownBy w' v.ownBlock := by
  obtain ⟨kd, key, old, val⟩ := o
  unfold opV
  simp only at hlk ⊢
  have hb0 : Below w.heap.size w ((w.alloc (Obj.cells #[.int .u8 kd, .string key, .string old, .string val] 34)).alloc (Obj.cells #[.int .i64 0, .bool false, .string ⟨#[]⟩] 36)) := ((Below.refl _ _).alloc (Nat.le_refl _) _).alloc (by simp) _
  have hat := at_yes hso hlk
  have hlo := (List.getElem?_eq_some_iff.1 hat).1
  obtain ⟨g, cap, rfl, _⟩ := owns_some hown (by omega)
  obtain ⟨a0, c0, hv0, hr, hcap, hmx⟩ := Row.of_owns hown
  injection hv0 with hv1 _ hv2
  subst hv1 hv2
  have hr0 := hr.below0 hb0
  have hh : hasK l key = true := by simp [hasK, hlk]
  have hw : wasR l key = ⟨0, true, u⟩ := by simp [wasR, hlk]
  have hset := prs_set (u := val) hat
  rw [put_there hso hlk] at hset
  have hlen : (putL l key val).length = l.length := by rw [← put_there hso hlk, List.length_set]
  have HH := Lib.hid hh
  have HS := Lib.hid hset
  have HL := Lib.hid hlen
  clear hh hset hat hlen
  go_enter Tryd.func43, Tryd.ntmps43
  refine wp_seq_k (fun K hK => ?_)
  have HK := Lib.hid hK
  clear hK
  go_wp2
  refine HK.out _ _ ?_
  clear HK
  refine wp_seq_k (fun K hK => ?_)
  have HK := Lib.hid hK
  clear hK
  go_wp2_with (go_at_call 51; refine (find_any _ _ _ _ _ hr0 (by omega) hso).mono ?_; rintro e w1 ⟨rfl, hb1⟩; rw [HH.out])
  refine HK.out _ _ ?_
  clear HK
  have hbw1 := hb0.trans (hb1.mono (by simp; omega))
  obtain ⟨d0, d1, d2, d3⟩ := four ((hb1.block w.heap.size (by simp; omega)).trans ((heap_alloc_old _ _ (by simp)).trans (heap_alloc_new _ _)))
  have hr1 := hr.below0 hbw1
  refine wp_seq_k (fun K hK => ?_)
  have HK := Lib.hid hK
  clear hK
  go_wp2_with (go_at_call 50; refine (was_any _ _ _ _ _ hr1 (by omega) hso _ hw).mono ?_; rintro e w2 ⟨rfl, hb2⟩; unfold rpV)
  refine HK.out _ _ ?_
  clear HK
  have hs1 := hb1.size
  simp at hs1
  have hs2 := hb2.size
  have hbw2 := hbw1.trans (hb2.mono (by omega))
  have hgs : g < w.heap.size := by
    have := hown.lt g rfl
    omega
  have hb23 : Below w2.heap.size w2 (w2.alloc (Obj.cells #[.int .i64 0, .bool true, .string u] 36)) := (Below.refl _ _).alloc (Nat.le_refl _) _
  have hbw3 := hbw2.trans (hb23.mono (by omega))
  have b3 := (hb23.block w.heap.size (by omega)).trans ((hb2.block w.heap.size (by omega)).trans ((hb1.block w.heap.size (by simp; omega)).trans ((heap_alloc_old _ _ (by simp)).trans (heap_alloc_new w (Obj.cells #[.int .u8 kd, .string key, .string old, .string val] 34)))))
  have b5 := (hb23.block (w.heap.size + 1) (by omega)).trans ((hb2.block (w.heap.size + 1) (by omega)).trans ((hb1.block (w.heap.size + 1) (by simp)).trans (heap_alloc2_new w _ (Obj.cells #[.int .i64 0, .bool false, .string ⟨#[]⟩] 36))))
  have b8 := heap_alloc_new w2 (Obj.cells #[.int .i64 0, .bool true, .string u] 36)
  have hown3 := owns_after hown hbw3
  have hs3 := hbw3.size
  clear d0 d1 d2 d3
  generalize w2.alloc (Obj.cells #[.int .i64 0, .bool true, .string u] 36) = w3 at *
  obtain ⟨d0, d1, d2, d3⟩ := four b3
  have ex : w3.cell? ⟨g, (lo l key).length * 2 + 1, none⟩ = some (.string u) := by
    rw [hown3.cellAt _ (by omega)]
    exact (prs_at (at_yes hso hlk)).2
  have fx : w3.frozen? ⟨g, (lo l key).length * 2 + 1, none⟩ = false := hown3.frozenAt _
  obtain ⟨hown4, hg4⟩ := hown3.stored ((lo l key).length * 2 + 1) (.string val)
  rw [← HS.out] at hown4
  have b5' := (heap_setCell_other w3 ⟨g, (lo l key).length * 2 + 1, none⟩ (w.heap.size + 1) (.string val) (by simp; omega)).trans b5
  have b8' := (heap_setCell_other w3 ⟨g, (lo l key).length * 2 + 1, none⟩ w2.heap.size (.string val) (by simp; omega)).trans b8
  have hbw4 : w.grownBy (w3.setCell ⟨g, (lo l key).length * 2 + 1, none⟩ (.string val)) (some g) := gb_setCell (gb_of_below hbw3 _) (.inl rfl) _
  have HL4 := Lib.hid hown4
  clear hown4 hown3 hlk hw
  go_wp2_with fail
  generalize w3.setCell ⟨g, (lo l key).length * 2 + 1, none⟩ (.string val) = w4 at *
  obtain ⟨p0, p1, p2, q0, q1, q2⟩ := trio b5'
  obtain ⟨r0, r1, r2, s0, s1, s2⟩ := trio b8'
  go_region
  go_wp2
  (try simp only [Exit.inBlock, Exit.then])
  refine bodyPost_ret (v := .tuple #[.slice (some ⟨g, 0, none⟩) l.length cap, rpV ⟨0, true, u⟩]) ?hr rfl ⟨⟨_, rfl, ?_⟩, ?_⟩
  case hr =>
    simp only [results, Tryd.results43]
    go_simp
    try rfl
  · rw [HL.out]
    repeat (first | exact HL4.out | refine World.ownsRow.drew ?_ | refine owns_far ?_ (by simp [Value.ownBlock]; omega) _)
  · show World.grownBy w _ (some g)
    (repeat' (first | (with_reducible exact World.grownBy.refl _ _) | (with_reducible assumption) | (with_reducible refine gb_alloc ?_ _) | (with_reducible refine gb_drew ?_) | (with_reducible refine gb_drewN ?_ _) | (with_reducible refine gb_setCell ?_ ?_ _) | (with_reducible refine gb_below ?_ (by assumption)) | exact .inl rfl | exact .inr (by first | (simp; done) | (simp; omega) | omega)))
end Go.Proofs.YtaojblejnpemkaaDoor
namespace Go.Proofs.YtaojblejnpemkaaDoor
open Go.RowKit
theorem gb_keep {x y : World} {r : Option Nat} (hg : x.grownBy y r) {p : Addr} {v : Value} (hc : x.cell? p = some v) (hne : r ≠ some p.block) : y.cell? p = some v := hg.cell hc (fun e => hne e.symm)
theorem gb_keepf {x y : World} {r : Option Nat} (hg : x.grownBy y r) {p : Addr} {v : Value} (hc : x.cell? p = some v) (hf : x.frozen? p = false) (hne : r ≠ some p.block) : y.frozen? p = false := by
  rw [World.frozen?_of_block (hg.block p.block (World.block_lt_of_cell? x p hc) (fun e => hne e.symm))]
  exact hf
theorem al_keepf {x : World} {p : Addr} {v : Value} {o : Obj} (hc : x.cell? p = some v) (hf : x.frozen? p = false) : (x.alloc o).frozen? p = false := gb_keepf (World.grownBy_alloc x o none) hc hf (by simp)
theorem al_keep {x : World} {p : Addr} {v : Value} {o : Obj} (hc : x.cell? p = some v) : (x.alloc o).cell? p = some v := gb_keep (World.grownBy_alloc x o none) hc (by simp)
theorem al_keepd {x : World} {p : Addr} {v : Value} {o : Obj} (hc : x.cell? p = some v) : (x.alloc o).drew.cell? p = some v := al_keep hc
theorem al_keepfd {x : World} {p : Addr} {v : Value} {o : Obj} (hc : x.cell? p = some v) (hf : x.frozen? p = false) : (x.alloc o).drew.frozen? p = false := al_keepf hc hf
theorem own_ne {w : World} {base n size g : Nat} {e t : TypeId} {v : Value} {xs : List Value} {cs : Array Value} (h : w.ownsRow base e size v n xs) (hg : w.heap[g]? = some (.cells cs t (0, 0))) (hne : e ≠ t) : v.ownBlock ≠ some g := by
  rcases h.2 with ⟨rfl, _⟩ | ⟨g', cap, cur, rfl, _, hh, _⟩
  · simp [Value.ownBlock]
  · intro he
    have : g' = g := by simpa [Value.ownBlock] using he
    subst this
    rw [hg] at hh
    injection hh with hh
    injection hh with _ ht
    exact hne ht.symm
set_option maxRecDepth 100000 in
set_option maxHeartbeats 2000000 in
theorem put_full_any (base : Nat) (a : Option Addr) (cap : Nat) (l : List Pr) (o : Opn) (w : World) (hown : w.ownsRow base 72 2 (.slice a l.length cap) l.length (prs l)) (hl : l.length = 8) (hso : Rises l) (hlk : look l o.key = none) :
    Calls Tryd.prog 43 #[.slice a l.length cap, opV o] w fun e w' => StRes base l ⟨211, false, ⟨#[]⟩⟩ e w' ∧ w.grownBy w' (Value.slice a l.length cap).ownBlock := by
  obtain ⟨kd, key, old, val⟩ := o
  unfold opV
  simp only at hlk ⊢
  have hb0 : Below w.heap.size w ((w.alloc (Obj.cells #[.int .u8 kd, .string key, .string old, .string val] 34)).alloc (Obj.cells #[.int .i64 0, .bool false, .string ⟨#[]⟩] 36)) := ((Below.refl _ _).alloc (Nat.le_refl _) _).alloc (by simp) _
  obtain ⟨a0, c0, hv0, hr, hcap, hmx⟩ := Row.of_owns hown
  injection hv0 with hv1 _ hv2
  subst hv1 hv2
  have hr0 := hr.below0 hb0
  have hh : hasK l key = false := by simp [hasK, hlk]
  have hw : wasR l key = ⟨0, false, ⟨#[]⟩⟩ := by simp [wasR, hlk]
  have h8 : ((l.length : Int) == 8) = true := by rw [hl]; rfl
  have HH := Lib.hid hh
  have HL := Lib.hid hl
  have hl2 : l.length ≤ 8 := by omega
  have HO := Lib.hid hown
  clear hh hl hown
  go_enter Tryd.func43, Tryd.ntmps43
  refine wp_seq_k (fun K hK => ?_)
  have HK := Lib.hid hK
  clear hK
  go_wp2
  refine HK.out _ _ ?_
  clear HK
  refine wp_seq_k (fun K hK => ?_)
  have HK := Lib.hid hK
  clear hK
  go_wp2_with (go_at_call 51; refine (find_any _ _ _ _ _ hr0 (by omega) hso).mono ?_; rintro e w1 ⟨rfl, hb1⟩; rw [HH.out])
  refine HK.out _ _ ?_
  clear HK
  have hbw1 := hb0.trans (hb1.mono (by simp; omega))
  obtain ⟨d0, d1, d2, d3⟩ := four ((hb1.block w.heap.size (by simp; omega)).trans ((heap_alloc_old _ _ (by simp)).trans (heap_alloc_new _ _)))
  have hr1 := hr.below0 hbw1
  refine wp_seq_k (fun K hK => ?_)
  have HK := Lib.hid hK
  clear hK
  go_wp2_with (go_at_call 50; refine (was_any _ _ _ _ _ hr1 (by omega) hso _ hw).mono ?_; rintro e w2 ⟨rfl, hb2⟩; unfold rpV)
  refine HK.out _ _ ?_
  clear HK
  have hs1 := hb1.size
  simp at hs1
  have hs2 := hb2.size
  have hbw2 := hbw1.trans (hb2.mono (by omega))
  have hb23 : Below w2.heap.size w2 (w2.alloc (Obj.cells #[.int .i64 0, .bool false, .string ⟨#[]⟩] 36)) := (Below.refl _ _).alloc (Nat.le_refl _) _
  have hbw3 := hbw2.trans (hb23.mono (by omega))
  have b5 := (hb23.block (w.heap.size + 1) (by omega)).trans ((hb2.block (w.heap.size + 1) (by omega)).trans ((hb1.block (w.heap.size + 1) (by simp)).trans (heap_alloc2_new w _ (Obj.cells #[.int .i64 0, .bool false, .string ⟨#[]⟩] 36))))
  have hown3 := Lib.hid (owns_after HO.out hbw3)
  have hs3 := hbw3.size
  clear d0 d1 d2 d3
  generalize w2.alloc (Obj.cells #[.int .i64 0, .bool false, .string ⟨#[]⟩] 36) = w3 at *
  obtain ⟨p0, p1, p2, q0, q1, q2⟩ := trio b5
  have hbw4 : w.grownBy w3 (Value.slice a l.length cap).ownBlock := gb_of_below hbw3 _
  have hne : (Value.slice a l.length cap).ownBlock ≠ some (w.heap.size + 1) := by
    intro e
    have := HO.out.lt _ e
    omega
  go_wp2
  (try simp only [Exit.inBlock, Exit.then])
  refine bodyPost_ret (v := .tuple #[.slice a l.length cap, rpV ⟨211, false, ⟨#[]⟩⟩]) ?hr rfl ⟨⟨_, rfl, ?_⟩, ?_⟩
  case hr =>
    simp only [results, Tryd.results43]
    go_simp
    try rfl
  · repeat (first | exact hown3.out | refine World.ownsRow.drew ?_ | refine owns_far ?_ hne _)
  · (repeat' (first | (with_reducible exact World.grownBy.refl _ _) | (with_reducible assumption) | (with_reducible refine gb_alloc ?_ _) | (with_reducible refine gb_drew ?_) | (with_reducible refine gb_drewN ?_ _) | (with_reducible refine gb_setCell ?_ ?_ _) | (with_reducible refine gb_below ?_ (by assumption)) | exact .inl rfl | exact .inr (by first | (simp; done) | (simp; omega) | omega)))
set_option maxRecDepth 100000 in
set_option maxHeartbeats 4000000 in
theorem put_new_any (base : Nat) (a : Option Addr) (cap : Nat) (l : List Pr) (o : Opn) (w : World) (hown : w.ownsRow base 72 2 (.slice a l.length cap) l.length (prs l)) (hbase : base ≤ w.heap.size) (hl : l.length ≤ 1000) (hl8 : l.length ≠ 8) (hso : Rises l) (hlk : look l o.key = none) :
    Calls Tryd.prog 43 #[.slice a l.length cap, opV o] w fun e w' => StRes base (putL l o.key o.val) ⟨0, false, ⟨#[]⟩⟩ e w' ∧ w.grownBy w' (Value.slice a l.length cap).ownBlock := by
  obtain ⟨kd, key, old, val⟩ := o
  unfold opV
  simp only at hlk ⊢
  have hb0 : Below w.heap.size w ((w.alloc (Obj.cells #[.int .u8 kd, .string key, .string old, .string val] 34)).alloc (Obj.cells #[.int .i64 0, .bool false, .string ⟨#[]⟩] 36)) := ((Below.refl _ _).alloc (Nat.le_refl _) _).alloc (by simp) _
  obtain ⟨a0, c0, hv0, hr, hcap, hmx⟩ := Row.of_owns hown
  injection hv0 with hv1 _ hv2
  subst hv1 hv2
  have hr0 := hr.below0 hb0
  have hh : hasK l key = false := by simp [hasK, hlk]
  have hw : wasR l key = ⟨0, false, ⟨#[]⟩⟩ := by simp [wasR, hlk]
  have h8 : ((l.length : Int) == 8) = false := by rw [beq_eq_false_iff_ne]; omega
  have hlo := lo_le l key
  have hput := put_new (w := val) hso hlk
  have hprs : (prs l).take ((lo l key).length * 2) ++ .string key :: .string val :: (prs l).drop ((lo l key).length * 2) = prs (putL l key val) := by
    rw [← hput]
    have e : prs l = prs (l.take (lo l key).length) ++ prs (l.drop (lo l key).length) := by rw [← prs_app, List.take_append_drop]
    have e2 : (lo l key).length * 2 = (prs (l.take (lo l key).length)).length := by rw [prs_len, List.length_take]; omega
    rw [e2, e, List.take_left, List.drop_left, prs_app]
    rfl
  have hlen : (putL l key val).length = l.length + 1 := by rw [len_put hso, if_pos hlk]
  have HP := Lib.hid hprs
  have HL := Lib.hid hlen
  have HH := Lib.hid hh
  have HO := Lib.hid hown
  clear hh hown hput hprs hlen
  go_enter Tryd.func43, Tryd.ntmps43
  refine wp_seq_k (fun K hK => ?_)
  have HK := Lib.hid hK
  clear hK
  go_wp2
  refine HK.out _ _ ?_
  clear HK
  refine wp_seq_k (fun K hK => ?_)
  have HK := Lib.hid hK
  clear hK
  go_wp2_with (go_at_call 51; refine (find_any _ _ _ _ _ hr0 (by omega) hso).mono ?_; rintro e w1 ⟨rfl, hb1⟩; rw [HH.out])
  refine HK.out _ _ ?_
  clear HK
  have hbw1 := hb0.trans (hb1.mono (by simp; omega))
  obtain ⟨d0, d1, d2, d3⟩ := four ((hb1.block w.heap.size (by simp; omega)).trans ((heap_alloc_old _ _ (by simp)).trans (heap_alloc_new _ _)))
  have hr1 := hr.below0 hbw1
  refine wp_seq_k (fun K hK => ?_)
  have HK := Lib.hid hK
  clear hK
  go_wp2_with (go_at_call 50; refine (was_any _ _ _ _ _ hr1 (by omega) hso _ hw).mono ?_; rintro e w2 ⟨rfl, hb2⟩; unfold rpV)
  refine HK.out _ _ ?_
  clear HK
  have hs1 := hb1.size
  simp at hs1
  have hs2 := hb2.size
  have hbw2 := hbw1.trans (hb2.mono (by omega))
  have hb23 : Below w2.heap.size w2 (w2.alloc (Obj.cells #[.int .i64 0, .bool false, .string ⟨#[]⟩] 36)) := (Below.refl _ _).alloc (Nat.le_refl _) _
  have hbw3 := hbw2.trans (hb23.mono (by omega))
  have b3 := (hb23.block w.heap.size (by omega)).trans ((hb2.block w.heap.size (by omega)).trans ((hb1.block w.heap.size (by simp; omega)).trans ((heap_alloc_old _ _ (by simp)).trans (heap_alloc_new w (Obj.cells #[.int .u8 kd, .string key, .string old, .string val] 34)))))
  have b5 := (hb23.block (w.heap.size + 1) (by omega)).trans ((hb2.block (w.heap.size + 1) (by omega)).trans ((hb1.block (w.heap.size + 1) (by simp)).trans (heap_alloc2_new w _ (Obj.cells #[.int .i64 0, .bool false, .string ⟨#[]⟩] 36))))
  have b8 := heap_alloc_new w2 (Obj.cells #[.int .i64 0, .bool false, .string ⟨#[]⟩] 36)
  have hown3 := Lib.hid (owns_after HO.out hbw3)
  have hs3 := hbw3.size
  have hs4 : w2.heap.size < (w2.alloc (Obj.cells #[.int .i64 0, .bool false, .string ⟨#[]⟩] 36)).heap.size := by simp
  clear d0 d1 d2 d3
  generalize w2.alloc (Obj.cells #[.int .i64 0, .bool false, .string ⟨#[]⟩] 36) = w3 at *
  obtain ⟨d0, d1, d2, d3⟩ := four b3
  obtain ⟨p0, p1, p2, q0, q1, q2⟩ := trio b5
  obtain ⟨r0, r1, r2, s0, s1, s2⟩ := trio b8
  have hbw4 : w.grownBy w3 (Value.slice a l.length cap).ownBlock := gb_of_below hbw3 _
  have hne : (Value.slice a l.length cap).ownBlock ≠ some (w.heap.size + 1) := by
    intro e
    have := HO.out.lt _ e
    omega
  go_wp2_with fail
  have hnw8 : (Value.slice a l.length cap).ownBlock ≠ some w2.heap.size := by
    intro e
    have := HO.out.lt _ e
    omega
  have hnw3 : (Value.slice a l.length cap).ownBlock ≠ some w.heap.size := by
    intro e
    have := HO.out.lt _ e
    omega
  have hbs3 : base ≤ w3.heap.size := by omega
  have hlm : l.length ≤ 1000000 := by omega
  have hnv : (Value.slice a l.length cap).ownBlock ≠ some w3.heap.size := fun e => by have := hown3.out.lt _ e; omega
  have hbs5 : base ≤ w3.heap.size + 1 := by omega
  have H8 := Lib.hid h8
  clear h8
  have hn25 : w2.heap.size ≠ w.heap.size + 1 := by omega
  have hn25' : ¬ w.heap.size + 1 = w2.heap.size := by omega
  go_region_held3 (fun w' => w'.cell? ⟨w.heap.size, 0, none⟩ = some (.int .u8 kd) ∧ w'.cell? ⟨w.heap.size, 1, none⟩ = some (.string key) ∧ w'.cell? ⟨w.heap.size, 2, none⟩ = some (.string old) ∧ w'.cell? ⟨w.heap.size, 3, none⟩ = some (.string val) ∧
      w'.cell? ⟨w2.heap.size, 0, none⟩ = some (.int .i64 0) ∧ w'.cell? ⟨w2.heap.size, 1, none⟩ = some (.bool false) ∧ w'.cell? ⟨w2.heap.size, 2, none⟩ = some (.string ⟨#[]⟩))
    (first
      | exact ⟨d0, d1, d2, d3, r0, r1, r2⟩
      | (go_split_ands; refine ⟨?_, ?_, ?_, ?_, ?_, ?_, ?_⟩ <;> first | exact al_keepd (by assumption) | exact al_keep (by assumption) | exact gb_keep hg4 (by assumption) (by assumption))
      | go_keep)
    ((go_at_call 52; refine (insert_own base l.length (lo l key).length (.slice a l.length cap) (prs l) _ ?_ w3.heap.size (.string key) (.string val) 72 ?_ ?_ rfl rfl prs_one hlm hlo ?_).mono ?_; exact (hown3.out.alloc _).drew; exact heap_alloc_new w3 _; exact hnv; (first | exact hbs5 | (simp; exact hbs5)); rintro e w4 ⟨⟨v4, rfl, hown4⟩, hg4⟩; have P0 := gb_keep hg4 (al_keepd p0) hne; have P1 := gb_keep hg4 (al_keepd p1) hne; have P2 := gb_keep hg4 (al_keepd p2) hne; have Q0 := gb_keepf hg4 (al_keepd p0) (al_keepfd p0 q0) hne; have Q1 := gb_keepf hg4 (al_keepd p1) (al_keepfd p1 q1) hne; have Q2 := gb_keepf hg4 (al_keepd p2) (al_keepfd p2 q2) hne))
  go_wp2
  (try simp only [Exit.inBlock, Exit.then])
  refine bodyPost_ret (v := .tuple #[v4, rpV ⟨0, false, ⟨#[]⟩⟩]) ?hr rfl ⟨⟨_, rfl, ?_⟩, ?_⟩
  case hr =>
    simp only [results, Tryd.results43]
    go_simp
    try rfl
  · have hB : w4.heap[w.heap.size + 1]? = some (Obj.cells #[.int .i64 0, .bool false, .string ⟨#[]⟩] 36 (0, 0)) := (hg4.block (w.heap.size + 1) (by simp; omega) (fun e => hne e.symm)).trans ((heap_alloc_old w3 _ (by omega)).trans b5)
    have hne4 := own_ne hown4 hB (by decide)
    rw [HL.out, ← HP.out]
    repeat (first | exact hown4 | refine World.ownsRow.drew ?_ | refine owns_far ?_ hne4 _)
  · have hbwx : w.grownBy w4 (Value.slice a l.length cap).ownBlock := gb_trans (gb_drew (gb_alloc hbw4 _)) hg4 (fun k e => .inr e)
    (repeat' (first | (with_reducible exact World.grownBy.refl _ _) | (with_reducible assumption) | (with_reducible refine gb_alloc ?_ _) | (with_reducible refine gb_drew ?_) | (with_reducible refine gb_drewN ?_ _) | (with_reducible refine gb_setCell ?_ ?_ _) | (with_reducible refine gb_below ?_ (by assumption)) | exact .inl rfl | exact .inr (by first | (simp; done) | (simp; omega) | omega)))
end Go.Proofs.YtaojblejnpemkaaDoor
namespace Go.Proofs.YtaojblejnpemkaaDoor
open Go.RowKit
theorem prs_del {l : List Pr} {i : Nat} (hi : i < l.length) : (prs l).take (i * 2) ++ (prs l).drop ((i + 1) * 2) = prs (l.take i ++ l.drop (i + 1)) := by
  have e : prs l = prs (l.take i) ++ prs (l.drop i) := by rw [← prs_app, List.take_append_drop]
  have e2 : prs l = prs (l.take (i + 1)) ++ prs (l.drop (i + 1)) := by rw [← prs_app, List.take_append_drop]
  have l1 : i * 2 = (prs (l.take i)).length := by rw [prs_len, List.length_take]; omega
  have l2 : (i + 1) * 2 = (prs (l.take (i + 1))).length := by rw [prs_len, List.length_take]; omega
  have f1 : (prs l).take (i * 2) = prs (l.take i) := by rw [l1, e, List.take_left]
  have f2 : (prs l).drop ((i + 1) * 2) = prs (l.drop (i + 1)) := by rw [l2, e2, List.drop_left]
  rw [f1, f2, prs_app]
set_option maxRecDepth 100000 in
set_option maxHeartbeats 4000000 in
theorem delete_none_any (base : Nat) (a : Option Addr) (cap : Nat) (l : List Pr) (o : Opn) (w : World) (hown : w.ownsRow base 72 2 (.slice a l.length cap) l.length (prs l)) (hl : l.length ≤ 1000) (hso : Rises l) (hlk : look l o.key = none) :
    Calls Tryd.prog 44 #[.slice a l.length cap, opV o] w fun e w' => StRes base l ⟨0, false, ⟨#[]⟩⟩ e w' ∧ w.grownBy w' (Value.slice a l.length cap).ownBlock := by
  obtain ⟨kd, key, old, val⟩ := o
  unfold opV
  simp only at hlk ⊢
  have hb0 : Below w.heap.size w ((w.alloc (Obj.cells #[.int .u8 kd, .string key, .string old, .string val] 34)).alloc (Obj.cells #[.int .i64 0, .bool false, .string ⟨#[]⟩] 36)) := ((Below.refl _ _).alloc (Nat.le_refl _) _).alloc (by simp) _
  obtain ⟨a0, c0, hv0, hr, hcap, hmx⟩ := Row.of_owns hown
  injection hv0 with hv1 _ hv2
  subst hv1 hv2
  have hr0 := hr.below0 hb0
  have hh : hasK l key = false := by simp [hasK, hlk]
  have hw : wasR l key = ⟨0, false, ⟨#[]⟩⟩ := by simp [wasR, hlk]
  have HH := Lib.hid hh
  have HO := Lib.hid hown
  clear hh hown
  go_enter Tryd.func44, Tryd.ntmps44
  refine wp_seq_k (fun K hK => ?_)
  have HK := Lib.hid hK
  clear hK
  go_wp2
  refine HK.out _ _ ?_
  clear HK
  refine wp_seq_k (fun K hK => ?_)
  have HK := Lib.hid hK
  clear hK
  go_wp2_with (go_at_call 50; refine (was_any _ _ _ _ _ hr0 (by omega) hso _ hw).mono ?_; rintro e w1 ⟨rfl, hb1⟩; unfold rpV)
  refine HK.out _ _ ?_
  clear HK
  have hbw1 := hb0.trans (hb1.mono (by simp; omega))
  have hb12 : Below w1.heap.size w1 (w1.alloc (Obj.cells #[.int .i64 0, .bool false, .string ⟨#[]⟩] 36)) := (Below.refl _ _).alloc (Nat.le_refl _) _
  have hs1 := hb1.size
  simp at hs1
  have hbw2 := hbw1.trans (hb12.mono (by omega))
  have b3 := (hb12.block w.heap.size (by omega)).trans ((hb1.block w.heap.size (by simp; omega)).trans ((heap_alloc_old _ _ (by simp)).trans (heap_alloc_new w (Obj.cells #[.int .u8 kd, .string key, .string old, .string val] 34))))
  have b5 := (hb12.block (w.heap.size + 1) (by omega)).trans ((hb1.block (w.heap.size + 1) (by simp)).trans (heap_alloc2_new w _ (Obj.cells #[.int .i64 0, .bool false, .string ⟨#[]⟩] 36)))
  have b6 := heap_alloc_new w1 (Obj.cells #[.int .i64 0, .bool false, .string ⟨#[]⟩] 36)
  have hs2 : w1.heap.size < (w1.alloc (Obj.cells #[.int .i64 0, .bool false, .string ⟨#[]⟩] 36)).heap.size := by simp
  generalize w1.alloc (Obj.cells #[.int .i64 0, .bool false, .string ⟨#[]⟩] 36) = w2 at *
  obtain ⟨d0, d1, d2, d3⟩ := four b3
  have hr2 := hr.below0 hbw2
  refine wp_seq_k (fun K hK => ?_)
  go_cut [0] (fun s wx => s = .slice a l.length cap ∧ Below w2.heap.size w2 wx)
  case first =>
    go_wp2_with (go_at_call 51; refine (find_any _ _ _ _ _ hr2 (by omega) hso).mono ?_; rintro e w3 ⟨rfl, hb3⟩; rw [HH.out])
    go_meet
    exact ⟨rfl, hb3⟩
  obtain ⟨rfl, hb3⟩ := hcut
  refine hK _ _ ?_; clear hK
  have b5' := (hb3.block (w.heap.size + 1) (by omega)).trans b5
  have b6' := (hb3.block w1.heap.size (by omega)).trans b6
  have hbw3 := hbw2.trans (hb3.mono (by omega))
  have hown3 := Lib.hid (owns_after HO.out hbw3)
  have hbw4 : w.grownBy wc (Value.slice a l.length cap).ownBlock := gb_of_below hbw3 _
  have hne : (Value.slice a l.length cap).ownBlock ≠ some (w.heap.size + 1) := by
    intro e
    have := HO.out.lt _ e
    omega
  obtain ⟨p0, p1, p2, q0, q1, q2⟩ := trio b5'
  obtain ⟨r0, r1, r2, s0, s1, s2⟩ := trio b6'
  go_wp2_with fail
  go_region
  go_wp2
  (try simp only [Exit.inBlock, Exit.then])
  refine bodyPost_ret (v := .tuple #[.slice a l.length cap, rpV ⟨0, false, ⟨#[]⟩⟩]) ?hr rfl ⟨⟨_, rfl, ?_⟩, ?_⟩
  case hr =>
    simp only [results, Tryd.results44]
    go_simp
    try rfl
  · repeat (first | exact hown3.out | refine World.ownsRow.drew ?_ | refine owns_far ?_ hne _)
  · (repeat' (first | (with_reducible exact World.grownBy.refl _ _) | (with_reducible assumption) | (with_reducible refine gb_alloc ?_ _) | (with_reducible refine gb_drew ?_) | (with_reducible refine gb_drewN ?_ _) | (with_reducible refine gb_setCell ?_ ?_ _) | (with_reducible refine gb_below ?_ (by assumption)) | exact .inl rfl | exact .inr (by first | (simp; done) | (simp; omega) | omega)))
set_option maxRecDepth 100000 in
set_option maxHeartbeats 4000000 in
theorem delete_there_any (base : Nat) (a : Option Addr) (cap : Nat) (l : List Pr) (o : Opn) (w : World) (hown : w.ownsRow base 72 2 (.slice a l.length cap) l.length (prs l)) (hbase : base ≤ w.heap.size) (hl : l.length ≤ 1000) (hso : Rises l) (u : Tx) (hlk : look l o.key = some u) :
    Calls Tryd.prog 44 #[.slice a l.length cap, opV o] w fun e w' => StRes base (delL l o.key) ⟨0, true, u⟩ e w' ∧ w.grownBy w' (Value.slice a l.length cap).ownBlock := by
  obtain ⟨kd, key, old, val⟩ := o
  unfold opV
  simp only at hlk ⊢
  have hb0 : Below w.heap.size w ((w.alloc (Obj.cells #[.int .u8 kd, .string key, .string old, .string val] 34)).alloc (Obj.cells #[.int .i64 0, .bool false, .string ⟨#[]⟩] 36)) := ((Below.refl _ _).alloc (Nat.le_refl _) _).alloc (by simp) _
  obtain ⟨a0, c0, hv0, hr, hcap, hmx⟩ := Row.of_owns hown
  injection hv0 with hv1 _ hv2
  subst hv1 hv2
  have hr0 := hr.below0 hb0
  have hh : hasK l key = true := by simp [hasK, hlk]
  have hw : wasR l key = ⟨0, true, u⟩ := by simp [wasR, hlk]
  have HH := Lib.hid hh
  have HO := Lib.hid hown
  clear hh hown
  go_enter Tryd.func44, Tryd.ntmps44
  refine wp_seq_k (fun K hK => ?_)
  have HK := Lib.hid hK
  clear hK
  go_wp2
  refine HK.out _ _ ?_
  clear HK
  refine wp_seq_k (fun K hK => ?_)
  have HK := Lib.hid hK
  clear hK
  go_wp2_with (go_at_call 50; refine (was_any _ _ _ _ _ hr0 (by omega) hso _ hw).mono ?_; rintro e w1 ⟨rfl, hb1⟩; unfold rpV)
  refine HK.out _ _ ?_
  clear HK
  have hbw1 := hb0.trans (hb1.mono (by simp; omega))
  have hb12 : Below w1.heap.size w1 (w1.alloc (Obj.cells #[.int .i64 0, .bool true, .string u] 36)) := (Below.refl _ _).alloc (Nat.le_refl _) _
  have hs1 := hb1.size
  simp at hs1
  have hbw2 := hbw1.trans (hb12.mono (by omega))
  have b3 := (hb12.block w.heap.size (by omega)).trans ((hb1.block w.heap.size (by simp; omega)).trans ((heap_alloc_old _ _ (by simp)).trans (heap_alloc_new w (Obj.cells #[.int .u8 kd, .string key, .string old, .string val] 34))))
  have b5 := (hb12.block (w.heap.size + 1) (by omega)).trans ((hb1.block (w.heap.size + 1) (by simp)).trans (heap_alloc2_new w _ (Obj.cells #[.int .i64 0, .bool false, .string ⟨#[]⟩] 36)))
  have b6 := heap_alloc_new w1 (Obj.cells #[.int .i64 0, .bool true, .string u] 36)
  have hs2 : w1.heap.size < (w1.alloc (Obj.cells #[.int .i64 0, .bool true, .string u] 36)).heap.size := by simp
  generalize w1.alloc (Obj.cells #[.int .i64 0, .bool true, .string u] 36) = w2 at *
  obtain ⟨d0, d1, d2, d3⟩ := four b3
  have hr2 := hr.below0 hbw2
  have hlo := (List.getElem?_eq_some_iff.1 (at_yes hso hlk)).1
  have hdel := del_there hso hlk
  have hprs := prs_del hlo
  rw [hdel] at hprs
  have hlen : (delL l key).length = l.length - 1 := by
    rw [← hdel, List.length_append, List.length_take, List.length_drop]
    omega
  have HP := Lib.hid hprs
  have HL := Lib.hid hlen
  have hlm : l.length ≤ 1000000 := by omega
  clear hdel hprs hlen hlk hw
  refine wp_seq_k (fun K hK => ?_)
  go_cut [0] (fun s wx => ∃ wy, Below w2.heap.size w2 wy ∧ wx.ownsRow base 72 2 s (l.length - 1) (prs (delL l key)) ∧ wy.grownBy wx (Value.slice a l.length cap).ownBlock)
  case first =>
    go_wp2_with (first
      | (go_at_call 51; refine (find_any _ _ _ _ _ hr2 (by omega) hso).mono ?_; rintro e w3 ⟨rfl, hb3⟩; rw [HH.out])
      | (go_at_call 53; refine (delete_own base l.length (lo l key).length (.slice a l.length cap) (prs l) _ (owns_after HO.out (hbw2.trans (hb3.mono (by omega)))) prs_one hlm hlo ?_).mono ?_; exact Nat.le_trans hbase (Nat.le_trans (hbw2.trans (hb3.mono (by omega))).size (Nat.le_refl _)); rintro e w4 ⟨⟨v4, rfl, hown4⟩, hg4⟩))
    go_meet
    rw [HP.out] at hown4
    exact ⟨w3, hb3, hown4, hg4⟩
  obtain ⟨wy, hb3, hown4, hg4⟩ := hcut
  refine hK _ _ ?_; clear hK
  have hne : (Value.slice a l.length cap).ownBlock ≠ some (w.heap.size + 1) := by
    intro e
    have := HO.out.lt _ e
    omega
  have hne6 : (Value.slice a l.length cap).ownBlock ≠ some w1.heap.size := by
    intro e
    have := HO.out.lt _ e
    omega
  have hs3 := hb3.size
  have b5' := (hg4.block (w.heap.size + 1) (by omega) (fun e => hne e.symm)).trans ((hb3.block (w.heap.size + 1) (by omega)).trans b5)
  have b6' := (hg4.block w1.heap.size (by omega) (fun e => hne6 e.symm)).trans ((hb3.block w1.heap.size (by omega)).trans b6)
  have hbw3 := hbw2.trans (hb3.mono (by omega))
  have hbw4 : w.grownBy wc (Value.slice a l.length cap).ownBlock := gb_trans (gb_of_below hbw3 _) hg4 (fun k e => .inr e)
  have hne4 := own_ne hown4 b5' (by decide)
  have HO4 := Lib.hid hown4
  clear hown4
  obtain ⟨p0, p1, p2, q0, q1, q2⟩ := trio b5'
  obtain ⟨r0, r1, r2, s0, s1, s2⟩ := trio b6'
  go_wp2_with fail
  go_region
  go_wp2
  (try simp only [Exit.inBlock, Exit.then])
  refine bodyPost_ret (v := .tuple #[u0, rpV ⟨0, true, u⟩]) ?hr rfl ⟨⟨_, rfl, ?_⟩, ?_⟩
  case hr =>
    simp only [results, Tryd.results44]
    go_simp
    try rfl
  · rw [HL.out]
    repeat (first | exact HO4.out | refine World.ownsRow.drew ?_ | refine owns_far ?_ hne4 _)
  · (repeat' (first | (with_reducible exact World.grownBy.refl _ _) | (with_reducible assumption) | (with_reducible refine gb_alloc ?_ _) | (with_reducible refine gb_drew ?_) | (with_reducible refine gb_drewN ?_ _) | (with_reducible refine gb_setCell ?_ ?_ _) | (with_reducible refine gb_below ?_ (by assumption)) | exact .inl rfl | exact .inr (by first | (simp; done) | (simp; omega) | omega)))
end Go.Proofs.YtaojblejnpemkaaDoor
namespace Go.Proofs.YtaojblejnpemkaaDoor
open Go.RowKit
set_option maxRecDepth 100000 in
set_option maxHeartbeats 4000000 in
theorem swap_none_any (base : Nat) (a : Option Addr) (cap : Nat) (l : List Pr) (o : Opn) (w : World) (hown : w.ownsRow base 72 2 (.slice a l.length cap) l.length (prs l)) (hl : l.length ≤ 1000) (hso : Rises l) (hlk : look l o.key = none) :
    Calls Tryd.prog 45 #[.slice a l.length cap, opV o] w fun e w' => StRes base l ⟨0, false, ⟨#[]⟩⟩ e w' ∧ w.grownBy w' (Value.slice a l.length cap).ownBlock := by
  obtain ⟨kd, key, old, val⟩ := o
  unfold opV
  simp only at hlk ⊢
  have hb0 : Below w.heap.size w ((w.alloc (Obj.cells #[.int .u8 kd, .string key, .string old, .string val] 34)).alloc (Obj.cells #[.int .i64 0, .bool false, .string ⟨#[]⟩] 36)) := ((Below.refl _ _).alloc (Nat.le_refl _) _).alloc (by simp) _
  obtain ⟨a0, c0, hv0, hr, hcap, hmx⟩ := Row.of_owns hown
  injection hv0 with hv1 _ hv2
  subst hv1 hv2
  have hr0 := hr.below0 hb0
  have hw : wasR l key = ⟨0, false, ⟨#[]⟩⟩ := by simp [wasR, hlk]
  have HO := Lib.hid hown
  clear hown
  go_enter Tryd.func45, Tryd.ntmps45
  refine wp_seq_k (fun K hK => ?_)
  have HK := Lib.hid hK
  clear hK
  go_wp2
  refine HK.out _ _ ?_
  clear HK
  refine wp_seq_k (fun K hK => ?_)
  have HK := Lib.hid hK
  clear hK
  go_wp2_with (go_at_call 50; refine (was_any _ _ _ _ _ hr0 (by omega) hso _ hw).mono ?_; rintro e w1 ⟨rfl, hb1⟩; unfold rpV)
  refine HK.out _ _ ?_
  clear HK
  have hbw1 := hb0.trans (hb1.mono (by simp; omega))
  have hb12 : Below w1.heap.size w1 (w1.alloc (Obj.cells #[.int .i64 0, .bool false, .string ⟨#[]⟩] 36)) := (Below.refl _ _).alloc (Nat.le_refl _) _
  have hs1 := hb1.size
  simp at hs1
  have hbw2 := hbw1.trans (hb12.mono (by omega))
  have b3 := (hb12.block w.heap.size (by omega)).trans ((hb1.block w.heap.size (by simp; omega)).trans ((heap_alloc_old _ _ (by simp)).trans (heap_alloc_new w (Obj.cells #[.int .u8 kd, .string key, .string old, .string val] 34))))
  have b5 := (hb12.block (w.heap.size + 1) (by omega)).trans ((hb1.block (w.heap.size + 1) (by simp)).trans (heap_alloc2_new w _ (Obj.cells #[.int .i64 0, .bool false, .string ⟨#[]⟩] 36)))
  have b6 := heap_alloc_new w1 (Obj.cells #[.int .i64 0, .bool false, .string ⟨#[]⟩] 36)
  have hs2 : w1.heap.size < (w1.alloc (Obj.cells #[.int .i64 0, .bool false, .string ⟨#[]⟩] 36)).heap.size := by simp
  generalize w1.alloc (Obj.cells #[.int .i64 0, .bool false, .string ⟨#[]⟩] 36) = w2 at *
  obtain ⟨d0, d1, d2, d3⟩ := four b3
  have hne : (Value.slice a l.length cap).ownBlock ≠ some (w.heap.size + 1) := by
    intro e
    have := HO.out.lt _ e
    omega
  have hne6 : (Value.slice a l.length cap).ownBlock ≠ some w1.heap.size := by
    intro e
    have := HO.out.lt _ e
    omega
  obtain ⟨r0, r1, r2, s0, s1, s2⟩ := trio b6
  have hown3 := Lib.hid (owns_after HO.out hbw2)
  have hbw4 : w.grownBy (w2.setCell ⟨w1.heap.size, 1, none⟩ (.bool false)) (Value.slice a l.length cap).ownBlock := gb_setCell (gb_of_below hbw2 _) (.inr (by simp; omega)) _
  have b5' := (heap_setCell_other w2 ⟨w1.heap.size, 1, none⟩ (w.heap.size + 1) (.bool false) (by simp; omega)).trans b5
  have b6' : (w2.setCell ⟨w1.heap.size, 1, none⟩ (.bool false)).heap[w1.heap.size]? = some (.cells #[.int .i64 0, .bool false, .string ⟨#[]⟩] 36 (0, 0)) := heap_setCell_same w2 w1.heap.size 1 _ _ _ b6
  have hown4 := Lib.hid (owns_far hown3.out hne6 (.bool false) (j := 1))
  go_wp2_with fail
  generalize w2.setCell ⟨w1.heap.size, 1, none⟩ (.bool false) = w4 at *
  clear r0 r1 r2 s0 s1 s2
  obtain ⟨p0, p1, p2, q0, q1, q2⟩ := trio b5'
  obtain ⟨r0, r1, r2, s0, s1, s2⟩ := trio b6'
  go_region
  go_wp2
  (try simp only [Exit.inBlock, Exit.then])
  refine bodyPost_ret (v := .tuple #[.slice a l.length cap, rpV ⟨0, false, ⟨#[]⟩⟩]) ?hr rfl ⟨⟨_, rfl, ?_⟩, ?_⟩
  case hr =>
    simp only [results, Tryd.results45]
    go_simp
    try rfl
  · repeat (first | exact hown4.out | refine World.ownsRow.drew ?_ | refine owns_far ?_ hne _)
  · (repeat' (first | (with_reducible exact World.grownBy.refl _ _) | (with_reducible assumption) | (with_reducible refine gb_alloc ?_ _) | (with_reducible refine gb_drew ?_) | (with_reducible refine gb_drewN ?_ _) | (with_reducible refine gb_setCell ?_ ?_ _) | (with_reducible refine gb_below ?_ (by assumption)) | exact .inl rfl | exact .inr (by first | (simp; done) | (simp; omega) | omega)))
set_option maxRecDepth 100000 in
set_option maxHeartbeats 4000000 in
theorem swap_other_any (base : Nat) (a : Option Addr) (cap : Nat) (l : List Pr) (o : Opn) (w : World) (hown : w.ownsRow base 72 2 (.slice a l.length cap) l.length (prs l)) (hl : l.length ≤ 1000) (hso : Rises l) (u : Tx) (hlk : look l o.key = some u) (hou : u ≠ o.old) :
    Calls Tryd.prog 45 #[.slice a l.length cap, opV o] w fun e w' => StRes base l ⟨0, false, u⟩ e w' ∧ w.grownBy w' (Value.slice a l.length cap).ownBlock := by
  obtain ⟨kd, key, old, val⟩ := o
  unfold opV
  simp only at hlk ⊢
  have hb0 : Below w.heap.size w ((w.alloc (Obj.cells #[.int .u8 kd, .string key, .string old, .string val] 34)).alloc (Obj.cells #[.int .i64 0, .bool false, .string ⟨#[]⟩] 36)) := ((Below.refl _ _).alloc (Nat.le_refl _) _).alloc (by simp) _
  obtain ⟨a0, c0, hv0, hr, hcap, hmx⟩ := Row.of_owns hown
  injection hv0 with hv1 _ hv2
  subst hv1 hv2
  have hr0 := hr.below0 hb0
  have hw : wasR l key = ⟨0, true, u⟩ := by simp [wasR, hlk]
  have HO := Lib.hid hown
  clear hown
  have huo : (u.toList == old.toList) = false := by rw [tx_eq]; exact decide_eq_false hou
  have HU := Lib.hid hou
  clear hou
  go_enter Tryd.func45, Tryd.ntmps45
  refine wp_seq_k (fun K hK => ?_)
  have HK := Lib.hid hK
  clear hK
  go_wp2
  refine HK.out _ _ ?_
  clear HK
  refine wp_seq_k (fun K hK => ?_)
  have HK := Lib.hid hK
  clear hK
  go_wp2_with (go_at_call 50; refine (was_any _ _ _ _ _ hr0 (by omega) hso _ hw).mono ?_; rintro e w1 ⟨rfl, hb1⟩; unfold rpV)
  refine HK.out _ _ ?_
  clear HK
  have hbw1 := hb0.trans (hb1.mono (by simp; omega))
  have hb12 : Below w1.heap.size w1 (w1.alloc (Obj.cells #[.int .i64 0, .bool true, .string u] 36)) := (Below.refl _ _).alloc (Nat.le_refl _) _
  have hs1 := hb1.size
  simp at hs1
  have hbw2 := hbw1.trans (hb12.mono (by omega))
  have b3 := (hb12.block w.heap.size (by omega)).trans ((hb1.block w.heap.size (by simp; omega)).trans ((heap_alloc_old _ _ (by simp)).trans (heap_alloc_new w (Obj.cells #[.int .u8 kd, .string key, .string old, .string val] 34))))
  have b5 := (hb12.block (w.heap.size + 1) (by omega)).trans ((hb1.block (w.heap.size + 1) (by simp)).trans (heap_alloc2_new w _ (Obj.cells #[.int .i64 0, .bool false, .string ⟨#[]⟩] 36)))
  have b6 := heap_alloc_new w1 (Obj.cells #[.int .i64 0, .bool true, .string u] 36)
  have hs2 : w1.heap.size < (w1.alloc (Obj.cells #[.int .i64 0, .bool true, .string u] 36)).heap.size := by simp
  generalize w1.alloc (Obj.cells #[.int .i64 0, .bool true, .string u] 36) = w2 at *
  obtain ⟨d0, d1, d2, d3⟩ := four b3
  have hne : (Value.slice a l.length cap).ownBlock ≠ some (w.heap.size + 1) := by
    intro e
    have := HO.out.lt _ e
    omega
  have hne6 : (Value.slice a l.length cap).ownBlock ≠ some w1.heap.size := by
    intro e
    have := HO.out.lt _ e
    omega
  obtain ⟨r0, r1, r2, s0, s1, s2⟩ := trio b6
  have hown3 := Lib.hid (owns_after HO.out hbw2)
  have hbw4 : w.grownBy (w2.setCell ⟨w1.heap.size, 1, none⟩ (.bool false)) (Value.slice a l.length cap).ownBlock := gb_setCell (gb_of_below hbw2 _) (.inr (by simp; omega)) _
  have b5' := (heap_setCell_other w2 ⟨w1.heap.size, 1, none⟩ (w.heap.size + 1) (.bool false) (by simp; omega)).trans b5
  have b6' : (w2.setCell ⟨w1.heap.size, 1, none⟩ (.bool false)).heap[w1.heap.size]? = some (.cells #[.int .i64 0, .bool false, .string u] 36 (0, 0)) := heap_setCell_same w2 w1.heap.size 1 _ _ _ b6
  have hown4 := Lib.hid (owns_far hown3.out hne6 (.bool false) (j := 1))
  go_wp2_with fail
  generalize w2.setCell ⟨w1.heap.size, 1, none⟩ (.bool false) = w4 at *
  clear r0 r1 r2 s0 s1 s2
  obtain ⟨p0, p1, p2, q0, q1, q2⟩ := trio b5'
  obtain ⟨r0, r1, r2, s0, s1, s2⟩ := trio b6'
  go_region
  go_wp2
  (try simp only [Exit.inBlock, Exit.then])
  refine bodyPost_ret (v := .tuple #[.slice a l.length cap, rpV ⟨0, false, u⟩]) ?hr rfl ⟨⟨_, rfl, ?_⟩, ?_⟩
  case hr =>
    simp only [results, Tryd.results45]
    go_simp
    try rfl
  · repeat (first | exact hown4.out | refine World.ownsRow.drew ?_ | refine owns_far ?_ hne _)
  · (repeat' (first | (with_reducible exact World.grownBy.refl _ _) | (with_reducible assumption) | (with_reducible refine gb_alloc ?_ _) | (with_reducible refine gb_drew ?_) | (with_reducible refine gb_drewN ?_ _) | (with_reducible refine gb_setCell ?_ ?_ _) | (with_reducible refine gb_below ?_ (by assumption)) | exact .inl rfl | exact .inr (by first | (simp; done) | (simp; omega) | omega)))
set_option maxRecDepth 100000 in
set_option maxHeartbeats 4000000 in
theorem swap_yes_any (base : Nat) (a : Option Addr) (cap : Nat) (l : List Pr) (o : Opn) (w : World) (hown : w.ownsRow base 72 2 (.slice a l.length cap) l.length (prs l)) (hl : l.length ≤ 1000) (hso : Rises l) (hlk : look l o.key = some o.old) :
    Calls Tryd.prog 45 #[.slice a l.length cap, opV o] w fun e w' => StRes base (putL l o.key o.val) ⟨0, true, o.old⟩ e w' ∧ w.grownBy w' (Value.slice a l.length cap).ownBlock := by
  obtain ⟨kd, key, old, val⟩ := o
  unfold opV
  simp only at hlk ⊢
  have hb0 : Below w.heap.size w ((w.alloc (Obj.cells #[.int .u8 kd, .string key, .string old, .string val] 34)).alloc (Obj.cells #[.int .i64 0, .bool false, .string ⟨#[]⟩] 36)) := ((Below.refl _ _).alloc (Nat.le_refl _) _).alloc (by simp) _
  obtain ⟨a0, c0, hv0, hr, hcap, hmx⟩ := Row.of_owns hown
  injection hv0 with hv1 _ hv2
  subst hv1 hv2
  have hr0 := hr.below0 hb0
  have hw : wasR l key = ⟨0, true, old⟩ := by simp [wasR, hlk]
  have HO := Lib.hid hown
  clear hown
  have huo : (old.toList == old.toList) = true := by simp
  go_enter Tryd.func45, Tryd.ntmps45
  refine wp_seq_k (fun K hK => ?_)
  have HK := Lib.hid hK
  clear hK
  go_wp2
  refine HK.out _ _ ?_
  clear HK
  refine wp_seq_k (fun K hK => ?_)
  have HK := Lib.hid hK
  clear hK
  go_wp2_with (go_at_call 50; refine (was_any _ _ _ _ _ hr0 (by omega) hso _ hw).mono ?_; rintro e w1 ⟨rfl, hb1⟩; unfold rpV)
  refine HK.out _ _ ?_
  clear HK
  have hbw1 := hb0.trans (hb1.mono (by simp; omega))
  have hb12 : Below w1.heap.size w1 (w1.alloc (Obj.cells #[.int .i64 0, .bool true, .string old] 36)) := (Below.refl _ _).alloc (Nat.le_refl _) _
  have hs1 := hb1.size
  simp at hs1
  have hbw2 := hbw1.trans (hb12.mono (by omega))
  have b3 := (hb12.block w.heap.size (by omega)).trans ((hb1.block w.heap.size (by simp; omega)).trans ((heap_alloc_old _ _ (by simp)).trans (heap_alloc_new w (Obj.cells #[.int .u8 kd, .string key, .string old, .string val] 34))))
  have b5 := (hb12.block (w.heap.size + 1) (by omega)).trans ((hb1.block (w.heap.size + 1) (by simp)).trans (heap_alloc2_new w _ (Obj.cells #[.int .i64 0, .bool false, .string ⟨#[]⟩] 36)))
  have b6 := heap_alloc_new w1 (Obj.cells #[.int .i64 0, .bool true, .string old] 36)
  have hs2 : w1.heap.size < (w1.alloc (Obj.cells #[.int .i64 0, .bool true, .string old] 36)).heap.size := by simp
  generalize w1.alloc (Obj.cells #[.int .i64 0, .bool true, .string old] 36) = w2 at *
  obtain ⟨d0, d1, d2, d3⟩ := four b3
  have hne : (Value.slice a l.length cap).ownBlock ≠ some (w.heap.size + 1) := by
    intro e
    have := HO.out.lt _ e
    omega
  have hne6 : (Value.slice a l.length cap).ownBlock ≠ some w1.heap.size := by
    intro e
    have := HO.out.lt _ e
    omega
  have hown2 := owns_after HO.out hbw2
  have HP := Lib.hid (put_there_any base (.slice a l.length cap) l ⟨kd, key, old, val⟩ old w2 hown2 hl hso hlk)
  unfold opV at HP
  clear hown2
  obtain ⟨r0, r1, r2, s0, s1, s2⟩ := trio b6
  refine wp_seq_k (fun K hK => ?_)
  have HK := Lib.hid hK
  clear hK
  go_wp2
  refine HK.out _ _ ?_
  clear HK
  refine wp_seq_k (fun K hK => ?_)
  go_cut [0] (fun s wx => wx.ownsRow base 72 2 s (putL l key val).length (prs (putL l key val)) ∧ w2.grownBy wx (Value.slice a l.length cap).ownBlock)
  case first =>
    go_wp2_with (go_at_call 43; refine HP.out.mono ?_; rintro e w4 ⟨⟨v4, rfl, hown4⟩, hg4⟩; unfold rpV)
    go_meet
    exact ⟨hown4, hg4⟩
  obtain ⟨hown4, hg4⟩ := hcut
  refine hK _ _ ?_; clear hK
  have b5' := (hg4.block (w.heap.size + 1) (by omega) (fun e => hne e.symm)).trans b5
  have b6' := (hg4.block w1.heap.size (by omega) (fun e => hne6 e.symm)).trans b6
  have hbw4 : w.grownBy wc (Value.slice a l.length cap).ownBlock := gb_trans (gb_of_below hbw2 _) hg4 (fun k e => .inr e)
  have hne4 := own_ne hown4 b5' (by decide)
  have HO4 := Lib.hid hown4
  clear hown4 r0 r1 r2 s0 s1 s2
  obtain ⟨p0, p1, p2, q0, q1, q2⟩ := trio b5'
  obtain ⟨r0, r1, r2, s0, s1, s2⟩ := trio b6'
  go_wp2_with fail
  go_region
  go_wp2
  (try simp only [Exit.inBlock, Exit.then])
  refine bodyPost_ret (v := .tuple #[u0, rpV ⟨0, true, old⟩]) ?hr rfl ⟨⟨_, rfl, ?_⟩, ?_⟩
  case hr =>
    simp only [results, Tryd.results45]
    go_simp
    try rfl
  · repeat (first | exact HO4.out | refine World.ownsRow.drew ?_ | refine owns_far ?_ hne4 _)
  · (repeat' (first | (with_reducible exact World.grownBy.refl _ _) | (with_reducible assumption) | (with_reducible refine gb_alloc ?_ _) | (with_reducible refine gb_drew ?_) | (with_reducible refine gb_drewN ?_ _) | (with_reducible refine gb_setCell ?_ ?_ _) | (with_reducible refine gb_below ?_ (by assumption)) | exact .inl rfl | exact .inr (by first | (simp; done) | (simp; omega) | omega)))
end Go.Proofs.YtaojblejnpemkaaDoor
namespace Go.Proofs.YtaojblejnpemkaaDoor
open Go.RowKit
theorem good_zero {l : List Pr} {y : Pr} (h : l[0]? = some y) : goodAt l 0 = (keyOk y.1 && valOk y.2) := by simp [goodAt, h]
theorem good_succ {l : List Pr} {j : Nat} {x y : Pr} (hx : l[j]? = some x) (hy : l[j + 1]? = some y) : goodAt l (j + 1) = (keyOk y.1 && valOk y.2 && kl x.1 y.1) := by simp [goodAt, hx, hy]
theorem mayS_bad {l : List Pr} {k : Nat} (hk : k < l.length) (h : goodAt l k = false) : mayS l = false := by
  unfold mayS
  rw [goods_false hk h, Bool.and_false]
theorem mayS_len {l : List Pr} (h : goods l l.length = true) : mayS l = decide (l.length ≤ 8) := by
  unfold mayS
  rw [h, Bool.and_true]
set_option maxHeartbeats 4000000 in
theorem may_any (a : Option Addr) (cap : Nat) (l : List Pr) (w : World) (hr : Row w a (prs l)) (hl : l.length ≤ 1000) :
    Calls Tryd.prog 28 #[.slice a l.length cap] w fun e w' => e = .returned (.bool (mayS l)) ∧ Below w.heap.size w w' := by
  go_enter Tryd.func28, Tryd.ntmps28
  refine wp_seq_k (fun K hK => ?_)
  have HK := Lib.hid hK
  clear hK
  go_wp2
  refine HK.out _ _ ?_
  clear HK
  refine wp_seq_k (fun K hK => ?_)
  go_cut [] (fun wx => goods l l.length = true ∧ Below w.heap.size w wx)
  case first =>
    go_wp2_with fail
    go_loopw [7] (fun i wr => ∃ k : Nat, k ≤ l.length ∧ i = .int .i64 k ∧ goods l k = true ∧ Below w.heap.size w wr) (fun i _ => l.length - (intOf i).toNat)
    case atStart => exact ⟨0, by omega, rfl, goods_zero l, Below.refl _ _⟩
    case round =>
      obtain ⟨k, hk, rfl, hg, hbr⟩ := hrel
      by_cases hlt : k < l.length
      · obtain ⟨bb, off, rfl, hblt, hcs⟩ := (hr.below0 hbr).pair (List.getElem?_eq_getElem hlt)
        obtain ⟨c0, c1⟩ := hcs _ _ (List.getElem?_eq_getElem hlt)
        have hgs := goods_succ l k
        have hbad := Lib.hid (mayS_bad hlt)
        have hal : Below w.heap.size w (wr.alloc (Obj.cells #[.string l[k].1, .string l[k].2] 72)) := hbr.alloc hbr.size _
        have hne : bb ≠ wr.heap.size := by omega
        cases k with
        | zero =>
          simp only [Nat.zero_mul, Nat.add_zero] at c0 c1
          have hgo := good_zero (List.getElem?_eq_getElem hlt)
          clear hcs
          generalize l[0] = y at *
          obtain ⟨y1, y2⟩ := y
          cases h1 : keyOk y1 <;> cases h2 : valOk y2
          all_goals
            rw [h1, h2] at hgo
            simp only [Bool.and_true, Bool.and_false, Bool.and_self] at hgo
            rw [hgo] at hgs
            have HG := Lib.hid hgo
            simp only [Bool.and_true, Bool.and_false, hg] at hgs
            clear hgo
            go_wp2_with fail
            go_quiet ((first | (go_at_call 40; exact quiet_same (key_any _ _)) | (go_at_call 41; exact quiet_same (value_any _ _))))
            go_wp2
            first
              | (go_ret; exact ⟨ret_bool (hbad.out HG.out).symm, below_drewN hal _⟩)
              | skip
          go_roundw
          case rel => exact ⟨1, by omega, rfl, hgs, below_drewN hal _⟩
          case measure => simp [intOf]; omega
        | succ j =>
          have hjl : j < l.length := by omega
          have hgo := good_succ (List.getElem?_eq_getElem hjl) (List.getElem?_eq_getElem hlt)
          obtain ⟨d0, d1⟩ := hcs _ _ (List.getElem?_eq_getElem hjl)
          clear hcs
          generalize l[j + 1] = y at *
          generalize l[j] = x at *
          obtain ⟨y1, y2⟩ := y
          obtain ⟨x1, x2⟩ := x
          have hkl : kl x1 y1 = Op.bytesLess x1.toList y1.toList := rfl
          simp only [hkl] at hgo
          clear hkl
          cases h1 : keyOk y1 <;> cases h2 : valOk y2 <;> cases h3 : Op.bytesLess x1.toList y1.toList
          all_goals
            rw [h1, h2, h3] at hgo
            simp only [Bool.and_true, Bool.and_false, Bool.and_self] at hgo
            rw [hgo] at hgs
            have HG := Lib.hid hgo
            simp only [Bool.and_true, Bool.and_false, hg] at hgs
            clear hgo
            go_wp2_with fail
            go_quiet ((first | (go_at_call 40; exact quiet_same (key_any _ _)) | (go_at_call 41; exact quiet_same (value_any _ _))))
            go_wp2
            first
              | (go_ret; exact ⟨ret_bool (hbad.out HG.out).symm, below_drewN hal _⟩)
              | skip
          go_roundw
          case rel => exact ⟨j + 1 + 1, by omega, by go_num, hgs, below_drewN hal _⟩
          case measure => simp [intOf]; omega
      · go_wp2
        go_meet
        exact ⟨by rw [show l.length = k by omega]; exact hg, hbr⟩
  obtain ⟨hg, hbx⟩ := hcut
  have HG := Lib.hid (mayS_len hg)
  clear hg
  refine hK _ _ ?_; clear hK
  go_wp2
  go_returns
  exact ⟨ret_bool (by rw [HG.out]; first | (simp; done) | (simp; omega)), hbx⟩
end Go.Proofs.YtaojblejnpemkaaDoor
namespace Go.Proofs.YtaojblejnpemkaaDoor
open Go.RowKit
abbrev fnV (f : FuncId) : Value := .func (.func f) #[] #[]
def doesV : Value := .agg #[.nilFunc, fnV 42, fnV 43, fnV 44, fnV 45]
set_option maxRecDepth 100000 in
theorem does_any (w : World) : Calls Tryd.prog 30 #[] w fun e w' => e = .returned doesV ∧ Below w.heap.size w w' := by
  go_enter Tryd.func30, Tryd.ntmps30
  go_wp2
  (try simp only [Exit.inBlock, Exit.then])
  refine bodyPost_ret (v := doesV) ?hr rfl ⟨rfl, ?_⟩
  case hr =>
    simp only [results, Tryd.results30]
    go_simp
    try rfl
  (repeat' (first | (with_reducible exact Below.refl _ _) | (with_reducible assumption) | (with_reducible refine Below.alloc ?_ ?_ _) | (with_reducible refine Below.drew ?_) | (with_reducible refine below_drewN ?_ _) | (with_reducible refine Below.setCell ?_ ?_ _) | (with_reducible refine Below.trans ?_ (by assumption)) | go_size))
end Go.Proofs.YtaojblejnpemkaaDoor
namespace Go.Proofs.YtaojblejnpemkaaDoor
open Go.RowKit
def ActRes (base : Nat) (v : Value) (w : World) (lr : List Pr × Rp) (e : Ending) (w' : World) : Prop := StRes base lr.1 lr.2 e w' ∧ w.grownBy w' v.ownBlock
section
variable (base : Nat) (a : Option Addr) (cap : Nat) (l : List Pr) (o : Opn) (w : World) (hown : w.ownsRow base 72 2 (.slice a l.length cap) l.length (prs l)) (hbase : base ≤ w.heap.size) (hl : l.length ≤ 1000) (hso : Rises l)
include hown hl hso
theorem get_own : Calls Tryd.prog 42 #[.slice a l.length cap, opV o] w (ActRes base (.slice a l.length cap) w (l, wasR l o.key)) := by
  obtain ⟨a0, c0, hv0, hr, hcap, hmx⟩ := Row.of_owns hown
  injection hv0 with hv1 _ hv2
  subst hv1 hv2
  refine (get_any a cap l o w hr (by omega) hso _ rfl).mono ?_
  rintro e w' ⟨rfl, hb⟩
  exact ⟨⟨_, rfl, owns_after hown hb⟩, gb_of_below hb _⟩
include hbase
theorem put_own : Calls Tryd.prog 43 #[.slice a l.length cap, opV o] w (ActRes base (.slice a l.length cap) w (if look l o.key = none ∧ l.length = 8 then (l, ⟨211, false, ⟨#[]⟩⟩) else (putL l o.key o.val, wasR l o.key))) := by
  cases hlk : look l o.key with
  | none =>
    have hw : wasR l o.key = ⟨0, false, ⟨#[]⟩⟩ := by simp [wasR, hlk]
    by_cases h8 : l.length = 8
    · rw [if_pos ⟨rfl, h8⟩]
      exact put_full_any base a cap l o w hown h8 hso hlk
    · rw [if_neg (fun h => h8 h.2), hw]
      exact put_new_any base a cap l o w hown hbase hl h8 hso hlk
  | some u =>
    have hw : wasR l o.key = ⟨0, true, u⟩ := by simp [wasR, hlk]
    rw [if_neg (fun h => by cases h.1), hw]
    exact put_there_any base _ l o u w hown hl hso hlk
theorem del_own : Calls Tryd.prog 44 #[.slice a l.length cap, opV o] w (ActRes base (.slice a l.length cap) w (delL l o.key, wasR l o.key)) := by
  cases hlk : look l o.key with
  | none =>
    have hw : wasR l o.key = ⟨0, false, ⟨#[]⟩⟩ := by simp [wasR, hlk]
    rw [hw, del_none hso hlk]
    exact delete_none_any base a cap l o w hown hl hso hlk
  | some u =>
    have hw : wasR l o.key = ⟨0, true, u⟩ := by simp [wasR, hlk]
    rw [hw]
    exact delete_there_any base a cap l o w hown hbase hl hso u hlk
omit hbase
theorem swap_own : Calls Tryd.prog 45 #[.slice a l.length cap, opV o] w (ActRes base (.slice a l.length cap) w (if look l o.key = some o.old then (putL l o.key o.val, wasR l o.key) else (l, { wasR l o.key with found := false }))) := by
  cases hlk : look l o.key with
  | none =>
    have hw : wasR l o.key = ⟨0, false, ⟨#[]⟩⟩ := by simp [wasR, hlk]
    rw [if_neg (by simp), hw]
    exact swap_none_any base a cap l o w hown hl hso hlk
  | some u =>
    have hw : wasR l o.key = ⟨0, true, u⟩ := by simp [wasR, hlk]
    by_cases hu : u = o.old
    · subst hu
      rw [if_pos rfl, hw]
      exact swap_yes_any base a cap l o w hown hl hso hlk
    · rw [if_neg (fun e => hu (Option.some.inj e)), hw]
      exact swap_other_any base a cap l o w hown hl hso u hlk hu
end
@[go_sem] theorem index_does1 (w : World) : (Instr.index 73 doesV (.int .u8 1)).run Tryd.prog w = .ok (fnV 42) w := by kernel_rfl
@[go_sem] theorem index_does2 (w : World) : (Instr.index 73 doesV (.int .u8 2)).run Tryd.prog w = .ok (fnV 43) w := by kernel_rfl
@[go_sem] theorem index_does3 (w : World) : (Instr.index 73 doesV (.int .u8 3)).run Tryd.prog w = .ok (fnV 44) w := by kernel_rfl
@[go_sem] theorem index_does4 (w : World) : (Instr.index 73 doesV (.int .u8 4)).run Tryd.prog w = .ok (fnV 45) w := by kernel_rfl
end Go.Proofs.YtaojblejnpemkaaDoor
namespace Go.Proofs.YtaojblejnpemkaaDoor
open Go.RowKit
theorem keep_b {x y : World} (hb : Below x.heap.size x y) {p : Addr} {v : Value} (hc : x.cell? p = some v) : y.cell? p = some v := (hb.cell (World.block_lt_of_cell? x p hc)).trans hc
theorem keep_bf {x y : World} (hb : Below x.heap.size x y) {p : Addr} {v : Value} (hc : x.cell? p = some v) (hf : x.frozen? p = false) : y.frozen? p = false := (hb.frozen (World.block_lt_of_cell? x p hc)).trans hf
set_option maxRecDepth 100000 in
set_option maxHeartbeats 4000000 in
theorem do_nomay (a : Option Addr) (cap : Nat) (l : List Pr) (k : Int) (key old val : Tx) (w : World) (hs : SlP w a cap l) (hl : l.length ≤ 1000) (hm : mayS l = false) :
    Calls Tryd.prog 17 #[.slice a l.length cap, .agg #[.int .u8 k, .string key, .string old, .string val]] w fun e w' => StRes w.heap.size [] ⟨2, false, ⟨#[]⟩⟩ e w' ∧ Below w.heap.size w w' := by
  have hb0 : Below w.heap.size w ((w.alloc (Obj.cells #[.int .u8 k, .string key, .string old, .string val] 34)).alloc (Obj.cells #[.int .i64 0, .bool false, .string ⟨#[]⟩] 36)) := ((Below.refl _ _).alloc (Nat.le_refl _) _).alloc (by simp) _
  have hr0 := hs.row.below0 hb0
  have HM := Lib.hid hm
  clear hm
  go_enter Tryd.func17, Tryd.ntmps17
  refine wp_seq_k (fun K hK => ?_)
  have HK := Lib.hid hK
  clear hK
  go_wp2
  refine HK.out _ _ ?_
  clear HK
  go_wp2_with (go_at_call 28; refine (may_any _ _ _ _ hr0 hl).mono ?_; rintro e w1 ⟨rfl, hb1⟩; rw [HM.out]; obtain ⟨p0, p1, p2, q0, q1, q2⟩ := trio ((hb1.block (w.heap.size + 1) (by simp)).trans (heap_alloc2_new w _ (Obj.cells #[.int .i64 0, .bool false, .string ⟨#[]⟩] 36))); have hbw1 := hb0.trans (hb1.mono (by simp; omega)))
  (try simp only [Exit.inBlock, Exit.then])
  refine bodyPost_ret (v := .tuple #[.slice none 0 0, rpV ⟨2, false, ⟨#[]⟩⟩]) ?hr rfl ⟨⟨_, rfl, World.ownsRow_nil _ _ _ _⟩, ?_⟩
  case hr =>
    simp only [results, Tryd.results17]
    go_simp
    try rfl
  (repeat' (first | (with_reducible exact Below.refl _ _) | (with_reducible assumption) | (with_reducible refine Below.alloc ?_ ?_ _) | (with_reducible refine Below.drew ?_) | (with_reducible refine below_drewN ?_ _) | (with_reducible refine Below.setCell ?_ ?_ _) | (with_reducible refine Below.trans ?_ (by assumption)) | go_size))
set_option maxRecDepth 100000 in
set_option maxHeartbeats 4000000 in
theorem do_badop (a : Option Addr) (cap : Nat) (l : List Pr) (k : Int) (key old val : Tx) (w : World) (hs : SlP w a cap l) (hl : l.length ≤ 1000) (hm : mayS l = true) (ho : mayO ⟨k, key, old, val⟩ = false) :
    Calls Tryd.prog 17 #[.slice a l.length cap, .agg #[.int .u8 k, .string key, .string old, .string val]] w fun e w' => StRes w.heap.size l ⟨210, false, ⟨#[]⟩⟩ e w' ∧ Below w.heap.size w w' := by
  have hb0 : Below w.heap.size w ((w.alloc (Obj.cells #[.int .u8 k, .string key, .string old, .string val] 34)).alloc (Obj.cells #[.int .i64 0, .bool false, .string ⟨#[]⟩] 36)) := ((Below.refl _ _).alloc (Nat.le_refl _) _).alloc (by simp) _
  have hr0 := hs.row.below0 hb0
  have HM := Lib.hid hm
  have HOP := Lib.hid ho
  clear hm ho
  go_enter Tryd.func17, Tryd.ntmps17
  refine wp_seq_k (fun K hK => ?_)
  have HK := Lib.hid hK
  clear hK
  go_wp2
  refine HK.out _ _ ?_
  clear HK
  refine wp_seq_k (fun K hK => ?_)
  have HK := Lib.hid hK
  clear hK
  go_wp2_with (go_at_call 28; refine (may_any _ _ _ _ hr0 hl).mono ?_; rintro e w1 ⟨rfl, hb1⟩; rw [HM.out])
  refine HK.out _ _ ?_
  clear HK
  have hbw1 := hb0.trans (hb1.mono (by simp; omega))
  have hs1 := hb1.size
  simp at hs1
  have b3 := (hb1.block w.heap.size (by simp; omega)).trans ((heap_alloc_old _ _ (by simp)).trans (heap_alloc_new w (Obj.cells #[.int .u8 k, .string key, .string old, .string val] 34)))
  have b5 := (hb1.block (w.heap.size + 1) (by simp)).trans (heap_alloc2_new w _ (Obj.cells #[.int .i64 0, .bool false, .string ⟨#[]⟩] 36))
  have hs1' := hs.below hbw1
  refine wp_seq_k (fun K hK => ?_)
  have HK := Lib.hid hK
  clear hK
  go_wp2_with (go_at_call 29; refine (clone_any _ _ _ _ hs1' hl).mono ?_; rintro e w2 ⟨⟨v2, rfl, hown2⟩, hb2⟩)
  refine HK.out _ _ ?_
  clear HK
  have b3' := (hb2.block w.heap.size (by omega)).trans b3
  have b5' := (hb2.block (w.heap.size + 1) (by omega)).trans b5
  have hs2 := hb2.size
  have hbw2 := hbw1.trans (hb2.mono (by omega))
  have hown := owns_mono hown2 (show w.heap.size ≤ w1.heap.size by omega)
  obtain ⟨d0, d1, d2, d3⟩ := four b3'
  have HO := Lib.hid hown
  have HO2 := Lib.hid hown2
  clear hown hown2
  go_wp2_with (go_at_call 27; refine (pmayO_any _ _ _ _ _ _ HOP.out).mono ?_; rintro e w3 ⟨rfl, hb3⟩; obtain ⟨p0, p1, p2, q0, q1, q2⟩ := trio ((hb3.block (w.heap.size + 1) (by omega)).trans b5'); have hbw3 := hbw2.trans (hb3.mono (by omega)))
  have hown3 := owns_after HO.out hb3
  have hne : v2.ownBlock ≠ some (w.heap.size + 1) := by
    intro e
    have := (HO2.out.lt _ e).1
    omega
  (try simp only [Exit.inBlock, Exit.then])
  refine bodyPost_ret (v := .tuple #[v2, rpV ⟨210, false, ⟨#[]⟩⟩]) ?hr rfl ⟨⟨_, rfl, ?_⟩, ?_⟩
  case hr =>
    simp only [results, Tryd.results17]
    go_simp
    try rfl
  · repeat (first | exact hown3 | refine World.ownsRow.drew ?_ | refine owns_far ?_ hne _)
  · (repeat' (first | (with_reducible exact Below.refl _ _) | (with_reducible assumption) | (with_reducible refine Below.alloc ?_ ?_ _) | (with_reducible refine Below.drew ?_) | (with_reducible refine below_drewN ?_ _) | (with_reducible refine Below.setCell ?_ ?_ _) | (with_reducible refine Below.trans ?_ (by assumption)) | go_size))
end Go.Proofs.YtaojblejnpemkaaDoor
