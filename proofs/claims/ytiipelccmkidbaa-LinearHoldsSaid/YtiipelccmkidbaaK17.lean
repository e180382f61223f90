/- Do. -/
import Derived.Test.YtiipelccmkidbaaK16
import Derived.Test.YtiipelccmkidbaaRows
import Derived.WalkKit
import Derived.WalkSpells
import Derived.WalkLawsBesides
import Derived.Handy
import Derived.Deep.QuietTactic
import Derived.BigQuiet
import Derived.Deep.DeepCutAuto
import Derived.Lib.Hide
import Derived.RegionTactic
import Derived.ChangeAlike
import Derived.Deep.RegionHeld3
import Derived.Laws.ResultCell
import Derived.Outline
import Derived.Laws.EntriesVeiled
namespace Go.Proofs.Ytiipelccmkidbaa
open Go.RowKit

theorem keep_b {x y : World} (hb : Below x.heap.size x y) {p : Addr} {v : Value} (hc : x.cell? p = some v) : y.cell? p = some v := (hb.cell (World.block_lt_of_cell? x p hc)).trans hc
theorem keep_bf {x y : World} (hb : Below x.heap.size x y) {p : Addr} {v : Value} (hc : x.cell? p = some v) (hf : x.frozen? p = false) : y.frozen? p = false := (hb.frozen (World.block_lt_of_cell? x p hc)).trans hf

set_option maxRecDepth 100000 in
set_option maxHeartbeats 4000000 in
theorem do_nomay (a : Option Addr) (cap : Nat) (l : List Pr) (k : Int) (key old val : Tx) (w : World) (hs : SlP w a cap l) (hl : l.length ≤ 1000) (hm : mayS l = false) :
    Calls Try.prog 8 #[.slice a l.length cap, .agg #[.int .u8 k, .string key, .string old, .string val]] w fun e w' => StRes w.heap.size [] ⟨2, false, ⟨#[]⟩⟩ e w' ∧ Below w.heap.size w w' := by
  have hb0 : Below w.heap.size w ((w.alloc (Obj.cells #[.int .u8 k, .string key, .string old, .string val] 27)).alloc (Obj.cells #[.int .i64 0, .bool false, .string ⟨#[]⟩] 30)) := ((Below.refl _ _).alloc (Nat.le_refl _) _).alloc (by simp) _
  have hr0 := hs.row.below0 hb0
  have HM := Lib.hid hm
  clear hm
  go_enter Try.func8, Try.ntmps8
  refine wp_seq_k (fun K hK => ?_)
  have HK := Lib.hid hK
  clear hK
  go_wp2
  refine HK.out _ _ ?_
  clear HK
  go_wp2_with (go_at_call 13; refine (may_any _ _ _ _ hr0 hl).mono ?_; rintro e w1 ⟨rfl, hb1⟩; rw [HM.out]; obtain ⟨p0, p1, p2, q0, q1, q2⟩ := trio ((hb1.block (w.heap.size + 1) (by simp)).trans (heap_alloc2_new w _ (Obj.cells #[.int .i64 0, .bool false, .string ⟨#[]⟩] 30))); have hbw1 := hb0.trans (hb1.mono (by simp; omega)))
  (try simp only [Exit.inBlock, Exit.then])
  refine bodyPost_ret (v := .tuple #[.slice none 0 0, rpV ⟨2, false, ⟨#[]⟩⟩]) ?hr rfl ⟨⟨_, rfl, World.ownsRow_nil _ _ _ _⟩, ?_⟩
  case hr =>
    simp only [results, Try.results8]
    go_simp
    try rfl
  (repeat' (first | (with_reducible exact Below.refl _ _) | (with_reducible assumption) | (with_reducible refine Below.alloc ?_ ?_ _) | (with_reducible refine Below.drew ?_) | (with_reducible refine below_drewN ?_ _) | (with_reducible refine Below.setCell ?_ ?_ _) | (with_reducible refine Below.trans ?_ (by assumption)) | go_size))

set_option maxRecDepth 100000 in
set_option maxHeartbeats 4000000 in
theorem do_badop (a : Option Addr) (cap : Nat) (l : List Pr) (k : Int) (key old val : Tx) (w : World) (hs : SlP w a cap l) (hl : l.length ≤ 1000) (hm : mayS l = true) (ho : mayO ⟨k, key, old, val⟩ = false) :
    Calls Try.prog 8 #[.slice a l.length cap, .agg #[.int .u8 k, .string key, .string old, .string val]] w fun e w' => StRes w.heap.size l ⟨210, false, ⟨#[]⟩⟩ e w' ∧ Below w.heap.size w w' := by
  have hb0 : Below w.heap.size w ((w.alloc (Obj.cells #[.int .u8 k, .string key, .string old, .string val] 27)).alloc (Obj.cells #[.int .i64 0, .bool false, .string ⟨#[]⟩] 30)) := ((Below.refl _ _).alloc (Nat.le_refl _) _).alloc (by simp) _
  have hr0 := hs.row.below0 hb0
  have HM := Lib.hid hm
  have HOP := Lib.hid ho
  clear hm ho
  go_enter Try.func8, Try.ntmps8
  refine wp_seq_k (fun K hK => ?_)
  have HK := Lib.hid hK
  clear hK
  go_wp2
  refine HK.out _ _ ?_
  clear HK
  refine wp_seq_k (fun K hK => ?_)
  have HK := Lib.hid hK
  clear hK
  go_wp2_with (go_at_call 13; refine (may_any _ _ _ _ hr0 hl).mono ?_; rintro e w1 ⟨rfl, hb1⟩; rw [HM.out])
  refine HK.out _ _ ?_
  clear HK
  have hbw1 := hb0.trans (hb1.mono (by simp; omega))
  have hs1 := hb1.size
  simp at hs1
  have b3 := (hb1.block w.heap.size (by simp; omega)).trans ((heap_alloc_old _ _ (by simp)).trans (heap_alloc_new w (Obj.cells #[.int .u8 k, .string key, .string old, .string val] 27)))
  have b5 := (hb1.block (w.heap.size + 1) (by simp)).trans (heap_alloc2_new w _ (Obj.cells #[.int .i64 0, .bool false, .string ⟨#[]⟩] 30))
  have hs1' := hs.below hbw1
  refine wp_seq_k (fun K hK => ?_)
  have HK := Lib.hid hK
  clear hK
  go_wp2_with (go_at_call 14; refine (clone_any _ _ _ _ hs1' hl).mono ?_; rintro e w2 ⟨⟨v2, rfl, hown2⟩, hb2⟩)
  refine HK.out _ _ ?_
  clear HK
  have b3' := (hb2.block w.heap.size (by omega)).trans b3
  have b5' := (hb2.block (w.heap.size + 1) (by omega)).trans b5
  have hs2 := hb2.size
  have hbw2 := hbw1.trans (hb2.mono (by omega))
  have hown := owns_mono hown2 (show w.heap.size ≤ w1.heap.size by omega)
  obtain ⟨d0, d1, d2, d3⟩ := four b3'
  have HO := Lib.hid hown
  have HO2 := Lib.hid hown2
  clear hown hown2
  go_wp2_with (go_at_call 15; refine (pmayO_any _ _ _ _ _ _ HOP.out).mono ?_; rintro e w3 ⟨rfl, hb3⟩; obtain ⟨p0, p1, p2, q0, q1, q2⟩ := trio ((hb3.block (w.heap.size + 1) (by omega)).trans b5'); have hbw3 := hbw2.trans (hb3.mono (by omega)))
  have hown3 := owns_after HO.out hb3
  have hne : v2.ownBlock ≠ some (w.heap.size + 1) := by
    intro e
    have := (HO2.out.lt _ e).1
    omega
  (try simp only [Exit.inBlock, Exit.then])
  refine bodyPost_ret (v := .tuple #[v2, rpV ⟨210, false, ⟨#[]⟩⟩]) ?hr rfl ⟨⟨_, rfl, ?_⟩, ?_⟩
  case hr =>
    simp only [results, Try.results8]
    go_simp
    try rfl
  · repeat (first | exact hown3 | refine World.ownsRow.drew ?_ | refine owns_far ?_ hne _)
  · (repeat' (first | (with_reducible exact Below.refl _ _) | (with_reducible assumption) | (with_reducible refine Below.alloc ?_ ?_ _) | (with_reducible refine Below.drew ?_) | (with_reducible refine below_drewN ?_ _) | (with_reducible refine Below.setCell ?_ ?_ _) | (with_reducible refine Below.trans ?_ (by assumption)) | go_size))
end Go.Proofs.Ytiipelccmkidbaa
