/- The reference's Do. -/
import Derived.Test.YtiipelccmkidbaaK17
import Derived.Test.YtiipelccmkidbaaK5d
import Derived.Test.YtiipelccmkidbaaK9
import Derived.Test.YtiipelccmkidbaaRows
import Derived.WalkKit
import Derived.WalkSpells
import Derived.WalkLawsBesides
import Derived.Handy
import Derived.Deep.QuietTactic
import Derived.BigQuiet
import Derived.Deep.DeepCutAuto
import Derived.Lib.Hide
import Derived.RegionTactic
import Derived.ChangeAlike
import Derived.Deep.RegionHeld3
import Derived.Laws.ResultCell
import Derived.Outline
namespace Go.Proofs.Ytiipelccmkidbaa
open Go.RowKit

theorem blk_drewN {w : World} {i : Nat} {o : Obj} (m : Nat) (h : w.heap[i]? = some o) : (w.drewN m).heap[i]? = some o := h
theorem blw1 (w : World) (o : Obj) : Below w.heap.size w (w.alloc o) := (Below.refl _ _).alloc (Nat.le_refl _) _
def SeenK (l : List Pr) (key : Tx) (k : Nat) (x : Option Tx) : Prop := x = look l key ∨ (x = none ∧ ∀ p ∈ l.take k, p.1 ≠ key)
theorem seen_zero (l : List Pr) (key : Tx) : SeenK l key 0 none := .inr ⟨rfl, by simp⟩
theorem seen_hit {l : List Pr} (hr : Rises l) {k : Nat} {p : Pr} (h : l[k]? = some p) {key : Tx} (he : p.1 = key) : SeenK l key (k + 1) (some p.2) := by
  left
  subst he
  exact (look_mem hr (List.mem_of_getElem? h)).symm
theorem seen_miss {l : List Pr} {k : Nat} {p : Pr} (h : l[k]? = some p) {key : Tx} (he : p.1 ≠ key) {x : Option Tx} (hx : SeenK l key k x) : SeenK l key (k + 1) x := by
  rcases hx with hx | ⟨rfl, hx⟩
  · exact .inl hx
  · refine .inr ⟨rfl, fun q hq => ?_⟩
    rw [List.take_add_one, h] at hq
    simp only [Option.toList, List.mem_append, List.mem_singleton] at hq
    rcases hq with hq | rfl
    · exact hx q hq
    · exact he
theorem seen_end {l : List Pr} {key : Tx} {x : Option Tx} (hx : SeenK l key l.length x) : x = look l key := by
  rcases hx with hx | ⟨rfl, hx⟩
  · exact hx
  · rw [List.take_length] at hx
    unfold look
    have : mid l key = [] := by
      unfold mid
      exact filter_none fun q hq => decide_eq_false (hx q hq)
    rw [this]
    rfl

def rpC (x : Option Tx) : Array Value := #[.int .i64 0, .bool x.isSome, .string (x.getD ⟨#[]⟩)]
def wasBox (w : World) (g : Nat) (x : Option Tx) : Prop := w.heap[g]? = some (.cells (rpC x) 30 (0, 0))
theorem wasBox_set {w : World} {g : Nat} {x : Option Tx} (h : wasBox w g x) (u : Tx) : wasBox (((w.setCell ⟨g, 0, none⟩ (.int .i64 0)).setCell ⟨g, 1, none⟩ (.bool true)).setCell ⟨g, 2, none⟩ (.string u)) g (some u) := by
  unfold wasBox at *
  have h1 := heap_setCell_same w g 0 _ _ (.int .i64 0) h
  have h2 := heap_setCell_same _ g 1 _ _ (.bool true) h1
  have h3 := heap_setCell_same _ g 2 _ _ (.string u) h2
  exact h3



set_option maxRecDepth 100000 in
set_option maxHeartbeats 4000000 in
theorem rdo_nomay (a : Option Addr) (cap : Nat) (l : List Pr) (k : Int) (key old val : Tx) (w : World) (hs : SlP w a cap l) (hl : l.length ≤ 1000) (hsm : ∀ p ∈ l, p.1.size ≤ 100000) (hm : mayS l = false) :
    Calls Try.prog 10 #[.slice a l.length cap, .agg #[.int .u8 k, .string key, .string old, .string val]] w fun e w' => StRes w.heap.size [] ⟨2, false, ⟨#[]⟩⟩ e w' ∧ Below w.heap.size w w' := by
  have hb0 : Below w.heap.size w ((w.alloc (Obj.cells #[.int .u8 k, .string key, .string old, .string val] 27)).alloc (Obj.cells #[.int .i64 0, .bool false, .string ⟨#[]⟩] 30)) := ((Below.refl _ _).alloc (Nat.le_refl _) _).alloc (by simp) _
  have hr0 := hs.row.below0 hb0
  have b5 := heap_alloc2_new w (Obj.cells #[.int .u8 k, .string key, .string old, .string val] 27) (Obj.cells #[.int .i64 0, .bool false, .string ⟨#[]⟩] 30)
  have HM := Lib.hid hm
  clear hm
  go_enter Try.func10, Try.ntmps10
  refine wp_seq_k (fun K hK => ?_)
  have HK := Lib.hid hK
  clear hK
  go_wp2
  refine HK.out _ _ ?_
  clear HK
  go_wp2_with (go_at_call 18; refine (rmay_any _ _ _ _ hr0 hl hsm).mono ?_; rintro e w1 ⟨rfl, m, rfl⟩; rw [HM.out]; obtain ⟨p0, p1, p2, q0, q1, q2⟩ := trio (blk_drewN m b5))
  (try simp only [Exit.inBlock, Exit.then])
  refine bodyPost_ret (v := .tuple #[.slice none 0 0, rpV ⟨2, false, ⟨#[]⟩⟩]) ?hr rfl ⟨⟨_, rfl, World.ownsRow_nil _ _ _ _⟩, ?_⟩
  case hr =>
    simp only [results, Try.results10]
    go_simp
    try rfl
  (repeat' (first | (with_reducible exact Below.refl _ _) | (with_reducible assumption) | (with_reducible refine Below.alloc ?_ ?_ _) | (with_reducible refine Below.drew ?_) | (with_reducible refine below_drewN ?_ _) | (with_reducible refine Below.setCell ?_ ?_ _) | (with_reducible refine Below.trans ?_ (by assumption)) | go_size))

set_option maxRecDepth 100000 in
set_option maxHeartbeats 4000000 in
theorem rdo_badop (a : Option Addr) (cap : Nat) (l : List Pr) (k : Int) (key old val : Tx) (w : World) (hs : SlP w a cap l) (hl : l.length ≤ 1000) (hsm : ∀ p ∈ l, p.1.size ≤ 100000) (hm : mayS l = true) (ho : mayO ⟨k, key, old, val⟩ = false) :
    Calls Try.prog 10 #[.slice a l.length cap, .agg #[.int .u8 k, .string key, .string old, .string val]] w fun e w' => StRes w.heap.size l ⟨210, false, ⟨#[]⟩⟩ e w' ∧ Below w.heap.size w w' := by
  have hb0 : Below w.heap.size w ((w.alloc (Obj.cells #[.int .u8 k, .string key, .string old, .string val] 27)).alloc (Obj.cells #[.int .i64 0, .bool false, .string ⟨#[]⟩] 30)) := ((Below.refl _ _).alloc (Nat.le_refl _) _).alloc (by simp) _
  have hr0 := hs.row.below0 hb0
  have b3 : ((w.alloc (Obj.cells #[.int .u8 k, .string key, .string old, .string val] 27)).alloc (Obj.cells #[.int .i64 0, .bool false, .string ⟨#[]⟩] 30)).heap[w.heap.size]? = _ := ((heap_alloc_old _ _ (by simp)).trans (heap_alloc_new w (Obj.cells #[.int .u8 k, .string key, .string old, .string val] 27)))
  have b5 := heap_alloc2_new w (Obj.cells #[.int .u8 k, .string key, .string old, .string val] 27) (Obj.cells #[.int .i64 0, .bool false, .string ⟨#[]⟩] 30)
  have HM := Lib.hid hm
  have HOP := Lib.hid ho
  clear hm ho
  go_enter Try.func10, Try.ntmps10
  refine wp_seq_k (fun K hK => ?_)
  have HK := Lib.hid hK
  clear hK
  go_wp2
  refine HK.out _ _ ?_
  clear HK
  refine wp_seq_k (fun K hK => ?_)
  have HK := Lib.hid hK
  clear hK
  go_wp2_with (go_at_call 18; refine (rmay_any _ _ _ _ hr0 hl hsm).mono ?_; rintro e w1 ⟨rfl, m, rfl⟩; rw [HM.out])
  refine HK.out _ _ ?_
  clear HK
  have hb1 := below_drewN hb0 m
  have b3 := blk_drewN m b3
  have b5 := blk_drewN m b5
  have hs1 : w.heap.size + 2 ≤ (World.drewN ((w.alloc (Obj.cells #[.int .u8 k, .string key, .string old, .string val] 27)).alloc (Obj.cells #[.int .i64 0, .bool false, .string ⟨#[]⟩] 30)) m).heap.size := by simp
  generalize World.drewN ((w.alloc (Obj.cells #[.int .u8 k, .string key, .string old, .string val] 27)).alloc (Obj.cells #[.int .i64 0, .bool false, .string ⟨#[]⟩] 30)) m = w1 at *
  have hsl1 := hs.below hb1
  obtain ⟨d0, d1, d2, d3⟩ := four b3
  go_wp2_with (first
    | (go_at_call 19; refine (rmayO_any _ _ _ _ _ _ HOP.out).mono ?_; rintro e w2 ⟨rfl, hb2⟩)
    | (go_at_call 20; refine (rcopy_any _ _ _ _ (hsl1.below hb2) hl).mono ?_; rintro e w3 ⟨⟨v3, rfl, hown3⟩, hb3⟩; have hb13 := hb2.trans (hb3.mono hb2.size); obtain ⟨p0, p1, p2, q0, q1, q2⟩ := trio ((hb13.block (w.heap.size + 1) (by omega)).trans b5)))
  have hne := own_ne hown3 ((hb13.block (w.heap.size + 1) (by omega)).trans b5) (by decide)
  (try simp only [Exit.inBlock, Exit.then])
  refine bodyPost_ret (v := .tuple #[v3, rpV ⟨210, false, ⟨#[]⟩⟩]) ?hr rfl ⟨⟨_, rfl, ?_⟩, ?_⟩
  case hr =>
    simp only [results, Try.results10]
    go_simp
    try rfl
  · refine owns_mono ?_ (show w.heap.size ≤ w2.heap.size by have := hb2.size; omega)
    repeat (first | exact hown3 | refine World.ownsRow.drew ?_ | refine owns_far ?_ hne _)
  · have hbw3 : Below w.heap.size w w3 := hb1.trans (hb13.mono (by omega))
    (repeat' (first | (with_reducible exact Below.refl _ _) | (with_reducible assumption) | (with_reducible refine Below.alloc ?_ ?_ _) | (with_reducible refine Below.drew ?_) | (with_reducible refine below_drewN ?_ _) | (with_reducible refine Below.setCell ?_ ?_ _) | (with_reducible refine Below.trans ?_ (by assumption)) | go_size))

end Go.Proofs.Ytiipelccmkidbaa
