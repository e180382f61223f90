/- The chapter's examples, walked: looks, is, awake. -/
import Derived.Test.YtjolhdlnjdmbeaaN8
import Derived.Test.YtjolhdlnjdmbeaaRows
import Derived.WalkKit
import Derived.WalkSpells
import Derived.WalkLawsBesides
import Derived.Handy
import Derived.Deep.QuietTactic
import Derived.BigQuiet
import Derived.Deep.DeepCutAuto
import Derived.Lib.Hide
import Derived.RegionTactic
import Derived.ChangeAlike
namespace Go.Proofs.Ytjolhdlnjdmbeaa
open Go.RowKit

set_option maxHeartbeats 1000000 in
theorem is_any (a b : Option Addr) (c d : Nat) (l m : List Int) (w : World) (ha : Row w a (l.map (Value.int .i64))) (hb : Row w b (m.map (Value.int .i64))) (hl : l.length ≤ 1000000) (hm : m.length ≤ 1000000) (r : Bool) (hr : decide (l = m) = r) :
    Calls Try.prog 22 #[.slice a l.length c, .slice b m.length d] w fun e w' => e = .returned (.bool r) ∧ ∃ q, w' = w.drewN q := by
  have HR := Lib.hid hr
  clear hr
  by_cases hlen : l.length = m.length
  · go_enter Try.func22, Try.ntmps22
    rw [← hlen]
    have HL := Lib.hid hlen
    clear hlen hm
    refine wp_seq_k (fun K hK => ?_)
    have HK := Lib.hid hK
    clear hK
    go_wp2
    refine HK.out _ _ ?_
    clear HK
    refine wp_seq_k (fun K hK => ?_)
    have HK := Lib.hid hK
    clear hK
    go_wp2
    refine HK.out _ _ ?_
    clear HK
    refine wp_seq_k (fun K hK => ?_)
    go_cut [] (fun wx => sameFrom l m l.length ∧ ∃ q, wx = w.drewN q)
    case first =>
      go_wp2_with fail
      go_loopw [5] (fun i wr => ∃ k : Nat, k ≤ l.length ∧ i = .int .i64 k ∧ sameFrom l m k ∧ ∃ q, wr = w.drewN q) (fun i _ => l.length - (intOf i).toNat)
      case atStart => exact ⟨0, Nat.zero_le _, rfl, same_zero l m, 0, rfl⟩
      case round =>
        obtain ⟨k, hk, rfl, hsame, q, rfl⟩ := hrel
        by_cases hlt : k < l.length
        · obtain ⟨b1, o1, x, rfl, hx, hcx⟩ := ha.int hlt
          obtain ⟨b2, o2, y, rfl, hy, hcy⟩ := hb.int (i := k) (by rw [← HL.out]; exact hlt)
          by_cases hxy : x = y
          · subst hxy
            have hsn := same_succ hsame hx hy
            have h1 : ((x != x) : Bool) = false := by simp
            have HX := Lib.hid hx
            clear hx hy
            go_wp2
            go_quiet (fail)
            go_wp2
            refine ⟨⟨k + 1, by omega, by go_num, hsn, _, rfl⟩, by simp [intOf]; omega⟩
          · have h1 : ((x != y) : Bool) = true := by simpa using hxy
            have hne : decide (l = m) = false := by
              simp only [decide_eq_false_iff_not]
              rintro rfl
              rw [hx] at hy
              exact hxy (Option.some.inj hy)
            rw [hne] at HR
            have hr' := HR.out
            subst hr'
            clear hx hy hxy hne
            go_wp2
            go_quiet (fail)
            go_wp2
            go_ret
            exact ⟨rfl, q + nq, World.drewN_drewN ..⟩
        · go_wp2
          go_meet
          obtain rfl : k = l.length := by omega
          exact ⟨hsame, q, rfl⟩
    obtain ⟨hs, q, rfl⟩ := hcut
    refine hK _ _ ?_; clear hK
    have he := same_all HL.out hs
    have hr' := HR.out
    rw [he] at hr'
    simp only [decide_true] at hr'
    subst hr'
    clear he hs
    go_wp2
    go_ret
    exact ⟨rfl, q, rfl⟩
  · have h1 : ((l.length : Int) != (m.length : Int)) = true := by rw [bne_iff_ne]; omega
    go_enter Try.func22, Try.ntmps22
    go_wp2
    go_ret
    refine ⟨ret_bool ?_, 0, rfl⟩
    rw [← HR.out]
    simp
    rintro rfl
    exact hlen rfl

set_option maxHeartbeats 1000000 in
theorem looks_true (s c snap count index chunk slot next : Int) (w : World) (h : nxI s snap = index ∧ nxK c count = chunk ∧ nxS s = slot ∧ nxC c count = next) :
    Calls Try.prog 21 #[.agg #[.int .i64 s, .int .i64 c], .int .i64 snap, .int .i64 count, .int .i64 index, .int .i64 chunk, .int .i64 slot, .int .i64 next] w fun e w' => e = .returned (.bool true) ∧ Below w.heap.size w w' := by
  obtain ⟨rfl, rfl, rfl, rfl⟩ := h
  have hbox : Below w.heap.size w (w.alloc (Obj.cells #[.int .i64 s, .int .i64 c] 23)) := (Below.refl _ _).alloc (Nat.le_refl _) _
  go_enter Try.func21, Try.ntmps21
  refine wp_seq_k (fun K hK => ?_)
  have HK := Lib.hid hK
  clear hK
  go_wp2
  refine HK.out _ _ ?_
  clear HK
  go_wp2_with fail
  refine (next_any _ _ _ _ _).mono ?_
  rintro e w1 ⟨rfl, hb1⟩
  have hb2 := hbox.trans (hb1.mono (by simp))
  have hz1 := hb2.size
  go_wp2
  go_returns
  exact ⟨by simp, hb2.alloc (by omega) _⟩

theorem row_new (w : World) (cs : Array Value) (e : TypeId) : Row (w.alloc (.cells cs e)) (some ⟨w.heap.size, 0, none⟩) cs.toList :=
  .inr ⟨w.heap.size, 0, rfl, fun i u hu => by rw [Nat.zero_add, cell_new]; simpa using hu⟩

set_option maxHeartbeats 2000000 in
theorem awake_true (w : World) : Calls Try.prog 13 #[] w fun e w' => e = .returned (.bool true) ∧ Below w.heap.size w w' := by
  go_enter Try.func13, Try.ntmps13
  go_wp2_with fail
  refine (looks_true _ _ _ _ _ _ _ _ _ (by decide)).mono ?_
  rintro e w1 ⟨rfl, hb1⟩
  go_wp2_with fail
  refine (looks_true _ _ _ _ _ _ _ _ _ (by decide)).mono ?_
  rintro e w2 ⟨rfl, hb2⟩
  go_wp2_with fail
  refine (looks_true _ _ _ _ _ _ _ _ _ (by decide)).mono ?_
  rintro e w3 ⟨rfl, hb3⟩
  go_wp2_with fail
  refine (looks_true _ _ _ _ _ _ _ _ _ (by decide)).mono ?_
  rintro e w4 ⟨rfl, hb4⟩
  have hs1 := hb1.size
  have hs2 := hb2.size
  have hs3 := hb3.size
  have hs4 := hb4.size
  have hb : Below w.heap.size w w4 := hb1.trans ((hb2.mono hs1).trans ((hb3.mono (by omega)).trans (hb4.mono (by omega))))
  clear hb1 hb2 hb3 hb4
  go_wp2_with fail
  have hw5 : Below w.heap.size w (w4.alloc (Obj.cells #[.int .i64 9, .int .i64 12] 3)) := hb.alloc (by omega) _
  refine (pnote_any (some ⟨w4.heap.size, 0, none⟩) 2 [9, 12] 8 10 true _ (row_new w4 #[.int .i64 9, .int .i64 12] _) (by simp) [9, 10, 12] (by decide)).mono ?_
  rintro e w5 ⟨⟨v5, rfl, ho5⟩, hb5⟩
  obtain ⟨a5, c5, rfl, hr5, _, _⟩ := Row.of_owns ho5
  have hs5 := hb5.size
  simp only [World.size_alloc] at hs5
  have hb6 := hw5.trans (hb5.mono (by simp; omega))
  clear hb5 ho5 hw5 hb
  go_wp2_with fail
  have hb7 : Below w5.heap.size w5 (w5.alloc (Obj.cells #[.int .i64 9, .int .i64 10, .int .i64 12] 3)) := (Below.refl _ _).alloc (Nat.le_refl _) _
  refine (is_any a5 (some ⟨w5.heap.size, 0, none⟩) c5 3 [9, 10, 12] [9, 10, 12] _ (hr5.below0 hb7) (row_new w5 #[.int .i64 9, .int .i64 10, .int .i64 12] _) (by simp) (by simp) true (by simp)).mono ?_
  rintro e w6 ⟨rfl, q, rfl⟩
  have hb8 := below_drewN (hb6.trans (hb7.mono (by omega))) q
  have hs8 : w5.heap.size ≤ ((w5.alloc (Obj.cells #[.int .i64 9, .int .i64 10, .int .i64 12] 3)).drewN q).heap.size := by show _ ≤ (w5.alloc _).heap.size; simp
  clear hb6 hb7 hr5
  generalize (w5.alloc (Obj.cells #[.int .i64 9, .int .i64 10, .int .i64 12] 3)).drewN q = w6 at *
  go_wp2_with fail
  have hw5 : Below w.heap.size w (w6.alloc (Obj.cells #[.int .i64 9, .int .i64 12] 3)) := hb8.alloc (by omega) _
  refine (pnote_any (some ⟨w6.heap.size, 0, none⟩) 2 [9, 12] 8 9 false _ (row_new w6 #[.int .i64 9, .int .i64 12] _) (by simp) [12] (by decide)).mono ?_
  rintro e w7 ⟨⟨v7, rfl, ho7⟩, hb9⟩
  obtain ⟨a7, c7, rfl, hr7, _, _⟩ := Row.of_owns ho7
  have hs9 := hb9.size
  simp only [World.size_alloc] at hs9
  have hb10 := hw5.trans (hb9.mono (by simp; omega))
  clear hb9 ho7 hw5 hb8
  go_wp2_with fail
  have hb11 : Below w7.heap.size w7 (w7.alloc (Obj.cells #[.int .i64 12] 3)) := (Below.refl _ _).alloc (Nat.le_refl _) _
  refine (is_any a7 (some ⟨w7.heap.size, 0, none⟩) c7 1 [12] [12] _ (hr7.below0 hb11) (row_new w7 #[.int .i64 12] _) (by simp) (by simp) true (by simp)).mono ?_
  rintro e w8 ⟨rfl, q2, rfl⟩
  have hb12 := below_drewN (hb10.trans (hb11.mono (by omega))) q2
  go_wp2
  go_ret
  exact ⟨rfl, hb12⟩
end Go.Proofs.Ytjolhdlnjdmbeaa
