/- The reference's May, Copy, with, without. -/
import Derived.Test.YtiipelccmkidbaaK5
import Derived.Test.YtiipelccmkidbaaK6
import Derived.Test.YtiipelccmkidbaaK1b
import Derived.Test.YtiipelccmkidbaaRows
import Derived.WalkKit
import Derived.WalkSpells
import Derived.WalkLawsBesides
import Derived.Handy
import Derived.Deep.QuietTactic
import Derived.BigQuiet
import Derived.Deep.DeepCutAuto
import Derived.Lib.Hide
import Derived.RegionTactic
import Derived.ChangeAlike
namespace Go.Proofs.Ytiipelccmkidbaa
open Go.RowKit

theorem quiet_add {P : Program} {f : FuncId} {args : Array Value} {w : World} {a n : Nat} {v : Value}
    (h : Calls P f args (w.drewN (a + n)) fun e w' => e = .returned v ∧ ∃ m, w' = (w.drewN (a + n)).drewN m) :
    Calls P f args (w.drewN (a + n)) fun e w'' => e = .returned v ∧ ∃ m, w'' = w.drewN (a + m) :=
  h.mono fun _ _ ⟨he, m, hm⟩ => ⟨he, n + m, by rw [hm, World.drewN_drewN, Nat.add_assoc]⟩
theorem pr_small {l : List Pr} (h : ∀ p ∈ l, p.1.size ≤ 100000) {i : Nat} {y : Pr} (hy : l[i]? = some y) : y.1.size ≤ 100000 := h y (List.mem_of_getElem? hy)

theorem mayS_long {l : List Pr} (h : ¬ l.length ≤ 8) : mayS l = false := by simp [mayS, h]
theorem good_key0 {l : List Pr} {k : Nat} {y : Pr} (hy : l[k]? = some y) (h : y.1.size = 0) : goodAt l k = false := by
  unfold goodAt
  rw [hy]
  simp [keyOk, h]
theorem good_key9 {l : List Pr} {k : Nat} {y : Pr} (hy : l[k]? = some y) (h : ¬ y.1.size ≤ 8) : goodAt l k = false := by
  unfold goodAt
  rw [hy]
  simp [keyOk, h]
theorem good_val {l : List Pr} {k : Nat} {y : Pr} (hy : l[k]? = some y) (h : ¬ y.2.size ≤ 16) : goodAt l k = false := by
  unfold goodAt
  rw [hy]
  simp [valOk, h]

set_option maxHeartbeats 4000000 in
theorem rmay_any (a : Option Addr) (cap : Nat) (l : List Pr) (w : World) (hr : Row w a (prs l)) (hl : l.length ≤ 1000) (hsm : ∀ p ∈ l, p.1.size ≤ 100000) :
    Calls Try.prog 18 #[.slice a l.length cap] w fun e w' => e = .returned (.bool (mayS l)) ∧ ∃ m, w' = w.drewN m := by
  by_cases h8 : l.length ≤ 8
  · go_enter Try.func18, Try.ntmps18
    refine wp_seq_k (fun K hK => ?_)
    have HK := Lib.hid hK
    clear hK
    go_wp2
    refine HK.out _ _ ?_
    clear HK
    refine wp_seq_k (fun K hK => ?_)
    have HK := Lib.hid hK
    clear hK
    go_wp2
    refine HK.out _ _ ?_
    clear HK
    refine wp_seq_k (fun K hK => ?_)
    go_cut [] (fun wx => goods l l.length = true ∧ ∃ m, wx = w.drewN m)
    case first =>
      go_wp2_with fail
      go_loopw [3] (fun i wr => ∃ k m : Nat, k ≤ l.length ∧ i = .int .i64 k ∧ goods l k = true ∧ wr = w.drewN m) (fun i _ => l.length - (intOf i).toNat)
      case atStart => exact ⟨0, 0, by omega, rfl, goods_zero l, rfl⟩
      case round =>
        obtain ⟨k, m, hk, rfl, hg, rfl⟩ := hrel
        by_cases hlt : k < l.length
        · obtain ⟨bb, off, rfl, hblt, hcs⟩ := hr.pair (List.getElem?_eq_getElem hlt)
          obtain ⟨c0, c1⟩ := hcs _ _ (List.getElem?_eq_getElem hlt)
          have hgs := goods_succ l k
          have hbad := Lib.hid (mayS_bad hlt)
          have g1 := Lib.hid (good_key0 (List.getElem?_eq_getElem hlt))
          have g2 := Lib.hid (good_key9 (List.getElem?_eq_getElem hlt))
          have g3 := Lib.hid (good_val (List.getElem?_eq_getElem hlt))
          have hys := pr_small hsm (List.getElem?_eq_getElem hlt)
          cases k with
          | zero =>
            have hgo := good_zero (List.getElem?_eq_getElem hlt)
            clear hcs
            generalize l[0] = y at *
            obtain ⟨y1, y2⟩ := y
            simp only [Nat.zero_mul, Nat.add_zero] at c0 c1
            simp only [keyOk, valOk] at hgo
            by_cases q1 : y1.size = 0
            · have q1' : ((y1.size : Int) == 0) = true := by simp [q1]
              have HB := Lib.hid (hbad.out (g1.out q1))
              clear q1 hgo hgs
              go_wp2
              go_ret
              exact ⟨ret_bool HB.out.symm, _, rfl⟩
            · have q1' : ((y1.size : Int) == 0) = false := by rw [beq_eq_false_iff_ne]; omega
              by_cases q2 : y1.size ≤ 8
              · by_cases q3 : y2.size ≤ 16
                · rw [decide_eq_true (show 1 ≤ y1.size by omega), decide_eq_true q2, decide_eq_true q3] at hgo
                  rw [hgo, hg] at hgs
                  clear hgo q1
                  go_wp2_with fail
                  go_quiet (fail)
                  go_wp2
                  go_roundw
                  case rel => exact ⟨1, _, by omega, rfl, hgs, rfl⟩
                  case measure => simp [intOf]; omega
                · have HB := Lib.hid (hbad.out (g3.out q3))
                  clear q1 hgo hgs
                  go_wp2
                  go_ret
                  exact ⟨ret_bool HB.out.symm, _, rfl⟩
              · have HB := Lib.hid (hbad.out (g2.out q2))
                clear q1 hgo hgs
                go_wp2
                go_ret
                exact ⟨ret_bool HB.out.symm, _, rfl⟩
          | succ j =>
            have hjl : j < l.length := by omega
            have hgo := good_succ (List.getElem?_eq_getElem hjl) (List.getElem?_eq_getElem hlt)
            have hxs := pr_small hsm (List.getElem?_eq_getElem hjl)
            obtain ⟨d0, d1⟩ := hcs _ _ (List.getElem?_eq_getElem hjl)
            clear hcs
            generalize l[j + 1] = y at *
            generalize l[j] = x at *
            obtain ⟨y1, y2⟩ := y
            obtain ⟨x1, x2⟩ := x
            simp only [keyOk, valOk] at hgo
            by_cases q1 : y1.size = 0
            · have q1' : ((y1.size : Int) == 0) = true := by simp [q1]
              have HB := Lib.hid (hbad.out (g1.out q1))
              clear q1 hgo hgs
              go_wp2
              go_ret
              exact ⟨ret_bool HB.out.symm, _, rfl⟩
            · have q1' : ((y1.size : Int) == 0) = false := by rw [beq_eq_false_iff_ne]; omega
              by_cases q2 : y1.size ≤ 8
              · by_cases q3 : y2.size ≤ 16
                · have hw1 : (0 : Int) ≤ (j : Int) := by omega
                  have hw2 : (j : Int) < (l.length : Int) := by omega
                  have hw3 : (0 : Int) ≤ (j : Int) + 1 := by omega
                  have hw4 : (j : Int) + 1 < (l.length : Int) := by omega
                  have hw5 : ((j : Int) + 1).toNat = j + 1 := by omega
                  have hw0 : IntKind.i64.wrap (j : Int) = (j : Int) := IntWalk.i64_in _ (by omega)
                  rw [decide_eq_true (show 1 ≤ y1.size by omega), decide_eq_true q2, decide_eq_true q3] at hgo
                  simp only [Bool.and_self, Bool.true_and] at hgo
                  cases h3 : kl x1 y1
                  · have HB := Lib.hid (hbad.out (hgo.trans h3))
                    clear q1 hgo hgs
                    go_wp2_with fail
                    go_quiet ((go_at_call 29; first | exact quiet_add (rless_any _ _ _ hxs hys) | exact Calls.quiet_of (rless_any _ _ _ hxs hys)))
                    go_wp2
                    go_ret
                    exact ⟨ret_bool HB.out.symm, m + nq, by rw [World.drewN_drewN]⟩
                  · rw [hgo, h3, hg] at hgs
                    clear hgo q1
                    go_wp2_with fail
                    go_quiet ((go_at_call 29; first | exact quiet_add (rless_any _ _ _ hxs hys) | exact Calls.quiet_of (rless_any _ _ _ hxs hys)))
                    go_wp2
                    go_roundw
                    case rel => exact ⟨j + 1 + 1, _, by omega, by go_num, hgs, rfl⟩
                    case measure => simp [intOf]; omega
                · have HB := Lib.hid (hbad.out (g3.out q3))
                  clear q1 hgo hgs
                  go_wp2
                  go_ret
                  exact ⟨ret_bool HB.out.symm, _, rfl⟩
              · have HB := Lib.hid (hbad.out (g2.out q2))
                clear q1 hgo hgs
                go_wp2
                go_ret
                exact ⟨ret_bool HB.out.symm, _, rfl⟩
        · go_wp2
          go_meet
          exact ⟨by rw [show l.length = k by omega]; exact hg, _, rfl⟩
    obtain ⟨hg, m, rfl⟩ := hcut
    have HB : Hid (mayS l = true) := Lib.hid (by rw [mayS_len hg]; exact decide_eq_true h8)
    clear hg
    refine hK _ _ ?_; clear hK
    go_wp2
    go_ret
    exact ⟨ret_bool HB.out.symm, _, rfl⟩
  · have HB := Lib.hid (mayS_long h8)
    go_enter Try.func18, Try.ntmps18
    go_wp2
    go_ret
    exact ⟨ret_bool HB.out.symm, 0, rfl⟩

set_option maxRecDepth 100000 in
theorem rcopy_any (a : Option Addr) (cap : Nat) (l : List Pr) (w : World) (hs : SlP w a cap l) (hl : l.length ≤ 1000) :
    Calls Try.prog 20 #[.slice a l.length cap] w fun e w' => OwnPrs w.heap.size l e w' ∧ Below w.heap.size w w' := by
  have hr := hs.row
  have hmx := hs.max
  have hle := hs.le
  unfold maxLen at hmx
  go_enter Try.func20, Try.ntmps20
  go_wp2_with (at_builtin; refine wpList_append_row rfl _ _ 35 46 elPair rfl w.heap.size _ _ _ rfl (World.ownsRow_nil _ _ _ _) _ _ _ _ rfl (by rw [prs_len]; omega) hr prs_one (by omega) (by omega) (by omega) ?_; intro v5 w5 hown5 hb5)
  go_ret
  exact ⟨⟨_, rfl, by simpa using hown5⟩, hb5⟩
end Go.Proofs.Ytiipelccmkidbaa
