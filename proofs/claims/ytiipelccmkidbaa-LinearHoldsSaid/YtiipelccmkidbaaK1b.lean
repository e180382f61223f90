/- kv.May. -/
import Derived.Test.YtiipelccmkidbaaK1
import Derived.Test.YtiipelccmkidbaaRows
import Derived.WalkKit
import Derived.WalkSpells
import Derived.WalkLawsBesides
import Derived.Handy
import Derived.Deep.QuietTactic
import Derived.BigQuiet
import Derived.Deep.DeepCutAuto
import Derived.Lib.Hide
import Derived.RegionTactic
import Derived.ChangeAlike
namespace Go.Proofs.Ytiipelccmkidbaa
open Go.RowKit

theorem good_zero {l : List Pr} {y : Pr} (h : l[0]? = some y) : goodAt l 0 = (keyOk y.1 && valOk y.2) := by simp [goodAt, h]
theorem good_succ {l : List Pr} {j : Nat} {x y : Pr} (hx : l[j]? = some x) (hy : l[j + 1]? = some y) : goodAt l (j + 1) = (keyOk y.1 && valOk y.2 && kl x.1 y.1) := by simp [goodAt, hx, hy]
theorem mayS_bad {l : List Pr} {k : Nat} (hk : k < l.length) (h : goodAt l k = false) : mayS l = false := by
  unfold mayS
  rw [goods_false hk h, Bool.and_false]
theorem mayS_len {l : List Pr} (h : goods l l.length = true) : mayS l = decide (l.length ≤ 8) := by
  unfold mayS
  rw [h, Bool.and_true]

set_option maxHeartbeats 4000000 in
theorem may_any (a : Option Addr) (cap : Nat) (l : List Pr) (w : World) (hr : Row w a (prs l)) (hl : l.length ≤ 1000) :
    Calls Try.prog 13 #[.slice a l.length cap] w fun e w' => e = .returned (.bool (mayS l)) ∧ Below w.heap.size w w' := by
  go_enter Try.func13, Try.ntmps13
  refine wp_seq_k (fun K hK => ?_)
  have HK := Lib.hid hK
  clear hK
  go_wp2
  refine HK.out _ _ ?_
  clear HK
  refine wp_seq_k (fun K hK => ?_)
  go_cut [] (fun wx => goods l l.length = true ∧ Below w.heap.size w wx)
  case first =>
    go_wp2_with fail
    go_loopw [7] (fun i wr => ∃ k : Nat, k ≤ l.length ∧ i = .int .i64 k ∧ goods l k = true ∧ Below w.heap.size w wr) (fun i _ => l.length - (intOf i).toNat)
    case atStart => exact ⟨0, by omega, rfl, goods_zero l, Below.refl _ _⟩
    case round =>
      obtain ⟨k, hk, rfl, hg, hbr⟩ := hrel
      by_cases hlt : k < l.length
      · obtain ⟨bb, off, rfl, hblt, hcs⟩ := (hr.below0 hbr).pair (List.getElem?_eq_getElem hlt)
        obtain ⟨c0, c1⟩ := hcs _ _ (List.getElem?_eq_getElem hlt)
        have hgs := goods_succ l k
        have hbad := Lib.hid (mayS_bad hlt)
        have hal : Below w.heap.size w (wr.alloc (Obj.cells #[.string l[k].1, .string l[k].2] 46)) := hbr.alloc hbr.size _
        have hne : bb ≠ wr.heap.size := by omega
        cases k with
        | zero =>
          simp only [Nat.zero_mul, Nat.add_zero] at c0 c1
          have hgo := good_zero (List.getElem?_eq_getElem hlt)
          clear hcs
          generalize l[0] = y at *
          obtain ⟨y1, y2⟩ := y
          cases h1 : keyOk y1 <;> cases h2 : valOk y2
          all_goals
            rw [h1, h2] at hgo
            simp only [Bool.and_true, Bool.and_false, Bool.and_self] at hgo
            rw [hgo] at hgs
            have HG := Lib.hid hgo
            simp only [Bool.and_true, Bool.and_false, hg] at hgs
            clear hgo
            go_wp2_with fail
            go_quiet ((first | (go_at_call 23; exact quiet_same (key_any _ _)) | (go_at_call 24; exact quiet_same (value_any _ _))))
            go_wp2
            first
              | (go_ret; exact ⟨ret_bool (hbad.out HG.out).symm, below_drewN hal _⟩)
              | skip
          go_roundw
          case rel => exact ⟨1, by omega, rfl, hgs, below_drewN hal _⟩
          case measure => simp [intOf]; omega
        | succ j =>
          have hjl : j < l.length := by omega
          have hgo := good_succ (List.getElem?_eq_getElem hjl) (List.getElem?_eq_getElem hlt)
          obtain ⟨d0, d1⟩ := hcs _ _ (List.getElem?_eq_getElem hjl)
          clear hcs
          generalize l[j + 1] = y at *
          generalize l[j] = x at *
          obtain ⟨y1, y2⟩ := y
          obtain ⟨x1, x2⟩ := x
          have hkl : kl x1 y1 = Op.bytesLess x1.toList y1.toList := rfl
          simp only [hkl] at hgo
          clear hkl
          cases h1 : keyOk y1 <;> cases h2 : valOk y2 <;> cases h3 : Op.bytesLess x1.toList y1.toList
          all_goals
            rw [h1, h2, h3] at hgo
            simp only [Bool.and_true, Bool.and_false, Bool.and_self] at hgo
            rw [hgo] at hgs
            have HG := Lib.hid hgo
            simp only [Bool.and_true, Bool.and_false, hg] at hgs
            clear hgo
            go_wp2_with fail
            go_quiet ((first | (go_at_call 23; exact quiet_same (key_any _ _)) | (go_at_call 24; exact quiet_same (value_any _ _))))
            go_wp2
            first
              | (go_ret; exact ⟨ret_bool (hbad.out HG.out).symm, below_drewN hal _⟩)
              | skip
          go_roundw
          case rel => exact ⟨j + 1 + 1, by omega, by go_num, hgs, below_drewN hal _⟩
          case measure => simp [intOf]; omega
      · go_wp2
        go_meet
        exact ⟨by rw [show l.length = k by omega]; exact hg, hbr⟩
  obtain ⟨hg, hbx⟩ := hcut
  have HG := Lib.hid (mayS_len hg)
  clear hg
  refine hK _ _ ?_; clear hK
  go_wp2
  go_returns
  exact ⟨ret_bool (by rw [HG.out]; first | (simp; done) | (simp; omega)), hbx⟩
end Go.Proofs.Ytiipelccmkidbaa
