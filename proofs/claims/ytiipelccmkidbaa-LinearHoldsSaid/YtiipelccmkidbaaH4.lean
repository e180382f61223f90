/- What is wrong with a history: the reference's check. -/
import Derived.Test.YtiipelccmkidbaaH3
import Derived.Test.YtiipelccmkidbaaRows
import Derived.WalkKit
import Derived.WalkSpells
import Derived.WalkLawsBesides
import Derived.Handy
import Derived.Deep.QuietTactic
import Derived.BigQuiet
import Derived.Deep.DeepCutAuto
import Derived.Lib.Hide
import Derived.RegionTactic
import Derived.ChangeAlike
import Derived.Laws.ResultCell
import Derived.Outline
namespace Go.Proofs.Ytiipelccmkidbaa
open Go.RowKit

set_option maxRecDepth 100000 in
set_option maxHeartbeats 8000000 in
theorem rcheck_any (a : Option Addr) (cap : Nat) (l : List Cl) (w : World) (hs : SlC w a cap l) :
    Calls Try.prog 9 #[.slice a l.length cap] w fun e w' => e = .returned (.int .i64 (chk l)) ∧ Below w.heap.size w w' := by
  have hr := hs.row
  have hle := hs.le
  have hmx := hs.max
  unfold maxLen at hmx
  go_enter Try.func9, Try.ntmps9
  refine wp_seq_k (fun K hK => ?_)
  have HK := Lib.hid hK
  clear hK
  go_wp2
  refine HK.out _ _ ?_
  clear HK
  refine wp_seq_k (fun K hK => ?_)
  have HK := Lib.hid hK
  clear hK
  go_wp2
  refine HK.out _ _ ?_
  clear HK
  go_wp2_with fail
  go_loopw [3, 4, 5, 6] (fun p o v i wr => ∃ k : Nat, k ≤ l.length ∧ i = .int .i64 k ∧ p = .int .i64 (pendP (l.take k)) ∧ o = .bool (!(l.take k).all mayC) ∧ v = .bool (decide (12 < mostP l (l.take k))) ∧ Below w.heap.size w wr) (fun _ _ _ i _ => l.length - (intOf i).toNat)
  case atStart => exact ⟨0, by omega, rfl, rfl, rfl, rfl, Below.refl _ _⟩
  case round =>
    obtain ⟨k, hk, rfl, rfl, rfl, rfl, hbr⟩ := hrel
    have hpl := pendP_le (l.take k)
    rw [List.length_take] at hpl
    by_cases hlt : k < l.length
    · obtain ⟨bb, off, rfl, hblt, ht0⟩ := hr.call (List.getElem?_eq_getElem hlt)
      obtain ⟨c0, c1, c2, c3, c4, c5, c6, c7, c8, c9⟩ := ht0.below hbr hblt
      have hsp : pendP (l.take (k + 1)) = pendP (l.take k) + if l[k].en == 0 then 1 else 0 := by rw [take_snoc' (List.getElem?_eq_getElem hlt), pendP_snoc]
      have hsm : decide (12 < mostP l (l.take (k + 1))) = (decide (12 < mostP l (l.take k)) || decide (12 < wideP l l[k].st)) := by
        rw [take_snoc' (List.getElem?_eq_getElem hlt), mostP_gt, mostP_gt, List.any_append]
        simp
      have hsa : (l.take (k + 1)).all mayC = ((l.take k).all mayC && mayC l[k]) := by rw [take_snoc' (List.getElem?_eq_getElem hlt), all_snoc]
      have hbs := hbr.size
      generalize l[k] = c at *
      obtain ⟨cli, ⟨kd, key, old, val⟩, ⟨er, fo, va⟩, st, en⟩ := c
      simp only at c0 c1 c2 c3 c4 c5 c6 c7 c8 c9 hsp hsm hsa
      have HSP := Lib.hid hsp
      have HSM := Lib.hid hsm
      have HSA := Lib.hid hsa
      clear hsp hsm hsa
      generalize pendP (l.take k) = P at *
      generalize decide (12 < mostP l (l.take k)) = V at *
      generalize (l.take k).all mayC = A at *
      have hc := rcmay_any ⟨cli, ⟨kd, key, old, val⟩, ⟨er, fo, va⟩, st, en⟩
      generalize mayC ⟨cli, ⟨kd, key, old, val⟩, ⟨er, fo, va⟩, st, en⟩ = mb at *
      have HC := Lib.hid hc
      clear hc
      obtain ⟨eb, q2⟩ : ∃ eb, (en == 0) = eb := ⟨_, rfl⟩
      obtain ⟨wo, rfl⟩ : ∃ wo : World, wo = wr := ⟨_, rfl⟩
      cases eb <;> cases A
      all_goals
        go_wp2_with (go_at_call 17; refine (HC.out _).mono ?_; rintro e w1 ⟨rfl, hb1⟩; have hbr := hbr.trans (hb1.mono hbs); clear hb1)
        have HQ2 := Lib.hid q2
        clear q2 c0 c1 c2 c3 c4 c5 c6 c7 c8 c9
        go_loopw [7, 8] (fun n j wx => ∃ q : Nat, q ≤ l.length ∧ j = .int .i64 q ∧ n = .int .i64 ((l.take q).countP (onB st)) ∧ Below w.heap.size w wx) (fun _ j _ => l.length - (intOf j).toNat)
        case atStart => exact ⟨0, by omega, rfl, rfl, hbr⟩
        case round =>
          obtain ⟨q, hq, rfl, rfl, hbx⟩ := hrel
          have hcl : (l.take q).countP (onB st) ≤ q := by have := List.countP_le_length (p := onB st) (l := l.take q); rw [List.length_take] at this; omega
          have hbxs := hbx.size
          by_cases hlq : q < l.length
          · obtain ⟨c0, c1, c2, c3, c4, c5, c6, c7, c8, c9⟩ := ht0.below hbx hblt
            clear c0 c1 c2 c3 c4 c5 c6 c7 c9
            obtain ⟨bb2, off2, hbb, _, ht1⟩ := hr.call (List.getElem?_eq_getElem hlq)
            cases hbb
            obtain ⟨d0, d1, d2, d3, d4, d5, d6, d7, d8, d9⟩ := ht1.below hbx hblt
            have hsn : (l.take (q + 1)).countP (onB st) = (l.take q).countP (onB st) + if onB st l[q] then 1 else 0 := by
              rw [take_snoc' (List.getElem?_eq_getElem hlq), List.countP_append, List.countP_singleton]
            clear ht1 d0 d1 d2 d3 d4 d5 d6 d7
            generalize l[q] = c at *
            obtain ⟨cli2, ⟨kd2, key2, old2, val2⟩, ⟨er2, fo2, va2⟩, st2, en2⟩ := c
            simp only at d8 d9
            generalize (l.take q).countP (onB st) = n at *
            by_cases q1 : st2 ≤ st
            · by_cases q3 : en2 = 0
              · have hb : onB st ⟨cli2, ⟨kd2, key2, old2, val2⟩, ⟨er2, fo2, va2⟩, st2, en2⟩ = true := by simp [onB, q1, q3]
                have HS : Hid ((l.take (q + 1)).countP (onB st) = n + 1) := Lib.hid (by rw [hsn, hb]; rfl)
                have q3b : (en2 == 0) = true := by simpa using q3
                clear hsn hb q3
                go_wp2_with fail
                go_quiet (fail)
                go_wp2
                go_roundw
                case rel => exact ⟨q + 1, by omega, by go_num, by rw [HS.out]; go_num, below_drewN hbx _⟩
                case measure => simp [intOf]; omega
              · have q3b : (en2 == 0) = false := by simpa using q3
                by_cases q4 : st ≤ en2
                · have hb : onB st ⟨cli2, ⟨kd2, key2, old2, val2⟩, ⟨er2, fo2, va2⟩, st2, en2⟩ = true := by simp [onB, q1, q4]
                  have HS : Hid ((l.take (q + 1)).countP (onB st) = n + 1) := Lib.hid (by rw [hsn, hb]; rfl)
                  clear hsn hb q3
                  go_wp2_with fail
                  go_quiet (fail)
                  go_wp2
                  go_roundw
                  case rel => exact ⟨q + 1, by omega, by go_num, by rw [HS.out]; go_num, below_drewN hbx _⟩
                  case measure => simp [intOf]; omega
                · have hb : onB st ⟨cli2, ⟨kd2, key2, old2, val2⟩, ⟨er2, fo2, va2⟩, st2, en2⟩ = false := by simp [onB, q3, q4]
                  have HS : Hid ((l.take (q + 1)).countP (onB st) = n) := Lib.hid (by rw [hsn, hb]; rfl)
                  have q4b : decide (st ≤ en2) = false := decide_eq_false q4
                  clear hsn hb q3
                  go_wp2_with fail
                  go_quiet (fail)
                  go_wp2
                  go_roundw
                  case rel => exact ⟨q + 1, by omega, by go_num, by rw [HS.out], below_drewN hbx _⟩
                  case measure => simp [intOf]; omega
            · have hb : onB st ⟨cli2, ⟨kd2, key2, old2, val2⟩, ⟨er2, fo2, va2⟩, st2, en2⟩ = false := by simp [onB, q1]
              have HS : Hid ((l.take (q + 1)).countP (onB st) = n) := Lib.hid (by rw [hsn, hb]; rfl)
              have q1b : decide (st2 ≤ st) = false := decide_eq_false q1
              clear hsn hb
              go_wp2_with fail
              go_quiet (fail)
              go_wp2
              go_roundw
              case rel => exact ⟨q + 1, by omega, by go_num, by rw [HS.out], below_drewN hbx _⟩
              case measure => simp [intOf]; omega
          · have HE : Hid ((l.take q).countP (onB st) = wideP l st) := Lib.hid (by rw [List.take_of_length_le (by omega)]; rfl)
            generalize (l.take q).countP (onB st) = n at *
            cases V
            all_goals
              go_wp2
              go_roundw
              case rel => exact ⟨k + 1, by omega, by go_num, int_eq (by rw [HSP.out, HQ2.out]; simp), bool_eq (by rw [HSA.out]; simp), bool_eq (by rw [HSM.out, ← HE.out]; simp <;> omega), hbx⟩
              case measure => simp [intOf]; omega
    · have htk : l.take k = l := List.take_of_length_le (by omega)
      rw [htk] at hpl ⊢
      clear htk
      have hc0 := @chk_long l
      have hc := @chk_all l
      have hc1 := @chk_pend l
      have hc2 := @chk_most l
      generalize hP : pendP l = P at *
      generalize hM : mostP l l = M at *
      generalize hA : l.all mayC = A at *
      clear hP hM hA
      by_cases p0 : 40 < l.length
      · have HC := Lib.hid (hc0 p0)
        clear hc hc0 hc1 hc2
        go_wp2
        go_ret
        exact ⟨ret_int HC.out.symm, hbr⟩
      · by_cases p1 : 8 < P
        · have HC := Lib.hid (hc1 p1)
          clear hc hc0 hc1 hc2
          go_wp2
          go_ret
          exact ⟨ret_int HC.out.symm, hbr⟩
        · by_cases p2 : 12 < M
          · have HC := Lib.hid (hc2 p2)
            have p2b : decide (12 < M) = true := decide_eq_true p2
            clear hc hc0 hc1 hc2
            go_wp2
            go_ret
            exact ⟨ret_int HC.out.symm, hbr⟩
          · have p2b : decide (12 < M) = false := decide_eq_false p2
            have := hc p0 p1 p2 A rfl
            clear hc hc0 hc1 hc2
            cases A
            all_goals
              simp at this
              have HC := Lib.hid this
              clear this
              go_wp2
              go_ret
              exact ⟨ret_int HC.out.symm, hbr⟩
end Go.Proofs.Ytiipelccmkidbaa
