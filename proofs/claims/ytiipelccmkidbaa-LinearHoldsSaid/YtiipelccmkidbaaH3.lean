/- What is wrong with a history: the program's own check. -/
import Derived.Test.YtiipelccmkidbaaH2
import Derived.Test.YtiipelccmkidbaaRows
import Derived.WalkKit
import Derived.WalkSpells
import Derived.WalkLawsBesides
import Derived.Handy
import Derived.Deep.QuietTactic
import Derived.BigQuiet
import Derived.Deep.DeepCutAuto
import Derived.Lib.Hide
import Derived.RegionTactic
import Derived.ChangeAlike
import Derived.Laws.ResultCell
import Derived.Outline
namespace Go.Proofs.Ytiipelccmkidbaa
open Go.RowKit

theorem chk_long {l : List Cl} (h : 40 < l.length) : chk l = 4 := by unfold chk; rw [if_pos (.inl h)]
theorem chk_pend {l : List Cl} (h : 8 < pendP l) : chk l = 4 := by unfold chk; rw [if_pos (.inr (.inl h))]
theorem chk_most {l : List Cl} (h : 12 < mostP l l) : chk l = 4 := by unfold chk; rw [if_pos (.inr (.inr h))]
theorem chk_all {l : List Cl} (h : ¬ 40 < l.length) (h2 : ¬ 8 < pendP l) (h3 : ¬ 12 < mostP l l) (a : Bool) (ha : l.all mayC = a) : chk l = if a then 0 else 2 := by
  unfold chk
  rw [if_neg (by rintro (h1 | h1 | h1) <;> omega), ha]

theorem max_int (M W : Nat) : (if M < W then (W : Int) else (M : Int)) = ((max M W : Nat) : Int) := by split <;> omega

set_option maxRecDepth 100000 in
set_option maxHeartbeats 8000000 in
theorem check_any (a : Option Addr) (cap : Nat) (l : List Cl) (w : World) (hs : SlC w a cap l) :
    Calls Try.prog 7 #[.slice a l.length cap] w fun e w' => e = .returned (.int .i64 (chk l)) ∧ Below w.heap.size w w' := by
  have hr := hs.row
  have hle := hs.le
  have hmx := hs.max
  unfold maxLen at hmx
  by_cases h40 : 40 < l.length
  · have HC := Lib.hid (chk_long h40)
    go_enter Try.func7, Try.ntmps7
    go_wp2
    go_ret
    exact ⟨ret_int HC.out.symm, Below.refl _ _⟩
  · go_enter Try.func7, Try.ntmps7
    refine wp_seq_k (fun K hK => ?_)
    have HK := Lib.hid hK
    clear hK
    go_wp2
    refine HK.out _ _ ?_
    clear HK
    refine wp_seq_k (fun K hK => ?_)
    have HK := Lib.hid hK
    clear hK
    go_wp2
    refine HK.out _ _ ?_
    clear HK
    refine wp_seq_k (fun K hK => ?_)
    have HK := Lib.hid hK
    clear hK
    go_wp2
    refine HK.out _ _ ?_
    clear HK
    go_wp2_with fail
    go_loopw [3, 4, 5, 13] (fun p m g i wr => ∃ k : Nat, k ≤ l.length ∧ i = .int .i64 k ∧ p = .int .i64 (pendP (l.take k)) ∧ m = .int .i64 (mostP l (l.take k)) ∧ g = .bool ((l.take k).all mayC) ∧ Below w.heap.size w wr) (fun _ _ _ i _ => l.length - (intOf i).toNat)
    case atStart => exact ⟨0, by omega, rfl, rfl, rfl, rfl, Below.refl _ _⟩
    case round =>
      obtain ⟨k, hk, rfl, rfl, rfl, rfl, hbr⟩ := hrel
      have hpl := pendP_le (l.take k)
      have hml := mostP_le l (l.take k)
      rw [List.length_take] at hpl
      by_cases hlt : k < l.length
      · obtain ⟨bb, off, rfl, hblt, ht0⟩ := hr.call (List.getElem?_eq_getElem hlt)
        obtain ⟨c0, c1, c2, c3, c4, c5, c6, c7, c8, c9⟩ := ht0.below hbr hblt
        have hsp : pendP (l.take (k + 1)) = pendP (l.take k) + if l[k].en == 0 then 1 else 0 := by rw [take_snoc' (List.getElem?_eq_getElem hlt), pendP_snoc]
        have hsm : mostP l (l.take (k + 1)) = max (mostP l (l.take k)) (wideP l l[k].st) := by rw [take_snoc' (List.getElem?_eq_getElem hlt), mostP_snoc]
        have hsa : (l.take (k + 1)).all mayC = ((l.take k).all mayC && mayC l[k]) := by rw [take_snoc' (List.getElem?_eq_getElem hlt), all_snoc]
        have hwl := wideP_le l l[k].st
        have hbs := hbr.size
        clear ht0
        generalize l[k] = c at *
        obtain ⟨cli, ⟨kd, key, old, val⟩, ⟨er, fo, va⟩, st, en⟩ := c
        simp only at c0 c1 c2 c3 c4 c5 c6 c7 c8 c9 hsp hsm hsa hwl
        have HSP := Lib.hid hsp
        have HSM := Lib.hid hsm
        have HSA := Lib.hid hsa
        clear hsp hsm hsa
        generalize pendP (l.take k) = P at *
        generalize mostP l (l.take k) = M at *
        generalize (l.take k).all mayC = A at *
        have hc := cmay_any ⟨cli, ⟨kd, key, old, val⟩, ⟨er, fo, va⟩, st, en⟩
        generalize mayC ⟨cli, ⟨kd, key, old, val⟩, ⟨er, fo, va⟩, st, en⟩ = mb at *
        have HC := Lib.hid hc
        clear hc
        by_cases q2 : en = 0
        · have q2b : (en == 0) = true := by simpa using q2
          clear q2
          cases A
          all_goals
            go_wp2_with fail
            have hb1 := box1 wr (Obj.cells #[.int .i64 cli, .int .u8 kd, .string key, .string old, .string val, .int .i64 er, .bool fo, .string va, .int .i64 st, .int .i64 en] 32)
            have bx := heap_alloc_new wr (Obj.cells #[.int .i64 cli, .int .u8 kd, .string key, .string old, .string val, .int .i64 er, .bool fo, .string va, .int .i64 st, .int .i64 en] 32)
            have hbw := hbr.trans (hb1.mono hbs)
            generalize wr.alloc (Obj.cells #[.int .i64 cli, .int .u8 kd, .string key, .string old, .string val, .int .i64 er, .bool fo, .string va, .int .i64 st, .int .i64 en] 32) = w5 at *
            obtain ⟨z0, z1, z2, z3, z4, z5, z6, z7, z8, z9⟩ := ten bx
            have z0 := under_cell z0
            have z1 := under_cell z1
            have z2 := under_cell z2
            have z3 := under_cell z3
            have z4 := under_cell z4
            have z5 := under_cell z5
            have z6 := under_cell z6
            have z7 := under_cell z7
            have z8 := under_cell z8
            have z9 := under_cell z9
            have hU : Hid (∀ x, SlC (Under w5 x) (some ⟨bb, off, none⟩) cap l) := Lib.hid fun x => (hs.below hbw).below (under_below w5 x)
            clear c0 c1 c2 c3 c4 c5 c6 c7 c8 c9
            refine wp_region_under (by kernel_rfl) (by kernel_rfl) ?_
            repeat (go_big_quiet_step ((first
                          | (go_at_call 11; exact under_call (HC.out _))
                          | (go_at_call 12; exact under_call (wide_any _ _ _ _ _ (hU.out _))))))
            refine wpQuiet_nil ?_
            intro _ hw'
            obtain ⟨xU, hw''⟩ := hw'
            subst hw''
            have hbU := under_below w5 xU
            go_wp2
            go_roundw
            case rel => exact ⟨k + 1, by omega, by go_num, int_eq (by rw [HSP.out, q2b]; simp), int_eq (by rw [HSM.out]; exact max_int _ _), bool_eq (by rw [HSA.out]; simp), hbw.trans (hbU.mono hbw.size)⟩
            case measure => simp [intOf]; omega
        · have q2b : (en == 0) = false := by simpa using q2
          clear q2
          cases A
          all_goals
            go_wp2_with fail
            have hb1 := box1 wr (Obj.cells #[.int .i64 cli, .int .u8 kd, .string key, .string old, .string val, .int .i64 er, .bool fo, .string va, .int .i64 st, .int .i64 en] 32)
            have bx := heap_alloc_new wr (Obj.cells #[.int .i64 cli, .int .u8 kd, .string key, .string old, .string val, .int .i64 er, .bool fo, .string va, .int .i64 st, .int .i64 en] 32)
            have hbw := hbr.trans (hb1.mono hbs)
            generalize wr.alloc (Obj.cells #[.int .i64 cli, .int .u8 kd, .string key, .string old, .string val, .int .i64 er, .bool fo, .string va, .int .i64 st, .int .i64 en] 32) = w5 at *
            obtain ⟨z0, z1, z2, z3, z4, z5, z6, z7, z8, z9⟩ := ten bx
            have z0 := under_cell z0
            have z1 := under_cell z1
            have z2 := under_cell z2
            have z3 := under_cell z3
            have z4 := under_cell z4
            have z5 := under_cell z5
            have z6 := under_cell z6
            have z7 := under_cell z7
            have z8 := under_cell z8
            have z9 := under_cell z9
            have hU : Hid (∀ x, SlC (Under w5 x) (some ⟨bb, off, none⟩) cap l) := Lib.hid fun x => (hs.below hbw).below (under_below w5 x)
            clear c0 c1 c2 c3 c4 c5 c6 c7 c8 c9
            refine wp_region_under (by kernel_rfl) (by kernel_rfl) ?_
            repeat (go_big_quiet_step ((first
                          | (go_at_call 11; exact under_call (HC.out _))
                          | (go_at_call 12; exact under_call (wide_any _ _ _ _ _ (hU.out _))))))
            refine wpQuiet_nil ?_
            intro _ hw'
            obtain ⟨xU, hw''⟩ := hw'
            subst hw''
            have hbU := under_below w5 xU
            go_wp2
            go_roundw
            case rel => exact ⟨k + 1, by omega, by go_num, int_eq (by rw [HSP.out, q2b]; simp), int_eq (by rw [HSM.out]; exact max_int _ _), bool_eq (by rw [HSA.out]; simp), hbw.trans (hbU.mono hbw.size)⟩
            case measure => simp [intOf]; omega
      · have htk : l.take k = l := List.take_of_length_le (by omega)
        rw [htk] at hpl hml ⊢
        clear htk
        have hc := chk_all (l := l) h40
        have hc1 := @chk_pend l
        have hc2 := @chk_most l
        generalize hP : pendP l = P at *
        generalize hM : mostP l l = M at *
        generalize hA : l.all mayC = A at *
        clear hP hM hA
        by_cases p1 : 8 < P
        · have HC := Lib.hid (hc1 p1)
          clear hc hc1 hc2
          go_wp2
          go_ret
          exact ⟨ret_int HC.out.symm, hbr⟩
        · by_cases p2 : 12 < M
          · have HC := Lib.hid (hc2 p2)
            clear hc hc1 hc2
            go_wp2
            go_ret
            exact ⟨ret_int HC.out.symm, hbr⟩
          · have := hc p1 p2 A rfl
            clear hc hc1 hc2
            cases A
            · simp at this
              have HC := Lib.hid this
              clear this
              go_wp2
              go_ret
              exact ⟨ret_int HC.out.symm, hbr⟩
            · simp at this
              have HC := Lib.hid this
              clear this
              go_wp2
              go_ret
              exact ⟨ret_int HC.out.symm, hbr⟩
end Go.Proofs.Ytiipelccmkidbaa
