/- The law KvStays, the good way. -/
import Derived.Test.YtmnjmjbmnhppfaaK30
import Derived.Test.YtmnjmjbmnhppfaaK26
import Derived.Test.YtmnjmjbmnhppfaaRows
import Derived.WalkKit
import Derived.WalkSpells
import Derived.WalkLawsBesides
import Derived.Handy
import Derived.Deep.QuietTactic
import Derived.BigQuiet
import Derived.Deep.DeepCutAuto
import Derived.Lib.Hide
import Derived.RegionTactic
import Derived.ChangeAlike
import Derived.Laws.ResultCell
import Derived.Outline
namespace Go.Proofs.Ytmnjmjbmnhppfaa
open Go.RowKit

theorem may_true (a : Option Addr) (cap : Nat) (l : List Pr) (w : World) (hs : SlP w a cap l) (hm : mayS l = true) :
    Calls Try.prog 33 #[.slice a l.length cap] w fun e w' => e = .returned (.bool true) ∧ Below w.heap.size w w' := by
  have h := may_any a cap l w hs.row (by have := (may_spec hm).1; omega)
  rw [hm] at h
  exact h
theorem same_true (a b : Option Addr) (c d : Nat) (l m : List Pr) (w : World) (ha : SlP w a c l) (hb : SlP w b d m) (hl : l.length ≤ 1000) (h : l = m) :
    Calls Try.prog 37 #[.slice a l.length c, .slice b m.length d] w fun e w' => e = .returned (.bool true) ∧ ∃ q, w' = w.drewN q := by
  subst h
  exact psame_any a b c d l l w ha.row hb.row hl hl true (by simp)

theorem stays_last {ls ls' : List Pr} {kd : Int} {key old val v va : Tx} {er : Int} {fo is : Bool} (h : mayS ls = true) (hd : doP ls ⟨kd, key, old, val⟩ = (ls', ⟨er, fo, va⟩)) (hv : valueP ls' key = (v, is)) :
    er = 210 ∨ er = 211 ∨ (er = 0 ∧ kd = 1) ∨ (er = 0 ∧ kd = 2 ∧ is = true ∧ (v.toList == val.toList) = true) ∨ (er = 0 ∧ kd = 3 ∧ is = false) ∨ (er = 0 ∧ kd = 4 ∧ fo = false) ∨ (er = 0 ∧ kd = 4 ∧ fo = true ∧ (v.toList == val.toList) = true) := by
  have he := doP_err (o := ⟨kd, key, old, val⟩) h
  rw [hd] at he
  simp only at he
  rcases he with rfl | rfl | rfl
  · right; right
    have he0 : (doP ls ⟨kd, key, old, val⟩).2.err = 0 := by rw [hd]
    have ho := doP_mayO h he0
    have hm' : mayS ls' = true := by have := doP_may ⟨kd, key, old, val⟩ h; rw [hd] at this; exact this
    obtain ⟨g1, g2⟩ := doP_step h he0
    rw [hd] at g1 g2
    obtain ⟨hk, _, _, hkd⟩ := mayO_spec ho
    simp only at g1 g2 hk hkd
    rw [value_ok hm' hk, g2] at hv
    unfold stepK at g1 hv
    simp only at g1 hv
    rcases hkd with rfl | rfl | rfl | rfl
    · exact .inl ⟨rfl, rfl⟩
    · right; left
      simp only [show ¬ (2 : Int) = 1 by decide, if_true, if_false, rpOf, Option.isSome_some] at hv
      obtain ⟨rfl, rfl⟩ := Prod.mk.inj hv
      exact ⟨rfl, rfl, rfl, by simp⟩
    · right; right; left
      simp only [show ¬ (3 : Int) = 1 by decide, show ¬ (3 : Int) = 2 by decide, if_true, if_false, rpOf, Option.isSome_none] at hv
      obtain ⟨rfl, rfl⟩ := Prod.mk.inj hv
      exact ⟨rfl, rfl, rfl⟩
    · right; right; right
      simp only [show ¬ (4 : Int) = 1 by decide, show ¬ (4 : Int) = 2 by decide, show ¬ (4 : Int) = 3 by decide, if_false] at g1 hv
      by_cases hx : look ls key = some old
      · rw [if_pos hx] at hv g1
        simp only [rpOf, Option.isSome_some] at hv
        obtain ⟨rfl, rfl⟩ := Prod.mk.inj hv
        cases fo
        · exact .inl ⟨rfl, rfl, rfl⟩
        · exact .inr ⟨rfl, rfl, rfl, by simp⟩
      · rw [if_neg hx] at g1
        simp only at g1
        have : fo = false := by injection g1
        exact .inl ⟨rfl, rfl, this⟩
  · exact .inl rfl
  · exact .inr (.inl rfl)

set_option maxRecDepth 100000 in
set_option maxHeartbeats 4000000 in
theorem stays_good (a : Option Addr) (cap : Nat) (s : List Pr) (b : Option Addr) (bcap : Nat) (l : List Opn) (w : World) (hs : SlP w a cap s) (ho : SlO w b bcap l) (hg : greatO l = false) (hg2 : greatB s = false) (hm : mayS s = true) :
    Calls Try.prog 9 #[.slice a s.length cap, .slice b l.length bcap] w fun e w' => e = .returned (.bool true) ∧ Below w.heap.size w w' := by
  have hl100 := greatO_no hg
  have hs8 := (may_spec hm).1
  have HG := Lib.hid hg
  have HG2 := Lib.hid hg2
  have HM := Lib.hid hm
  clear hg hg2 hm
  go_enter Try.func9, Try.ntmps9
  refine wp_seq_k (fun K hK => ?_)
  have HK := Lib.hid hK
  clear hK
  go_wp2
  refine HK.out _ _ ?_
  clear HK
  refine wp_seq_k (fun K hK => ?_)
  have HK := Lib.hid hK
  clear hK
  go_wp2_with (go_at_call 30; refine (awake_any _).mono ?_; rintro e w1 ⟨rfl, hb1⟩)
  refine HK.out _ _ ?_
  clear HK
  have hs1 := hs.below hb1
  have ho1 := ho.below hb1
  refine wp_seq_k (fun K hK => ?_)
  have HK := Lib.hid hK
  clear hK
  go_wp2_with (first
      | (go_at_call 44; refine (greatO_any _ _ _ _ ho1).mono ?_; rintro e w' ⟨rfl, rfl⟩; rw [HG.out])
      | (go_at_call 32; refine (great_any _ _ _ _ hs1).mono ?_; rintro e w' ⟨rfl, rfl⟩; rw [HG2.out])
      | (go_at_call 33; refine (may_true _ _ _ _ hs1 HM.out).mono ?_; rintro e w2 ⟨rfl, hb2⟩))
  refine HK.out _ _ ?_
  clear HK
  have hbw2 := hb1.trans (hb2.mono hb1.size)
  refine wp_seq_k (fun K hK => ?_)
  go_cut [] (fun wx => Below w.heap.size w wx)
  case first =>
    go_wp2_with fail
    go_loopw [0, 5] (fun sv i wr => ∃ (k : Nat) (ls : List Pr) (sa : Option Addr) (scap : Nat), k ≤ l.length ∧ i = .int .i64 k ∧ sv = .slice sa ls.length scap ∧ mayS ls = true ∧ SlP wr sa scap ls ∧ Below w.heap.size w wr) (fun _ i _ => l.length - (intOf i).toNat)
    case atStart => exact ⟨0, s, a, cap, by omega, rfl, rfl, HM.out, hs.below hbw2, hbw2⟩
    case round =>
      obtain ⟨k, ls, sa, scap, hk, rfl, rfl, hmls, hsl, hbr⟩ := hrel
      have hls8 := (may_spec hmls).1
      by_cases hlt : k < l.length
      · obtain ⟨bb, off, rfl, hblt, c0, c1, c2, c3⟩ := (ho.below hbr).row.opn (List.getElem?_eq_getElem hlt)
        generalize l[k] = o at *
        obtain ⟨kd, key, old, val⟩ := o
        simp only at c0 c1 c2 c3
        obtain ⟨ls', ⟨er, fo, va⟩, hd⟩ : ∃ (l' : List Pr) (r : Rp), doP ls ⟨kd, key, old, val⟩ = (l', r) := ⟨_, _, rfl⟩
        have hm' : mayS ls' = true := by have := doP_may ⟨kd, key, old, val⟩ hmls; rw [hd] at this; exact this
        have hls8' := (may_spec hm').1
        have HD := Lib.hid hd
        have HML := Lib.hid hmls
        have HML' := Lib.hid hm'
        clear hd hmls hm'
        go_wp2_with (go_at_call 36; refine (do_open _ _ _ _ _ _ _ _ (hsl.below (below1 wr _)) (by omega) _ _ _ _ HD.out).mono ?_; rintro e w4 ⟨⟨na, ncap, rfl, hn⟩, hb4⟩)
        have hbr4 : Below wr.heap.size wr w4 := (below1 wr _).trans (hb4.mono (by simp))
        have hlt4 : wr.heap.size < w4.heap.size := Nat.lt_of_lt_of_le (by simp) hb4.size
        have bo := (hb4.block wr.heap.size (by simp)).trans (heap_alloc_new wr (Obj.cells #[.int .u8 kd, .string key, .string old, .string val] 61))
        have hp4 := below1 w4 (Obj.cells #[.int .i64 er, .bool fo, .string va] 43)
        have br := heap_alloc_new w4 (Obj.cells #[.int .i64 er, .bool fo, .string va] 43)
        have bo := (hp4.block wr.heap.size hlt4).trans bo
        have hbr5 := hbr4.trans (hp4.mono hbr4.size)
        have hn5 := hn.below hp4
        have hs5 := hsl.below hbr5
        have hlt5 : w4.heap.size < (w4.alloc (Obj.cells #[.int .i64 er, .bool fo, .string va] 43)).heap.size := by simp
        generalize w4.alloc (Obj.cells #[.int .i64 er, .bool fo, .string va] 43) = w5 at *
        have herr := doP_err (o := ⟨kd, key, old, val⟩) HML.out
        have h210 := doP_210 (o := ⟨kd, key, old, val⟩) HML.out
        have hsame := doP_same (o := ⟨kd, key, old, val⟩) HML.out
        have hread := doP_reads (o := ⟨kd, key, old, val⟩) HML.out
        rw [HD.out] at herr h210 hsame hread
        simp only at herr h210 hsame hread
        have HERR := Lib.hid herr
        have H210 := Lib.hid h210
        have HSAME := Lib.hid hsame
        have HREAD := Lib.hid hread
        clear herr h210 hsame hread
        go_cut [75] (fun b wx => b = .bool false ∧ Below w5.heap.size w5 wx)
        case first =>
          obtain ⟨o0, o1, o2, o3⟩ := four bo
          obtain ⟨r0, r1, r2, _⟩ := trio br
          have o0 := under_cell o0
          have o1 := under_cell o1
          have o2 := under_cell o2
          have o3 := under_cell o3
          have r0 := under_cell r0
          have r1 := under_cell r1
          have r2 := under_cell r2
          have hN : Hid (∀ x, SlP (Under w5 x) na ncap ls') := Lib.hid fun x => hn5.below (under_below w5 x)
          have hS : Hid (∀ x, SlP (Under w5 x) sa scap ls) := Lib.hid fun x => hs5.below (under_below w5 x)
          have hl1000 : ls'.length ≤ 1000 := by omega
          have hmo : ∃ m, mayO ⟨kd, key, old, val⟩ = m := ⟨_, rfl⟩
          obtain ⟨m, hmo⟩ := hmo
          have HMO := Lib.hid hmo
          have hkb : ∃ kb, (kd == 1) = kb := ⟨_, rfl⟩
          obtain ⟨kb, hkb⟩ := hkb
          have HKB := Lib.hid hkb
          clear hmo hkb
          have hcs : (er = 0 ∧ m = true) ∨ (er = 210 ∧ m = false ∧ ls' = ls) ∨ (er = 211 ∧ m = true ∧ ls' = ls) := by
            have h2 := H210.out
            rw [HMO.out] at h2
            rcases HERR.out with rfl | rfl | rfl
            · exact .inl ⟨rfl, by simpa using h2⟩
            · exact .inr (.inl ⟨rfl, by simpa using h2, HSAME.out (by decide)⟩)
            · exact .inr (.inr ⟨rfl, by simpa using h2, HSAME.out (by decide)⟩)
          have hrd : kb = true → ls' = ls := fun h => HREAD.out (by have := HKB.out; rw [h] at this; exact beq_iff_eq.1 this)
          have HCS := Lib.hid hcs
          have HRD := Lib.hid hrd
          clear hcs hrd
          rcases HCS.out with ⟨rfl, rfl⟩ | ⟨rfl, rfl, hee0⟩ | ⟨rfl, rfl, hee0⟩
          · skip
            cases kb
            · skip
              refine wp_region_under (by kernel_rfl) (by kernel_rfl) ?_
              repeat (go_big_quiet_step ((first
                              | (go_at_call 33; exact under_call (may_true _ _ _ _ (hN.out _) HML'.out))
                              | (go_at_call 34; exact under_call (pmayO_any _ _ _ _ _ _ HMO.out))
                              | (go_at_call 43; exact under_call (preads_any _ _ _ _ _ _ HKB.out))
                              | (go_at_call 37; exact under_drew (same_true _ _ _ _ _ _ _ (hN.out _) (hS.out _) hl1000 (HRD.out (by assumption)))))))
              refine wpQuiet_nil ?_
              intro _ hw'
              obtain ⟨xU, hw''⟩ := hw'
              subst hw''
              have hbU := under_below w5 xU
              go_wp2_with fail
              go_meet
              exact ⟨rfl, hbU⟩
            · skip
              refine wp_region_under (by kernel_rfl) (by kernel_rfl) ?_
              repeat (go_big_quiet_step ((first
                              | (go_at_call 33; exact under_call (may_true _ _ _ _ (hN.out _) HML'.out))
                              | (go_at_call 34; exact under_call (pmayO_any _ _ _ _ _ _ HMO.out))
                              | (go_at_call 43; exact under_call (preads_any _ _ _ _ _ _ HKB.out))
                              | (go_at_call 37; exact under_drew (same_true _ _ _ _ _ _ _ (hN.out _) (hS.out _) hl1000 (HRD.out rfl))))))
              refine wpQuiet_nil ?_
              intro _ hw'
              obtain ⟨xU, hw''⟩ := hw'
              subst hw''
              have hbU := under_below w5 xU
              go_wp2_with fail
              go_meet
              exact ⟨rfl, hbU⟩
          · have hee := Lib.hid hee0
            clear hee0
            cases kb
            · skip
              refine wp_region_under (by kernel_rfl) (by kernel_rfl) ?_
              repeat (go_big_quiet_step ((first
                              | (go_at_call 33; exact under_call (may_true _ _ _ _ (hN.out _) HML'.out))
                              | (go_at_call 34; exact under_call (pmayO_any _ _ _ _ _ _ HMO.out))
                              | (go_at_call 43; exact under_call (preads_any _ _ _ _ _ _ HKB.out))
                              | (go_at_call 37; exact under_drew (same_true _ _ _ _ _ _ _ (hN.out _) (hS.out _) hl1000 (hee.out))))))
              refine wpQuiet_nil ?_
              intro _ hw'
              obtain ⟨xU, hw''⟩ := hw'
              subst hw''
              have hbU := under_below w5 xU
              go_wp2_with fail
              go_meet
              exact ⟨rfl, hbU⟩
            · skip
              refine wp_region_under (by kernel_rfl) (by kernel_rfl) ?_
              repeat (go_big_quiet_step ((first
                              | (go_at_call 33; exact under_call (may_true _ _ _ _ (hN.out _) HML'.out))
                              | (go_at_call 34; exact under_call (pmayO_any _ _ _ _ _ _ HMO.out))
                              | (go_at_call 43; exact under_call (preads_any _ _ _ _ _ _ HKB.out))
                              | (go_at_call 37; exact under_drew (same_true _ _ _ _ _ _ _ (hN.out _) (hS.out _) hl1000 (hee.out))))))
              refine wpQuiet_nil ?_
              intro _ hw'
              obtain ⟨xU, hw''⟩ := hw'
              subst hw''
              have hbU := under_below w5 xU
              go_wp2_with fail
              go_meet
              exact ⟨rfl, hbU⟩
          · have hee := Lib.hid hee0
            clear hee0
            cases kb
            · skip
              refine wp_region_under (by kernel_rfl) (by kernel_rfl) ?_
              repeat (go_big_quiet_step ((first
                              | (go_at_call 33; exact under_call (may_true _ _ _ _ (hN.out _) HML'.out))
                              | (go_at_call 34; exact under_call (pmayO_any _ _ _ _ _ _ HMO.out))
                              | (go_at_call 43; exact under_call (preads_any _ _ _ _ _ _ HKB.out))
                              | (go_at_call 37; exact under_drew (same_true _ _ _ _ _ _ _ (hN.out _) (hS.out _) hl1000 (hee.out))))))
              refine wpQuiet_nil ?_
              intro _ hw'
              obtain ⟨xU, hw''⟩ := hw'
              subst hw''
              have hbU := under_below w5 xU
              go_wp2_with fail
              go_meet
              exact ⟨rfl, hbU⟩
            · skip
              refine wp_region_under (by kernel_rfl) (by kernel_rfl) ?_
              repeat (go_big_quiet_step ((first
                              | (go_at_call 33; exact under_call (may_true _ _ _ _ (hN.out _) HML'.out))
                              | (go_at_call 34; exact under_call (pmayO_any _ _ _ _ _ _ HMO.out))
                              | (go_at_call 43; exact under_call (preads_any _ _ _ _ _ _ HKB.out))
                              | (go_at_call 37; exact under_drew (same_true _ _ _ _ _ _ _ (hN.out _) (hS.out _) hl1000 (hee.out))))))
              refine wpQuiet_nil ?_
              intro _ hw'
              obtain ⟨xU, hw''⟩ := hw'
              subst hw''
              have hbU := under_below w5 xU
              go_wp2_with fail
              go_meet
              exact ⟨rfl, hbU⟩
        obtain ⟨rfl, hb6⟩ := hcut
        have hbr6 := hbr5.trans (hb6.mono hbr5.size)
        have hlt50 : wr.heap.size < w5.heap.size := by have := hp4.size; omega
        have bo6 := (hb6.block wr.heap.size hlt50).trans bo
        have br6 := (hb6.block w4.heap.size hlt5).trans br
        have hn6 := hn5.below hb6
        have hs6 := hs5.below hb6
        have hbw6 := hbr.trans (hbr6.mono hbr.size)
        have HO := Lib.hid (fun q => doP_other (o := ⟨kd, key, old, val⟩) (k := q) HML.out)
        go_wp2_with fail
        obtain ⟨wo, rfl⟩ : ∃ wo : World, wo = wr := ⟨_, rfl⟩
        go_loopw [9] (fun j wx => ∃ q : Nat, q ≤ ls.length ∧ j = .int .i64 q ∧ Below wc.heap.size wc wx) (fun j _ => ls.length - (intOf j).toNat)
        case atStart => exact ⟨0, by omega, rfl, Below.refl _ _⟩
        case round =>
          obtain ⟨q, hq, rfl, hbx⟩ := hrel
          have hnx := hn6.below hbx
          have hsx := hs6.below hbx
          have hsz6 := hb6.size
          have hltc : wo.heap.size < wc.heap.size := by omega
          have hltr : w4.heap.size < wc.heap.size := by omega
          by_cases hlq : q < ls.length
          · obtain ⟨sb, soff, rfl, hsblt, hscs⟩ := hsx.row.pair (List.getElem?_eq_getElem hlq)
            obtain ⟨x0, x1⟩ := hscs _ _ (List.getElem?_eq_getElem hlq)
            have hmem := List.getElem_mem hlq
            have hlkm := look_mem (may_rises HML.out) hmem
            have hok := ((may_spec HML.out).2.2 _ hmem).1
            clear hscs hmem
            generalize ls[q] = y at *
            obtain ⟨y1, y2⟩ := y
            simp only at hlkm hok x0 x1
            by_cases hyk : y1 = key
            · obtain ⟨v, is, hvp⟩ : ∃ v is, valueP ls' y1 = (v, is) := ⟨_, _, rfl⟩
              have HVP := Lib.hid hvp
              have hyb : (y1.toList == key.toList) = true := by rw [tx_eq]; exact decide_eq_true hyk
              have HYK := Lib.hid hyk
              have HLK := Lib.hid hlkm
              clear hvp hyk hlkm hok
              go_wp2_with (go_at_call 35; refine (lvalue_any _ _ _ _ _ hnx (by omega) _ _ HVP.out).mono ?_; rintro e w7 ⟨rfl, hb7⟩; have x0' := keep_b hb7 x0; have x1' := keep_b hb7 x1; have hbx7 := hbx.trans (hb7.mono hbx.size); obtain ⟨o0, o1, o2, o3⟩ := four ((hbx7.block wo.heap.size hltc).trans bo6))
              go_quiet (fail)
              go_wp2
              go_roundw
              case rel => exact ⟨q + 1, by omega, by go_num, below_drewN hbx7 _⟩
              case measure => simp [intOf]; omega
            · have hvp : valueP ls' y1 = (y2, true) := by
                have h1 := HO.out y1 hyk
                rw [HD.out] at h1
                rw [value_ok HML'.out hok, h1, hlkm]
                rfl
              have HVP := Lib.hid hvp
              have hyb : (y1.toList == key.toList) = false := by rw [tx_eq]; exact decide_eq_false hyk
              have HYK := Lib.hid hyk
              have HLK := Lib.hid hlkm
              clear hvp hyk hlkm hok
              go_wp2_with (go_at_call 35; refine (lvalue_any _ _ _ _ _ hnx (by omega) _ _ HVP.out).mono ?_; rintro e w7 ⟨rfl, hb7⟩; have x0' := keep_b hb7 x0; have x1' := keep_b hb7 x1; have hbx7 := hbx.trans (hb7.mono hbx.size); obtain ⟨o0, o1, o2, o3⟩ := four ((hbx7.block wo.heap.size hltc).trans bo6))
              go_quiet (fail)
              go_wp2
              go_roundw
              case rel => exact ⟨q + 1, by omega, by go_num, below_drewN hbx7 _⟩
              case measure => simp [intOf]; omega
          · obtain ⟨v, is, hvp⟩ : ∃ v is, valueP ls' key = (v, is) := ⟨_, _, rfl⟩
            have HLAST := Lib.hid (stays_last HML.out HD.out hvp)
            have HVP := Lib.hid hvp
            clear hvp
            obtain ⟨o0, o1, o2, o3⟩ := four ((hbx.block wo.heap.size hltc).trans bo6)
            rcases HLAST.out with rfl | rfl | ⟨rfl, rfl⟩ | ⟨rfl, rfl, rfl, hvv⟩ | ⟨rfl, rfl, rfl⟩ | ⟨rfl, rfl, rfl⟩ | ⟨rfl, rfl, rfl, hvv⟩
            all_goals
              go_wp2_with (go_at_call 35; refine (lvalue_any _ _ _ _ _ hnx (by omega) _ _ HVP.out).mono ?_; rintro e w7 ⟨rfl, hb7⟩; have hbx7 := hbx.trans (hb7.mono hbx.size); obtain ⟨p0, p1, p2, p3⟩ := four ((hbx7.block wo.heap.size hltc).trans bo6); obtain ⟨r0, r1, r2, _⟩ := trio ((hbx7.block w4.heap.size hltr).trans br6))
              go_roundw
              case rel => exact ⟨k + 1, ls', na, ncap, by omega, by go_num, rfl, HML'.out, hnx.below hb7, hbw6.trans (hbx7.mono hbw6.size)⟩
              case measure => simp [intOf]; omega
      · go_wp2
        go_meet
        exact hbr
  refine hK _ _ ?_; clear hK
  go_wp2
  go_ret
  exact ⟨rfl, hcut⟩
end Go.Proofs.Ytmnjmjbmnhppfaa
