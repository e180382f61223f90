/- Holds: the program's. -/
import Derived.Test.YtiipelccmkidbaaH5
import Derived.Test.YtiipelccmkidbaaB0
import Derived.Test.YtiipelccmkidbaaK18
import Derived.Test.YtiipelccmkidbaaK19d
import Derived.Test.YtiipelccmkidbaaRows
import Derived.WalkKit
import Derived.WalkSpells
import Derived.WalkLawsBesides
import Derived.Handy
import Derived.Deep.QuietTactic
import Derived.BigQuiet
import Derived.Deep.DeepCutAuto
import Derived.Lib.Hide
import Derived.RegionTactic
import Derived.ChangeAlike
import Derived.Laws.ResultCell
import Derived.Laws.BitsAllLaws
import Derived.Laws.Shifts
import Derived.Outline
namespace Go.Proofs.Ytiipelccmkidbaa
open Go.RowKit

structure SlI (w : World) (a : Option Addr) (cap : Nat) (l : List Int) : Prop where
  row : Row w a (l.map (Value.int .i64))
  le : l.length ≤ cap
  max : cap ≤ maxLen
theorem SlI.below {w w' : World} {a : Option Addr} {cap : Nat} {l : List Int} (h : SlI w a cap l) (hb : Below w.heap.size w w') : SlI w' a cap l := ⟨h.row.below0 hb, h.le, h.max⟩

theorem check_zero (a : Option Addr) (cap : Nat) (l : List Cl) (w : World) (hs : SlC w a cap l) (c : Int) (h : chk l = c) :
    Calls Try.prog 7 #[.slice a l.length cap] w fun e w' => e = .returned (.int .i64 c) ∧ Below w.heap.size w w' := by
  subst h
  exact check_any a cap l w hs
theorem holdsP_bad {l : List Cl} {q : List Int} (h : chk l ≠ 0) : holdsP l q = false := by
  unfold holdsP
  have : (chk l == 0) = false := beq_eq_false_iff_ne.2 h
  rw [this]
  rfl
/-- The calls that are done, as bits. -/
def MaskOf (m : Nat) (q : List Int) : Prop := m < 2 ^ 40 ∧ ∀ j : Nat, m.testBit j = q.contains (j : Int)
theorem do_own2 (a : Option Addr) (cap : Nat) (l : List Pr) (k : Int) (key old val : Tx) (w : World) (hs : SlP w a cap l) (hl : l.length ≤ 1000) (l' : List Pr) (err : Int) (f : Bool) (v : Tx) (hlr : doP l ⟨k, key, old, val⟩ = (l', ⟨err, f, v⟩)) :
    Calls Try.prog 8 #[.slice a l.length cap, .agg #[.int .u8 k, .string key, .string old, .string val]] w fun e w' => (∃ a' cap', e = .returned (.tuple #[.slice a' l'.length cap', .agg #[.int .i64 err, .bool f, .string v]]) ∧ w'.ownsRow w.heap.size 46 2 (.slice a' l'.length cap') l'.length (prs l')) ∧ Below w.heap.size w w' := by
  refine (do_any a cap l ⟨k, key, old, val⟩ w hs hl _ hlr).mono ?_
  rintro e w' ⟨⟨v', rfl, ho⟩, hb⟩
  obtain ⟨a', cap', rfl, _⟩ := SlP.of_owns ho
  exact ⟨⟨a', cap', rfl, ho⟩, hb⟩
theorem SlP.owned {w : World} {base : Nat} {e : TypeId} {a : Option Addr} {n cap : Nat} {l : List Pr} (h : w.ownsRow base e 2 (.slice a n cap) l.length (prs l)) : SlP w a cap l := by
  obtain ⟨a', cap', hv, hs⟩ := SlP.of_owns h
  injection hv with e1 e2 e3
  subst e1 e3
  exact hs
theorem mask_more {m n : Nat} {q : List Int} (h : MaskOf m q) (hn : n < 40) : MaskOf (m ||| 2 ^ n) (q ++ [(n : Int)]) := by
  refine ⟨(bit_set m n h.1 hn).2, fun j => ?_⟩
  rw [bit_test, h.2 j, List.contains_append]
  simp [eq_comm]
  congr 1
  rw [decide_eq_decide]
  omega
def fullF (l : List Cl) (q : List Int) (i : Nat) : Bool := !(decide (0 < (clA l i).en) && !q.contains (i : Int))
theorem full_no {l : List Cl} {q : List Int} {j : Nat} (hj : j < l.length) (h : fullF l q j = false) : fullP l q = false := by
  show (List.range l.length).all (fullF l q) = false
  rw [List.all_eq_false]
  exact ⟨j, List.mem_range.2 hj, by rw [h]; decide⟩
theorem imax (a b : Int) : (if a < b then b else a) = max a b := by split <;> omega
theorem chk_len {l : List Cl} (h : chk l = 0) : l.length ≤ 40 := by
  apply Decidable.byContradiction
  intro h2
  rw [chk_long (by omega)] at h
  cases h

set_option maxRecDepth 100000 in
set_option maxHeartbeats 8000000 in
theorem holds_any (a : Option Addr) (cap : Nat) (l : List Cl) (b : Option Addr) (bcap : Nat) (q : List Int) (w : World) (hs : SlC w a cap l) (hq : SlI w b bcap q) :
    Calls Try.prog 5 #[.slice a l.length cap, .slice b q.length bcap] w fun e w' => e = .returned (.bool (holdsP l q)) ∧ Below w.heap.size w w' := by
  have hr := hs.row
  have hle := hs.le
  have hmx := hs.max
  have hqr := hq.row
  have hqm := hq.max
  have hql := hq.le
  unfold maxLen at hmx hqm
  by_cases hc : chk l = 0
  · have hl40 := chk_len hc
    have HC := Lib.hid hc
    clear hc
    go_enter Try.func5, Try.ntmps5
    refine wp_seq_k (fun K hK => ?_)
    have HK := Lib.hid hK
    clear hK
    go_wp2
    refine HK.out _ _ ?_
    clear HK
    refine wp_seq_k (fun K hK => ?_)
    have HK := Lib.hid hK
    clear hK
    go_wp2_with (go_at_call 7; refine (check_zero _ _ _ _ hs _ HC.out).mono ?_; rintro e w1 ⟨rfl, hb1⟩)
    refine HK.out _ _ ?_
    clear HK
    refine wp_seq_k (fun K hK => ?_)
    have HK := Lib.hid hK
    clear hK
    go_wp2
    refine HK.out _ _ ?_
    clear HK
    refine wp_seq_k (fun K hK => ?_)
    have HK := Lib.hid hK
    clear hK
    go_wp2
    refine HK.out _ _ ?_
    clear HK
    refine wp_seq_k (fun K hK => ?_)
    have HK := Lib.hid hK
    clear hK
    go_wp2
    refine HK.out _ _ ?_
    clear HK
    refine wp_seq_k (fun K hK => ?_)
    go_cut [5, 6, 7] (fun _ d _ wx => goesP l [] q = true ∧ (∃ m : Nat, d = .int .u64 m ∧ MaskOf m q) ∧ Below w.heap.size w wx)
    case first =>
      go_wp2_with fail
      go_loopw [5, 6, 7, 18] (fun s d t i wr => ∃ (k : Nat) (sa : Option Addr) (scap : Nat) (m : Nat), k ≤ q.length ∧ i = .int .i64 k ∧ s = .slice sa (stA l (q.take k)).length scap ∧ SlP wr sa scap (stA l (q.take k)) ∧ d = .int .u64 m ∧ MaskOf m (q.take k) ∧ t = .int .i64 (latA l (q.take k)) ∧ goesP l [] q = goesP l (q.take k) (q.drop k) ∧ Below w.heap.size w wr) (fun _ _ _ i _ => q.length - (intOf i).toNat)
      case atStart => exact ⟨0, none, 0, 0, by omega, rfl, rfl, ⟨.inl rfl, Nat.le_refl _, by simp, fun _ => rfl⟩, rfl, ⟨by omega, fun j => by simp⟩, rfl, rfl, hb1⟩
      case round =>
        obtain ⟨k, sa, scap, m, hk, rfl, rfl, hsl, rfl, hmk, rfl, hgo, hbr⟩ := hrel
        have hbs := hbr.size
        by_cases hlt : k < q.length
        · obtain ⟨qb, qoff, i, rfl, hqi, ci0⟩ := hqr.int hlt
          have hqlt : qb < w.heap.size := World.block_lt_of_cell? _ _ ci0
          have ci := (hbr.cell (p := ⟨qb, qoff + k, none⟩) hqlt).trans ci0
          rw [goesP_take l q hqi] at hgo
          have HG := Lib.hid hgo
          clear hgo ci0
          by_cases i0 : i < 0
          · have hok : okP l (q.take k) i = false := by
              have : decide (0 ≤ i) = false := decide_eq_false (by omega)
              unfold okP inR
              rw [this]
              rfl
            have HR : Hid (holdsP l q = false) := Lib.hid (by unfold holdsP; rw [HG.out, hok]; simp)
            clear hok
            go_wp2
            go_ret
            exact ⟨ret_bool HR.out.symm, hbr⟩
          · by_cases i1 : (l.length : Int) ≤ i
            · have hok : okP l (q.take k) i = false := by
                have : decide (i < l.length) = false := decide_eq_false (by omega)
                unfold okP inR
                rw [this]
                simp
              have HR : Hid (holdsP l q = false) := Lib.hid (by unfold holdsP; rw [HG.out, hok]; simp)
              clear hok
              go_wp2
              go_ret
              exact ⟨ret_bool HR.out.symm, hbr⟩
            · obtain ⟨n, rfl⟩ : ∃ n : Nat, i = n := ⟨i.toNat, by omega⟩
              have hn : n < l.length := by omega
              obtain ⟨bb, off, rfl, hblt, ht0⟩ := hr.call (List.getElem?_eq_getElem hn)
              obtain ⟨c0, c1, c2, c3, c4, c5, c6, c7, c8, c9⟩ := ht0.below hbr hblt
              clear c0
              have hbit := bit_get m n hmk.1
              rw [hmk.2 n] at hbit
              have hcl : clA l (n : Int) = l[n] := by
                unfold clA
                rw [Int.toNat_natCast, List.getD_eq_getElem?_getD, List.getElem?_eq_getElem hn]
                rfl
              have hin : inR l (n : Int) = true := by
                unfold inR
                rw [decide_eq_true (by omega : (0 : Int) ≤ n), decide_eq_true (by omega : (n : Int) < l.length)]
                rfl
              have hst := stA_snoc l (q.take k) n
              have hlt2 := latA_snoc l (q.take k) n
              rw [← take_snoc' hqi] at hst hlt2
              have hok : okP l (q.take k) n = (!(q.take k).contains (n : Int) && !(decide (0 < (l[n]).en) && decide ((l[n]).en < latA l (q.take k))) && !(decide (0 < (l[n]).en) && !rpEq (doP (stA l (q.take k)) (l[n]).op).2 (l[n]).rep)) := by
                unfold okP
                rw [hin, hcl]
                simp
              rw [hcl] at hst hlt2
              have hms := stA_may l (q.take k)
              have hms' := stA_may l (q.take (k + 1))
              generalize l[n] = c at *
              obtain ⟨cli, ⟨kd, key, old, val⟩, ⟨er, fo, va⟩, st, en⟩ := c
              simp only at c1 c2 c3 c4 c5 c6 c7 c8 c9 hok hst hlt2
              clear hcl hin
              generalize stA l (q.take k) = ls at *
              generalize latA l (q.take k) = lat at *
              obtain ⟨ls', ⟨er', fo', va'⟩, hd⟩ : ∃ (l' : List Pr) (r : Rp), doP ls ⟨kd, key, old, val⟩ = (l', r) := ⟨_, _, rfl⟩
              rw [hd] at hok hst
              simp only at hok hst
              have hl8 := (may_spec hms).1
              have HD := Lib.hid hd
              have HST := Lib.hid hst
              have HLT := Lib.hid hlt2
              have HMK := Lib.hid hmk
              have HMS := Lib.hid hms'
              clear hd hst hlt2 hmk hms hms'
              cases hct : (q.take k).contains (n : Int)
              · rw [hct] at hbit hok
                simp only [Bool.not_false, Bool.true_and] at hok
                have hb1 : (bits .and .u64 ((m : Int) / 2 ^ n) 1 == 1) = false := by rw [hbit]; rfl
                have HCT := Lib.hid hct
                clear hbit hct
                by_cases e0 : 0 < en
                · by_cases e1 : en < lat
                  · have HR : Hid (holdsP l q = false) := Lib.hid (by unfold holdsP; rw [HG.out, hok, decide_eq_true e0, decide_eq_true e1]; simp)
                    clear hok
                    go_wp2
                    go_ret
                    exact ⟨ret_bool HR.out.symm, hbr⟩
                  · have e1b : decide (en < lat) = false := decide_eq_false e1
                    have hbx := blw1 wr (Obj.cells #[.int .i64 0, .bool false, .string ⟨#[]⟩] 30)
                    have d1 := (hbx.cell (p := ⟨bb, off + n * 10 + 1, none⟩) (by simp; omega)).trans c1
                    have d2 := (hbx.cell (p := ⟨bb, off + n * 10 + 2, none⟩) (by simp; omega)).trans c2
                    have d3 := (hbx.cell (p := ⟨bb, off + n * 10 + 3, none⟩) (by simp; omega)).trans c3
                    have d4 := (hbx.cell (p := ⟨bb, off + n * 10 + 4, none⟩) (by simp; omega)).trans c4
                    have HOR := Lib.hid (bit_or m n HMK.out.1 (by omega))
                    go_wp2_with (go_at_call 8; refine (do_own2 _ _ _ _ _ _ _ _ (hsl.below hbx) (by omega) _ _ _ _ HD.out).mono ?_; rintro e w6 ⟨⟨na, ncap, rfl, hown⟩, hb6⟩; obtain ⟨p0, p1, p2, q0, q1, q2⟩ := trio ((hb6.block wr.heap.size (by simp)).trans (heap_alloc_new wr (Obj.cells #[.int .i64 0, .bool false, .string ⟨#[]⟩] 30))))
                    have hz6 := hb6.size
                    have hsx := hbx.size
                    have hwx : wr.heap.size < w6.heap.size := by have := World.block_lt_of_cell? _ _ p0; simpa using this
                    have hb0 := (hb6.block wr.heap.size (by simp)).trans (heap_alloc_new wr (Obj.cells #[.int .i64 0, .bool false, .string ⟨#[]⟩] 30))
                    have s1 := heap_setCell_same w6 wr.heap.size 0 _ _ (.int .i64 er') hb0
                    have s2 := heap_setCell_same _ wr.heap.size 1 _ _ (.bool fo') s1
                    have s3 := heap_setCell_same _ wr.heap.size 2 _ _ (.string va') s2
                    have hne := own_ne hown hb0 (by decide)
                    have hown7 := owns_far (owns_far (owns_far hown hne (j := 0) (.int .i64 er')) hne (j := 1) (.bool fo')) hne (j := 2) (.string va')
                    have hb7 : Below wr.heap.size wr (((w6.setCell ⟨wr.heap.size, 0, none⟩ (.int .i64 er')).setCell ⟨wr.heap.size, 1, none⟩ (.bool fo')).setCell ⟨wr.heap.size, 2, none⟩ (.string va')) := (((hbx.trans (hb6.mono hsx)).setCell (Nat.le_refl _) _).setCell (Nat.le_refl _) _).setCell (Nat.le_refl _) _
                    have hsl7 := SlP.owned hown7
                    clear hb0 s1 s2 hne hown hown7 p0 p1 p2 q0 q1 q2 d1 d2 d3 d4 hbx hb6 hz6 hsx hwx
                    generalize ((w6.setCell ⟨wr.heap.size, 0, none⟩ (.int .i64 er')).setCell ⟨wr.heap.size, 1, none⟩ (.bool fo')).setCell ⟨wr.heap.size, 2, none⟩ (.string va') = w7 at *
                    have hb07 := hbr.trans (hb7.mono hbs)
                    obtain ⟨r0, r1, r2, _⟩ := trio s3
                    obtain ⟨_, f1, f2, f3, f4, f5, f6, f7, f8, f9⟩ := ht0.below hb07 hblt
                    clear c1 c2 c3 c4 c5 c6 c7 c8 c9
                    simp only at f1 f2 f3 f4 f5 f6 f7 f8 f9
                    have HOK0 := Lib.hid hok
                    clear hok
                    by_cases y1 : er' = er
                    · by_cases y2 : fo' = fo
                      · by_cases y3 : va' = va
                        · have HOK : Hid (okP l (q.take k) n = true) := Lib.hid (by rw [HOK0.out, decide_eq_true e0, e1b]; simp [rpEq, y1, y2, y3])
                          subst y1 y2 y3
                          go_quiet (fail)
                          go_wp2
                          go_roundw
                          case rel => exact ⟨k + 1, na, ncap, m ||| 2 ^ n, by omega, by go_num, by rw [HST.out], by rw [HST.out]; exact hsl7.below (below_drewN (Below.refl _ _) _), int_eq HOR.out, by rw [take_snoc' hqi]; exact mask_more HMK.out (by omega), int_eq (by rw [HLT.out]; exact imax _ _), by rw [HG.out, HOK.out, Bool.true_and], below_drewN hb07 _⟩
                          case measure => simp [intOf]; omega
                        · have HR : Hid (holdsP l q = false) := Lib.hid (by
                            have y3b : (va'.toList == va.toList) = false := by rw [tx_eq]; exact decide_eq_false y3
                            unfold holdsP
                            rw [HG.out, HOK0.out, decide_eq_true e0]
                            simp [rpEq, y3b])
                          have y3b : (va'.toList == va.toList) = false := by rw [tx_eq]; exact decide_eq_false y3
                          subst y1 y2
                          clear y3
                          go_quiet (fail)
                          go_wp2
                          go_ret
                          exact ⟨ret_bool HR.out.symm, below_drewN hb07 _⟩
                      · have HR : Hid (holdsP l q = false) := Lib.hid (by
                          unfold holdsP
                          rw [HG.out, HOK0.out, decide_eq_true e0]
                          simp [rpEq, y2])
                        have y2b : (fo' == fo) = false := beq_eq_false_iff_ne.2 y2
                        clear y2
                        subst y1
                        go_quiet (fail)
                        go_wp2
                        go_ret
                        exact ⟨ret_bool HR.out.symm, below_drewN hb07 _⟩
                    · have HR : Hid (holdsP l q = false) := Lib.hid (by
                        unfold holdsP
                        rw [HG.out, HOK0.out, decide_eq_true e0]
                        simp [rpEq, y1])
                      have y1b : (er' == er) = false := beq_eq_false_iff_ne.2 y1
                      clear y1
                      go_quiet (fail)
                      go_wp2
                      go_ret
                      exact ⟨ret_bool HR.out.symm, below_drewN hb07 _⟩
                · have e0b : decide (0 < en) = false := decide_eq_false e0
                  have hbx := blw1 wr (Obj.cells #[.int .i64 0, .bool false, .string ⟨#[]⟩] 30)
                  have d1 := (hbx.cell (p := ⟨bb, off + n * 10 + 1, none⟩) (by simp; omega)).trans c1
                  have d2 := (hbx.cell (p := ⟨bb, off + n * 10 + 2, none⟩) (by simp; omega)).trans c2
                  have d3 := (hbx.cell (p := ⟨bb, off + n * 10 + 3, none⟩) (by simp; omega)).trans c3
                  have d4 := (hbx.cell (p := ⟨bb, off + n * 10 + 4, none⟩) (by simp; omega)).trans c4
                  have HOR := Lib.hid (bit_or m n HMK.out.1 (by omega))
                  go_wp2_with (go_at_call 8; refine (do_own2 _ _ _ _ _ _ _ _ (hsl.below hbx) (by omega) _ _ _ _ HD.out).mono ?_; rintro e w6 ⟨⟨na, ncap, rfl, hown⟩, hb6⟩; obtain ⟨p0, p1, p2, q0, q1, q2⟩ := trio ((hb6.block wr.heap.size (by simp)).trans (heap_alloc_new wr (Obj.cells #[.int .i64 0, .bool false, .string ⟨#[]⟩] 30))))
                  have hz6 := hb6.size
                  have hsx := hbx.size
                  have hwx : wr.heap.size < w6.heap.size := by have := World.block_lt_of_cell? _ _ p0; simpa using this
                  have hb0 := (hb6.block wr.heap.size (by simp)).trans (heap_alloc_new wr (Obj.cells #[.int .i64 0, .bool false, .string ⟨#[]⟩] 30))
                  have s1 := heap_setCell_same w6 wr.heap.size 0 _ _ (.int .i64 er') hb0
                  have s2 := heap_setCell_same _ wr.heap.size 1 _ _ (.bool fo') s1
                  have s3 := heap_setCell_same _ wr.heap.size 2 _ _ (.string va') s2
                  have hne := own_ne hown hb0 (by decide)
                  have hown7 := owns_far (owns_far (owns_far hown hne (j := 0) (.int .i64 er')) hne (j := 1) (.bool fo')) hne (j := 2) (.string va')
                  have hb7 : Below wr.heap.size wr (((w6.setCell ⟨wr.heap.size, 0, none⟩ (.int .i64 er')).setCell ⟨wr.heap.size, 1, none⟩ (.bool fo')).setCell ⟨wr.heap.size, 2, none⟩ (.string va')) := (((hbx.trans (hb6.mono hsx)).setCell (Nat.le_refl _) _).setCell (Nat.le_refl _) _).setCell (Nat.le_refl _) _
                  have hsl7 := SlP.owned hown7
                  clear hb0 s1 s2 hne hown hown7 p0 p1 p2 q0 q1 q2 d1 d2 d3 d4 hbx hb6 hz6 hsx hwx
                  generalize ((w6.setCell ⟨wr.heap.size, 0, none⟩ (.int .i64 er')).setCell ⟨wr.heap.size, 1, none⟩ (.bool fo')).setCell ⟨wr.heap.size, 2, none⟩ (.string va') = w7 at *
                  have hb07 := hbr.trans (hb7.mono hbs)
                  obtain ⟨r0, r1, r2, _⟩ := trio s3
                  obtain ⟨_, f1, f2, f3, f4, f5, f6, f7, f8, f9⟩ := ht0.below hb07 hblt
                  clear c1 c2 c3 c4 c5 c6 c7 c8 c9
                  simp only at f1 f2 f3 f4 f5 f6 f7 f8 f9
                  have HOK : Hid (okP l (q.take k) n = true) := Lib.hid (by rw [hok, e0b]; simp)
                  clear hok
                  go_quiet (fail)
                  go_wp2
                  go_roundw
                  case rel => exact ⟨k + 1, na, ncap, m ||| 2 ^ n, by omega, by go_num, by rw [HST.out], by rw [HST.out]; exact hsl7.below (below_drewN (Below.refl _ _) _), int_eq HOR.out, by rw [take_snoc' hqi]; exact mask_more HMK.out (by omega), int_eq (by rw [HLT.out]; exact imax _ _), by rw [HG.out, HOK.out, Bool.true_and], below_drewN hb07 _⟩
                  case measure => simp [intOf]; omega
              · rw [hct] at hbit hok
                have hb1 : (bits .and .u64 ((m : Int) / 2 ^ n) 1 == 1) = true := by rw [hbit]; rfl
                have HR : Hid (holdsP l q = false) := Lib.hid (by unfold holdsP; rw [HG.out, hok]; simp)
                clear hok hct hbit
                go_wp2
                go_ret
                exact ⟨ret_bool HR.out.symm, hbr⟩
        · have HG : Hid (goesP l [] q = true) := Lib.hid (by rw [hgo, List.drop_of_length_le (by omega)]; rfl)
          have HMK : Hid (MaskOf m q) := Lib.hid (by rw [List.take_of_length_le (by omega)] at hmk; exact hmk)
          clear hgo hmk
          go_wp2
          go_meet
          exact ⟨HG.out, ⟨m, rfl, HMK.out⟩, hbr⟩
    obtain ⟨hgo, ⟨m, rfl, hmk⟩, hbc⟩ := hcut
    have HG := Lib.hid hgo
    have HMK := Lib.hid hmk
    clear hgo hmk
    refine hK _ _ ?_; clear hK
    go_wp2_with fail
    go_loopw [93] (fun i wr => ∃ j : Nat, j ≤ l.length ∧ i = .int .i64 j ∧ (List.range j).all (fullF l q) = true ∧ Below w.heap.size w wr) (fun i _ => l.length - (intOf i).toNat)
    case atStart => exact ⟨0, by omega, rfl, rfl, hbc⟩
    case round =>
      obtain ⟨j, hj, rfl, hall, hbr⟩ := hrel
      have hbs := hbr.size
      have HALL := Lib.hid hall
      clear hall
      by_cases hlt : j < l.length
      · obtain ⟨bb, off, rfl, hblt, ht0⟩ := hr.call (List.getElem?_eq_getElem hlt)
        obtain ⟨c0, c1, c2, c3, c4, c5, c6, c7, c8, c9⟩ := ht0.below hbr hblt
        have hcl : clA l (j : Int) = l[j] := by
          unfold clA
          rw [Int.toNat_natCast, List.getD_eq_getElem?_getD, List.getElem?_eq_getElem hlt]
          rfl
        have hf : fullF l q j = !(decide (0 < (l[j]).en) && !q.contains (j : Int)) := by unfold fullF; rw [hcl]
        have hbit := bit_get m j HMK.out.1
        rw [HMK.out.2 j] at hbit
        clear ht0 hcl
        generalize l[j] = c at *
        obtain ⟨cli, ⟨kd, key, old, val⟩, ⟨er, fo, va⟩, st, en⟩ := c
        simp only at c0 c1 c2 c3 c4 c5 c6 c7 c8 c9 hf
        by_cases e0 : 0 < en
        · cases hct : q.contains (j : Int)
          · rw [hct, decide_eq_true e0] at hf
            rw [hct] at hbit
            have hb1 : (bits .and .u64 ((m : Int) / 2 ^ j) 1 == 0) = true := by rw [hbit]; rfl
            have HR : Hid (holdsP l q = false) := Lib.hid (by
              have : fullP l q = false := full_no hlt (by rw [hf]; rfl)
              unfold holdsP
              rw [this]
              simp)
            clear hf hct hbit
            go_wp2
            go_ret
            exact ⟨ret_bool HR.out.symm, by (repeat' (first | (with_reducible exact Below.refl _ _) | (with_reducible assumption) | (with_reducible refine Below.alloc ?_ ?_ _) | (with_reducible refine Below.drew ?_) | (with_reducible refine below_drewN ?_ _) | (with_reducible refine Below.setCell ?_ ?_ _) | (with_reducible refine Below.trans ?_ (by assumption)) | go_size))⟩
          · rw [hct] at hf hbit
            have hb1 : (bits .and .u64 ((m : Int) / 2 ^ j) 1 == 0) = false := by rw [hbit]; rfl
            have HS : Hid ((List.range (j + 1)).all (fullF l q) = true) := Lib.hid (by rw [List.range_succ, List.all_append, HALL.out, List.all_cons, hf]; simp)
            clear hf hct hbit
            go_wp2
            go_roundw
            case rel => exact ⟨j + 1, by omega, by go_num, HS.out, by (repeat' (first | (with_reducible exact Below.refl _ _) | (with_reducible assumption) | (with_reducible refine Below.alloc ?_ ?_ _) | (with_reducible refine Below.drew ?_) | (with_reducible refine below_drewN ?_ _) | (with_reducible refine Below.setCell ?_ ?_ _) | (with_reducible refine Below.trans ?_ (by assumption)) | go_size))⟩
            case measure => simp [intOf]; omega
        · have e0b : decide (0 < en) = false := decide_eq_false e0
          have HS : Hid ((List.range (j + 1)).all (fullF l q) = true) := Lib.hid (by rw [List.range_succ, List.all_append, HALL.out, List.all_cons, hf, e0b]; simp)
          clear hf hbit
          go_wp2
          go_roundw
          case rel => exact ⟨j + 1, by omega, by go_num, HS.out, by (repeat' (first | (with_reducible exact Below.refl _ _) | (with_reducible assumption) | (with_reducible refine Below.alloc ?_ ?_ _) | (with_reducible refine Below.drew ?_) | (with_reducible refine below_drewN ?_ _) | (with_reducible refine Below.setCell ?_ ?_ _) | (with_reducible refine Below.trans ?_ (by assumption)) | go_size))⟩
          case measure => simp [intOf]; omega
      · have HR : Hid (holdsP l q = true) := Lib.hid (by
          have h1 : fullP l q = true := by
            have := HALL.out
            rw [show j = l.length by omega] at this
            exact this
          unfold holdsP
          rw [h1, HG.out, HC.out]
          rfl)
        go_wp2
        go_ret
        exact ⟨ret_bool HR.out.symm, hbr⟩
  · have hcb : (chk l != 0) = true := bne_iff_ne.2 hc
    have HR := Lib.hid (holdsP_bad (q := q) hc)
    clear hc
    go_enter Try.func5, Try.ntmps5
    go_wp2_with (go_at_call 7; refine (check_any _ _ _ _ hs).mono ?_; rintro e w1 ⟨rfl, hb1⟩)
    go_ret
    exact ⟨ret_bool HR.out.symm, hb1⟩
end Go.Proofs.Ytiipelccmkidbaa
