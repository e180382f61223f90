/- Texts that the claim leans on, part 6: K19d, H6, Flat, Blk, Qui, Blk2, LC, L3. -/
import Derived.Test.YtaojblejnpemkaaDoorZ1
import Derived.Test.YtaojblejnpemkaaDoorZ2
import Derived.Test.YtaojblejnpemkaaDoorZ3
import Derived.Test.YtaojblejnpemkaaDoorZ4
import Derived.Test.YtaojblejnpemkaaDoorZ5
import Derived.Test.YtaojblejnpemkaaDoorRows
import Derived.WalkKit
import Derived.WalkSpells
import Derived.WalkLawsBesides
import Derived.Handy
import Derived.Deep.QuietTactic
import Derived.BigQuiet
import Derived.Deep.DeepCutAuto
import Derived.Lib.Hide
import Derived.RegionTactic
import Derived.ChangeAlike
import Derived.Laws.ResultCell
import Derived.Laws.BitsAllLaws
import Derived.Laws.Shifts
import Derived.Outline
import Derived.Laws.Rows
import Derived.Deep.Quiet
import Derived.Deep.RegionHeld3
import Derived.IntWalk
import Derived.Laws.EntriesVeiled
import Derived.StillTailTactics
import Derived.Deep.RegionWith
import Derived.Lib.Overlaps
import Derived.ProofKit
import Derived.OpenShut
import Derived.Laws.Strings
import Derived.Laws.CopyOwn
import Derived.Laws.CopyRow
import Derived.Laws.NewBlocks
import Derived.Deep.RegionLaw
namespace Go.Proofs.YtaojblejnpemkaaDoor
open Go.RowKit
theorem rdo_any (a : Option Addr) (cap : Nat) (l : List Pr) (o : Opn) (w : World) (hs : SlP w a cap l) (hl : l.length ≤ 1000) (hsm : ∀ p ∈ l, p.1.size ≤ 100000) (lr : List Pr × Rp) (hlr : doP l o = lr) :
    Calls Tryd.prog 24 #[.slice a l.length cap, opV o] w fun e w' => StRes w.heap.size lr.1 lr.2 e w' ∧ Below w.heap.size w w' := by
  obtain ⟨k, key, old, val⟩ := o
  cases hm : mayS l with
  | false =>
    have : doP l ⟨k, key, old, val⟩ = ([], ⟨2, false, ⟨#[]⟩⟩) := by unfold doP; rw [if_pos hm]
    rw [this] at hlr
    subst hlr
    exact rdo_nomay a cap l k key old val w hs hl hsm hm
  | true =>
    cases ho : mayO ⟨k, key, old, val⟩ with
    | false =>
      rw [doP_bad hm ho] at hlr
      subst hlr
      exact rdo_badop a cap l k key old val w hs hl hsm hm ho
    | true =>
      have hk := (mayO_spec ho).2.2.2
      rw [doP_ok hm ho] at hlr
      simp only at hlr hk
      rcases hk with rfl | rfl | rfl | rfl
      · simp only [if_true] at hlr
        cases hlk : look l key with
        | none =>
          have hw : wasR l key = ⟨0, false, ⟨#[]⟩⟩ := by simp [wasR, hlk]
          rw [hw] at hlr
          subst hlr
          exact rdo_1n a cap l key old val w hs hl hm ho hlk
        | some u =>
          have hw : wasR l key = ⟨0, true, u⟩ := by simp [wasR, hlk]
          rw [hw] at hlr
          subst hlr
          exact rdo_1s a cap l key old val w hs hl hm ho u hlk
      · simp only [show ¬ (2 : Int) = 1 by decide, if_true, if_false] at hlr
        cases hlk : look l key with
        | none =>
          have hw : wasR l key = ⟨0, false, ⟨#[]⟩⟩ := by simp [wasR, hlk]
          rw [hw] at hlr
          by_cases h8 : l.length = 8
          · rw [if_pos ⟨hlk, h8⟩] at hlr
            subst hlr
            exact rdo_2f a cap l key old val w hs hl hm ho hlk h8
          · rw [if_neg (fun h => h8 h.2)] at hlr
            subst hlr
            exact rdo_2n a cap l key old val w hs hl hm ho hlk h8
        | some u =>
          have hw : wasR l key = ⟨0, true, u⟩ := by simp [wasR, hlk]
          rw [hw, if_neg (by rw [hlk]; exact fun h => by cases h.1)] at hlr
          subst hlr
          exact rdo_2s a cap l key old val w hs hl hm ho u hlk
      · simp only [show ¬ (3 : Int) = 1 by decide, show ¬ (3 : Int) = 2 by decide, if_true, if_false] at hlr
        cases hlk : look l key with
        | none =>
          have hw : wasR l key = ⟨0, false, ⟨#[]⟩⟩ := by simp [wasR, hlk]
          rw [hw] at hlr
          subst hlr
          exact rdo_3n a cap l key old val w hs hl hm ho hlk
        | some u =>
          have hw : wasR l key = ⟨0, true, u⟩ := by simp [wasR, hlk]
          rw [hw] at hlr
          subst hlr
          exact rdo_3s a cap l key old val w hs hl hm ho u hlk
      · simp only [show ¬ (4 : Int) = 1 by decide, show ¬ (4 : Int) = 2 by decide, show ¬ (4 : Int) = 3 by decide, if_false] at hlr
        cases hlk : look l key with
        | none =>
          have hw : wasR l key = ⟨0, false, ⟨#[]⟩⟩ := by simp [wasR, hlk]
          rw [hw, if_neg (by rw [hlk]; exact fun h => by cases h)] at hlr
          subst hlr
          exact rdo_4n a cap l key old val w hs hl hm ho hlk
        | some u =>
          have hw : wasR l key = ⟨0, true, u⟩ := by simp [wasR, hlk]
          by_cases hu : u = old
          · subst hu
            rw [hw, if_pos hlk] at hlr
            subst hlr
            exact rdo_4e a cap l key u val w hs hl hm ho hlk
          · rw [hw, if_neg (by rw [hlk]; exact fun h => hu (Option.some.inj h))] at hlr
            subst hlr
            exact rdo_4o a cap l key old val w hs hl hm ho u hlk hu
end Go.Proofs.YtaojblejnpemkaaDoor
namespace Go.Proofs.YtaojblejnpemkaaDoor
open Go.RowKit
structure SlI (w : World) (a : Option Addr) (cap : Nat) (l : List Int) : Prop where
  row : Row w a (l.map (Value.int .i64))
  le : l.length ≤ cap
  max : cap ≤ maxLen
theorem SlI.below {w w' : World} {a : Option Addr} {cap : Nat} {l : List Int} (h : SlI w a cap l) (hb : Below w.heap.size w w') : SlI w' a cap l := ⟨h.row.below0 hb, h.le, h.max⟩
theorem check_zero (a : Option Addr) (cap : Nat) (l : List Cl) (w : World) (hs : SlC w a cap l) (c : Int) (h : chk l = c) :
    Calls Tryd.prog 22 #[.slice a l.length cap] w fun e w' => e = .returned (.int .i64 c) ∧ Below w.heap.size w w' := by
  subst h
  exact check_any a cap l w hs
theorem holdsP_bad {l : List Cl} {q : List Int} (h : chk l ≠ 0) : holdsP l q = false := by
  unfold holdsP
  have : (chk l == 0) = false := beq_eq_false_iff_ne.2 h
  rw [this]
  rfl
def MaskOf (m : Nat) (q : List Int) : Prop := m < 2 ^ 40 ∧ ∀ j : Nat, m.testBit j = q.contains (j : Int)
theorem do_own2 (a : Option Addr) (cap : Nat) (l : List Pr) (k : Int) (key old val : Tx) (w : World) (hs : SlP w a cap l) (hl : l.length ≤ 1000) (l' : List Pr) (err : Int) (f : Bool) (v : Tx) (hlr : doP l ⟨k, key, old, val⟩ = (l', ⟨err, f, v⟩)) :
    Calls Tryd.prog 17 #[.slice a l.length cap, .agg #[.int .u8 k, .string key, .string old, .string val]] w fun e w' => (∃ a' cap', e = .returned (.tuple #[.slice a' l'.length cap', .agg #[.int .i64 err, .bool f, .string v]]) ∧ w'.ownsRow w.heap.size 72 2 (.slice a' l'.length cap') l'.length (prs l')) ∧ Below w.heap.size w w' := by
  refine (do_any a cap l ⟨k, key, old, val⟩ w hs hl _ hlr).mono ?_
  rintro e w' ⟨⟨v', rfl, ho⟩, hb⟩
  obtain ⟨a', cap', rfl, _⟩ := SlP.of_owns ho
  exact ⟨⟨a', cap', rfl, ho⟩, hb⟩
theorem SlP.owned {w : World} {base : Nat} {e : TypeId} {a : Option Addr} {n cap : Nat} {l : List Pr} (h : w.ownsRow base e 2 (.slice a n cap) l.length (prs l)) : SlP w a cap l := by
  obtain ⟨a', cap', hv, hs⟩ := SlP.of_owns h
  injection hv with e1 e2 e3
  subst e1 e3
  exact hs
theorem mask_more {m n : Nat} {q : List Int} (h : MaskOf m q) (hn : n < 40) : MaskOf (m ||| 2 ^ n) (q ++ [(n : Int)]) := by
  refine ⟨(bit_set m n h.1 hn).2, fun j => ?_⟩
  rw [bit_test, h.2 j, List.contains_append]
  simp [eq_comm]
  congr 1
  rw [decide_eq_decide]
  omega
def fullF (l : List Cl) (q : List Int) (i : Nat) : Bool := !(decide (0 < (clA l i).en) && !q.contains (i : Int))
theorem full_no {l : List Cl} {q : List Int} {j : Nat} (hj : j < l.length) (h : fullF l q j = false) : fullP l q = false := by
  show (List.range l.length).all (fullF l q) = false
  rw [List.all_eq_false]
  exact ⟨j, List.mem_range.2 hj, by rw [h]; decide⟩
theorem imax (a b : Int) : (if a < b then b else a) = max a b := by split <;> omega
theorem chk_len {l : List Cl} (h : chk l = 0) : l.length ≤ 40 := by
  apply Decidable.byContradiction
  intro h2
  rw [chk_long (by omega)] at h
  cases h
set_option maxRecDepth 100000 in
set_option maxHeartbeats 8000000 in
theorem holds_any (a : Option Addr) (cap : Nat) (l : List Cl) (b : Option Addr) (bcap : Nat) (q : List Int) (w : World) (hs : SlC w a cap l) (hq : SlI w b bcap q) :
    Calls Tryd.prog 19 #[.slice a l.length cap, .slice b q.length bcap] w fun e w' => e = .returned (.bool (holdsP l q)) ∧ Below w.heap.size w w' := by
  have hr := hs.row
  have hle := hs.le
  have hmx := hs.max
  have hqr := hq.row
  have hqm := hq.max
  have hql := hq.le
  unfold maxLen at hmx hqm
  by_cases hc : chk l = 0
  · have hl40 := chk_len hc
    have HC := Lib.hid hc
    clear hc
    go_enter Tryd.func19, Tryd.ntmps19
    refine wp_seq_k (fun K hK => ?_)
    have HK := Lib.hid hK
    clear hK
    go_wp2
    refine HK.out _ _ ?_
    clear HK
    refine wp_seq_k (fun K hK => ?_)
    have HK := Lib.hid hK
    clear hK
    go_wp2_with (go_at_call 22; refine (check_zero _ _ _ _ hs _ HC.out).mono ?_; rintro e w1 ⟨rfl, hb1⟩)
    refine HK.out _ _ ?_
    clear HK
    refine wp_seq_k (fun K hK => ?_)
    have HK := Lib.hid hK
    clear hK
    go_wp2
    refine HK.out _ _ ?_
    clear HK
    refine wp_seq_k (fun K hK => ?_)
    have HK := Lib.hid hK
    clear hK
    go_wp2
    refine HK.out _ _ ?_
    clear HK
    refine wp_seq_k (fun K hK => ?_)
    have HK := Lib.hid hK
    clear hK
    go_wp2
    refine HK.out _ _ ?_
    clear HK
    refine wp_seq_k (fun K hK => ?_)
    go_cut [5, 6, 7] (fun _ d _ wx => goesP l [] q = true ∧ (∃ m : Nat, d = .int .u64 m ∧ MaskOf m q) ∧ Below w.heap.size w wx)
    case first =>
      go_wp2_with fail
      go_loopw [5, 6, 7, 18] (fun s d t i wr => ∃ (k : Nat) (sa : Option Addr) (scap : Nat) (m : Nat), k ≤ q.length ∧ i = .int .i64 k ∧ s = .slice sa (stA l (q.take k)).length scap ∧ SlP wr sa scap (stA l (q.take k)) ∧ d = .int .u64 m ∧ MaskOf m (q.take k) ∧ t = .int .i64 (latA l (q.take k)) ∧ goesP l [] q = goesP l (q.take k) (q.drop k) ∧ Below w.heap.size w wr) (fun _ _ _ i _ => q.length - (intOf i).toNat)
      case atStart => exact ⟨0, none, 0, 0, by omega, rfl, rfl, ⟨.inl rfl, Nat.le_refl _, by simp, fun _ => rfl⟩, rfl, ⟨by omega, fun j => by simp⟩, rfl, rfl, hb1⟩
      case round =>
        obtain ⟨k, sa, scap, m, hk, rfl, rfl, hsl, rfl, hmk, rfl, hgo, hbr⟩ := hrel
        have hbs := hbr.size
        by_cases hlt : k < q.length
        · obtain ⟨qb, qoff, i, rfl, hqi, ci0⟩ := hqr.int hlt
          have hqlt : qb < w.heap.size := World.block_lt_of_cell? _ _ ci0
          have ci := (hbr.cell (p := ⟨qb, qoff + k, none⟩) hqlt).trans ci0
          rw [goesP_take l q hqi] at hgo
          have HG := Lib.hid hgo
          clear hgo ci0
          by_cases i0 : i < 0
          · have hok : okP l (q.take k) i = false := by
              have : decide (0 ≤ i) = false := decide_eq_false (by omega)
              unfold okP inR
              rw [this]
              rfl
            have HR : Hid (holdsP l q = false) := Lib.hid (by unfold holdsP; rw [HG.out, hok]; simp)
            clear hok
            go_wp2
            go_ret
            exact ⟨ret_bool HR.out.symm, hbr⟩
          · by_cases i1 : (l.length : Int) ≤ i
            · have hok : okP l (q.take k) i = false := by
                have : decide (i < l.length) = false := decide_eq_false (by omega)
                unfold okP inR
                rw [this]
                simp
              have HR : Hid (holdsP l q = false) := Lib.hid (by unfold holdsP; rw [HG.out, hok]; simp)
              clear hok
              go_wp2
              go_ret
              exact ⟨ret_bool HR.out.symm, hbr⟩
            · obtain ⟨n, rfl⟩ : ∃ n : Nat, i = n := ⟨i.toNat, by omega⟩
              have hn : n < l.length := by omega
              obtain ⟨bb, off, rfl, hblt, ht0⟩ := hr.call (List.getElem?_eq_getElem hn)
              obtain ⟨c0, c1, c2, c3, c4, c5, c6, c7, c8, c9⟩ := ht0.below hbr hblt
              clear c0
              have hbit := bit_get m n hmk.1
              rw [hmk.2 n] at hbit
              have hcl : clA l (n : Int) = l[n] := by
                unfold clA
                rw [Int.toNat_natCast, List.getD_eq_getElem?_getD, List.getElem?_eq_getElem hn]
                rfl
              have hin : inR l (n : Int) = true := by
                unfold inR
                rw [decide_eq_true (by omega : (0 : Int) ≤ n), decide_eq_true (by omega : (n : Int) < l.length)]
                rfl
              have hst := stA_snoc l (q.take k) n
              have hlt2 := latA_snoc l (q.take k) n
              rw [← take_snoc' hqi] at hst hlt2
              have hok : okP l (q.take k) n = (!(q.take k).contains (n : Int) && !(decide (0 < (l[n]).en) && decide ((l[n]).en < latA l (q.take k))) && !(decide (0 < (l[n]).en) && !rpEq (doP (stA l (q.take k)) (l[n]).op).2 (l[n]).rep)) := by
                unfold okP
                rw [hin, hcl]
                simp
              rw [hcl] at hst hlt2
              have hms := stA_may l (q.take k)
              have hms' := stA_may l (q.take (k + 1))
              generalize l[n] = c at *
              obtain ⟨cli, ⟨kd, key, old, val⟩, ⟨er, fo, va⟩, st, en⟩ := c
              simp only at c1 c2 c3 c4 c5 c6 c7 c8 c9 hok hst hlt2
              clear hcl hin
              generalize stA l (q.take k) = ls at *
              generalize latA l (q.take k) = lat at *
              obtain ⟨ls', ⟨er', fo', va'⟩, hd⟩ : ∃ (l' : List Pr) (r : Rp), doP ls ⟨kd, key, old, val⟩ = (l', r) := ⟨_, _, rfl⟩
              rw [hd] at hok hst
              simp only at hok hst
              have hl8 := (may_spec hms).1
              have HD := Lib.hid hd
              have HST := Lib.hid hst
              have HLT := Lib.hid hlt2
              have HMK := Lib.hid hmk
              have HMS := Lib.hid hms'
              clear hd hst hlt2 hmk hms hms'
              cases hct : (q.take k).contains (n : Int)
              · rw [hct] at hbit hok
                simp only [Bool.not_false, Bool.true_and] at hok
                have hb1 : (bits .and .u64 ((m : Int) / 2 ^ n) 1 == 1) = false := by rw [hbit]; rfl
                have HCT := Lib.hid hct
                clear hbit hct
                by_cases e0 : 0 < en
                · by_cases e1 : en < lat
                  · have HR : Hid (holdsP l q = false) := Lib.hid (by unfold holdsP; rw [HG.out, hok, decide_eq_true e0, decide_eq_true e1]; simp)
                    clear hok
                    go_wp2
                    go_ret
                    exact ⟨ret_bool HR.out.symm, hbr⟩
                  · have e1b : decide (en < lat) = false := decide_eq_false e1
                    have hbx := blw1 wr (Obj.cells #[.int .i64 0, .bool false, .string ⟨#[]⟩] 36)
                    have d1 := (hbx.cell (p := ⟨bb, off + n * 10 + 1, none⟩) (by simp; omega)).trans c1
                    have d2 := (hbx.cell (p := ⟨bb, off + n * 10 + 2, none⟩) (by simp; omega)).trans c2
                    have d3 := (hbx.cell (p := ⟨bb, off + n * 10 + 3, none⟩) (by simp; omega)).trans c3
                    have d4 := (hbx.cell (p := ⟨bb, off + n * 10 + 4, none⟩) (by simp; omega)).trans c4
                    have HOR := Lib.hid (bit_or m n HMK.out.1 (by omega))
                    go_wp2_with (go_at_call 17; refine (do_own2 _ _ _ _ _ _ _ _ (hsl.below hbx) (by omega) _ _ _ _ HD.out).mono ?_; rintro e w6 ⟨⟨na, ncap, rfl, hown⟩, hb6⟩; obtain ⟨p0, p1, p2, q0, q1, q2⟩ := trio ((hb6.block wr.heap.size (by simp)).trans (heap_alloc_new wr (Obj.cells #[.int .i64 0, .bool false, .string ⟨#[]⟩] 36))))
                    have hz6 := hb6.size
                    have hsx := hbx.size
                    have hwx : wr.heap.size < w6.heap.size := by have := World.block_lt_of_cell? _ _ p0; simpa using this
                    have hb0 := (hb6.block wr.heap.size (by simp)).trans (heap_alloc_new wr (Obj.cells #[.int .i64 0, .bool false, .string ⟨#[]⟩] 36))
                    have s1 := heap_setCell_same w6 wr.heap.size 0 _ _ (.int .i64 er') hb0
                    have s2 := heap_setCell_same _ wr.heap.size 1 _ _ (.bool fo') s1
                    have s3 := heap_setCell_same _ wr.heap.size 2 _ _ (.string va') s2
                    have hne := own_ne hown hb0 (by decide)
                    have hown7 := owns_far (owns_far (owns_far hown hne (j := 0) (.int .i64 er')) hne (j := 1) (.bool fo')) hne (j := 2) (.string va')
                    have hb7 : Below wr.heap.size wr (((w6.setCell ⟨wr.heap.size, 0, none⟩ (.int .i64 er')).setCell ⟨wr.heap.size, 1, none⟩ (.bool fo')).setCell ⟨wr.heap.size, 2, none⟩ (.string va')) := (((hbx.trans (hb6.mono hsx)).setCell (Nat.le_refl _) _).setCell (Nat.le_refl _) _).setCell (Nat.le_refl _) _
                    have hsl7 := SlP.owned hown7
                    clear hb0 s1 s2 hne hown hown7 p0 p1 p2 q0 q1 q2 d1 d2 d3 d4 hbx hb6 hz6 hsx hwx
                    generalize ((w6.setCell ⟨wr.heap.size, 0, none⟩ (.int .i64 er')).setCell ⟨wr.heap.size, 1, none⟩ (.bool fo')).setCell ⟨wr.heap.size, 2, none⟩ (.string va') = w7 at *
                    have hb07 := hbr.trans (hb7.mono hbs)
                    obtain ⟨r0, r1, r2, _⟩ := trio s3
                    obtain ⟨_, f1, f2, f3, f4, f5, f6, f7, f8, f9⟩ := ht0.below hb07 hblt
                    clear c1 c2 c3 c4 c5 c6 c7 c8 c9
                    simp only at f1 f2 f3 f4 f5 f6 f7 f8 f9
                    have HOK0 := Lib.hid hok
                    clear hok
                    by_cases y1 : er' = er
                    · by_cases y2 : fo' = fo
                      · by_cases y3 : va' = va
                        · have HOK : Hid (okP l (q.take k) n = true) := Lib.hid (by rw [HOK0.out, decide_eq_true e0, e1b]; simp [rpEq, y1, y2, y3])
                          subst y1 y2 y3
                          go_quiet (fail)
                          go_wp2
                          go_roundw
                          case rel => exact ⟨k + 1, na, ncap, m ||| 2 ^ n, by omega, by go_num, by rw [HST.out], by rw [HST.out]; exact hsl7.below (below_drewN (Below.refl _ _) _), int_eq HOR.out, by rw [take_snoc' hqi]; exact mask_more HMK.out (by omega), int_eq (by rw [HLT.out]; exact imax _ _), by rw [HG.out, HOK.out, Bool.true_and], below_drewN hb07 _⟩
                          case measure => simp [intOf]; omega
                        · have HR : Hid (holdsP l q = false) := Lib.hid (by
                            have y3b : (va'.toList == va.toList) = false := by rw [tx_eq]; exact decide_eq_false y3
                            unfold holdsP
                            rw [HG.out, HOK0.out, decide_eq_true e0]
                            simp [rpEq, y3b])
                          have y3b : (va'.toList == va.toList) = false := by rw [tx_eq]; exact decide_eq_false y3
                          subst y1 y2
                          clear y3
                          go_quiet (fail)
                          go_wp2
                          go_ret
                          exact ⟨ret_bool HR.out.symm, below_drewN hb07 _⟩
                      · have HR : Hid (holdsP l q = false) := Lib.hid (by
                          unfold holdsP
                          rw [HG.out, HOK0.out, decide_eq_true e0]
                          simp [rpEq, y2])
                        have y2b : (fo' == fo) = false := beq_eq_false_iff_ne.2 y2
                        clear y2
                        subst y1
                        go_quiet (fail)
                        go_wp2
                        go_ret
                        exact ⟨ret_bool HR.out.symm, below_drewN hb07 _⟩
                    · have HR : Hid (holdsP l q = false) := Lib.hid (by
                        unfold holdsP
                        rw [HG.out, HOK0.out, decide_eq_true e0]
                        simp [rpEq, y1])
                      have y1b : (er' == er) = false := beq_eq_false_iff_ne.2 y1
                      clear y1
                      go_quiet (fail)
                      go_wp2
                      go_ret
                      exact ⟨ret_bool HR.out.symm, below_drewN hb07 _⟩
                · have e0b : decide (0 < en) = false := decide_eq_false e0
                  have hbx := blw1 wr (Obj.cells #[.int .i64 0, .bool false, .string ⟨#[]⟩] 36)
                  have d1 := (hbx.cell (p := ⟨bb, off + n * 10 + 1, none⟩) (by simp; omega)).trans c1
                  have d2 := (hbx.cell (p := ⟨bb, off + n * 10 + 2, none⟩) (by simp; omega)).trans c2
                  have d3 := (hbx.cell (p := ⟨bb, off + n * 10 + 3, none⟩) (by simp; omega)).trans c3
                  have d4 := (hbx.cell (p := ⟨bb, off + n * 10 + 4, none⟩) (by simp; omega)).trans c4
                  have HOR := Lib.hid (bit_or m n HMK.out.1 (by omega))
                  go_wp2_with (go_at_call 17; refine (do_own2 _ _ _ _ _ _ _ _ (hsl.below hbx) (by omega) _ _ _ _ HD.out).mono ?_; rintro e w6 ⟨⟨na, ncap, rfl, hown⟩, hb6⟩; obtain ⟨p0, p1, p2, q0, q1, q2⟩ := trio ((hb6.block wr.heap.size (by simp)).trans (heap_alloc_new wr (Obj.cells #[.int .i64 0, .bool false, .string ⟨#[]⟩] 36))))
                  have hz6 := hb6.size
                  have hsx := hbx.size
                  have hwx : wr.heap.size < w6.heap.size := by have := World.block_lt_of_cell? _ _ p0; simpa using this
                  have hb0 := (hb6.block wr.heap.size (by simp)).trans (heap_alloc_new wr (Obj.cells #[.int .i64 0, .bool false, .string ⟨#[]⟩] 36))
                  have s1 := heap_setCell_same w6 wr.heap.size 0 _ _ (.int .i64 er') hb0
                  have s2 := heap_setCell_same _ wr.heap.size 1 _ _ (.bool fo') s1
                  have s3 := heap_setCell_same _ wr.heap.size 2 _ _ (.string va') s2
                  have hne := own_ne hown hb0 (by decide)
                  have hown7 := owns_far (owns_far (owns_far hown hne (j := 0) (.int .i64 er')) hne (j := 1) (.bool fo')) hne (j := 2) (.string va')
                  have hb7 : Below wr.heap.size wr (((w6.setCell ⟨wr.heap.size, 0, none⟩ (.int .i64 er')).setCell ⟨wr.heap.size, 1, none⟩ (.bool fo')).setCell ⟨wr.heap.size, 2, none⟩ (.string va')) := (((hbx.trans (hb6.mono hsx)).setCell (Nat.le_refl _) _).setCell (Nat.le_refl _) _).setCell (Nat.le_refl _) _
                  have hsl7 := SlP.owned hown7
                  clear hb0 s1 s2 hne hown hown7 p0 p1 p2 q0 q1 q2 d1 d2 d3 d4 hbx hb6 hz6 hsx hwx
                  generalize ((w6.setCell ⟨wr.heap.size, 0, none⟩ (.int .i64 er')).setCell ⟨wr.heap.size, 1, none⟩ (.bool fo')).setCell ⟨wr.heap.size, 2, none⟩ (.string va') = w7 at *
                  have hb07 := hbr.trans (hb7.mono hbs)
                  obtain ⟨r0, r1, r2, _⟩ := trio s3
                  obtain ⟨_, f1, f2, f3, f4, f5, f6, f7, f8, f9⟩ := ht0.below hb07 hblt
                  clear c1 c2 c3 c4 c5 c6 c7 c8 c9
                  simp only at f1 f2 f3 f4 f5 f6 f7 f8 f9
                  have HOK : Hid (okP l (q.take k) n = true) := Lib.hid (by rw [hok, e0b]; simp)
                  clear hok
                  go_quiet (fail)
                  go_wp2
                  go_roundw
                  case rel => exact ⟨k + 1, na, ncap, m ||| 2 ^ n, by omega, by go_num, by rw [HST.out], by rw [HST.out]; exact hsl7.below (below_drewN (Below.refl _ _) _), int_eq HOR.out, by rw [take_snoc' hqi]; exact mask_more HMK.out (by omega), int_eq (by rw [HLT.out]; exact imax _ _), by rw [HG.out, HOK.out, Bool.true_and], below_drewN hb07 _⟩
                  case measure => simp [intOf]; omega
              · rw [hct] at hbit hok
                have hb1 : (bits .and .u64 ((m : Int) / 2 ^ n) 1 == 1) = true := by rw [hbit]; rfl
                have HR : Hid (holdsP l q = false) := Lib.hid (by unfold holdsP; rw [HG.out, hok]; simp)
                clear hok hct hbit
                go_wp2
                go_ret
                exact ⟨ret_bool HR.out.symm, hbr⟩
        · have HG : Hid (goesP l [] q = true) := Lib.hid (by rw [hgo, List.drop_of_length_le (by omega)]; rfl)
          have HMK : Hid (MaskOf m q) := Lib.hid (by rw [List.take_of_length_le (by omega)] at hmk; exact hmk)
          clear hgo hmk
          go_wp2
          go_meet
          exact ⟨HG.out, ⟨m, rfl, HMK.out⟩, hbr⟩
    obtain ⟨hgo, ⟨m, rfl, hmk⟩, hbc⟩ := hcut
    have HG := Lib.hid hgo
    have HMK := Lib.hid hmk
    clear hgo hmk
    refine hK _ _ ?_; clear hK
    go_wp2_with fail
    go_loopw [93] (fun i wr => ∃ j : Nat, j ≤ l.length ∧ i = .int .i64 j ∧ (List.range j).all (fullF l q) = true ∧ Below w.heap.size w wr) (fun i _ => l.length - (intOf i).toNat)
    case atStart => exact ⟨0, by omega, rfl, rfl, hbc⟩
    case round =>
      obtain ⟨j, hj, rfl, hall, hbr⟩ := hrel
      have hbs := hbr.size
      have HALL := Lib.hid hall
      clear hall
      by_cases hlt : j < l.length
      · obtain ⟨bb, off, rfl, hblt, ht0⟩ := hr.call (List.getElem?_eq_getElem hlt)
        obtain ⟨c0, c1, c2, c3, c4, c5, c6, c7, c8, c9⟩ := ht0.below hbr hblt
        have hcl : clA l (j : Int) = l[j] := by
          unfold clA
          rw [Int.toNat_natCast, List.getD_eq_getElem?_getD, List.getElem?_eq_getElem hlt]
          rfl
        have hf : fullF l q j = !(decide (0 < (l[j]).en) && !q.contains (j : Int)) := by unfold fullF; rw [hcl]
        have hbit := bit_get m j HMK.out.1
        rw [HMK.out.2 j] at hbit
        clear ht0 hcl
        generalize l[j] = c at *
        obtain ⟨cli, ⟨kd, key, old, val⟩, ⟨er, fo, va⟩, st, en⟩ := c
        simp only at c0 c1 c2 c3 c4 c5 c6 c7 c8 c9 hf
        by_cases e0 : 0 < en
        · cases hct : q.contains (j : Int)
          · rw [hct, decide_eq_true e0] at hf
            rw [hct] at hbit
            have hb1 : (bits .and .u64 ((m : Int) / 2 ^ j) 1 == 0) = true := by rw [hbit]; rfl
            have HR : Hid (holdsP l q = false) := Lib.hid (by
              have : fullP l q = false := full_no hlt (by rw [hf]; rfl)
              unfold holdsP
              rw [this]
              simp)
            clear hf hct hbit
            go_wp2
            go_ret
            exact ⟨ret_bool HR.out.symm, by (repeat' (first | (with_reducible exact Below.refl _ _) | (with_reducible assumption) | (with_reducible refine Below.alloc ?_ ?_ _) | (with_reducible refine Below.drew ?_) | (with_reducible refine below_drewN ?_ _) | (with_reducible refine Below.setCell ?_ ?_ _) | (with_reducible refine Below.trans ?_ (by assumption)) | go_size))⟩
          · rw [hct] at hf hbit
            have hb1 : (bits .and .u64 ((m : Int) / 2 ^ j) 1 == 0) = false := by rw [hbit]; rfl
            have HS : Hid ((List.range (j + 1)).all (fullF l q) = true) := Lib.hid (by rw [List.range_succ, List.all_append, HALL.out, List.all_cons, hf]; simp)
            clear hf hct hbit
            go_wp2
            go_roundw
            case rel => exact ⟨j + 1, by omega, by go_num, HS.out, by (repeat' (first | (with_reducible exact Below.refl _ _) | (with_reducible assumption) | (with_reducible refine Below.alloc ?_ ?_ _) | (with_reducible refine Below.drew ?_) | (with_reducible refine below_drewN ?_ _) | (with_reducible refine Below.setCell ?_ ?_ _) | (with_reducible refine Below.trans ?_ (by assumption)) | go_size))⟩
            case measure => simp [intOf]; omega
        · have e0b : decide (0 < en) = false := decide_eq_false e0
          have HS : Hid ((List.range (j + 1)).all (fullF l q) = true) := Lib.hid (by rw [List.range_succ, List.all_append, HALL.out, List.all_cons, hf, e0b]; simp)
          clear hf hbit
          go_wp2
          go_roundw
          case rel => exact ⟨j + 1, by omega, by go_num, HS.out, by (repeat' (first | (with_reducible exact Below.refl _ _) | (with_reducible assumption) | (with_reducible refine Below.alloc ?_ ?_ _) | (with_reducible refine Below.drew ?_) | (with_reducible refine below_drewN ?_ _) | (with_reducible refine Below.setCell ?_ ?_ _) | (with_reducible refine Below.trans ?_ (by assumption)) | go_size))⟩
          case measure => simp [intOf]; omega
      · have HR : Hid (holdsP l q = true) := Lib.hid (by
          have h1 : fullP l q = true := by
            have := HALL.out
            rw [show j = l.length by omega] at this
            exact this
          unfold holdsP
          rw [h1, HG.out, HC.out]
          rfl)
        go_wp2
        go_ret
        exact ⟨ret_bool HR.out.symm, hbr⟩
  · have hcb : (chk l != 0) = true := bne_iff_ne.2 hc
    have HR := Lib.hid (holdsP_bad (q := q) hc)
    clear hc
    go_enter Tryd.func19, Tryd.ntmps19
    go_wp2_with (go_at_call 22; refine (check_any _ _ _ _ hs).mono ?_; rintro e w1 ⟨rfl, hb1⟩)
    go_ret
    exact ⟨ret_bool HR.out.symm, hb1⟩
end Go.Proofs.YtaojblejnpemkaaDoor
namespace Go.Proofs.YtaojblejnpemkaaDoor
open Go.RowKit
theorem flat_len {α : Type} {f : α → List Value} {n : Nat} (hf : ∀ x, (f x).length = n) : ∀ (l : List α), (l.flatMap f).length = n * l.length
  | [] => by simp
  | x :: l => by
    have := flat_len hf l
    rw [List.flatMap_cons, List.length_append, this, hf, List.length_cons, Nat.mul_succ]
    omega
theorem flat_at {α : Type} {f : α → List Value} {n : Nat} (hf : ∀ x, (f x).length = n) : ∀ {l : List α} {i : Nat} {c : α}, l[i]? = some c → ∀ j u, (f c)[j]? = some u → (l.flatMap f)[i * n + j]? = some u
  | [], i, c, h => by simp at h
  | q :: l, 0, c, h => by
    simp at h
    subst h
    intro j u hj
    have hlt := (List.getElem?_eq_some_iff.1 hj).1
    simp only [List.flatMap_cons, Nat.zero_mul, Nat.zero_add]
    rw [List.getElem?_append_left hlt]
    exact hj
  | q :: l, i + 1, c, h => by
    simp only [List.getElem?_cons_succ] at h
    intro j u hj
    have := flat_at hf h j u hj
    simp only [List.flatMap_cons]
    rw [List.getElem?_append_right (by rw [hf, Nat.succ_mul]; omega), hf]
    rw [show (i + 1) * n + j - n = i * n + j by rw [Nat.succ_mul]; omega]
    exact this
theorem Row.flat {α : Type} {f : α → List Value} {n : Nat} (hf : ∀ x, (f x).length = n) (hn : 0 < n) {w : World} {a : Option Addr} {l : List α} (h : Row w a (l.flatMap f)) {i : Nat} {c : α} (hp : l[i]? = some c) :
    ∃ b off, a = some ⟨b, off, none⟩ ∧ b < w.heap.size ∧ ∀ j u, (f c)[j]? = some u → w.cell? ⟨b, off + i * n + j, none⟩ = some u := by
  have hi := (List.getElem?_eq_some_iff.1 hp).1
  have hpos : 0 < (l.flatMap f).length := by rw [flat_len hf]; exact Nat.mul_pos hn (by omega)
  obtain ⟨b, off, ha, hc⟩ := h.at hpos
  have hat := flat_at hf hp
  have H : ∀ j u, (f c)[j]? = some u → w.cell? ⟨b, off + i * n + j, none⟩ = some u := fun j u hj => by
    rw [Nat.add_assoc]
    exact hc _ _ (hat j u hj)
  refine ⟨b, off, ha, ?_, H⟩
  have h0 : (f c)[0]? = some ((f c)[0]'(by rw [hf]; exact hn)) := List.getElem?_eq_getElem _
  exact World.block_lt_of_cell? _ _ (H 0 _ h0)
theorem Row.flat0 {α : Type} {f : α → List Value} {n : Nat} (hf : ∀ x, (f x).length = n) (hn : 0 < n) {w : World} {a : Option Addr} {l : List α} (h : Row w a (l.flatMap f)) {i : Nat} {c : α} (hp : l[i]? = some c) :
    ∃ b off, a = some ⟨b, off, none⟩ ∧ b < w.heap.size ∧ (∀ u, (f c)[0]? = some u → w.cell? ⟨b, off + i * n, none⟩ = some u) ∧ ∀ j u, (f c)[j]? = some u → w.cell? ⟨b, off + i * n + j, none⟩ = some u := by
  obtain ⟨b, off, ha, hb, hc⟩ := h.flat hf hn hp
  exact ⟨b, off, ha, hb, fun u hu => hc 0 u hu, hc⟩
theorem Row.of_block {w : World} {g : Nat} {cs : List Value} {T : TypeId} {xs : List Value} (h : w.heap[g]? = some (.cells cs.toArray T (0, 0))) (off : Nat) (hx : ∀ i u, xs[i]? = some u → cs[off + i]? = some u) : Row w (some ⟨g, off, none⟩) xs := by
  refine .inr ⟨g, off, rfl, fun i u hu => ?_⟩
  simp only [World.cell?, h]
  simpa using hx i u hu
theorem blk_cell {w : World} {g : Nat} {cs : Array Value} {T : TypeId} (h : w.heap[g]? = some (.cells cs T (0, 0))) (j : Nat) (v : Value) (hj : cs[j]? = some v) : w.cell? ⟨g, j, none⟩ = some v := by
  simp only [World.cell?, h]
  simpa using hj
theorem blk_frozen {w : World} {g : Nat} {cs : Array Value} {T : TypeId} (h : w.heap[g]? = some (.cells cs T (0, 0))) (j : Nat) : w.frozen? ⟨g, j, none⟩ = false := by
  simp [World.frozen?, h]
theorem blw (w : World) (o : Obj) : Below w.heap.size w (w.alloc o) := (Below.refl _ _).alloc (Nat.le_refl _) o
end Go.Proofs.YtaojblejnpemkaaDoor
namespace Go.Proofs.YtaojblejnpemkaaDoor
open Go.RowKit
variable {P : Program}
theorem run_loadVar_part (w : World) (g off n : Nat) (T ty : TypeId) (cs : Array Value) (ha : (isAgg ty).run P w = .ok true w) (hs : (sizeOf ty).run P w = .ok n w) (hg : w.heap[g]? = some (.cells cs T (0, 0))) (hn : off + n ≤ cs.size) :
    (loadVar ty ⟨g, off, none⟩).run P w = .ok (.agg (cs.extract off (off + n))) w := by
  have hlen : (cs.extract off (off + n)).toList.length = n := by simp; omega
  have hl := run_loadCells_list (P := P) (w := w) ⟨g, off, none⟩ (cs.extract off (off + n)).toList (fun j v hv => by
    have hj := (List.getElem?_eq_some_iff.1 hv).1
    rw [hlen] at hj
    rw [addr_add, cell_of_row w g (off + j) cs T (0, 0) hg]
    have h2 : (cs.extract off (off + n))[j]? = some v := by rw [← Array.getElem?_toList]; exact hv
    rw [Array.getElem?_extract] at h2
    split at h2
    · exact h2
    · cases h2)
  rw [hlen] at hl
  simp only [Array.toArray_toList] at hl
  simp only [loadVar, Sem.run_bind, ha, hs, hl, Result.andThen_ok, if_true, Sem.run_pure]
theorem arr_all {cs : Array Value} {n : Nat} (h : cs.size = n) : 0 + n ≤ cs.size ∧ cs.extract 0 (0 + n) = cs := ⟨by omega, by subst h; simp⟩
def LdAt (P : Program) (a : Act) (w : World) (ty : TypeId) (x : Operand) (v : Array Value) : Prop :=
  ∃ (g off n : Nat) (cs : Array Value) (T : TypeId), (∀ w, (isAgg ty).run P w = .ok true w) ∧ (∀ w, (sizeOf ty).run P w = .ok n w) ∧ a.eval x = .pointer (some ⟨g, off, none⟩) ∧ w.heap[g]? = some (.cells cs T (0, 0)) ∧ (off + n ≤ cs.size ∧ cs.extract off (off + n) = v)
theorem wp_ldB {a : Act} {w : World} {K : Act → World → Prop} {Q : Exit → Act → World → Prop} {dst : Option Tmp} {ty' : TypeId} {pos : String} {af : Array Edge} {gd : Option (Nat × Bool)} (ty : TypeId) (x : Operand) (hl : ∃ v, LdAt P a w ty x v ∧ K (a.put dst (.agg v)) w) : (Oper.mk dst (.load ty x) ty' pos af gd).wp P a w K Q := by
  obtain ⟨v, ⟨g, off, n, cs, T, ha, hs, hx, hg, hn, rfl⟩, h⟩ := hl
  unfold Oper.wp execOp
  simp only [hx, Instr.loadAt, Instr.sureAddr, Sem.run_bind, Sem.run_pure, Result.andThen_ok, run_loadVar_part w g off n T ty cs (ha w) (hs w) hg hn]
  exact h
theorem wpList_ldB {ops : Array Oper} {rest : List Oper} {a : Act} {w : World} {Q : Exit → Act → World → Prop} {dst : Option Tmp} {ty' : TypeId} {pos : String} {af : Array Edge} {gd : Option (Nat × Bool)} (ty : TypeId) (x : Operand)
    (hl : Region.wanted (Oper.mk dst (.load ty x) ty' pos af gd) (yielded ops a.tmps) = true ∧ ∃ v, LdAt P a w ty x v ∧ wpList P ops Q rest (a.put dst (.agg v)) w) : wpList P ops Q (Oper.mk dst (.load ty x) ty' pos af gd :: rest) a w :=
  BigFrame.wpList_want hl.1 fun _ hK => wp_ldB ty x (hl.2.imp fun _ h => ⟨h.1, hK _ _ h.2⟩)
theorem exec_ldB {a : Act} {w : World} {dst : Option Tmp} {ty' : TypeId} {pos : String} {af : Array Edge} {gd : Option (Nat × Bool)} (ty : TypeId) (x : Operand) {v : Array Value} (hl : LdAt P a w ty x v) : (execOp a.eval (Oper.mk dst (.load ty x) ty' pos af gd)).run P w = .ok (.value (.agg v)) w := by
  obtain ⟨g, off, n, cs, T, ha, hs, hx, hg, hn, rfl⟩ := hl
  unfold execOp
  simp only [hx, Instr.loadAt, Instr.sureAddr, Sem.run_bind, Sem.run_pure, Result.andThen_ok, run_loadVar_part w g off n T ty cs (ha w) (hs w) hg hn]
theorem run_storeVar_part (w : World) (g off n : Nat) (T ty : TypeId) (cs : Array Value) (v : Value) (hs : (sizeOf ty).run P w = .ok n w) (hv : v.cells.size = n) (h1 : ∀ u ∈ v.cells.toList, u.oneCell' = true) (hg : w.heap[g]? = some (.cells cs T (0, 0))) (hn : off + n ≤ cs.size) :
    (storeVar ty ⟨g, off, none⟩ v).run P w = .ok () (w.setRow g (cs.toList.take off ++ v.cells.toList ++ cs.toList.drop (off + n)).toArray) := by
  have hst := run_storeCells_at P g off T v.cells.toList 0 cs w hg (by simpa [hv] using hn) h1
  simp only [Nat.add_zero, Array.length_toList, hv] at hst
  simp [storeVar, Sem.run_bind, hs, hv, hst]
def StAt (P : Program) (a : Act) (w : World) (ty : TypeId) (x y : Operand) (g : Nat) (T : TypeId) (cs' : Array Value) : Prop :=
  ∃ (off n : Nat) (cs : Array Value), (∀ w, (sizeOf ty).run P w = .ok n w) ∧ a.eval x = .pointer (some ⟨g, off, none⟩) ∧ w.heap[g]? = some (.cells cs T (0, 0)) ∧
    (off + n ≤ cs.size ∧ (a.eval y).cells.size = n ∧ (∀ u ∈ (a.eval y).cells.toList, u.oneCell' = true) ∧ (cs.toList.take off ++ (a.eval y).cells.toList ++ cs.toList.drop (off + n)).toArray = cs')
theorem setRow_grown (w : World) (g : Nat) (cs : Array Value) : w.grownBy (w.setRow g cs) (some g) := grownBy_setRow w g cs
theorem wp_stB {a : Act} {w : World} {K : Act → World → Prop} {Q : Exit → Act → World → Prop} {ty' : TypeId} {pos : String} {af : Array Edge} {gd : Option (Nat × Bool)} (ty : TypeId) (x y : Operand) (hl : ∃ (g : Nat) (T : TypeId) (cs' : Array Value), StAt P a w ty x y g T cs' ∧ ∀ w', w'.heap[g]? = some (.cells cs' T (0, 0)) → w.grownBy w' (some g) → K a w') : (Oper.mk none (.store ty x y) ty' pos af gd).wp P a w K Q := by
  obtain ⟨g, T, cs', ⟨off, n, cs, hs, hx, hg, hn, hv, h1, hc⟩, h⟩ := hl
  unfold Oper.wp execOp
  simp only [hx, Instr.storeAt, Instr.sureAddr, Sem.run_bind, Sem.run_pure, Result.andThen_ok, run_storeVar_part w g off n T ty cs _ (hs w) hv h1 hg hn, hc]
  exact h _ (setRow_heap w g _ _ T _ hg) (setRow_grown w g _)
theorem wpList_stB {ops : Array Oper} {rest : List Oper} {a : Act} {w : World} {Q : Exit → Act → World → Prop} {ty' : TypeId} {pos : String} {af : Array Edge} (ty : TypeId) (x y : Operand) (hl : ∃ (g : Nat) (T : TypeId) (cs' : Array Value), StAt P a w ty x y g T cs' ∧ ∀ w', w'.heap[g]? = some (.cells cs' T (0, 0)) → w.grownBy w' (some g) → wpList P ops Q rest a w') : wpList P ops Q (Oper.mk none (.store ty x y) ty' pos af none :: rest) a w := by
  obtain ⟨g, T, cs', hs, h⟩ := hl
  exact wpList_plain rfl fun _ hK => wp_stB ty x y ⟨g, T, cs', hs, fun w' h1 h2 => hK _ _ (h w' h1 h2)⟩
def StNew (P : Program) (a : Act) (w : World) (ty : TypeId) (x y : Operand) (n : Nat) (cs' : Array Value) : Prop :=
  (∀ w, (sizeOf ty).run P w = .ok n w) ∧ a.eval x = .pointer (some ⟨w.heap.size, 0, none⟩) ∧ (a.eval y).cells = cs' ∧ cs'.size = n ∧ (∀ u ∈ cs'.toList, u.oneCell' = true)
theorem setRow_alloc (w : World) (cs cs' : Array Value) (T : TypeId) : (w.alloc (.cells cs T)).setRow w.heap.size cs' = w.alloc (.cells cs' T) := by
  unfold World.setRow World.alloc
  congr 1
  apply Array.ext
  · simp
  · intro i h1 h2
    rw [Array.getElem_modify]
    simp only [Array.getElem_push]
    by_cases hi : w.heap.size = i
    · subst hi; simp
    · have : i < w.heap.size := by simp at h2; omega
      simp [hi, this]
theorem wp_stNew {a : Act} {w : World} {K : Act → World → Prop} {Q : Exit → Act → World → Prop} {ty' : TypeId} {pos : String} {af : Array Edge} {gd : Option (Nat × Bool)} (ty : TypeId) (x y : Operand) {cs : Array Value} {T : TypeId} (hl : ∃ (n : Nat) (cs' : Array Value), StNew P a w ty x y n cs' ∧ cs.size = n ∧ K a (w.alloc (.cells cs' T))) : (Oper.mk none (.store ty x y) ty' pos af gd).wp P a (w.alloc (.cells cs T)) K Q := by
  obtain ⟨n, cs', ⟨hs, hx, hv, hc, h1⟩, hsz, h⟩ := hl
  have hst := run_storeVar_part (P := P) (w.alloc (.cells cs T)) w.heap.size 0 n T ty cs (a.eval y) (hs _) (by rw [hv]; exact hc) (by rw [hv]; exact h1) (heap_alloc_new w _) (by omega)
  rw [hv] at hst
  have e : (cs.toList.take 0 ++ cs'.toList ++ cs.toList.drop (0 + n)).toArray = cs' := by
    rw [List.drop_of_length_le (by simp; omega)]
    simp
  rw [e, setRow_alloc] at hst
  unfold Oper.wp execOp
  simp only [hx, Instr.storeAt, Instr.sureAddr, Sem.run_bind, Sem.run_pure, Result.andThen_ok, hst]
  exact h
theorem wpList_stNew {ops : Array Oper} {rest : List Oper} {a : Act} {w : World} {Q : Exit → Act → World → Prop} {ty' : TypeId} {pos : String} {af : Array Edge} (ty : TypeId) (x y : Operand) {cs : Array Value} {T : TypeId} (hl : ∃ (n : Nat) (cs' : Array Value), StNew P a w ty x y n cs' ∧ cs.size = n ∧ wpList P ops Q rest a (w.alloc (.cells cs' T))) : wpList P ops Q (Oper.mk none (.store ty x y) ty' pos af none :: rest) a (w.alloc (.cells cs T)) := by
  obtain ⟨n, cs', hs, hsz, h⟩ := hl
  exact wpList_plain rfl fun _ hK => wp_stNew ty x y ⟨n, cs', hs, hsz, hK _ _ h⟩
/-! Facts on blocks, carried on. -/
theorem tr_gb {w w' : World} {r : Option Nat} {j : Nat} {o : Obj} (hg : w.grownBy w' r) (h : w.heap[j]? = some o) (hne : r ≠ some j) : w'.heap[j]? = some o := (hg.block j (Array.getElem?_eq_some_iff.1 h).1 (fun e => hne e.symm)).trans h
theorem tr_st {w w' : World} {g j : Nat} {o : Obj} (hg : w.grownBy w' (some g)) (h : w.heap[j]? = some o) (hne : g ≠ j) : w'.heap[j]? = some o := tr_gb hg h (fun e => hne (Option.some.inj e))
theorem tr_bl {w w' : World} {j : Nat} {o : Obj} (hb : Below w.heap.size w w') (h : w.heap[j]? = some o) : w'.heap[j]? = some o := (hb.block j (Array.getElem?_eq_some_iff.1 h).1).trans h
theorem tr_al {w : World} {j : Nat} {o : Obj} (o' : Obj) (h : w.heap[j]? = some o) : (w.alloc o').heap[j]? = some o := tr_bl (blw w o') h
theorem lt_blk {w : World} {j : Nat} {o : Obj} (h : w.heap[j]? = some o) : j < w.heap.size := (Array.getElem?_eq_some_iff.1 h).1
theorem owns_st {w w' : World} {base n size g : Nat} {e : TypeId} {v : Value} {xs : List Value} (h : w.ownsRow base e size v n xs) (hg : w.grownBy w' (some g)) (hlt : g < base) : w'.ownsRow base e size v n xs := by
  obtain ⟨hl, h | ⟨k, cap, cur, hv, hk, hc, r⟩⟩ := h
  · exact ⟨hl, .inl h⟩
  · exact ⟨hl, .inr ⟨k, cap, cur, hv, hk, tr_st hg hc (by omega), r⟩⟩
theorem owns_ne {w w' : World} {base n size g : Nat} {e T : TypeId} {v : Value} {xs : List Value} {cs : Array Value} (h : w.ownsRow base e size v n xs) (hg : w.grownBy w' (some g)) (hc : w.heap[g]? = some (.cells cs T (0, 0))) (hne : e ≠ T) : w'.ownsRow base e size v n xs := by
  obtain ⟨hl, h | ⟨k, cap, cur, hv, hk, hc2, r⟩⟩ := h
  · exact ⟨hl, .inl h⟩
  · refine ⟨hl, .inr ⟨k, cap, cur, hv, hk, tr_st hg hc2 ?_, r⟩⟩
    rintro rfl
    rw [hc] at hc2
    injection hc2 with hc2
    injection hc2 with _ ht
    exact hne ht.symm
theorem owns_bl {w w' : World} {base n size : Nat} {e : TypeId} {v : Value} {xs : List Value} (h : w.ownsRow base e size v n xs) (hb : Below w.heap.size w w') : w'.ownsRow base e size v n xs := owns_after h hb
theorem bl_st {B : Nat} {w w' w'' : World} {g : Nat} (hb : Below B w w') (hg : w'.grownBy w'' (some g)) (hB : B ≤ w'.heap.size) (h : B ≤ g) : Below B w w'' := hb.grown hg hB (fun k e => by cases e; exact h)
/-! Results that lie in blocks. -/
theorem results_c1 {fn : Func} {p t : Nat} {tmps : Array Value} {w : World} {A : Addr} {v : Value} (hf : fn.results = #[.cell p t]) (hp : tmps.getD p undef = .pointer (some A)) (hl : (loadVar t A).run P w = .ok v w) : (results fn tmps).run P w = .ok v w := by
  have hp' : tmps[p]?.getD undef = .pointer (some A) := by simpa using hp
  simp [results, hf, hp', asAddr, hl]
theorem results_c1t1 {fn : Func} {p t q : Nat} {tmps : Array Value} {w : World} {A : Addr} {v : Value} (hf : fn.results = #[.cell p t, .tmp q]) (hp : tmps.getD p undef = .pointer (some A)) (hl : (loadVar t A).run P w = .ok v w) : (results fn tmps).run P w = .ok (.tuple #[v, tmps.getD q undef]) w := by
  have hp' : tmps[p]?.getD undef = .pointer (some A) := by simpa using hp
  simp [results, hf, hp', asAddr, hl]
theorem results_c2t1 {fn : Func} {p t p2 t2 q : Nat} {tmps : Array Value} {w : World} {A A2 : Addr} {v v2 : Value} (hf : fn.results = #[.cell p t, .cell p2 t2, .tmp q]) (hp : tmps.getD p undef = .pointer (some A)) (hl : (loadVar t A).run P w = .ok v w)
    (hp2 : tmps.getD p2 undef = .pointer (some A2)) (hl2 : (loadVar t2 A2).run P w = .ok v2 w) : (results fn tmps).run P w = .ok (.tuple #[v, v2, tmps.getD q undef]) w := by
  have hp' : tmps[p]?.getD undef = .pointer (some A) := by simpa using hp
  have hp2' : tmps[p2]?.getD undef = .pointer (some A2) := by simpa using hp2
  simp [results, hf, hp', hp2', asAddr, hl, hl2]
theorem run_loadVar_all {w : World} {g n : Nat} {T ty : TypeId} {cs : Array Value} (ha : ∀ w, (isAgg ty).run P w = .ok true w) (hs : ∀ w, (sizeOf ty).run P w = .ok n w) (hg : w.heap[g]? = some (.cells cs T (0, 0))) (hn : cs.size = n) : (loadVar ty ⟨g, 0, none⟩).run P w = .ok (.agg cs) w := by
  have := run_loadVar_part (P := P) w g 0 n T ty cs (ha w) (hs w) hg (by omega)
  rw [this]
  subst hn
  simp
end Go.Proofs.YtaojblejnpemkaaDoor
namespace Go.Proofs.YtaojblejnpemkaaDoor
open Go.RowKit
variable {P : Program} {ops : Array Oper} {C : World → Prop}
theorem wp_region_cls {id : Nat} {Q : Exit → Act → World → Prop} {a : Act} {w : World} {l : List Oper} (hm : P.follows .mixedOrders = true) (hB : Region.lexB .any l.toArray = true) (hC : C w.drew)
    (h : wpQuiet P l.toArray C (fun a' => ∀ w', C w' → Q .normal a' w') l a) : (Code.region id l.toArray true).wp P Q a w :=
  wp_region_quiet (C := C) hm hB hC (by simpa using h)
theorem wpQuiet_gen {Q : Act → Prop} {a : Act} {o : Oper} {rest : List Oper} (hw : Region.wanted o (yielded ops a.tmps) = true) (v : Value) (hy : ∀ w, C w → o.quietAt P a C w v)
    (h : wpQuiet P ops C Q rest (a.put o.dst v)) : wpQuiet P ops C Q (o :: rest) a := by
  unfold wpQuiet
  rw [if_pos hw]
  exact ⟨v, hy, h⟩
theorem wpQuiet_val {Q : Act → Prop} {a : Act} {o : Oper} {rest : List Oper} (hw : Region.wanted o (yielded ops a.tmps) = true) (v : Value) (hy : ∀ w, C w → (execOp a.eval o).run P w = .ok (.value v) w)
    (h : wpQuiet P ops C Q rest (a.put o.dst v)) : wpQuiet P ops C Q (o :: rest) a :=
  wpQuiet_gen hw v (fun w hC => by unfold Oper.quietAt; rw [hy w hC]; exact ⟨rfl, rfl⟩) h
theorem wpQuiet_skip {Q : Act → Prop} {a : Act} {o : Oper} {rest : List Oper} (hw : Region.wanted o (yielded ops a.tmps) = false) (h : wpQuiet P ops C Q rest (a.put o.dst undef)) : wpQuiet P ops C Q (o :: rest) a := by
  unfold wpQuiet
  rw [if_neg (by rw [hw]; simp)]
  exact h
end Go.Proofs.YtaojblejnpemkaaDoor
namespace Go.Proofs.YtaojblejnpemkaaDoor
open Go.RowKit
variable {P : Program}
def LdCs (P : Program) (a : Act) (w : World) (ty : TypeId) (x : Operand) (v : Array Value) : Prop :=
  ∃ (b off n : Nat), (∀ w, (isAgg ty).run P w = .ok true w) ∧ (∀ w, (sizeOf ty).run P w = .ok n w) ∧ a.eval x = .pointer (some ⟨b, off, none⟩) ∧ v.size = n ∧ ∀ j u, v[j]? = some u → w.cell? ⟨b, off + j, none⟩ = some u
theorem run_loadVar_cs (w : World) (b off n : Nat) (ty : TypeId) (v : Array Value) (ha : (isAgg ty).run P w = .ok true w) (hs : (sizeOf ty).run P w = .ok n w) (hn : v.size = n) (hc : ∀ j u, v[j]? = some u → w.cell? ⟨b, off + j, none⟩ = some u) :
    (loadVar ty ⟨b, off, none⟩).run P w = .ok (.agg v) w := by
  have hl := run_loadCells_list (P := P) (w := w) ⟨b, off, none⟩ v.toList (fun j u hu => by
    rw [addr_add]
    exact hc j u (by rw [← Array.getElem?_toList]; exact hu))
  rw [Array.length_toList, hn] at hl
  simp only [Array.toArray_toList] at hl
  simp only [loadVar, Sem.run_bind, ha, hs, hl, Result.andThen_ok, if_true, Sem.run_pure]
theorem exec_ldC {a : Act} {w : World} {dst : Option Tmp} {ty' : TypeId} {pos : String} {af : Array Edge} {gd : Option (Nat × Bool)} (ty : TypeId) (x : Operand) {v : Array Value} (hl : LdCs P a w ty x v) : (execOp a.eval (Oper.mk dst (.load ty x) ty' pos af gd)).run P w = .ok (.value (.agg v)) w := by
  obtain ⟨b, off, n, ha, hs, hx, hn, hc⟩ := hl
  unfold execOp
  simp only [hx, Instr.loadAt, Instr.sureAddr, Sem.run_bind, Sem.run_pure, Result.andThen_ok, run_loadVar_cs w b off n ty v (ha w) (hs w) hn hc]
theorem wpList_ldC {ops : Array Oper} {rest : List Oper} {a : Act} {w : World} {Q : Exit → Act → World → Prop} {dst : Option Tmp} {ty' : TypeId} {pos : String} {af : Array Edge} {gd : Option (Nat × Bool)} (ty : TypeId) (x : Operand)
    (hl : Region.wanted (Oper.mk dst (.load ty x) ty' pos af gd) (yielded ops a.tmps) = true ∧ ∃ v, LdCs P a w ty x v ∧ wpList P ops Q rest (a.put dst (.agg v)) w) : wpList P ops Q (Oper.mk dst (.load ty x) ty' pos af gd :: rest) a w := by
  obtain ⟨hw, v, h1, h2⟩ := hl
  refine BigFrame.wpList_want hw fun K hK => ?_
  unfold Oper.wp
  rw [exec_ldC ty x h1]
  exact hK _ _ h2
end Go.Proofs.YtaojblejnpemkaaDoor
namespace Go.Proofs.YtaojblejnpemkaaDoor
open Go.RowKit Go.Maps
/-! A call in a box. -/
def clvA (c : Cl) : Array Value := #[.int .i64 c.cli, .int .u8 c.op.kind, .string c.op.key, .string c.op.old, .string c.op.val, .int .i64 c.rep.err, .bool c.rep.found, .string c.rep.val, .int .i64 c.st, .int .i64 c.en]
theorem clv_new (c : Cl) : (Value.agg (clvA c)).cells = clvA c ∧ (clvA c).size = 10 ∧ ∀ u ∈ (clvA c).toList, u.oneCell' = true := ⟨rfl, rfl, by simp [clvA, Value.oneCell']⟩
theorem call_cells {w : World} {a : Option Addr} {l : List Cl} (h : Row w a (calls l)) {i : Nat} (hi : i < l.length) : ∃ b off, a = some ⟨b, off, none⟩ ∧ ∀ j u, (clvA (clN l i))[j]? = some u → w.cell? ⟨b, off + i * 10 + j, none⟩ = some u := by
  have hp : l[i]? = some (clN l i) := by unfold clN; rw [List.getD_eq_getElem?_getD, List.getElem?_eq_getElem hi]; rfl
  obtain ⟨b, off, ha, hc⟩ := h.at (k := i) (by rw [calls_len]; omega)
  refine ⟨b, off, ha, fun j u hj => ?_⟩
  rw [Nat.add_assoc]
  exact hc _ _ (calls_at hp j u (by show (clvA (clN l i)).toList[j]? = some u; rw [Array.getElem?_toList]; exact hj))
def rplL (r : Rp) : Array Value := #[.int .i64 r.err, .bool r.found, .string r.val]
theorem rpl_new (r : Rp) : (Value.agg #[.int .i64 r.err, .bool r.found, .string r.val]).cells = rplL r ∧ (rplL r).size = 3 ∧ ∀ u ∈ (rplL r).toList, u.oneCell' = true := ⟨rfl, rfl, by simp [rplL, Value.oneCell']⟩
theorem rpl_all (r : Rp) : 0 + 3 ≤ (rplL r).size ∧ (rplL r).extract 0 (0 + 3) = #[.int .i64 r.err, .bool r.found, .string r.val] := ⟨by show 3 ≤ 3; decide, rfl⟩
theorem clv_op (c : Cl) : 1 + 4 ≤ (clvA c).size ∧ (clvA c).extract 1 (1 + 4) = #[.int .u8 c.op.kind, .string c.op.key, .string c.op.old, .string c.op.val] := ⟨by show 5 ≤ 10; decide, rfl⟩
theorem clv_rep (c : Cl) : 5 + 3 ≤ (clvA c).size ∧ (clvA c).extract 5 (5 + 3) = #[.int .i64 c.rep.err, .bool c.rep.found, .string c.rep.val] := ⟨by show 8 ≤ 10; decide, rfl⟩
theorem do_ownL (a : Option Addr) (cap : Nat) (l : List Pr) (o : Opn) (w : World) (hs : SlP w a cap l) (hl : l.length ≤ 1000) (l' : List Pr) (r : Rp) (hlr : doP l o = (l', r)) :
    Calls Tryd.prog 17 #[.slice a l.length cap, .agg #[.int .u8 o.kind, .string o.key, .string o.old, .string o.val]] w fun e w' => (∃ a' cap', e = .returned (.tuple #[.slice a' l'.length cap', .agg #[.int .i64 r.err, .bool r.found, .string r.val]]) ∧ w'.ownsRow w.heap.size 72 2 (.slice a' l'.length cap') l'.length (prs l')) ∧ Below w.heap.size w w' :=
  do_own2 a cap l o.kind o.key o.old o.val w hs hl l' r.err r.found r.val hlr
end Go.Proofs.YtaojblejnpemkaaDoor
namespace Go.Proofs.YtaojblejnpemkaaDoor
theorem chk_ok {l : List Cl} (h40 : l.length ≤ 40) (hp : pendP l ≤ 8) (hw : mostP l l ≤ 12) (hm : ∀ c ∈ l, mayC c = true) : chk l = 0 := by
  unfold chk
  rw [if_neg (by omega), if_pos (List.all_eq_true.2 hm)]
theorem chk_small {l : List Cl} (h12 : l.length ≤ 12) (hp : pendP l ≤ 8) (hm : ∀ c ∈ l, mayC c = true) : chk l = 0 :=
  chk_ok (by omega) hp (Nat.le_trans (mostP_le l l) h12) hm
structure Seq1 (l : List Cl) (q : List Int) (τ : Nat → Int) : Prop where
  rise : ∀ i j, i < j → τ i < τ j
  inr : ∀ i ∈ q, inR l i = true
  nodup : q.Nodup
  all : ∀ i : Nat, i < l.length → (i : Int) ∈ q
  st : ∀ (k : Nat) (i : Int), q[k]? = some i → (clA l i).st ≤ τ k
  en : ∀ (k : Nat) (i : Int), q[k]? = some i → (clA l i).en = 0 ∨ (τ k < (clA l i).en ∧ rpEq (doP (stA l (q.take k)) (clA l i).op).2 (clA l i).rep = true)
section
variable {l : List Cl} {q : List Int} {τ : Nat → Int}
theorem Seq1.okAt (h : Seq1 l q τ) {k : Nat} {i : Int} (hk : q[k]? = some i) : okP l (q.take k) i = true := by
  have hlt := (List.getElem?_eq_some_iff.1 hk).1
  unfold okP
  rw [Bool.and_eq_true, Bool.and_eq_true, Bool.and_eq_true]
  refine ⟨⟨⟨h.inr i (List.mem_of_getElem? hk), ?_⟩, ?_⟩, ?_⟩
  · rw [Bool.not_eq_true', ← Bool.not_eq_true, List.contains_iff_mem]
    intro hm
    obtain ⟨j, hj, hje⟩ := List.getElem_of_mem hm
    rw [List.length_take] at hj
    rw [List.getElem_take] at hje
    have h2 : q[j]? = some i := by rw [List.getElem?_eq_getElem (by omega), hje]
    have := (List.getElem?_inj hlt h.nodup).1 (hk.trans h2.symm)
    omega
  · rw [Bool.not_eq_true']
    by_cases he : 0 < (clA l i).en
    · rw [decide_eq_true he, Bool.true_and, lat_spec _ _ _ he, List.any_eq_false]
      intro j hj
      obtain ⟨k', hk', hje⟩ := List.getElem_of_mem hj
      rw [List.length_take] at hk'
      rw [List.getElem_take] at hje
      have h2 : q[k']? = some j := by rw [List.getElem?_eq_getElem (by omega), hje]
      have h3 := h.st k' j h2
      have h4 := h.rise k' k (by omega)
      rcases h.en k i hk with h5 | ⟨h5, _⟩
      · omega
      · rw [decide_eq_true_eq]; omega
    · rw [decide_eq_false he]; rfl
  · rw [Bool.not_eq_true']
    rcases h.en k i hk with h5 | ⟨_, h6⟩
    · rw [h5]; rfl
    · rw [h6]; simp
theorem Seq1.goes (h : Seq1 l q τ) : goesP l [] q = true := by
  have key : ∀ n k, k + n = q.length → goesP l (q.take k) (q.drop k) = true := by
    intro n
    induction n with
    | zero =>
      intro k hk
      rw [List.drop_of_length_le (by omega)]
      rfl
    | succ n ih =>
      intro k hk
      have hx : q[k]? = some (q[k]'(by omega)) := List.getElem?_eq_getElem (by omega)
      rw [goesP_take l q hx, h.okAt hx, ih (k + 1) (by omega)]
      rfl
  have := key q.length 0 (by omega)
  rwa [List.take_zero, List.drop_zero] at this
theorem Seq1.holds (h : Seq1 l q τ) (hc : chk l = 0) : holdsP l q = true := by
  unfold holdsP
  rw [hc, h.goes]
  have : fullP l q = true := by
    unfold fullP
    rw [List.all_eq_true]
    intro i hi
    have := h.all i (List.mem_range.1 hi)
    rw [List.contains_iff_mem.2 this]
    simp
  rw [this]
  rfl
end
structure Dn where
  cli : Int
  op : Opn
  ah : Nat
  be : Nat
  lost : Bool
instance : Inhabited Dn := ⟨⟨0, ⟨0, ⟨#[]⟩, ⟨#[]⟩, ⟨#[]⟩⟩, 0, 0, false⟩⟩
def dnN (l : List Dn) (k : Nat) : Dn := l.getD k default
def nilRp : Rp := ⟨0, false, ⟨#[]⟩⟩
def sH (l : List Dn) : Nat → List Pr
  | 0 => []
  | k + 1 => (doP (sH l k) (dnN l k).op).1
def pH (l : List Dn) : Nat → Nat
  | 0 => 0
  | k + 1 => if ((dnN l k).lost && decide (pH l k < 8)) = true then pH l k + 1 else pH l k
def lostH (l : List Dn) (k : Nat) : Bool := (dnN l k).lost && decide (pH l k < 8)
def hAt (l : List Dn) (k : Nat) : Cl :=
  ⟨(dnN l k).cli % 4, (dnN l k).op, if lostH l k = true then nilRp else (doP (sH l k) (dnN l k).op).2, 600 * (k : Int) + 600 - 2 * ((dnN l k).ah : Int), if lostH l k = true then 0 else 600 * (k : Int) + 600 + 8 * ((dnN l k).be : Int) + 1⟩
def histN (l : List Dn) (n : Nat) : List Cl := (List.range n).map (hAt l)
def hist (l : List Dn) : List Cl := histN l l.length
theorem histN_succ (l : List Dn) (n : Nat) : histN l (n + 1) = histN l n ++ [hAt l n] := by unfold histN; rw [List.range_succ, List.map_append]; rfl
theorem histN_len (l : List Dn) (n : Nat) : (histN l n).length = n := by unfold histN; simp
theorem hist_len (l : List Dn) : (hist l).length = l.length := histN_len l _
theorem hist_at (l : List Dn) {k : Nat} (h : k < l.length) : (hist l)[k]? = some (hAt l k) := by unfold hist histN; simp [h]
theorem hist_N (l : List Dn) {k : Nat} (h : k < l.length) : clN (hist l) k = hAt l k := by unfold clN; rw [List.getD_eq_getElem?_getD, hist_at l h]; rfl
theorem pH_le (l : List Dn) : ∀ k, pH l k ≤ 8
  | 0 => by unfold pH; omega
  | k + 1 => by
    have := pH_le l k
    unfold pH
    split
    · rename_i h
      rw [Bool.and_eq_true, decide_eq_true_eq] at h
      omega
    · exact this
theorem pend_hist (l : List Dn) : ∀ n, pendP (histN l n) = pH l n
  | 0 => rfl
  | n + 1 => by
    rw [histN_succ, pendP_snoc, pend_hist l n]
    show _ = if lostH l n = true then pH l n + 1 else pH l n
    unfold hAt
    simp only
    by_cases h : lostH l n = true
    · simp [h]
    · simp only [h, Bool.false_eq_true, if_false]
      rw [if_neg (by rw [beq_iff_eq]; omega)]
      rfl
def OkDn (l : List Dn) : Prop := ∀ d ∈ l, mayO d.op = true ∧ d.ah ≤ 255 ∧ d.be ≤ 255
theorem okdn_at {l : List Dn} (h : OkDn l) {k : Nat} (hk : k < l.length) : mayO (dnN l k).op = true ∧ (dnN l k).ah ≤ 255 ∧ (dnN l k).be ≤ 255 := by
  refine h _ ?_
  unfold dnN
  rw [List.getD_eq_getElem?_getD, List.getElem?_eq_getElem hk]
  exact List.getElem_mem hk
theorem nil_rp : nilR nilRp = true := by decide +kernel
theorem may_hist {l : List Dn} (h : OkDn l) {k : Nat} (hk : k < l.length) : mayC (hAt l k) = true := by
  obtain ⟨h1, h2, h3⟩ := okdn_at h hk
  unfold mayC hAt
  simp only
  rw [h1]
  simp only [Bool.and_eq_true, Bool.or_eq_true, decide_eq_true_eq, beq_iff_eq]
  refine ⟨⟨⟨⟨by omega, by omega⟩, trivial⟩, by omega⟩, ?_⟩
  by_cases hl : lostH l k = true
  · rw [if_pos hl, if_pos hl]; exact .inl ⟨rfl, nil_rp⟩
  · rw [if_neg hl, if_neg hl]; exact .inr (by omega)
theorem chk_hist {l : List Dn} (h : OkDn l) (h12 : l.length ≤ 12) : chk (hist l) = 0 := by
  refine chk_small (by rw [hist_len]; exact h12) ?_ fun c hc => ?_
  · unfold hist; rw [pend_hist]; exact pH_le l _
  · obtain ⟨k, hk, rfl⟩ := List.getElem_of_mem hc
    rw [hist_len] at hk
    have := hist_at l hk
    rw [List.getElem?_eq_getElem (by rw [hist_len]; exact hk)] at this
    rw [Option.some.inj this]
    exact may_hist h hk
def ownQ (n : Nat) : List Int := (List.range n).map fun (i : Nat) => (i : Int)
theorem ownQ_len (n : Nat) : (ownQ n).length = n := by unfold ownQ; simp
theorem ownQ_at {n k : Nat} {i : Int} (h : (ownQ n)[k]? = some i) : i = k ∧ k < n := by
  unfold ownQ at h
  rw [List.getElem?_map] at h
  obtain ⟨j, hj, rfl⟩ := Option.map_eq_some_iff.1 h
  have h2 := (List.getElem?_eq_some_iff.1 hj)
  obtain ⟨h3, h4⟩ := h2
  rw [List.length_range] at h3
  rw [List.getElem_range] at h4
  subst h4
  exact ⟨rfl, h3⟩
theorem ownQ_take {n k : Nat} (h : k ≤ n) : (ownQ n).take k = ownQ k := by
  unfold ownQ
  rw [← List.map_take, List.take_range, Nat.min_eq_left h]
theorem ownQ_succ (n : Nat) : ownQ (n + 1) = ownQ n ++ [(n : Int)] := by unfold ownQ; rw [List.range_succ, List.map_append]; rfl
theorem ownQ_nodup (n : Nat) : (ownQ n).Nodup := by
  unfold ownQ
  rw [List.nodup_iff_pairwise_ne, List.pairwise_map]
  exact List.nodup_range.imp fun h e => h (by omega)
theorem ownQ_mem {n : Nat} {i : Int} : i ∈ ownQ n ↔ 0 ≤ i ∧ i < n := by
  unfold ownQ
  rw [List.mem_map]
  constructor
  · rintro ⟨k, hk, rfl⟩
    have := List.mem_range.1 hk
    omega
  · rintro ⟨h1, h2⟩
    exact ⟨i.toNat, List.mem_range.2 (by omega), by omega⟩
theorem sH_stA {l : List Dn} {m : List Cl} (hm : ∀ k, k < l.length → (clN m k).op = (dnN l k).op) : ∀ k, k ≤ l.length → stA m (ownQ k) = sH l k
  | 0, _ => rfl
  | k + 1, h => by
    rw [ownQ_succ, stA_snoc, sH_stA hm k (by omega), clA_nat, hm k (by omega)]
    rfl
theorem rpEq_refl (r : Rp) : rpEq r r = true := by unfold rpEq; simp
theorem seq_own {l : List Dn} {m : List Cl} (hl : m.length = l.length) (hop : ∀ k, k < l.length → (clN m k).op = (dnN l k).op) (hst : ∀ k, k < l.length → (clN m k).st ≤ 600 * (k : Int) + 600)
    (hen : ∀ k, k < l.length → (clN m k).en = 0 ∨ (600 * (k : Int) + 600 < (clN m k).en ∧ (clN m k).rep = (doP (sH l k) (dnN l k).op).2)) : Seq1 m (ownQ l.length) (fun k => 600 * (k : Int) + 600) := by
  refine ⟨fun i j h => by omega, fun i hi => ?_, ownQ_nodup _, fun i hi => ownQ_mem.2 (by omega), fun k i hk => ?_, fun k i hk => ?_⟩
  · have := ownQ_mem.1 hi
    unfold inR
    rw [hl]
    simp; omega
  · obtain ⟨rfl, h⟩ := ownQ_at hk
    rw [clA_nat]; exact hst k h
  · obtain ⟨rfl, h⟩ := ownQ_at hk
    rw [clA_nat, ownQ_take (by omega), sH_stA hop k (by omega), hop k h]
    rcases hen k h with h1 | ⟨h1, h2⟩
    · exact .inl h1
    · refine .inr ⟨h1, ?_⟩
      rw [h2]; exact rpEq_refl _
theorem was_holds {l : List Dn} (h : OkDn l) (h12 : l.length ≤ 12) : holdsP (hist l) (ownQ l.length) = true := by
  refine (seq_own (hist_len l) (fun k hk => ?_) (fun k hk => ?_) (fun k hk => ?_)).holds (chk_hist h h12)
  · rw [hist_N l hk]; rfl
  · rw [hist_N l hk]; unfold hAt; simp only; omega
  · rw [hist_N l hk]
    unfold hAt
    simp only
    by_cases hl : lostH l k = true
    · rw [if_pos hl]; exact .inl rfl
    · rw [if_neg hl, if_neg hl]; exact .inr ⟨by omega, rfl⟩
end Go.Proofs.YtaojblejnpemkaaDoor
