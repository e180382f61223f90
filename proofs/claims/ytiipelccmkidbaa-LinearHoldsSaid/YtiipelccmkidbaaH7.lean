/- Holds: the reference's. -/
import Derived.Test.YtiipelccmkidbaaH6
import Derived.Test.YtiipelccmkidbaaRows
import Derived.WalkKit
import Derived.WalkSpells
import Derived.WalkLawsBesides
import Derived.Handy
import Derived.Deep.QuietTactic
import Derived.BigQuiet
import Derived.Deep.DeepCutAuto
import Derived.Lib.Hide
import Derived.RegionTactic
import Derived.ChangeAlike
import Derived.Laws.ResultCell
import Derived.Laws.MakeOwn
import Derived.Laws.OwnMore
import Derived.Outline
namespace Go.Proofs.Ytiipelccmkidbaa
open Go.RowKit

theorem rcheck_zero (a : Option Addr) (cap : Nat) (l : List Cl) (w : World) (hs : SlC w a cap l) (c : Int) (h : chk l = c) :
    Calls Try.prog 9 #[.slice a l.length cap] w fun e w' => e = .returned (.int .i64 c) ∧ Below w.heap.size w w' := by
  subst h
  exact rcheck_any a cap l w hs
theorem holdsR_bad {l : List Cl} {q : List Int} (h : chk l ≠ 0) : holdsR l q = false := by
  unfold holdsR
  have : (chk l == 0) = false := beq_eq_false_iff_ne.2 h
  rw [this]
  rfl
theorem rdo_own2 (a : Option Addr) (cap : Nat) (l : List Pr) (k : Int) (key old val : Tx) (w : World) (hs : SlP w a cap l) (hm : mayS l = true) (l' : List Pr) (err : Int) (f : Bool) (v : Tx) (hlr : doP l ⟨k, key, old, val⟩ = (l', ⟨err, f, v⟩)) :
    Calls Try.prog 10 #[.slice a l.length cap, .agg #[.int .u8 k, .string key, .string old, .string val]] w fun e w' => (∃ a' cap', e = .returned (.tuple #[.slice a' l'.length cap', .agg #[.int .i64 err, .bool f, .string v]]) ∧ SlP w' a' cap' l') ∧ Below w.heap.size w w' := by
  have hsm : ∀ p ∈ l, p.1.size ≤ 100000 := fun p hp => by
    have := ((may_spec hm).2.2 p hp).1
    unfold keyOk at this
    simp at this
    omega
  have h8 := (may_spec hm).1
  refine (rdo_any a cap l ⟨k, key, old, val⟩ w hs (by omega) hsm _ hlr).mono ?_
  rintro e w' ⟨⟨v', rfl, ho⟩, hb⟩
  obtain ⟨a', cap', rfl, hs'⟩ := SlP.of_owns ho
  exact ⟨⟨a', cap', rfl, hs'⟩, hb⟩

/-- The places that are in, as a row. -/
def inV (n : Nat) (q : List Int) : List Value := (List.range n).map fun (j : Nat) => .bool (q.contains (j : Int))
theorem inV_at {n : Nat} {q : List Int} {j : Nat} (h : j < n) : (inV n q)[j]? = some (.bool (q.contains (j : Int))) := by simp [inV, h]
theorem inV_set {n : Nat} {q : List Int} {i : Nat} (hi : i < n) : (inV n q).set i (.bool true) = inV n (q ++ [(i : Int)]) := by
  apply List.ext_getElem?
  intro j
  rw [List.getElem?_set]
  by_cases hj : j < n
  · rw [inV_at hj, inV_at hj]
    have hl : i < (inV n q).length := by simpa [inV] using hi
    by_cases e : i = j
    · subst e
      simp [hl]
    · rw [if_neg e]
      simp only [List.contains_append]
      have : ([(i : Int)].contains (j : Int)) = false := by simp; omega
      rw [this, Bool.or_false]
  · have h1 : (inV n q)[j]? = none := by rw [List.getElem?_eq_none_iff]; simp [inV]; omega
    have h2 : (inV n (q ++ [(i : Int)]))[j]? = none := by rw [List.getElem?_eq_none_iff]; simp [inV]; omega
    rw [h1, h2]
    split
    · split
      · omega
      · rfl
    · rfl
theorem inV_nil (n : Nat) : inV n [] = List.replicate n (.bool false) := by
  apply List.ext_getElem?
  intro j
  by_cases hj : j < n
  · rw [inV_at hj]; simp [hj]
  · have h1 : (inV n [])[j]? = none := by rw [List.getElem?_eq_none_iff]; simp [inV]; omega
    rw [h1]; simp; omega

theorem infoBool : (Try.prog.info? 4).map (fun i => (i.zero, i.size, i.bytes)) = some (some (.bool false), 1, 1) := by kernel_rfl

theorem make_bools (n : Nat) (hn : n ≤ 1000) (w : World) : (Instr.makeSlice 40 (.int .i64 n) (.int .i64 n)).run Try.prog w = .ok (.slice (some ⟨w.heap.size, 0, none⟩) n n) (w.alloc (.cells (inV n []).toArray 4)) := by
  obtain ⟨i, hi, hz, hsz, hb⟩ := info_parts infoBool
  have h := run_make (P := Try.prog) w 40 4 i (.bool false) Try.underlying40 hi hz .i64 .i64 n n (by omega) (by omega) (by rw [hb]; omega) (by omega)
  rw [hsz] at h
  simp only [Int.toNat_natCast, Nat.mul_one] at h
  rw [h]
  congr 3
  rw [inV_nil, ← toList_madeCells_one]
  rfl
def full1F (l : List Cl) (q : List Int) (i : Nat) : Bool := !((clA l i).en != 0 && !q.contains (i : Int))
theorem full1_no {l : List Cl} {q : List Int} {j : Nat} (hj : j < l.length) (h : full1F l q j = false) : full1 l q = false := by
  show (List.range l.length).all (full1F l q) = false
  rw [List.all_eq_false]
  exact ⟨j, List.mem_range.2 hj, by rw [h]; decide⟩
theorem clA_at {l : List Cl} {n : Nat} (h : n < l.length) : clA l (n : Int) = l[n] := by
  unfold clA
  rw [Int.toNat_natCast, List.getD_eq_getElem?_getD, List.getElem?_eq_getElem h]
  rfl
theorem inR_at {l : List Cl} {n : Nat} (h : n < l.length) : inR l (n : Int) = true := by
  unfold inR
  rw [decide_eq_true (by omega : (0 : Int) ≤ n), decide_eq_true (by omega : (n : Int) < l.length)]
  rfl
/-- Where the first road is gone to its end each place is one. -/
theorem goes1_in {l : List Cl} : ∀ (r q : List Int), goes1 l q r = true → ∀ i ∈ r, inR l i = true
  | [], _, _, i, hi => by cases hi
  | x :: r, q, h, i, hi => by
    simp only [goes1, Bool.and_eq_true] at h
    rw [List.mem_cons] at hi
    rcases hi with rfl | hi
    · have := h.1
      unfold ok1 at this
      simp only [Bool.and_eq_true] at this
      exact this.1
    · exact goes1_in r _ h.2 i hi

set_option maxRecDepth 100000 in
set_option maxHeartbeats 8000000 in
theorem rholds_any (a : Option Addr) (cap : Nat) (l : List Cl) (b : Option Addr) (bcap : Nat) (q : List Int) (w : World) (hs : SlC w a cap l) (hq : SlI w b bcap q) :
    Calls Try.prog 6 #[.slice a l.length cap, .slice b q.length bcap] w fun e w' => e = .returned (.bool (holdsR l q)) ∧ Below w.heap.size w w' := by
  have hr := hs.row
  have hle := hs.le
  have hmx := hs.max
  have hqr := hq.row
  have hqm := hq.max
  have hql := hq.le
  unfold maxLen at hmx hqm
  by_cases hc : chk l = 0
  · have hl40 := chk_len hc
    have HC := Lib.hid hc
    clear hc
    have hmk := make_bools l.length (by omega)
    go_enter Try.func6, Try.ntmps6
    refine wp_seq_k (fun K hK => ?_)
    have HK := Lib.hid hK
    clear hK
    go_wp2
    refine HK.out _ _ ?_
    clear HK
    refine wp_seq_k (fun K hK => ?_)
    have HK := Lib.hid hK
    clear hK
    go_wp2_with (go_at_call 9; refine (rcheck_zero _ _ _ _ hs _ HC.out).mono ?_; rintro e w1 ⟨rfl, hb1⟩)
    refine HK.out _ _ ?_
    clear HK
    refine wp_seq_k (fun K hK => ?_)
    have HK := Lib.hid hK
    clear hK
    go_wp2
    refine HK.out _ _ ?_
    clear HK
    have hg0 := heap_alloc_new w1 (Obj.cells (inV l.length []).toArray 4)
    have hbA := blw1 w1 (Obj.cells (inV l.length []).toArray 4)
    have hs1 := hb1.size
    have hb2 := hb1.trans (hbA.mono hs1)
    generalize w1.alloc (Obj.cells (inV l.length []).toArray 4) = w2 at *
    have hown2 : w2.ownsRow w1.heap.size 4 1 (.slice (some ⟨w1.heap.size, 0, none⟩) l.length l.length) l.length (inV l.length []) := owns_of_cur hg0 (Nat.le_refl _) (Nat.le_refl _) (by unfold maxLen; omega) (by simp [inV]) (by rw [List.take_of_length_le (by simp [inV])])
    clear hmk hg0 hbA
    refine wp_seq_k (fun K hK => ?_)
    go_cut [] (fun wx => goes1 l [] q = true ∧ wx.ownsRow w1.heap.size 4 1 (.slice (some ⟨w1.heap.size, 0, none⟩) l.length l.length) l.length (inV l.length q) ∧ Below w.heap.size w wx)
    case first =>
      go_wp2_with fail
      go_loopw [6] (fun i wr => ∃ k : Nat, k ≤ q.length ∧ i = .int .i64 k ∧ wr.ownsRow w1.heap.size 4 1 (.slice (some ⟨w1.heap.size, 0, none⟩) l.length l.length) l.length (inV l.length (q.take k)) ∧ goes1 l [] q = goes1 l (q.take k) (q.drop k) ∧ Below w.heap.size w wr) (fun i _ => q.length - (intOf i).toNat)
      case atStart => exact ⟨0, by omega, rfl, hown2, rfl, hb2⟩
      case round =>
        obtain ⟨k, hk, rfl, hown, hgo, hbr⟩ := hrel
        by_cases hlt : k < q.length
        · obtain ⟨qb, qoff, i, rfl, hqi, ci0⟩ := hqr.int hlt
          have hqlt : qb < w.heap.size := World.block_lt_of_cell? _ _ ci0
          have ci := (hbr.cell (p := ⟨qb, qoff + k, none⟩) hqlt).trans ci0
          rw [goes1_take l q hqi] at hgo
          have HG := Lib.hid hgo
          clear hgo ci0
          by_cases i0 : i < 0
          · have HR : Hid (holdsR l q = false) := Lib.hid (by
              have : ok1 l (q.take k) i = false := by
                have : decide (0 ≤ i) = false := decide_eq_false (by omega)
                unfold ok1 inR
                rw [this]
                rfl
              unfold holdsR; rw [HG.out, this]; simp)
            go_wp2
            go_ret
            exact ⟨ret_bool HR.out.symm, hbr⟩
          · by_cases i1 : (l.length : Int) ≤ i
            · have HR : Hid (holdsR l q = false) := Lib.hid (by
                have : ok1 l (q.take k) i = false := by
                  have : decide (i < l.length) = false := decide_eq_false (by omega)
                  unfold ok1 inR
                  rw [this]
                  simp
                unfold holdsR; rw [HG.out, this]; simp)
              go_wp2
              go_ret
              exact ⟨ret_bool HR.out.symm, hbr⟩
            · obtain ⟨n, rfl⟩ : ∃ n : Nat, i = n := ⟨i.toNat, by omega⟩
              have hn : n < l.length := by omega
              have hok : ok1 l (q.take k) n = !(q.take k).contains (n : Int) := by unfold ok1; rw [inR_at hn]; rfl
              have hcl := inV_at (q := q.take k) hn
              have ex : wr.cell? ⟨w1.heap.size, n, none⟩ = some (.bool ((q.take k).contains (n : Int))) := by
                rw [hown.cellAt _ (by simpa [inV] using hn)]
                exact hcl
              have fx : wr.frozen? ⟨w1.heap.size, n, none⟩ = false := hown.frozenAt _
              have hst := (hown.stored n (.bool true)).1
              rw [inV_set hn, ← take_snoc' hqi] at hst
              have HST := Lib.hid hst
              clear hcl hst
              cases hct : (q.take k).contains (n : Int)
              · rw [hct] at ex hok
                have HOK := Lib.hid hok
                clear hct hok
                go_wp2
                go_roundw
                case rel => exact ⟨k + 1, by omega, by go_num, HST.out, by rw [HG.out, HOK.out]; rfl, hbr.setCell (by simp; omega) _⟩
                case measure => simp [intOf]; omega
              · rw [hct] at ex hok
                have HR : Hid (holdsR l q = false) := Lib.hid (by unfold holdsR; rw [HG.out, hok]; simp)
                clear hct hok
                go_wp2
                go_ret
                exact ⟨ret_bool HR.out.symm, hbr⟩
        · have HG : Hid (goes1 l [] q = true) := Lib.hid (by rw [hgo, List.drop_of_length_le (by omega)]; rfl)
          rw [List.take_of_length_le (by omega)] at hown
          clear hgo
          go_wp2
          go_meet
          exact ⟨HG.out, hown, hbr⟩
    obtain ⟨hgo, hownc, hbc⟩ := hcut
    have HG := Lib.hid hgo
    clear hgo hown2 hb2
    refine hK _ _ ?_; clear hK
    refine wp_seq_k (fun K hK => ?_)
    go_cut [] (fun wx => full1 l q = true ∧ wc = wx)
    case first =>
      go_wp2_with fail
      go_loop [7] (fun i => ∃ j : Nat, j ≤ l.length ∧ i = .int .i64 j ∧ (List.range j).all (full1F l q) = true) (fun i => l.length - (intOf i).toNat)
      case atStart => exact ⟨0, by omega, rfl, rfl⟩
      case round =>
        obtain ⟨j, hj, rfl, hall⟩ := hrel
        have HALL := Lib.hid hall
        clear hall
        by_cases hlt : j < l.length
        · obtain ⟨bb, off, rfl, hblt, ht0⟩ := hr.call (List.getElem?_eq_getElem hlt)
          have c9 := (ht0.below hbc hblt).c9
          have hf : full1F l q j = !((l[j]).en != 0 && !q.contains (j : Int)) := by unfold full1F; rw [clA_at hlt]
          have ex : wc.cell? ⟨w1.heap.size, j, none⟩ = some (.bool (q.contains (j : Int))) := by
            rw [hownc.cellAt _ (by simpa [inV] using hlt)]
            exact inV_at hlt
          clear ht0
          generalize l[j] = c at *
          obtain ⟨cli, op, rep, st, en⟩ := c
          simp only at c9 hf
          cases e0 : en != 0
          · have HS : Hid ((List.range (j + 1)).all (full1F l q) = true) := Lib.hid (by rw [List.range_succ, List.all_append, HALL.out, List.all_cons, hf, e0]; simp)
            clear hf
            go_wp2
            go_round
            case rel => exact ⟨j + 1, by omega, by go_num, HS.out⟩
            case measure => simp [intOf]; omega
          · cases hct : q.contains (j : Int)
            · rw [hct] at hf ex
              have HR : Hid (holdsR l q = false) := Lib.hid (by
                have : full1 l q = false := full1_no hlt (by rw [hf, e0]; rfl)
                unfold holdsR
                rw [this]
                simp)
              clear hf hct
              go_wp2
              go_ret
              exact ⟨ret_bool HR.out.symm, hbc⟩
            · rw [hct] at hf ex
              have HS : Hid ((List.range (j + 1)).all (full1F l q) = true) := Lib.hid (by rw [List.range_succ, List.all_append, HALL.out, List.all_cons, hf]; simp)
              clear hf hct
              go_wp2
              go_round
              case rel => exact ⟨j + 1, by omega, by go_num, HS.out⟩
              case measure => simp [intOf]; omega
        · have HF : Hid (full1 l q = true) := Lib.hid (by
            have := HALL.out
            rw [show j = l.length by omega] at this
            exact this)
          go_wp2
          go_meet
          exact ⟨HF.out, rfl⟩
    obtain ⟨hfu, rfl⟩ := hcut
    have HF := Lib.hid hfu
    clear hfu
    refine hK _ _ ?_; clear hK
    refine wp_seq_k (fun K hK => ?_)
    have HK := Lib.hid hK
    clear hK
    go_wp2
    refine HK.out _ _ ?_
    clear HK
    have hin := goes1_in q [] HG.out
    go_wp2_with fail
    go_loopw [8, 9] (fun s i wr => ∃ (k : Nat) (sa : Option Addr) (scap : Nat), k ≤ q.length ∧ i = .int .i64 k ∧ s = .slice sa (stA l (q.take k)).length scap ∧ SlP wr sa scap (stA l (q.take k)) ∧ goes3 l [] q = goes3 l (q.take k) (q.drop k) ∧ Below w.heap.size w wr) (fun _ i _ => q.length - (intOf i).toNat)
    case atStart => exact ⟨0, none, 0, by omega, rfl, rfl, ⟨.inl rfl, Nat.le_refl _, by simp, fun _ => rfl⟩, rfl, hbc⟩
    case round =>
      obtain ⟨k, sa, scap, hk, rfl, rfl, hsl, hgo, hbr⟩ := hrel
      have hbs := hbr.size
      obtain ⟨wo, rfl⟩ : ∃ wo : World, wo = wr := ⟨_, rfl⟩
      by_cases hlt : k < q.length
      · obtain ⟨qb, qoff, i, rfl, hqi, ci0⟩ := hqr.int hlt
        have hqlt : qb < w.heap.size := World.block_lt_of_cell? _ _ ci0
        have ci := (hbr.cell (p := ⟨qb, qoff + k, none⟩) hqlt).trans ci0
        have hii := hin i (List.mem_of_getElem? hqi)
        obtain ⟨n, rfl⟩ : ∃ n : Nat, i = n := by
          unfold inR at hii
          simp only [Bool.and_eq_true, decide_eq_true_eq] at hii
          exact ⟨i.toNat, by omega⟩
        have hn : n < l.length := by
          unfold inR at hii
          simp only [Bool.and_eq_true, decide_eq_true_eq] at hii
          omega
        obtain ⟨bb, off, rfl, hblt, ht0⟩ := hr.call (List.getElem?_eq_getElem hn)
        obtain ⟨c0, c1, c2, c3, c4, c5, c6, c7, c8, c9⟩ := ht0.below hbr hblt
        rw [goes3_take l q hqi] at hgo
        have hst := stA_snoc l (q.take k) n
        rw [← take_snoc' hqi] at hst
        have hok : ok3 l (q.take k) n (q.drop (k + 1)) = (!(q.drop (k + 1)).any (lateB l l[n]) && !((l[n]).en != 0 && !rpEq (doP (stA l (q.take k)) (l[n]).op).2 (l[n]).rep)) := by
          unfold ok3
          rw [clA_at hn]
        rw [clA_at hn] at hst
        have hms := stA_may l (q.take k)
        generalize l[n] = c at *
        obtain ⟨cli, ⟨kd, key, old, val⟩, ⟨er, fo, va⟩, st, en⟩ := c
        simp only at c0 c1 c2 c3 c4 c5 c6 c7 c8 c9 hok hst
        generalize stA l (q.take k) = ls at *
        obtain ⟨ls', ⟨er', fo', va'⟩, hd⟩ : ∃ (l' : List Pr) (r : Rp), doP ls ⟨kd, key, old, val⟩ = (l', r) := ⟨_, _, rfl⟩
        rw [hd] at hok hst
        simp only at hok hst
        have HD := Lib.hid hd
        have HST := Lib.hid hst
        have HOK0 := Lib.hid hok
        have HG3 := Lib.hid hgo
        have HMS := Lib.hid hms
        clear hd hst hok hgo hms hii ci0
        go_wp2_with fail
        have hbx := blw1 wo (Obj.cells #[.int .i64 cli, .int .u8 kd, .string key, .string old, .string val, .int .i64 er, .bool fo, .string va, .int .i64 st, .int .i64 en] 32)
        have bx := heap_alloc_new wo (Obj.cells #[.int .i64 cli, .int .u8 kd, .string key, .string old, .string val, .int .i64 er, .bool fo, .string va, .int .i64 st, .int .i64 en] 32)
        have hzx : wo.heap.size < (wo.alloc (Obj.cells #[.int .i64 cli, .int .u8 kd, .string key, .string old, .string val, .int .i64 er, .bool fo, .string va, .int .i64 st, .int .i64 en] 32)).heap.size := by simp
        clear c0 c1 c2 c3 c4 c5 c6 c7 c8 c9 ci
        generalize wo.alloc (Obj.cells #[.int .i64 cli, .int .u8 kd, .string key, .string old, .string val, .int .i64 er, .bool fo, .string va, .int .i64 st, .int .i64 en] 32) = w5 at *
        have hb5 := hbr.trans (hbx.mono hbs)
        go_loopw [11] (fun t wx => ∃ j : Nat, k + 1 ≤ j ∧ j ≤ q.length ∧ t = .int .i64 j ∧ ((q.drop (k + 1)).take (j - (k + 1))).any (lateB l ⟨cli, ⟨kd, key, old, val⟩, ⟨er, fo, va⟩, st, en⟩) = false ∧ Below w5.heap.size w5 wx) (fun t _ => q.length - (intOf t).toNat)
        case atStart => exact ⟨k + 1, by omega, by omega, by go_num, by simp, Below.refl _ _⟩
        case round =>
          obtain ⟨j, hkj, hj, rfl, hany, hbi⟩ := hrel
          have hbw := hb5.trans (hbi.mono hb5.size)
          have hz5 := hbi.size
          have bxr := (hbi.block wo.heap.size hzx).trans bx
          obtain ⟨z0, z1, z2, z3, z4, z5, z6, z7, z8, z9⟩ := ten bxr
          by_cases hlj : j < q.length
          · obtain ⟨qb2, qoff2, i2, hqe, hqi2, ci2⟩ := hqr.int hlj
            cases hqe
            have ci := (hbw.cell (p := ⟨qb, qoff + j, none⟩) hqlt).trans ci2
            have hii := hin i2 (List.mem_of_getElem? hqi2)
            obtain ⟨n2, rfl⟩ : ∃ n2 : Nat, i2 = n2 := by
              unfold inR at hii
              simp only [Bool.and_eq_true, decide_eq_true_eq] at hii
              exact ⟨i2.toNat, by omega⟩
            have hn2 : n2 < l.length := by
              unfold inR at hii
              simp only [Bool.and_eq_true, decide_eq_true_eq] at hii
              omega
            obtain ⟨bb2, off2, hbe, _, ht2⟩ := hr.call (List.getElem?_eq_getElem hn2)
            cases hbe
            obtain ⟨c0, c1, c2, c3, c4, c5, c6, c7, c8, c9⟩ := ht2.below hbw hblt
            have hstep : ((q.drop (k + 1)).take (j + 1 - (k + 1))).any (lateB l ⟨cli, ⟨kd, key, old, val⟩, ⟨er, fo, va⟩, st, en⟩) = ((l[n2]).en != 0 && decide ((l[n2]).en < st)) := by
              have e : (q.drop (k + 1))[j - (k + 1)]? = some (n2 : Int) := by
                rw [List.getElem?_drop, show k + 1 + (j - (k + 1)) = j by omega]
                exact hqi2
              rw [show j + 1 - (k + 1) = j - (k + 1) + 1 by omega, take_snoc' e, List.any_append, hany]
              simp only [List.any_cons, List.any_nil, Bool.false_or, Bool.or_false]
              unfold lateB
              rw [clA_at hn2]
            have hmemq : (n2 : Int) ∈ q.drop (k + 1) := by
              have e : (q.drop (k + 1))[j - (k + 1)]? = some (n2 : Int) := by
                rw [List.getElem?_drop, show k + 1 + (j - (k + 1)) = j by omega]
                exact hqi2
              exact List.mem_of_getElem? e
            have hlate : lateB l ⟨cli, ⟨kd, key, old, val⟩, ⟨er, fo, va⟩, st, en⟩ n2 = ((l[n2]).en != 0 && decide ((l[n2]).en < st)) := by
              unfold lateB
              rw [clA_at hn2]
            have HANY := Lib.hid hany
            clear ht2 hii hany ci2
            generalize l[n2] = c at *
            obtain ⟨cli2, ⟨kd2, key2, old2, val2⟩, ⟨er2, fo2, va2⟩, st2, en2⟩ := c
            simp only at c0 c1 c2 c3 c4 c5 c6 c7 c8 c9 hstep hlate
            have hbn := blw1 wr (Obj.cells #[.int .i64 cli2, .int .u8 kd2, .string key2, .string old2, .string val2, .int .i64 er2, .bool fo2, .string va2, .int .i64 st2, .int .i64 en2] 32)
            have y8 := (hbn.cell (p := ⟨wo.heap.size, 8, none⟩) (by simp <;> omega)).trans z8
            cases e0 : en2 != 0
            · have HS := Lib.hid (hstep.trans (by rw [e0, Bool.false_and]))
              clear hstep hlate
              go_wp2
              go_roundw
              case rel => exact ⟨j + 1, by omega, by omega, by go_num, HS.out, hbi.trans (hbn.mono hz5)⟩
              case measure => simp [intOf] <;> omega
            · by_cases e1 : en2 < st
              · have HR : Hid (holdsR l q = false) := Lib.hid (by
                  have h1 : (q.drop (k + 1)).any (lateB l ⟨cli, ⟨kd, key, old, val⟩, ⟨er, fo, va⟩, st, en⟩) = true := List.any_eq_true.2 ⟨_, hmemq, by rw [hlate, e0, decide_eq_true e1]; rfl⟩
                  unfold holdsR
                  rw [HG3.out, HOK0.out, h1]
                  simp)
                clear hstep hlate
                go_wp2
                go_ret
                exact ⟨ret_bool HR.out.symm, hbw.trans (hbn.mono hbw.size)⟩
              · have e1b : decide (en2 < st) = false := decide_eq_false e1
                have HS := Lib.hid (hstep.trans (by rw [e0, e1b, Bool.and_false]))
                clear hstep hlate
                go_wp2
                go_roundw
                case rel => exact ⟨j + 1, by omega, by omega, by go_num, HS.out, hbi.trans (hbn.mono hz5)⟩
                case measure => simp [intOf] <;> omega
          · have hany : (q.drop (k + 1)).any (lateB l ⟨cli, ⟨kd, key, old, val⟩, ⟨er, fo, va⟩, st, en⟩) = false := by
              rw [List.take_of_length_le (by rw [List.length_drop]; omega)] at hany
              exact hany
            have hslr := hsl.below (hbx.trans (hbi.mono hbx.size))
            cases e0 : en != 0
            · have HOK : Hid (ok3 l (q.take k) n (q.drop (k + 1)) = true) := Lib.hid (by rw [HOK0.out, hany, e0]; rfl)
              go_wp2_with (go_at_call 10; refine (rdo_own2 _ _ _ _ _ _ _ _ hslr HMS.out _ _ _ _ HD.out).mono ?_; rintro e w6 ⟨⟨na, ncap, rfl, hsl6⟩, hb6⟩; obtain ⟨t0, t1, t2, t3, t4, t5, t6, t7, t8, t9⟩ := ten (((blw1 w6 (Obj.cells #[.int .i64 er', .bool fo', .string va'] 30)).block wo.heap.size (by have := hb6.size; omega)).trans ((hb6.block wo.heap.size (by omega)).trans bxr)); have hb07 := hbw.trans ((hb6.trans ((blw1 w6 (Obj.cells #[.int .i64 er', .bool fo', .string va'] 30)).mono hb6.size)).mono hbw.size); have hsl7 := hsl6.below (blw1 w6 (Obj.cells #[.int .i64 er', .bool fo', .string va'] 30)))
              go_roundw
              case rel => exact ⟨k + 1, na, ncap, by omega, by go_num, by rw [HST.out], by rw [HST.out]; exact hsl7, by rw [HG3.out, HOK.out, Bool.true_and], hb07⟩
              case measure => simp [intOf] <;> omega
            · by_cases y1 : er' = er
              · by_cases y2 : fo' = fo
                · by_cases y3 : va' = va
                  · have HOK : Hid (ok3 l (q.take k) n (q.drop (k + 1)) = true) := Lib.hid (by rw [HOK0.out, hany, e0]; simp [rpEq, y1, y2, y3])
                    subst y1 y2 y3
                    go_wp2_with (go_at_call 10; refine (rdo_own2 _ _ _ _ _ _ _ _ hslr HMS.out _ _ _ _ HD.out).mono ?_; rintro e w6 ⟨⟨na, ncap, rfl, hsl6⟩, hb6⟩; obtain ⟨t0, t1, t2, t3, t4, t5, t6, t7, t8, t9⟩ := ten (((blw1 w6 (Obj.cells #[.int .i64 er', .bool fo', .string va'] 30)).block wo.heap.size (by have := hb6.size; omega)).trans ((hb6.block wo.heap.size (by omega)).trans bxr)); have hb07 := hbw.trans ((hb6.trans ((blw1 w6 (Obj.cells #[.int .i64 er', .bool fo', .string va'] 30)).mono hb6.size)).mono hbw.size); have hsl7 := hsl6.below (blw1 w6 (Obj.cells #[.int .i64 er', .bool fo', .string va'] 30)))
                    go_roundw
                    case rel => exact ⟨k + 1, na, ncap, by omega, by go_num, by rw [HST.out], by rw [HST.out]; exact hsl7, by rw [HG3.out, HOK.out, Bool.true_and], hb07⟩
                    case measure => simp [intOf] <;> omega
                  · have HR : Hid (holdsR l q = false) := Lib.hid (by
                      have y3b : (va'.toList == va.toList) = false := by rw [tx_eq]; exact decide_eq_false y3
                      unfold holdsR
                      rw [HG3.out, HOK0.out, e0]
                      simp [rpEq, y3b])
                    have y3b : (va'.toList == va.toList) = false := by rw [tx_eq]; exact decide_eq_false y3
                    subst y1 y2
                    clear y3
                    go_wp2_with (go_at_call 10; refine (rdo_own2 _ _ _ _ _ _ _ _ hslr HMS.out _ _ _ _ HD.out).mono ?_; rintro e w6 ⟨⟨na, ncap, rfl, hsl6⟩, hb6⟩; obtain ⟨t0, t1, t2, t3, t4, t5, t6, t7, t8, t9⟩ := ten (((blw1 w6 (Obj.cells #[.int .i64 er', .bool fo', .string va'] 30)).block wo.heap.size (by have := hb6.size; omega)).trans ((hb6.block wo.heap.size (by omega)).trans bxr)); have hb07 := hbw.trans ((hb6.trans ((blw1 w6 (Obj.cells #[.int .i64 er', .bool fo', .string va'] 30)).mono hb6.size)).mono hbw.size); have hsl7 := hsl6.below (blw1 w6 (Obj.cells #[.int .i64 er', .bool fo', .string va'] 30)))
                    go_ret
                    exact ⟨ret_bool HR.out.symm, hb07⟩
                · have HR : Hid (holdsR l q = false) := Lib.hid (by
                    unfold holdsR
                    rw [HG3.out, HOK0.out, e0]
                    simp [rpEq, y2])
                  have y2b : (fo' == fo) = false := beq_eq_false_iff_ne.2 y2
                  clear y2
                  subst y1
                  go_wp2_with (go_at_call 10; refine (rdo_own2 _ _ _ _ _ _ _ _ hslr HMS.out _ _ _ _ HD.out).mono ?_; rintro e w6 ⟨⟨na, ncap, rfl, hsl6⟩, hb6⟩; obtain ⟨t0, t1, t2, t3, t4, t5, t6, t7, t8, t9⟩ := ten (((blw1 w6 (Obj.cells #[.int .i64 er', .bool fo', .string va'] 30)).block wo.heap.size (by have := hb6.size; omega)).trans ((hb6.block wo.heap.size (by omega)).trans bxr)); have hb07 := hbw.trans ((hb6.trans ((blw1 w6 (Obj.cells #[.int .i64 er', .bool fo', .string va'] 30)).mono hb6.size)).mono hbw.size); have hsl7 := hsl6.below (blw1 w6 (Obj.cells #[.int .i64 er', .bool fo', .string va'] 30)))
                  go_ret
                  exact ⟨ret_bool HR.out.symm, hb07⟩
              · have HR : Hid (holdsR l q = false) := Lib.hid (by
                  unfold holdsR
                  rw [HG3.out, HOK0.out, e0]
                  simp [rpEq, y1])
                have y1b : (er' == er) = false := beq_eq_false_iff_ne.2 y1
                clear y1
                go_wp2_with (go_at_call 10; refine (rdo_own2 _ _ _ _ _ _ _ _ hslr HMS.out _ _ _ _ HD.out).mono ?_; rintro e w6 ⟨⟨na, ncap, rfl, hsl6⟩, hb6⟩; obtain ⟨t0, t1, t2, t3, t4, t5, t6, t7, t8, t9⟩ := ten (((blw1 w6 (Obj.cells #[.int .i64 er', .bool fo', .string va'] 30)).block wo.heap.size (by have := hb6.size; omega)).trans ((hb6.block wo.heap.size (by omega)).trans bxr)); have hb07 := hbw.trans ((hb6.trans ((blw1 w6 (Obj.cells #[.int .i64 er', .bool fo', .string va'] 30)).mono hb6.size)).mono hbw.size); have hsl7 := hsl6.below (blw1 w6 (Obj.cells #[.int .i64 er', .bool fo', .string va'] 30)))
                go_ret
                exact ⟨ret_bool HR.out.symm, hb07⟩
      · have HR : Hid (holdsR l q = true) := Lib.hid (by
          unfold holdsR
          rw [hgo, List.drop_of_length_le (by omega), HG.out, HF.out, HC.out]
          rfl)
        clear hgo
        go_wp2
        go_ret
        exact ⟨ret_bool HR.out.symm, hbr⟩
  · have hcb : (chk l != 0) = true := bne_iff_ne.2 hc
    have HR := Lib.hid (holdsR_bad (q := q) hc)
    clear hc
    go_enter Try.func6, Try.ntmps6
    go_wp2_with (go_at_call 9; refine (rcheck_any _ _ _ _ hs).mono ?_; rintro e w1 ⟨rfl, hb1⟩)
    go_ret
    exact ⟨ret_bool HR.out.symm, hb1⟩
end Go.Proofs.Ytiipelccmkidbaa
