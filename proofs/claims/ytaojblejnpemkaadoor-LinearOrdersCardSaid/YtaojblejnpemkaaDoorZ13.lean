/- Texts that the claim leans on, part 13: H7, M20, M21. -/
import Derived.Test.YtaojblejnpemkaaDoorZ1
import Derived.Test.YtaojblejnpemkaaDoorZ2
import Derived.Test.YtaojblejnpemkaaDoorZ3
import Derived.Test.YtaojblejnpemkaaDoorZ4
import Derived.Test.YtaojblejnpemkaaDoorZ5
import Derived.Test.YtaojblejnpemkaaDoorZ6
import Derived.Test.YtaojblejnpemkaaDoorZ7
import Derived.Test.YtaojblejnpemkaaDoorZ8
import Derived.Test.YtaojblejnpemkaaDoorRows
import Derived.WalkKit
import Derived.WalkSpells
import Derived.WalkLawsBesides
import Derived.Handy
import Derived.Deep.QuietTactic
import Derived.BigQuiet
import Derived.Deep.DeepCutAuto
import Derived.Lib.Hide
import Derived.RegionTactic
import Derived.ChangeAlike
import Derived.Laws.ResultCell
import Derived.Laws.MakeOwn
import Derived.Laws.OwnMore
import Derived.Outline
import Derived.IntWalk
import Derived.Deep.RegionHeld3
import Derived.LoopN
import Derived.ProofKit
import Derived.Deep.Slices
import Derived.Deep.Strs
import Derived.Lib.SmallJoins
import Derived.Shelf.Strconv.Quote
import Derived.Shelf.Strings.BuilderK
import Derived.Shelf.Strings.BuilderF
import Derived.Lib.LaidPrint
import Derived.Lib.QuoteLoop
import Derived.Lib.MapLaws
import Derived.Laws.BytesArg
import Derived.Maps.OwnSet
import Derived.Maps.Keyed
import Derived.WideKeyEntry
import Derived.DeepKeys4
import Derived.Laws.BitsAllLaws
import Derived.Laws.Shifts
import Derived.Laws.Rows
import Derived.Deep.Quiet
import Derived.Laws.EntriesVeiled
import Derived.StillTailTactics
import Derived.Deep.RegionWith
import Derived.Lib.Overlaps
import Derived.OpenShut
import Derived.Laws.Strings
import Derived.Laws.CopyOwn
import Derived.Laws.CopyRow
import Derived.Laws.NewBlocks
import Derived.Deep.RegionLaw
namespace Go.Proofs.YtaojblejnpemkaaDoor
open Go.RowKit
theorem rcheck_zero (a : Option Addr) (cap : Nat) (l : List Cl) (w : World) (hs : SlC w a cap l) (c : Int) (h : chk l = c) :
    Calls Tryd.prog 20 #[.slice a l.length cap] w fun e w' => e = .returned (.int .i64 c) ∧ Below w.heap.size w w' := by
  subst h
  exact rcheck_any a cap l w hs
theorem holdsR_bad {l : List Cl} {q : List Int} (h : chk l ≠ 0) : holdsR l q = false := by
  unfold holdsR
  have : (chk l == 0) = false := beq_eq_false_iff_ne.2 h
  rw [this]
  rfl
theorem rdo_own2 (a : Option Addr) (cap : Nat) (l : List Pr) (k : Int) (key old val : Tx) (w : World) (hs : SlP w a cap l) (hm : mayS l = true) (l' : List Pr) (err : Int) (f : Bool) (v : Tx) (hlr : doP l ⟨k, key, old, val⟩ = (l', ⟨err, f, v⟩)) :
    Calls Tryd.prog 24 #[.slice a l.length cap, .agg #[.int .u8 k, .string key, .string old, .string val]] w fun e w' => (∃ a' cap', e = .returned (.tuple #[.slice a' l'.length cap', .agg #[.int .i64 err, .bool f, .string v]]) ∧ SlP w' a' cap' l') ∧ Below w.heap.size w w' := by
  have hsm : ∀ p ∈ l, p.1.size ≤ 100000 := fun p hp => by
    have := ((may_spec hm).2.2 p hp).1
    unfold keyOk at this
    simp at this
    omega
  have h8 := (may_spec hm).1
  refine (rdo_any a cap l ⟨k, key, old, val⟩ w hs (by omega) hsm _ hlr).mono ?_
  rintro e w' ⟨⟨v', rfl, ho⟩, hb⟩
  obtain ⟨a', cap', rfl, hs'⟩ := SlP.of_owns ho
  exact ⟨⟨a', cap', rfl, hs'⟩, hb⟩
def inV (n : Nat) (q : List Int) : List Value := (List.range n).map fun (j : Nat) => .bool (q.contains (j : Int))
theorem inV_at {n : Nat} {q : List Int} {j : Nat} (h : j < n) : (inV n q)[j]? = some (.bool (q.contains (j : Int))) := by simp [inV, h]
theorem inV_set {n : Nat} {q : List Int} {i : Nat} (hi : i < n) : (inV n q).set i (.bool true) = inV n (q ++ [(i : Int)]) := by
  apply List.ext_getElem?
  intro j
  rw [List.getElem?_set]
  by_cases hj : j < n
  · rw [inV_at hj, inV_at hj]
    have hl : i < (inV n q).length := by simpa [inV] using hi
    by_cases e : i = j
    · subst e
      simp [hl]
    · rw [if_neg e]
      simp only [List.contains_append]
      have : ([(i : Int)].contains (j : Int)) = false := by simp; omega
      rw [this, Bool.or_false]
  · have h1 : (inV n q)[j]? = none := by rw [List.getElem?_eq_none_iff]; simp [inV]; omega
    have h2 : (inV n (q ++ [(i : Int)]))[j]? = none := by rw [List.getElem?_eq_none_iff]; simp [inV]; omega
    rw [h1, h2]
    split
    · split
      · omega
      · rfl
    · rfl
theorem inV_nil (n : Nat) : inV n [] = List.replicate n (.bool false) := by
  apply List.ext_getElem?
  intro j
  by_cases hj : j < n
  · rw [inV_at hj]; simp [hj]
  · have h1 : (inV n [])[j]? = none := by rw [List.getElem?_eq_none_iff]; simp [inV]; omega
    rw [h1]; simp; omega
theorem infoBool : (Tryd.prog.info? 4).map (fun i => (i.zero, i.size, i.bytes)) = some (some (.bool false), 1, 1) := by kernel_rfl
theorem make_bools (n : Nat) (hn : n ≤ 1000) (w : World) : (Instr.makeSlice 60 (.int .i64 n) (.int .i64 n)).run Tryd.prog w = .ok (.slice (some ⟨w.heap.size, 0, none⟩) n n) (w.alloc (.cells (inV n []).toArray 4)) := by
  obtain ⟨i, hi, hz, hsz, hb⟩ := info_parts infoBool
  have h := run_make (P := Tryd.prog) w 60 4 i (.bool false) Tryd.underlying60 hi hz .i64 .i64 n n (by omega) (by omega) (by rw [hb]; omega) (by omega)
  rw [hsz] at h
  simp only [Int.toNat_natCast, Nat.mul_one] at h
  rw [h, inV_nil, ← toList_madeCells_one]
  have e : madeCells (Value.bool false).cells n = (madeCells #[Value.bool false] n).toList.toArray := by simp [Value.cells]
  rw [e]
def full1F (l : List Cl) (q : List Int) (i : Nat) : Bool := !((clA l i).en != 0 && !q.contains (i : Int))
theorem full1_no {l : List Cl} {q : List Int} {j : Nat} (hj : j < l.length) (h : full1F l q j = false) : full1 l q = false := by
  show (List.range l.length).all (full1F l q) = false
  rw [List.all_eq_false]
  exact ⟨j, List.mem_range.2 hj, by rw [h]; decide⟩
theorem clA_at {l : List Cl} {n : Nat} (h : n < l.length) : clA l (n : Int) = l[n] := by
  unfold clA
  rw [Int.toNat_natCast, List.getD_eq_getElem?_getD, List.getElem?_eq_getElem h]
  rfl
theorem inR_at {l : List Cl} {n : Nat} (h : n < l.length) : inR l (n : Int) = true := by
  unfold inR
  rw [decide_eq_true (by omega : (0 : Int) ≤ n), decide_eq_true (by omega : (n : Int) < l.length)]
  rfl
theorem goes1_in {l : List Cl} : ∀ (r q : List Int), goes1 l q r = true → ∀ i ∈ r, inR l i = true
  | [], _, _, i, hi => by cases hi
  | x :: r, q, h, i, hi => by
    simp only [goes1, Bool.and_eq_true] at h
    rw [List.mem_cons] at hi
    rcases hi with rfl | hi
    · have := h.1
      unfold ok1 at this
      simp only [Bool.and_eq_true] at this
      exact this.1
    · exact goes1_in r _ h.2 i hi
set_option maxRecDepth 100000 in
set_option maxHeartbeats 8000000 in
theorem rholds_any (a : Option Addr) (cap : Nat) (l : List Cl) (b : Option Addr) (bcap : Nat) (q : List Int) (w : World) (hs : SlC w a cap l) (hq : SlI w b bcap q) :
    Calls Tryd.prog 13 #[.slice a l.length cap, .slice b q.length bcap] w fun e w' => e = .returned (.bool (holdsR l q)) ∧ Below w.heap.size w w' := by
  have hr := hs.row
  have hle := hs.le
  have hmx := hs.max
  have hqr := hq.row
  have hqm := hq.max
  have hql := hq.le
  unfold maxLen at hmx hqm
  by_cases hc : chk l = 0
  · have hl40 := chk_len hc
    have HC := Lib.hid hc
    clear hc
    have hmk := make_bools l.length (by omega)
    go_enter Tryd.func13, Tryd.ntmps13
    refine wp_seq_k (fun K hK => ?_)
    have HK := Lib.hid hK
    clear hK
    go_wp2
    refine HK.out _ _ ?_
    clear HK
    refine wp_seq_k (fun K hK => ?_)
    have HK := Lib.hid hK
    clear hK
    go_wp2_with (go_at_call 20; refine (rcheck_zero _ _ _ _ hs _ HC.out).mono ?_; rintro e w1 ⟨rfl, hb1⟩)
    refine HK.out _ _ ?_
    clear HK
    refine wp_seq_k (fun K hK => ?_)
    have HK := Lib.hid hK
    clear hK
    go_wp2
    refine HK.out _ _ ?_
    clear HK
    have hg0 := heap_alloc_new w1 (Obj.cells (inV l.length []).toArray 4)
    have hbA := blw1 w1 (Obj.cells (inV l.length []).toArray 4)
    have hs1 := hb1.size
    have hb2 := hb1.trans (hbA.mono hs1)
    generalize w1.alloc (Obj.cells (inV l.length []).toArray 4) = w2 at *
    have hown2 : w2.ownsRow w1.heap.size 4 1 (.slice (some ⟨w1.heap.size, 0, none⟩) l.length l.length) l.length (inV l.length []) := owns_of_cur hg0 (Nat.le_refl _) (Nat.le_refl _) (by unfold maxLen; omega) (by simp [inV]) (by rw [List.take_of_length_le (by simp [inV])])
    clear hmk hg0 hbA
    refine wp_seq_k (fun K hK => ?_)
    go_cut [] (fun wx => goes1 l [] q = true ∧ wx.ownsRow w1.heap.size 4 1 (.slice (some ⟨w1.heap.size, 0, none⟩) l.length l.length) l.length (inV l.length q) ∧ Below w.heap.size w wx)
    case first =>
      go_wp2_with fail
      go_loopw [6] (fun i wr => ∃ k : Nat, k ≤ q.length ∧ i = .int .i64 k ∧ wr.ownsRow w1.heap.size 4 1 (.slice (some ⟨w1.heap.size, 0, none⟩) l.length l.length) l.length (inV l.length (q.take k)) ∧ goes1 l [] q = goes1 l (q.take k) (q.drop k) ∧ Below w.heap.size w wr) (fun i _ => q.length - (intOf i).toNat)
      case atStart => exact ⟨0, by omega, rfl, hown2, rfl, hb2⟩
      case round =>
        obtain ⟨k, hk, rfl, hown, hgo, hbr⟩ := hrel
        by_cases hlt : k < q.length
        · obtain ⟨qb, qoff, i, rfl, hqi, ci0⟩ := hqr.int hlt
          have hqlt : qb < w.heap.size := World.block_lt_of_cell? _ _ ci0
          have ci := (hbr.cell (p := ⟨qb, qoff + k, none⟩) hqlt).trans ci0
          rw [goes1_take l q hqi] at hgo
          have HG := Lib.hid hgo
          clear hgo ci0
          by_cases i0 : i < 0
          · have HR : Hid (holdsR l q = false) := Lib.hid (by
              have : ok1 l (q.take k) i = false := by
                have : decide (0 ≤ i) = false := decide_eq_false (by omega)
                unfold ok1 inR
                rw [this]
                rfl
              unfold holdsR; rw [HG.out, this]; simp)
            go_wp2
            go_ret
            exact ⟨ret_bool HR.out.symm, hbr⟩
          · by_cases i1 : (l.length : Int) ≤ i
            · have HR : Hid (holdsR l q = false) := Lib.hid (by
                have : ok1 l (q.take k) i = false := by
                  have : decide (i < l.length) = false := decide_eq_false (by omega)
                  unfold ok1 inR
                  rw [this]
                  simp
                unfold holdsR; rw [HG.out, this]; simp)
              go_wp2
              go_ret
              exact ⟨ret_bool HR.out.symm, hbr⟩
            · obtain ⟨n, rfl⟩ : ∃ n : Nat, i = n := ⟨i.toNat, by omega⟩
              have hn : n < l.length := by omega
              have hok : ok1 l (q.take k) n = !(q.take k).contains (n : Int) := by unfold ok1; rw [inR_at hn]; rfl
              have hcl := inV_at (q := q.take k) hn
              have ex : wr.cell? ⟨w1.heap.size, n, none⟩ = some (.bool ((q.take k).contains (n : Int))) := by
                rw [hown.cellAt _ (by simpa [inV] using hn)]
                exact hcl
              have fx : wr.frozen? ⟨w1.heap.size, n, none⟩ = false := hown.frozenAt _
              have hst := (hown.stored n (.bool true)).1
              rw [inV_set hn, ← take_snoc' hqi] at hst
              have HST := Lib.hid hst
              clear hcl hst
              cases hct : (q.take k).contains (n : Int)
              · rw [hct] at ex hok
                have HOK := Lib.hid hok
                clear hct hok
                go_wp2
                go_roundw
                case rel => exact ⟨k + 1, by omega, by go_num, HST.out, by rw [HG.out, HOK.out]; rfl, hbr.setCell (by simp; omega) _⟩
                case measure => simp [intOf]; omega
              · rw [hct] at ex hok
                have HR : Hid (holdsR l q = false) := Lib.hid (by unfold holdsR; rw [HG.out, hok]; simp)
                clear hct hok
                go_wp2
                go_ret
                exact ⟨ret_bool HR.out.symm, hbr⟩
        · have HG : Hid (goes1 l [] q = true) := Lib.hid (by rw [hgo, List.drop_of_length_le (by omega)]; rfl)
          rw [List.take_of_length_le (by omega)] at hown
          clear hgo
          go_wp2
          go_meet
          exact ⟨HG.out, hown, hbr⟩
    obtain ⟨hgo, hownc, hbc⟩ := hcut
    have HG := Lib.hid hgo
    clear hgo hown2 hb2
    refine hK _ _ ?_; clear hK
    refine wp_seq_k (fun K hK => ?_)
    go_cut [] (fun wx => full1 l q = true ∧ wc = wx)
    case first =>
      go_wp2_with fail
      go_loop [7] (fun i => ∃ j : Nat, j ≤ l.length ∧ i = .int .i64 j ∧ (List.range j).all (full1F l q) = true) (fun i => l.length - (intOf i).toNat)
      case atStart => exact ⟨0, by omega, rfl, rfl⟩
      case round =>
        obtain ⟨j, hj, rfl, hall⟩ := hrel
        have HALL := Lib.hid hall
        clear hall
        by_cases hlt : j < l.length
        · obtain ⟨bb, off, rfl, hblt, ht0⟩ := hr.call (List.getElem?_eq_getElem hlt)
          have c9 := (ht0.below hbc hblt).c9
          have hf : full1F l q j = !((l[j]).en != 0 && !q.contains (j : Int)) := by unfold full1F; rw [clA_at hlt]
          have ex : wc.cell? ⟨w1.heap.size, j, none⟩ = some (.bool (q.contains (j : Int))) := by
            rw [hownc.cellAt _ (by simpa [inV] using hlt)]
            exact inV_at hlt
          clear ht0
          generalize l[j] = c at *
          obtain ⟨cli, op, rep, st, en⟩ := c
          simp only at c9 hf
          cases e0 : en != 0
          · have HS : Hid ((List.range (j + 1)).all (full1F l q) = true) := Lib.hid (by rw [List.range_succ, List.all_append, HALL.out, List.all_cons, hf, e0]; simp)
            clear hf
            go_wp2
            go_round
            case rel => exact ⟨j + 1, by omega, by go_num, HS.out⟩
            case measure => simp [intOf]; omega
          · cases hct : q.contains (j : Int)
            · rw [hct] at hf ex
              have HR : Hid (holdsR l q = false) := Lib.hid (by
                have : full1 l q = false := full1_no hlt (by rw [hf, e0]; rfl)
                unfold holdsR
                rw [this]
                simp)
              clear hf hct
              go_wp2
              go_ret
              exact ⟨ret_bool HR.out.symm, hbc⟩
            · rw [hct] at hf ex
              have HS : Hid ((List.range (j + 1)).all (full1F l q) = true) := Lib.hid (by rw [List.range_succ, List.all_append, HALL.out, List.all_cons, hf]; simp)
              clear hf hct
              go_wp2
              go_round
              case rel => exact ⟨j + 1, by omega, by go_num, HS.out⟩
              case measure => simp [intOf]; omega
        · have HF : Hid (full1 l q = true) := Lib.hid (by
            have := HALL.out
            rw [show j = l.length by omega] at this
            exact this)
          go_wp2
          go_meet
          exact ⟨HF.out, rfl⟩
    obtain ⟨hfu, rfl⟩ := hcut
    have HF := Lib.hid hfu
    clear hfu
    refine hK _ _ ?_; clear hK
    refine wp_seq_k (fun K hK => ?_)
    have HK := Lib.hid hK
    clear hK
    go_wp2
    refine HK.out _ _ ?_
    clear HK
    have hin := goes1_in q [] HG.out
    go_wp2_with fail
    go_loopw [8, 9] (fun s i wr => ∃ (k : Nat) (sa : Option Addr) (scap : Nat), k ≤ q.length ∧ i = .int .i64 k ∧ s = .slice sa (stA l (q.take k)).length scap ∧ SlP wr sa scap (stA l (q.take k)) ∧ goes3 l [] q = goes3 l (q.take k) (q.drop k) ∧ Below w.heap.size w wr) (fun _ i _ => q.length - (intOf i).toNat)
    case atStart => exact ⟨0, none, 0, by omega, rfl, rfl, ⟨.inl rfl, Nat.le_refl _, by simp, fun _ => rfl⟩, rfl, hbc⟩
    case round =>
      obtain ⟨k, sa, scap, hk, rfl, rfl, hsl, hgo, hbr⟩ := hrel
      have hbs := hbr.size
      obtain ⟨wo, rfl⟩ : ∃ wo : World, wo = wr := ⟨_, rfl⟩
      by_cases hlt : k < q.length
      · obtain ⟨qb, qoff, i, rfl, hqi, ci0⟩ := hqr.int hlt
        have hqlt : qb < w.heap.size := World.block_lt_of_cell? _ _ ci0
        have ci := (hbr.cell (p := ⟨qb, qoff + k, none⟩) hqlt).trans ci0
        have hii := hin i (List.mem_of_getElem? hqi)
        obtain ⟨n, rfl⟩ : ∃ n : Nat, i = n := by
          unfold inR at hii
          simp only [Bool.and_eq_true, decide_eq_true_eq] at hii
          exact ⟨i.toNat, by omega⟩
        have hn : n < l.length := by
          unfold inR at hii
          simp only [Bool.and_eq_true, decide_eq_true_eq] at hii
          omega
        obtain ⟨bb, off, rfl, hblt, ht0⟩ := hr.call (List.getElem?_eq_getElem hn)
        obtain ⟨c0, c1, c2, c3, c4, c5, c6, c7, c8, c9⟩ := ht0.below hbr hblt
        rw [goes3_take l q hqi] at hgo
        have hst := stA_snoc l (q.take k) n
        rw [← take_snoc' hqi] at hst
        have hok : ok3 l (q.take k) n (q.drop (k + 1)) = (!(q.drop (k + 1)).any (lateB l l[n]) && !((l[n]).en != 0 && !rpEq (doP (stA l (q.take k)) (l[n]).op).2 (l[n]).rep)) := by
          unfold ok3
          rw [clA_at hn]
        rw [clA_at hn] at hst
        have hms := stA_may l (q.take k)
        generalize l[n] = c at *
        obtain ⟨cli, ⟨kd, key, old, val⟩, ⟨er, fo, va⟩, st, en⟩ := c
        simp only at c0 c1 c2 c3 c4 c5 c6 c7 c8 c9 hok hst
        generalize stA l (q.take k) = ls at *
        obtain ⟨ls', ⟨er', fo', va'⟩, hd⟩ : ∃ (l' : List Pr) (r : Rp), doP ls ⟨kd, key, old, val⟩ = (l', r) := ⟨_, _, rfl⟩
        rw [hd] at hok hst
        simp only at hok hst
        have HD := Lib.hid hd
        have HST := Lib.hid hst
        have HOK0 := Lib.hid hok
        have HG3 := Lib.hid hgo
        have HMS := Lib.hid hms
        clear hd hst hok hgo hms hii ci0
        go_wp2_with fail
        have hbx := blw1 wo (Obj.cells #[.int .i64 cli, .int .u8 kd, .string key, .string old, .string val, .int .i64 er, .bool fo, .string va, .int .i64 st, .int .i64 en] 38)
        have bx := heap_alloc_new wo (Obj.cells #[.int .i64 cli, .int .u8 kd, .string key, .string old, .string val, .int .i64 er, .bool fo, .string va, .int .i64 st, .int .i64 en] 38)
        have hzx : wo.heap.size < (wo.alloc (Obj.cells #[.int .i64 cli, .int .u8 kd, .string key, .string old, .string val, .int .i64 er, .bool fo, .string va, .int .i64 st, .int .i64 en] 38)).heap.size := by simp
        clear c0 c1 c2 c3 c4 c5 c6 c7 c8 c9 ci
        generalize wo.alloc (Obj.cells #[.int .i64 cli, .int .u8 kd, .string key, .string old, .string val, .int .i64 er, .bool fo, .string va, .int .i64 st, .int .i64 en] 38) = w5 at *
        have hb5 := hbr.trans (hbx.mono hbs)
        go_loopw [11] (fun t wx => ∃ j : Nat, k + 1 ≤ j ∧ j ≤ q.length ∧ t = .int .i64 j ∧ ((q.drop (k + 1)).take (j - (k + 1))).any (lateB l ⟨cli, ⟨kd, key, old, val⟩, ⟨er, fo, va⟩, st, en⟩) = false ∧ Below w5.heap.size w5 wx) (fun t _ => q.length - (intOf t).toNat)
        case atStart => exact ⟨k + 1, by omega, by omega, by go_num, by simp, Below.refl _ _⟩
        case round =>
          obtain ⟨j, hkj, hj, rfl, hany, hbi⟩ := hrel
          have hbw := hb5.trans (hbi.mono hb5.size)
          have hz5 := hbi.size
          have bxr := (hbi.block wo.heap.size hzx).trans bx
          obtain ⟨z0, z1, z2, z3, z4, z5, z6, z7, z8, z9⟩ := ten bxr
          by_cases hlj : j < q.length
          · obtain ⟨qb2, qoff2, i2, hqe, hqi2, ci2⟩ := hqr.int hlj
            cases hqe
            have ci := (hbw.cell (p := ⟨qb, qoff + j, none⟩) hqlt).trans ci2
            have hii := hin i2 (List.mem_of_getElem? hqi2)
            obtain ⟨n2, rfl⟩ : ∃ n2 : Nat, i2 = n2 := by
              unfold inR at hii
              simp only [Bool.and_eq_true, decide_eq_true_eq] at hii
              exact ⟨i2.toNat, by omega⟩
            have hn2 : n2 < l.length := by
              unfold inR at hii
              simp only [Bool.and_eq_true, decide_eq_true_eq] at hii
              omega
            obtain ⟨bb2, off2, hbe, _, ht2⟩ := hr.call (List.getElem?_eq_getElem hn2)
            cases hbe
            obtain ⟨c0, c1, c2, c3, c4, c5, c6, c7, c8, c9⟩ := ht2.below hbw hblt
            have hstep : ((q.drop (k + 1)).take (j + 1 - (k + 1))).any (lateB l ⟨cli, ⟨kd, key, old, val⟩, ⟨er, fo, va⟩, st, en⟩) = ((l[n2]).en != 0 && decide ((l[n2]).en < st)) := by
              have e : (q.drop (k + 1))[j - (k + 1)]? = some (n2 : Int) := by
                rw [List.getElem?_drop, show k + 1 + (j - (k + 1)) = j by omega]
                exact hqi2
              rw [show j + 1 - (k + 1) = j - (k + 1) + 1 by omega, take_snoc' e, List.any_append, hany]
              simp only [List.any_cons, List.any_nil, Bool.false_or, Bool.or_false]
              unfold lateB
              rw [clA_at hn2]
            have hmemq : (n2 : Int) ∈ q.drop (k + 1) := by
              have e : (q.drop (k + 1))[j - (k + 1)]? = some (n2 : Int) := by
                rw [List.getElem?_drop, show k + 1 + (j - (k + 1)) = j by omega]
                exact hqi2
              exact List.mem_of_getElem? e
            have hlate : lateB l ⟨cli, ⟨kd, key, old, val⟩, ⟨er, fo, va⟩, st, en⟩ n2 = ((l[n2]).en != 0 && decide ((l[n2]).en < st)) := by
              unfold lateB
              rw [clA_at hn2]
            have HANY := Lib.hid hany
            clear ht2 hii hany ci2
            generalize l[n2] = c at *
            obtain ⟨cli2, ⟨kd2, key2, old2, val2⟩, ⟨er2, fo2, va2⟩, st2, en2⟩ := c
            simp only at c0 c1 c2 c3 c4 c5 c6 c7 c8 c9 hstep hlate
            have hbn := blw1 wr (Obj.cells #[.int .i64 cli2, .int .u8 kd2, .string key2, .string old2, .string val2, .int .i64 er2, .bool fo2, .string va2, .int .i64 st2, .int .i64 en2] 38)
            have y8 := (hbn.cell (p := ⟨wo.heap.size, 8, none⟩) (by simp <;> omega)).trans z8
            cases e0 : en2 != 0
            · have HS := Lib.hid (hstep.trans (by rw [e0, Bool.false_and]))
              clear hstep hlate
              go_wp2
              go_roundw
              case rel => exact ⟨j + 1, by omega, by omega, by go_num, HS.out, hbi.trans (hbn.mono hz5)⟩
              case measure => simp [intOf] <;> omega
            · by_cases e1 : en2 < st
              · have HR : Hid (holdsR l q = false) := Lib.hid (by
                  have h1 : (q.drop (k + 1)).any (lateB l ⟨cli, ⟨kd, key, old, val⟩, ⟨er, fo, va⟩, st, en⟩) = true := List.any_eq_true.2 ⟨_, hmemq, by rw [hlate, e0, decide_eq_true e1]; rfl⟩
                  unfold holdsR
                  rw [HG3.out, HOK0.out, h1]
                  simp)
                clear hstep hlate
                go_wp2
                go_ret
                exact ⟨ret_bool HR.out.symm, hbw.trans (hbn.mono hbw.size)⟩
              · have e1b : decide (en2 < st) = false := decide_eq_false e1
                have HS := Lib.hid (hstep.trans (by rw [e0, e1b, Bool.and_false]))
                clear hstep hlate
                go_wp2
                go_roundw
                case rel => exact ⟨j + 1, by omega, by omega, by go_num, HS.out, hbi.trans (hbn.mono hz5)⟩
                case measure => simp [intOf] <;> omega
          · have hany : (q.drop (k + 1)).any (lateB l ⟨cli, ⟨kd, key, old, val⟩, ⟨er, fo, va⟩, st, en⟩) = false := by
              rw [List.take_of_length_le (by rw [List.length_drop]; omega)] at hany
              exact hany
            have hslr := hsl.below (hbx.trans (hbi.mono hbx.size))
            cases e0 : en != 0
            · have HOK : Hid (ok3 l (q.take k) n (q.drop (k + 1)) = true) := Lib.hid (by rw [HOK0.out, hany, e0]; rfl)
              go_wp2_with (go_at_call 24; refine (rdo_own2 _ _ _ _ _ _ _ _ hslr HMS.out _ _ _ _ HD.out).mono ?_; rintro e w6 ⟨⟨na, ncap, rfl, hsl6⟩, hb6⟩; obtain ⟨t0, t1, t2, t3, t4, t5, t6, t7, t8, t9⟩ := ten (((blw1 w6 (Obj.cells #[.int .i64 er', .bool fo', .string va'] 36)).block wo.heap.size (by have := hb6.size; omega)).trans ((hb6.block wo.heap.size (by omega)).trans bxr)); have hb07 := hbw.trans ((hb6.trans ((blw1 w6 (Obj.cells #[.int .i64 er', .bool fo', .string va'] 36)).mono hb6.size)).mono hbw.size); have hsl7 := hsl6.below (blw1 w6 (Obj.cells #[.int .i64 er', .bool fo', .string va'] 36)))
              go_roundw
              case rel => exact ⟨k + 1, na, ncap, by omega, by go_num, by rw [HST.out], by rw [HST.out]; exact hsl7, by rw [HG3.out, HOK.out, Bool.true_and], hb07⟩
              case measure => simp [intOf] <;> omega
            · by_cases y1 : er' = er
              · by_cases y2 : fo' = fo
                · by_cases y3 : va' = va
                  · have HOK : Hid (ok3 l (q.take k) n (q.drop (k + 1)) = true) := Lib.hid (by rw [HOK0.out, hany, e0]; simp [rpEq, y1, y2, y3])
                    subst y1 y2 y3
                    go_wp2_with (go_at_call 24; refine (rdo_own2 _ _ _ _ _ _ _ _ hslr HMS.out _ _ _ _ HD.out).mono ?_; rintro e w6 ⟨⟨na, ncap, rfl, hsl6⟩, hb6⟩; obtain ⟨t0, t1, t2, t3, t4, t5, t6, t7, t8, t9⟩ := ten (((blw1 w6 (Obj.cells #[.int .i64 er', .bool fo', .string va'] 36)).block wo.heap.size (by have := hb6.size; omega)).trans ((hb6.block wo.heap.size (by omega)).trans bxr)); have hb07 := hbw.trans ((hb6.trans ((blw1 w6 (Obj.cells #[.int .i64 er', .bool fo', .string va'] 36)).mono hb6.size)).mono hbw.size); have hsl7 := hsl6.below (blw1 w6 (Obj.cells #[.int .i64 er', .bool fo', .string va'] 36)))
                    go_roundw
                    case rel => exact ⟨k + 1, na, ncap, by omega, by go_num, by rw [HST.out], by rw [HST.out]; exact hsl7, by rw [HG3.out, HOK.out, Bool.true_and], hb07⟩
                    case measure => simp [intOf] <;> omega
                  · have HR : Hid (holdsR l q = false) := Lib.hid (by
                      have y3b : (va'.toList == va.toList) = false := by rw [tx_eq]; exact decide_eq_false y3
                      unfold holdsR
                      rw [HG3.out, HOK0.out, e0]
                      simp [rpEq, y3b])
                    have y3b : (va'.toList == va.toList) = false := by rw [tx_eq]; exact decide_eq_false y3
                    subst y1 y2
                    clear y3
                    go_wp2_with (go_at_call 24; refine (rdo_own2 _ _ _ _ _ _ _ _ hslr HMS.out _ _ _ _ HD.out).mono ?_; rintro e w6 ⟨⟨na, ncap, rfl, hsl6⟩, hb6⟩; obtain ⟨t0, t1, t2, t3, t4, t5, t6, t7, t8, t9⟩ := ten (((blw1 w6 (Obj.cells #[.int .i64 er', .bool fo', .string va'] 36)).block wo.heap.size (by have := hb6.size; omega)).trans ((hb6.block wo.heap.size (by omega)).trans bxr)); have hb07 := hbw.trans ((hb6.trans ((blw1 w6 (Obj.cells #[.int .i64 er', .bool fo', .string va'] 36)).mono hb6.size)).mono hbw.size); have hsl7 := hsl6.below (blw1 w6 (Obj.cells #[.int .i64 er', .bool fo', .string va'] 36)))
                    go_ret
                    exact ⟨ret_bool HR.out.symm, hb07⟩
                · have HR : Hid (holdsR l q = false) := Lib.hid (by
                    unfold holdsR
                    rw [HG3.out, HOK0.out, e0]
                    simp [rpEq, y2])
                  have y2b : (fo' == fo) = false := beq_eq_false_iff_ne.2 y2
                  clear y2
                  subst y1
                  go_wp2_with (go_at_call 24; refine (rdo_own2 _ _ _ _ _ _ _ _ hslr HMS.out _ _ _ _ HD.out).mono ?_; rintro e w6 ⟨⟨na, ncap, rfl, hsl6⟩, hb6⟩; obtain ⟨t0, t1, t2, t3, t4, t5, t6, t7, t8, t9⟩ := ten (((blw1 w6 (Obj.cells #[.int .i64 er', .bool fo', .string va'] 36)).block wo.heap.size (by have := hb6.size; omega)).trans ((hb6.block wo.heap.size (by omega)).trans bxr)); have hb07 := hbw.trans ((hb6.trans ((blw1 w6 (Obj.cells #[.int .i64 er', .bool fo', .string va'] 36)).mono hb6.size)).mono hbw.size); have hsl7 := hsl6.below (blw1 w6 (Obj.cells #[.int .i64 er', .bool fo', .string va'] 36)))
                  go_ret
                  exact ⟨ret_bool HR.out.symm, hb07⟩
              · have HR : Hid (holdsR l q = false) := Lib.hid (by
                  unfold holdsR
                  rw [HG3.out, HOK0.out, e0]
                  simp [rpEq, y1])
                have y1b : (er' == er) = false := beq_eq_false_iff_ne.2 y1
                clear y1
                go_wp2_with (go_at_call 24; refine (rdo_own2 _ _ _ _ _ _ _ _ hslr HMS.out _ _ _ _ HD.out).mono ?_; rintro e w6 ⟨⟨na, ncap, rfl, hsl6⟩, hb6⟩; obtain ⟨t0, t1, t2, t3, t4, t5, t6, t7, t8, t9⟩ := ten (((blw1 w6 (Obj.cells #[.int .i64 er', .bool fo', .string va'] 36)).block wo.heap.size (by have := hb6.size; omega)).trans ((hb6.block wo.heap.size (by omega)).trans bxr)); have hb07 := hbw.trans ((hb6.trans ((blw1 w6 (Obj.cells #[.int .i64 er', .bool fo', .string va'] 36)).mono hb6.size)).mono hbw.size); have hsl7 := hsl6.below (blw1 w6 (Obj.cells #[.int .i64 er', .bool fo', .string va'] 36)))
                go_ret
                exact ⟨ret_bool HR.out.symm, hb07⟩
      · have HR : Hid (holdsR l q = true) := Lib.hid (by
          unfold holdsR
          rw [hgo, List.drop_of_length_le (by omega), HG.out, HF.out, HC.out]
          rfl)
        clear hgo
        go_wp2
        go_ret
        exact ⟨ret_bool HR.out.symm, hbr⟩
  · have hcb : (chk l != 0) = true := bne_iff_ne.2 hc
    have HR := Lib.hid (holdsR_bad (q := q) hc)
    clear hc
    go_enter Tryd.func13, Tryd.ntmps13
    go_wp2_with (go_at_call 20; refine (rcheck_any _ _ _ _ hs).mono ?_; rintro e w1 ⟨rfl, hb1⟩)
    go_ret
    exact ⟨ret_bool HR.out.symm, hb1⟩
end Go.Proofs.YtaojblejnpemkaaDoor
namespace Go.Proofs.YtaojblejnpemkaaDoor
open Go.RowKit
def inM (n m : Nat) : List Value := (List.range n).map fun (j : Nat) => .bool (m.testBit j)
theorem inM_len (n m : Nat) : (inM n m).length = n := by simp [inM]
theorem inM_at {n m j : Nat} (h : j < n) : (inM n m)[j]? = some (.bool (m.testBit j)) := by simp [inM, h]
theorem inM_ext {n m : Nat} {xs : List Value} (hl : xs.length = n) (h : ∀ j, j < n → xs[j]? = some (.bool (m.testBit j))) : xs = inM n m := by
  apply List.ext_getElem?
  intro j
  by_cases hj : j < n
  · rw [h j hj, inM_at hj]
  · rw [List.getElem?_eq_none_iff.2 (by omega), List.getElem?_eq_none_iff.2 (by rw [inM_len]; omega)]
theorem inM_set1 {n m i : Nat} (hi : i < n) : (inM n m).set i (.bool true) = inM n (m ||| 2 ^ i) := by
  refine inM_ext (by rw [List.length_set, inM_len]) fun j hj => ?_
  rw [List.getElem?_set, mbit_or]
  by_cases e : i = j
  · subst e
    rw [if_pos rfl, if_pos (by rw [inM_len]; exact hi)]
    simp
  · rw [if_neg e, inM_at hj, decide_eq_false e, Bool.or_false]
theorem inM_set0 {n m i : Nat} (hi : i < n) (hb : m.testBit i = false) : (inM n (m ||| 2 ^ i)).set i (.bool false) = inM n m := by
  refine inM_ext (by rw [List.length_set, inM_len]) fun j hj => ?_
  rw [List.getElem?_set]
  by_cases e : i = j
  · subst e
    rw [if_pos rfl, if_pos (by rw [inM_len]; exact hi), hb]
  · rw [if_neg e, inM_at hj, mbit_or, decide_eq_false e, Bool.or_false]
theorem inM_zero (n : Nat) : inM n 0 = inV n [] := by
  symm
  refine inM_ext (by simp [inV]) fun j hj => ?_
  rw [inV_at hj, bit_zero]
  rfl
structure KB (B : Nat) (w w' : World) : Prop where
  bl : Below B w w'
  ty : ∀ (j : Nat) (cs : Array Value) (T : TypeId), w.heap[j]? = some (.cells cs T (0, 0)) → T ≠ 4 → w'.heap[j]? = some (.cells cs T (0, 0))
section
variable {B : Nat} {w w' w'' : World}
theorem KB.refl (B : Nat) (w : World) : KB B w w := ⟨Below.refl _ _, fun _ _ _ h _ => h⟩
theorem KB.trans (h : KB B w w') (h2 : KB B w' w'') : KB B w w'' := ⟨h.bl.trans h2.bl, fun j cs T a b => h2.ty j cs T (h.ty j cs T a b) b⟩
theorem KB.of (h : Below w.heap.size w w') (hB : B ≤ w.heap.size) : KB B w w' := ⟨h.mono hB, fun j _ _ a _ => (h.block j (Array.getElem?_eq_some_iff.1 a).1).trans a⟩
theorem KB.st {b : Nat} {cs : Array Value} (h : w.grownBy w' (some b)) (hm : w.heap[b]? = some (.cells cs 4 (0, 0))) (hB : B ≤ b) (hw : B ≤ w.heap.size) : KB B w w' :=
  ⟨bl_st (Below.refl _ _) h hw hB, fun j _ _ a h1 => tr_st h a (fun e => by
    rw [← e, hm] at a
    injection a with a
    injection a with _ a
    exact h1 a.symm)⟩
theorem owns_kb {n : Nat} {v : Value} {xs : List Value} (h : w.ownsRow B 72 2 v n xs) (hk : KB B w w') : w'.ownsRow B 72 2 v n xs := by
  obtain ⟨hl, h | ⟨k, cap, cur, hv, hkk, hc, r⟩⟩ := h
  · exact ⟨hl, .inl h⟩
  · exact ⟨hl, .inr ⟨k, cap, cur, hv, hkk, hk.ty _ _ _ hc (by decide), r⟩⟩
theorem mask_block {n g c : Nat} {xs : List Value} (h : w.ownsRow B 4 1 (.slice (some ⟨g, 0, none⟩) n c) n xs) : B ≤ g ∧ ∃ cs, w.heap[g]? = some (.cells cs 4 (0, 0)) := by
  obtain ⟨_, ⟨h, _⟩ | ⟨k, cap, cur, hv, hkk, hc, _⟩⟩ := h
  · cases h
  · injection hv with hv
    injection hv with hv
    injection hv with hv
    subst hv
    exact ⟨hkk, _, hc⟩
end
def GoesR (l : List Cl) (m : Nat) (s : List Pr) (b : Bool) : Prop := (b = true → ∃ r, OrdM l m s r) ∧ (b = false → Dead l m s)
def leftN (l : List Cl) (m k : Nat) : Bool := (List.range k).any fun i => !m.testBit i && decide (0 < (clN l i).en)
theorem leftN_succ (l : List Cl) (m k : Nat) : leftN l m (k + 1) = (leftN l m k || (!m.testBit k && decide (0 < (clN l k).en))) := by
  unfold leftN
  rw [List.range_succ, List.any_append]
  simp
def firstN (l : List Cl) (m i k : Nat) : Bool := (List.range k).all fun k => m.testBit k || (!decide (0 < (clN l k).en) || decide ((clN l i).st ≤ (clN l k).en))
theorem firstN_succ (l : List Cl) (m i k : Nat) : firstN l m i (k + 1) = (firstN l m i k && (m.testBit k || (!decide (0 < (clN l k).en) || decide ((clN l i).st ≤ (clN l k).en)))) := by
  unfold firstN
  rw [List.range_succ, List.all_append]
  simp
theorem firstN_next {l : List Cl} {m i k : Nat} {b : Bool} {en st : Int} (hb : firstN l m i k = b) (he : (clN l k).en = en) (hs : (clN l i).st = st) (hen : (en != 0) = decide (0 < en)) : firstN l m i (k + 1) = (b && (m.testBit k || !(en != 0 && decide (en < st)))) := by
  rw [firstN_succ, hb, he, hs, hen]
  by_cases h1 : 0 < en
  · by_cases h2 : en < st
    · have h3 : ¬ st ≤ en := by omega
      simp [h1, h2, h3]
    · have h3 : st ≤ en := by omega
      simp [h1, h2, h3]
  · simp [h1]
theorem clN_get {l : List Cl} {n : Nat} (h : n < l.length) : clN l n = l[n] := by
  unfold clN
  rw [List.getD_eq_getElem?_getD, List.getElem?_eq_getElem h]
  rfl
theorem Row.calln {w : World} {a : Option Addr} {l : List Cl} (h : Row w a (calls l)) {i : Nat} (hi : i < l.length) : ∃ b off, a = some ⟨b, off, none⟩ ∧ b < w.heap.size ∧ TenC w b (off + i * 10) (clN l i) := by
  rw [clN_get hi]
  exact h.call (List.getElem?_eq_getElem hi)
theorem rdo_own3 (a : Option Addr) (cap : Nat) (l : List Pr) (k : Int) (key old val : Tx) (w : World) (hs : SlP w a cap l) (hm : mayS l = true) (l' : List Pr) (err : Int) (f : Bool) (v : Tx) (hlr : doP l ⟨k, key, old, val⟩ = (l', ⟨err, f, v⟩)) :
    Calls Tryd.prog 24 #[.slice a l.length cap, .agg #[.int .u8 k, .string key, .string old, .string val]] w fun e w' => (∃ v', e = .returned (.tuple #[v', .agg #[.int .i64 err, .bool f, .string v]]) ∧ w'.ownsRow w.heap.size 72 2 v' l'.length (prs l')) ∧ Below w.heap.size w w' := by
  have hsm : ∀ p ∈ l, p.1.size ≤ 100000 := fun p hp => by
    have := ((may_spec hm).2.2 p hp).1
    unfold keyOk at this
    simp at this
    omega
  have h8 := (may_spec hm).1
  refine (rdo_any a cap l ⟨k, key, old, val⟩ w hs (by omega) hsm _ hlr).mono ?_
  rintro e w' ⟨⟨v', rfl, ho⟩, hb⟩
  exact ⟨⟨v', rfl, ho⟩, hb⟩
abbrev MRow (w : World) (B g n m : Nat) : Prop := w.ownsRow B 4 1 (.slice (some ⟨g, 0, none⟩) n n) n (inM n m)
section
variable {l : List Cl} {w0 : World} {a : Option Addr} {cap g : Nat}
set_option maxRecDepth 100000 in
set_option maxHeartbeats 8000000 in
theorem goes_any (hSl : SlC w0 a cap l) (hchk : chk l = 0) : ∀ (u m : Nat) (s : List Pr) (sv : Value) (w : World), undM l m = u → mayS s = true → w.ownsRow w0.heap.size 72 2 sv s.length (prs s) → Below w0.heap.size w0 w → MRow w w0.heap.size g l.length m →
    Calls Tryd.prog 21 #[.slice a l.length cap, .slice (some ⟨g, 0, none⟩) l.length l.length, sv] w fun e w' => ∃ b : Bool, e = .returned (.bool b) ∧ GoesR l m s b ∧ KB w0.heap.size w w' ∧ MRow w' w0.heap.size g l.length m := by
  intro u
  induction u using Nat.strongRecOn with
  | ind u IH =>
  intro m s sv w hu hm hS hb0 hM
  subst hu
  have HIH := Lib.hid IH
  have HOS := Lib.hid hm
  have hBw := hb0.size
  have hr := hSl.row
  have hle := hSl.le
  have hmx := hSl.max
  unfold maxLen at hmx
  have hl40 := chk_len hchk
  obtain ⟨sa, scap, rfl, hsl⟩ := SlP.of_owns hS
  have HSL := Lib.hid hSl
  have HCHK := Lib.hid hchk
  clear IH hm hSl hsl
  go_enter Tryd.func21, Tryd.ntmps21
  refine wp_seq_k (fun K hK => ?_)
  have HK := Lib.hid hK
  clear hK
  go_wp2
  refine HK.out _ _ ?_
  clear HK
  refine wp_seq_k (fun K hK => ?_)
  have HK := Lib.hid hK
  clear hK
  go_wp2
  refine HK.out _ _ ?_
  clear HK
  refine wp_seq_k (fun K hK => ?_)
  go_cut [7] (fun v wx => v = .bool (leftM l m) ∧ w = wx)
  case first =>
    go_wp2
    go_loop [7, 8] (fun v i => ∃ (j : Nat) (b : Bool), j ≤ l.length ∧ i = .int .i64 j ∧ v = .bool b ∧ leftN l m j = b) (fun _ i => l.length - (intOf i).toNat)
    case atStart => exact ⟨0, false, by omega, rfl, rfl, rfl⟩
    case round =>
      obtain ⟨j, b, hj, rfl, rfl, hb⟩ := hrel
      by_cases hlt : j < l.length
      · obtain ⟨bb, off, rfl, hblt, ht0⟩ := hr.calln hlt
        have c9 := (ht0.below hb0 hblt).c9
        have ex : w.cell? ⟨g, j, none⟩ = some (.bool (m.testBit j)) := by
          rw [hM.cellAt _ (by omega)]
          exact inM_at hlt
        have hs := leftN_succ l m j
        have hen := en_pos HCHK.out hlt
        rw [hb] at hs
        clear ht0 hb
        generalize clN l j = c at *
        obtain ⟨cli, op, rep, st, en⟩ := c
        simp only at c9 hs hen
        rw [← hen] at hs
        cases b
        · cases hbt : m.testBit j
          · rw [hbt] at ex hs
            cases e0 : en != 0
            · have HS : Hid (leftN l m (j + 1) = false) := Lib.hid (by rw [hs, e0]; rfl)
              clear hs hen hbt
              go_wp2
              go_round
              case rel => exact ⟨j + 1, _, by omega, by go_num, rfl, HS.out⟩
              case measure => simp [intOf]; omega
            · have HS : Hid (leftN l m (j + 1) = true) := Lib.hid (by rw [hs, e0]; rfl)
              clear hs hen hbt
              go_wp2
              go_round
              case rel => exact ⟨j + 1, _, by omega, by go_num, rfl, HS.out⟩
              case measure => simp [intOf]; omega
          · rw [hbt] at ex hs
            have HS : Hid (leftN l m (j + 1) = false) := Lib.hid (by rw [hs]; rfl)
            clear hs hen hbt
            go_wp2
            go_round
            case rel => exact ⟨j + 1, _, by omega, by go_num, rfl, HS.out⟩
            case measure => simp [intOf]; omega
        · have HS : Hid (leftN l m (j + 1) = true) := Lib.hid (by rw [hs]; rfl)
          clear hs hen
          go_wp2
          go_round
          case rel => exact ⟨j + 1, _, by omega, by go_num, rfl, HS.out⟩
          case measure => simp [intOf]; omega
      · have HF : Hid (leftM l m = b) := Lib.hid (by
          have e : j = l.length := by omega
          rw [e] at hb
          exact hb)
        clear hb
        go_wp2
        go_meet
        exact ⟨by rw [HF.out], rfl⟩
  obtain ⟨rfl, rfl⟩ := hcut
  refine hK _ _ ?_
  clear hK
  cases hlf : leftM l m
  case false =>
    have HLF := Lib.hid hlf
    clear hlf
    go_wp2
    go_ret
    exact ⟨true, rfl, ⟨fun _ => ⟨[], .nil HLF.out⟩, fun h => by cases h⟩, KB.refl _ _, hM⟩
  case true =>
  have HLF := Lib.hid hlf
  clear hlf
  refine wp_seq_k (fun K hK => ?_)
  have HK := Lib.hid hK
  clear hK
  go_wp2
  refine HK.out _ _ ?_
  clear HK
  go_wp2_with fail
  go_loopw [9] (fun i wr => ∃ k : Nat, k ≤ l.length ∧ i = .int .i64 k ∧ KB w0.heap.size w wr ∧ MRow wr w0.heap.size g l.length m ∧ wr.ownsRow w0.heap.size 72 2 (.slice sa s.length scap) s.length (prs s) ∧ Hid (∀ j, j < k → m.testBit j = false → firstOk l m j = true → repOk l s j = true → Dead l (m ||| 2 ^ j) (doP s (clN l j).op).1)) (fun i _ => l.length - (intOf i).toNat)
  case atStart => exact ⟨0, by omega, rfl, KB.refl _ _, hM, hS, Lib.hid fun j hj => absurd hj (by omega)⟩
  case round =>
    clear hM hS
    obtain ⟨k, hk, rfl, hkb, hM, hS, HD⟩ := hrel
    by_cases hlt : k < l.length
    case neg =>
      have HDD : Hid (Dead l m s) := Lib.hid (dead_step HLF.out fun i hi => HD.out i (Nat.lt_of_lt_of_le hi (by omega)))
      clear HD
      go_wp2
      go_ret
      exact ⟨false, rfl, ⟨fun h => (by cases h), fun _ => HDD.out⟩, hkb, hM⟩
    case pos =>
      have hb1 := hb0.trans hkb.bl
      have hBr := Nat.le_trans hBw hkb.bl.size
      obtain ⟨bb, off, rfl, hblt, ht0⟩ := hr.calln hlt
      have ht := ht0.below hb1 hblt
      have ex : wr.cell? ⟨g, k, none⟩ = some (.bool (m.testBit k)) := by
        rw [hM.cellAt _ (by omega)]
        exact inM_at hlt
      have HLT := Lib.hid hlt
      cases hbt : m.testBit k
      case true =>
        rw [hbt] at ex
        have HN : Hid (∀ j, j < k + 1 → m.testBit j = false → firstOk l m j = true → repOk l s j = true → Dead l (m ||| 2 ^ j) (doP s (clN l j).op).1) := Lib.hid fun j hj h1 h2 h3 => by
          by_cases e : j = k
          · subst e; rw [hbt] at h1; cases h1
          · exact HD.out j (by omega) h1 h2 h3
        clear HD hbt ht ht0
        go_wp2
        go_roundw
        case rel => exact ⟨k + 1, by omega, by go_num, hkb, hM, hS, HN⟩
        case measure => simp [intOf]; omega
      case false =>
        rw [hbt] at ex
        have HBT := Lib.hid hbt
        clear hbt
        refine wp_seq_k (fun K hK => ?_)
        have HK := Lib.hid hK
        clear hK
        go_wp2
        refine HK.out _ _ ?_
        clear HK
        refine wp_seq_k (fun K hK => ?_)
        have HK1 := Lib.hid hK
        clear hK
        refine wp_block ?_
        refine wp_seq_k (fun K hK => ?_)
        have HK := Lib.hid hK
        clear hK
        go_wp2
        refine HK.out _ _ ?_
        clear HK
        obtain ⟨wo, rfl⟩ : ∃ wo : World, wo = wr := ⟨_, rfl⟩
        refine wp_seq_k (fun K hK => ?_)
        have HK := Lib.hid hK
        clear hK
        go_wp2
        refine HK.out _ _ ?_
        clear HK
        refine wp_seq_k (fun K hK => ?_)
        go_cut [10] (fun v wx => v = .bool (firstOk l m k) ∧ Below wo.heap.size wo wx)
        case first =>
          go_wp2
          go_loopw [10, 11] (fun v t wx => ∃ (j : Nat) (b : Bool), j ≤ l.length ∧ t = .int .i64 j ∧ v = .bool b ∧ firstN l m k j = b ∧ Below wo.heap.size wo wx) (fun _ t _ => l.length - (intOf t).toNat)
          case atStart => exact ⟨0, true, by omega, rfl, rfl, rfl, Below.refl _ _⟩
          case round =>
            obtain ⟨j, b, hj, rfl, rfl, hb, hbr⟩ := hrel
            by_cases hlt2 : j < l.length
            case pos =>
              obtain ⟨bb2, off2, hbe, hblt2, ht2⟩ := hr.calln hlt2
              cases hbe
              have hbx := hb1.trans (hbr.mono hBr)
              have c9 := (ht2.below hbx hblt2).c9
              have d8 := (ht0.below hbx hblt).c8
              have M2 := owns_bl hM hbr
              have ex2 : wr.cell? ⟨g, j, none⟩ = some (.bool (m.testBit j)) := by
                rw [M2.cellAt _ (by omega)]
                exact inM_at hlt2
              have hen := en_pos HCHK.out hlt2
              have hs := firstN_next hb rfl rfl hen
              clear ht2 M2 hen hb hbx
              generalize (clN l j).en = en2 at *
              generalize (clN l k).st = st1 at *
              cases hbt2 : m.testBit j
              case true =>
                rw [hbt2] at ex2 hs
                have HS : Hid (firstN l m k (j + 1) = b) := Lib.hid (by rw [hs]; simp)
                clear hs hbt2
                go_wp2
                go_big_quiet (fail)
                go_wp2
                go_roundw
                case rel => exact ⟨j + 1, b, by omega, by go_num, rfl, HS.out, bl_tr hbr (below_drewN _ _)⟩
                case measure => simp [intOf]; omega
              case false =>
                rw [hbt2] at ex2 hs
                clear hbt2
                cases e0 : en2 != 0
                case false =>
                  rw [e0] at hs
                  have HS : Hid (firstN l m k (j + 1) = b) := Lib.hid (by rw [hs]; simp)
                  clear hs
                  go_wp2
                  go_big_quiet (fail)
                  go_wp2
                  go_roundw
                  case rel => exact ⟨j + 1, b, by omega, by go_num, rfl, HS.out, bl_tr hbr (below_drewN _ _)⟩
                  case measure => simp [intOf]; omega
                case true =>
                  rw [e0] at hs
                  cases e1 : decide (en2 < st1)
                  case false =>
                    rw [e1] at hs
                    have HS : Hid (firstN l m k (j + 1) = b) := Lib.hid (by rw [hs]; simp)
                    clear hs
                    go_wp2
                    go_big_quiet (fail)
                    go_wp2
                    go_roundw
                    case rel => exact ⟨j + 1, b, by omega, by go_num, rfl, HS.out, bl_tr hbr (below_drewN _ _)⟩
                    case measure => simp [intOf]; omega
                  case true =>
                    rw [e1] at hs
                    have HS : Hid (firstN l m k (j + 1) = false) := Lib.hid (by rw [hs]; simp)
                    clear hs
                    go_wp2
                    go_big_quiet (fail)
                    go_wp2
                    go_roundw
                    case rel => exact ⟨j + 1, false, by omega, by go_num, rfl, HS.out, bl_tr hbr (below_drewN _ _)⟩
                    case measure => simp [intOf]; omega
            case neg =>
              have HF : Hid (firstOk l m k = b) := Lib.hid (by
                have e : j = l.length := by omega
                rw [e] at hb
                exact hb)
              clear hb
              go_wp2
              go_meet
              exact ⟨by rw [HF.out], hbr⟩
        obtain ⟨rfl, hbc⟩ := hcut
        refine hK _ _ ?_
        clear hK
        have hk2 := hkb.trans (KB.of hbc hBr)
        have M2 := owns_bl hM hbc
        have S2 := owns_bl hS hbc
        have hb2 := hb1.trans (hbc.mono hBr)
        have hB2 := Nat.le_trans hBw hk2.bl.size
        clear hkb hM hS hb1 hbc ht ex
        cases hfo : firstOk l m k
        case false =>
          have HN : Hid (∀ j, j < k + 1 → m.testBit j = false → firstOk l m j = true → repOk l s j = true → Dead l (m ||| 2 ^ j) (doP s (clN l j).op).1) := Lib.hid fun j hj h1 h2 h3 => by
            by_cases e : j = k
            · subst e; rw [hfo] at h2; cases h2
            · exact HD.out j (by omega) h1 h2 h3
          clear HD hfo
          go_wp2
          (try simp only [Exit.inBlock, Exit.then])
          refine HK1.out _ _ ?_
          go_wp2
          go_roundw
          case rel => exact ⟨k + 1, by omega, by go_num, hk2, M2, S2, HN⟩
          case measure => simp [intOf]; omega
        case true =>
          have HFO := Lib.hid hfo
          clear hfo
          refine wp_seq_k (fun K hK => ?_)
          have HK := Lib.hid hK
          clear hK
          go_wp2
          refine HK.out _ _ ?_
          clear HK
          obtain ⟨c0, c1, c2, c3, c4, c5, c6, c7, c8, c9⟩ := ht0.below hb2 hblt
          have hen := en_pos HCHK.out HLT.out
          obtain ⟨c, hc⟩ : ∃ c, clN l k = c := ⟨_, rfl⟩
          rw [hc] at c1 c2 c3 c4 ht0 hen
          have hrk : repOk l s k = (!(c.en != 0) || rpEq (doP s c.op).2 c.rep) := by unfold repOk; rw [hc, hen]
          have hdk : (doP s (clN l k).op).1 = (doP s c.op).1 := by rw [hc]
          have hmk : mayS (doP s c.op).1 = true := doP_may c.op HOS.out
          clear hc hen c0 c5 c6 c7 c8 c9
          obtain ⟨cli, ⟨kd, key, old, val⟩, ⟨er, fo, va⟩, st, en⟩ := c
          simp only at c1 c2 c3 c4 hrk hdk hmk
          obtain ⟨ls', ⟨er', fo', va'⟩, hd⟩ : ∃ (l' : List Pr) (r : Rp), doP s ⟨kd, key, old, val⟩ = (l', r) := ⟨_, _, rfl⟩
          rw [hd] at hrk hdk hmk
          simp only at hrk hdk hmk
          obtain ⟨sa', scap', hse, hsl⟩ := SlP.of_owns S2
          injection hse with e1 e2 e3
          subst e1 e3
          have hdo := rdo_own3 sa scap s kd key old val wc hsl HOS.out _ _ _ _ hd
          have HRK := Lib.hid hrk
          have HDK := Lib.hid hdk
          have HMK := Lib.hid hmk
          clear hrk hdk hmk hd hsl e2
          refine wp_seq_k (fun K hK => ?_)
          have HK := Lib.hid hK
          clear hK
          go_wp2_with (go_at_call 24; refine hdo.mono ?_; rintro e w6 ⟨⟨v6, rfl, hO6⟩, hb6⟩)
          refine HK.out _ _ ?_
          clear HK
          have hz6 := heap_alloc_new w6 (Obj.cells #[.int .i64 er', .bool fo', .string va'] 36)
          have hb7 := hb6.trans ((blw1 w6 (Obj.cells #[.int .i64 er', .bool fo', .string va'] 36)).mono hb6.size)
          have hO7 := owns_mono (hO6.alloc (.cells #[.int .i64 er', .bool fo', .string va'] 36)) hB2
          clear c1 c2 c3 c4 hO6 hb6 hdo
          generalize w6.alloc (Obj.cells #[.int .i64 er', .bool fo', .string va'] 36) = w7 at *
          generalize w6.heap.size = q6 at *
          have k7 := hk2.trans (KB.of hb7 hB2)
          have M7 := owns_bl M2 hb7
          have S7 := owns_bl S2 hb7
          have hb0' := hb2.trans (hb7.mono hB2)
          have hB7 := Nat.le_trans hBw k7.bl.size
          obtain ⟨c0, c1, c2, c3, c4, c5, c6, c7, c8, c9⟩ := ht0.below hb0' hblt
          simp only at c5 c6 c7 c9
          have z0 := blk_cell hz6 0 (.int .i64 er') rfl
          have z1 := blk_cell hz6 1 (.bool fo') rfl
          have z2 := blk_cell hz6 2 (.string va') rfl
          clear hk2 M2 S2 hb2 hb7 hB2 c0 c1 c2 c3 c4 c8 hz6
          obtain ⟨rk, hrke⟩ : ∃ b, repOk l s k = b := ⟨_, rfl⟩
          have HRE := Lib.hid hrke
          clear hrke
          have HNR : rk = false → Hid (∀ j, j < k + 1 → m.testBit j = false → firstOk l m j = true → repOk l s j = true → Dead l (m ||| 2 ^ j) (doP s (clN l j).op).1) := fun h0 => Lib.hid fun j hj h1 h2 h3 => by
            by_cases e : j = k
            · subst e; rw [HRE.out, h0] at h3; cases h3
            · exact HD.out j (by omega) h1 h2 h3
          refine wp_seq_k (fun K hK => ?_)
          go_cut [] (fun wx => rk = true ∧ Below w7.heap.size w7 wx)
          case first =>
            cases e0 : en != 0
            case false =>
              have HR : Hid (rk = true) := Lib.hid (by rw [← HRE.out, HRK.out, e0]; rfl)
              go_wp2
              go_big_quiet (fail)
              go_wp2
              go_meet
              exact ⟨HR.out, below_drewN _ _⟩
            case true =>
              by_cases y1 : er' = er
              · by_cases y2 : fo' = fo
                · by_cases y3 : va' = va
                  · have HR : Hid (rk = true) := Lib.hid (by rw [← HRE.out, HRK.out]; simp [rpEq, y1, y2, y3])
                    subst y1 y2 y3
                    go_wp2
                    go_big_quiet (fail)
                    go_wp2
                    go_meet
                    exact ⟨HR.out, below_drewN _ _⟩
                  · have y3b : (va'.toList == va.toList) = false := by rw [tx_eq]; exact decide_eq_false y3
                    have HR : Hid (rk = false) := Lib.hid (by rw [← HRE.out, HRK.out, e0]; simp [rpEq, y3b])
                    subst y1 y2
                    clear y3
                    go_wp2
                    go_big_quiet (fail)
                    go_wp2
                    (try simp only [Exit.inBlock, Exit.then])
                    refine HK1.out _ _ ?_
                    go_wp2
                    go_roundw
                    case rel => exact ⟨k + 1, by omega, by go_num, k7.trans (KB.of (below_drewN _ _) hB7), owns_bl M7 (below_drewN _ _), owns_bl S7 (below_drewN _ _), HNR HR.out⟩
                    case measure => simp [intOf]; omega
                · have HR : Hid (rk = false) := Lib.hid (by rw [← HRE.out, HRK.out, e0]; simp [rpEq, y2])
                  have y2b : (fo' == fo) = false := beq_eq_false_iff_ne.2 y2
                  clear y2
                  subst y1
                  go_wp2
                  go_big_quiet (fail)
                  go_wp2
                  (try simp only [Exit.inBlock, Exit.then])
                  refine HK1.out _ _ ?_
                  go_wp2
                  go_roundw
                  case rel => exact ⟨k + 1, by omega, by go_num, k7.trans (KB.of (below_drewN _ _) hB7), owns_bl M7 (below_drewN _ _), owns_bl S7 (below_drewN _ _), HNR HR.out⟩
                  case measure => simp [intOf]; omega
              · have HR : Hid (rk = false) := Lib.hid (by rw [← HRE.out, HRK.out, e0]; simp [rpEq, y1])
                have y1b : (er' == er) = false := beq_eq_false_iff_ne.2 y1
                clear y1
                go_wp2
                go_big_quiet (fail)
                go_wp2
                (try simp only [Exit.inBlock, Exit.then])
                refine HK1.out _ _ ?_
                go_wp2
                go_roundw
                case rel => exact ⟨k + 1, by omega, by go_num, k7.trans (KB.of (below_drewN _ _) hB7), owns_bl M7 (below_drewN _ _), owns_bl S7 (below_drewN _ _), HNR HR.out⟩
                case measure => simp [intOf]; omega
          obtain ⟨rfl, hb8⟩ := hcut
          refine hK _ _ ?_
          clear hK
          have k8 := k7.trans (KB.of hb8 hB7)
          have M8 := owns_bl M7 hb8
          have S8 := owns_bl S7 hb8
          have O8 := owns_bl hO7 hb8
          have hB8 := Nat.le_trans hBw k8.bl.size
          clear k7 M7 S7 hO7 hb8 hB7 c7 c9 z0 z1 z2 HNR HRK hb0'
          have ex8 : wc.cell? ⟨g, k, none⟩ = some (.bool false) := by
            have h := inM_at (m := m) HLT.out
            rw [HBT.out] at h
            rw [M8.cellAt _ (by have := HLT.out; omega)]
            exact h
          have fx8 : wc.frozen? ⟨g, k, none⟩ = false := M8.frozenAt _
          obtain ⟨hBg, cs8, hm8⟩ := mask_block M8
          have hst8 := (M8.stored k (.bool true)).1
          rw [inM_set1 HLT.out] at hst8
          have g9 : wc.grownBy (wc.setCell ⟨g, k, none⟩ (.bool true)) (some g) := gb_setCell (World.grownBy.refl _ _) (.inl rfl) _
          have k9 := KB.st g9 hm8 hBg hB8
          refine wp_seq_k (fun K hK => ?_)
          have HK := Lib.hid hK
          clear hK
          go_wp2
          refine HK.out _ _ ?_
          clear HK
          clear ex8 fx8 hm8 M8 g9
          generalize wc.setCell ⟨g, k, none⟩ (.bool true) = w9 at *
          have S9 := owns_kb S8 k9
          have O9 := owns_kb O8 k9
          have k90 := k8.trans k9
          have hu : undM l (m ||| 2 ^ k) < undM l m := by have := und_or HLT.out HBT.out; omega
          have hrec := HIH.out _ hu (m ||| 2 ^ k) ls' v6 w9 rfl HMK.out O9 (hb0.trans k90.bl) hst8
          clear S8 O8 k8 k9 hst8 O9 hu
          refine wp_seq_k (fun K hK => ?_)
          have HK := Lib.hid hK
          clear hK
          go_wp2_with (go_at_call 21; refine hrec.mono ?_; rintro e w10 ⟨b, rfl, hG, k10, M10⟩)
          refine HK.out _ _ ?_
          clear HK
          have HG := Lib.hid hG
          have S10 := owns_kb S9 k10
          have k100 := k90.trans k10
          have hB10 := Nat.le_trans hBw k100.bl.size
          clear hG hrec S9 k90 k10
          have ex10 : w10.cell? ⟨g, k, none⟩ = some (.bool true) := by
            have h := inM_at (m := m ||| 2 ^ k) HLT.out
            rw [mbit_or, decide_eq_true rfl, Bool.or_true] at h
            rw [M10.cellAt _ (by have := HLT.out; omega)]
            exact h
          have fx10 : w10.frozen? ⟨g, k, none⟩ = false := M10.frozenAt _
          obtain ⟨_, cs10, hm10⟩ := mask_block M10
          have M11 := (M10.stored k (.bool false)).1
          rw [inM_set0 HLT.out HBT.out] at M11
          have g11 : w10.grownBy (w10.setCell ⟨g, k, none⟩ (.bool false)) (some g) := gb_setCell (World.grownBy.refl _ _) (.inl rfl) _
          have k11 := k100.trans (KB.st g11 hm10 hBg hB10)
          have S11 := owns_kb S10 (KB.st g11 hm10 hBg hB10)
          refine wp_seq_k (fun K hK => ?_)
          have HK := Lib.hid hK
          clear hK
          go_wp2
          refine HK.out _ _ ?_
          clear HK
          clear ex10 fx10 hm10 M10 g11 S10 k100 hB10
          generalize w10.setCell ⟨g, k, none⟩ (.bool false) = w11 at *
          cases b
          case true =>
            go_wp2
            go_ret
            refine ⟨true, rfl, ⟨fun _ => ?_, fun h => (by cases h)⟩, k11, M11⟩
            obtain ⟨r, hr2⟩ := HG.out.1 rfl
            rw [← HDK.out] at hr2
            exact ⟨_, .cons k HLF.out HLT.out HBT.out HFO.out HRE.out hr2⟩
          case false =>
            have HN : Hid (∀ j, j < k + 1 → m.testBit j = false → firstOk l m j = true → repOk l s j = true → Dead l (m ||| 2 ^ j) (doP s (clN l j).op).1) := Lib.hid fun j hj h1 h2 h3 => by
              by_cases e : j = k
              · subst e
                rw [HDK.out]
                exact HG.out.2 rfl
              · exact HD.out j (by omega) h1 h2 h3
            clear HG HD HRE
            go_wp2
            (try simp only [Exit.inBlock, Exit.then])
            refine HK1.out _ _ ?_
            go_wp2
            go_roundw
            case rel => exact ⟨k + 1, by omega, by go_num, k11, M11, S11, HN⟩
            case measure => simp [intOf]; omega
end
end Go.Proofs.YtaojblejnpemkaaDoor
namespace Go.Proofs.YtaojblejnpemkaaDoor
open Go.RowKit Go.Maps
def OrdR (l : List Cl) (b : Bool) : Prop := (chk l ≠ 0 ∧ b = false) ∨ (chk l = 0 ∧ GoesR l 0 [] b)
def FindQ (l : List Cl) (q : List Int) (b : Bool) : Prop := FindP l q b ∧ (b = false → q = [])
theorem ord_agree {l : List Cl} {q : List Int} {b b2 : Bool} (h : FindQ l q b) (h2 : OrdR l b2) : b = b2 := by
  rcases h.1 with ⟨h1, rfl⟩ | ⟨h1, rfl, h3⟩ | ⟨h1, rfl, h3⟩
  · rcases h2 with ⟨_, rfl⟩ | ⟨h4, _⟩
    · rfl
    · exact absurd h4 h1
  · rcases h2 with ⟨h4, _⟩ | ⟨_, h4⟩
    · exact absurd h1 h4
    · cases b2
      · obtain ⟨r, hr⟩ := ord_exists h1 h3
        exact absurd hr (h4.2 rfl r)
      · rfl
  · rcases h2 with ⟨h4, _⟩ | ⟨_, h4⟩
    · exact absurd h1 h4
    · cases b2
      · rfl
      · obtain ⟨r, hr⟩ := h4.1 rfl
        have := hr.holds h1
        rw [h3 r] at this
        cases this
set_option maxRecDepth 100000 in
set_option maxHeartbeats 4000000 in
theorem rorder_any (a : Option Addr) (cap : Nat) (l : List Cl) (w : World) (hs : SlC w a cap l) :
    Calls Tryd.prog 10 #[.slice a l.length cap] w fun e w' => (∃ b : Bool, e = .returned (.tuple #[.bool b, .int .i64 (chk l)]) ∧ OrdR l b) ∧ Below w.heap.size w w' := by
  obtain ⟨c, hc⟩ : ∃ c, chk l = c := ⟨_, rfl⟩
  have hce := rcheck_zero a cap l w hs c hc
  by_cases h0 : c = 0
  case neg =>
    go_enter Tryd.func10, Tryd.ntmps10
    refine wp_seq_k (fun K hK => ?_)
    have HK := Lib.hid hK
    clear hK
    go_wp2
    refine HK.out _ _ ?_
    clear HK
    refine wp_seq_k (fun K hK => ?_)
    have HK := Lib.hid hK
    clear hK
    go_wp2_with (go_at_call 20; refine hce.mono ?_; rintro e w1 ⟨rfl, hb1⟩)
    refine HK.out _ _ ?_
    clear HK
    have hcb : (c != 0) = true := bne_iff_ne.2 h0
    have HOR : Hid (OrdR l false ∧ chk l = c) := Lib.hid ⟨.inl ⟨by rw [hc]; exact h0, rfl⟩, hc⟩
    clear hc h0
    go_wp2
    go_ret2
    exact ⟨⟨false, by rw [HOR.out.2]; rfl, HOR.out.1⟩, hb1⟩
  case pos =>
    subst h0
    have hl40 := chk_len hc
    have HC := Lib.hid hc
    clear hc
    have hmk := make_bools l.length (by omega)
    go_enter Tryd.func10, Tryd.ntmps10
    refine wp_seq_k (fun K hK => ?_)
    have HK := Lib.hid hK
    clear hK
    go_wp2
    refine HK.out _ _ ?_
    clear HK
    refine wp_seq_k (fun K hK => ?_)
    have HK := Lib.hid hK
    clear hK
    go_wp2_with (go_at_call 20; refine hce.mono ?_; rintro e w1 ⟨rfl, hb1⟩)
    refine HK.out _ _ ?_
    clear HK
    refine wp_seq_k (fun K hK => ?_)
    have HK := Lib.hid hK
    clear hK
    go_wp2
    refine HK.out _ _ ?_
    clear HK
    have hs1 := hs.below hb1
    have hg0 := heap_alloc_new w1 (Obj.cells (inV l.length []).toArray 4)
    have hb2 := blw1 w1 (Obj.cells (inV l.length []).toArray 4)
    have hrec : Calls Tryd.prog 21 #[.slice a l.length cap, .slice (some ⟨w1.heap.size, 0, none⟩) l.length l.length, .slice none 0 0] (w1.alloc (Obj.cells (inV l.length []).toArray 4)) _ :=
      goes_any hs1 HC.out (undM l 0) 0 [] (.slice none 0 0) (w1.alloc (Obj.cells (inV l.length []).toArray 4)) rfl may_nil (World.ownsRow_nil _ _ _ _) hb2 (by
        unfold MRow
        rw [inM_zero]
        exact owns_of_cur hg0 (Nat.le_refl _) (Nat.le_refl _) (by unfold maxLen; omega) (by simp [inV]) (by rw [List.take_of_length_le (by simp [inV])]))
    clear hg0 hs hs1 hce
    go_wp2_with (go_at_call 21; refine hrec.mono ?_; rintro e w3 ⟨b, rfl, hG, k3, _⟩; have HG := Lib.hid hG; clear hG)
    go_ret2
    exact ⟨⟨b, by rw [HC.out]; rfl, .inr ⟨HC.out, HG.out⟩⟩, hb1.trans ((hb2.trans k3.bl).mono hb1.size)⟩
theorem calls_oneC {m : List Cl} : ∀ u ∈ calls m, u.oneCell' = true := by
  intro u hu
  unfold calls at hu
  obtain ⟨c, _, hc⟩ := List.mem_flatMap.1 hu
  exact (clv_new c).2.2 u hc
set_option maxRecDepth 100000 in
set_option maxHeartbeats 4000000 in
theorem rcopyC_any (a : Option Addr) (cap : Nat) (l : List Cl) (w : World) (hl : l.length ≤ 60) (hs : SlC w a cap l) :
    Calls Tryd.prog 9 #[.slice a l.length cap] w fun e w' => (∃ v, e = .returned v ∧ w'.ownsRow w.heap.size 38 10 v l.length (calls l)) ∧ Below w.heap.size w w' := by
  have hr := hs.row
  go_enter Tryd.func9, Tryd.ntmps9
  refine wp_seq_k (fun K hK => ?_)
  have HK := Lib.hid hK
  clear hK
  go_wp2
  refine HK.out _ _ ?_
  clear HK
  refine wp_seq_k (fun K hK => ?_)
  have HK := Lib.hid hK
  clear hK
  go_wp2
  refine HK.out _ _ ?_
  clear HK
  refine wp_seq_k (fun K hK => ?_)
  have HK := Lib.hid hK
  clear hK
  go_wp2_with (at_builtin; refine wpList_append_row rfl _ _ 22 38 elCallL rfl w.heap.size (.slice none 0 0) 0 [] rfl (World.ownsRow_nil _ _ _ _) a l.length cap (calls l) rfl (by rw [calls_len]; omega) hr calls_oneC (by omega) (by decide) (Nat.le_refl _) ?_; intro v1 w1 hO1 hb1)
  refine HK.out _ _ ?_
  clear HK
  rw [List.nil_append, Nat.zero_add] at hO1
  go_wp2
  go_ret
  exact ⟨⟨_, rfl, hO1⟩, hb1⟩
section
variable {T : Lib.PrintTabs} {l : List Cl} {w : World} {a : Option Addr} {cap : Nat} {G : Nat → Nat}
set_option maxRecDepth 100000 in
set_option maxHeartbeats 8000000 in
theorem lfind_any2 (hT : Tabs T w) (hs : SlC w a cap l) (hG : Grow l G) (hn : chk l = 0 → G l.length ≤ 4611686018427387904) :
    Calls Tryd.prog 12 #[.slice a l.length cap] w fun e w' => (∃ (rv : Value) (q : List Int) (b : Bool), e = .returned (.tuple #[rv, .bool b, .int .i64 (chk l)]) ∧ w'.ownsRow w.heap.size 3 1 rv q.length (q.map (Value.int .i64)) ∧ FindQ l q b) ∧ Below w.heap.size w w' := by
  obtain ⟨c, hc⟩ : ∃ c, chk l = c := ⟨_, rfl⟩
  have hce := check_zero a cap l w hs c hc
  have hmm := @run_makeMap Tryd.prog
  by_cases h0 : c = 0
  case neg =>
    go_enter Tryd.func12, Tryd.ntmps12
    refine wp_seq_k (fun K hK => ?_)
    have HK := Lib.hid hK
    clear hK
    go_wp2
    refine HK.out _ _ ?_
    clear HK
    go_wp2_with (go_at_call 22; refine hce.mono ?_; rintro e w1 ⟨rfl, hb1⟩)
    (try simp only [Exit.noGoto])
    go_ret3
    exact ⟨⟨_, [], false, by rw [hc]; rfl, World.ownsRow_nil _ _ _ _, .inl ⟨by rw [hc]; exact h0, rfl⟩, fun _ => rfl⟩, hb1⟩
  case pos =>
    subst h0
    replace hn := hn hc
    go_enter Tryd.func12, Tryd.ntmps12
    refine wp_seq_k (fun K hK => ?_)
    have HK := Lib.hid hK
    clear hK
    go_wp2
    refine HK.out _ _ ?_
    clear HK
    refine wp_seq_k (fun K hK => ?_)
    have HK := Lib.hid hK
    clear hK
    go_wp2_with (go_at_call 22; refine hce.mono ?_; rintro e w1 ⟨rfl, hb1⟩)
    refine HK.out _ _ ?_
    clear HK
    refine wp_seq_k (fun K hK => ?_)
    have HK := Lib.hid hK
    clear hK
    go_wp2
    refine HK.out _ _ ?_
    clear HK
    have hT1 := hT.below hb1
    have hs1 := hs.below hb1
    have OM := World.ownsMap_made (H := Unit) w1 Tryd.prog 79 (plainElem Tryd.prog 3)
    have bx := heap_alloc_new (w1.alloc (.map #[] 0)) (Obj.cells #[.slice a l.length cap, .map (some w1.heap.size), .slice none 0 0] 65)
    have hb2 := (blw w1 (Obj.map #[] 0)).trans ((blw (w1.alloc (.map #[] 0)) (Obj.cells #[.slice a l.length cap, .map (some w1.heap.size), .slice none 0 0] 65)).mono (by simp))
    rw [show (w1.alloc (.map #[] 0)).heap.size = w1.heap.size + 1 by simp] at bx
    have hsz : w1.heap.size + 1 < ((w1.alloc (.map #[] 0)).alloc (Obj.cells #[.slice a l.length cap, .map (some w1.heap.size), .slice none 0 0] 65)).heap.size := by simp
    have I : SIn T l w1 a cap (w1.heap.size + 1) w1.heap.size ((w1.alloc (.map #[] 0)).alloc (Obj.cells #[.slice a l.length cap, .map (some w1.heap.size), .slice none 0 0] 65)) (.slice none 0 0) [] 0 (.map []) :=
      ⟨bx, World.ownsRow_nil _ _ _ _, OM.alloc _, ones_nil T, hb2, Nat.le_succ _, Nat.le_refl _⟩
    have hrec := from_any hT1 hs1 hc hG l.length 0 [] [] 0 (.map []) (.slice none 0 0) (.slice none 0 0) _ (undM_zero l) (by decide) (show mayS [] = true from rfl) I (World.ownsRow_nil _ _ _ _) (known_nil T l _) (by omega) (by have := chk_len hc; simp; omega)
    clear OM bx I hce hmm
    generalize (w1.alloc (.map #[] 0)).alloc (Obj.cells #[.slice a l.length cap, .map (some w1.heap.size), .slice none 0 0] 65) = w2 at *
    generalize w1.heap.size + 1 = xb at *
    rw [show ((0 : Nat) : Int) = 0 from rfl] at hrec
    refine wp_seq_k (fun K hK => ?_)
    have HK3 := Lib.hid hK
    clear hK hsz hn hG
    have HB1 := Lib.hid hb1
    have HB2 := Lib.hid hb2
    clear hb1 hb2
    go_wp2_with (go_at_call 23; refine hrec.mono ?_; rintro e w3 ⟨b', q3, n3, D3, rv3, rfl, I3, k3, hn3, hres⟩; have HRS := Lib.hid hres; clear hres hn3 hrec; obtain ⟨r3b, r3c, rfl⟩ := row_slice I3.row; cases b')
    · go_ret3
      have hd := (HRS.out.2 rfl).2.2.2
      refine ⟨⟨_, [], false, by rw [hc]; rfl, World.ownsRow_nil _ _ _ _, .inr (.inr ⟨hc, rfl, fun r => ?_⟩), fun _ => rfl⟩, HB1.out.trans ((HB2.out.trans k3.bl).mono HB1.out.size)⟩
      cases h : holdsP l r
      · rfl
      · obtain ⟨r', h'⟩ := ord_exists hc h
        exact absurd h' (hd r')
    · refine HK3.out _ _ ?_
      clear HK3
      have c2 := I3.c2
      go_wp2
      (try simp only [Exit.noGoto])
      go_ret3
      obtain ⟨r', e3, ho⟩ := HRS.out.1 rfl
      refine ⟨⟨_, q3, true, by rw [hc]; rfl, owns_mono I3.row HB1.out.size, .inr (.inl ⟨hc, rfl, ?_⟩), fun h => by cases h⟩, HB1.out.trans ((HB2.out.trans k3.bl).mono HB1.out.size)⟩
      rw [List.nil_append] at e3
      subst e3
      exact ho.holds hc
set_option maxRecDepth 100000 in
theorem order_any2 (hT : Tabs T w) (hs : SlC w a cap l) (hG : Grow l G) (hn : chk l = 0 → G l.length ≤ 4611686018427387904) :
    Calls Tryd.prog 11 #[.slice a l.length cap] w fun e w' => (∃ (q : List Int) (b : Bool), e = .returned (.tuple #[.bool b, .int .i64 (chk l)]) ∧ FindQ l q b) ∧ Below w.heap.size w w' := by
  have hfi := lfind_any2 hT hs hG hn
  go_enter Tryd.func11, Tryd.ntmps11
  refine wp_seq_k (fun K hK => ?_)
  have HK := Lib.hid hK
  clear hK
  go_wp2
  refine HK.out _ _ ?_
  clear HK
  refine wp_seq_k (fun K hK => ?_)
  have HK := Lib.hid hK
  clear hK
  go_wp2_with (go_at_call 12; refine hfi.mono ?_; rintro e w1 ⟨⟨rv, q, b, rfl, _, hf⟩, hb1⟩)
  refine HK.out _ _ ?_
  clear HK
  go_wp2
  go_ret2
  exact ⟨⟨q, b, rfl, hf⟩, hb1⟩
end
end Go.Proofs.YtaojblejnpemkaaDoor
