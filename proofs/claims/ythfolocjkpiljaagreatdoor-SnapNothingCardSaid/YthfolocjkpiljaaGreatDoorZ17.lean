/- Texts that the claim leans on, part 17: G5, G6, G7, S28, OF. -/
import Derived.Test.YthfolocjkpiljaaGreatDoorZ1
import Derived.Test.YthfolocjkpiljaaGreatDoorZ2
import Derived.Test.YthfolocjkpiljaaGreatDoorZ3
import Derived.Test.YthfolocjkpiljaaGreatDoorZ4
import Derived.Test.YthfolocjkpiljaaGreatDoorZ5
import Derived.Test.YthfolocjkpiljaaGreatDoorZ6
import Derived.Test.YthfolocjkpiljaaGreatDoorZ7
import Derived.Test.YthfolocjkpiljaaGreatDoorZ8
import Derived.Test.YthfolocjkpiljaaGreatDoorZ9
import Derived.Test.YthfolocjkpiljaaGreatDoorZ10
import Derived.Test.YthfolocjkpiljaaGreatDoorZ11
import Derived.Test.YthfolocjkpiljaaGreatDoorZ12
import Derived.Test.YthfolocjkpiljaaGreatDoorZ13
import Derived.Test.YthfolocjkpiljaaGreatDoorZ14
import Derived.Test.YthfolocjkpiljaaGreatDoorZ15
import Derived.Test.YthfolocjkpiljaaGreatDoorZ16
import Derived.Test.YthfolocjkpiljaaGreatDoorRows
import Derived.WalkKit
import Derived.WalkSpells
import Derived.WalkLawsBesides
import Derived.Handy
import Derived.Deep.QuietTactic
import Derived.BigQuiet
import Derived.Deep.DeepCutAuto
import Derived.Lib.Hide
import Derived.RegionTactic
import Derived.ChangeAlike
import Derived.Shelf.Abstract
import Derived.Shelf.RegionOpen
import Derived.OwnWalkIn
import Derived.TacticsInMore
import Derived.LoopNIn
import Derived.LoopIn
import Derived.Laws.ResultCell
import Derived.Outline
import Derived.IntWalk
import Derived.Deep.Slices
import Derived.Maps.AppendAt
import Derived.Lib.SliceRun
import Derived.Laws.IdiomStrings
import Derived.Laws.BytesArg
import Derived.Carry
import Derived.Maps.Own
import Derived.Maps.Keyed
import Derived.RangeFuncNested
import Derived.RangeFuncBound
import Derived.RangeFuncCalls
import Derived.RangeFuncLeaves
import Derived.RangeFuncBox
import Derived.RangeFuncRecord
import Derived.OrdersIn
import Derived.OrdersHeld
import Derived.Laws.MakeOwn
import Derived.Laws.BitsAllLaws
import Derived.Great.BuildSlice
import Derived.Great.FillDense
import Derived.Laws.Rows
import Derived.Deep.Quiet
import Derived.Deep.RegionHeld3
import Derived.ProofKit
import Derived.OpenShut
import Derived.Laws.CopyOwn
import Derived.Laws.CopyRow
import Derived.Laws.NewBlocks
import Derived.Deep.RegionLaw
import Derived.ChangeSlices
import Derived.Lib.SmallJoins
namespace Go.Proofs.YthfolocjkpiljaaGreatDoor
open Go.RowKit Go.Shelf

attribute [local go_sem] Oper.semAt_some

theorem DiskB.dn {B g gp : Nat} {wv : Value} {d : Dk} {w : World} (h : DiskB B g gp wv d w) : DiskN w (.pointer (some ⟨g, 0, none⟩)) d.pl.length := .inr ⟨g, _, _, rfl, h.c0⟩
theorem tg_new (t : Tg) : (tgV t).cells = #[.int .i64 t.rep, .int .i64 t.reg, .int .i64 t.pla, .int .i64 t.idx, .int .i64 t.inc] ∧ (#[Value.int .i64 t.rep, .int .i64 t.reg, .int .i64 t.pla, .int .i64 t.idx, .int .i64 t.inc]).size = 5 ∧ ∀ u ∈ (#[Value.int .i64 t.rep, .int .i64 t.reg, .int .i64 t.pla, .int .i64 t.idx, .int .i64 t.inc]).toList, u.oneCell' = true := ⟨rfl, rfl, by simp [Value.oneCell']⟩
theorem restD_len {B g gp : Nat} {wv : Value} {d : Dk} {w : World} (h : DiskB B g gp wv d w) (s : Int) : (restD d s).1.length ≤ 64 := by
  unfold restD
  split
  · simp
  · rename_i h0
    split
    · simp
    · obtain ⟨p, _, h2, h3⟩ := there_pl (d := d) (s := s) (by simpa using h0)
      rw [h2]
      have := (h.ok p h3).1
      simp only
      omega
theorem allR_len {B g gp : Nat} {wv : Value} {d : Dk} {w : World} (h : DiskB B g gp wv d w) (a n : Nat) : (allR d a n).length ≤ 64 * n := by
  induction n with
  | zero => simp [allR, allG]
  | succ n ih =>
    unfold allR at ih ⊢
    rw [allG_succ, List.length_append]
    have := restD_len h ((a + n : Nat) : Int)
    (try simp only)
    omega
set_option maxRecDepth 100000 in
theorem place_err (p : Value) (n : Nat) (w : World) (h : DiskN w p n) (rep reg pla : Int) (ha : askN n rep reg pla ≠ 0) : Calls Tryz.prog 20 #[p, .int .i64 rep, .int .i64 reg, .int .i64 pla] w fun e w' => e = .returned (.tuple #[.bool false, .bool false, .int .i64 (askN n rep reg pla)]) ∧ Below w.heap.size w w' := by
  have hk := asked_any p n w h rep reg pla
  generalize askN n rep reg pla = x at *
  have e0 : (x != 0) = true := by rw [bne_iff_ne]; exact ha
  refine calls_marks Tryz.func20 rfl ?_
  simp only [Tryz.ntmps20, List.size_toArray, List.length_cons, List.length_nil, Nat.reduceAdd, Nat.reduceSub, Array.replicate_succ, Array.replicate_zero, List.push_toArray, List.append_toArray, List.nil_append, List.cons_append]
  go_wp2_with (go_at_call 95; refine hk.mono ?_; rintro e w1 ⟨rfl, hb1⟩)
  refine marks_end (results_tmp3 rfl _ _ _) ?_
  exact ⟨rfl, hb1⟩
set_option maxRecDepth 100000 in
set_option maxHeartbeats 2000000 in
theorem place_ok {B g gp : Nat} {wv : Value} {d : Dk} {w : World} (h : DiskB B g gp wv d w) (rep reg pla : Int) (ha : askG d rep reg pla = 0) : Calls Tryz.prog 20 #[.pointer (some ⟨g, 0, none⟩), .int .i64 rep, .int .i64 reg, .int .i64 pla] w fun e w' => e = .returned (.tuple #[.bool (placeG d rep reg pla).1, .bool (placeG d rep reg pla).2.1, .int .i64 (placeG d rep reg pla).2.2]) ∧ Below w.heap.size w w' := by
  have hfa := ask_first ha
  have hk := asked_any _ _ w h.dn rep reg pla
  have hfi := first_any reg pla
  have hwi := wide_any reg
  unfold placeG
  rw [if_neg (by simpa using ha)]
  unfold askG at ha
  rw [ha] at hk
  obtain ⟨f, hf⟩ : ∃ f : Nat, firstN reg pla = f := ⟨(firstN reg pla).toNat, by omega⟩
  obtain ⟨n, hn⟩ : ∃ n : Nat, wideN reg = n := ⟨(wideN reg).toNat, by omega⟩
  rw [hf] at hfi hfa ⊢
  rw [hn] at hwi hfa ⊢
  simp only [Int.toNat_natCast]
  obtain ⟨_, hp1, hp2, _, _, _, _, _, hfn, hn1, hn2⟩ := hfa
  have hfn' : f + n ≤ 156 := by omega
  have hn2' : n ≤ 2 := by omega
  clear ha hf hn hfn hn2
  obtain ⟨st, tg, body, hr⟩ : ∃ st tg body, mineF (allR d f n) rep reg pla = (st, tg, body) := ⟨_, _, _, rfl⟩
  obtain ⟨go, hgo⟩ : ∃ go, goneG d f n = go := ⟨_, rfl⟩
  simp only [hr, hgo]
  have HR := Lib.hid hr
  have HGO := Lib.hid hgo
  clear hr hgo
  by_cases hL : hurtsL d f (f + n) = []
  case pos =>
    have hH : isHurt d f n = false := by unfold isHurt; rw [hL]; rfl
    rw [hH, Bool.false_and]
    clear hH
    refine calls_marks Tryz.func20 rfl ?_
    simp only [Tryz.ntmps20, List.size_toArray, List.length_cons, List.length_nil, Nat.reduceAdd, Nat.reduceSub, Array.replicate_succ, Array.replicate_zero, List.push_toArray, List.append_toArray, List.nil_append, List.cons_append]
    refine wp_seq_k (fun K hK => ?_)
    have HK := Lib.hid hK
    clear hK
    go_wp2
    refine HK.out _ _ ?_
    clear HK
    refine wp_seq_k (fun K hK => ?_)
    have HK := Lib.hid hK
    clear hK
    go_wp2_with (go_at_call 95; refine hk.mono ?_; rintro e w1 ⟨rfl, hb1⟩)
    refine HK.out _ _ ?_
    clear HK
    refine wp_seq_k (fun K hK => ?_)
    have HK := Lib.hid hK
    clear hK
    go_wp2_with (go_at_call 89; refine (hfi _).mono ?_; rintro e w2 ⟨rfl, hb2⟩)
    refine HK.out _ _ ?_
    clear HK
    refine wp_seq_k (fun K hK => ?_)
    have HK := Lib.hid hK
    clear hK
    go_wp2_with (go_at_call 96; refine (hwi _).mono ?_; rintro e w3 ⟨rfl, hb3⟩)
    refine HK.out _ _ ?_
    clear HK
    have hb4 := hb1.trans ((hb2.trans (hb3.mono hb2.size)).mono hb1.size)
    clear hb1 hb2 hb3 hk hfi hwi
    refine wp_seq_k (fun K hK => ?_)
    have HK := Lib.hid hK
    clear hK
    go_wp2
    refine HK.out _ _ ?_
    clear HK
    have hb5 := hb4.alloc hb4.size (Obj.cells #[.bool false] 4)
    have bH := Boxed.new w3 4 (.bool false)
    have hq1 := hb4.size
    have hq2 : w3.heap.size < (w3.alloc (Obj.cells #[.bool false] 4)).heap.size := by simp
    clear hb4
    generalize w3.alloc (Obj.cells #[.bool false] 4) = w5 at *
    generalize w3.heap.size = q at *
    have hhu := hurts_any (some ⟨g, 0, none⟩) f (f + n) w5
    simp only [Int.natCast_add] at hhu
    refine wp_seq_k (fun K hK => ?_)
    have HK := Lib.hid hK
    clear hK
    go_wp2_with (go_at_call 92; refine hhu.mono ?_; rintro e w6 ⟨rfl, hq, hsz2, hb6⟩; have HSZ := Lib.hid hsz2; clear hsz2)
    have bH6 : Boxed w6 q 4 (.bool false) := tr_bl hb6 bH
    have hz : w5.heap.size + 4 ≤ w6.heap.size := by have := HSZ.out; omega
    have hB6 : Below w.heap.size w w6 := hb5.trans (hb6.mono hb5.size)
    clear hb6 hhu hb5 bH HSZ
    have hz5 := hB6.size
    refine wp_range_skip (gf := 194) rfl (enters_of Tryz.func194 (by kernel_rfl) rfl) (hurts_stops h f (f + n) w5.heap.size (by omega) (by omega) hB6.size (by omega) hB6 hq) KpH.trans (KpH.put hB6.size (by omega)) (fun _ => rfl)
      (fun (pre : List Int) W => pre = [] ∧ Boxed W q 4 (.bool false) ∧ Below w.heap.size w W ∧ w6.heap.size ≤ W.heap.size)
      (fun c _ W => c = .exit 0 ∧ Boxed W q 4 (.bool true) ∧ Below w.heap.size w W ∧ w6.heap.size ≤ W.heap.size)
      ?_ ?_ ⟨rfl, bH6, hB6, Nat.le_refl _⟩ ?_ ?_ ?_
    · exact fun _ _ _ _ hs hg hr => ⟨hs.1, hs.2.1.kept hg (fun e => by have := (hr _ e.symm).1; omega), hs.2.2.1.grown hg (by omega) (fun k e => by have := (hr k e).1; omega), Nat.le_trans hs.2.2.2 hg.size⟩
    · exact fun _ _ _ _ _ hs hg hr => ⟨hs.1, hs.2.1.kept hg (fun e => by have := (hr _ e.symm).1; omega), hs.2.2.1.grown hg (by omega) (fun k e => by have := (hr k e).1; omega), Nat.le_trans hs.2.2.2 hg.size⟩
    · rintro l pre x W ⟨rfl, hbx, hB, hsW⟩ _
      have hc := hbx.cell
      have hf := hbx.frozen
      gi_wp2
      exact ⟨(KeepsOthers.setCell _ _ _).from _, rfl, hbx.set _, hB.setCell (p := ⟨q, 0, none⟩) hq1 _, by simpa [World.setCell] using hsW⟩
    · rintro D xs W hD rfl ⟨_, hbx, hB, hsW⟩ hK
      (try simp only [Exit.inBlock]); (try simp only [Exit.then])
      refine HK.out _ _ ?_
      clear HK
      have hdW := h.below hB
      have hcW := hbx.cell
      refine wp_seq_k (fun K hK => ?_)
      have HK := Lib.hid hK
      clear hK
      go_wp2
      refine HK.out _ _ ?_
      clear HK
      refine wp_seq_k (fun K hK => ?_)
      have HK := Lib.hid hK
      clear hK
      go_wp2
      go_loopw [17, 16, 15, 18, 19, 20] (fun s all gn _ _ _ wr => ∃ (j : Nat) (v : Value), j ≤ n ∧ s = .int .i64 ((f : Int) + (j : Int)) ∧ all = v ∧ wr.ownsRow W.heap.size 5 1 v (allR d f j).length (bys (allR d f j)) ∧ gn = .bool (goneG d f j) ∧ Below W.heap.size W wr) (fun s _ _ _ _ _ _ => f + n - (intOf s).toNat)
      case atStart => exact ⟨0, _, by omega, by simp, rfl, World.ownsRow_nil _ _ _ _, rfl, Below.refl _ _⟩
      case round =>
        obtain ⟨j, v, hj, rfl, rfl, hown, rfl, hbr⟩ := hrel
        have hdr := hdW.below hbr
        by_cases hlt : j < n
        case pos =>
          have hil : (f : Int) + (j : Int) < (f : Int) + (n : Int) := by omega
          have hre := rest_sl hdr ((f + j : Nat) : Int)
          have hle := allR_len h f j
          have hrl := restD_len h ((f + j : Nat) : Int)
          have hsn := allG_succ (fun s => (restD d s).1) f j
          have hgs := goneG_succ d f j
          change allR d f (j + 1) = allR d f j ++ _ at hsn
          (try simp only at hsn)
          simp only [Int.natCast_add] at hre hrl hsn hgs
          generalize restD d ((f : Int) + (j : Int)) = r at *
          obtain ⟨rl, lost, er⟩ := r
          (try simp only at hre)
          (try simp only at hrl)
          (try simp only at hsn)
          (try simp only at hgs)
          have HSN := Lib.hid hsn
          have HGS := Lib.hid hgs
          clear hsn hgs
          generalize hal : allR d f j = al at *
          generalize hgo : goneG d f j = go at *
          clear hal hgo
          cases go
          all_goals
            go_wp2_with (first
              | (go_at_call 41; refine hre.mono ?_; rintro e w8 ⟨⟨a8, c8, rfl, s8⟩, hb8⟩; have ho8 := owns_bl hown hb8; have hb9 := hbr.trans (hb8.mono hbr.size); have hr8 := s8.row)
              | (at_builtin; refine wpList_append_row rfl _ _ 34 5 elByte rfl W.heap.size _ al.length (bys al) rfl ho8 a8 rl.length c8 (bys rl) rfl (by rw [bys_len]; omega) hr8 bys_one (by omega) (by decide) hb9.size ?_; intro v9 w9 ho9 hb10))
            rw [← bys_app] at ho9
            go_roundw
            case rel => exact ⟨j + 1, v9, by omega, by simp; omega, rfl, by rw [HSN.out, List.length_append]; exact ho9, by rw [HGS.out]; simp, hb9.trans hb10⟩
            case measure => simp [intOf]; omega
        case neg =>
          obtain rfl : j = n := by omega
          obtain ⟨a9, c9, rfl, s9⟩ := SlB.of_owns hown
          have hmi := mine_any a9 c9 (allR d f j) rep reg pla wr s9 (by have := allR_len h f j; omega)
          rw [HR.out] at hmi
          have hcr := cell_later hbr hcW
          have hKr := tr_bl hbr hK
          rw [HGO.out]
          go_wp2
          refine HK.out _ _ ?_
          clear HK
          refine wp_seq_k (fun K hK => ?_)
          have HK := Lib.hid hK
          clear hK
          go_wp2_with (first
                | (go_at_call 97; refine hmi.mono ?_; rintro e w8 ⟨⟨a8, c8, rfl, ho8⟩, hb8⟩)
                | ((first | (with_reducible refine wpList_stNew 33 _ _ ?_) | (with_reducible refine wp_stNew 33 _ _ ?_)); refine ⟨_, _, ⟨Tryz.sizeOf33, rfl, tg_new _⟩, rfl, ?_⟩))
          refine HK.out _ _ ?_
          clear HK
          have hb9 := hb8.alloc hb8.size (Obj.cells #[.int .i64 tg.rep, .int .i64 tg.reg, .int .i64 tg.pla, .int .i64 tg.idx, .int .i64 tg.inc] 33)
          have hcx := cell_later hb9 hcr
          have hKx := tr_bl hb9 hKr
          have hbx := hB.trans ((hbr.trans (hb9.mono hbr.size)).mono hB.size)
          generalize w8.alloc (Obj.cells #[.int .i64 tg.rep, .int .i64 tg.reg, .int .i64 tg.pla, .int .i64 tg.idx, .int .i64 tg.inc] 33) = w9 at *
          go_wp2
          refine marks_ret hKx (results_tmp3 rfl _ _ _) ?_
          exact ⟨rfl, below_mark hbx (by omega)⟩
    · rintro D c pre W hD ⟨hp, hne⟩ _ _
      rw [hL] at hp
      exact absurd (List.prefix_nil.1 hp) hne
  case neg =>
    have hH : isHurt d f n = true := by
      unfold isHurt
      cases hh : hurtsL d f (f + n)
      · exact absurd hh hL
      · rfl
    rw [hH, Bool.true_and]
    clear hH
    cases go
    case true =>
      rw [Bool.true_or]
      refine calls_marks Tryz.func20 rfl ?_
      simp only [Tryz.ntmps20, List.size_toArray, List.length_cons, List.length_nil, Nat.reduceAdd, Nat.reduceSub, Array.replicate_succ, Array.replicate_zero, List.push_toArray, List.append_toArray, List.nil_append, List.cons_append]
      refine wp_seq_k (fun K hK => ?_)
      have HK := Lib.hid hK
      clear hK
      go_wp2
      refine HK.out _ _ ?_
      clear HK
      refine wp_seq_k (fun K hK => ?_)
      have HK := Lib.hid hK
      clear hK
      go_wp2_with (go_at_call 95; refine hk.mono ?_; rintro e w1 ⟨rfl, hb1⟩)
      refine HK.out _ _ ?_
      clear HK
      refine wp_seq_k (fun K hK => ?_)
      have HK := Lib.hid hK
      clear hK
      go_wp2_with (go_at_call 89; refine (hfi _).mono ?_; rintro e w2 ⟨rfl, hb2⟩)
      refine HK.out _ _ ?_
      clear HK
      refine wp_seq_k (fun K hK => ?_)
      have HK := Lib.hid hK
      clear hK
      go_wp2_with (go_at_call 96; refine (hwi _).mono ?_; rintro e w3 ⟨rfl, hb3⟩)
      refine HK.out _ _ ?_
      clear HK
      have hb4 := hb1.trans ((hb2.trans (hb3.mono hb2.size)).mono hb1.size)
      clear hb1 hb2 hb3 hk hfi hwi
      refine wp_seq_k (fun K hK => ?_)
      have HK := Lib.hid hK
      clear hK
      go_wp2
      refine HK.out _ _ ?_
      clear HK
      have hb5 := hb4.alloc hb4.size (Obj.cells #[.bool false] 4)
      have bH := Boxed.new w3 4 (.bool false)
      have hq1 := hb4.size
      have hq2 : w3.heap.size < (w3.alloc (Obj.cells #[.bool false] 4)).heap.size := by simp
      clear hb4
      generalize w3.alloc (Obj.cells #[.bool false] 4) = w5 at *
      generalize w3.heap.size = q at *
      have hhu := hurts_any (some ⟨g, 0, none⟩) f (f + n) w5
      simp only [Int.natCast_add] at hhu
      refine wp_seq_k (fun K hK => ?_)
      have HK := Lib.hid hK
      clear hK
      go_wp2_with (go_at_call 92; refine hhu.mono ?_; rintro e w6 ⟨rfl, hq, hsz2, hb6⟩; have HSZ := Lib.hid hsz2; clear hsz2)
      have bH6 : Boxed w6 q 4 (.bool false) := tr_bl hb6 bH
      have hz : w5.heap.size + 4 ≤ w6.heap.size := by have := HSZ.out; omega
      have hB6 : Below w.heap.size w w6 := hb5.trans (hb6.mono hb5.size)
      clear hb6 hhu hb5 bH HSZ
      have hz5 := hB6.size
      refine wp_range_skip (gf := 194) rfl (enters_of Tryz.func194 (by kernel_rfl) rfl) (hurts_stops h f (f + n) w5.heap.size (by omega) (by omega) hB6.size (by omega) hB6 hq) KpH.trans (KpH.put hB6.size (by omega)) (fun _ => rfl)
        (fun (pre : List Int) W => pre = [] ∧ Boxed W q 4 (.bool false) ∧ Below w.heap.size w W ∧ w6.heap.size ≤ W.heap.size)
        (fun c _ W => c = .exit 0 ∧ Boxed W q 4 (.bool true) ∧ Below w.heap.size w W ∧ w6.heap.size ≤ W.heap.size)
        ?_ ?_ ⟨rfl, bH6, hB6, Nat.le_refl _⟩ ?_ ?_ ?_
      · exact fun _ _ _ _ hs hg hr => ⟨hs.1, hs.2.1.kept hg (fun e => by have := (hr _ e.symm).1; omega), hs.2.2.1.grown hg (by omega) (fun k e => by have := (hr k e).1; omega), Nat.le_trans hs.2.2.2 hg.size⟩
      · exact fun _ _ _ _ _ hs hg hr => ⟨hs.1, hs.2.1.kept hg (fun e => by have := (hr _ e.symm).1; omega), hs.2.2.1.grown hg (by omega) (fun k e => by have := (hr k e).1; omega), Nat.le_trans hs.2.2.2 hg.size⟩
      · rintro l pre x W ⟨rfl, hbx, hB, hsW⟩ _
        have hc := hbx.cell
        have hf := hbx.frozen
        gi_wp2
        exact ⟨(KeepsOthers.setCell _ _ _).from _, rfl, hbx.set _, hB.setCell (p := ⟨q, 0, none⟩) hq1 _, by simpa [World.setCell] using hsW⟩
      · rintro D xs W hD rfl ⟨hn0, _⟩ _
        exact absurd hn0 hL
      · rintro D c pre W hD ⟨hp, hne⟩ ⟨rfl, hbx, hB, hsW⟩ hK
        go_wp2
        (try simp only [Exit.inBlock]); (try simp only [Exit.then])
        refine HK.out _ _ ?_
        clear HK
        have hdW := h.below hB
        have hcW := hbx.cell
        refine wp_seq_k (fun K hK => ?_)
        have HK := Lib.hid hK
        clear hK
        go_wp2
        refine HK.out _ _ ?_
        clear HK
        refine wp_seq_k (fun K hK => ?_)
        have HK := Lib.hid hK
        clear hK
        go_wp2
        go_loopw [17, 16, 15, 18, 19, 20] (fun s all gn _ _ _ wr => ∃ (j : Nat) (v : Value), j ≤ n ∧ s = .int .i64 ((f : Int) + (j : Int)) ∧ all = v ∧ wr.ownsRow W.heap.size 5 1 v (allR d f j).length (bys (allR d f j)) ∧ gn = .bool (goneG d f j) ∧ Below W.heap.size W wr) (fun s _ _ _ _ _ _ => f + n - (intOf s).toNat)
        case atStart => exact ⟨0, _, by omega, by simp, rfl, World.ownsRow_nil _ _ _ _, rfl, Below.refl _ _⟩
        case round =>
          obtain ⟨j, v, hj, rfl, rfl, hown, rfl, hbr⟩ := hrel
          have hdr := hdW.below hbr
          by_cases hlt : j < n
          case pos =>
            have hil : (f : Int) + (j : Int) < (f : Int) + (n : Int) := by omega
            have hre := rest_sl hdr ((f + j : Nat) : Int)
            have hle := allR_len h f j
            have hrl := restD_len h ((f + j : Nat) : Int)
            have hsn := allG_succ (fun s => (restD d s).1) f j
            have hgs := goneG_succ d f j
            change allR d f (j + 1) = allR d f j ++ _ at hsn
            (try simp only at hsn)
            simp only [Int.natCast_add] at hre hrl hsn hgs
            generalize restD d ((f : Int) + (j : Int)) = r at *
            obtain ⟨rl, lost, er⟩ := r
            (try simp only at hre)
            (try simp only at hrl)
            (try simp only at hsn)
            (try simp only at hgs)
            have HSN := Lib.hid hsn
            have HGS := Lib.hid hgs
            clear hsn hgs
            generalize hal : allR d f j = al at *
            generalize hgo : goneG d f j = go at *
            clear hal hgo
            cases go
            all_goals
              go_wp2_with (first
                | (go_at_call 41; refine hre.mono ?_; rintro e w8 ⟨⟨a8, c8, rfl, s8⟩, hb8⟩; have ho8 := owns_bl hown hb8; have hb9 := hbr.trans (hb8.mono hbr.size); have hr8 := s8.row)
                | (at_builtin; refine wpList_append_row rfl _ _ 34 5 elByte rfl W.heap.size _ al.length (bys al) rfl ho8 a8 rl.length c8 (bys rl) rfl (by rw [bys_len]; omega) hr8 bys_one (by omega) (by decide) hb9.size ?_; intro v9 w9 ho9 hb10))
              rw [← bys_app] at ho9
              go_roundw
              case rel => exact ⟨j + 1, v9, by omega, by simp; omega, rfl, by rw [HSN.out, List.length_append]; exact ho9, by rw [HGS.out]; simp, hb9.trans hb10⟩
              case measure => simp [intOf]; omega
          case neg =>
            obtain rfl : j = n := by omega
            obtain ⟨a9, c9, rfl, s9⟩ := SlB.of_owns hown
            have hmi := mine_any a9 c9 (allR d f j) rep reg pla wr s9 (by have := allR_len h f j; omega)
            rw [HR.out] at hmi
            have hcr := cell_later hbr hcW
            have hKr := tr_bl hbr hK
            rw [HGO.out]
            go_wp2
            refine HK.out _ _ ?_
            clear HK
            refine wp_seq_k (fun K hK => ?_)
            have HK := Lib.hid hK
            clear hK
            go_wp2_with (first
                  | (go_at_call 97; refine hmi.mono ?_; rintro e w8 ⟨⟨a8, c8, rfl, ho8⟩, hb8⟩)
                  | ((first | (with_reducible refine wpList_stNew 33 _ _ ?_) | (with_reducible refine wp_stNew 33 _ _ ?_)); refine ⟨_, _, ⟨Tryz.sizeOf33, rfl, tg_new _⟩, rfl, ?_⟩))
            refine HK.out _ _ ?_
            clear HK
            have hb9 := hb8.alloc hb8.size (Obj.cells #[.int .i64 tg.rep, .int .i64 tg.reg, .int .i64 tg.pla, .int .i64 tg.idx, .int .i64 tg.inc] 33)
            have hcx := cell_later hb9 hcr
            have hKx := tr_bl hb9 hKr
            have hbx := hB.trans ((hbr.trans (hb9.mono hbr.size)).mono hB.size)
            generalize w8.alloc (Obj.cells #[.int .i64 tg.rep, .int .i64 tg.reg, .int .i64 tg.pla, .int .i64 tg.idx, .int .i64 tg.inc] 33) = w9 at *
            go_wp2
            refine marks_ret hKx (results_tmp3 rfl _ _ _) ?_
            exact ⟨rfl, below_mark hbx (by omega)⟩
    case false =>
      rw [Bool.false_or]
      by_cases hst : st = 2
      case pos =>
        subst hst
        rw [decide_eq_true rfl]
        refine calls_marks Tryz.func20 rfl ?_
        simp only [Tryz.ntmps20, List.size_toArray, List.length_cons, List.length_nil, Nat.reduceAdd, Nat.reduceSub, Array.replicate_succ, Array.replicate_zero, List.push_toArray, List.append_toArray, List.nil_append, List.cons_append]
        refine wp_seq_k (fun K hK => ?_)
        have HK := Lib.hid hK
        clear hK
        go_wp2
        refine HK.out _ _ ?_
        clear HK
        refine wp_seq_k (fun K hK => ?_)
        have HK := Lib.hid hK
        clear hK
        go_wp2_with (go_at_call 95; refine hk.mono ?_; rintro e w1 ⟨rfl, hb1⟩)
        refine HK.out _ _ ?_
        clear HK
        refine wp_seq_k (fun K hK => ?_)
        have HK := Lib.hid hK
        clear hK
        go_wp2_with (go_at_call 89; refine (hfi _).mono ?_; rintro e w2 ⟨rfl, hb2⟩)
        refine HK.out _ _ ?_
        clear HK
        refine wp_seq_k (fun K hK => ?_)
        have HK := Lib.hid hK
        clear hK
        go_wp2_with (go_at_call 96; refine (hwi _).mono ?_; rintro e w3 ⟨rfl, hb3⟩)
        refine HK.out _ _ ?_
        clear HK
        have hb4 := hb1.trans ((hb2.trans (hb3.mono hb2.size)).mono hb1.size)
        clear hb1 hb2 hb3 hk hfi hwi
        refine wp_seq_k (fun K hK => ?_)
        have HK := Lib.hid hK
        clear hK
        go_wp2
        refine HK.out _ _ ?_
        clear HK
        have hb5 := hb4.alloc hb4.size (Obj.cells #[.bool false] 4)
        have bH := Boxed.new w3 4 (.bool false)
        have hq1 := hb4.size
        have hq2 : w3.heap.size < (w3.alloc (Obj.cells #[.bool false] 4)).heap.size := by simp
        clear hb4
        generalize w3.alloc (Obj.cells #[.bool false] 4) = w5 at *
        generalize w3.heap.size = q at *
        have hhu := hurts_any (some ⟨g, 0, none⟩) f (f + n) w5
        simp only [Int.natCast_add] at hhu
        refine wp_seq_k (fun K hK => ?_)
        have HK := Lib.hid hK
        clear hK
        go_wp2_with (go_at_call 92; refine hhu.mono ?_; rintro e w6 ⟨rfl, hq, hsz2, hb6⟩; have HSZ := Lib.hid hsz2; clear hsz2)
        have bH6 : Boxed w6 q 4 (.bool false) := tr_bl hb6 bH
        have hz : w5.heap.size + 4 ≤ w6.heap.size := by have := HSZ.out; omega
        have hB6 : Below w.heap.size w w6 := hb5.trans (hb6.mono hb5.size)
        clear hb6 hhu hb5 bH HSZ
        have hz5 := hB6.size
        refine wp_range_skip (gf := 194) rfl (enters_of Tryz.func194 (by kernel_rfl) rfl) (hurts_stops h f (f + n) w5.heap.size (by omega) (by omega) hB6.size (by omega) hB6 hq) KpH.trans (KpH.put hB6.size (by omega)) (fun _ => rfl)
          (fun (pre : List Int) W => pre = [] ∧ Boxed W q 4 (.bool false) ∧ Below w.heap.size w W ∧ w6.heap.size ≤ W.heap.size)
          (fun c _ W => c = .exit 0 ∧ Boxed W q 4 (.bool true) ∧ Below w.heap.size w W ∧ w6.heap.size ≤ W.heap.size)
          ?_ ?_ ⟨rfl, bH6, hB6, Nat.le_refl _⟩ ?_ ?_ ?_
        · exact fun _ _ _ _ hs hg hr => ⟨hs.1, hs.2.1.kept hg (fun e => by have := (hr _ e.symm).1; omega), hs.2.2.1.grown hg (by omega) (fun k e => by have := (hr k e).1; omega), Nat.le_trans hs.2.2.2 hg.size⟩
        · exact fun _ _ _ _ _ hs hg hr => ⟨hs.1, hs.2.1.kept hg (fun e => by have := (hr _ e.symm).1; omega), hs.2.2.1.grown hg (by omega) (fun k e => by have := (hr k e).1; omega), Nat.le_trans hs.2.2.2 hg.size⟩
        · rintro l pre x W ⟨rfl, hbx, hB, hsW⟩ _
          have hc := hbx.cell
          have hf := hbx.frozen
          gi_wp2
          exact ⟨(KeepsOthers.setCell _ _ _).from _, rfl, hbx.set _, hB.setCell (p := ⟨q, 0, none⟩) hq1 _, by simpa [World.setCell] using hsW⟩
        · rintro D xs W hD rfl ⟨hn0, _⟩ _
          exact absurd hn0 hL
        · rintro D c pre W hD ⟨hp, hne⟩ ⟨rfl, hbx, hB, hsW⟩ hK
          go_wp2
          (try simp only [Exit.inBlock]); (try simp only [Exit.then])
          refine HK.out _ _ ?_
          clear HK
          have hdW := h.below hB
          have hcW := hbx.cell
          refine wp_seq_k (fun K hK => ?_)
          have HK := Lib.hid hK
          clear hK
          go_wp2
          refine HK.out _ _ ?_
          clear HK
          refine wp_seq_k (fun K hK => ?_)
          have HK := Lib.hid hK
          clear hK
          go_wp2
          go_loopw [17, 16, 15, 18, 19, 20] (fun s all gn _ _ _ wr => ∃ (j : Nat) (v : Value), j ≤ n ∧ s = .int .i64 ((f : Int) + (j : Int)) ∧ all = v ∧ wr.ownsRow W.heap.size 5 1 v (allR d f j).length (bys (allR d f j)) ∧ gn = .bool (goneG d f j) ∧ Below W.heap.size W wr) (fun s _ _ _ _ _ _ => f + n - (intOf s).toNat)
          case atStart => exact ⟨0, _, by omega, by simp, rfl, World.ownsRow_nil _ _ _ _, rfl, Below.refl _ _⟩
          case round =>
            obtain ⟨j, v, hj, rfl, rfl, hown, rfl, hbr⟩ := hrel
            have hdr := hdW.below hbr
            by_cases hlt : j < n
            case pos =>
              have hil : (f : Int) + (j : Int) < (f : Int) + (n : Int) := by omega
              have hre := rest_sl hdr ((f + j : Nat) : Int)
              have hle := allR_len h f j
              have hrl := restD_len h ((f + j : Nat) : Int)
              have hsn := allG_succ (fun s => (restD d s).1) f j
              have hgs := goneG_succ d f j
              change allR d f (j + 1) = allR d f j ++ _ at hsn
              (try simp only at hsn)
              simp only [Int.natCast_add] at hre hrl hsn hgs
              generalize restD d ((f : Int) + (j : Int)) = r at *
              obtain ⟨rl, lost, er⟩ := r
              (try simp only at hre)
              (try simp only at hrl)
              (try simp only at hsn)
              (try simp only at hgs)
              have HSN := Lib.hid hsn
              have HGS := Lib.hid hgs
              clear hsn hgs
              generalize hal : allR d f j = al at *
              generalize hgo : goneG d f j = go at *
              clear hal hgo
              cases go
              all_goals
                go_wp2_with (first
                  | (go_at_call 41; refine hre.mono ?_; rintro e w8 ⟨⟨a8, c8, rfl, s8⟩, hb8⟩; have ho8 := owns_bl hown hb8; have hb9 := hbr.trans (hb8.mono hbr.size); have hr8 := s8.row)
                  | (at_builtin; refine wpList_append_row rfl _ _ 34 5 elByte rfl W.heap.size _ al.length (bys al) rfl ho8 a8 rl.length c8 (bys rl) rfl (by rw [bys_len]; omega) hr8 bys_one (by omega) (by decide) hb9.size ?_; intro v9 w9 ho9 hb10))
                rw [← bys_app] at ho9
                go_roundw
                case rel => exact ⟨j + 1, v9, by omega, by simp; omega, rfl, by rw [HSN.out, List.length_append]; exact ho9, by rw [HGS.out]; simp, hb9.trans hb10⟩
                case measure => simp [intOf]; omega
            case neg =>
              obtain rfl : j = n := by omega
              obtain ⟨a9, c9, rfl, s9⟩ := SlB.of_owns hown
              have hmi := mine_any a9 c9 (allR d f j) rep reg pla wr s9 (by have := allR_len h f j; omega)
              rw [HR.out] at hmi
              have hcr := cell_later hbr hcW
              have hKr := tr_bl hbr hK
              rw [HGO.out]
              go_wp2
              refine HK.out _ _ ?_
              clear HK
              refine wp_seq_k (fun K hK => ?_)
              have HK := Lib.hid hK
              clear hK
              go_wp2_with (first
                    | (go_at_call 97; refine hmi.mono ?_; rintro e w8 ⟨⟨a8, c8, rfl, ho8⟩, hb8⟩)
                    | ((first | (with_reducible refine wpList_stNew 33 _ _ ?_) | (with_reducible refine wp_stNew 33 _ _ ?_)); refine ⟨_, _, ⟨Tryz.sizeOf33, rfl, tg_new _⟩, rfl, ?_⟩))
              refine HK.out _ _ ?_
              clear HK
              have hb9 := hb8.alloc hb8.size (Obj.cells #[.int .i64 tg.rep, .int .i64 tg.reg, .int .i64 tg.pla, .int .i64 tg.idx, .int .i64 tg.inc] 33)
              have hcx := cell_later hb9 hcr
              have hKx := tr_bl hb9 hKr
              have hbx := hB.trans ((hbr.trans (hb9.mono hbr.size)).mono hB.size)
              generalize w8.alloc (Obj.cells #[.int .i64 tg.rep, .int .i64 tg.reg, .int .i64 tg.pla, .int .i64 tg.idx, .int .i64 tg.inc] 33) = w9 at *
              go_wp2
              refine marks_ret hKx (results_tmp3 rfl _ _ _) ?_
              exact ⟨rfl, below_mark hbx (by omega)⟩
      case neg =>
        rw [decide_eq_false hst]
        have e2 : ((st : Int) == 2) = false := by rw [beq_eq_false_iff_ne]; omega
        clear hst
        refine calls_marks Tryz.func20 rfl ?_
        simp only [Tryz.ntmps20, List.size_toArray, List.length_cons, List.length_nil, Nat.reduceAdd, Nat.reduceSub, Array.replicate_succ, Array.replicate_zero, List.push_toArray, List.append_toArray, List.nil_append, List.cons_append]
        refine wp_seq_k (fun K hK => ?_)
        have HK := Lib.hid hK
        clear hK
        go_wp2
        refine HK.out _ _ ?_
        clear HK
        refine wp_seq_k (fun K hK => ?_)
        have HK := Lib.hid hK
        clear hK
        go_wp2_with (go_at_call 95; refine hk.mono ?_; rintro e w1 ⟨rfl, hb1⟩)
        refine HK.out _ _ ?_
        clear HK
        refine wp_seq_k (fun K hK => ?_)
        have HK := Lib.hid hK
        clear hK
        go_wp2_with (go_at_call 89; refine (hfi _).mono ?_; rintro e w2 ⟨rfl, hb2⟩)
        refine HK.out _ _ ?_
        clear HK
        refine wp_seq_k (fun K hK => ?_)
        have HK := Lib.hid hK
        clear hK
        go_wp2_with (go_at_call 96; refine (hwi _).mono ?_; rintro e w3 ⟨rfl, hb3⟩)
        refine HK.out _ _ ?_
        clear HK
        have hb4 := hb1.trans ((hb2.trans (hb3.mono hb2.size)).mono hb1.size)
        clear hb1 hb2 hb3 hk hfi hwi
        refine wp_seq_k (fun K hK => ?_)
        have HK := Lib.hid hK
        clear hK
        go_wp2
        refine HK.out _ _ ?_
        clear HK
        have hb5 := hb4.alloc hb4.size (Obj.cells #[.bool false] 4)
        have bH := Boxed.new w3 4 (.bool false)
        have hq1 := hb4.size
        have hq2 : w3.heap.size < (w3.alloc (Obj.cells #[.bool false] 4)).heap.size := by simp
        clear hb4
        generalize w3.alloc (Obj.cells #[.bool false] 4) = w5 at *
        generalize w3.heap.size = q at *
        have hhu := hurts_any (some ⟨g, 0, none⟩) f (f + n) w5
        simp only [Int.natCast_add] at hhu
        refine wp_seq_k (fun K hK => ?_)
        have HK := Lib.hid hK
        clear hK
        go_wp2_with (go_at_call 92; refine hhu.mono ?_; rintro e w6 ⟨rfl, hq, hsz2, hb6⟩; have HSZ := Lib.hid hsz2; clear hsz2)
        have bH6 : Boxed w6 q 4 (.bool false) := tr_bl hb6 bH
        have hz : w5.heap.size + 4 ≤ w6.heap.size := by have := HSZ.out; omega
        have hB6 : Below w.heap.size w w6 := hb5.trans (hb6.mono hb5.size)
        clear hb6 hhu hb5 bH HSZ
        have hz5 := hB6.size
        refine wp_range_skip (gf := 194) rfl (enters_of Tryz.func194 (by kernel_rfl) rfl) (hurts_stops h f (f + n) w5.heap.size (by omega) (by omega) hB6.size (by omega) hB6 hq) KpH.trans (KpH.put hB6.size (by omega)) (fun _ => rfl)
          (fun (pre : List Int) W => pre = [] ∧ Boxed W q 4 (.bool false) ∧ Below w.heap.size w W ∧ w6.heap.size ≤ W.heap.size)
          (fun c _ W => c = .exit 0 ∧ Boxed W q 4 (.bool true) ∧ Below w.heap.size w W ∧ w6.heap.size ≤ W.heap.size)
          ?_ ?_ ⟨rfl, bH6, hB6, Nat.le_refl _⟩ ?_ ?_ ?_
        · exact fun _ _ _ _ hs hg hr => ⟨hs.1, hs.2.1.kept hg (fun e => by have := (hr _ e.symm).1; omega), hs.2.2.1.grown hg (by omega) (fun k e => by have := (hr k e).1; omega), Nat.le_trans hs.2.2.2 hg.size⟩
        · exact fun _ _ _ _ _ hs hg hr => ⟨hs.1, hs.2.1.kept hg (fun e => by have := (hr _ e.symm).1; omega), hs.2.2.1.grown hg (by omega) (fun k e => by have := (hr k e).1; omega), Nat.le_trans hs.2.2.2 hg.size⟩
        · rintro l pre x W ⟨rfl, hbx, hB, hsW⟩ _
          have hc := hbx.cell
          have hf := hbx.frozen
          gi_wp2
          exact ⟨(KeepsOthers.setCell _ _ _).from _, rfl, hbx.set _, hB.setCell (p := ⟨q, 0, none⟩) hq1 _, by simpa [World.setCell] using hsW⟩
        · rintro D xs W hD rfl ⟨hn0, _⟩ _
          exact absurd hn0 hL
        · rintro D c pre W hD ⟨hp, hne⟩ ⟨rfl, hbx, hB, hsW⟩ hK
          go_wp2
          (try simp only [Exit.inBlock]); (try simp only [Exit.then])
          refine HK.out _ _ ?_
          clear HK
          have hdW := h.below hB
          have hcW := hbx.cell
          refine wp_seq_k (fun K hK => ?_)
          have HK := Lib.hid hK
          clear hK
          go_wp2
          refine HK.out _ _ ?_
          clear HK
          refine wp_seq_k (fun K hK => ?_)
          have HK := Lib.hid hK
          clear hK
          go_wp2
          go_loopw [17, 16, 15, 18, 19, 20] (fun s all gn _ _ _ wr => ∃ (j : Nat) (v : Value), j ≤ n ∧ s = .int .i64 ((f : Int) + (j : Int)) ∧ all = v ∧ wr.ownsRow W.heap.size 5 1 v (allR d f j).length (bys (allR d f j)) ∧ gn = .bool (goneG d f j) ∧ Below W.heap.size W wr) (fun s _ _ _ _ _ _ => f + n - (intOf s).toNat)
          case atStart => exact ⟨0, _, by omega, by simp, rfl, World.ownsRow_nil _ _ _ _, rfl, Below.refl _ _⟩
          case round =>
            obtain ⟨j, v, hj, rfl, rfl, hown, rfl, hbr⟩ := hrel
            have hdr := hdW.below hbr
            by_cases hlt : j < n
            case pos =>
              have hil : (f : Int) + (j : Int) < (f : Int) + (n : Int) := by omega
              have hre := rest_sl hdr ((f + j : Nat) : Int)
              have hle := allR_len h f j
              have hrl := restD_len h ((f + j : Nat) : Int)
              have hsn := allG_succ (fun s => (restD d s).1) f j
              have hgs := goneG_succ d f j
              change allR d f (j + 1) = allR d f j ++ _ at hsn
              (try simp only at hsn)
              simp only [Int.natCast_add] at hre hrl hsn hgs
              generalize restD d ((f : Int) + (j : Int)) = r at *
              obtain ⟨rl, lost, er⟩ := r
              (try simp only at hre)
              (try simp only at hrl)
              (try simp only at hsn)
              (try simp only at hgs)
              have HSN := Lib.hid hsn
              have HGS := Lib.hid hgs
              clear hsn hgs
              generalize hal : allR d f j = al at *
              generalize hgo : goneG d f j = go at *
              clear hal hgo
              cases go
              all_goals
                go_wp2_with (first
                  | (go_at_call 41; refine hre.mono ?_; rintro e w8 ⟨⟨a8, c8, rfl, s8⟩, hb8⟩; have ho8 := owns_bl hown hb8; have hb9 := hbr.trans (hb8.mono hbr.size); have hr8 := s8.row)
                  | (at_builtin; refine wpList_append_row rfl _ _ 34 5 elByte rfl W.heap.size _ al.length (bys al) rfl ho8 a8 rl.length c8 (bys rl) rfl (by rw [bys_len]; omega) hr8 bys_one (by omega) (by decide) hb9.size ?_; intro v9 w9 ho9 hb10))
                rw [← bys_app] at ho9
                go_roundw
                case rel => exact ⟨j + 1, v9, by omega, by simp; omega, rfl, by rw [HSN.out, List.length_append]; exact ho9, by rw [HGS.out]; simp, hb9.trans hb10⟩
                case measure => simp [intOf]; omega
            case neg =>
              obtain rfl : j = n := by omega
              obtain ⟨a9, c9, rfl, s9⟩ := SlB.of_owns hown
              have hmi := mine_any a9 c9 (allR d f j) rep reg pla wr s9 (by have := allR_len h f j; omega)
              rw [HR.out] at hmi
              have hcr := cell_later hbr hcW
              have hKr := tr_bl hbr hK
              rw [HGO.out]
              go_wp2
              refine HK.out _ _ ?_
              clear HK
              refine wp_seq_k (fun K hK => ?_)
              have HK := Lib.hid hK
              clear hK
              go_wp2_with (first
                    | (go_at_call 97; refine hmi.mono ?_; rintro e w8 ⟨⟨a8, c8, rfl, ho8⟩, hb8⟩)
                    | ((first | (with_reducible refine wpList_stNew 33 _ _ ?_) | (with_reducible refine wp_stNew 33 _ _ ?_)); refine ⟨_, _, ⟨Tryz.sizeOf33, rfl, tg_new _⟩, rfl, ?_⟩))
              refine HK.out _ _ ?_
              clear HK
              have hb9 := hb8.alloc hb8.size (Obj.cells #[.int .i64 tg.rep, .int .i64 tg.reg, .int .i64 tg.pla, .int .i64 tg.idx, .int .i64 tg.inc] 33)
              have hcx := cell_later hb9 hcr
              have hKx := tr_bl hb9 hKr
              have hbx := hB.trans ((hbr.trans (hb9.mono hbr.size)).mono hB.size)
              generalize w8.alloc (Obj.cells #[.int .i64 tg.rep, .int .i64 tg.reg, .int .i64 tg.pla, .int .i64 tg.idx, .int .i64 tg.inc] 33) = w9 at *
              go_wp2
              refine marks_ret hKx (results_tmp3 rfl _ _ _) ?_
              exact ⟨rfl, below_mark hbx (by omega)⟩
theorem place_any {B g gp : Nat} {wv : Value} {d : Dk} {w : World} (h : DiskB B g gp wv d w) (rep reg pla : Int) : Calls Tryz.prog 20 #[.pointer (some ⟨g, 0, none⟩), .int .i64 rep, .int .i64 reg, .int .i64 pla] w fun e w' => e = .returned (.tuple #[.bool (placeG d rep reg pla).1, .bool (placeG d rep reg pla).2.1, .int .i64 (placeG d rep reg pla).2.2]) ∧ Below w.heap.size w w' := by
  by_cases ha : askG d rep reg pla = 0
  · exact place_ok h rep reg pla ha
  · have := place_err _ _ w h.dn rep reg pla ha
    unfold placeG
    rw [if_pos ha]
    exact this
end Go.Proofs.YthfolocjkpiljaaGreatDoor

namespace Go.Proofs.YthfolocjkpiljaaGreatDoor
open Go.RowKit

theorem results_t1c1t2 {P : Program} {fn : Func} {p t q r s : Nat} {tmps : Array Value} {w : World} {A : Addr} {v : Value} (hf : fn.results = #[.tmp q, .cell p t, .tmp r, .tmp s]) (hp : tmps.getD p undef = .pointer (some A)) (hl : (loadVar t A).run P w = .ok v w) : (results fn tmps).run P w = .ok (.tuple #[tmps.getD q undef, v, tmps.getD r undef, tmps.getD s undef]) w := by
  have hp' : tmps[p]?.getD undef = .pointer (some A) := by simpa using hp
  simp [results, hf, hp', asAddr, hl]
/-- What Honest hands back. -/
def HonRes (r : (Nat × Tg × List UInt8) × Int) (e : Ending) (w' : World) : Prop := ∃ a c, e = .returned (.tuple #[.int .u8 (r.1.1 : Int), tgV r.1.2.1, .slice a r.1.2.2.length c, .int .i64 r.2]) ∧ SlB w' a c r.1.2.2
theorem meantD_len {B g gp : Nat} {wv : Value} {d : Dk} {w : World} (h : DiskB B g gp wv d w) (s : Int) : (meantD d s).1.length ≤ 64 := by
  unfold meantD
  split
  · simp
  · rename_i h0
    obtain ⟨p, _, h2, h3⟩ := there_pl (d := d) (s := s) (by simpa using h0)
    rw [h2]
    have := (h.ok p h3).2
    simp only
    omega
theorem allM_len {B g gp : Nat} {wv : Value} {d : Dk} {w : World} (h : DiskB B g gp wv d w) (a n : Nat) : (allM d a n).length ≤ 64 * n := by
  induction n with
  | zero => simp [allM, allG]
  | succ n ih =>
    unfold allM at ih ⊢
    rw [allG_succ, List.length_append]
    have := meantD_len h ((a + n : Nat) : Int)
    (try simp only)
    omega
set_option maxRecDepth 100000 in
theorem honest_err (p : Value) (n : Nat) (w : World) (h : DiskN w p n) (rep reg pla : Int) (ha : askN n rep reg pla ≠ 0) : Calls Tryz.prog 24 #[p, .int .i64 rep, .int .i64 reg, .int .i64 pla] w fun e w' => HonRes ((0, zeroTg, []), askN n rep reg pla) e w' ∧ Below w.heap.size w w' := by
  have hbA := blw w (Obj.cells #[.int .i64 0, .int .i64 0, .int .i64 0, .int .i64 0, .int .i64 0] 33)
  have hk := asked_any p n (w.alloc (Obj.cells #[.int .i64 0, .int .i64 0, .int .i64 0, .int .i64 0, .int .i64 0] 33)) (h.below hbA) rep reg pla
  have A0 := heap_alloc_new w (Obj.cells #[.int .i64 0, .int .i64 0, .int .i64 0, .int .i64 0, .int .i64 0] 33)
  generalize askN n rep reg pla = x at *
  have e0 : (x != 0) = true := by rw [bne_iff_ne]; exact ha
  clear ha
  go_enter Tryz.func24, Tryz.ntmps24
  refine wp_seq_k (fun K hK => ?_)
  have HK := Lib.hid hK
  clear hK
  go_wp2
  refine HK.out _ _ ?_
  clear HK
  go_wp2_with (first
    | (go_at_call 95; refine hk.mono ?_; rintro e w1 ⟨rfl, hb1⟩; have A1 := tr_bl hb1 A0)
    | ((with_reducible refine wpList_stB 33 _ _ ?_); refine ⟨_, _, _, ⟨_, _, _, Tryz.sizeOf33, rfl, A1, st5 _ rfl 0 0 0 0 0⟩, ?_⟩; intro w5 B5 g5))
  have hb2 := hbA.trans (hb1.mono hbA.size)
  exact bodyPost_ret (results_t1c1t2 rfl rfl (run_loadVar_all Tryz.isAgg33 Tryz.sizeOf33 B5 rfl)) rfl ⟨⟨none, 0, rfl, slb_nil _⟩, bl_st hb2 g5 hb2.size (Nat.le_refl _)⟩
set_option maxRecDepth 100000 in
set_option maxHeartbeats 1000000 in
theorem honest_ok {B g gp : Nat} {wv : Value} {d : Dk} {w : World} (h : DiskB B g gp wv d w) (rep reg pla : Int) (ha : askG d rep reg pla = 0) : Calls Tryz.prog 24 #[.pointer (some ⟨g, 0, none⟩), .int .i64 rep, .int .i64 reg, .int .i64 pla] w fun e w' => HonRes (honG d rep reg pla) e w' ∧ Below w.heap.size w w' := by
  have hfa := ask_first ha
  have hbA := blw w (Obj.cells #[.int .i64 0, .int .i64 0, .int .i64 0, .int .i64 0, .int .i64 0] 33)
  have hk := asked_any _ _ (w.alloc (Obj.cells #[.int .i64 0, .int .i64 0, .int .i64 0, .int .i64 0, .int .i64 0] 33)) (h.below hbA).dn rep reg pla
  have hfi := first_any reg pla
  have hwi := wide_any reg
  unfold honG
  rw [if_neg (by simpa using ha)]
  unfold askG at ha
  rw [ha] at hk
  obtain ⟨f, hf⟩ : ∃ f : Nat, firstN reg pla = f := ⟨(firstN reg pla).toNat, by omega⟩
  obtain ⟨n, hn⟩ : ∃ n : Nat, wideN reg = n := ⟨(wideN reg).toNat, by omega⟩
  rw [hf] at hfi hfa ⊢
  rw [hn] at hwi hfa ⊢
  simp only [Int.toNat_natCast]
  obtain ⟨_, _, _, _, _, _, _, _, hfn, hn1, hn2⟩ := hfa
  have hfn' : f + n ≤ 156 := by omega
  have hn2' : n ≤ 2 := by omega
  clear ha hf hn hfn hn2
  obtain ⟨st, tg, body, hr⟩ : ∃ st tg body, mineF (allM d f n) rep reg pla = (st, tg, body) := ⟨_, _, _, rfl⟩
  simp only [hr]
  have HR := Lib.hid hr
  clear hr
  have A0 := heap_alloc_new w (Obj.cells #[.int .i64 0, .int .i64 0, .int .i64 0, .int .i64 0, .int .i64 0] 33)
  go_enter Tryz.func24, Tryz.ntmps24
  refine wp_seq_k (fun K hK => ?_)
  have HK := Lib.hid hK
  clear hK
  go_wp2
  refine HK.out _ _ ?_
  clear HK
  have hdA := h.below hbA
  have hqA : w.heap.size < (w.alloc (Obj.cells #[.int .i64 0, .int .i64 0, .int .i64 0, .int .i64 0, .int .i64 0] 33)).heap.size := by simp
  generalize w.alloc (Obj.cells #[.int .i64 0, .int .i64 0, .int .i64 0, .int .i64 0, .int .i64 0] 33) = w0 at *
  refine wp_seq_k (fun K hK => ?_)
  have HK := Lib.hid hK
  clear hK
  go_wp2_with (go_at_call 95; refine hk.mono ?_; rintro e w1 ⟨rfl, hb1⟩)
  refine HK.out _ _ ?_
  clear HK
  refine wp_seq_k (fun K hK => ?_)
  have HK := Lib.hid hK
  clear hK
  go_wp2
  refine HK.out _ _ ?_
  clear HK
  refine wp_seq_k (fun K hK => ?_)
  have HK := Lib.hid hK
  clear hK
  go_wp2_with (go_at_call 96; refine (hwi _).mono ?_; rintro e w2 ⟨rfl, hb2⟩)
  have hb3 := hb1.trans (hb2.mono hb1.size)
  have A3 := tr_bl hb3 A0
  have hd3 := hdA.below hb3
  have hb4 := hbA.trans (hb3.mono hbA.size)
  clear hb1 hb2 hb3 hk hwi hdA A0
  go_loopw [31, 13, 14, 15, 16] (fun s all _ _ _ wr => ∃ (j : Nat) (v : Value), j ≤ n ∧ s = .int .i64 (j : Int) ∧ all = v ∧ wr.ownsRow w2.heap.size 5 1 v (allM d f j).length (bys (allM d f j)) ∧ Below w2.heap.size w2 wr) (fun s _ _ _ _ _ => n - (intOf s).toNat)
  case atStart => exact ⟨0, _, by omega, by simp, rfl, World.ownsRow_nil _ _ _ _, Below.refl _ _⟩
  case round =>
    obtain ⟨j, v, hj, rfl, rfl, hown, hbr⟩ := hrel
    have hdr := hd3.below hbr
    by_cases hlt : j < n
    case pos =>
      have hil : (j : Int) < (n : Int) := by omega
      have hle := allM_len h f j
      have hrl := meantD_len h ((f + j : Nat) : Int)
      have hsn := allG_succ (fun s => (meantD d s).1) f j
      have hre := fun (w' : World) (hd : DiskB B g gp wv d w') => meant_sl hd ((f + j : Nat) : Int)
      change allM d f (j + 1) = allM d f j ++ _ at hsn
      (try simp only at hsn)
      simp only [Int.natCast_add] at hre hrl hsn
      generalize meantD d ((f : Int) + (j : Int)) = r at *
      obtain ⟨rl, er⟩ := r
      (try simp only at hre)
      (try simp only at hrl)
      (try simp only at hsn)
      have HSN := Lib.hid hsn
      clear hsn
      generalize hal : allM d f j = al at *
      clear hal
      go_wp2_with (first
        | (go_at_call 89; refine (hfi _).mono ?_; rintro e w7 ⟨rfl, hb7⟩; have hre7 := hre _ (hdr.below hb7); have hb77 := hbr.trans (hb7.mono hbr.size); have ho7 := owns_bl hown hb7)
        | (go_at_call 104; refine hre7.mono ?_; rintro e w8 ⟨⟨a8, c8, rfl, s8⟩, hb8⟩; have ho8 := owns_bl ho7 hb8; have hb9 := hb77.trans (hb8.mono hb77.size); have hr8 := s8.row)
        | (at_builtin; refine wpList_append_row rfl _ _ 34 5 elByte rfl w2.heap.size _ al.length (bys al) rfl ho8 a8 rl.length c8 (bys rl) rfl (by rw [bys_len]; omega) hr8 bys_one (by omega) (by decide) hb9.size ?_; intro v9 w9 ho9 hb10))
      rw [← bys_app] at ho9
      go_roundw
      case rel => exact ⟨j + 1, v9, by omega, by go_num, rfl, by rw [HSN.out, List.length_append]; exact ho9, hb9.trans hb10⟩
      case measure => simp [intOf]; omega
    case neg =>
      obtain rfl : j = n := by omega
      obtain ⟨a9, c9, rfl, s9⟩ := SlB.of_owns hown
      have hmi := mine_any a9 c9 (allM d f j) rep reg pla wr s9 (by have := allM_len h f j; omega)
      rw [HR.out] at hmi
      have A4 := tr_bl hbr A3
      have hb5 := hb4.trans (hbr.mono hb4.size)
      clear hdr hd3 hb4 A3 hown
      go_wp2
      refine HK.out _ _ ?_
      clear HK
      refine wp_seq_k (fun K hK => ?_)
      have HK := Lib.hid hK
      clear hK
      go_wp2_with (first
              | (go_at_call 97; refine hmi.mono ?_; rintro e w8 ⟨⟨a8, c8, rfl, ho8⟩, hb8⟩)
              | ((first | (with_reducible refine wpList_stNew 33 _ _ ?_) | (with_reducible refine wp_stNew 33 _ _ ?_)); refine ⟨_, _, ⟨Tryz.sizeOf33, rfl, tg_new _⟩, rfl, ?_⟩))
      refine HK.out _ _ ?_
      clear HK
      have A8 := tr_al (Obj.cells #[.int .i64 tg.rep, .int .i64 tg.reg, .int .i64 tg.pla, .int .i64 tg.idx, .int .i64 tg.inc] 33) (tr_bl hb8 A4)
      have T8 := heap_alloc_new w8 (Obj.cells #[.int .i64 tg.rep, .int .i64 tg.reg, .int .i64 tg.pla, .int .i64 tg.idx, .int .i64 tg.inc] 33)
      have hb9 := (hb5.trans (hb8.mono hb5.size)).alloc (by have := hb5.size; have := hb8.size; omega) (Obj.cells #[.int .i64 tg.rep, .int .i64 tg.reg, .int .i64 tg.pla, .int .i64 tg.idx, .int .i64 tg.inc] 33)
      have ho9 := ho8.below (blw w8 (Obj.cells #[.int .i64 tg.rep, .int .i64 tg.reg, .int .i64 tg.pla, .int .i64 tg.idx, .int .i64 tg.inc] 33))
      have hne : w.heap.size ≠ w8.heap.size := by have := hb5.size; have := hb8.size; have := lt_blk A4; omega
      clear hb5 hbr hb8 ho8 A4 hmi s9
      generalize w8.alloc (Obj.cells #[.int .i64 tg.rep, .int .i64 tg.reg, .int .i64 tg.pla, .int .i64 tg.idx, .int .i64 tg.inc] 33) = w9 at *
      generalize w8.heap.size = q8 at *
      refine wp_seq_k (fun K hK => ?_)
      have HK := Lib.hid hK
      clear hK
      go_wp2_with fail
      have hbd := (Below.refl w9.heap.size w9).drew
      have F4 := tr_bl hbd A8
      have T11 := tr_bl hbd T8
      have hb14 := hb9.trans (hbd.mono hb9.size)
      have ho11 := ho9.below hbd
      clear A8 T8 hb9 ho9
      refine wp_region_held_drew (S := fun w' => w'.heap[q8]? = some (.cells #[.int .i64 tg.rep, .int .i64 tg.reg, .int .i64 tg.pla, .int .i64 tg.idx, .int .i64 tg.inc] 33 (0, 0))) (by kernel_rfl) T11 (fun hS0 => ?_)
      clear hbd
      generalize w9.drew = x0 at *
      refine wpAnyH_take (i := 0) (oi := ⟨_, _, _, _, _, _⟩) (v := ?_) rfl (by kernel_rfl) (by kernel_rfl) (by kernel_rfl) (fun _ _ _ h => h) (Or.inl ⟨by rfl, ?_⟩) (by assumption) ?_
      rotate_left
      · intro wS hSw
        go_simp; (try with_reducible rfl)
      (try simp only [Act.put])
      (try simp only [List.setIfInBounds_toArray])
      (try simp only [List.set_cons_succ])
      (try simp only [List.set_cons_zero])
      refine wpAnyH_take (i := 1) (oi := ⟨_, _, _, _, _, _⟩) (v := .agg (#[.int .i64 tg.rep, .int .i64 tg.reg, .int .i64 tg.pla, .int .i64 tg.idx, .int .i64 tg.inc])) rfl (by kernel_rfl) (by kernel_rfl) (by kernel_rfl) (fun _ _ _ h => h) (Or.inl ⟨by rfl, fun wS hSw => ?_⟩) (by assumption) ?_
      · exact exec_ldB 33 _ ⟨_, _, _, _, _, Tryz.isAgg33, Tryz.sizeOf33, rfl, hSw, ld5 _ _ _ _ _⟩
      (try simp only [Act.put])
      (try simp only [List.setIfInBounds_toArray])
      (try simp only [List.set_cons_succ])
      (try simp only [List.set_cons_zero])
      refine wpAnyH_take (i := 2) (oi := ⟨_, _, _, _, _, _⟩) (v := ?_) rfl (by kernel_rfl) (by kernel_rfl) (by kernel_rfl) (fun _ _ _ h => h) (Or.inl ⟨by rfl, ?_⟩) (by assumption) ?_
      rotate_left
      · intro wS hSw
        go_simp; (try with_reducible rfl)
      (try simp only [Act.put])
      (try simp only [List.setIfInBounds_toArray])
      (try simp only [List.set_cons_succ])
      (try simp only [List.set_cons_zero])
      refine wpAnyH_take (i := 3) (oi := ⟨_, _, _, _, _, _⟩) (v := ?_) rfl (by kernel_rfl) (by kernel_rfl) (by kernel_rfl) (fun _ _ _ h => h) (Or.inl ⟨by rfl, ?_⟩) (by assumption) ?_
      rotate_left
      · intro wS hSw
        go_simp; (try with_reducible rfl)
      (try simp only [Act.put])
      (try simp only [List.setIfInBounds_toArray])
      (try simp only [List.set_cons_succ])
      (try simp only [List.set_cons_zero])
      refine wpAnyH_ready (rs := [4]) (by kernel_rfl) (by simp) ?_
      refine AllReadyH.cons (o := ⟨_, _, _, _, _, _⟩) rfl (fun K' hK' => ?_) AllReadyH.nil
      refine (if_pos (by rfl)).mpr ?_
      refine wp_stB 33 _ _ ?_
      refine ⟨_, _, _, ⟨_, _, _, Tryz.sizeOf33, rfl, F4, st5 _ rfl tg.rep tg.reg tg.pla tg.idx tg.inc⟩, ?_⟩
      intro w11 B11 g11
      refine hK'.out _ _ (tr_st g11 hS0 hne) (fun _ => ?_)
      clear hK'
      (try simp only [Act.put])
      (try simp only [List.setIfInBounds_toArray])
      (try simp only [List.set_cons_succ])
      (try simp only [List.set_cons_zero])
      refine wpAnyH_take (i := 5) (oi := ⟨_, _, _, _, _, _⟩) (v := ?_) rfl (by kernel_rfl) (by kernel_rfl) (by kernel_rfl) (fun _ _ _ h => h) (Or.inl ⟨by rfl, ?_⟩) (by assumption) ?_
      rotate_left
      · intro wS hSw
        go_simp; (try with_reducible rfl)
      (try simp only [Act.put])
      (try simp only [List.setIfInBounds_toArray])
      (try simp only [List.set_cons_succ])
      (try simp only [List.set_cons_zero])
      refine wpAnyH_take (i := 6) (oi := ⟨_, _, _, _, _, _⟩) (v := ?_) rfl (by kernel_rfl) (by kernel_rfl) (by kernel_rfl) (fun _ _ _ h => h) (Or.inl ⟨by rfl, ?_⟩) (by assumption) ?_
      rotate_left
      · intro wS hSw
        go_simp; (try with_reducible rfl)
      (try simp only [Act.put])
      (try simp only [List.setIfInBounds_toArray])
      (try simp only [List.set_cons_succ])
      (try simp only [List.set_cons_zero])
      refine wpAnyH_done (by kernel_rfl) ?_ _
      refine HK.out _ _ ?_
      clear HK
      go_wp2
      exact bodyPost_ret (results_t1c1t2 rfl rfl (run_loadVar_all Tryz.isAgg33 Tryz.sizeOf33 B11 rfl)) rfl ⟨⟨a8, c8, rfl, (ho11.st g11 F4 (by decide)).slb⟩, bl_st hb14 g11 hb14.size (Nat.le_refl _)⟩
theorem honest_any {B g gp : Nat} {wv : Value} {d : Dk} {w : World} (h : DiskB B g gp wv d w) (rep reg pla : Int) : Calls Tryz.prog 24 #[.pointer (some ⟨g, 0, none⟩), .int .i64 rep, .int .i64 reg, .int .i64 pla] w fun e w' => HonRes (honG d rep reg pla) e w' ∧ Below w.heap.size w w' := by
  by_cases ha : askG d rep reg pla = 0
  · exact honest_ok h rep reg pla ha
  · have := honest_err _ _ w h.dn rep reg pla ha
    unfold honG
    rw [if_pos ha]
    exact this
end Go.Proofs.YthfolocjkpiljaaGreatDoor

namespace Go.Proofs.YthfolocjkpiljaaGreatDoor
open Go.RowKit

theorem seenR_no {d : Dk} {rep : Int} {r p : Nat} (hr : r < 5) (hp : p < (placesN ((r + 1 : Nat) : Int)).toNat) (h : (placeG d rep ((r + 1 : Nat) : Int) p).1 ≠ (placeG d rep ((r + 1 : Nat) : Int) p).2.1) : seenR d rep 5 = false := by
  rw [Bool.eq_false_iff]
  intro hh
  unfold seenR at hh
  rw [List.all_eq_true] at hh
  have h1 := hh r (List.mem_range.2 hr)
  unfold seenP at h1
  rw [List.all_eq_true] at h1
  have h2 := h1 p (List.mem_range.2 hp)
  exact h (eq_of_beq h2)
set_option maxRecDepth 100000 in
theorem seen_err (p : Value) (n : Nat) (w : World) (h : DiskN w p n) (rep : Int) (ha : askN n rep 1 0 ≠ 0) : Calls Tryz.prog 22 #[p, .int .i64 rep] w fun e w' => e = .returned (.tuple #[.bool false, .int .i64 (askN n rep 1 0)]) ∧ Below w.heap.size w w' := by
  have hk := asked_any p n w h rep 1 0
  generalize askN n rep 1 0 = x at *
  have e0 : (x != 0) = true := by rw [bne_iff_ne]; exact ha
  clear ha
  go_enter Tryz.func22, Tryz.ntmps22
  go_wp2_with (go_at_call 95; refine hk.mono ?_; rintro e w1 ⟨rfl, hb1⟩)
  go_ret2
  exact ⟨rfl, hb1⟩
set_option maxRecDepth 100000 in
set_option maxHeartbeats 1000000 in
theorem seen_ok {B g gp : Nat} {wv : Value} {d : Dk} {w : World} (h : DiskB B g gp wv d w) (rep : Int) (ha : askG d rep 1 0 = 0) : Calls Tryz.prog 22 #[.pointer (some ⟨g, 0, none⟩), .int .i64 rep] w fun e w' => e = .returned (.tuple #[.bool (seenG d rep).1, .int .i64 (seenG d rep).2]) ∧ Below w.heap.size w w' := by
  have hk := asked_any _ _ w h.dn rep 1 0
  unfold seenG
  rw [if_neg (by simpa using ha)]
  unfold askG at ha
  rw [ha] at hk
  clear ha
  obtain ⟨res, hres⟩ : ∃ res, seenR d rep 5 = res := ⟨_, rfl⟩
  simp only [hres]
  have HRES := Lib.hid hres
  clear hres
  go_enter Tryz.func22, Tryz.ntmps22
  refine wp_seq_k (fun K hK => ?_)
  have HK := Lib.hid hK
  clear hK
  go_wp2
  refine HK.out _ _ ?_
  clear HK
  refine wp_seq_k (fun K hK => ?_)
  have HK := Lib.hid hK
  clear hK
  go_wp2_with (go_at_call 95; refine hk.mono ?_; rintro e w1 ⟨rfl, hb1⟩)
  refine HK.out _ _ ?_
  clear HK
  refine wp_seq_k (fun K hK => ?_)
  have HK := Lib.hid hK
  clear hK hk
  go_wp2
  go_loopw [7, 8, 9, 10, 11] (fun s _ _ _ _ wr => ∃ r : Nat, r ≤ 5 ∧ s = .int .i64 ((r : Int) + 1) ∧ seenR d rep r = true ∧ Below w.heap.size w wr) (fun s _ _ _ _ _ => 6 - (intOf s).toNat)
  case atStart => exact ⟨0, by omega, rfl, rfl, hb1⟩
  case round =>
    obtain ⟨r, hr5, rfl, hsr, hbr⟩ := hrel
    have hps := places_any ((r : Int) + 1)
    obtain ⟨N, hN, hN2, hN3, hN48⟩ : ∃ N : Nat, placesN ((r : Int) + 1) = N ∧ (r < 5 → 0 < N) ∧ (r = 5 → N = 0) ∧ N ≤ 48 := by
      rcases (show r = 0 ∨ r = 1 ∨ r = 2 ∨ r = 3 ∨ r = 4 ∨ r = 5 by omega) with rfl | rfl | rfl | rfl | rfl | rfl
      · exact ⟨2, rfl, by omega, by omega, by omega⟩
      · exact ⟨2, rfl, by omega, by omega, by omega⟩
      · exact ⟨24, rfl, by omega, by omega, by omega⟩
      · exact ⟨48, rfl, by omega, by omega, by omega⟩
      · exact ⟨16, rfl, by omega, by omega, by omega⟩
      · exact ⟨0, rfl, by omega, by omega, by omega⟩
    rw [hN] at hps
    have HN := Lib.hid hN
    have HSR := Lib.hid hsr
    clear hN hsr
    by_cases hlt : r < 5
    case neg =>
      obtain rfl : r = 5 := by omega
      obtain rfl := hN3 rfl
      have hres : res = true := by rw [← HRES.out, HSR.out]
      clear hN2 hN3 hlt HN
      subst hres
      go_wp2_with (go_at_call 102; refine (hps _).mono ?_; rintro e w2 ⟨rfl, hb2⟩)
      refine HK.out _ _ ?_
      clear HK
      go_wp2
      go_ret2
      exact ⟨rfl, hbr.trans (hb2.mono hbr.size)⟩
    case pos =>
      have hN0 : (0 : Int) < (N : Int) := by have := hN2 hlt; omega
      clear hN2 hN3
      refine wp_seq_k (fun K2 hK2 => ?_)
      have HK2 := Lib.hid hK2
      clear hK2
      go_wp2_with (go_at_call 102; refine (hps _).mono ?_; rintro e w2 ⟨rfl, hb2⟩)
      refine HK2.out _ _ ?_
      clear HK2
      have hb3 := hbr.trans (hb2.mono hbr.size)
      clear hbr hb2
      refine wp_seq_k (fun K3 hK3 => ?_)
      have HK3 := Lib.hid hK3
      clear hK3
      go_wp2_with (go_at_call 102; refine (hps _).mono ?_; rintro e w3 ⟨rfl, hb4⟩)
      have hb5 := hb3.trans (hb4.mono hb3.size)
      clear hb3 hb4
      go_loopw [25, 8, 9, 10, 11] (fun s _ _ _ _ wr => ∃ p : Nat, p ≤ N ∧ s = .int .i64 (p : Int) ∧ seenP d rep (r + 1) p = true ∧ Below w.heap.size w wr) (fun s _ _ _ _ _ => N - (intOf s).toNat)
      case atStart => exact ⟨0, by omega, rfl, rfl, hb5⟩
      case round =>
        clear hb5
        obtain ⟨p, hpN, rfl, hsp, hbp⟩ := hrel
        have HSP := Lib.hid hsp
        clear hsp
        by_cases hpl : p < N
        case pos =>
          have hpi : (p : Int) < (N : Int) := by omega
          have hpl2 := place_any (h.below hbp) rep ((r : Int) + 1) (p : Int)
          have hno := fun hh => seenR_no (d := d) (rep := rep) hlt (p := p) (by rw [Int.natCast_succ, HN.out]; simpa using hpl) hh
          have hye := seenP_succ d rep (r + 1) p
          rw [HSP.out, Bool.true_and] at hye
          rw [Int.natCast_succ] at hno hye
          obtain ⟨hu, se, er, hpg⟩ : ∃ hu se er, placeG d rep ((r : Int) + 1) (p : Int) = (hu, se, er) := ⟨_, _, _, rfl⟩
          rw [hpg] at hpl2 hno hye
          clear hpg
          simp only at hpl2 hno hye
          by_cases heq : hu = se
          case pos =>
            subst heq
            have HYE := Lib.hid (show seenP d rep (r + 1) (p + 1) = true by rw [hye]; simp)
            clear hno hye
            cases hu
            all_goals
              go_wp2_with (first
                | (go_at_call 20; refine hpl2.mono ?_; rintro e w5 ⟨rfl, hb5⟩))
              go_roundw
              case rel => exact ⟨p + 1, by omega, by go_num, HYE.out, hbp.trans (hb5.mono hbp.size)⟩
              case measure => simp [intOf]; omega
          case neg =>
            have hres : res = false := by rw [← HRES.out]; exact hno heq
            subst hres
            clear hno hye
            have hse : se = !hu := by revert heq; cases hu <;> cases se <;> simp
            subst hse
            clear heq
            cases hu
            all_goals
              simp only [Bool.not_false, Bool.not_true] at hpl2
              go_wp2_with (first
                | (go_at_call 20; refine hpl2.mono ?_; rintro e w5 ⟨rfl, hb5⟩))
              go_ret2
              exact ⟨rfl, hbp.trans (hb5.mono hbp.size)⟩
        case neg =>
          obtain rfl : p = N := by omega
          have HS2 := Lib.hid (show seenR d rep (r + 1) = true by
            rw [seenR_succ, HSR.out, Bool.true_and, Int.natCast_succ, HN.out]
            exact HSP.out)
          go_wp2
          refine HK3.out _ _ ?_
          clear HK3
          go_wp2
          go_roundw
          case rel => exact ⟨r + 1, by omega, by go_num, HS2.out, hbp⟩
          case measure => simp [intOf]; omega
theorem seen_any {B g gp : Nat} {wv : Value} {d : Dk} {w : World} (h : DiskB B g gp wv d w) (rep : Int) : Calls Tryz.prog 22 #[.pointer (some ⟨g, 0, none⟩), .int .i64 rep] w fun e w' => e = .returned (.tuple #[.bool (seenG d rep).1, .int .i64 (seenG d rep).2]) ∧ Below w.heap.size w w' := by
  by_cases ha : askG d rep 1 0 = 0
  · exact seen_ok h rep ha
  · have := seen_err _ _ w h.dn rep ha
    unfold seenG
    rw [if_pos ha]
    exact this
end Go.Proofs.YthfolocjkpiljaaGreatDoor

namespace Go.Proofs.YthfolocjkpiljaaGreatDoor
open Go.RowKit

/-- Which chunks are hurt, below one. -/
def blP (d' : Dk) (ar : Int) (n : Nat) : List Int := ((List.range n).filter (fun (k : Nat) => (placeG d' 2 5 (8 * ar + (k : Int))).1)).map (fun (k : Nat) => (k : Int))
section
variable {d' : Dk} {ar : Int} {n m : Nat}
theorem blP_yes (h : (placeG d' 2 5 (8 * ar + (n : Int))).1 = true) : blP d' ar (n + 1) = blP d' ar n ++ [(n : Int)] := by
  unfold blP
  rw [List.range_succ, List.filter_append, List.map_append]
  simp [h]
theorem blP_no (h : (placeG d' 2 5 (8 * ar + (n : Int))).1 = false) : blP d' ar (n + 1) = blP d' ar n := by
  unfold blP
  rw [List.range_succ, List.filter_append, List.map_append]
  simp [h]
theorem blP_len (d' : Dk) (ar : Int) (n : Nat) : (blP d' ar n).length ≤ n := by
  unfold blP
  rw [List.length_map]
  exact Nat.le_trans (List.length_filter_le _ _) (by simp)
theorem blP_lt {x : Int} (h : x ∈ blP d' ar n) : 0 ≤ x ∧ x < n := by
  unfold blP at h
  obtain ⟨k, hk, rfl⟩ := List.mem_map.1 h
  have := List.mem_range.1 (List.mem_filter.1 hk).1
  omega
theorem blP_more (d' : Dk) (ar : Int) (m : Nat) : ∀ k : Nat, ∃ r : List Int, blP d' ar (m + k) = blP d' ar m ++ r ∧ ∀ x ∈ r, (m : Int) ≤ x ∧ x < m + k
  | 0 => ⟨[], by simp, fun x hx => by simp at hx⟩
  | k + 1 => by
    obtain ⟨r, e, h⟩ := blP_more d' ar m k
    rw [show m + (k + 1) = (m + k) + 1 by omega]
    cases hp : (placeG d' 2 5 (8 * ar + ((m + k : Nat) : Int))).1
    · refine ⟨r, by rw [blP_no hp, e], fun x hx => ?_⟩
      have := h x hx
      omega
    · refine ⟨r ++ [((m + k : Nat) : Int)], by rw [blP_yes hp, e, List.append_assoc], fun x hx => ?_⟩
      rcases List.mem_append.1 hx with hx | hx
      · have := h x hx
        omega
      · rw [List.mem_singleton] at hx
        omega
theorem bl_get (hm : m ≤ 8) {j : Nat} (hj : j < (blP d' ar 8).length) : ∃ x : Int, (blP d' ar 8)[j]? = some x ∧ 0 ≤ x ∧ x < 8 ∧ ((j < (blP d' ar m).length ∧ (blP d' ar m)[j]? = some x ∧ x < m) ∨ ((blP d' ar m).length ≤ j ∧ (m : Int) ≤ x)) := by
  obtain ⟨r, e, h⟩ := blP_more d' ar m (8 - m)
  rw [show m + (8 - m) = 8 by omega] at e
  have hx := List.getElem?_eq_getElem hj
  have hb := blP_lt (List.getElem_mem hj)
  refine ⟨_, hx, hb.1, hb.2, ?_⟩
  by_cases hlt : j < (blP d' ar m).length
  · refine .inl ⟨hlt, ?_, ?_⟩
    · rw [← hx, e, List.getElem?_append_left hlt]
    · have h1 : (blP d' ar m)[j]? = some ((blP d' ar 8)[j]) := by rw [← hx, e, List.getElem?_append_left hlt]
      exact (blP_lt (List.mem_of_getElem? h1)).2
  · refine .inr ⟨by omega, ?_⟩
    have h1 : r[j - (blP d' ar m).length]? = some ((blP d' ar 8)[j]) := by rw [← hx, e, List.getElem?_append_right (by omega)]
    exact (h _ (List.mem_of_getElem? h1)).1
end
section
variable {d9 d' : Dk} {s : Sh} {b : List UInt8} {o : Vo} {ar : Int}
theorem hurt_bl (p : Parted d9 s b o (wholeP d' s)) (hr : s.rep = 2) (ha : s.area = ar) : hurtS d9 { s with inc := 2 } s.cnt.toNat = blP d' ar (numC b.length) := by
  have h := p.hurts
  show hurtS d9 s s.cnt.toNat = _
  rw [h]
  unfold blP
  congr 1
  refine List.filter_congr fun k _ => ?_
  unfold wholeP plaS
  rw [hr, ha, Bool.not_not]
theorem bytes_bl (p : Parted d9 s b o (wholeP d' s)) (hr : s.rep = 2) (ha : s.area = ar) : bytesS d9 { s with inc := 2 } = if (blP d' ar (numC b.length)).length = 0 then (b, 0) else ([], 130) := by
  have hg : ∀ i : Nat, wholeP d' s i = !(placeG d' 2 5 (8 * ar + (i : Int))).1 := fun i => by unfold wholeP plaS; rw [hr, ha]
  show bytesS d9 s = _
  by_cases h0 : (blP d' ar (numC b.length)).length = 0
  · rw [if_pos h0]
    refine (p.holds fun i hi => ?_).bytes
    rw [hg]
    cases hp : (placeG d' 2 5 (8 * ar + (i : Int))).1
    · rfl
    · have h1 : (i : Int) ∈ blP d' ar (numC b.length) := by
        unfold blP
        exact List.mem_map.2 ⟨i, List.mem_filter.2 ⟨List.mem_range.2 hi, hp⟩, rfl⟩
      rw [List.eq_nil_of_length_eq_zero h0] at h1
      simp at h1
  · rw [if_neg h0]
    obtain ⟨x, hx⟩ := List.exists_mem_of_length_pos (Nat.pos_of_ne_zero h0)
    unfold blP at hx
    obtain ⟨i, hi, rfl⟩ := List.mem_map.1 hx
    obtain ⟨h1, h2⟩ := List.mem_filter.1 hi
    exact p.bad (List.mem_range.1 h1) (by rw [hg, h2]; rfl)
end
theorem owns_kt {B w w' base size n} {e : TypeId} {v : Value} {xs : List Value} (h : World.ownsRow w base e size v n xs) (hk : Kt B w w') (h1 : e ≠ 175) (h2 : e ≠ 218) (h3 : e ≠ 278) : World.ownsRow w' base e size v n xs := by
  obtain ⟨hl, h | ⟨k, cap, cur, hv, hkk, hc, r⟩⟩ := h
  · exact ⟨hl, .inl h⟩
  · exact ⟨hl, .inr ⟨k, cap, cur, hv, hkk, hk.ty _ _ _ hc h1 h2 h3, r⟩⟩
set_option maxRecDepth 100000 in
set_option maxHeartbeats 4000000 in
theorem nothing_law (a fa : Option Addr) (c fc : Nat) (ls : List Part) (fs : List (Nat × Nat × Nat)) (w : World) (hl : Parts w a ls) (hfs : Flts w fa fs) : Calls Tryz.prog 12 #[.slice a ls.length c, .slice fa fs.length fc] w fun e w' => e = .returned (.bool true) ∧ Below w.heap.size w w' := by
  cases hg : grS ls
  case true =>
    have HG := Lib.hid hg
    clear hg
    go_enter Tryz.func12, Tryz.ntmps12
    refine wp_seq_k (fun K hK => ?_)
    have HK := Lib.hid hK
    clear hK
    go_wp2
    refine HK.out _ _ ?_
    clear HK
    refine wp_seq_k (fun K hK => ?_)
    have HK := Lib.hid hK
    clear hK
    go_wp2_with (go_at_call 51; refine (sawake_any _).mono ?_; rintro e w1 ⟨rfl, hb1⟩)
    refine HK.out _ _ ?_
    clear HK
    go_wp2_with (go_at_call 52; refine (lgreatS_any _ c ls _ (parts_kt hl hb1)).mono ?_; rintro e w2 ⟨rfl, hb2⟩; rw [HG.out])
    go_ret
    exact ⟨rfl, hb1.trans (hb2.mono hb1.size)⟩
  case false =>
  obtain ⟨h6, h640⟩ := grS_no hg
  have HG := Lib.hid hg
  have HL := Lib.hid h640
  clear hg h640
  by_cases h0 : ls.length = 0
  case pos =>
    have hI : ((ls.length : Int) == 0) = true := by rw [h0]; rfl
    clear h0
    go_enter Tryz.func12, Tryz.ntmps12
    refine wp_seq_k (fun K hK => ?_)
    have HK := Lib.hid hK
    clear hK
    go_wp2
    refine HK.out _ _ ?_
    clear HK
    refine wp_seq_k (fun K hK => ?_)
    have HK := Lib.hid hK
    clear hK
    go_wp2_with (go_at_call 51; refine (sawake_any _).mono ?_; rintro e w1 ⟨rfl, hb1⟩)
    refine HK.out _ _ ?_
    clear HK
    go_wp2_with (go_at_call 52; refine (lgreatS_any _ c ls _ (parts_kt hl hb1)).mono ?_; rintro e w2 ⟨rfl, hb2⟩; rw [HG.out])
    go_ret
    exact ⟨rfl, hb1.trans (hb2.mono hb1.size)⟩
  case neg =>
  have hI : ((ls.length : Int) == 0) = false := by rw [beq_eq_false_iff_ne]; omega
  by_cases hf40 : fs.length ≤ 40
  case neg =>
    have hI2 : (40 : Int) < fs.length := by omega
    clear h0
    go_enter Tryz.func12, Tryz.ntmps12
    refine wp_seq_k (fun K hK => ?_)
    have HK := Lib.hid hK
    clear hK
    go_wp2
    refine HK.out _ _ ?_
    clear HK
    refine wp_seq_k (fun K hK => ?_)
    have HK := Lib.hid hK
    clear hK
    go_wp2_with (go_at_call 51; refine (sawake_any _).mono ?_; rintro e w1 ⟨rfl, hb1⟩)
    refine HK.out _ _ ?_
    clear HK
    go_wp2_with (go_at_call 52; refine (lgreatS_any _ c ls _ (parts_kt hl hb1)).mono ?_; rintro e w2 ⟨rfl, hb2⟩; rw [HG.out])
    go_ret
    exact ⟨rfl, hb1.trans (hb2.mono hb1.size)⟩
  case pos =>
  have hI2 : ¬ (40 : Int) < fs.length := by omega
  obtain ⟨m0, hm0⟩ : ∃ m0, ls.length = m0 + 1 := ⟨ls.length - 1, by omega⟩
  obtain ⟨xa, xc, xb, hlp, hat⟩ := last_slb hm0
  obtain ⟨hmlt, hat2⟩ := List.getElem?_eq_some_iff.1 hat
  obtain ⟨b1, o1, rfl⟩ := hl.addr (by omega)
  have hx := fun w' (hb : Below w.heap.size w w') => (parts_kt hl hb).each _ (List.getElem_mem hmlt)
  have hcell := fun w' (hb : Below w.heap.size w w') => (parts_kt hl hb).cell hmlt
  rw [hat2] at hx hcell
  simp only at hx
  unfold partV at hcell
  simp only at hcell
  have hsub : (ls.length : Int) - 1 = (m0 : Int) := by omega
  have HLP := Lib.hid hlp
  have HM0 := Lib.hid hm0
  have HX := Lib.hid hx
  have HCELL := Lib.hid hcell
  have HAR : Hid ((1 : Int) - (ls.length : Int) % 2 = areaP ls.length) := Lib.hid (by rw [hm0]; show _ = ((m0 % 2 : Nat) : Int); omega)
  clear hlp hm0 hat hat2 hx hcell h0
  go_enter Tryz.func12, Tryz.ntmps12
  refine wp_seq_k (fun K hK => ?_)
  have HK := Lib.hid hK
  clear hK
  go_wp2
  refine HK.out _ _ ?_
  clear HK
  refine wp_seq_k (fun K hK => ?_)
  have HK := Lib.hid hK
  clear hK
  go_wp2_with (go_at_call 51; refine (sawake_any _).mono ?_; rintro e w1 ⟨rfl, hb1⟩)
  refine HK.out _ _ ?_
  clear HK
  refine wp_seq_k (fun K hK => ?_)
  have HK := Lib.hid hK
  clear hK
  go_wp2_with (go_at_call 52; refine (lgreatS_any _ c ls _ (parts_kt hl hb1)).mono ?_; rintro e w2 ⟨rfl, hb2⟩; rw [HG.out])
  refine HK.out _ _ ?_
  clear HK
  have hb02 := hb1.trans (hb2.mono hb1.size)
  clear hb1 hb2
  refine wp_seq_k (fun K hK => ?_)
  have HK := Lib.hid hK
  clear hK
  go_wp2_with (go_at_call 14; refine (new156 (B := w.heap.size) hb02.size).mono ?_; rintro e w3 ⟨⟨g, gp, rfl, D3⟩, hb3⟩)
  refine HK.out _ _ ?_
  clear HK
  have k3 := ((Kt.of hb02 (Nat.le_refl w.heap.size)).trans (Kt.of hb3 hb02.size)).kq
  clear hb02 hb3
  have hin := linst_any D3 k3.bl.size _ c (fun w' hk => parts_kt hl (k3.trans hk).bl) h6 HL.out
  refine wp_seq_k (fun K hK => ?_)
  have HK := Lib.hid hK
  clear hK
  go_wp2_with (go_at_call 53; refine hin.mono ?_; rintro e w4 ⟨⟨q, rfl, hq, d, s, o, ⟨wv4, D4⟩, S4, hh, hi, hv, hr, hc, har, hcl⟩, k4'⟩)
  refine HK.out _ _ ?_
  clear HK
  have k4 := k3.trans k4'
  clear hin D3 k3 k4' S4 hq
  rw [HLP.out] at hh
  have hlh := lhurt_any D4 k4.bl.size (Flt.refl hh.live) fa fc (fun w' hk => hfs.below (k4.trans hk.kq).bl) hf40
  refine wp_seq_k (fun K hK => ?_)
  have HK := Lib.hid hK
  clear hK
  go_wp2_with (go_at_call 79; refine hlh.mono ?_; rintro e w5 ⟨rfl, ⟨d', D5, hF⟩, k5'⟩)
  refine HK.out _ _ ?_
  clear HK
  have k5 := k4.trans k5'.kq
  clear hlh D4 k4 k5'
  have hse := seen_any D5 2
  have hask : askG d' 2 1 0 = 0 := ask_of hF.live.len (by decide) (by decide)
  have hs0 : seenG d' 2 = (seenR d' 2 5, 0) := by unfold seenG; rw [if_neg (by simp [hask])]
  cases hsr : seenR d' 2 5
  case false =>
    rw [hsr] at hs0
    rw [hs0] at hse
    have HIH := Lib.hid hh
    clear hh hs0 hsr hask hi hv hr hc har hcl hF
    go_wp2_with (go_at_call 22; refine hse.mono ?_; rintro e w6 ⟨rfl, hb6⟩)
    go_ret
    exact ⟨rfl, k5.bl.trans (hb6.mono k5.bl.size)⟩
  case true =>
  rw [hsr] at hs0
  rw [hs0] at hse
  have HS0 := Lib.hid hs0
  have hpa := fun w' (hb : Below w5.heap.size w5 w') => place_any (D5.below hb) 2 2 0
  have hpb := fun w' (hb : Below w5.heap.size w5 w') => place_any (D5.below hb) 2 2 1
  obtain ⟨pa, hpae⟩ : ∃ pa, (placeG d' 2 2 0).1 = pa := ⟨_, rfl⟩
  obtain ⟨pb, hpbe⟩ : ∃ pb, (placeG d' 2 2 1).1 = pb := ⟨_, rfl⟩
  rw [hpae] at hpa
  rw [hpbe] at hpb
  have HPA := Lib.hid hpae
  have HPB := Lib.hid hpbe
  have HF := Lib.hid hF
  have HH := Lib.hid hh
  have HI8 := Lib.hid hi
  have HR := Lib.hid hr
  have HARS := Lib.hid har
  have HCL := Lib.hid hcl
  clear hs0 hsr hask hpae hpbe hF hh hi hv hr hc har hcl
  refine wp_seq_k (fun K hK => ?_)
  have HK := Lib.hid hK
  clear hK
  go_wp2_with (go_at_call 22; refine hse.mono ?_; rintro e w6 ⟨rfl, hb6⟩)
  refine HK.out _ _ ?_
  clear HK
  refine wp_seq_k (fun K hK => ?_)
  have HK := Lib.hid hK
  clear hK
  go_wp2
  refine HK.out _ _ ?_
  clear HK
  refine wp_seq_k (fun K hK => ?_)
  have HK := Lib.hid hK
  clear hK
  go_wp2_with (go_at_call 20; refine (hpa _ hb6).mono ?_; rintro e w7 ⟨rfl, hb7⟩)
  refine HK.out _ _ ?_
  clear HK
  have hb57 := hb6.trans (hb7.mono hb6.size)
  refine wp_seq_k (fun K hK => ?_)
  have HK := Lib.hid hK
  clear hK
  go_wp2_with (go_at_call 20; refine (hpb _ hb57).mono ?_; rintro e w8 ⟨rfl, hb8⟩)
  refine HK.out _ _ ?_
  clear HK
  have hb58 := hb57.trans (hb8.mono hb57.size)
  have D8 := D5.below hb58
  have k8 := k5.trans (Kt.of hb58 k5.bl.size).kq
  clear hse hpa hpb hb6 hb7 hb8 hb57 hb58 D5 k5
  refine wp_seq_k (fun K hK => ?_)
  have HK := Lib.hid hK
  clear hK
  go_wp2
  refine HK.out _ _ ?_
  clear HK
  refine wp_seq_k (fun K hK => ?_)
  have HK := Lib.hid hK
  clear hK
  go_wp2
  refine HK.out _ _ ?_
  clear HK
  rw [HAR.out]
  obtain ⟨ar, hare⟩ : ∃ ar, areaP ls.length = ar := ⟨_, rfl⟩
  rw [hare]
  have HARE := Lib.hid (HARS.out.trans hare)
  have har1 : 0 ≤ ar ∧ ar ≤ 1 := by rw [← hare, HM0.out]; show 0 ≤ ((m0 % 2 : Nat) : Int) ∧ ((m0 % 2 : Nat) : Int) ≤ 1; omega
  clear hare HARS HAR
  refine wp_seq_k (fun K hK => ?_)
  have HK := Lib.hid hK
  clear hK
  go_wp2_with fail
  go_loopw [17, 15, 18, 19, 20] (fun i o _ _ _ wr => ∃ (j : Nat) (v : Value), j ≤ 8 ∧ i = .int .i64 (j : Nat) ∧ o = v ∧ wr.ownsRow w8.heap.size 3 1 v (blP d' ar j).length ((blP d' ar j).map (Value.int .i64)) ∧ Below w8.heap.size w8 wr) (fun i _ _ _ _ _ => 8 - (intOf i).toNat)
  case atStart => exact ⟨0, _, by omega, rfl, rfl, World.ownsRow_nil _ _ _ _, Below.refl _ _⟩
  case round =>
    obtain ⟨j, v, hj, rfl, rfl, hown, hbr⟩ := hrel
    by_cases hlt : j < 8
    case pos =>
      have hI3 : (j : Int) < 8 := by omega
      have hpl := place_any (D8.below hbr) 2 5 (8 * ar + (j : Int))
      have hlen := blP_len d' ar j
      cases hp : (placeG d' 2 5 (8 * ar + (j : Int))).1
      case false =>
        rw [hp] at hpl
        have HS := Lib.hid (blP_no hp)
        clear hp
        go_wp2_with (go_at_call 20; refine hpl.mono ?_; rintro e w9 ⟨rfl, hb9⟩)
        go_roundw
        case rel => exact ⟨j + 1, _, by omega, by go_num, rfl, by rw [HS.out]; exact owns_bl hown hb9, hbr.trans (hb9.mono hbr.size)⟩
        case measure => simp [intOf]; omega
      case true =>
        rw [hp] at hpl
        have HS := Lib.hid (blP_yes hp)
        clear hp
        generalize blP d' ar j = hu at *
        go_wp2_with (first
          | (go_at_call 20; refine hpl.mono ?_; rintro e w9 ⟨rfl, hb9⟩; have o9 := owns_bl hown hb9; have hb39 := hbr.trans (hb9.mono hbr.size))
          | (at_builtin; refine wpList_append1 rfl _ _ 41 3 elInt rfl w8.heap.size _ hu.length _ rfl o9 #[.int .i64 (j : Int)] rfl (by simp; rfl) _ rfl (by omega) (by decide) hb39.size ?_; intro v4 w4 ho4 hb4 _))
        go_roundw
        case rel => exact ⟨j + 1, _, by omega, by go_num, rfl, by rw [HS.out, List.length_append, List.map_append]; exact ho4, hb39.trans hb4⟩
        case measure => simp [intOf]; omega
    case neg =>
      obtain rfl : j = 8 := by omega
      go_wp2
      refine HK.out _ _ ?_
      clear HK
      have D9 := D8.below hbr
      have k9 := k8.trans (Kt.of hbr k8.bl.size).kq
      clear D8 k8
      have hop := sopen_any D9 k9.bl.size 2 2 (by rw [HF.out.live.w]; simp)
      obtain ⟨abad, habad⟩ : ∃ ab : Bool, (pa && pb) = ab := ⟨_, rfl⟩
      cases abad
      case true =>
        rw [Bool.and_eq_true] at habad
        obtain ⟨rfl, rfl⟩ := habad
        obtain ⟨z, hz⟩ := nothing_bad HH.out HF.out (by rw [HR.out]; exact HS0.out) (by rw [HR.out]; exact HPA.out) (by rw [HR.out]; exact HPB.out) (inc := 2) (by decide)
        rw [HR.out] at hz
        rw [hz] at hop
        clear hz
        refine wp_seq_k (fun K hK => ?_)
        have HK := Lib.hid hK
        clear hK
        go_wp2_with (go_at_call 58; refine hop.mono ?_; rintro e w10 ⟨⟨hx, _⟩ | ⟨_, rfl⟩, _, k10⟩; exact absurd hx (by simp))
        refine HK.out _ _ ?_
        clear HK
        go_wp2
        go_ret
        exact ⟨rfl, (k9.trans k10.kq).bl⟩
      case false =>
        obtain ⟨d9, hz, hpt⟩ := nothing_good HH.out HCL.out (by rw [HI8.out]; omega) HF.out (by rw [HR.out]; exact HS0.out) (fun hh => by rw [HR.out, HPA.out, HPB.out] at hh; rw [hh.1, hh.2] at habad; cases habad) (inc := 2) (by decide)
        have hhu := hurt_bl hpt HR.out HARE.out
        have hby := bytes_bl hpt HR.out HARE.out
        have hxo : ShOk { s with inc := 2 } := ⟨hpt.ok.i, hpt.ok.a, hpt.ok.c, hpt.ok.r, (show (1 : Int) ≤ 2 ∧ (2 : Int) ≤ 1099511627776 by decide)⟩
        have hxc : ({ s with inc := 2 } : Sh).cnt = (numC xb.length : Nat) := hpt.cn
        have hxi : ({ s with inc := 2 } : Sh).idx = 8 * (ls.length : Int) := HI8.out
        have hn8 := (numC_le hpt.ln).2
        have hlnb := hpt.ln
        replace hhu : hurtS d9 { s with inc := 2 } ({ s with inc := 2 } : Sh).cnt.toNat = _ := hhu
        generalize ({ s with inc := 2 } : Sh) = x at *
        rw [HR.out] at hz
        rw [hz] at hop
        generalize hmn : numC xb.length = m at *
        have HHU := Lib.hid hhu
        have HBY := Lib.hid hby
        have HXO := Lib.hid hxo
        have HXC := Lib.hid hxc
        have HXI := Lib.hid hxi
        clear hz hhu hby hxo hxc hxi hpt hmn
        refine wp_seq_k (fun K hK => ?_)
        have HK := Lib.hid hK
        clear hK
        go_wp2_with (go_at_call 58; refine hop.mono ?_; rintro e w10 ⟨⟨_, q9, rfl, hq9, S10⟩ | ⟨hx, _⟩, ⟨wv10, D10⟩, k10'⟩; rotate_left; exact absurd rfl hx)
        refine HK.out _ _ ?_
        clear HK
        replace S10 : ShB w10 q9 g x := S10
        replace D10 : DiskB w.heap.size g gp wv10 d9 w10 := D10
        have o10 := owns_kt hown k10' (by decide) (by decide) (by decide)
        have k10 := k9.trans k10'.kq
        clear hop D9 k9 k10' hown hbr hq9
        have hix := sindex_any S10
        rw [HXI.out] at hix
        cases pa
        all_goals
          cases pb
        all_goals
          first
          | (exfalso; cases habad; done)
          | skip
        all_goals
          clear habad
          refine wp_seq_k (fun K hK => ?_)
          have HK := Lib.hid hK
          clear hK
          go_wp2
          refine HK.out _ _ ?_
          clear HK
          refine wp_seq_k (fun K hK => ?_)
          have HK := Lib.hid hK
          clear hK
          go_wp2_with (go_at_call 80; refine hix.mono ?_; rintro e w11 ⟨rfl, rfl⟩)
          refine HK.out _ _ ?_
          clear HK
          have hhu := shurt_any S10 D10 HXO.out
          rw [HHU.out] at hhu
          refine wp_seq_k (fun K hK => ?_)
          have HK := Lib.hid hK
          clear hK
          go_wp2_with (go_at_call 81; refine hhu.mono ?_; rintro e w12 ⟨⟨a12, c12, rfl, hr12⟩, hb12⟩)
          refine HK.out _ _ ?_
          clear HK
          have S12 := S10.below hb12
          have D12 := D10.below hb12
          have k12 := k10.trans (Kt.of hb12 k10.bl.size).kq
          have o12 := owns_bl o10 hb12
          clear hix hhu S10 D10 k10 o10 hb12
          refine wp_seq_k (fun K hK => ?_)
          have HK := Lib.hid hK
          clear hK
          go_wp2
          refine HK.out _ _ ?_
          clear HK
          have hTL : (blP d' ar m).length ≤ (blP d' ar 8).length := by
            obtain ⟨r, e, _⟩ := blP_more d' ar m (8 - m)
            rw [show m + (8 - m) = 8 by omega] at e
            rw [e, List.length_append]
            omega
          have hL8 := blP_len d' ar 8
          obtain ⟨a13, c13, rfl, hr13, _⟩ := Row.of_owns o12
          clear o12
          have HG1 := Lib.hid (fun (j : Nat) => bl_get (d' := d') (ar := ar) hn8 (j := j))
          have HL1 := Lib.hid (show (blP d' ar m).length = (blP d' ar m).length from rfl)
          have HL2 := Lib.hid (show (blP d' ar 8).length = (blP d' ar 8).length from rfl)
          generalize blP d' ar m = told at *
          generalize blP d' ar 8 = brk at *
          obtain ⟨T, hT⟩ : ∃ T, told.length = T := ⟨_, rfl⟩
          obtain ⟨L, hL⟩ : ∃ L, brk.length = L := ⟨_, rfl⟩
          rw [hT] at hTL
          rw [hL] at hTL hL8
          simp only [hT, hL]
          have HT := Lib.hid hT
          have HLL := Lib.hid hL
          clear hT hL
          refine wp_seq_k (fun K hK => ?_)
          have HK := Lib.hid hK
          clear hK
          go_wp2_with fail
          go_loopw [25, 24] (fun i nn wr => ∃ j : Nat, j ≤ L ∧ i = .int .i64 (j : Nat) ∧ nn = .int .i64 ((min j T : Nat) : Int) ∧ Below w12.heap.size w12 wr) (fun i _ _ => L - (intOf i).toNat)
          case atStart => exact ⟨0, by omega, rfl, by simp, Below.refl _ _⟩
          case round =>
            obtain ⟨j, hj, rfl, rfl, hbr⟩ := hrel
            by_cases hlt : j < L
            case pos =>
              have HJ := Lib.hid (show j + 1 ≤ L by omega)
              have hI5 : (j : Int) < (L : Int) := by omega
              obtain ⟨x0, hx0, b0, b1, hcase⟩ := HG1.out j (by rw [HLL.out]; exact hlt)
              obtain ⟨rb, ro, y, rfl, hy, cy⟩ := (hr13.below0 hbr).int (i := j) (by rw [HLL.out]; exact hlt)
              rw [hx0] at hy
              injection hy with hy
              subst hy
              have hct := fun n => scount_any ((S12.below hbr).below (below_drewN (Below.refl _ _) n))
              simp only [HXC.out] at hct
              rcases hcase with ⟨hjt, htx, hxm⟩ | ⟨hjt, hxm⟩
              · rw [HT.out] at hjt
                rw [Nat.min_eq_left (by omega)]
                obtain ⟨tb, tof, y2, rfl, hy2, cy2⟩ := (hr12.below0 hbr).int (i := j) (by rw [HT.out]; exact hjt)
                rw [htx] at hy2
                injection hy2 with hy2
                subst hy2
                have hI6 : ¬ (T : Int) ≤ (j : Int) := by omega
                have HMJ := Lib.hid (show min (j + 1) T = j + 1 by omega)
                have HTL := Lib.hid hTL
                clear hx0 htx
                go_wp2
                go_quiet ((go_at_call 82; exact quiet_same (hct _)))
                have hbq : Below wr.heap.size wr (wr.drewN nq) := below_drewN (Below.refl _ _) nq
                have hb2 := hbr.trans (hbq.mono hbr.size)
                have cyq : (wr.drewN nq).cell? ⟨rb, ro + j, none⟩ = some (.int .i64 x0) := by rw [hbq.cell (p := ⟨rb, ro + j, none⟩) (World.block_lt_of_cell? _ _ cy)]; exact cy
                have cyq2 : (wr.drewN nq).cell? ⟨tb, tof + j, none⟩ = some (.int .i64 x0) := by rw [hbq.cell (p := ⟨tb, tof + j, none⟩) (World.block_lt_of_cell? _ _ cy2)]; exact cy2
                clear cy cy2 hbq hct
                generalize wr.drewN nq = wq at *
                go_wp2
                go_quiet (fail)
                go_wp2
                go_roundw
                case rel => exact ⟨j + 1, HJ.out, by go_num, by rw [HMJ.out]; go_num, below_drewN hb2 _⟩
                case measure => have := HJ.out; simp [intOf]; omega
              · rw [HT.out] at hjt
                rw [Nat.min_eq_right hjt]
                have hI6 : ¬ x0 < (m : Int) := by omega
                have HMJ := Lib.hid (show min (j + 1) T = T by omega)
                clear hx0
                go_wp2
                go_quiet ((go_at_call 82; exact quiet_same (hct _)))
                go_wp2
                go_roundw
                case rel => exact ⟨j + 1, HJ.out, by go_num, by rw [HMJ.out], below_drewN hbr _⟩
                case measure => have := HJ.out; simp [intOf]; omega
            case neg =>
              obtain rfl : j = L := by omega
              rw [Nat.min_eq_right hTL]
              go_wp2
              refine HK.out _ _ ?_
              clear HK
              have S13 := S12.below hbr
              have D13 := D12.below hbr
              have k13 := k12.trans (Kt.of hbr k12.bl.size).kq
              clear S12 D12 k12 hr12 hr13
              have hby := sbytes_any S13 D13 HXO.out
              rw [HBY.out, HT.out] at hby
              by_cases hT0 : T = 0
              · subst hT0
                rw [if_pos rfl] at hby
                refine wp_seq_k (fun K hK => ?_)
                have HK := Lib.hid hK
                clear hK
                go_wp2_with (go_at_call 83; refine hby.mono ?_; rintro e w14 ⟨⟨a14, c14, rfl, hO⟩, hb14⟩)
                refine HK.out _ _ ?_
                clear HK
                refine wp_seq_k (fun K hK => ?_)
                have HK := Lib.hid hK
                clear hK
                go_wp2
                refine HK.out _ _ ?_
                clear HK
                have k14 := k13.trans (Kt.of hb14 k13.bl.size).kq
                have cl := HCELL.out _ k14.bl
                have hsa := rsame_any a14 xa c14 xc xb xb w14 hO.slb.row (HX.out _ k14.bl).row (by omega)
                rw [decide_eq_true rfl] at hsa
                go_wp2_with (go_at_call 26; refine hsa.mono ?_; rintro e w15 ⟨rfl, hb15⟩)
                go_ret
                exact ⟨rfl, k14.bl.trans (hb15.mono k14.bl.size)⟩
              · rw [if_neg hT0] at hby
                have hTI : ((T : Int) == 0) = false := by rw [beq_eq_false_iff_ne]; omega
                clear hT0
                refine wp_seq_k (fun K hK => ?_)
                have HK := Lib.hid hK
                clear hK
                go_wp2_with (go_at_call 83; refine hby.mono ?_; rintro e w14 ⟨⟨a14, c14, rfl, hO⟩, hb14⟩)
                refine HK.out _ _ ?_
                clear HK
                refine wp_seq_k (fun K hK => ?_)
                have HK := Lib.hid hK
                clear hK
                go_wp2
                refine HK.out _ _ ?_
                clear HK
                go_wp2
                go_ret
                exact ⟨rfl, k13.bl.trans (hb14.mono k13.bl.size)⟩
end Go.Proofs.YthfolocjkpiljaaGreatDoor

namespace Go.Proofs.YthfolocjkpiljaaGreatDoor
open Go.ChangeShapes Go.WideShapes Go.ChangeAt Go.RowKit

theorem cellsFlt : Tryz.prog.cellsOf 269 = 3 := by kernel_rfl
theorem cellsU8f : Tryz.prog.cellsOf 5 = 1 := by kernel_rfl
theorem cellsU16f : Tryz.prog.cellsOf 267 = 1 := by kernel_rfl
theorem add_nof (b off k : Nat) : (⟨b, off, none⟩ : Addr).add k = ⟨b, off + k, none⟩ := by
  unfold Addr.add
  by_cases h : k = 0
  · simp [h]
  · simp [h]
section
variable {H : Type} {enc : TypeId × Value → H} {W : World} {sp : Nat → Bool} {hd : Bool} {b0 fuel : Nat}
theorem u8_off {v : Value} {x : DataW H × List MemPlace} (h : DataW.trod enc Tryz.prog W b0 sp hd fuel 5 [v] = some x) : ∃ n : Nat, v = .int .u8 (n : Int) ∧ n < 256 := by
  obtain ⟨y, q, _, h2⟩ := DataW.trod_int Tryz.underlying5 h
  simp at q
  subst q
  have m0 : IntKind.u8.min = 0 := by decide
  have m1 : IntKind.u8.max = 255 := by decide
  replace h2 : (decide (IntKind.u8.min ≤ y) && decide (y ≤ IntKind.u8.max)) = true := h2
  rw [m0, m1, Bool.and_eq_true, decide_eq_true_eq, decide_eq_true_eq] at h2
  exact ⟨y.toNat, by rw [show ((y.toNat : Nat) : Int) = y by omega], by omega⟩
theorem u16_off {v : Value} {x : DataW H × List MemPlace} (h : DataW.trod enc Tryz.prog W b0 sp hd fuel 267 [v] = some x) : ∃ n : Nat, v = .int .u16 (n : Int) ∧ n < 65536 := by
  obtain ⟨y, q, _, h2⟩ := DataW.trod_int Tryz.underlying267 h
  simp at q
  subst q
  have m0 : IntKind.u16.min = 0 := by decide
  have m1 : IntKind.u16.max = 65535 := by decide
  replace h2 : (decide (IntKind.u16.min ≤ y) && decide (y ≤ IntKind.u16.max)) = true := h2
  rw [m0, m1, Bool.and_eq_true, decide_eq_true_eq, decide_eq_true_eq] at h2
  exact ⟨y.toNat, by rw [show ((y.toNat : Nat) : Int) = y by omega], by omega⟩
theorem flt_of {x y z : Value} {r : DataW H × List MemPlace} (h : DataW.trod enc Tryz.prog W b0 sp hd fuel 269 [x, y, z] = some r) : ∃ q : Nat × Nat × Nat, x = .int .u8 (q.1 : Nat) ∧ y = .int .u16 (q.2.1 : Nat) ∧ z = .int .u16 (q.2.2 : Nat) ∧ q.1 < 256 ∧ q.2.1 < 65536 ∧ q.2.2 < 65536 := by
  obtain ⟨xs, n, _, rfl, hl, hlen, hf⟩ := DataW.trod_struct Tryz.underlying269 h
  match xs, hlen with
  | [y0, y1, y2], _ =>
    have g0 := hf 0 _ rfl
    have g1 := hf 1 _ rfl
    have g2 := hf 2 _ rfl
    simp [cellsU8f, cellsU16f] at g0 g1 g2
    obtain ⟨n0, e0, l0⟩ := u8_off g0
    obtain ⟨n1, e1, l1⟩ := u16_off g1
    obtain ⟨n2, e2, l2⟩ := u16_off g2
    exact ⟨(n0, n1, n2), e0, e1, e2, l0, l1, l2⟩
end
set_option maxRecDepth 100000 in
theorem open_flts {H : Type} {enc : TypeId × Value → H} {W : World} {base : Nat} {sp : Nat → Bool} {hd : Bool} {b0 : Nat} {v : Value} {d : DataW H} {p : List MemPlace}
    (hv : Value.okWide Tryz.prog W .any base 160 v) (h : DataW.Trod enc Tryz.prog W b0 sp hd 160 v d p) : ∃ (a : Option Addr) (l : List (Nat × Nat × Nat)) (cap : Nat), v = .slice a l.length cap ∧ Flts W a l := by
  obtain ⟨a0, len, cap, rfl⟩ := okWide_slice Tryz.underlying160 hv
  obtain ⟨fuel, hf⟩ := h
  rcases Go.Deep.open_slice Tryz.underlying160 hf with ⟨hcs, hx⟩ | ⟨a, len', cap', m, n, D, Pl, hcs, _, hl, hm, hmm, hx, hel⟩
  · simp [Value.cells] at hcs
    obtain ⟨rfl, rfl, rfl⟩ := hcs
    exact ⟨none, [], 0, rfl, ⟨fun j hj => by simp at hj, fun x hx => by simp at hx⟩⟩
  · simp [Value.cells] at hcs
    obtain ⟨rfl, rfl, rfl⟩ := hcs
    have hlm : len ≤ m := by rw [hmm]; split <;> omega
    have hex : ∀ i, i < len → ∃ q : Nat × Nat × Nat, W.cell? (a.add (i * 3)) = some (.int .u8 (q.1 : Nat)) ∧ W.cell? (a.add (i * 3 + 1)) = some (.int .u16 (q.2.1 : Nat)) ∧ W.cell? (a.add (i * 3 + 2)) = some (.int .u16 (q.2.2 : Nat)) ∧ q.1 < 256 ∧ q.2.1 < 65536 ∧ q.2.2 < 65536 := by
      intro i hi
      obtain ⟨cs', hc, ht⟩ := hel i (by omega)
      rw [cellsFlt] at hc
      obtain ⟨_, hlen2, hat⟩ := World.cells?_some hc
      match cs', hlen2 with
      | [x, y, z], _ =>
        obtain ⟨q, rfl, rfl, rfl, hb⟩ := flt_of ht
        refine ⟨q, ?_, ?_, ?_, hb⟩
        · have := hat 0 (by omega)
          rw [Go.Deep.add_add, Nat.add_zero] at this
          exact this
        · have := hat 1 (by omega)
          rw [Go.Deep.add_add] at this
          exact this
        · have := hat 2 (by omega)
          rw [Go.Deep.add_add] at this
          exact this
    obtain ⟨f, hf2⟩ := Go.Deep.choose_lt hex
    refine ⟨some a, (List.range len).map f, cap, by simp, ⟨fun j hj => ?_, fun x hx => ?_⟩⟩
    · simp only [List.length_map, List.length_range] at hj
      obtain ⟨b, off, spot⟩ := a
      have hspot : spot = none := by
        have := World.cell?_spot (hf2 0 (by omega)).1
        simpa [Addr.add] using this
      subst hspot
      obtain ⟨h1, h2, h3, _⟩ := hf2 j hj
      rw [add_nof] at h1 h2 h3
      refine ⟨b, off, rfl, ?_, ?_, ?_⟩
      · rw [List.getElem_map, List.getElem_range]
        exact h1
      · rw [List.getElem_map, List.getElem_range, Nat.add_assoc]
        exact h2
      · rw [List.getElem_map, List.getElem_range, Nat.add_assoc]
        exact h3
    · simp only [List.mem_map, List.mem_range] at hx
      obtain ⟨i, hi, rfl⟩ := hx
      exact (hf2 i hi).2.2.2
end Go.Proofs.YthfolocjkpiljaaGreatDoor

