/- Texts that the claim leans on, part 20: N8, N9, C36, C37, C38, C39, C40, C42. -/
import Derived.Test.YtddddemclhlfaaaGreatDoorZ1
import Derived.Test.YtddddemclhlfaaaGreatDoorZ2
import Derived.Test.YtddddemclhlfaaaGreatDoorZ3
import Derived.Test.YtddddemclhlfaaaGreatDoorZ4
import Derived.Test.YtddddemclhlfaaaGreatDoorZ5
import Derived.Test.YtddddemclhlfaaaGreatDoorZ6
import Derived.Test.YtddddemclhlfaaaGreatDoorZ7
import Derived.Test.YtddddemclhlfaaaGreatDoorZ8
import Derived.Test.YtddddemclhlfaaaGreatDoorZ9
import Derived.Test.YtddddemclhlfaaaGreatDoorZ10
import Derived.Test.YtddddemclhlfaaaGreatDoorZ11
import Derived.Test.YtddddemclhlfaaaGreatDoorZ12
import Derived.Test.YtddddemclhlfaaaGreatDoorZ13
import Derived.Test.YtddddemclhlfaaaGreatDoorZ14
import Derived.Test.YtddddemclhlfaaaGreatDoorZ15
import Derived.Test.YtddddemclhlfaaaGreatDoorZ17
import Derived.Test.YtddddemclhlfaaaGreatDoorZ18
import Derived.Test.YtddddemclhlfaaaGreatDoorZ19
import Derived.Test.YtddddemclhlfaaaGreatDoorRows
import Derived.WalkKit
import Derived.WalkSpells
import Derived.WalkLawsBesides
import Derived.Handy
import Derived.Deep.QuietTactic
import Derived.BigQuiet
import Derived.Deep.DeepCutAuto
import Derived.Lib.Hide
import Derived.RegionTactic
import Derived.ChangeAlike
import Derived.Laws.ResultCell
import Derived.Outline
import Derived.IntWalk
import Derived.Laws.StructEq
import Derived.StillTailTactics
import Derived.Deep.RegionWith
import Derived.RangeFuncNested
import Derived.RangeFuncBound
import Derived.RangeFuncCalls
import Derived.RangeFuncLeaves
import Derived.RangeFuncBox
import Derived.Laws.MakeOwn
import Derived.Laws.OwnMore
import Derived.Laws.IdiomStrings
import Derived.Laws.BytesArg
import Derived.Laws.BitsAllLaws
import Derived.Lib.SliceRun
import Derived.Great.BuildSlice
import Derived.Great.FillDense
import Derived.Laws.Rows
import Derived.Deep.Quiet
import Derived.Deep.RegionHeld3
import Derived.ProofKit
import Derived.OpenShut
import Derived.Laws.CopyOwn
import Derived.Laws.CopyRow
import Derived.Laws.NewBlocks
import Derived.Deep.RegionLaw
import Derived.ChangeSlices
import Derived.Lib.SmallJoins
import Derived.Deep.Slices
import Derived.Shelf.Abstract
import Derived.Shelf.RegionOpen
import Derived.OwnWalkIn
import Derived.TacticsInMore
import Derived.LoopNIn
import Derived.LoopIn
import Derived.Maps.AppendAt
namespace Go.Proofs.YtddddemclhlfaaaGreatDoor
open Go.RowKit
def parT (l : List UInt8) : Mt := if parM l = true then ⟨getN l 0 6, getN l 6 1, getN l 7 6⟩ else zM
theorem parV_T (l : List UInt8) : parV l = mV (parT l) := by
  unfold parV parT mV
  split <;> rfl
theorem parT_bd (l : List UInt8) : 0 ≤ (parT l).i ∧ (parT l).i ≤ 1099511627776 := by
  unfold parT
  split
  · rename_i h
    unfold parM at h
    rw [Bool.and_eq_true] at h
    have := may_bd h.2
    simp only
    omega
  · simp [zM]
def promM (d : Dk) (rep : Int) (m : Mt) (r p : Int) : Dk × Mt × Int :=
  if (mayM m.r m.p m.i && balB r p && abvB r p m.r m.p) = true then storeM d rep ⟨r, p, m.i⟩ else (d, zM, 2)
def ldM (v : Int) (l : List UInt8) : Mt := if 0 < v then parT l else zM
def beginM (d : Dk) (rep : Int) : Dk × Mt × Int :=
  if (loadC d rep 1).2.2 ≠ 0 then (d, zM, (loadC d rep 1).2.2) else
  if 0 < (loadC d rep 1).1 ∧ parE (loadC d rep 1).2.1 ≠ 0 then (d, zM, parE (loadC d rep 1).2.1) else
  if (ldM (loadC d rep 1).1 (loadC d rep 1).2.1).i = 1099511627776 then (d, zM, 4) else
  if (healC d rep 1).2 ≠ 0 then ((healC d rep 1).1, zM, (healC d rep 1).2) else
  storeM (healC d rep 1).1 rep ⟨(ldM (loadC d rep 1).1 (loadC d rep 1).2.1).r, (ldM (loadC d rep 1).1 (loadC d rep 1).2.1).p, (ldM (loadC d rep 1).1 (loadC d rep 1).2.1).i + 1⟩
theorem heal_waits {d : Dk} {rep reg : Int} (h : (healC d rep reg).2 = 0) (hw : d.waits.length ≤ 1000) : (healC d rep reg).1.waits.length ≤ 1000 := by
  unfold healC at h ⊢
  simp only at h ⊢
  generalize loadedC (copyC d rep reg 0) (copyC d rep reg 1) = ld at h ⊢
  generalize (if ld.1 = 1 then copyC d rep reg 1 else copyC d rep reg 0) = x at h ⊢
  generalize (if ld.1 = 1 then copyC d rep reg 0 else copyC d rep reg 1) = y at h ⊢
  by_cases h1 : openC d rep reg ≠ 0
  · rw [if_pos h1]; exact hw
  · rw [if_neg h1] at h ⊢
    by_cases h2 : ld.2.1 = false
    · rw [if_pos h2]; exact hw
    · rw [if_neg h2] at h ⊢
      by_cases h3 : x.st = y.st ∧ x.tg.idx = y.tg.idx ∧ x.body = y.body
      · rw [if_pos h3]; exact hw
      · rw [if_neg h3] at h ⊢
        rw [put_waits h]
        simp
theorem st2m (a b c a' b' : Int) : 0 + 2 ≤ (#[Value.int .i64 a, .int .i64 b, .int .i64 c]).size ∧ (Value.agg #[.int .i64 a', .int .i64 b']).cells.size = 2 ∧ (∀ u ∈ (Value.agg #[.int .i64 a', .int .i64 b']).cells.toList, u.oneCell' = true) ∧ ((#[Value.int .i64 a, .int .i64 b, .int .i64 c]).toList.take 0 ++ (Value.agg #[.int .i64 a', .int .i64 b']).cells.toList ++ (#[Value.int .i64 a, .int .i64 b, .int .i64 c]).toList.drop (0 + 2)).toArray = #[.int .i64 a', .int .i64 b', .int .i64 c] := ⟨(by show 2 ≤ 3; omega), rfl, by simp [Value.cells, Value.oneCell'], rfl⟩
theorem st1m (a b c x : Int) : 2 + 1 ≤ (#[Value.int .i64 a, .int .i64 b, .int .i64 c]).size ∧ (Value.int .i64 x).cells.size = 1 ∧ (∀ u ∈ (Value.int .i64 x).cells.toList, u.oneCell' = true) ∧ ((#[Value.int .i64 a, .int .i64 b, .int .i64 c]).toList.take 2 ++ (Value.int .i64 x).cells.toList ++ (#[Value.int .i64 a, .int .i64 b, .int .i64 c]).toList.drop (2 + 1)).toArray = #[.int .i64 a, .int .i64 b, .int .i64 x] := ⟨Nat.le_refl 3, rfl, by simp [Value.cells, Value.oneCell'], rfl⟩
section
variable {B g gp : Nat} {wv : Value} {d : Dk} {w : World}
set_option maxRecDepth 100000 in
set_option maxHeartbeats 1000000 in
theorem prom_any (h : DiskB B g gp wv d w) (hb : B ≤ w.heap.size) (hw : d.waits.length ≤ 1000) (rep r p i r' p' : Int) : Calls Tryz.prog 32 #[.pointer (some ⟨g, 0, none⟩), .int .i64 rep, .agg #[.int .i64 r, .int .i64 p, .int .i64 i], .agg #[.int .i64 r', .int .i64 p']] w (MRes B g gp w (promM d rep ⟨r, p, i⟩ r' p')) := by
  unfold promM
  simp only
  cases hm : mayM r p i
  case false =>
    rw [if_neg (by simp)]
    have HM := Lib.hid hm
    clear hm
    go_enter Tryz.func32, Tryz.ntmps32
    refine wp_seq_k (fun K hK => ?_)
    have HK := Lib.hid hK
    clear hK
    go_wp2
    refine HK.out _ _ ?_
    clear HK
    have hb0 := ((blw w (Obj.cells #[.int .i64 r, .int .i64 p, .int .i64 i] 76)).alloc (by simp) (Obj.cells #[.int .i64 r', .int .i64 p'] 74)).alloc (by simp; omega) (Obj.cells #[.int .i64 0, .int .i64 0, .int .i64 0] 76)
    have B0 := tr_al (Obj.cells #[.int .i64 0, .int .i64 0, .int .i64 0] 76) (tr_al (Obj.cells #[.int .i64 r', .int .i64 p'] 74) (heap_alloc_new w (Obj.cells #[.int .i64 r, .int .i64 p, .int .i64 i] 76)))
    have L0 := tr_al (Obj.cells #[.int .i64 0, .int .i64 0, .int .i64 0] 76) (heap_alloc_new (w.alloc (Obj.cells #[.int .i64 r, .int .i64 p, .int .i64 i] 76)) (Obj.cells #[.int .i64 r', .int .i64 p'] 74))
    have R0 := heap_alloc_new ((w.alloc (Obj.cells #[.int .i64 r, .int .i64 p, .int .i64 i] 76)).alloc (Obj.cells #[.int .i64 r', .int .i64 p'] 74)) (Obj.cells #[.int .i64 0, .int .i64 0, .int .i64 0] 76)
    rw [show (w.alloc (Obj.cells #[.int .i64 r, .int .i64 p, .int .i64 i] 76)).heap.size = w.heap.size + 1 by simp] at L0
    rw [show ((w.alloc (Obj.cells #[.int .i64 r, .int .i64 p, .int .i64 i] 76)).alloc (Obj.cells #[.int .i64 r', .int .i64 p'] 74)).heap.size = w.heap.size + 1 + 1 by simp] at R0
    change Code.wp _ _ _ _ (((w.alloc (Obj.cells #[.int .i64 r, .int .i64 p, .int .i64 i] 76)).alloc (Obj.cells #[.int .i64 r', .int .i64 p'] 74)).alloc (Obj.cells #[.int .i64 0, .int .i64 0, .int .i64 0] 76))
    generalize ((w.alloc (Obj.cells #[.int .i64 r, .int .i64 p, .int .i64 i] 76)).alloc (Obj.cells #[.int .i64 r', .int .i64 p'] 74)).alloc (Obj.cells #[.int .i64 0, .int .i64 0, .int .i64 0] 76) = w0 at *
    obtain ⟨q0, q1, q2, -, -, -⟩ := tri_cells B0
    obtain ⟨l0, l1⟩ := two_cells L0
    go_wp2_with (first
      | (go_at_call 71; refine (may_any r p i _).mono ?_; rintro e w1 ⟨rfl, hb1⟩; rw [HM.out]; have B1 := tr_bl hb1 B0; have L1 := tr_bl hb1 L0; have R1 := tr_bl hb1 R0; have hb01 := hb0.trans (hb1.mono hb0.size); obtain ⟨q0, q1, q2, -, -, -⟩ := tri_cells B1; obtain ⟨l0, l1⟩ := two_cells L1)
      | ((with_reducible refine wpList_stB 76 _ _ ?_); refine ⟨_, _, _, ⟨_, _, _, Tryz.sizeOf76, rfl, R1, st3 _ rfl 0 0 0⟩, ?_⟩; intro w5 R5 g5))
    refine bodyPost_ret (results_c1t1 rfl rfl (run_loadVar_all Tryz.isAgg76 Tryz.sizeOf76 R5 rfl)) rfl ⟨rfl, ⟨_, (h.below hb01).st g5 R1⟩, (Kt.of hb01 hb).new g5 (by omega) hb⟩
  case true =>
  cases hbl : balB r' p'
  case false =>
    rw [if_neg (by simp)]
    have HM := Lib.hid hm
    have HB := Lib.hid hbl
    clear hm hbl
    go_enter Tryz.func32, Tryz.ntmps32
    refine wp_seq_k (fun K hK => ?_)
    have HK := Lib.hid hK
    clear hK
    go_wp2
    refine HK.out _ _ ?_
    clear HK
    have hb0 := ((blw w (Obj.cells #[.int .i64 r, .int .i64 p, .int .i64 i] 76)).alloc (by simp) (Obj.cells #[.int .i64 r', .int .i64 p'] 74)).alloc (by simp; omega) (Obj.cells #[.int .i64 0, .int .i64 0, .int .i64 0] 76)
    have B0 := tr_al (Obj.cells #[.int .i64 0, .int .i64 0, .int .i64 0] 76) (tr_al (Obj.cells #[.int .i64 r', .int .i64 p'] 74) (heap_alloc_new w (Obj.cells #[.int .i64 r, .int .i64 p, .int .i64 i] 76)))
    have L0 := tr_al (Obj.cells #[.int .i64 0, .int .i64 0, .int .i64 0] 76) (heap_alloc_new (w.alloc (Obj.cells #[.int .i64 r, .int .i64 p, .int .i64 i] 76)) (Obj.cells #[.int .i64 r', .int .i64 p'] 74))
    have R0 := heap_alloc_new ((w.alloc (Obj.cells #[.int .i64 r, .int .i64 p, .int .i64 i] 76)).alloc (Obj.cells #[.int .i64 r', .int .i64 p'] 74)) (Obj.cells #[.int .i64 0, .int .i64 0, .int .i64 0] 76)
    rw [show (w.alloc (Obj.cells #[.int .i64 r, .int .i64 p, .int .i64 i] 76)).heap.size = w.heap.size + 1 by simp] at L0
    rw [show ((w.alloc (Obj.cells #[.int .i64 r, .int .i64 p, .int .i64 i] 76)).alloc (Obj.cells #[.int .i64 r', .int .i64 p'] 74)).heap.size = w.heap.size + 1 + 1 by simp] at R0
    change Code.wp _ _ _ _ (((w.alloc (Obj.cells #[.int .i64 r, .int .i64 p, .int .i64 i] 76)).alloc (Obj.cells #[.int .i64 r', .int .i64 p'] 74)).alloc (Obj.cells #[.int .i64 0, .int .i64 0, .int .i64 0] 76))
    generalize ((w.alloc (Obj.cells #[.int .i64 r, .int .i64 p, .int .i64 i] 76)).alloc (Obj.cells #[.int .i64 r', .int .i64 p'] 74)).alloc (Obj.cells #[.int .i64 0, .int .i64 0, .int .i64 0] 76) = w0 at *
    obtain ⟨q0, q1, q2, -, -, -⟩ := tri_cells B0
    obtain ⟨l0, l1⟩ := two_cells L0
    go_wp2_with (first
      | (go_at_call 71; refine (may_any r p i _).mono ?_; rintro e w1 ⟨rfl, hb1⟩; rw [HM.out]; have B1 := tr_bl hb1 B0; have L1 := tr_bl hb1 L0; have R1 := tr_bl hb1 R0; have hb01 := hb0.trans (hb1.mono hb0.size); obtain ⟨q0, q1, q2, -, -, -⟩ := tri_cells B1; obtain ⟨l0, l1⟩ := two_cells L1)
      | (go_at_call 72; refine (ballot_any r' p' _).mono ?_; rintro e w2 ⟨rfl, hw2⟩; have hb2 : Below w1.heap.size w1 w2 := (by rw [hw2]; exact blw _ _); clear hw2; rw [HB.out]; have B2 := tr_bl hb2 B1; have L2 := tr_bl hb2 L1; have R2 := tr_bl hb2 R1; have hb02 := hb01.trans (hb2.mono hb01.size); obtain ⟨q0, q1, q2, -, -, -⟩ := tri_cells B2; obtain ⟨l0, l1⟩ := two_cells L2)
      | ((with_reducible refine wpList_stB 76 _ _ ?_); refine ⟨_, _, _, ⟨_, _, _, Tryz.sizeOf76, rfl, R2, st3 _ rfl 0 0 0⟩, ?_⟩; intro w5 R5 g5))
    refine bodyPost_ret (results_c1t1 rfl rfl (run_loadVar_all Tryz.isAgg76 Tryz.sizeOf76 R5 rfl)) rfl ⟨rfl, ⟨_, (h.below hb02).st g5 R2⟩, (Kt.of hb02 hb).new g5 (by omega) hb⟩
  case true =>
  cases hab : abvB r' p' r p
  case false =>
    rw [if_neg (by simp)]
    have HM := Lib.hid hm
    have HB := Lib.hid hbl
    have HA := Lib.hid hab
    clear hm hbl hab
    go_enter Tryz.func32, Tryz.ntmps32
    refine wp_seq_k (fun K hK => ?_)
    have HK := Lib.hid hK
    clear hK
    go_wp2
    refine HK.out _ _ ?_
    clear HK
    have hb0 := ((blw w (Obj.cells #[.int .i64 r, .int .i64 p, .int .i64 i] 76)).alloc (by simp) (Obj.cells #[.int .i64 r', .int .i64 p'] 74)).alloc (by simp; omega) (Obj.cells #[.int .i64 0, .int .i64 0, .int .i64 0] 76)
    have B0 := tr_al (Obj.cells #[.int .i64 0, .int .i64 0, .int .i64 0] 76) (tr_al (Obj.cells #[.int .i64 r', .int .i64 p'] 74) (heap_alloc_new w (Obj.cells #[.int .i64 r, .int .i64 p, .int .i64 i] 76)))
    have L0 := tr_al (Obj.cells #[.int .i64 0, .int .i64 0, .int .i64 0] 76) (heap_alloc_new (w.alloc (Obj.cells #[.int .i64 r, .int .i64 p, .int .i64 i] 76)) (Obj.cells #[.int .i64 r', .int .i64 p'] 74))
    have R0 := heap_alloc_new ((w.alloc (Obj.cells #[.int .i64 r, .int .i64 p, .int .i64 i] 76)).alloc (Obj.cells #[.int .i64 r', .int .i64 p'] 74)) (Obj.cells #[.int .i64 0, .int .i64 0, .int .i64 0] 76)
    rw [show (w.alloc (Obj.cells #[.int .i64 r, .int .i64 p, .int .i64 i] 76)).heap.size = w.heap.size + 1 by simp] at L0
    rw [show ((w.alloc (Obj.cells #[.int .i64 r, .int .i64 p, .int .i64 i] 76)).alloc (Obj.cells #[.int .i64 r', .int .i64 p'] 74)).heap.size = w.heap.size + 1 + 1 by simp] at R0
    change Code.wp _ _ _ _ (((w.alloc (Obj.cells #[.int .i64 r, .int .i64 p, .int .i64 i] 76)).alloc (Obj.cells #[.int .i64 r', .int .i64 p'] 74)).alloc (Obj.cells #[.int .i64 0, .int .i64 0, .int .i64 0] 76))
    generalize ((w.alloc (Obj.cells #[.int .i64 r, .int .i64 p, .int .i64 i] 76)).alloc (Obj.cells #[.int .i64 r', .int .i64 p'] 74)).alloc (Obj.cells #[.int .i64 0, .int .i64 0, .int .i64 0] 76) = w0 at *
    obtain ⟨q0, q1, q2, -, -, -⟩ := tri_cells B0
    obtain ⟨l0, l1⟩ := two_cells L0
    go_wp2_with (first
      | (go_at_call 71; refine (may_any r p i _).mono ?_; rintro e w1 ⟨rfl, hb1⟩; rw [HM.out]; have B1 := tr_bl hb1 B0; have L1 := tr_bl hb1 L0; have R1 := tr_bl hb1 R0; have hb01 := hb0.trans (hb1.mono hb0.size); obtain ⟨q0, q1, q2, -, -, -⟩ := tri_cells B1; obtain ⟨l0, l1⟩ := two_cells L1)
      | (go_at_call 72; refine (ballot_any r' p' _).mono ?_; rintro e w2 ⟨rfl, hw2⟩; have hb2 : Below w1.heap.size w1 w2 := (by rw [hw2]; exact blw _ _); clear hw2; rw [HB.out]; have B2 := tr_bl hb2 B1; have L2 := tr_bl hb2 L1; have R2 := tr_bl hb2 R1; have hb02 := hb01.trans (hb2.mono hb01.size); obtain ⟨q0, q1, q2, -, -, -⟩ := tri_cells B2; obtain ⟨l0, l1⟩ := two_cells L2)
      | (go_at_call 73; refine (above_any r' p' r p _).mono ?_; rintro e w3 ⟨rfl, hb3⟩; rw [HA.out]; have B3 := tr_bl hb3 B2; have L3 := tr_bl hb3 L2; have R3 := tr_bl hb3 R2; have hb03 := hb02.trans (hb3.mono hb02.size); obtain ⟨q0, q1, q2, -, -, -⟩ := tri_cells B3; obtain ⟨l0, l1⟩ := two_cells L3)
      | ((with_reducible refine wpList_stB 76 _ _ ?_); refine ⟨_, _, _, ⟨_, _, _, Tryz.sizeOf76, rfl, R3, st3 _ rfl 0 0 0⟩, ?_⟩; intro w5 R5 g5))
    refine bodyPost_ret (results_c1t1 rfl rfl (run_loadVar_all Tryz.isAgg76 Tryz.sizeOf76 R5 rfl)) rfl ⟨rfl, ⟨_, (h.below hb03).st g5 R3⟩, (Kt.of hb03 hb).new g5 (by omega) hb⟩
  case true =>
    rw [if_pos (by simp)]
    have HM := Lib.hid hm
    have HB := Lib.hid hbl
    have HA := Lib.hid hab
    clear hm hbl hab
    obtain ⟨d6, ⟨r6, p6, i6⟩, e6, hsm⟩ : ∃ d6 m6 e6, storeM d rep ⟨r', p', i⟩ = (d6, m6, e6) := ⟨_, _, _, rfl⟩
    rw [hsm]
    have HS := Lib.hid hsm
    clear hsm
    go_enter Tryz.func32, Tryz.ntmps32
    refine wp_seq_k (fun K hK => ?_)
    have HK := Lib.hid hK
    clear hK
    go_wp2
    refine HK.out _ _ ?_
    clear HK
    have hb0 := ((blw w (Obj.cells #[.int .i64 r, .int .i64 p, .int .i64 i] 76)).alloc (by simp) (Obj.cells #[.int .i64 r', .int .i64 p'] 74)).alloc (by simp; omega) (Obj.cells #[.int .i64 0, .int .i64 0, .int .i64 0] 76)
    have B0 := tr_al (Obj.cells #[.int .i64 0, .int .i64 0, .int .i64 0] 76) (tr_al (Obj.cells #[.int .i64 r', .int .i64 p'] 74) (heap_alloc_new w (Obj.cells #[.int .i64 r, .int .i64 p, .int .i64 i] 76)))
    have L0 := tr_al (Obj.cells #[.int .i64 0, .int .i64 0, .int .i64 0] 76) (heap_alloc_new (w.alloc (Obj.cells #[.int .i64 r, .int .i64 p, .int .i64 i] 76)) (Obj.cells #[.int .i64 r', .int .i64 p'] 74))
    have R0 := heap_alloc_new ((w.alloc (Obj.cells #[.int .i64 r, .int .i64 p, .int .i64 i] 76)).alloc (Obj.cells #[.int .i64 r', .int .i64 p'] 74)) (Obj.cells #[.int .i64 0, .int .i64 0, .int .i64 0] 76)
    rw [show (w.alloc (Obj.cells #[.int .i64 r, .int .i64 p, .int .i64 i] 76)).heap.size = w.heap.size + 1 by simp] at L0
    rw [show ((w.alloc (Obj.cells #[.int .i64 r, .int .i64 p, .int .i64 i] 76)).alloc (Obj.cells #[.int .i64 r', .int .i64 p'] 74)).heap.size = w.heap.size + 1 + 1 by simp] at R0
    change Code.wp _ _ _ _ (((w.alloc (Obj.cells #[.int .i64 r, .int .i64 p, .int .i64 i] 76)).alloc (Obj.cells #[.int .i64 r', .int .i64 p'] 74)).alloc (Obj.cells #[.int .i64 0, .int .i64 0, .int .i64 0] 76))
    generalize ((w.alloc (Obj.cells #[.int .i64 r, .int .i64 p, .int .i64 i] 76)).alloc (Obj.cells #[.int .i64 r', .int .i64 p'] 74)).alloc (Obj.cells #[.int .i64 0, .int .i64 0, .int .i64 0] 76) = w0 at *
    obtain ⟨q0, q1, q2, -, -, -⟩ := tri_cells B0
    obtain ⟨l0, l1⟩ := two_cells L0
    go_wp2_with (first
      | (go_at_call 71; refine (may_any r p i _).mono ?_; rintro e w1 ⟨rfl, hb1⟩; rw [HM.out]; have B1 := tr_bl hb1 B0; have L1 := tr_bl hb1 L0; have R1 := tr_bl hb1 R0; have hb01 := hb0.trans (hb1.mono hb0.size); obtain ⟨q0, q1, q2, -, -, -⟩ := tri_cells B1; obtain ⟨l0, l1⟩ := two_cells L1)
      | (go_at_call 72; refine (ballot_any r' p' _).mono ?_; rintro e w2 ⟨rfl, hw2⟩; have hb2 : Below w1.heap.size w1 w2 := (by rw [hw2]; exact blw _ _); clear hw2; rw [HB.out]; have B2 := tr_bl hb2 B1; have L2 := tr_bl hb2 L1; have R2 := tr_bl hb2 R1; have hb02 := hb01.trans (hb2.mono hb01.size); obtain ⟨q0, q1, q2, -, -, -⟩ := tri_cells B2; obtain ⟨l0, l1⟩ := two_cells L2)
      | (go_at_call 73; refine (above_any r' p' r p _).mono ?_; rintro e w3 ⟨rfl, hb3⟩; rw [HA.out]; have B3 := tr_bl hb3 B2; have L3 := tr_bl hb3 L2; have R3 := tr_bl hb3 R2; have hb03 := hb02.trans (hb3.mono hb02.size); obtain ⟨q0, q1, q2, -, -, -⟩ := tri_cells B3; obtain ⟨l0, l1⟩ := two_cells L3)
      | ((with_reducible refine wpList_stB 74 _ _ ?_); refine ⟨_, _, _, ⟨_, _, _, Tryz.sizeOf74, rfl, B3, st2m r p i r' p'⟩, ?_⟩; intro w5 B5 g5; have D5 := (h.below hb03).st g5 B3; have k5 := (Kt.of hb03 hb).new g5 (by omega) hb; have R5 := tr_st g5 R3 (by omega); clear q0 q1 q2; obtain ⟨q0, q1, q2, -, -, -⟩ := tri_cells B5)
      | (go_at_call 68; have hst := mstore_any D5 (Nat.le_trans hb k5.bl.size) hw rep r' p' i; rw [HS.out] at hst; refine hst.mono ?_; rintro e w6 ⟨rfl, ⟨wv6, D6⟩, hk6⟩; simp only [mV]; have R6 := hk6.ty _ _ _ R5 (by decide) (by decide) (by decide); have k6 := k5.trans hk6; clear hst)
      | ((with_reducible refine wpList_stB 76 _ _ ?_); refine ⟨_, _, _, ⟨_, _, _, Tryz.sizeOf76, rfl, R6, st3 _ rfl r6 p6 i6⟩, ?_⟩; intro w7 R7 g7))
    refine bodyPost_ret (results_c1t1 rfl rfl (run_loadVar_all Tryz.isAgg76 Tryz.sizeOf76 R7 rfl)) rfl ⟨rfl, ⟨_, D6.st g7 R6⟩, k6.new g7 (by omega) hb⟩
end
end Go.Proofs.YtddddemclhlfaaaGreatDoor
namespace Go.Proofs.YtddddemclhlfaaaGreatDoor
open Go.RowKit
section
variable {B g gp : Nat} {wv : Value} {d : Dk} {w : World}
set_option maxRecDepth 100000 in
set_option maxHeartbeats 1000000 in
theorem begin_err (h : DiskB B g gp wv d w) (hb : B ≤ w.heap.size) (rep : Int) {v e1 : Int} {l : List UInt8} (hl : loadC d rep 1 = (v, l, e1)) (he : e1 ≠ 0) : Calls Tryz.prog 30 #[.pointer (some ⟨g, 0, none⟩), .int .i64 rep] w (MRes B g gp w (beginM d rep)) := by
  unfold beginM
  rw [hl]
  simp only
  rw [if_pos he]
  have hn : (e1 != 0) = true := by rw [bne_iff_ne]; exact he
  have HL := Lib.hid hl
  clear hl
  go_enter Tryz.func30, Tryz.ntmps30
  refine wp_seq_k (fun K hK => ?_)
  have HK := Lib.hid hK
  clear hK
  go_wp2
  refine HK.out _ _ ?_
  clear HK
  have hb0 := blw w (Obj.cells #[.int .i64 0, .int .i64 0, .int .i64 0] 76)
  have R0 := heap_alloc_new w (Obj.cells #[.int .i64 0, .int .i64 0, .int .i64 0] 76)
  have D0 := h.below hb0
  have k0 := Kt.of hb0 hb
  generalize w.alloc (Obj.cells #[.int .i64 0, .int .i64 0, .int .i64 0] 76) = w0 at *
  have hld := cload_any D0 rep 1
  rw [HL.out] at hld
  simp only [LoadRes] at hld
  go_wp2_with fail
  refine hld.mono ?_
  rintro e w1 ⟨⟨a1, c1, rfl, o1⟩, hb1⟩
  have R1 := tr_bl hb1 R0
  have D1 := D0.below hb1
  have k1 := k0.trans (Kt.of hb1 (Nat.le_trans hb hb0.size))
  clear hld hb0 R0 D0 k0 hb1
  go_wp2_with ((with_reducible refine wpList_stB 76 _ _ ?_); refine ⟨_, _, _, ⟨_, _, _, Tryz.sizeOf76, rfl, R1, st3 _ rfl 0 0 0⟩, ?_⟩; intro w5 R5 g5)
  refine bodyPost_ret (results_c1t1 rfl rfl (run_loadVar_all Tryz.isAgg76 Tryz.sizeOf76 R5 rfl)) rfl ⟨rfl, ⟨_, D1.st g5 R1⟩, k1.new g5 (Nat.le_refl _) hb⟩
set_option maxRecDepth 100000 in
set_option maxHeartbeats 2000000 in
theorem begin_zero (h : DiskB B g gp wv d w) (hb : B ≤ w.heap.size) (hw : d.waits.length ≤ 1000) (rep : Int) {v : Int} {l : List UInt8} (hl : loadC d rep 1 = (v, l, 0)) (hv : ¬ 0 < v) : Calls Tryz.prog 30 #[.pointer (some ⟨g, 0, none⟩), .int .i64 rep] w (MRes B g gp w (beginM d rep)) := by
  unfold beginM
  rw [hl]
  simp only
  rw [if_neg (by simp), if_neg (fun h => hv h.1)]
  unfold ldM
  rw [if_neg hv]
  rw [if_neg (by simp [zM])]
  have HL := Lib.hid hl
  clear hl
  obtain ⟨d3, e3, hhl⟩ : ∃ d3 e3, healC d rep 1 = (d3, e3) := ⟨_, _, rfl⟩
  have hw3 := heal_waits (d := d) (rep := rep) (reg := 1)
  rw [hhl] at hw3
  rw [hhl]
  simp only at hw3
  simp only
  have HH := Lib.hid hhl
  clear hhl
  by_cases h3 : e3 = 0
  · simp only [zM]
    rw [show (0 : Int) + 1 = 1 from rfl]
    subst h3
    replace hw3 := hw3 rfl hw
    rw [if_neg (by simp)]
    obtain ⟨d4, ⟨r4, p4, i4⟩, e4, hsm⟩ : ∃ d4 m4 e4, storeM d3 rep ⟨0, 0, 1⟩ = (d4, m4, e4) := ⟨_, _, _, rfl⟩
    rw [hsm]
    have HS := Lib.hid hsm
    have HW := Lib.hid hw3
    clear hsm hw3
    go_enter Tryz.func30, Tryz.ntmps30
    refine wp_seq_k (fun K hK => ?_)
    have HK := Lib.hid hK
    clear hK
    go_wp2
    refine HK.out _ _ ?_
    clear HK
    have hb0 := blw w (Obj.cells #[.int .i64 0, .int .i64 0, .int .i64 0] 76)
    have R0 := heap_alloc_new w (Obj.cells #[.int .i64 0, .int .i64 0, .int .i64 0] 76)
    have D0 := h.below hb0
    have k0 := Kt.of hb0 hb
    generalize w.alloc (Obj.cells #[.int .i64 0, .int .i64 0, .int .i64 0] 76) = w0 at *
    have hld := cload_any D0 rep 1
    rw [HL.out] at hld
    simp only [LoadRes] at hld
    go_wp2_with fail
    refine hld.mono ?_
    rintro e w1 ⟨⟨a1, c1, rfl, o1⟩, hb1⟩
    have R1 := tr_bl hb1 R0
    have D1 := D0.below hb1
    have k1 := k0.trans (Kt.of hb1 (Nat.le_trans hb hb0.size))
    clear hld hb0 R0 D0 k0 hb1
    go_wp2_with fail
    have hbA := blw w1 (Obj.cells #[.int .i64 0, .int .i64 0, .int .i64 0] 76)
    have M2 := heap_alloc_new w1 (Obj.cells #[.int .i64 0, .int .i64 0, .int .i64 0] 76)
    have R2 := tr_bl hbA R1
    have D2 := D1.below hbA
    have k2 := k1.trans (Kt.of hbA (Nat.le_trans hb k1.bl.size))
    have hqw : w.heap.size ≤ w1.heap.size := k1.bl.size
    have hne : w1.heap.size ≠ w.heap.size := by have := lt_blk R1; omega
    generalize w1.alloc (Obj.cells #[.int .i64 0, .int .i64 0, .int .i64 0] 76) = w2 at *
    generalize w1.heap.size = q at *
    clear hbA R1 D1 k1 o1
    have hhe := cheal_any D2 (Nat.le_trans hb k2.bl.size) rep 1 hw
    rw [HH.out] at hhe
    simp only at hhe
    refine hhe.mono ?_
    rintro e w3 ⟨rfl, ⟨wv3, D3⟩, hk3⟩
    have R3 := hk3.ty _ _ _ R2 (by decide) (by decide) (by decide)
    have M3 := hk3.ty _ _ _ M2 (by decide) (by decide) (by decide)
    have k3 := k2.trans hk3
    obtain ⟨q0, q1, q2, -, -, -⟩ := tri_cells M3
    clear hhe
    go_wp2_with (first
      | (go_at_call 68; have hst := mstore_any D5 (Nat.le_trans hb k5.bl.size) HW.out rep (0) (0) (1); rw [HS.out] at hst; refine hst.mono ?_; rintro e w6 ⟨rfl, ⟨wv6, D6⟩, hk6⟩; simp only [mV]; have R6 := hk6.ty _ _ _ R5 (by decide) (by decide) (by decide); have k6 := k5.trans hk6; clear hst)
      | ((with_reducible refine wpList_stB 3 _ _ ?_); refine ⟨_, _, _, ⟨_, _, _, Tryz.sizeOf3, rfl, M3, st1m (0) (0) (0) (1)⟩, ?_⟩; intro w5 M5 g5; have R5 := tr_st g5 R3 hne; have D5 := D3.st g5 M3; have k5 := k3.new g5 hqw hb; clear q0 q1 q2; obtain ⟨q0, q1, q2, -, -, -⟩ := tri_cells M5)
      | ((with_reducible refine wpList_stB 76 _ _ ?_); refine ⟨_, _, _, ⟨_, _, _, Tryz.sizeOf76, rfl, R6, st3 _ rfl r4 p4 i4⟩, ?_⟩; intro w7 R7 g7))
    refine bodyPost_ret (results_c1t1 rfl rfl (run_loadVar_all Tryz.isAgg76 Tryz.sizeOf76 R7 rfl)) rfl ⟨rfl, ⟨_, D6.st g7 R6⟩, k6.new g7 (Nat.le_refl _) hb⟩
  · rw [if_pos h3]
    have hn3 : (e3 != 0) = true := by rw [bne_iff_ne]; exact h3
    go_enter Tryz.func30, Tryz.ntmps30
    refine wp_seq_k (fun K hK => ?_)
    have HK := Lib.hid hK
    clear hK
    go_wp2
    refine HK.out _ _ ?_
    clear HK
    have hb0 := blw w (Obj.cells #[.int .i64 0, .int .i64 0, .int .i64 0] 76)
    have R0 := heap_alloc_new w (Obj.cells #[.int .i64 0, .int .i64 0, .int .i64 0] 76)
    have D0 := h.below hb0
    have k0 := Kt.of hb0 hb
    generalize w.alloc (Obj.cells #[.int .i64 0, .int .i64 0, .int .i64 0] 76) = w0 at *
    have hld := cload_any D0 rep 1
    rw [HL.out] at hld
    simp only [LoadRes] at hld
    go_wp2_with fail
    refine hld.mono ?_
    rintro e w1 ⟨⟨a1, c1, rfl, o1⟩, hb1⟩
    have R1 := tr_bl hb1 R0
    have D1 := D0.below hb1
    have k1 := k0.trans (Kt.of hb1 (Nat.le_trans hb hb0.size))
    clear hld hb0 R0 D0 k0 hb1
    go_wp2_with fail
    have hbA := blw w1 (Obj.cells #[.int .i64 0, .int .i64 0, .int .i64 0] 76)
    have M2 := heap_alloc_new w1 (Obj.cells #[.int .i64 0, .int .i64 0, .int .i64 0] 76)
    have R2 := tr_bl hbA R1
    have D2 := D1.below hbA
    have k2 := k1.trans (Kt.of hbA (Nat.le_trans hb k1.bl.size))
    have hqw : w.heap.size ≤ w1.heap.size := k1.bl.size
    have hne : w1.heap.size ≠ w.heap.size := by have := lt_blk R1; omega
    generalize w1.alloc (Obj.cells #[.int .i64 0, .int .i64 0, .int .i64 0] 76) = w2 at *
    generalize w1.heap.size = q at *
    clear hbA R1 D1 k1 o1
    have hhe := cheal_any D2 (Nat.le_trans hb k2.bl.size) rep 1 hw
    rw [HH.out] at hhe
    simp only at hhe
    refine hhe.mono ?_
    rintro e w3 ⟨rfl, ⟨wv3, D3⟩, hk3⟩
    have R3 := hk3.ty _ _ _ R2 (by decide) (by decide) (by decide)
    have k3 := k2.trans hk3
    clear hhe
    go_wp2_with ((with_reducible refine wpList_stB 76 _ _ ?_); refine ⟨_, _, _, ⟨_, _, _, Tryz.sizeOf76, rfl, R3, st3 _ rfl 0 0 0⟩, ?_⟩; intro w5 R5 g5)
    refine bodyPost_ret (results_c1t1 rfl rfl (run_loadVar_all Tryz.isAgg76 Tryz.sizeOf76 R5 rfl)) rfl ⟨rfl, ⟨_, D3.st g5 R3⟩, k3.new g5 (Nat.le_refl _) hb⟩
set_option maxRecDepth 100000 in
set_option maxHeartbeats 2000000 in
theorem begin_got (h : DiskB B g gp wv d w) (hb : B ≤ w.heap.size) (hw : d.waits.length ≤ 1000) (rep : Int) {v : Int} {l : List UInt8} (hl : loadC d rep 1 = (v, l, 0)) (hv : 0 < v) : Calls Tryz.prog 30 #[.pointer (some ⟨g, 0, none⟩), .int .i64 rep] w (MRes B g gp w (beginM d rep)) := by
  unfold beginM
  rw [hl]
  simp only
  rw [if_neg (by simp)]
  unfold ldM
  rw [if_pos hv]
  have HL := Lib.hid hl
  clear hl
  by_cases hp : parE l = 0
  case neg =>
    rw [if_pos ⟨hv, hp⟩]
    have hpn : (parE l != 0) = true := by rw [bne_iff_ne]; exact hp
    go_enter Tryz.func30, Tryz.ntmps30
    refine wp_seq_k (fun K hK => ?_)
    have HK := Lib.hid hK
    clear hK
    go_wp2
    refine HK.out _ _ ?_
    clear HK
    have hb0 := blw w (Obj.cells #[.int .i64 0, .int .i64 0, .int .i64 0] 76)
    have R0 := heap_alloc_new w (Obj.cells #[.int .i64 0, .int .i64 0, .int .i64 0] 76)
    have D0 := h.below hb0
    have k0 := Kt.of hb0 hb
    generalize w.alloc (Obj.cells #[.int .i64 0, .int .i64 0, .int .i64 0] 76) = w0 at *
    have hld := cload_any D0 rep 1
    rw [HL.out] at hld
    simp only [LoadRes] at hld
    go_wp2_with fail
    refine hld.mono ?_
    rintro e w1 ⟨⟨a1, c1, rfl, o1⟩, hb1⟩
    have R1 := tr_bl hb1 R0
    have D1 := D0.below hb1
    have k1 := k0.trans (Kt.of hb1 (Nat.le_trans hb hb0.size))
    clear hld hb0 R0 D0 k0 hb1
    have HV := Lib.hid (parV_T l)
    obtain ⟨rr, pp, ii, hT⟩ : ∃ r p i, parT l = ⟨r, p, i⟩ := ⟨_, _, _, rfl⟩
    have HT := Lib.hid hT
    clear hT
    go_wp2_with (first
      | (go_at_call 67; refine (parse_any a1 c1 l _ ((o1.below (blw w1 (Obj.cells #[.int .i64 0, .int .i64 0, .int .i64 0] 76))).slb)).mono ?_; rintro e w2 ⟨rfl, hb2⟩; rw [HV.out, HT.out]; simp only [mV]; have M2 := tr_bl hb2 (heap_alloc_new w1 (Obj.cells #[.int .i64 0, .int .i64 0, .int .i64 0] 76)); have hbA := (blw w1 (Obj.cells #[.int .i64 0, .int .i64 0, .int .i64 0] 76)).trans (hb2.mono (blw w1 (Obj.cells #[.int .i64 0, .int .i64 0, .int .i64 0] 76)).size); have R2 := tr_bl hbA R1; have D2 := D1.below hbA; have k2 := k1.trans (Kt.of hbA (Nat.le_trans hb k1.bl.size)))
      | ((with_reducible refine wpList_stB 76 _ _ ?_); refine ⟨_, _, _, ⟨_, _, _, Tryz.sizeOf76, rfl, M2, st3 _ rfl rr pp ii⟩, ?_⟩; intro w3 M3 g3; have R3 := tr_st g3 R2 (by have := lt_blk R1; omega); have D3 := D2.st g3 M2; have k3 := k2.new g3 k1.bl.size hb)
      | ((with_reducible refine wpList_stB 76 _ _ ?_); refine ⟨_, _, _, ⟨_, _, _, Tryz.sizeOf76, rfl, R3, st3 _ rfl 0 0 0⟩, ?_⟩; intro w5 R5 g5))
    refine bodyPost_ret (results_c1t1 rfl rfl (run_loadVar_all Tryz.isAgg76 Tryz.sizeOf76 R5 rfl)) rfl ⟨rfl, ⟨_, D3.st g5 R3⟩, k3.new g5 (Nat.le_refl _) hb⟩
  case pos =>
    rw [if_neg (fun h => h.2 hp)]
    have hbd := parT_bd l
    have HP := Lib.hid hp
    have HV := Lib.hid (parV_T l)
    clear hp
    generalize parT l = T at *
    obtain ⟨r, p, i⟩ := T
    simp only at hbd ⊢
    obtain ⟨hi0, hi1⟩ := hbd
    by_cases hi : i = 1099511627776
    · rw [if_pos hi]
      subst hi
      go_enter Tryz.func30, Tryz.ntmps30
      refine wp_seq_k (fun K hK => ?_)
      have HK := Lib.hid hK
      clear hK
      go_wp2
      refine HK.out _ _ ?_
      clear HK
      have hb0 := blw w (Obj.cells #[.int .i64 0, .int .i64 0, .int .i64 0] 76)
      have R0 := heap_alloc_new w (Obj.cells #[.int .i64 0, .int .i64 0, .int .i64 0] 76)
      have D0 := h.below hb0
      have k0 := Kt.of hb0 hb
      generalize w.alloc (Obj.cells #[.int .i64 0, .int .i64 0, .int .i64 0] 76) = w0 at *
      have hld := cload_any D0 rep 1
      rw [HL.out] at hld
      simp only [LoadRes] at hld
      go_wp2_with fail
      refine hld.mono ?_
      rintro e w1 ⟨⟨a1, c1, rfl, o1⟩, hb1⟩
      have R1 := tr_bl hb1 R0
      have D1 := D0.below hb1
      have k1 := k0.trans (Kt.of hb1 (Nat.le_trans hb hb0.size))
      clear hld hb0 R0 D0 k0 hb1
      go_wp2_with (first
        | (go_at_call 67; refine (parse_any a1 c1 l _ ((o1.below (blw w1 (Obj.cells #[.int .i64 0, .int .i64 0, .int .i64 0] 76))).slb)).mono ?_; rintro e wp ⟨rfl, hbp⟩; rw [HV.out, HP.out]; simp only [mV]; have M1 := tr_bl hbp (heap_alloc_new w1 (Obj.cells #[.int .i64 0, .int .i64 0, .int .i64 0] 76)); have hbA := (blw w1 (Obj.cells #[.int .i64 0, .int .i64 0, .int .i64 0] 76)).trans (hbp.mono (blw w1 (Obj.cells #[.int .i64 0, .int .i64 0, .int .i64 0] 76)).size); have Rp := tr_bl hbA R1; have Dp := D1.below hbA; have kp := k1.trans (Kt.of hbA (Nat.le_trans hb k1.bl.size)))
        | ((with_reducible refine wpList_stB 76 _ _ ?_); refine ⟨_, _, _, ⟨_, _, _, Tryz.sizeOf76, rfl, M1, st3 _ rfl r p 1099511627776⟩, ?_⟩; intro w2 M2 g2; have R2 := tr_st g2 Rp (by have := lt_blk R1; omega); have D2 := Dp.st g2 M1; have k2 := kp.new g2 k1.bl.size hb; obtain ⟨q0, q1, q2, -, -, -⟩ := tri_cells M2)
        | ((with_reducible refine wpList_stB 76 _ _ ?_); refine ⟨_, _, _, ⟨_, _, _, Tryz.sizeOf76, rfl, R2, st3 _ rfl 0 0 0⟩, ?_⟩; intro w5 R5 g5))
      refine bodyPost_ret (results_c1t1 rfl rfl (run_loadVar_all Tryz.isAgg76 Tryz.sizeOf76 R5 rfl)) rfl ⟨rfl, ⟨_, D2.st g5 R2⟩, k2.new g5 (Nat.le_refl _) hb⟩
    · rw [if_neg hi]
      have hin : (i == 1099511627776) = false := by rw [beq_eq_false_iff_ne]; exact hi
      obtain ⟨d3, e3, hhl⟩ : ∃ d3 e3, healC d rep 1 = (d3, e3) := ⟨_, _, rfl⟩
      have hw3 := heal_waits (d := d) (rep := rep) (reg := 1)
      rw [hhl] at hw3
      rw [hhl]
      simp only at hw3
      simp only
      have HH := Lib.hid hhl
      clear hhl
      by_cases h3 : e3 = 0
      · skip
        subst h3
        replace hw3 := hw3 rfl hw
        rw [if_neg (by simp)]
        obtain ⟨d4, ⟨r4, p4, i4⟩, e4, hsm⟩ : ∃ d4 m4 e4, storeM d3 rep ⟨r, p, i + 1⟩ = (d4, m4, e4) := ⟨_, _, _, rfl⟩
        rw [hsm]
        have HS := Lib.hid hsm
        have HW := Lib.hid hw3
        clear hsm hw3
        go_enter Tryz.func30, Tryz.ntmps30
        refine wp_seq_k (fun K hK => ?_)
        have HK := Lib.hid hK
        clear hK
        go_wp2
        refine HK.out _ _ ?_
        clear HK
        have hb0 := blw w (Obj.cells #[.int .i64 0, .int .i64 0, .int .i64 0] 76)
        have R0 := heap_alloc_new w (Obj.cells #[.int .i64 0, .int .i64 0, .int .i64 0] 76)
        have D0 := h.below hb0
        have k0 := Kt.of hb0 hb
        generalize w.alloc (Obj.cells #[.int .i64 0, .int .i64 0, .int .i64 0] 76) = w0 at *
        have hld := cload_any D0 rep 1
        rw [HL.out] at hld
        simp only [LoadRes] at hld
        go_wp2_with fail
        refine hld.mono ?_
        rintro e w1 ⟨⟨a1, c1, rfl, o1⟩, hb1⟩
        have R1 := tr_bl hb1 R0
        have D1 := D0.below hb1
        have k1 := k0.trans (Kt.of hb1 (Nat.le_trans hb hb0.size))
        clear hld hb0 R0 D0 k0 hb1
        go_wp2_with (first
          | (go_at_call 67; refine (parse_any a1 c1 l _ ((o1.below (blw w1 (Obj.cells #[.int .i64 0, .int .i64 0, .int .i64 0] 76))).slb)).mono ?_; rintro e wp ⟨rfl, hbp⟩; rw [HV.out, HP.out]; simp only [mV]; have M1 := tr_bl hbp (heap_alloc_new w1 (Obj.cells #[.int .i64 0, .int .i64 0, .int .i64 0] 76)); have hbA := (blw w1 (Obj.cells #[.int .i64 0, .int .i64 0, .int .i64 0] 76)).trans (hbp.mono (blw w1 (Obj.cells #[.int .i64 0, .int .i64 0, .int .i64 0] 76)).size); have Rp := tr_bl hbA R1; have Dp := D1.below hbA; have kp := k1.trans (Kt.of hbA (Nat.le_trans hb k1.bl.size)))
          | ((with_reducible refine wpList_stB 76 _ _ ?_); refine ⟨_, _, _, ⟨_, _, _, Tryz.sizeOf76, rfl, M1, st3 _ rfl r p i⟩, ?_⟩; intro w2 M2 g2; have R2 := tr_st g2 Rp (by have := lt_blk R1; omega); have D2 := Dp.st g2 M1; have k2 := kp.new g2 k1.bl.size hb; obtain ⟨q0, q1, q2, -, -, -⟩ := tri_cells M2))
        have hqw : w.heap.size ≤ w1.heap.size := k1.bl.size
        have hne : w1.heap.size ≠ w.heap.size := by have := lt_blk R1; omega
        have hhe := cheal_any D2 (Nat.le_trans hb k2.bl.size) rep 1 hw
        rw [HH.out] at hhe
        simp only at hhe
        refine hhe.mono ?_
        rintro e w3 ⟨rfl, ⟨wv3, D3⟩, hk3⟩
        have R3 := hk3.ty _ _ _ R2 (by decide) (by decide) (by decide)
        have M3 := hk3.ty _ _ _ M2 (by decide) (by decide) (by decide)
        have k3 := k2.trans hk3
        obtain ⟨q0, q1, q2, -, -, -⟩ := tri_cells M3
        clear hhe
        go_wp2_with (first
          | (go_at_call 68; have hst := mstore_any D5 (Nat.le_trans hb k5.bl.size) HW.out rep (r) (p) (i + 1); rw [HS.out] at hst; refine hst.mono ?_; rintro e w6 ⟨rfl, ⟨wv6, D6⟩, hk6⟩; simp only [mV]; have R6 := hk6.ty _ _ _ R5 (by decide) (by decide) (by decide); have k6 := k5.trans hk6; clear hst)
          | ((with_reducible refine wpList_stB 3 _ _ ?_); refine ⟨_, _, _, ⟨_, _, _, Tryz.sizeOf3, rfl, M3, st1m (r) (p) (i) (i + 1)⟩, ?_⟩; intro w5 M5 g5; have R5 := tr_st g5 R3 hne; have D5 := D3.st g5 M3; have k5 := k3.new g5 hqw hb; clear q0 q1 q2; obtain ⟨q0, q1, q2, -, -, -⟩ := tri_cells M5)
          | ((with_reducible refine wpList_stB 76 _ _ ?_); refine ⟨_, _, _, ⟨_, _, _, Tryz.sizeOf76, rfl, R6, st3 _ rfl r4 p4 i4⟩, ?_⟩; intro w7 R7 g7))
        refine bodyPost_ret (results_c1t1 rfl rfl (run_loadVar_all Tryz.isAgg76 Tryz.sizeOf76 R7 rfl)) rfl ⟨rfl, ⟨_, D6.st g7 R6⟩, k6.new g7 (Nat.le_refl _) hb⟩
      · rw [if_pos h3]
        have hn3 : (e3 != 0) = true := by rw [bne_iff_ne]; exact h3
        go_enter Tryz.func30, Tryz.ntmps30
        refine wp_seq_k (fun K hK => ?_)
        have HK := Lib.hid hK
        clear hK
        go_wp2
        refine HK.out _ _ ?_
        clear HK
        have hb0 := blw w (Obj.cells #[.int .i64 0, .int .i64 0, .int .i64 0] 76)
        have R0 := heap_alloc_new w (Obj.cells #[.int .i64 0, .int .i64 0, .int .i64 0] 76)
        have D0 := h.below hb0
        have k0 := Kt.of hb0 hb
        generalize w.alloc (Obj.cells #[.int .i64 0, .int .i64 0, .int .i64 0] 76) = w0 at *
        have hld := cload_any D0 rep 1
        rw [HL.out] at hld
        simp only [LoadRes] at hld
        go_wp2_with fail
        refine hld.mono ?_
        rintro e w1 ⟨⟨a1, c1, rfl, o1⟩, hb1⟩
        have R1 := tr_bl hb1 R0
        have D1 := D0.below hb1
        have k1 := k0.trans (Kt.of hb1 (Nat.le_trans hb hb0.size))
        clear hld hb0 R0 D0 k0 hb1
        go_wp2_with (first
          | (go_at_call 67; refine (parse_any a1 c1 l _ ((o1.below (blw w1 (Obj.cells #[.int .i64 0, .int .i64 0, .int .i64 0] 76))).slb)).mono ?_; rintro e wp ⟨rfl, hbp⟩; rw [HV.out, HP.out]; simp only [mV]; have M1 := tr_bl hbp (heap_alloc_new w1 (Obj.cells #[.int .i64 0, .int .i64 0, .int .i64 0] 76)); have hbA := (blw w1 (Obj.cells #[.int .i64 0, .int .i64 0, .int .i64 0] 76)).trans (hbp.mono (blw w1 (Obj.cells #[.int .i64 0, .int .i64 0, .int .i64 0] 76)).size); have Rp := tr_bl hbA R1; have Dp := D1.below hbA; have kp := k1.trans (Kt.of hbA (Nat.le_trans hb k1.bl.size)))
          | ((with_reducible refine wpList_stB 76 _ _ ?_); refine ⟨_, _, _, ⟨_, _, _, Tryz.sizeOf76, rfl, M1, st3 _ rfl r p i⟩, ?_⟩; intro w2 M2 g2; have R2 := tr_st g2 Rp (by have := lt_blk R1; omega); have D2 := Dp.st g2 M1; have k2 := kp.new g2 k1.bl.size hb; obtain ⟨q0, q1, q2, -, -, -⟩ := tri_cells M2))
        have hqw : w.heap.size ≤ w1.heap.size := k1.bl.size
        have hne : w1.heap.size ≠ w.heap.size := by have := lt_blk R1; omega
        have hhe := cheal_any D2 (Nat.le_trans hb k2.bl.size) rep 1 hw
        rw [HH.out] at hhe
        simp only at hhe
        refine hhe.mono ?_
        rintro e w3 ⟨rfl, ⟨wv3, D3⟩, hk3⟩
        have R3 := hk3.ty _ _ _ R2 (by decide) (by decide) (by decide)
        have k3 := k2.trans hk3
        clear hhe
        go_wp2_with ((with_reducible refine wpList_stB 76 _ _ ?_); refine ⟨_, _, _, ⟨_, _, _, Tryz.sizeOf76, rfl, R3, st3 _ rfl 0 0 0⟩, ?_⟩; intro w5 R5 g5)
        refine bodyPost_ret (results_c1t1 rfl rfl (run_loadVar_all Tryz.isAgg76 Tryz.sizeOf76 R5 rfl)) rfl ⟨rfl, ⟨_, D3.st g5 R3⟩, k3.new g5 (Nat.le_refl _) hb⟩
theorem begin_any (h : DiskB B g gp wv d w) (hb : B ≤ w.heap.size) (hw : d.waits.length ≤ 1000) (rep : Int) : Calls Tryz.prog 30 #[.pointer (some ⟨g, 0, none⟩), .int .i64 rep] w (MRes B g gp w (beginM d rep)) := by
  obtain ⟨v, l, e, hl⟩ : ∃ v l e, loadC d rep 1 = (v, l, e) := ⟨_, _, _, rfl⟩
  by_cases he : e = 0
  · subst he
    by_cases hv : 0 < v
    · exact begin_got h hb hw rep hl hv
    · exact begin_zero h hb hw rep hl hv
  · exact begin_err h hb rep hl he
end
end Go.Proofs.YtddddemclhlfaaaGreatDoor
namespace Go.Proofs.YtddddemclhlfaaaGreatDoor
open Go.RowKit
set_option maxHeartbeats 1000000 in
theorem rballot_any (r p : Int) (w : World) : Calls Tryz.prog 75 #[.agg #[.int .i64 r, .int .i64 p]] w fun e w' => e = .returned (.bool (balB r p)) ∧ w' = w.alloc (Obj.cells #[.int .i64 r, .int .i64 p] 74) := by
  by_cases h1 : 1 ≤ r
  · by_cases h2 : r ≤ 1099511627776
    · by_cases h3 : 0 ≤ p
      · by_cases h4 : p ≤ 6
        all_goals
          go_enter Tryz.func75, Tryz.ntmps75
          go_wp2
          go_ret
          exact ⟨ret_bool (by first | rw [balB_yes (by omega)] | rw [balB_no (by omega)]), rfl⟩
      · go_enter Tryz.func75, Tryz.ntmps75
        go_wp2
        go_ret
        exact ⟨ret_bool (by rw [balB_no (by omega)]), rfl⟩
    · go_enter Tryz.func75, Tryz.ntmps75
      go_wp2
      go_ret
      exact ⟨ret_bool (by rw [balB_no (by omega)]), rfl⟩
  · go_enter Tryz.func75, Tryz.ntmps75
    go_wp2
    go_ret
    exact ⟨ret_bool (by rw [balB_no (by omega)]), rfl⟩
set_option maxRecDepth 20000 in
set_option maxHeartbeats 4000000 in
theorem rmay_any (r p i : Int) (w : World) : Calls Tryz.prog 74 #[.agg #[.int .i64 r, .int .i64 p, .int .i64 i]] w fun e w' => e = .returned (.bool (mayM r p i)) ∧ Below w.heap.size w w' := by
  unfold mayM
  have hcs : (1 ≤ i ∧ i ≤ 1099511627776) ∨ (1 ≤ i ∧ ¬ i ≤ 1099511627776) ∨ (¬ 1 ≤ i ∧ i ≤ 1099511627776) := by omega
  rcases hcs with ⟨hi, hj⟩ | ⟨hi, hj⟩ | ⟨hi, hj⟩
  all_goals
    by_cases hr : r = 0
    · subst hr
      by_cases hp : p = 0
      · subst hp
        go_enter Tryz.func74, Tryz.ntmps74
        go_wp2
        go_ret
        exact ⟨ret_bool (by simp [hi, hj]), by (repeat' (first | (with_reducible exact Below.refl _ _) | (with_reducible assumption) | (with_reducible refine Below.alloc ?_ ?_ _) | (with_reducible refine Below.drew ?_) | (with_reducible refine below_drewN ?_ _) | (with_reducible refine Below.setCell ?_ ?_ _) | (with_reducible refine Below.trans ?_ (by assumption)) | go_size))⟩
      · have HB := Lib.hid (show balB 0 p = false from balB_no (by omega))
        go_enter Tryz.func74, Tryz.ntmps74
        go_wp2_with (go_at_call 75; refine (rballot_any _ _ _).mono ?_; rintro e w' ⟨rfl, rfl⟩; rw [HB.out])
        go_ret
        exact ⟨ret_bool (by simp [hp, HB.out]), by (repeat' (first | (with_reducible exact Below.refl _ _) | (with_reducible assumption) | (with_reducible refine Below.alloc ?_ ?_ _) | (with_reducible refine Below.drew ?_) | (with_reducible refine below_drewN ?_ _) | (with_reducible refine Below.setCell ?_ ?_ _) | (with_reducible refine Below.trans ?_ (by assumption)) | go_size))⟩
    · cases hb : balB r p
      all_goals
        have HB := Lib.hid hb
        clear hb
        go_enter Tryz.func74, Tryz.ntmps74
        go_wp2_with (go_at_call 75; refine (rballot_any _ _ _).mono ?_; rintro e w' ⟨rfl, rfl⟩; rw [HB.out])
        go_ret
        exact ⟨ret_bool (by simp [hi, hj, hr]), by (repeat' (first | (with_reducible exact Below.refl _ _) | (with_reducible assumption) | (with_reducible refine Below.alloc ?_ ?_ _) | (with_reducible refine Below.drew ?_) | (with_reducible refine below_drewN ?_ _) | (with_reducible refine Below.setCell ?_ ?_ _) | (with_reducible refine Below.trans ?_ (by assumption)) | go_size))⟩
set_option maxRecDepth 20000 in
set_option maxHeartbeats 4000000 in
theorem rprint_any (r p i : Int) (w : World) : Calls Tryz.prog 121 #[.agg #[.int .i64 r, .int .i64 p, .int .i64 i]] w fun e w' => OwnBytes w.heap.size (metaL r p i) (metaE r p i) e w' ∧ Below w.heap.size w w' := by
  unfold metaL metaE
  cases hm : mayM r p i
  · rw [if_neg (by simp), if_neg (by simp)]
    have HM := Lib.hid hm
    clear hm
    go_enter Tryz.func121, Tryz.ntmps121
    go_wp2_with (go_at_call 74; refine (rmay_any _ _ _ _).mono ?_; rintro e w1 ⟨rfl, hb1⟩; rw [HM.out])
    go_ret2
    exact ⟨⟨.slice none 0 0, rfl, World.ownsRow_nil _ _ _ _⟩, ((Below.refl _ _).alloc (Nat.le_refl _) _).trans (hb1.mono (by simp))⟩
  · rw [if_pos rfl, if_pos rfl]
    obtain ⟨hr0, hr1, hp0, hp1, hi0, hi1⟩ := may_bd hm
    obtain ⟨r, rfl⟩ : ∃ rn : Nat, r = rn := ⟨r.toNat, by omega⟩
    obtain ⟨p, rfl⟩ : ∃ rn : Nat, p = rn := ⟨p.toNat, by omega⟩
    obtain ⟨i, rfl⟩ : ∃ rn : Nat, i = rn := ⟨i.toNat, by omega⟩
    simp only [Int.toNat_natCast]
    have hl1 := put6 r (by omega)
    have hl3 := put6 i (by omega)
    have hl2 := bys_le1 p (by omega)
    have HM := Lib.hid hm
    have H1 := Lib.hid hl1
    have H2 := Lib.hid hl2
    have H3 := Lib.hid hl3
    clear hm hl1 hl2 hl3
    go_enter Tryz.func121, Tryz.ntmps121
    refine wp_seq_k (fun K hK => ?_)
    have HK := Lib.hid hK
    clear hK
    go_wp2
    refine HK.out _ _ ?_
    clear HK
    refine wp_seq_k (fun K hK => ?_)
    have HK := Lib.hid hK
    clear hK
    go_wp2_with (go_at_call 74; refine (rmay_any _ _ _ _).mono ?_; rintro e w1 ⟨rfl, hb1⟩; rw [HM.out])
    refine HK.out _ _ ?_
    clear HK
    have c0 := cell_later (a := ⟨w.heap.size, 0, none⟩) hb1 (by simp [go_sem]; rfl)
    have c1 := cell_later (a := ⟨w.heap.size, 1, none⟩) hb1 (by simp [go_sem]; rfl)
    have c2 := cell_later (a := ⟨w.heap.size, 2, none⟩) hb1 (by simp [go_sem]; rfl)
    refine wp_seq_k (fun K hK => ?_)
    have HK := Lib.hid hK
    clear hK
    go_wp2_with (go_at_call 90; refine (rput_any _ _ _ (by omega)).mono ?_; rintro e w2 ⟨⟨v, rfl, hown⟩, hb2⟩; rw [H1.out.2]; rw [H1.out.1, le_len] at hown)
    refine HK.out _ _ ?_
    clear HK
    have d0 := cell_later hb2 c0
    have d1 := cell_later hb2 c1
    have d2 := cell_later hb2 c2
    have hb01 : Below w.heap.size w w1 := ((Below.refl _ _).alloc (Nat.le_refl _) _).trans (hb1.mono (by simp))
    have hs1 := hb01.size
    have hs2 := hb2.size
    clear c0 c1 c2
    refine wp_seq_k (fun K hK => ?_)
    have HK := Lib.hid hK
    clear hK
    go_wp2_with (at_builtin; refine wpList_append1 rfl _ _ 34 5 elByte rfl w1.heap.size _ _ _ rfl hown #[.int .u8 (p : Int)] rfl (by simp; rfl) _ rfl (by omega) (by omega) (by omega) ?_; intro v2 w3 hown2 hb3 _)
    refine HK.out _ _ ?_
    clear HK
    have hs1' := hb1.size
    simp at hs1'
    have e0 := (hb3.cell (p := ⟨w.heap.size, 0, none⟩) (by show w.heap.size < _; omega)).trans d0
    have e1 := (hb3.cell (p := ⟨w.heap.size, 1, none⟩) (by show w.heap.size < _; omega)).trans d1
    have e2 := (hb3.cell (p := ⟨w.heap.size, 2, none⟩) (by show w.heap.size < _; omega)).trans d2
    clear d0 d1 d2
    refine wp_seq_k (fun K hK => ?_)
    have HK := Lib.hid hK
    clear hK
    go_wp2_with (go_at_call 90; refine (rput_any _ _ _ (by omega)).mono ?_; rintro e w4 ⟨⟨v4, rfl, hown4⟩, hb4⟩; rw [H3.out.2]; rw [H3.out.1, le_len] at hown4)
    refine HK.out _ _ ?_
    clear HK
    obtain ⟨ma, mcap, rfl, hmr, _, _⟩ := Row.of_owns hown4
    have hown24 := owns_after hown2 hb4
    have hs3 := hb3.size
    have hs4 := hb4.size
    refine wp_seq_k (fun K hK => ?_)
    have HK := Lib.hid hK
    clear hK
    go_wp2_with (at_builtin; refine wpList_append_row rfl _ _ 34 5 elByte rfl w1.heap.size _ _ _ rfl hown24 _ _ _ _ rfl (by simp [bys_len, le_len]) hmr bys_one (by omega) (by omega) (by omega) ?_; intro v5 w5 hown5 hb5)
    refine HK.out _ _ ?_
    clear HK
    go_wp2
    go_ret2
    refine ⟨⟨_, rfl, ?_⟩, ?_⟩
    · have hx := owns_mono hown5 (Nat.le_trans (Nat.le_succ _) hs1')
      simp only [bys_app, List.length_append, le_len, H2.out]
      exact hx
    · exact (((hb01.trans (hb2.mono (by omega))).trans (hb3.mono (by omega))).trans (hb4.mono (by omega))).trans (hb5.mono (by omega))
end Go.Proofs.YtddddemclhlfaaaGreatDoor
namespace Go.Proofs.YtddddemclhlfaaaGreatDoor
open Go.RowKit
theorem rget_w (a : Option Addr) (cap : Nat) (l : List UInt8) (at_ k : Nat) (w : World) (hs : SlB w a cap l) (hk : k = 1 ∨ k = 2 ∨ k = 4 ∨ k = 6) (h : at_ + k ≤ l.length) (n : Nat) (hn : l.length = n) (at' k' s : Int) (hat : at' = at_) (hk' : k' = k) (hs' : s = at' + k') :
    Calls Tryz.prog 120 #[.slice a n cap, .int .i64 at', .int .i64 k'] w fun e w' => e = .returned (.tuple #[.int .i64 (getN l at_ k), .int .i64 s, .int .i64 0]) ∧ w = w' := by
  subst hn hat hk' hs'
  exact rget_ok a cap l at_ k w hs hk h
set_option maxRecDepth 20000 in
set_option maxHeartbeats 400000 in
theorem rparse_any (a : Option Addr) (cap : Nat) (l : List UInt8) (w : World) (hs : SlB w a cap l) :
    Calls Tryz.prog 69 #[.slice a l.length cap] w fun e w' => e = .returned (.tuple #[parV l, .int .i64 (parE l)]) ∧ Below w.heap.size w w' := by
  have hmx := hs.max
  unfold maxLen at hmx
  have hle := hs.le
  by_cases h13 : l.length = 13
  · have hs0 : SlB (w.alloc (Obj.cells #[.int .i64 0, .int .i64 0, .int .i64 0] 76)) a cap l := hs.below ((Below.refl _ _).alloc (Nat.le_refl _) _)
    have h0 := getN_one l 6 (by omega)
    obtain ⟨b, off, rfl, hc⟩ := hs0.row.byte (i := 6) (by omega)
    have hx := (l[6]'(by omega)).toNat_lt
    generalize (l[6]'(by omega)).toNat = x at *
    subst h0
    have hpe : parM l = mayM (getN l 0 6) (getN l 6 1) (getN l 7 6) := by simp [parM, h13]
    unfold parV parE
    rw [hpe]
    clear hpe
    cases hm : mayM (getN l 0 6) (getN l 6 1) (getN l 7 6)
    all_goals
      have HM := Lib.hid hm
      clear hm
      first | rw [if_pos rfl, if_pos rfl] | rw [if_neg (by simp), if_neg (by simp)]
      go_enter Tryz.func69, Tryz.ntmps69
      refine wp_seq_k (fun K hK => ?_)
      have HK := Lib.hid hK
      clear hK
      go_wp2
      refine HK.out _ _ ?_
      clear HK
      refine wp_seq_k (fun K hK => ?_)
      have HK := Lib.hid hK
      clear hK
      go_wp2
      refine HK.out _ _ ?_
      clear HK
      refine wp_seq_k (fun K hK => ?_)
      have HK := Lib.hid hK
      clear hK
      go_wp2_with (go_at_call 120; refine (rget_w _ cap l 0 6 _ hs0 (by omega) (by omega) 13 h13 0 6 6 rfl rfl rfl).mono ?_; rintro e w1 ⟨rfl, rfl⟩)
      refine HK.out _ _ ?_
      clear HK
      refine wp_seq_k (fun K hK => ?_)
      have HK := Lib.hid hK
      clear hK
      go_wp2_with (go_at_call 120; refine (rget_w _ cap l 7 6 _ hs0 (by omega) (by omega) 13 h13 7 6 13 rfl rfl rfl).mono ?_; rintro e w1 ⟨rfl, rfl⟩)
      refine HK.out _ _ ?_
      clear HK
      refine wp_seq_k (fun K hK => ?_)
      have HK := Lib.hid hK
      clear hK
      go_wp2
      refine HK.out _ _ ?_
      clear HK
      go_wp2_with (go_at_call 74; refine (rmay_any _ _ _ _).mono ?_; rintro e w1 ⟨rfl, hb1⟩; rw [HM.out]; obtain ⟨q0, q1, q2, f0, f1, f2, p0, p1, p2, -, -, -⟩ := two_metas hb1; have hbw := below_two hb1)
      (try simp only [Exit.inBlock, Exit.then])
      refine bodyPost_ret ?hr rfl ⟨rfl, ?_⟩
      case hr =>
        simp only [results, Tryz.results69]
        go_simp
      (repeat' (first | (with_reducible exact Below.refl _ _) | (with_reducible assumption) | (with_reducible refine Below.alloc ?_ ?_ _) | (with_reducible refine Below.drew ?_) | (with_reducible refine below_drewN ?_ _) | (with_reducible refine Below.setCell ?_ ?_ _) | (with_reducible refine Below.trans ?_ (by assumption)) | go_size))
  · have hpe : parM l = false := by simp [parM, h13]
    unfold parV parE
    rw [if_neg (by simp [hpe]), if_neg (by simp [hpe])]
    have h1 : ((l.length : Int) != 13) = true := by rw [bne_iff_ne]; omega
    go_enter Tryz.func69, Tryz.ntmps69
    go_wp2
    (try simp only [Exit.inBlock, Exit.then])
    refine bodyPost_ret (v := .tuple #[.agg #[.int .i64 0, .int .i64 0, .int .i64 0], .int .i64 80]) ?hr rfl ?_
    case hr =>
      simp only [results, Tryz.results69]
      go_simp
    · exact ⟨rfl, by (repeat' (first | (with_reducible exact Below.refl _ _) | (with_reducible assumption) | (with_reducible refine Below.alloc ?_ ?_ _) | (with_reducible refine Below.drew ?_) | (with_reducible refine below_drewN ?_ _) | (with_reducible refine Below.setCell ?_ ?_ _) | (with_reducible refine Below.trans ?_ (by assumption)) | go_size))⟩
end Go.Proofs.YtddddemclhlfaaaGreatDoor
namespace Go.Proofs.YtddddemclhlfaaaGreatDoor
open Go.RowKit
def RMes (B g : Nat) (w : World) (r : Dk × Mt × Int) (e : Ending) (w' : World) : Prop := e = .returned (.tuple #[mV r.2.1, .int .i64 r.2.2]) ∧ RDoes B g rT w r.1 w'
theorem OwnB.kr {B base : Nat} {w w' : World} {a : Option Addr} {c : Nat} {l : List UInt8} (h : OwnB w base a c l) (hk : Kx rT B w w') : OwnB w' base a c l := by
  rcases h with h | ⟨g, cur, h1, h2, h3, h4, h5⟩
  · exact .inl h
  · exact .inr ⟨g, cur, h1, h2, h3, h4, hk.ty _ _ _ h5 (by decide)⟩
set_option maxHeartbeats 1000000 in
theorem rabove_any (r p r' p' : Int) (w : World) : Calls Tryz.prog 76 #[.agg #[.int .i64 r, .int .i64 p], .agg #[.int .i64 r', .int .i64 p']] w fun e w' => e = .returned (.bool (abvB r p r' p')) ∧ Below w.heap.size w w' := by
  unfold abvB
  by_cases h1 : r' < r
  · go_enter Tryz.func76, Tryz.ntmps76
    go_wp2
    go_ret
    exact ⟨ret_bool (by simp [h1]), by (repeat' (first | (with_reducible exact Below.refl _ _) | (with_reducible assumption) | (with_reducible refine Below.alloc ?_ ?_ _) | (with_reducible refine Below.drew ?_) | (with_reducible refine below_drewN ?_ _) | (with_reducible refine Below.setCell ?_ ?_ _) | (with_reducible refine Below.trans ?_ (by assumption)) | go_size))⟩
  · by_cases h2 : r = r'
    · subst h2
      by_cases h3 : p' < p
      all_goals
        go_enter Tryz.func76, Tryz.ntmps76
        go_wp2
        go_ret
        exact ⟨ret_bool (by simp [h3]), by (repeat' (first | (with_reducible exact Below.refl _ _) | (with_reducible assumption) | (with_reducible refine Below.alloc ?_ ?_ _) | (with_reducible refine Below.drew ?_) | (with_reducible refine below_drewN ?_ _) | (with_reducible refine Below.setCell ?_ ?_ _) | (with_reducible refine Below.trans ?_ (by assumption)) | go_size))⟩
    · go_enter Tryz.func76, Tryz.ntmps76
      go_wp2
      go_ret
      exact ⟨ret_bool (by simp [h1]), by (repeat' (first | (with_reducible exact Below.refl _ _) | (with_reducible assumption) | (with_reducible refine Below.alloc ?_ ?_ _) | (with_reducible refine Below.drew ?_) | (with_reducible refine below_drewN ?_ _) | (with_reducible refine Below.setCell ?_ ?_ _) | (with_reducible refine Below.trans ?_ (by assumption)) | go_size))⟩
section
variable {B g : Nat} {qq : RQ} {d : Dk} {w : World}
set_option maxRecDepth 100000 in
set_option maxHeartbeats 1000000 in
theorem rmstore_any (h : RefB B g qq d w) (hb : B ≤ w.heap.size) (hw : d.waits.length ≤ 1000) (rep r p i : Int) (hm : mayM r p i = true) : Calls Tryz.prog 70 #[.pointer (some ⟨g, 0, none⟩), .int .i64 rep, .agg #[.int .i64 r, .int .i64 p, .int .i64 i]] w (RMes B g w (storeM d rep ⟨r, p, i⟩)) := by
  unfold storeM
  simp only
  rw [if_neg (by rw [hm]; simp)]
  have HE := Lib.hid (show metaE r p i = 0 by unfold metaE; rw [hm]; rfl)
  have HL := Lib.hid (metaL_one hm)
  clear hm
  obtain ⟨d3, e3, hsr⟩ : ∃ d3 e3, storeC d rep 1 i (metaL r p i) = (d3, e3) := ⟨_, _, rfl⟩
  rw [hsr]
  simp only
  have HS := Lib.hid hsr
  clear hsr
  go_enter Tryz.func70, Tryz.ntmps70
  refine wp_seq_k (fun K hK => ?_)
  have HK := Lib.hid hK
  clear hK
  go_wp2
  refine HK.out _ _ ?_
  clear HK
  have hb0 := (blw w (Obj.cells #[.int .i64 r, .int .i64 p, .int .i64 i] 76)).alloc (by simp) (Obj.cells #[.int .i64 0, .int .i64 0, .int .i64 0] 76)
  have B1 := tr_al (Obj.cells #[.int .i64 0, .int .i64 0, .int .i64 0] 76) (heap_alloc_new w (Obj.cells #[.int .i64 r, .int .i64 p, .int .i64 i] 76))
  have R1 := heap_alloc_new (w.alloc (Obj.cells #[.int .i64 r, .int .i64 p, .int .i64 i] 76)) (Obj.cells #[.int .i64 0, .int .i64 0, .int .i64 0] 76)
  rw [show (w.alloc (Obj.cells #[.int .i64 r, .int .i64 p, .int .i64 i] 76)).heap.size = w.heap.size + 1 by simp] at R1
  change Code.wp _ _ _ _ ((w.alloc (Obj.cells #[.int .i64 r, .int .i64 p, .int .i64 i] 76)).alloc (Obj.cells #[.int .i64 0, .int .i64 0, .int .i64 0] 76))
  generalize (w.alloc (Obj.cells #[.int .i64 r, .int .i64 p, .int .i64 i] 76)).alloc (Obj.cells #[.int .i64 0, .int .i64 0, .int .i64 0] 76) = w0 at *
  obtain ⟨q0, q1, q2, -, -, -⟩ := tri_cells B1
  refine wp_seq_k (fun K hK => ?_)
  have HK := Lib.hid hK
  clear hK
  go_wp2_with (go_at_call 121; refine (rprint_any r p i _).mono ?_; rintro e w1 ⟨⟨v1, rfl, hown⟩, hb1⟩; rw [HE.out])
  refine HK.out _ _ ?_
  clear HK
  clear q0 q1 q2
  have B2 := tr_bl hb1 B1
  have R2 := tr_bl hb1 R1
  have hb2 := hb0.trans (hb1.mono hb0.size)
  have D2 := h.below hb2
  have k2 := Kx.of (X := rT) hb2 hb
  clear B1 R1 hb0
  obtain ⟨va, vc, rfl, O2⟩ := OwnB.cap hown (by intro e; have hl := HL.out; rw [e] at hl; cases hl)
  have c0 := blk_cell B2 2 _ rfl
  have hst := rstore7_any D2 (Nat.le_trans hb k2.bl.size) rep 1 i va vc (metaL r p i) (fun w' hk => (O2.kr hk).slb) (Nat.le_trans (metaL_len r p i) (by decide)) hw
  rw [HS.out] at hst
  simp only at hst
  clear hown
  by_cases h0 : e3 = 0
  · subst h0
    rw [if_neg (by simp)]
    refine wp_seq_k (fun K hK => ?_)
    have HK := Lib.hid hK
    clear hK
    go_wp2_with (go_at_call 23; refine hst.mono ?_; rintro e w3 ⟨rfl, ⟨wv3, D3⟩, hk3⟩)
    refine HK.out _ _ ?_
    clear HK
    have R3 := hk3.ty _ _ _ R2 (by decide)
    have k3 := k2.trans hk3
    clear hst c0
    have B3 := hk3.ty _ _ _ B2 (by decide)
    obtain ⟨q0, q1, q2, -, -, -⟩ := tri_cells B3
    go_wp2_with ((with_reducible refine wpList_stB 76 _ _ ?_); refine ⟨_, _, _, ⟨_, _, _, Tryz.sizeOf76, rfl, R3, st3 _ rfl r p i⟩, ?_⟩; intro w5 R5 g5)
    refine bodyPost_ret (results_c1t1 rfl rfl (run_loadVar_all Tryz.isAgg76 Tryz.sizeOf76 R5 rfl)) rfl ⟨rfl, ⟨_, D3.stO g5 R3 (by decide)⟩, k3.own g5 (by omega) hb⟩
  · rw [if_pos h0]
    have hn : (e3 != 0) = true := by rw [bne_iff_ne]; exact h0
    go_wp2_with (first
      | (go_at_call 23; refine hst.mono ?_; rintro e w3 ⟨rfl, ⟨wv3, D3⟩, hk3⟩; have R3 := hk3.ty _ _ _ R2 (by decide); have k3 := k2.trans hk3; clear hst c0)
      | ((with_reducible refine wpList_stB 76 _ _ ?_); refine ⟨_, _, _, ⟨_, _, _, Tryz.sizeOf76, rfl, R3, st3 _ rfl 0 0 0⟩, ?_⟩; intro w5 R5 g5))
    refine bodyPost_ret (results_c1t1 rfl rfl (run_loadVar_all Tryz.isAgg76 Tryz.sizeOf76 R5 rfl)) rfl ⟨rfl, ⟨_, D3.stO g5 R3 (by decide)⟩, k3.own g5 (by omega) hb⟩
end
end Go.Proofs.YtddddemclhlfaaaGreatDoor
namespace Go.Proofs.YtddddemclhlfaaaGreatDoor
open Go.RowKit
section
variable {B g : Nat} {qq : RQ} {d : Dk} {w : World}
set_option maxRecDepth 100000 in
set_option maxHeartbeats 1000000 in
theorem rprom_any (h : RefB B g qq d w) (hb : B ≤ w.heap.size) (hw : d.waits.length ≤ 1000) (rep r p i r' p' : Int) : Calls Tryz.prog 33 #[.pointer (some ⟨g, 0, none⟩), .int .i64 rep, .agg #[.int .i64 r, .int .i64 p, .int .i64 i], .agg #[.int .i64 r', .int .i64 p']] w (RMes B g w (promM d rep ⟨r, p, i⟩ r' p')) := by
  unfold promM
  simp only
  cases hm : mayM r p i
  case false =>
    rw [if_neg (by simp)]
    have HM := Lib.hid hm
    clear hm
    go_enter Tryz.func33, Tryz.ntmps33
    refine wp_seq_k (fun K hK => ?_)
    have HK := Lib.hid hK
    clear hK
    go_wp2
    refine HK.out _ _ ?_
    clear HK
    have hb0 := ((blw w (Obj.cells #[.int .i64 r, .int .i64 p, .int .i64 i] 76)).alloc (by simp) (Obj.cells #[.int .i64 r', .int .i64 p'] 74)).alloc (by simp; omega) (Obj.cells #[.int .i64 0, .int .i64 0, .int .i64 0] 76)
    have B0 := tr_al (Obj.cells #[.int .i64 0, .int .i64 0, .int .i64 0] 76) (tr_al (Obj.cells #[.int .i64 r', .int .i64 p'] 74) (heap_alloc_new w (Obj.cells #[.int .i64 r, .int .i64 p, .int .i64 i] 76)))
    have L0 := tr_al (Obj.cells #[.int .i64 0, .int .i64 0, .int .i64 0] 76) (heap_alloc_new (w.alloc (Obj.cells #[.int .i64 r, .int .i64 p, .int .i64 i] 76)) (Obj.cells #[.int .i64 r', .int .i64 p'] 74))
    have R0 := heap_alloc_new ((w.alloc (Obj.cells #[.int .i64 r, .int .i64 p, .int .i64 i] 76)).alloc (Obj.cells #[.int .i64 r', .int .i64 p'] 74)) (Obj.cells #[.int .i64 0, .int .i64 0, .int .i64 0] 76)
    rw [show (w.alloc (Obj.cells #[.int .i64 r, .int .i64 p, .int .i64 i] 76)).heap.size = w.heap.size + 1 by simp] at L0
    rw [show ((w.alloc (Obj.cells #[.int .i64 r, .int .i64 p, .int .i64 i] 76)).alloc (Obj.cells #[.int .i64 r', .int .i64 p'] 74)).heap.size = w.heap.size + 1 + 1 by simp] at R0
    change Code.wp _ _ _ _ (((w.alloc (Obj.cells #[.int .i64 r, .int .i64 p, .int .i64 i] 76)).alloc (Obj.cells #[.int .i64 r', .int .i64 p'] 74)).alloc (Obj.cells #[.int .i64 0, .int .i64 0, .int .i64 0] 76))
    generalize ((w.alloc (Obj.cells #[.int .i64 r, .int .i64 p, .int .i64 i] 76)).alloc (Obj.cells #[.int .i64 r', .int .i64 p'] 74)).alloc (Obj.cells #[.int .i64 0, .int .i64 0, .int .i64 0] 76) = w0 at *
    obtain ⟨q0, q1, q2, -, -, -⟩ := tri_cells B0
    obtain ⟨l0, l1⟩ := two_cells L0
    go_wp2_with (first
      | (go_at_call 74; refine (rmay_any r p i _).mono ?_; rintro e w1 ⟨rfl, hb1⟩; rw [HM.out]; have B1 := tr_bl hb1 B0; have L1 := tr_bl hb1 L0; have R1 := tr_bl hb1 R0; have hb01 := hb0.trans (hb1.mono hb0.size); obtain ⟨q0, q1, q2, -, -, -⟩ := tri_cells B1; obtain ⟨l0, l1⟩ := two_cells L1)
      | ((with_reducible refine wpList_stB 76 _ _ ?_); refine ⟨_, _, _, ⟨_, _, _, Tryz.sizeOf76, rfl, R1, st3 _ rfl 0 0 0⟩, ?_⟩; intro w5 R5 g5))
    refine bodyPost_ret (results_c1t1 rfl rfl (run_loadVar_all Tryz.isAgg76 Tryz.sizeOf76 R5 rfl)) rfl ⟨rfl, ⟨_, (h.below hb01).stO g5 R1 (by decide)⟩, (Kx.of (X := rT) hb01 hb).own g5 (by omega) hb⟩
  case true =>
  cases hbl : balB r' p'
  case false =>
    rw [if_neg (by simp)]
    have HM := Lib.hid hm
    have HB := Lib.hid hbl
    clear hm hbl
    go_enter Tryz.func33, Tryz.ntmps33
    refine wp_seq_k (fun K hK => ?_)
    have HK := Lib.hid hK
    clear hK
    go_wp2
    refine HK.out _ _ ?_
    clear HK
    have hb0 := ((blw w (Obj.cells #[.int .i64 r, .int .i64 p, .int .i64 i] 76)).alloc (by simp) (Obj.cells #[.int .i64 r', .int .i64 p'] 74)).alloc (by simp; omega) (Obj.cells #[.int .i64 0, .int .i64 0, .int .i64 0] 76)
    have B0 := tr_al (Obj.cells #[.int .i64 0, .int .i64 0, .int .i64 0] 76) (tr_al (Obj.cells #[.int .i64 r', .int .i64 p'] 74) (heap_alloc_new w (Obj.cells #[.int .i64 r, .int .i64 p, .int .i64 i] 76)))
    have L0 := tr_al (Obj.cells #[.int .i64 0, .int .i64 0, .int .i64 0] 76) (heap_alloc_new (w.alloc (Obj.cells #[.int .i64 r, .int .i64 p, .int .i64 i] 76)) (Obj.cells #[.int .i64 r', .int .i64 p'] 74))
    have R0 := heap_alloc_new ((w.alloc (Obj.cells #[.int .i64 r, .int .i64 p, .int .i64 i] 76)).alloc (Obj.cells #[.int .i64 r', .int .i64 p'] 74)) (Obj.cells #[.int .i64 0, .int .i64 0, .int .i64 0] 76)
    rw [show (w.alloc (Obj.cells #[.int .i64 r, .int .i64 p, .int .i64 i] 76)).heap.size = w.heap.size + 1 by simp] at L0
    rw [show ((w.alloc (Obj.cells #[.int .i64 r, .int .i64 p, .int .i64 i] 76)).alloc (Obj.cells #[.int .i64 r', .int .i64 p'] 74)).heap.size = w.heap.size + 1 + 1 by simp] at R0
    change Code.wp _ _ _ _ (((w.alloc (Obj.cells #[.int .i64 r, .int .i64 p, .int .i64 i] 76)).alloc (Obj.cells #[.int .i64 r', .int .i64 p'] 74)).alloc (Obj.cells #[.int .i64 0, .int .i64 0, .int .i64 0] 76))
    generalize ((w.alloc (Obj.cells #[.int .i64 r, .int .i64 p, .int .i64 i] 76)).alloc (Obj.cells #[.int .i64 r', .int .i64 p'] 74)).alloc (Obj.cells #[.int .i64 0, .int .i64 0, .int .i64 0] 76) = w0 at *
    obtain ⟨q0, q1, q2, -, -, -⟩ := tri_cells B0
    obtain ⟨l0, l1⟩ := two_cells L0
    go_wp2_with (first
      | (go_at_call 74; refine (rmay_any r p i _).mono ?_; rintro e w1 ⟨rfl, hb1⟩; rw [HM.out]; have B1 := tr_bl hb1 B0; have L1 := tr_bl hb1 L0; have R1 := tr_bl hb1 R0; have hb01 := hb0.trans (hb1.mono hb0.size); obtain ⟨q0, q1, q2, -, -, -⟩ := tri_cells B1; obtain ⟨l0, l1⟩ := two_cells L1)
      | (go_at_call 75; refine (rballot_any r' p' _).mono ?_; rintro e w2 ⟨rfl, hw2⟩; have hb2 : Below w1.heap.size w1 w2 := (by rw [hw2]; exact blw _ _); clear hw2; rw [HB.out]; have B2 := tr_bl hb2 B1; have L2 := tr_bl hb2 L1; have R2 := tr_bl hb2 R1; have hb02 := hb01.trans (hb2.mono hb01.size); obtain ⟨q0, q1, q2, -, -, -⟩ := tri_cells B2; obtain ⟨l0, l1⟩ := two_cells L2)
      | ((with_reducible refine wpList_stB 76 _ _ ?_); refine ⟨_, _, _, ⟨_, _, _, Tryz.sizeOf76, rfl, R2, st3 _ rfl 0 0 0⟩, ?_⟩; intro w5 R5 g5))
    refine bodyPost_ret (results_c1t1 rfl rfl (run_loadVar_all Tryz.isAgg76 Tryz.sizeOf76 R5 rfl)) rfl ⟨rfl, ⟨_, (h.below hb02).stO g5 R2 (by decide)⟩, (Kx.of (X := rT) hb02 hb).own g5 (by omega) hb⟩
  case true =>
  cases hab : abvB r' p' r p
  case false =>
    rw [if_neg (by simp)]
    have HM := Lib.hid hm
    have HB := Lib.hid hbl
    have HA := Lib.hid hab
    clear hm hbl hab
    go_enter Tryz.func33, Tryz.ntmps33
    refine wp_seq_k (fun K hK => ?_)
    have HK := Lib.hid hK
    clear hK
    go_wp2
    refine HK.out _ _ ?_
    clear HK
    have hb0 := ((blw w (Obj.cells #[.int .i64 r, .int .i64 p, .int .i64 i] 76)).alloc (by simp) (Obj.cells #[.int .i64 r', .int .i64 p'] 74)).alloc (by simp; omega) (Obj.cells #[.int .i64 0, .int .i64 0, .int .i64 0] 76)
    have B0 := tr_al (Obj.cells #[.int .i64 0, .int .i64 0, .int .i64 0] 76) (tr_al (Obj.cells #[.int .i64 r', .int .i64 p'] 74) (heap_alloc_new w (Obj.cells #[.int .i64 r, .int .i64 p, .int .i64 i] 76)))
    have L0 := tr_al (Obj.cells #[.int .i64 0, .int .i64 0, .int .i64 0] 76) (heap_alloc_new (w.alloc (Obj.cells #[.int .i64 r, .int .i64 p, .int .i64 i] 76)) (Obj.cells #[.int .i64 r', .int .i64 p'] 74))
    have R0 := heap_alloc_new ((w.alloc (Obj.cells #[.int .i64 r, .int .i64 p, .int .i64 i] 76)).alloc (Obj.cells #[.int .i64 r', .int .i64 p'] 74)) (Obj.cells #[.int .i64 0, .int .i64 0, .int .i64 0] 76)
    rw [show (w.alloc (Obj.cells #[.int .i64 r, .int .i64 p, .int .i64 i] 76)).heap.size = w.heap.size + 1 by simp] at L0
    rw [show ((w.alloc (Obj.cells #[.int .i64 r, .int .i64 p, .int .i64 i] 76)).alloc (Obj.cells #[.int .i64 r', .int .i64 p'] 74)).heap.size = w.heap.size + 1 + 1 by simp] at R0
    change Code.wp _ _ _ _ (((w.alloc (Obj.cells #[.int .i64 r, .int .i64 p, .int .i64 i] 76)).alloc (Obj.cells #[.int .i64 r', .int .i64 p'] 74)).alloc (Obj.cells #[.int .i64 0, .int .i64 0, .int .i64 0] 76))
    generalize ((w.alloc (Obj.cells #[.int .i64 r, .int .i64 p, .int .i64 i] 76)).alloc (Obj.cells #[.int .i64 r', .int .i64 p'] 74)).alloc (Obj.cells #[.int .i64 0, .int .i64 0, .int .i64 0] 76) = w0 at *
    obtain ⟨q0, q1, q2, -, -, -⟩ := tri_cells B0
    obtain ⟨l0, l1⟩ := two_cells L0
    go_wp2_with (first
      | (go_at_call 74; refine (rmay_any r p i _).mono ?_; rintro e w1 ⟨rfl, hb1⟩; rw [HM.out]; have B1 := tr_bl hb1 B0; have L1 := tr_bl hb1 L0; have R1 := tr_bl hb1 R0; have hb01 := hb0.trans (hb1.mono hb0.size); obtain ⟨q0, q1, q2, -, -, -⟩ := tri_cells B1; obtain ⟨l0, l1⟩ := two_cells L1)
      | (go_at_call 75; refine (rballot_any r' p' _).mono ?_; rintro e w2 ⟨rfl, hw2⟩; have hb2 : Below w1.heap.size w1 w2 := (by rw [hw2]; exact blw _ _); clear hw2; rw [HB.out]; have B2 := tr_bl hb2 B1; have L2 := tr_bl hb2 L1; have R2 := tr_bl hb2 R1; have hb02 := hb01.trans (hb2.mono hb01.size); obtain ⟨q0, q1, q2, -, -, -⟩ := tri_cells B2; obtain ⟨l0, l1⟩ := two_cells L2)
      | (go_at_call 76; refine (rabove_any r' p' r p _).mono ?_; rintro e w3 ⟨rfl, hb3⟩; rw [HA.out]; have B3 := tr_bl hb3 B2; have L3 := tr_bl hb3 L2; have R3 := tr_bl hb3 R2; have hb03 := hb02.trans (hb3.mono hb02.size); obtain ⟨q0, q1, q2, -, -, -⟩ := tri_cells B3; obtain ⟨l0, l1⟩ := two_cells L3)
      | ((with_reducible refine wpList_stB 76 _ _ ?_); refine ⟨_, _, _, ⟨_, _, _, Tryz.sizeOf76, rfl, R3, st3 _ rfl 0 0 0⟩, ?_⟩; intro w5 R5 g5))
    refine bodyPost_ret (results_c1t1 rfl rfl (run_loadVar_all Tryz.isAgg76 Tryz.sizeOf76 R5 rfl)) rfl ⟨rfl, ⟨_, (h.below hb03).stO g5 R3 (by decide)⟩, (Kx.of (X := rT) hb03 hb).own g5 (by omega) hb⟩
  case true =>
    rw [if_pos (by simp)]
    have HMM := Lib.hid (show mayM r' p' i = true by unfold mayM at hm ⊢; rw [hbl]; simp at hm ⊢; omega)
    have HM := Lib.hid hm
    have HB := Lib.hid hbl
    have HA := Lib.hid hab
    clear hm hbl hab
    obtain ⟨d6, ⟨r6, p6, i6⟩, e6, hsm⟩ : ∃ d6 m6 e6, storeM d rep ⟨r', p', i⟩ = (d6, m6, e6) := ⟨_, _, _, rfl⟩
    rw [hsm]
    have HS := Lib.hid hsm
    clear hsm
    go_enter Tryz.func33, Tryz.ntmps33
    refine wp_seq_k (fun K hK => ?_)
    have HK := Lib.hid hK
    clear hK
    go_wp2
    refine HK.out _ _ ?_
    clear HK
    have hb0 := ((blw w (Obj.cells #[.int .i64 r, .int .i64 p, .int .i64 i] 76)).alloc (by simp) (Obj.cells #[.int .i64 r', .int .i64 p'] 74)).alloc (by simp; omega) (Obj.cells #[.int .i64 0, .int .i64 0, .int .i64 0] 76)
    have B0 := tr_al (Obj.cells #[.int .i64 0, .int .i64 0, .int .i64 0] 76) (tr_al (Obj.cells #[.int .i64 r', .int .i64 p'] 74) (heap_alloc_new w (Obj.cells #[.int .i64 r, .int .i64 p, .int .i64 i] 76)))
    have L0 := tr_al (Obj.cells #[.int .i64 0, .int .i64 0, .int .i64 0] 76) (heap_alloc_new (w.alloc (Obj.cells #[.int .i64 r, .int .i64 p, .int .i64 i] 76)) (Obj.cells #[.int .i64 r', .int .i64 p'] 74))
    have R0 := heap_alloc_new ((w.alloc (Obj.cells #[.int .i64 r, .int .i64 p, .int .i64 i] 76)).alloc (Obj.cells #[.int .i64 r', .int .i64 p'] 74)) (Obj.cells #[.int .i64 0, .int .i64 0, .int .i64 0] 76)
    rw [show (w.alloc (Obj.cells #[.int .i64 r, .int .i64 p, .int .i64 i] 76)).heap.size = w.heap.size + 1 by simp] at L0
    rw [show ((w.alloc (Obj.cells #[.int .i64 r, .int .i64 p, .int .i64 i] 76)).alloc (Obj.cells #[.int .i64 r', .int .i64 p'] 74)).heap.size = w.heap.size + 1 + 1 by simp] at R0
    change Code.wp _ _ _ _ (((w.alloc (Obj.cells #[.int .i64 r, .int .i64 p, .int .i64 i] 76)).alloc (Obj.cells #[.int .i64 r', .int .i64 p'] 74)).alloc (Obj.cells #[.int .i64 0, .int .i64 0, .int .i64 0] 76))
    generalize ((w.alloc (Obj.cells #[.int .i64 r, .int .i64 p, .int .i64 i] 76)).alloc (Obj.cells #[.int .i64 r', .int .i64 p'] 74)).alloc (Obj.cells #[.int .i64 0, .int .i64 0, .int .i64 0] 76) = w0 at *
    obtain ⟨q0, q1, q2, -, -, -⟩ := tri_cells B0
    obtain ⟨l0, l1⟩ := two_cells L0
    go_wp2_with (first
      | (go_at_call 74; refine (rmay_any r p i _).mono ?_; rintro e w1 ⟨rfl, hb1⟩; rw [HM.out]; have B1 := tr_bl hb1 B0; have L1 := tr_bl hb1 L0; have R1 := tr_bl hb1 R0; have hb01 := hb0.trans (hb1.mono hb0.size); obtain ⟨q0, q1, q2, -, -, -⟩ := tri_cells B1; obtain ⟨l0, l1⟩ := two_cells L1)
      | (go_at_call 75; refine (rballot_any r' p' _).mono ?_; rintro e w2 ⟨rfl, hw2⟩; have hb2 : Below w1.heap.size w1 w2 := (by rw [hw2]; exact blw _ _); clear hw2; rw [HB.out]; have B2 := tr_bl hb2 B1; have L2 := tr_bl hb2 L1; have R2 := tr_bl hb2 R1; have hb02 := hb01.trans (hb2.mono hb01.size); obtain ⟨q0, q1, q2, -, -, -⟩ := tri_cells B2; obtain ⟨l0, l1⟩ := two_cells L2)
      | (go_at_call 76; refine (rabove_any r' p' r p _).mono ?_; rintro e w3 ⟨rfl, hb3⟩; rw [HA.out]; have B3 := tr_bl hb3 B2; have L3 := tr_bl hb3 L2; have R3 := tr_bl hb3 R2; have hb03 := hb02.trans (hb3.mono hb02.size); obtain ⟨q0, q1, q2, -, -, -⟩ := tri_cells B3; obtain ⟨l0, l1⟩ := two_cells L3)
      | ((with_reducible refine wpList_stB 74 _ _ ?_); refine ⟨_, _, _, ⟨_, _, _, Tryz.sizeOf74, rfl, B3, st2m r p i r' p'⟩, ?_⟩; intro w5 B5 g5; have D5 := (h.below hb03).stO g5 B3 (by decide); have k5 := (Kx.of (X := rT) hb03 hb).own g5 (by omega) hb; have R5 := tr_st g5 R3 (by omega); clear q0 q1 q2; obtain ⟨q0, q1, q2, -, -, -⟩ := tri_cells B5)
      | (go_at_call 70; have hst := rmstore_any D5 (Nat.le_trans hb k5.bl.size) hw rep r' p' i HMM.out; rw [HS.out] at hst; refine hst.mono ?_; rintro e w6 ⟨rfl, ⟨wv6, D6⟩, hk6⟩; simp only [mV]; have R6 := hk6.ty _ _ _ R5 (by decide); have k6 := k5.trans hk6; clear hst)
      | ((with_reducible refine wpList_stB 76 _ _ ?_); refine ⟨_, _, _, ⟨_, _, _, Tryz.sizeOf76, rfl, R6, st3 _ rfl r6 p6 i6⟩, ?_⟩; intro w7 R7 g7))
    refine bodyPost_ret (results_c1t1 rfl rfl (run_loadVar_all Tryz.isAgg76 Tryz.sizeOf76 R7 rfl)) rfl ⟨rfl, ⟨_, D6.stO g7 R6 (by decide)⟩, k6.own g7 (by omega) hb⟩
end
end Go.Proofs.YtddddemclhlfaaaGreatDoor
namespace Go.Proofs.YtddddemclhlfaaaGreatDoor
open Go.RowKit
section
variable {B g : Nat} {qq : RQ} {d : Dk} {w : World}
theorem m3_new (a b c : Int) : (Value.agg #[.int .i64 a, .int .i64 b, .int .i64 c]).cells = #[.int .i64 a, .int .i64 b, .int .i64 c] ∧ (#[Value.int .i64 a, .int .i64 b, .int .i64 c]).size = 3 ∧ ∀ u ∈ (#[Value.int .i64 a, .int .i64 b, .int .i64 c]).toList, u.oneCell' = true := ⟨rfl, rfl, by simp [Value.oneCell']⟩
theorem parT_may {l : List UInt8} (h : parE l = 0) : mayM (parT l).r (parT l).p (parT l).i = true := by
  unfold parE at h
  unfold parT
  split
  · rename_i hm
    unfold parM at hm
    rw [Bool.and_eq_true] at hm
    exact hm.2
  · rename_i hm
    rw [if_neg hm] at h
    cases h
theorem may_next {r p i : Int} (h : mayM r p i = true) (hi : i ≠ 1099511627776) : mayM r p (i + 1) = true := by
  unfold mayM at h ⊢
  rw [Bool.and_eq_true, Bool.and_eq_true] at h ⊢
  have h1 := of_decide_eq_true h.1.2
  have h2 := of_decide_eq_true h.2
  exact ⟨⟨h.1.1, decide_eq_true (by omega)⟩, decide_eq_true (by omega)⟩
set_option maxRecDepth 100000 in
set_option maxHeartbeats 1000000 in
theorem rbegin_err (h : RefB B g qq d w) (hb : B ≤ w.heap.size) (rep : Int) {v e1 : Int} {l : List UInt8} (hl : loadC d rep 1 = (v, l, e1)) (he : e1 ≠ 0) : Calls Tryz.prog 31 #[.pointer (some ⟨g, 0, none⟩), .int .i64 rep] w (RMes B g w (beginM d rep)) := by
  unfold beginM
  rw [hl]
  simp only
  rw [if_pos he]
  have hn : (e1 != 0) = true := by rw [bne_iff_ne]; exact he
  have HL := Lib.hid hl
  clear hl
  go_enter Tryz.func31, Tryz.ntmps31
  refine wp_seq_k (fun K hK => ?_)
  have HK := Lib.hid hK
  clear hK
  go_wp2
  refine HK.out _ _ ?_
  clear HK
  have hb0 := blw w (Obj.cells #[.int .i64 0, .int .i64 0, .int .i64 0] 76)
  have R0 := heap_alloc_new w (Obj.cells #[.int .i64 0, .int .i64 0, .int .i64 0] 76)
  have D0 := h.below hb0
  have k0 := Kx.of (X := rT) hb0 hb
  generalize w.alloc (Obj.cells #[.int .i64 0, .int .i64 0, .int .i64 0] 76) = w0 at *
  have hld := rload_any D0 rep 1
  rw [HL.out] at hld
  simp only [LdR] at hld
  go_wp2_with fail
  refine hld.mono ?_
  rintro e w1 ⟨⟨a1, c1, rfl, o1⟩, hb1⟩
  have R1 := tr_bl hb1 R0
  have D1 := D0.below hb1
  have k1 := k0.trans (Kx.of (X := rT) hb1 (Nat.le_trans hb hb0.size))
  clear hld hb0 R0 D0 k0 hb1
  go_wp2_with ((with_reducible refine wpList_stB 76 _ _ ?_); refine ⟨_, _, _, ⟨_, _, _, Tryz.sizeOf76, rfl, R1, st3 _ rfl 0 0 0⟩, ?_⟩; intro w5 R5 g5)
  refine bodyPost_ret (results_c1t1 rfl rfl (run_loadVar_all Tryz.isAgg76 Tryz.sizeOf76 R5 rfl)) rfl ⟨rfl, ⟨_, D1.stO g5 R1 (by decide)⟩, k1.own g5 (Nat.le_refl _) hb⟩
set_option maxRecDepth 100000 in
set_option maxHeartbeats 2000000 in
theorem rbegin_zero (h : RefB B g qq d w) (hb : B ≤ w.heap.size) (hw : d.waits.length ≤ 1000) (rep : Int) {v : Int} {l : List UInt8} (hl : loadC d rep 1 = (v, l, 0)) (hv : ¬ 0 < v) : Calls Tryz.prog 31 #[.pointer (some ⟨g, 0, none⟩), .int .i64 rep] w (RMes B g w (beginM d rep)) := by
  unfold beginM
  rw [hl]
  simp only
  rw [if_neg (by simp), if_neg (fun h => hv h.1)]
  unfold ldM
  rw [if_neg hv]
  rw [if_neg (by simp [zM])]
  have HL := Lib.hid hl
  clear hl
  obtain ⟨d3, e3, hhl⟩ : ∃ d3 e3, healC d rep 1 = (d3, e3) := ⟨_, _, rfl⟩
  have hw3 := heal_waits (d := d) (rep := rep) (reg := 1)
  rw [hhl] at hw3
  rw [hhl]
  simp only at hw3
  simp only
  have HH := Lib.hid hhl
  clear hhl
  by_cases h3 : e3 = 0
  · simp only [zM]
    rw [show (0 : Int) + 1 = 1 from rfl]
    subst h3
    replace hw3 := hw3 rfl hw
    rw [if_neg (by simp)]
    obtain ⟨d4, ⟨r4, p4, i4⟩, e4, hsm⟩ : ∃ d4 m4 e4, storeM d3 rep ⟨0, 0, 1⟩ = (d4, m4, e4) := ⟨_, _, _, rfl⟩
    rw [hsm]
    have HS := Lib.hid hsm
    have HW := Lib.hid hw3
    clear hsm hw3
    have HMM := Lib.hid (show mayM 0 0 1 = true by decide)
    go_enter Tryz.func31, Tryz.ntmps31
    refine wp_seq_k (fun K hK => ?_)
    have HK := Lib.hid hK
    clear hK
    go_wp2
    refine HK.out _ _ ?_
    clear HK
    have hb0 := blw w (Obj.cells #[.int .i64 0, .int .i64 0, .int .i64 0] 76)
    have R0 := heap_alloc_new w (Obj.cells #[.int .i64 0, .int .i64 0, .int .i64 0] 76)
    have D0 := h.below hb0
    have k0 := Kx.of (X := rT) hb0 hb
    generalize w.alloc (Obj.cells #[.int .i64 0, .int .i64 0, .int .i64 0] 76) = w0 at *
    have hld := rload_any D0 rep 1
    rw [HL.out] at hld
    simp only [LdR] at hld
    go_wp2_with fail
    refine hld.mono ?_
    rintro e w1 ⟨⟨a1, c1, rfl, o1⟩, hb1⟩
    have R1 := tr_bl hb1 R0
    have D1 := D0.below hb1
    have k1 := k0.trans (Kx.of (X := rT) hb1 (Nat.le_trans hb hb0.size))
    clear hld hb0 R0 D0 k0 hb1
    go_wp2_with fail
    have hbA := blw w1 (Obj.cells #[.int .i64 0, .int .i64 0, .int .i64 0] 76)
    have M2 := heap_alloc_new w1 (Obj.cells #[.int .i64 0, .int .i64 0, .int .i64 0] 76)
    have R2 := tr_bl hbA R1
    have D2 := D1.below hbA
    have k2 := k1.trans (Kx.of (X := rT) hbA (Nat.le_trans hb k1.bl.size))
    have hqw : w.heap.size ≤ w1.heap.size := k1.bl.size
    have hne : w1.heap.size ≠ w.heap.size := by have := lt_blk R1; omega
    generalize w1.alloc (Obj.cells #[.int .i64 0, .int .i64 0, .int .i64 0] 76) = w2 at *
    generalize w1.heap.size = q at *
    clear hbA R1 D1 k1 o1
    have hhe := rheal7_any D2 (Nat.le_trans hb k2.bl.size) rep 1 hw
    rw [HH.out] at hhe
    simp only at hhe
    refine hhe.mono ?_
    rintro e w3 ⟨rfl, ⟨wv3, D3⟩, hk3⟩
    have R3 := hk3.ty _ _ _ R2 (by decide)
    have M3 := hk3.ty _ _ _ M2 (by decide)
    have k3 := k2.trans hk3
    obtain ⟨q0, q1, q2, -, -, -⟩ := tri_cells M3
    clear hhe
    go_wp2_with (first
      | (go_at_call 70; have hst := rmstore_any D5 (Nat.le_trans hb k5.bl.size) HW.out rep (0) (0) (1) HMM.out; rw [HS.out] at hst; refine hst.mono ?_; rintro e w6 ⟨rfl, ⟨wv6, D6⟩, hk6⟩; simp only [mV]; have R6 := hk6.ty _ _ _ R5 (by decide); have k6 := k5.trans hk6; clear hst)
      | ((with_reducible refine wpList_stB 3 _ _ ?_); refine ⟨_, _, _, ⟨_, _, _, Tryz.sizeOf3, rfl, M3, st1m (0) (0) (0) (1)⟩, ?_⟩; intro w5 M5 g5; have R5 := tr_st g5 R3 hne; have D5 := D3.stO g5 M3 (by decide); have k5 := k3.own g5 hqw hb; clear q0 q1 q2; obtain ⟨q0, q1, q2, -, -, -⟩ := tri_cells M5)
      | ((with_reducible refine wpList_stB 76 _ _ ?_); refine ⟨_, _, _, ⟨_, _, _, Tryz.sizeOf76, rfl, R6, st3 _ rfl r4 p4 i4⟩, ?_⟩; intro w7 R7 g7))
    refine bodyPost_ret (results_c1t1 rfl rfl (run_loadVar_all Tryz.isAgg76 Tryz.sizeOf76 R7 rfl)) rfl ⟨rfl, ⟨_, D6.stO g7 R6 (by decide)⟩, k6.own g7 (Nat.le_refl _) hb⟩
  · rw [if_pos h3]
    have hn3 : (e3 != 0) = true := by rw [bne_iff_ne]; exact h3
    go_enter Tryz.func31, Tryz.ntmps31
    refine wp_seq_k (fun K hK => ?_)
    have HK := Lib.hid hK
    clear hK
    go_wp2
    refine HK.out _ _ ?_
    clear HK
    have hb0 := blw w (Obj.cells #[.int .i64 0, .int .i64 0, .int .i64 0] 76)
    have R0 := heap_alloc_new w (Obj.cells #[.int .i64 0, .int .i64 0, .int .i64 0] 76)
    have D0 := h.below hb0
    have k0 := Kx.of (X := rT) hb0 hb
    generalize w.alloc (Obj.cells #[.int .i64 0, .int .i64 0, .int .i64 0] 76) = w0 at *
    have hld := rload_any D0 rep 1
    rw [HL.out] at hld
    simp only [LdR] at hld
    go_wp2_with fail
    refine hld.mono ?_
    rintro e w1 ⟨⟨a1, c1, rfl, o1⟩, hb1⟩
    have R1 := tr_bl hb1 R0
    have D1 := D0.below hb1
    have k1 := k0.trans (Kx.of (X := rT) hb1 (Nat.le_trans hb hb0.size))
    clear hld hb0 R0 D0 k0 hb1
    go_wp2_with fail
    have hbA := blw w1 (Obj.cells #[.int .i64 0, .int .i64 0, .int .i64 0] 76)
    have M2 := heap_alloc_new w1 (Obj.cells #[.int .i64 0, .int .i64 0, .int .i64 0] 76)
    have R2 := tr_bl hbA R1
    have D2 := D1.below hbA
    have k2 := k1.trans (Kx.of (X := rT) hbA (Nat.le_trans hb k1.bl.size))
    have hqw : w.heap.size ≤ w1.heap.size := k1.bl.size
    have hne : w1.heap.size ≠ w.heap.size := by have := lt_blk R1; omega
    generalize w1.alloc (Obj.cells #[.int .i64 0, .int .i64 0, .int .i64 0] 76) = w2 at *
    generalize w1.heap.size = q at *
    clear hbA R1 D1 k1 o1
    have hhe := rheal7_any D2 (Nat.le_trans hb k2.bl.size) rep 1 hw
    rw [HH.out] at hhe
    simp only at hhe
    refine hhe.mono ?_
    rintro e w3 ⟨rfl, ⟨wv3, D3⟩, hk3⟩
    have R3 := hk3.ty _ _ _ R2 (by decide)
    have k3 := k2.trans hk3
    clear hhe
    go_wp2_with ((with_reducible refine wpList_stB 76 _ _ ?_); refine ⟨_, _, _, ⟨_, _, _, Tryz.sizeOf76, rfl, R3, st3 _ rfl 0 0 0⟩, ?_⟩; intro w5 R5 g5)
    refine bodyPost_ret (results_c1t1 rfl rfl (run_loadVar_all Tryz.isAgg76 Tryz.sizeOf76 R5 rfl)) rfl ⟨rfl, ⟨_, D3.stO g5 R3 (by decide)⟩, k3.own g5 (Nat.le_refl _) hb⟩
set_option maxRecDepth 100000 in
set_option maxHeartbeats 2000000 in
theorem rbegin_got (h : RefB B g qq d w) (hb : B ≤ w.heap.size) (hw : d.waits.length ≤ 1000) (rep : Int) {v : Int} {l : List UInt8} (hl : loadC d rep 1 = (v, l, 0)) (hv : 0 < v) : Calls Tryz.prog 31 #[.pointer (some ⟨g, 0, none⟩), .int .i64 rep] w (RMes B g w (beginM d rep)) := by
  unfold beginM
  rw [hl]
  simp only
  rw [if_neg (by simp)]
  unfold ldM
  rw [if_pos hv]
  have HL := Lib.hid hl
  clear hl
  have HV := Lib.hid (parV_T l)
  by_cases hp : parE l = 0
  case neg =>
    rw [if_pos ⟨hv, hp⟩]
    have hpn : (parE l != 0) = true := by rw [bne_iff_ne]; exact hp
    obtain ⟨rr, pp, ii, hT⟩ : ∃ r p i, parT l = ⟨r, p, i⟩ := ⟨_, _, _, rfl⟩
    have HT := Lib.hid hT
    clear hT
    go_enter Tryz.func31, Tryz.ntmps31
    refine wp_seq_k (fun K hK => ?_)
    have HK := Lib.hid hK
    clear hK
    go_wp2
    refine HK.out _ _ ?_
    clear HK
    have hb0 := blw w (Obj.cells #[.int .i64 0, .int .i64 0, .int .i64 0] 76)
    have R0 := heap_alloc_new w (Obj.cells #[.int .i64 0, .int .i64 0, .int .i64 0] 76)
    have D0 := h.below hb0
    have k0 := Kx.of (X := rT) hb0 hb
    generalize w.alloc (Obj.cells #[.int .i64 0, .int .i64 0, .int .i64 0] 76) = w0 at *
    have hld := rload_any D0 rep 1
    rw [HL.out] at hld
    simp only [LdR] at hld
    go_wp2_with fail
    refine hld.mono ?_
    rintro e w1 ⟨⟨a1, c1, rfl, o1⟩, hb1⟩
    have R1 := tr_bl hb1 R0
    have D1 := D0.below hb1
    have k1 := k0.trans (Kx.of (X := rT) hb1 (Nat.le_trans hb hb0.size))
    clear hld hb0 R0 D0 k0 hb1
    go_wp2_with fail
    have hbA := blw w1 (Obj.cells #[.int .i64 0, .int .i64 0, .int .i64 0] 76)
    have M2 := heap_alloc_new w1 (Obj.cells #[.int .i64 0, .int .i64 0, .int .i64 0] 76)
    have R2 := tr_bl hbA R1
    have D2 := D1.below hbA
    have k2 := k1.trans (Kx.of (X := rT) hbA (Nat.le_trans hb k1.bl.size))
    have S2 := o1.below hbA
    have hqw : w.heap.size ≤ w1.heap.size := k1.bl.size
    have hne : w1.heap.size ≠ w.heap.size := by have := lt_blk R1; omega
    generalize w1.alloc (Obj.cells #[.int .i64 0, .int .i64 0, .int .i64 0] 76) = w2 at *
    generalize w1.heap.size = q at *
    clear hbA R1 D1 k1 o1
    refine (rparse_any a1 c1 l _ S2).mono ?_
    rintro e w3 ⟨rfl, hb3⟩
    have hb4 := hb3.trans ((blw w3 (Obj.cells #[.int .i64 (rr), .int .i64 (pp), .int .i64 (ii)] 76)).mono hb3.size)
    have N4 := heap_alloc_new w3 (Obj.cells #[.int .i64 (rr), .int .i64 (pp), .int .i64 (ii)] 76)
    have M4 := tr_bl hb4 M2
    have R4 := tr_bl hb4 R2
    have D4 := D2.below hb4
    have k4 := k2.trans (Kx.of (X := rT) hb4 (Nat.le_trans hb k2.bl.size))
    rw [HV.out, HT.out]
    simp only [mV]
    clear M2 R2 D2 k2 S2 hb4 hb3
    go_wp2_with (first
      | ((first | (with_reducible refine wpList_stNew 76 _ _ ?_) | (with_reducible refine wp_stNew 76 _ _ ?_)); refine ⟨_, _, ⟨Tryz.sizeOf76, rfl, m3_new (rr) (pp) (ii)⟩, rfl, ?_⟩)
      | ((with_reducible refine wpList_stB 76 _ _ ?_); refine ⟨_, _, _, ⟨_, _, _, Tryz.sizeOf76, rfl, R4, st3 _ rfl 0 0 0⟩, ?_⟩; intro w5 R5 g5))
    refine bodyPost_ret (results_c1t1 rfl rfl (run_loadVar_all Tryz.isAgg76 Tryz.sizeOf76 R5 rfl)) rfl ⟨rfl, ⟨_, D4.stO g5 R4 (by decide)⟩, k4.own g5 (Nat.le_refl _) hb⟩
  case pos =>
    rw [if_neg (fun h => h.2 hp)]
    have hbd := parT_bd l
    have hmy := parT_may hp
    have hpn : (parE l != 0) = false := by rw [hp]; rfl
    obtain ⟨⟨r, p, i⟩, hT⟩ : ∃ T, parT l = T := ⟨_, rfl⟩
    rw [hT] at hbd hmy ⊢
    have HT := Lib.hid hT
    simp only at hbd hmy ⊢
    obtain ⟨hi0, hi1⟩ := hbd
    clear hp hT
    by_cases hi : i = 1099511627776
    · rw [if_pos hi]
      subst hi
      go_enter Tryz.func31, Tryz.ntmps31
      refine wp_seq_k (fun K hK => ?_)
      have HK := Lib.hid hK
      clear hK
      go_wp2
      refine HK.out _ _ ?_
      clear HK
      have hb0 := blw w (Obj.cells #[.int .i64 0, .int .i64 0, .int .i64 0] 76)
      have R0 := heap_alloc_new w (Obj.cells #[.int .i64 0, .int .i64 0, .int .i64 0] 76)
      have D0 := h.below hb0
      have k0 := Kx.of (X := rT) hb0 hb
      generalize w.alloc (Obj.cells #[.int .i64 0, .int .i64 0, .int .i64 0] 76) = w0 at *
      have hld := rload_any D0 rep 1
      rw [HL.out] at hld
      simp only [LdR] at hld
      go_wp2_with fail
      refine hld.mono ?_
      rintro e w1 ⟨⟨a1, c1, rfl, o1⟩, hb1⟩
      have R1 := tr_bl hb1 R0
      have D1 := D0.below hb1
      have k1 := k0.trans (Kx.of (X := rT) hb1 (Nat.le_trans hb hb0.size))
      clear hld hb0 R0 D0 k0 hb1
      go_wp2_with fail
      have hbA := blw w1 (Obj.cells #[.int .i64 0, .int .i64 0, .int .i64 0] 76)
      have M2 := heap_alloc_new w1 (Obj.cells #[.int .i64 0, .int .i64 0, .int .i64 0] 76)
      have R2 := tr_bl hbA R1
      have D2 := D1.below hbA
      have k2 := k1.trans (Kx.of (X := rT) hbA (Nat.le_trans hb k1.bl.size))
      have S2 := o1.below hbA
      have hqw : w.heap.size ≤ w1.heap.size := k1.bl.size
      have hne : w1.heap.size ≠ w.heap.size := by have := lt_blk R1; omega
      generalize w1.alloc (Obj.cells #[.int .i64 0, .int .i64 0, .int .i64 0] 76) = w2 at *
      generalize w1.heap.size = q at *
      clear hbA R1 D1 k1 o1
      refine (rparse_any a1 c1 l _ S2).mono ?_
      rintro e w3 ⟨rfl, hb3⟩
      have hb4 := hb3.trans ((blw w3 (Obj.cells #[.int .i64 (r), .int .i64 (p), .int .i64 (1099511627776)] 76)).mono hb3.size)
      have N4 := heap_alloc_new w3 (Obj.cells #[.int .i64 (r), .int .i64 (p), .int .i64 (1099511627776)] 76)
      have M4 := tr_bl hb4 M2
      have R4 := tr_bl hb4 R2
      have D4 := D2.below hb4
      have k4 := k2.trans (Kx.of (X := rT) hb4 (Nat.le_trans hb k2.bl.size))
      rw [HV.out, HT.out]
      simp only [mV]
      clear M2 R2 D2 k2 S2 hb4 hb3
      go_wp2_with (first
        | ((first | (with_reducible refine wpList_stNew 76 _ _ ?_) | (with_reducible refine wp_stNew 76 _ _ ?_)); refine ⟨_, _, ⟨Tryz.sizeOf76, rfl, m3_new (r) (p) (1099511627776)⟩, rfl, ?_⟩)
        | ((with_reducible refine wpList_ldB 76 _ ?_); refine ⟨rfl, _, ⟨_, _, _, _, _, Tryz.isAgg76, Tryz.sizeOf76, rfl, ‹_›, ld3 _ _ _⟩, ?_⟩)
        | ((with_reducible refine wpList_stB 76 _ _ ?_); refine ⟨_, _, _, ⟨_, _, _, Tryz.sizeOf76, rfl, M4, st3 _ rfl (r) (p) (1099511627776)⟩, ?_⟩; intro w5 M2 g5; have R2 := tr_st g5 R4 hne; have D2 := D4.stO g5 M4 (by decide); have k2 := k4.own g5 hqw hb; obtain ⟨q0, q1, q2, -, -, -⟩ := tri_cells M2)
        | ((with_reducible refine wpList_stB 76 _ _ ?_); refine ⟨_, _, _, ⟨_, _, _, Tryz.sizeOf76, rfl, R2, st3 _ rfl 0 0 0⟩, ?_⟩; intro w6 R6 g6))
      refine bodyPost_ret (results_c1t1 rfl rfl (run_loadVar_all Tryz.isAgg76 Tryz.sizeOf76 R6 rfl)) rfl ⟨rfl, ⟨_, D2.stO g6 R2 (by decide)⟩, k2.own g6 (Nat.le_refl _) hb⟩
    · rw [if_neg hi]
      have hin : (i == 1099511627776) = false := by rw [beq_eq_false_iff_ne]; exact hi
      have HMM := Lib.hid (may_next hmy hi)
      obtain ⟨d3, e3, hhl⟩ : ∃ d3 e3, healC d rep 1 = (d3, e3) := ⟨_, _, rfl⟩
      have hw3 := heal_waits (d := d) (rep := rep) (reg := 1)
      rw [hhl] at hw3
      rw [hhl]
      simp only at hw3
      simp only
      have HH := Lib.hid hhl
      clear hhl
      by_cases h3 : e3 = 0
      · skip
        subst h3
        replace hw3 := hw3 rfl hw
        rw [if_neg (by simp)]
        obtain ⟨d4, ⟨r4, p4, i4⟩, e4, hsm⟩ : ∃ d4 m4 e4, storeM d3 rep ⟨r, p, i + 1⟩ = (d4, m4, e4) := ⟨_, _, _, rfl⟩
        rw [hsm]
        have HS := Lib.hid hsm
        have HW := Lib.hid hw3
        clear hsm hw3
        go_enter Tryz.func31, Tryz.ntmps31
        refine wp_seq_k (fun K hK => ?_)
        have HK := Lib.hid hK
        clear hK
        go_wp2
        refine HK.out _ _ ?_
        clear HK
        have hb0 := blw w (Obj.cells #[.int .i64 0, .int .i64 0, .int .i64 0] 76)
        have R0 := heap_alloc_new w (Obj.cells #[.int .i64 0, .int .i64 0, .int .i64 0] 76)
        have D0 := h.below hb0
        have k0 := Kx.of (X := rT) hb0 hb
        generalize w.alloc (Obj.cells #[.int .i64 0, .int .i64 0, .int .i64 0] 76) = w0 at *
        have hld := rload_any D0 rep 1
        rw [HL.out] at hld
        simp only [LdR] at hld
        go_wp2_with fail
        refine hld.mono ?_
        rintro e w1 ⟨⟨a1, c1, rfl, o1⟩, hb1⟩
        have R1 := tr_bl hb1 R0
        have D1 := D0.below hb1
        have k1 := k0.trans (Kx.of (X := rT) hb1 (Nat.le_trans hb hb0.size))
        clear hld hb0 R0 D0 k0 hb1
        go_wp2_with fail
        have hbA := blw w1 (Obj.cells #[.int .i64 0, .int .i64 0, .int .i64 0] 76)
        have M2 := heap_alloc_new w1 (Obj.cells #[.int .i64 0, .int .i64 0, .int .i64 0] 76)
        have R2 := tr_bl hbA R1
        have D2 := D1.below hbA
        have k2 := k1.trans (Kx.of (X := rT) hbA (Nat.le_trans hb k1.bl.size))
        have S2 := o1.below hbA
        have hqw : w.heap.size ≤ w1.heap.size := k1.bl.size
        have hne : w1.heap.size ≠ w.heap.size := by have := lt_blk R1; omega
        generalize w1.alloc (Obj.cells #[.int .i64 0, .int .i64 0, .int .i64 0] 76) = w2 at *
        generalize w1.heap.size = q at *
        clear hbA R1 D1 k1 o1
        refine (rparse_any a1 c1 l _ S2).mono ?_
        rintro e w3 ⟨rfl, hb3⟩
        have hb4 := hb3.trans ((blw w3 (Obj.cells #[.int .i64 (r), .int .i64 (p), .int .i64 (i)] 76)).mono hb3.size)
        have N4 := heap_alloc_new w3 (Obj.cells #[.int .i64 (r), .int .i64 (p), .int .i64 (i)] 76)
        have M4 := tr_bl hb4 M2
        have R4 := tr_bl hb4 R2
        have D4 := D2.below hb4
        have k4 := k2.trans (Kx.of (X := rT) hb4 (Nat.le_trans hb k2.bl.size))
        rw [HV.out, HT.out]
        simp only [mV]
        clear M2 R2 D2 k2 S2 hb4 hb3
        go_wp2_with (first
          | ((first | (with_reducible refine wpList_stNew 76 _ _ ?_) | (with_reducible refine wp_stNew 76 _ _ ?_)); refine ⟨_, _, ⟨Tryz.sizeOf76, rfl, m3_new (r) (p) (i)⟩, rfl, ?_⟩)
          | ((with_reducible refine wpList_ldB 76 _ ?_); refine ⟨rfl, _, ⟨_, _, _, _, _, Tryz.isAgg76, Tryz.sizeOf76, rfl, ‹_›, ld3 _ _ _⟩, ?_⟩)
          | ((with_reducible refine wpList_stB 76 _ _ ?_); refine ⟨_, _, _, ⟨_, _, _, Tryz.sizeOf76, rfl, M4, st3 _ rfl (r) (p) (i)⟩, ?_⟩; intro w5 M2 g5; have R2 := tr_st g5 R4 hne; have D2 := D4.stO g5 M4 (by decide); have k2 := k4.own g5 hqw hb; obtain ⟨q0, q1, q2, -, -, -⟩ := tri_cells M2))
        have hhe := rheal7_any D2 (Nat.le_trans hb k2.bl.size) rep 1 hw
        rw [HH.out] at hhe
        simp only at hhe
        refine hhe.mono ?_
        rintro e w3 ⟨rfl, ⟨wv3, D3⟩, hk3⟩
        have R3 := hk3.ty _ _ _ R2 (by decide)
        have M3 := hk3.ty _ _ _ M2 (by decide)
        have k3 := k2.trans hk3
        obtain ⟨q0, q1, q2, -, -, -⟩ := tri_cells M3
        clear hhe
        go_wp2_with (first
          | (go_at_call 70; have hst := rmstore_any D5 (Nat.le_trans hb k5.bl.size) HW.out rep (r) (p) (i + 1) HMM.out; rw [HS.out] at hst; refine hst.mono ?_; rintro e w6 ⟨rfl, ⟨wv6, D6⟩, hk6⟩; simp only [mV]; have R6 := hk6.ty _ _ _ R5 (by decide); have k6 := k5.trans hk6; clear hst)
          | ((with_reducible refine wpList_stB 3 _ _ ?_); refine ⟨_, _, _, ⟨_, _, _, Tryz.sizeOf3, rfl, M3, st1m (r) (p) (i) (i + 1)⟩, ?_⟩; intro w5 M5 g5; have R5 := tr_st g5 R3 hne; have D5 := D3.stO g5 M3 (by decide); have k5 := k3.own g5 hqw hb; clear q0 q1 q2; obtain ⟨q0, q1, q2, -, -, -⟩ := tri_cells M5)
          | ((with_reducible refine wpList_stB 76 _ _ ?_); refine ⟨_, _, _, ⟨_, _, _, Tryz.sizeOf76, rfl, R6, st3 _ rfl r4 p4 i4⟩, ?_⟩; intro w7 R7 g7))
        refine bodyPost_ret (results_c1t1 rfl rfl (run_loadVar_all Tryz.isAgg76 Tryz.sizeOf76 R7 rfl)) rfl ⟨rfl, ⟨_, D6.stO g7 R6 (by decide)⟩, k6.own g7 (Nat.le_refl _) hb⟩
      · rw [if_pos h3]
        have hn3 : (e3 != 0) = true := by rw [bne_iff_ne]; exact h3
        go_enter Tryz.func31, Tryz.ntmps31
        refine wp_seq_k (fun K hK => ?_)
        have HK := Lib.hid hK
        clear hK
        go_wp2
        refine HK.out _ _ ?_
        clear HK
        have hb0 := blw w (Obj.cells #[.int .i64 0, .int .i64 0, .int .i64 0] 76)
        have R0 := heap_alloc_new w (Obj.cells #[.int .i64 0, .int .i64 0, .int .i64 0] 76)
        have D0 := h.below hb0
        have k0 := Kx.of (X := rT) hb0 hb
        generalize w.alloc (Obj.cells #[.int .i64 0, .int .i64 0, .int .i64 0] 76) = w0 at *
        have hld := rload_any D0 rep 1
        rw [HL.out] at hld
        simp only [LdR] at hld
        go_wp2_with fail
        refine hld.mono ?_
        rintro e w1 ⟨⟨a1, c1, rfl, o1⟩, hb1⟩
        have R1 := tr_bl hb1 R0
        have D1 := D0.below hb1
        have k1 := k0.trans (Kx.of (X := rT) hb1 (Nat.le_trans hb hb0.size))
        clear hld hb0 R0 D0 k0 hb1
        go_wp2_with fail
        have hbA := blw w1 (Obj.cells #[.int .i64 0, .int .i64 0, .int .i64 0] 76)
        have M2 := heap_alloc_new w1 (Obj.cells #[.int .i64 0, .int .i64 0, .int .i64 0] 76)
        have R2 := tr_bl hbA R1
        have D2 := D1.below hbA
        have k2 := k1.trans (Kx.of (X := rT) hbA (Nat.le_trans hb k1.bl.size))
        have S2 := o1.below hbA
        have hqw : w.heap.size ≤ w1.heap.size := k1.bl.size
        have hne : w1.heap.size ≠ w.heap.size := by have := lt_blk R1; omega
        generalize w1.alloc (Obj.cells #[.int .i64 0, .int .i64 0, .int .i64 0] 76) = w2 at *
        generalize w1.heap.size = q at *
        clear hbA R1 D1 k1 o1
        refine (rparse_any a1 c1 l _ S2).mono ?_
        rintro e w3 ⟨rfl, hb3⟩
        have hb4 := hb3.trans ((blw w3 (Obj.cells #[.int .i64 (r), .int .i64 (p), .int .i64 (i)] 76)).mono hb3.size)
        have N4 := heap_alloc_new w3 (Obj.cells #[.int .i64 (r), .int .i64 (p), .int .i64 (i)] 76)
        have M4 := tr_bl hb4 M2
        have R4 := tr_bl hb4 R2
        have D4 := D2.below hb4
        have k4 := k2.trans (Kx.of (X := rT) hb4 (Nat.le_trans hb k2.bl.size))
        rw [HV.out, HT.out]
        simp only [mV]
        clear M2 R2 D2 k2 S2 hb4 hb3
        go_wp2_with (first
          | ((first | (with_reducible refine wpList_stNew 76 _ _ ?_) | (with_reducible refine wp_stNew 76 _ _ ?_)); refine ⟨_, _, ⟨Tryz.sizeOf76, rfl, m3_new (r) (p) (i)⟩, rfl, ?_⟩)
          | ((with_reducible refine wpList_ldB 76 _ ?_); refine ⟨rfl, _, ⟨_, _, _, _, _, Tryz.isAgg76, Tryz.sizeOf76, rfl, ‹_›, ld3 _ _ _⟩, ?_⟩)
          | ((with_reducible refine wpList_stB 76 _ _ ?_); refine ⟨_, _, _, ⟨_, _, _, Tryz.sizeOf76, rfl, M4, st3 _ rfl (r) (p) (i)⟩, ?_⟩; intro w5 M2 g5; have R2 := tr_st g5 R4 hne; have D2 := D4.stO g5 M4 (by decide); have k2 := k4.own g5 hqw hb; obtain ⟨q0, q1, q2, -, -, -⟩ := tri_cells M2))
        have hhe := rheal7_any D2 (Nat.le_trans hb k2.bl.size) rep 1 hw
        rw [HH.out] at hhe
        simp only at hhe
        refine hhe.mono ?_
        rintro e w3 ⟨rfl, ⟨wv3, D3⟩, hk3⟩
        have R3 := hk3.ty _ _ _ R2 (by decide)
        have k3 := k2.trans hk3
        clear hhe
        go_wp2_with ((with_reducible refine wpList_stB 76 _ _ ?_); refine ⟨_, _, _, ⟨_, _, _, Tryz.sizeOf76, rfl, R3, st3 _ rfl 0 0 0⟩, ?_⟩; intro w5 R5 g5)
        refine bodyPost_ret (results_c1t1 rfl rfl (run_loadVar_all Tryz.isAgg76 Tryz.sizeOf76 R5 rfl)) rfl ⟨rfl, ⟨_, D3.stO g5 R3 (by decide)⟩, k3.own g5 (Nat.le_refl _) hb⟩
theorem rbegin_any (h : RefB B g qq d w) (hb : B ≤ w.heap.size) (hw : d.waits.length ≤ 1000) (rep : Int) : Calls Tryz.prog 31 #[.pointer (some ⟨g, 0, none⟩), .int .i64 rep] w (RMes B g w (beginM d rep)) := by
  obtain ⟨v, l, e, hl⟩ : ∃ v l e, loadC d rep 1 = (v, l, e) := ⟨_, _, _, rfl⟩
  by_cases he : e = 0
  · subst he
    by_cases hv : 0 < v
    · exact rbegin_got h hb hw rep hl hv
    · exact rbegin_zero h hb hw rep hl hv
  · exact rbegin_err h hb rep hl he
end
end Go.Proofs.YtddddemclhlfaaaGreatDoor
namespace Go.Proofs.YtddddemclhlfaaaGreatDoor
open Go.RowKit
theorem a8_new (x : A8) : (Value.agg (a8A x)).cells = a8A x ∧ (a8A x).size = 15 ∧ ∀ u ∈ (a8A x).toList, u.oneCell' = true := ⟨rfl, rfl, by simp [a8A, a8L, a6L, Value.oneCell']⟩
theorem a8_ot (x : A8) : 3 + 12 ≤ (a8A x).size ∧ (a8A x).extract 3 (3 + 12) = a6A x.ot := ⟨Nat.le_refl 15, rfl⟩
theorem a8_bl (x : A8) : 1 + 2 ≤ (a8A x).size ∧ (a8A x).extract 1 (1 + 2) = #[.int .i64 x.br, .int .i64 x.bp] := ⟨by show 3 ≤ 15; decide, rfl⟩
def PlN (n : Nat) (d d' : Dk) : Prop := d'.pl.length = d.pl.length ∧ d'.waits.length ≤ d.waits.length + n
theorem storeM_pl (d : Dk) (rep : Int) (m : Mt) : PlN 2 d (storeM d rep m).1 := by
  have h := store_pl d rep 1 m.i (metaL m.r m.p m.i)
  unfold storeM
  split
  · exact ⟨rfl, by show d.waits.length ≤ d.waits.length + 2; omega⟩
  · split
    · exact ⟨h.1, h.2⟩
    · exact ⟨h.1, h.2⟩
theorem promM_pl (d : Dk) (rep : Int) (m : Mt) (r p : Int) : PlN 2 d (promM d rep m r p).1 := by
  unfold promM
  split
  · exact storeM_pl _ _ _
  · exact ⟨rfl, by show d.waits.length ≤ d.waits.length + 2; omega⟩
theorem beginM_pl (d : Dk) (rep : Int) : PlN 4 d (beginM d rep).1 := by
  have h := heal_pl d rep 1
  have hz : PlN 4 d d := ⟨rfl, by omega⟩
  unfold beginM
  split
  · exact hz
  · split
    · exact hz
    · split
      · exact hz
      · split
        · exact ⟨h.1, Nat.le_trans h.2 (by omega)⟩
        · have h2 := storeM_pl (healC d rep 1).1 rep ⟨(ldM (loadC d rep 1).1 (loadC d rep 1).2.1).r, (ldM (loadC d rep 1).1 (loadC d rep 1).2.1).p, (ldM (loadC d rep 1).1 (loadC d rep 1).2.1).i + 1⟩
          exact ⟨h2.1.trans h.1, Nat.le_trans h2.2 (by have := h.2; omega)⟩
theorem rest_len {B g : Nat} {q : RQ} {d : Dk} {w : World} (R : RefB B g q d w) {s : Nat} (h : s < d.pl.length) : (restD d (s : Int)).1.length ≤ 1000000 := by
  have h64 := (R.ok _ (List.getElem_mem h)).1
  unfold restD
  split
  · simp
  · split
    · simp
    · rw [Int.toNat_natCast, List.getD_eq_getElem?_getD, List.getElem?_eq_getElem h, Option.getD_some]
      simp only
      omega
theorem PlN.wk {n m : Nat} {d d' : Dk} (h : PlN n d d') (hk : Wk d m) : Wk d' (m + n) := ⟨h.1.trans hk.len, by have := h.2; have := hk.wt; omega⟩
set_option maxRecDepth 100000 in
set_option maxHeartbeats 4000000 in
theorem plays8_law (rep r0 p0 i0 : Int) (a : Option Addr) (cap : Nat) (l : List A8) (w : World) (hp : Acts8 w a l) :
    Calls Tryz.prog 5 #[.int .i64 rep, .agg #[.int .i64 r0, .int .i64 p0, .int .i64 i0], .slice a l.length cap] w fun e w' => e = .returned (.bool true) ∧ Below w.heap.size w w' := by
  cases hg : gr8 l
  case true =>
    have HG := Lib.hid hg
    clear hg
    go_enter Tryz.func5, Tryz.ntmps5
    refine wp_seq_k (fun K hK => ?_)
    have HK := Lib.hid hK
    clear hK
    go_wp2
    refine HK.out _ _ ?_
    clear HK
    have hb0 := blw w (Obj.cells #[.int .i64 r0, .int .i64 p0, .int .i64 i0] 76)
    have hp0 := hp.below hb0
    generalize w.alloc (Obj.cells #[.int .i64 r0, .int .i64 p0, .int .i64 i0] 76) = w0 at *
    go_wp2_with (go_at_call 29; refine (great8_any a cap l _ hp0).mono ?_; rintro e w2 ⟨rfl, hb2⟩; rw [HG.out])
    go_ret
    exact ⟨rfl, hb0.trans (hb2.mono hb0.size)⟩
  case false =>
  obtain ⟨hl40, hl7⟩ := gr8_no hg
  have HG := Lib.hid hg
  have HL7 := Lib.hid hl7
  clear hg hl7
  go_enter Tryz.func5, Tryz.ntmps5
  refine wp_seq_k (fun K hK => ?_)
  have HK := Lib.hid hK
  clear hK
  go_wp2
  refine HK.out _ _ ?_
  clear HK
  have hb0 := blw w (Obj.cells #[.int .i64 r0, .int .i64 p0, .int .i64 i0] 76)
  have F0 := heap_alloc_new w (Obj.cells #[.int .i64 r0, .int .i64 p0, .int .i64 i0] 76)
  have hp0 := hp.below hb0
  generalize w.alloc (Obj.cells #[.int .i64 r0, .int .i64 p0, .int .i64 i0] 76) = w0 at *
  refine wp_seq_k (fun K hK => ?_)
  have HK := Lib.hid hK
  clear hK
  go_wp2_with (go_at_call 29; refine (great8_any a cap l _ hp0).mono ?_; rintro e w2 ⟨rfl, hb2⟩; rw [HG.out])
  refine HK.out _ _ ?_
  clear HK
  have F2 := tr_bl hb2 F0
  have hb2b := hb0.trans (hb2.mono hb0.size)
  clear hb0 hb2 F0 hp0
  refine wp_seq_k (fun K hK => ?_)
  have HK := Lib.hid hK
  clear hK
  go_wp2_with (go_at_call 7; refine (new156 (B := w.heap.size) hb2b.size).mono ?_; rintro e w3 ⟨⟨g, gp, rfl, D3⟩, hb3⟩)
  refine HK.out _ _ ?_
  clear HK
  have F3 := tr_bl hb3 F2
  have hb3b := hb2b.trans (hb3.mono hb2b.size)
  refine wp_seq_k (fun K hK => ?_)
  have HK := Lib.hid hK
  clear hK
  go_wp2_with (go_at_call 8; refine (rnew_any 156 (by decide) (by decide) w3).mono ?_; rintro e w4 ⟨g2, rfl, ⟨q2, R4⟩, hb4⟩)
  refine HK.out _ _ ?_
  clear HK
  have F4 := tr_bl hb4 F3
  have hb4b := hb3b.trans (hb4.mono hb3b.size)
  have D4 := D3.below hb4
  have R5 := R4.mono hb3b.size
  clear D3 R4 hb2b hb3 hb3b hb4 F2 F3
  refine wp_seq_k (fun K hK => ?_)
  have HK := Lib.hid hK
  clear hK
  go_wp2
  refine HK.out _ _ ?_
  clear HK
  refine wp_seq_k (fun K hK => ?_)
  have HK := Lib.hid hK
  clear hK
  go_wp2_with (first
      | ((with_reducible refine wpList_ldB 76 _ ?_); refine ⟨rfl, _, ⟨_, _, _, _, _, Tryz.isAgg76, Tryz.sizeOf76, rfl, ‹_›, ld3 _ _ _⟩, ?_⟩)
      | ((first | (with_reducible refine wpList_stNew 76 _ _ ?_) | (with_reducible refine wp_stNew 76 _ _ ?_)); refine ⟨_, _, ⟨Tryz.sizeOf76, rfl, m3_new r0 p0 i0⟩, rfl, ?_⟩))
  refine HK.out _ _ ?_
  clear HK
  have hbn := blw w4 (Obj.cells #[.int .i64 r0, .int .i64 p0, .int .i64 i0] 76)
  have F5 := heap_alloc_new w4 (Obj.cells #[.int .i64 r0, .int .i64 p0, .int .i64 i0] 76)
  have D5 := D4.below hbn
  have R6 := R5.below hbn
  have hq11 : w.heap.size ≤ w4.heap.size := hb4b.size
  have hb5b := hb4b.trans (hbn.mono hb4b.size)
  clear F4 hbn D4 R5 hb4b
  generalize w4.alloc (Obj.cells #[.int .i64 r0, .int .i64 p0, .int .i64 i0] 76) = w5 at *
  generalize w4.heap.size = q11 at *
  refine wp_seq_k (fun K hK => ?_)
  go_cut [] (fun wx => ∃ (d : Dk) (wv : Value) (q : RQ), DiskB w.heap.size g gp wv d wx ∧ RefB w.heap.size g2 q d wx ∧ Below w.heap.size w wx)
  case first =>
    go_wp2
    go_loopw [12] (fun i wr => ∃ (j : Nat) (d : Dk) (m : Mt) (wv : Value) (q : RQ), j ≤ l.length ∧ i = .int .i64 (j : Nat) ∧ wr.heap[q11]? = some (.cells #[.int .i64 m.r, .int .i64 m.p, .int .i64 m.i] 76 (0, 0)) ∧ DiskB w.heap.size g gp wv d wr ∧ RefB w.heap.size g2 q d wr ∧ Wk d (4 * j) ∧ Below w.heap.size w wr) (fun i _ => l.length - (intOf i).toNat)
    case atStart => exact ⟨0, _, ⟨r0, p0, i0⟩, _, _, by omega, rfl, F5, D5, R6, new_wk 0, hb5b⟩
    case round =>
      clear D5 R6 hb5b F5
      obtain ⟨j, d, m, wv, q, hj, rfl, F, D, R, hwk, hbr⟩ := hrel
      by_cases hlt : j < l.length
      case neg =>
        clear F hwk
        go_wp2
        go_meet
        exact ⟨_, _, _, D, R, hbr⟩
      case pos =>
        obtain ⟨b, off, rfl, hc, hi⟩ := (hp.below hbr).each j hlt
        have hx := HL7.out _ (List.getElem_mem hlt)
        have HI : ∀ w', Below w.heap.size w w' → A8in w' l[j] := fun w' hk => by
          obtain ⟨_, _, _, _, h⟩ := (hp.below hk).each j hlt
          exact h
        generalize l[j] = x at *
        have hcA : ∀ r u, (a8A x)[r]? = some u → wr.cell? ⟨b, off + j * 15 + r, none⟩ = some u := fun r u hu => hc r u (by simpa [a8A] using hu)
        have hwt := hwk.wt
        have hkd := hi.k
        clear hc hi
        refine wp_seq_k (fun K hK => ?_)
        have HK := Lib.hid hK
        clear hK
        go_wp2
        refine HK.out _ _ ?_
        clear HK
        refine wp_seq_k (fun K hK => ?_)
        have HKB := Lib.hid hK
        clear hK
        refine wp_block ?_
        refine wp_seq_k (fun K hK => ?_)
        have HK := Lib.hid hK
        clear hK
        go_wp2_with (first
                  | ((with_reducible refine wpList_ldC 80 _ ?_); refine ⟨rfl, _, ⟨_, _, _, Tryz.isAgg80, Tryz.sizeOf80, rfl, (show (a8A x).size = 15 from rfl), hcA⟩, ?_⟩)
                  | ((first | (with_reducible refine wpList_stNew 80 _ _ ?_) | (with_reducible refine wp_stNew 80 _ _ ?_)); refine ⟨_, _, ⟨Tryz.sizeOf80, rfl, a8_new x⟩, rfl, ?_⟩))
        refine HK.out _ _ ?_
        clear HK
        have X4 := heap_alloc_new wr (Obj.cells (a8A x) 80)
        have D4 := D.below (blw wr (Obj.cells (a8A x) 80))
        have R4 := R.below (blw wr (Obj.cells (a8A x) 80))
        have F4 := tr_bl (blw wr (Obj.cells (a8A x) 80)) F
        have hb4 := hbr.trans ((blw wr (Obj.cells (a8A x) 80)).mono hbr.size)
        have hq4 : w.heap.size ≤ wr.heap.size := hbr.size
        have hne4 : q11 ≠ wr.heap.size := by have := lt_blk F; omega
        clear D R F hcA hbr
        generalize wr.alloc (Obj.cells (a8A x) 80) = w4 at *
        generalize wr.heap.size = q4 at *
        have hqx : w.heap.size ≤ w4.heap.size := hb4.size
        have hbA := (blw w4 (Obj.cells #[.int .i64 0, .int .i64 0, .int .i64 0] 76)).alloc (by simp) (Obj.cells #[.int .i64 0, .int .i64 0, .int .i64 0] 76)
        have MA := tr_al (Obj.cells #[.int .i64 0, .int .i64 0, .int .i64 0] 76) (heap_alloc_new w4 (Obj.cells #[.int .i64 0, .int .i64 0, .int .i64 0] 76))
        have NA := heap_alloc_new (w4.alloc (Obj.cells #[.int .i64 0, .int .i64 0, .int .i64 0] 76)) (Obj.cells #[.int .i64 0, .int .i64 0, .int .i64 0] 76)
        have XA := tr_bl hbA X4
        have FA := tr_bl hbA F4
        have DA := D4.below hbA
        have RA := R4.below hbA
        have hbAA := hb4.trans (hbA.mono hb4.size)
        rw [show (w4.alloc (Obj.cells #[.int .i64 0, .int .i64 0, .int .i64 0] 76)).heap.size = w4.heap.size + 1 by simp] at NA
        refine wp_seq_k (fun K hK => ?_)
        have HK := Lib.hid hK
        clear hK
        go_wp2_with ((with_reducible refine wpList_stB 76 _ _ ?_); refine ⟨_, _, _, ⟨_, _, _, Tryz.sizeOf76, rfl, MA, st3 _ rfl 0 0 0⟩, ?_⟩; intro w5 M5 g5; have N5 := tr_st g5 NA (by omega); (with_reducible refine wpList_stB 76 _ _ ?_); refine ⟨_, _, _, ⟨_, _, _, Tryz.sizeOf76, rfl, N5, st3 _ rfl 0 0 0⟩, ?_⟩; intro w6 N6 g6; have M6 := tr_st g6 M5 (by omega); have X6 := tr_st g6 (tr_st g5 XA (by have := lt_blk X4; omega)) (by have := lt_blk X4; omega); have F6 := tr_st g6 (tr_st g5 FA (by have := lt_blk F4; omega)) (by have := lt_blk F4; omega); have D6 := (DA.st g5 MA).st g6 N5; have R6 := (RA.stO g5 MA (by decide)).stO g6 N5 (by decide); have hb5 := hbAA.grown g5 hbAA.size (fun k e => by cases e; exact hqx); have hb6 := hb5.grown g6 hb5.size (fun k e => by cases e; omega))
        refine HK.out _ _ ?_
        clear HK
        have hq4n := lt_blk X4
        have hq11n := lt_blk F4
        clear D4 R4 F4 X4 hb4 hbA MA NA XA FA DA RA hbAA
        generalize w4.heap.size = q14 at *
        refine wp_seq_k (fun K hK => ?_)
        have HK := Lib.hid hK
        clear hK
        go_wp2
        refine HK.out _ _ ?_
        clear HK
        refine wp_seq_k (fun K hK => ?_)
        have HKS := Lib.hid hK
        clear hK
        have c0 := blk_cell X6 0 (.int .u8 (x.kind : Int)) rfl
        have hw1 : d.waits.length ≤ 1000 := by omega
        by_cases h0 : x.kind % 4 = 0
        case pos =>
          have e0 : (x.kind : Int) % 4 = 0 := by omega
          have f0 : (x.kind : Int).tmod 4 = 0 := by rw [Int.tmod_eq_emod_of_nonneg (by omega)]; exact e0
          have hpc := begin_any D6 hb6.size hw1 rep
          have hrc0 := fun (w' : World) (q' : RQ) (R : RefB w.heap.size g2 q' d w') (h : w.heap.size ≤ w'.heap.size) => rbegin_any R h hw1 rep
          have hpl := beginM_pl d rep
          generalize beginM d rep = bm at *
          obtain ⟨d', ⟨r1, p1, i1⟩, er⟩ := bm
          have hwk' : Wk d' (4 * (j + 1)) := hpl.wk hwk
          clear h0 hpl hwk hkd
          go_wp2_with (first
            | (go_at_call 30; refine hpc.mono ?_; rintro e w7 ⟨rfl, ⟨wv7, D7⟩, k7⟩; simp only [mV]; have F7 := k7.ty _ _ _ F6 (by decide) (by decide) (by decide); have M7 := k7.ty _ _ _ M6 (by decide) (by decide) (by decide); have N7 := k7.ty _ _ _ N6 (by decide) (by decide) (by decide); have X7 := k7.ty _ _ _ X6 (by decide) (by decide) (by decide); have R7 := R6.kt k7; have hb7 := hb6.trans k7.bl; clear hpc D6 R6 F6 M6 N6 X6 hb6 k7)
            | ((with_reducible refine wpList_stB 76 _ _ ?_); refine ⟨_, _, _, ⟨_, _, _, Tryz.sizeOf76, rfl, M7, st3 _ rfl r1 p1 i1⟩, ?_⟩; intro w8 M8 g8; have N8 := tr_st g8 N7 (by omega); have X8 := tr_st g8 X7 (by omega); have F8 := tr_st g8 F7 (by omega); have D8 := D7.st g8 M7; have R8 := R7.stO g8 M7 (by decide); have hb8 := hb7.grown g8 hb7.size (fun k e => by cases e; omega); clear D7 R7 F7 M7 N7 X7 hb7 g8; have hrc := hrc0 _ _ R8 hb8.size; clear hrc0)
            | (go_at_call 31; refine hrc.mono ?_; rintro e w9 ⟨rfl, ⟨q9, R9⟩, k9⟩; simp only [mV]; have F9 := k9.ty _ _ _ F8 (by decide); have M9 := k9.ty _ _ _ M8 (by decide); have N9 := k9.ty _ _ _ N8 (by decide); have D9 := D8.kx k9.f; have hb9 := hb8.trans k9.bl; clear hrc D8 R8 F8 M8 N8 X8 hb8 k9)
            | ((with_reducible refine wpList_stB 76 _ _ ?_); refine ⟨_, _, _, ⟨_, _, _, Tryz.sizeOf76, rfl, N9, st3 _ rfl r1 p1 i1⟩, ?_⟩; intro w10 N10 g10; have M10 := tr_st g10 M9 (by omega); have F10 := tr_st g10 F9 (by omega); have D10 := D9.st g10 N9; have R10 := R9.stO g10 N9 (by decide); have hb10 := hb9.grown g10 hb9.size (fun k e => by cases e; omega); clear D9 R9 F9 M9 N9 hb9 g10))
          (try simp only [Exit.inBlock, Exit.then])
          refine HKS.out _ _ ?_
          clear HKS
          refine wp_seq_k (fun K hK => ?_)
          have HK := Lib.hid hK
          clear hK
          go_wp2_with ((with_reducible refine wpList_ldB 76 _ ?_); refine ⟨rfl, _, ⟨_, _, _, _, _, Tryz.isAgg76, Tryz.sizeOf76, rfl, ‹_›, ld3 _ _ _⟩, ?_⟩)
          refine HK.out _ _ ?_
          clear HK
          refine wp_seq_k (fun K hK => ?_)
          go_cut [] (fun wx => ∃ m' : Mt, wx.heap[q11]? = some (.cells #[.int .i64 m'.r, .int .i64 m'.p, .int .i64 m'.i] 76 (0, 0)) ∧ (∃ wv, DiskB w.heap.size g gp wv d' wx) ∧ (∃ q, RefB w.heap.size g2 q d' wx) ∧ Below w.heap.size w wx)
          case first =>
            by_cases her : er = 0
            · subst her
              go_wp2_with (first
                | ((with_reducible refine wpList_ldB 76 _ ?_); refine ⟨rfl, _, ⟨_, _, _, _, _, Tryz.isAgg76, Tryz.sizeOf76, rfl, ‹_›, ld3 _ _ _⟩, ?_⟩)
                | ((with_reducible refine wpList_stB 76 _ _ ?_); refine ⟨_, _, _, ⟨_, _, _, Tryz.sizeOf76, rfl, F10, st3 _ rfl r1 p1 i1⟩, ?_⟩; intro w7 F7 g7; have D7 := D10.st g7 F10; have R7 := R10.stO g7 F10 (by decide); have hb7 := hb10.grown g7 hb10.size (fun k e => by cases e; exact hq11)))
              go_meet
              exact ⟨⟨r1, p1, i1⟩, F7, ⟨_, D7⟩, ⟨_, R7⟩, hb7⟩
            · have hern : (er == 0) = false := by rw [beq_eq_false_iff_ne]; exact her
              go_wp2
              go_meet
              exact ⟨m, F10, ⟨_, D10⟩, ⟨_, R10⟩, hb10⟩
          clear D10 R10 hb10 F10 M10 N10
          obtain ⟨m8, F8, ⟨wv8, D8⟩, ⟨q8, R8⟩, hb8⟩ := hcut
          refine hK _ _ ?_
          clear hK
          refine wp_seq_k (fun K hK => ?_)
          have HK := Lib.hid hK
          clear hK
          go_wp2
          refine HK.out _ _ ?_
          clear HK
          have hnl := hwk'.len
          generalize d' = d at *
          go_wp2
          go_loopw [18] (fun i wr => ∃ k : Nat, k ≤ 4 ∧ i = .int .i64 (k : Int) ∧ Below wc.heap.size wc wr) (fun i _ => 4 - (intOf i).toNat)
          case atStart => exact ⟨0, by omega, rfl, Below.refl _ _⟩
          case round =>
            obtain ⟨k, hk, rfl, hbr⟩ := hrel
            have D1 := D8.below hbr
            have R1 := R8.below hbr
            by_cases hlt : k < 4
            case neg =>
              have F9 := tr_bl hbr F8
              have hb9 := hb8.trans (hbr.mono hb8.size)
              clear D8 R8 F8 hb8 hbr
              go_wp2
              (try simp only [Exit.inBlock, Exit.then])
              refine HKB.out _ _ ?_
              clear HKB
              go_wp2
              go_roundw
              case rel => exact ⟨j + 1, d, m8, _, _, by omega, by go_num, F9, D1, R1, hwk', hb9⟩
              case measure => simp [intOf]; omega
            case pos =>
              have hr := rest_sl D1 k
              have ha := fun (w' : World) (hb : Below wr.heap.size wr w') => rat_any (R1.below hb) k
              have hlen := rest_len R1 (s := k) (by omega)
              obtain ⟨⟨rb, rl, re⟩, hres⟩ : ∃ r, restD d (k : Int) = r := ⟨_, rfl⟩
              rw [hres] at hr ha hlen
              simp only at hr ha hlen
              clear hres D1 R1
              refine wp_seq_k (fun K hK => ?_)
              have HK := Lib.hid hK
              clear hK
              go_wp2
              refine HK.out _ _ ?_
              clear HK
              refine wp_seq_k (fun K hK => ?_)
              have HK1 := Lib.hid hK
              clear hK
              refine wp_block ?_
              refine wp_seq_k (fun K hK => ?_)
              have HK := Lib.hid hK
              clear hK
              go_wp2_with (go_at_call 34; refine hr.mono ?_; rintro e w5 ⟨⟨a5, c5, rfl, s5⟩, hb5⟩)
              refine HK.out _ _ ?_
              clear HK
              have ha5 := ha _ hb5
              have hb6 := hbr.trans (hb5.mono hbr.size)
              clear ha hr hbr hb5
              refine wp_seq_k (fun K hK => ?_)
              have HK := Lib.hid hK
              clear hK
              go_wp2_with (go_at_call 35; refine ha5.mono ?_; rintro e w7 ⟨⟨a7, c7, rfl, s7⟩, hb7⟩)
              refine HK.out _ _ ?_
              clear HK
              have hb8' := hb6.trans (hb7.mono hb6.size)
              have hsm := rsame_any a5 a7 c5 c7 rb rb w7 (s5.below hb7).row s7.row hlen
              rw [decide_eq_true rfl] at hsm
              clear ha5 s5 s7 hb6 hb7 hlen
              refine wp_seq_k (fun K hK => ?_)
              have HK := Lib.hid hK
              clear hK
              go_wp2_with (go_at_call 19; refine hsm.mono ?_; rintro e w9 ⟨rfl, hb9⟩)
              refine HK.out _ _ ?_
              clear HK
              go_wp2
              (try simp only [Exit.inBlock, Exit.then])
              refine HK1.out _ _ ?_
              go_wp2
              go_roundw
              case rel => exact ⟨k + 1, by omega, by go_num, hb8'.trans (hb9.mono hb8'.size)⟩
              case measure => simp [intOf]; omega
        case neg =>
        by_cases h1 : x.kind % 4 = 1
        case pos =>
          have e0 : (x.kind : Int) % 4 = 1 := by omega
          have f0 : (x.kind : Int).tmod 4 = 1 := by rw [Int.tmod_eq_emod_of_nonneg (by omega)]; exact e0
          have hpc := prom_any D6 hb6.size hw1 rep m.r m.p m.i x.br x.bp
          have hrc0 := fun (w' : World) (q' : RQ) (R : RefB w.heap.size g2 q' d w') (h : w.heap.size ≤ w'.heap.size) => rprom_any R h hw1 rep m.r m.p m.i x.br x.bp
          have hpl := promM_pl d rep m x.br x.bp
          rw [show (⟨m.r, m.p, m.i⟩ : Mt) = m from rfl] at hpc
          simp only [show (⟨m.r, m.p, m.i⟩ : Mt) = m from rfl] at hrc0
          generalize promM d rep m x.br x.bp = bm at *
          obtain ⟨d', ⟨r1, p1, i1⟩, er⟩ := bm
          have hwk' : Wk d' (4 * (j + 1)) := by have h := hpl.wk hwk; exact ⟨h.len, Nat.le_trans h.wt (by omega)⟩
          clear h0 h1 hpl hwk hkd
          go_wp2_with (first
            | ((with_reducible refine wpList_ldB 76 _ ?_); refine ⟨rfl, _, ⟨_, _, _, _, _, Tryz.isAgg76, Tryz.sizeOf76, rfl, ‹_›, ld3 _ _ _⟩, ?_⟩)
            | ((with_reducible refine wpList_ldB 74 _ ?_); refine ⟨rfl, _, ⟨_, _, _, _, _, Tryz.isAgg74, Tryz.sizeOf74, rfl, ‹_›, a8_bl x⟩, ?_⟩)
            | (go_at_call 32; refine hpc.mono ?_; rintro e w7 ⟨rfl, ⟨wv7, D7⟩, k7⟩; simp only [mV]; have F7 := k7.ty _ _ _ F6 (by decide) (by decide) (by decide); have M7 := k7.ty _ _ _ M6 (by decide) (by decide) (by decide); have N7 := k7.ty _ _ _ N6 (by decide) (by decide) (by decide); have X7 := k7.ty _ _ _ X6 (by decide) (by decide) (by decide); have R7 := R6.kt k7; have hb7 := hb6.trans k7.bl; clear hpc D6 R6 F6 M6 N6 X6 hb6 k7)
            | ((with_reducible refine wpList_stB 76 _ _ ?_); refine ⟨_, _, _, ⟨_, _, _, Tryz.sizeOf76, rfl, M7, st3 _ rfl r1 p1 i1⟩, ?_⟩; intro w8 M8 g8; have N8 := tr_st g8 N7 (by omega); have X8 := tr_st g8 X7 (by omega); have F8 := tr_st g8 F7 (by omega); have D8 := D7.st g8 M7; have R8 := R7.stO g8 M7 (by decide); have hb8 := hb7.grown g8 hb7.size (fun k e => by cases e; omega); clear D7 R7 F7 M7 N7 X7 hb7 g8; have hrc := hrc0 _ _ R8 hb8.size; clear hrc0)
            | (go_at_call 33; refine hrc.mono ?_; rintro e w9 ⟨rfl, ⟨q9, R9⟩, k9⟩; simp only [mV]; have F9 := k9.ty _ _ _ F8 (by decide); have M9 := k9.ty _ _ _ M8 (by decide); have N9 := k9.ty _ _ _ N8 (by decide); have D9 := D8.kx k9.f; have hb9 := hb8.trans k9.bl; clear hrc D8 R8 F8 M8 N8 X8 hb8 k9)
            | ((with_reducible refine wpList_stB 76 _ _ ?_); refine ⟨_, _, _, ⟨_, _, _, Tryz.sizeOf76, rfl, N9, st3 _ rfl r1 p1 i1⟩, ?_⟩; intro w10 N10 g10; have M10 := tr_st g10 M9 (by omega); have F10 := tr_st g10 F9 (by omega); have D10 := D9.st g10 N9; have R10 := R9.stO g10 N9 (by decide); have hb10 := hb9.grown g10 hb9.size (fun k e => by cases e; omega); clear D9 R9 F9 M9 N9 hb9 g10))
          (try simp only [Exit.inBlock, Exit.then])
          refine HKS.out _ _ ?_
          clear HKS
          refine wp_seq_k (fun K hK => ?_)
          have HK := Lib.hid hK
          clear hK
          go_wp2_with ((with_reducible refine wpList_ldB 76 _ ?_); refine ⟨rfl, _, ⟨_, _, _, _, _, Tryz.isAgg76, Tryz.sizeOf76, rfl, ‹_›, ld3 _ _ _⟩, ?_⟩)
          refine HK.out _ _ ?_
          clear HK
          refine wp_seq_k (fun K hK => ?_)
          go_cut [] (fun wx => ∃ m' : Mt, wx.heap[q11]? = some (.cells #[.int .i64 m'.r, .int .i64 m'.p, .int .i64 m'.i] 76 (0, 0)) ∧ (∃ wv, DiskB w.heap.size g gp wv d' wx) ∧ (∃ q, RefB w.heap.size g2 q d' wx) ∧ Below w.heap.size w wx)
          case first =>
            by_cases her : er = 0
            · subst her
              go_wp2_with (first
                | ((with_reducible refine wpList_ldB 76 _ ?_); refine ⟨rfl, _, ⟨_, _, _, _, _, Tryz.isAgg76, Tryz.sizeOf76, rfl, ‹_›, ld3 _ _ _⟩, ?_⟩)
                | ((with_reducible refine wpList_stB 76 _ _ ?_); refine ⟨_, _, _, ⟨_, _, _, Tryz.sizeOf76, rfl, F10, st3 _ rfl r1 p1 i1⟩, ?_⟩; intro w7 F7 g7; have D7 := D10.st g7 F10; have R7 := R10.stO g7 F10 (by decide); have hb7 := hb10.grown g7 hb10.size (fun k e => by cases e; exact hq11)))
              go_meet
              exact ⟨⟨r1, p1, i1⟩, F7, ⟨_, D7⟩, ⟨_, R7⟩, hb7⟩
            · have hern : (er == 0) = false := by rw [beq_eq_false_iff_ne]; exact her
              go_wp2
              go_meet
              exact ⟨m, F10, ⟨_, D10⟩, ⟨_, R10⟩, hb10⟩
          clear D10 R10 hb10 F10 M10 N10
          obtain ⟨m8, F8, ⟨wv8, D8⟩, ⟨q8, R8⟩, hb8⟩ := hcut
          refine hK _ _ ?_
          clear hK
          refine wp_seq_k (fun K hK => ?_)
          have HK := Lib.hid hK
          clear hK
          go_wp2
          refine HK.out _ _ ?_
          clear HK
          have hnl := hwk'.len
          generalize d' = d at *
          go_wp2
          go_loopw [18] (fun i wr => ∃ k : Nat, k ≤ 4 ∧ i = .int .i64 (k : Int) ∧ Below wc.heap.size wc wr) (fun i _ => 4 - (intOf i).toNat)
          case atStart => exact ⟨0, by omega, rfl, Below.refl _ _⟩
          case round =>
            obtain ⟨k, hk, rfl, hbr⟩ := hrel
            have D1 := D8.below hbr
            have R1 := R8.below hbr
            by_cases hlt : k < 4
            case neg =>
              have F9 := tr_bl hbr F8
              have hb9 := hb8.trans (hbr.mono hb8.size)
              clear D8 R8 F8 hb8 hbr
              go_wp2
              (try simp only [Exit.inBlock, Exit.then])
              refine HKB.out _ _ ?_
              clear HKB
              go_wp2
              go_roundw
              case rel => exact ⟨j + 1, d, m8, _, _, by omega, by go_num, F9, D1, R1, hwk', hb9⟩
              case measure => simp [intOf]; omega
            case pos =>
              have hr := rest_sl D1 k
              have ha := fun (w' : World) (hb : Below wr.heap.size wr w') => rat_any (R1.below hb) k
              have hlen := rest_len R1 (s := k) (by omega)
              obtain ⟨⟨rb, rl, re⟩, hres⟩ : ∃ r, restD d (k : Int) = r := ⟨_, rfl⟩
              rw [hres] at hr ha hlen
              simp only at hr ha hlen
              clear hres D1 R1
              refine wp_seq_k (fun K hK => ?_)
              have HK := Lib.hid hK
              clear hK
              go_wp2
              refine HK.out _ _ ?_
              clear HK
              refine wp_seq_k (fun K hK => ?_)
              have HK1 := Lib.hid hK
              clear hK
              refine wp_block ?_
              refine wp_seq_k (fun K hK => ?_)
              have HK := Lib.hid hK
              clear hK
              go_wp2_with (go_at_call 34; refine hr.mono ?_; rintro e w5 ⟨⟨a5, c5, rfl, s5⟩, hb5⟩)
              refine HK.out _ _ ?_
              clear HK
              have ha5 := ha _ hb5
              have hb6 := hbr.trans (hb5.mono hbr.size)
              clear ha hr hbr hb5
              refine wp_seq_k (fun K hK => ?_)
              have HK := Lib.hid hK
              clear hK
              go_wp2_with (go_at_call 35; refine ha5.mono ?_; rintro e w7 ⟨⟨a7, c7, rfl, s7⟩, hb7⟩)
              refine HK.out _ _ ?_
              clear HK
              have hb8' := hb6.trans (hb7.mono hb6.size)
              have hsm := rsame_any a5 a7 c5 c7 rb rb w7 (s5.below hb7).row s7.row hlen
              rw [decide_eq_true rfl] at hsm
              clear ha5 s5 s7 hb6 hb7 hlen
              refine wp_seq_k (fun K hK => ?_)
              have HK := Lib.hid hK
              clear hK
              go_wp2_with (go_at_call 19; refine hsm.mono ?_; rintro e w9 ⟨rfl, hb9⟩)
              refine HK.out _ _ ?_
              clear HK
              go_wp2
              (try simp only [Exit.inBlock, Exit.then])
              refine HK1.out _ _ ?_
              go_wp2
              go_roundw
              case rel => exact ⟨k + 1, by omega, by go_num, hb8'.trans (hb9.mono hb8'.size)⟩
              case measure => simp [intOf]; omega
        case neg =>
          have i0 : ((x.kind : Int) % 4 == 0) = false := by rw [beq_eq_false_iff_ne]; omega
          have i1 : ((x.kind : Int) % 4 == 1) = false := by rw [beq_eq_false_iff_ne]; omega
          have ft : (x.kind : Int).tmod 4 = (x.kind : Int) % 4 := Int.tmod_eq_emod_of_nonneg (by omega)
          have hwk' : Wk (do6 d x.ot) (4 * (j + 1)) := by have h := do6_wk hwk x.ot; exact ⟨h.len, Nat.le_trans h.wt (by omega)⟩
          have hdo := ldo_any D6 hb6.size x.ot (fun w' hk => (HI _ (hb6.trans hk.bl)).d) hx hw1
          clear h0 h1 hwk hkd
          go_wp2_with (first
            | ((with_reducible refine wpList_ldB 39 _ ?_); refine ⟨rfl, _, ⟨_, _, _, _, _, Tryz.isAgg39, Tryz.sizeOf39, rfl, ‹_›, a8_ot x⟩, ?_⟩)
            | (go_at_call 9; refine hdo.mono ?_; rintro e w5 ⟨⟨v5, rfl⟩, ⟨wv5, D7⟩, k5⟩; have X7 := k5.ty _ _ _ X6 (by decide) (by decide) (by decide); have F7 := k5.ty _ _ _ F6 (by decide) (by decide) (by decide); have R7 := R6.kt k5; have hb7 := hb6.trans k5.bl; clear X6 c0 hdo D6 R6 hb6 F6 M6 N6; have hsm := same6_any R7 hb7.size x.ot (fun w' hk => (HI _ (hb7.trans hk.bl)).d) hx hw1)
            | (go_at_call 10; refine hsm.mono ?_; rintro e w6 ⟨⟨v6, rfl⟩, ⟨q6, R8⟩, k6⟩))
          have D8 := D7.kx k6
          have F8 := k6.ty _ _ _ F7 (by decide)
          have hb8 := hb7.trans k6.bl
          clear D7 R7 F7 hb7 hsm k6
          (try simp only [Exit.inBlock, Exit.then])
          refine HKB.out _ _ ?_
          clear HKB
          go_wp2
          go_roundw
          case rel => exact ⟨j + 1, _, m, _, _, by omega, by go_num, F8, D8, R8, hwk', hb8⟩
          case measure => simp [intOf]; omega
  obtain ⟨d9, wv9, q9, D9, R9, hb9⟩ := hcut
  have hwa := fun z => waits_any (D9.below (under_below wc z))
  have c3 := R9.c3
  obtain ⟨qa, qc, hqw, _, hwl, hwm⟩ := Row.of_owns R9.wts
  rw [hqw] at c3
  have u3 := under_cell c3
  refine hK _ _ ?_
  clear hK hqw D9 R9 c3
  go_wp2_with fail
  refine wp_region_under (by kernel_rfl) (by kernel_rfl) ?_
  repeat (go_big_quiet_step ((go_at_call 36; exact under_same (hwa _))))
  refine wpQuiet_nil ?_
  intro _ hw'
  obtain ⟨xU, hw''⟩ := hw'
  subst hw''
  have hbU := under_below wc xU
  go_wp2
  go_ret
  exact ⟨rfl, hb9.trans (hbU.mono hb9.size)⟩
end Go.Proofs.YtddddemclhlfaaaGreatDoor
