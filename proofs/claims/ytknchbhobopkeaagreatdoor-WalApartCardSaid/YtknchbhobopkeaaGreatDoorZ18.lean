/- Texts that the claim leans on, part 18: V10, A2, Y7, A8b, A9, OB. -/
import Derived.Test.YtknchbhobopkeaaGreatDoorZ1
import Derived.Test.YtknchbhobopkeaaGreatDoorZ2
import Derived.Test.YtknchbhobopkeaaGreatDoorZ3
import Derived.Test.YtknchbhobopkeaaGreatDoorZ4
import Derived.Test.YtknchbhobopkeaaGreatDoorZ5
import Derived.Test.YtknchbhobopkeaaGreatDoorZ6
import Derived.Test.YtknchbhobopkeaaGreatDoorZ7
import Derived.Test.YtknchbhobopkeaaGreatDoorZ8
import Derived.Test.YtknchbhobopkeaaGreatDoorZ9
import Derived.Test.YtknchbhobopkeaaGreatDoorZ10
import Derived.Test.YtknchbhobopkeaaGreatDoorZ11
import Derived.Test.YtknchbhobopkeaaGreatDoorZ12
import Derived.Test.YtknchbhobopkeaaGreatDoorZ13
import Derived.Test.YtknchbhobopkeaaGreatDoorZ14
import Derived.Test.YtknchbhobopkeaaGreatDoorZ15
import Derived.Test.YtknchbhobopkeaaGreatDoorZ16
import Derived.Test.YtknchbhobopkeaaGreatDoorZ17
import Derived.Test.YtknchbhobopkeaaGreatDoorRows
import Derived.WalkKit
import Derived.WalkSpells
import Derived.WalkLawsBesides
import Derived.Handy
import Derived.Deep.QuietTactic
import Derived.BigQuiet
import Derived.Deep.DeepCutAuto
import Derived.Lib.Hide
import Derived.RegionTactic
import Derived.ChangeAlike
import Derived.Laws.ResultCell
import Derived.Outline
import Derived.IntWalk
import Derived.ProofKit
import Derived.Lib.SmallJoins
import Derived.RangeFuncNested
import Derived.RangeFuncBound
import Derived.RangeFuncCalls
import Derived.RangeFuncLeaves
import Derived.RangeFuncBox
import Derived.RangeFuncRecord
import Derived.Shelf.Abstract
import Derived.Shelf.RegionOpen
import Derived.OwnWalkIn
import Derived.TacticsInMore
import Derived.LoopNIn
import Derived.LoopIn
import Derived.Maps.AppendAt
import Derived.Maps.OwnIn
import Derived.Laws.IdiomStrings
import Derived.Laws.BytesArg
import Derived.LoopN
import Derived.ChangeSlices
import Derived.Deep.Slices
import Derived.Deep.Strs
import Derived.OpenShut
import Derived.Laws.MakeOwn
import Derived.Lib.SliceRun
import Derived.Laws.BitsAllLaws
import Derived.Great.BuildSlice
import Derived.Great.FillDense
import Derived.Laws.Rows
import Derived.Deep.Quiet
import Derived.Deep.RegionHeld3
import Derived.Lib.AppendStr
import Derived.Laws.Strings
import Derived.Laws.CopyOwn
import Derived.Laws.CopyRow
import Derived.Laws.NewBlocks
import Derived.Deep.RegionLaw
namespace Go.Proofs.YtknchbhobopkeaaGreatDoor
open Go.RowKit
section
variable {B g gp q : Nat} {wv : Value} {d : Dk} {w w' : World} {s : Lg} {b : Bal} {e : En}
set_option maxRecDepth 100000 in
set_option maxHeartbeats 1000000 in
theorem lput_ok (h : LgB w q g s) (hd : DiskB B g gp wv d w) (hb : B ≤ w.heap.size) (hs : LgOk s) (i : Int) (hl : liveW d s i = 0) (hbm : mayBl b = true) (hem : mayE e = true) (hw : d.waits.length ≤ 900) : Calls Tryz.prog 9 #[.pointer (some ⟨q, 0, none⟩), .int .i64 i, .agg (blA b), .agg (enA e)] w fun en w' => en = .returned (.int .i64 (putW d s i b e).2) ∧ (∃ wv', DiskB B g gp wv' (putW d s i b e).1 w') ∧ Kt B w w' := by
  obtain ⟨h1, h2, _⟩ := live_in hs hl
  have hli := fun w' (h : LgB w' q g s) (D : DiskB B g gp wv d w') => llive_any2 h D hs.p i
  rw [hl] at hli
  have hpr := fun w => eprint_ok (w := w) (b := b) (e := e) hbm hem
  have hre := fun w' (h : LgB w' q g s) (D : DiskB B g gp wv d w') => wread_any h D i h1 h2
  have hwh : (recW d s i).wh = 0 ∨ (recW d s i).wh = 1 := recOf_wh _
  have hnx := fun w => next_any2 (p := recW d s i) (f := ffW d s i) (i := i) hwh w
  have hk2 := nextS_lt (recW d s i) (ffW d s i) i
  have hpl := fun w => wplace_any i h1 h2 w
  have hbl := bodyE_len b hem
  obtain ⟨r, hr⟩ : ∃ r, putW d s i b e = r := ⟨_, rfl⟩
  rw [hr]
  unfold putW at hr
  generalize recW d s i = p at *
  generalize ffW d s i = f at *
  obtain ⟨k, hk⟩ : ∃ k, nextS p f i = k := ⟨_, rfl⟩
  rw [hk] at hr hnx hk2
  have hsp := fun w => sprint_ok (w := w) (b := b) hbm k hk2
  have hmy4 := mayT4 hs h1 h2 hk2
  have hmy3 := mayT3 hs h1 h2
  have hpin := plW_in (i := i)
  have hf4 := first4 (p := 2 * plW i + k) (by omega)
  have hf3 := first3 hpin
  have hW4 := fun w' (L : LgB w' q g s) (D : DiskB B g gp wv d w') hB a cap S => lwrite2_any (f := firstN 4 (2 * plW i + k)) L D hB rfl (by omega) (by omega) i a cap (bodyE b e) S hmy4 (by omega)
  have ht4 := lputD_wt d (firstN 4 (2 * plW i + k)) (frmL s i k b e) 2
  unfold putL1 putL2 at hr
  obtain ⟨r4, hr4⟩ : ∃ r4, lputD d (firstN 4 (2 * plW i + k)) (frmL s i k b e) 2 = r4 := ⟨_, rfl⟩
  rw [show sealF ⟨s.rep, 4, 2 * plW i + k, i, s.inc⟩ (bodyE b e) 128 = frmL s i k b e from rfl, hr4] at hW4
  rw [hr4] at hr ht4
  have hW3 := fun w' wv' (L : LgB w' q g s) (D : DiskB B g gp wv' r4.1 w') hB a cap S => lwrite1_any (f := firstN 3 (plW i)) L D hB rfl (by omega) (by omega) i a cap (recB b k) S hmy3 (by rw [recB_len]; omega)
  obtain ⟨r3, hr3⟩ : ∃ r3, lputD r4.1 (firstN 3 (plW i)) (frmR s i k b) 1 = r3 := ⟨_, rfl⟩
  rw [show sealF ⟨s.rep, 3, plW i, i, s.inc⟩ (recB b k) 64 = frmR s i k b from rfl, hr3] at hW3
  rw [hr3] at hr
  have HR := Lib.hid hr
  have hki : 0 ≤ (k : Int) ∧ (k : Int) < 2 := by omega
  clear hr hr3 hr4 ht4 hf3 hf4 hmy3 hmy4 hk hwh hbl hs hl hbm hem
  generalize plW i = pp at *
  generalize bodyE b e = body at *
  generalize recB b k = rbd at *
  generalize (k : Int) = ki at *
  have hbB := blw w (Obj.cells (blA b) 32)
  have hb0 := hbB.trans ((blw (w.alloc (Obj.cells (blA b) 32)) (Obj.cells (enA e) 36)).mono hbB.size)
  have Bx : ((w.alloc (Obj.cells (blA b) 32)).alloc (Obj.cells (enA e) 36)).heap[w.heap.size]? = some (.cells (blA b) 32 (0, 0)) := tr_al (Obj.cells (enA e) 36) (heap_alloc_new w (Obj.cells (blA b) 32))
  have Ex : ((w.alloc (Obj.cells (blA b) 32)).alloc (Obj.cells (enA e) 36)).heap[w.heap.size + 1]? = some (.cells (enA e) 36 (0, 0)) := new_two w (Obj.cells (blA b) 32) (Obj.cells (enA e) 36)
  have L0 := h.below hb0
  have D0 := hd.below hb0
  go_enter Tryz.func9, Tryz.ntmps9
  refine wp_seq_k (fun K hK => ?_)
  have HK := Lib.hid hK
  clear hK
  go_wp2
  refine HK.out _ _ ?_
  clear HK
  generalize (w.alloc (Obj.cells (blA b) 32)).alloc (Obj.cells (enA e) 36) = w0 at *
  clear h hd hbB
  refine wp_seq_k (fun K hK => ?_)
  have HK := Lib.hid hK
  clear hK
  go_wp2_with (go_at_call 29; refine (hli _ L0 D0).mono ?_; rintro en w1 ⟨rfl, rfl⟩)
  refine HK.out _ _ ?_
  clear HK
  refine wp_seq_k (fun K hK => ?_)
  have HK := Lib.hid hK
  clear hK
  go_wp2
  refine HK.out _ _ ?_
  clear HK
  refine wp_seq_k (fun K hK => ?_)
  have HK := Lib.hid hK
  clear hK
  go_wp2_with (first
      | ((with_reducible refine wpList_ldB 32 _ ?_); refine ⟨rfl, _, ⟨_, _, _, _, _, Tryz.isAgg32, Tryz.sizeOf32, rfl, ‹_›, arr_all rfl⟩, ?_⟩)
      | ((with_reducible refine wpList_ldB 36 _ ?_); refine ⟨rfl, _, ⟨_, _, _, _, _, Tryz.isAgg36, Tryz.sizeOf36, rfl, ‹_›, arr_all rfl⟩, ?_⟩)
      | (go_at_call 30; refine (hpr _).mono ?_; rintro en w2 ⟨⟨a2, c2, rfl, O2⟩, hb2⟩))
  refine HK.out _ _ ?_
  clear HK
  have L2 := L0.below hb2
  have D2 := D0.below hb2
  have B2 := tr_bl hb2 Bx
  have hx2 := hb0.trans (hb2.mono hb0.size)
  have O2 := O2.mono hb0.size
  clear L0 D0 Bx Ex hb0 hb2 hpr hli
  refine wp_seq_k (fun K hK => ?_)
  have HK := Lib.hid hK
  clear hK
  go_wp2
  refine HK.out _ _ ?_
  clear HK
  refine wp_seq_k (fun K hK => ?_)
  have HK := Lib.hid hK
  clear hK
  go_wp2_with (first
      | (go_at_call 31; refine (hre _ L2 D2).mono ?_; rintro en w4 ⟨rfl, hb6⟩; have X40 : ((w4.alloc (Obj.cells #[.int .u8 0, .int .i64 0, .int .i64 0, .int .i64 0, .int .i64 0] 79)).alloc (Obj.cells #[.int .u8 0, .int .i64 0, .int .i64 0, .int .i64 0, .int .u8 0, .int .i64 0, .int .i64 0, .int .u8 0, .string ⟨#[]⟩, .string ⟨#[]⟩, .string ⟨#[]⟩, .int .u8 0, .int .i64 0, .int .i64 0, .int .i64 0, .int .u8 0, .int .i64 0, .int .i64 0, .int .u8 0, .string ⟨#[]⟩, .string ⟨#[]⟩, .string ⟨#[]⟩] 82)).heap[w4.heap.size]? = some (.cells (recA (zRec 0)) 79 (0, 0)) := tr_al (Obj.cells #[.int .u8 0, .int .i64 0, .int .i64 0, .int .i64 0, .int .u8 0, .int .i64 0, .int .i64 0, .int .u8 0, .string ⟨#[]⟩, .string ⟨#[]⟩, .string ⟨#[]⟩, .int .u8 0, .int .i64 0, .int .i64 0, .int .i64 0, .int .u8 0, .int .i64 0, .int .i64 0, .int .u8 0, .string ⟨#[]⟩, .string ⟨#[]⟩, .string ⟨#[]⟩] 82) (heap_alloc_new w4 (Obj.cells #[.int .u8 0, .int .i64 0, .int .i64 0, .int .i64 0, .int .i64 0] 79)); have Y40 : ((w4.alloc (Obj.cells #[.int .u8 0, .int .i64 0, .int .i64 0, .int .i64 0, .int .i64 0] 79)).alloc (Obj.cells #[.int .u8 0, .int .i64 0, .int .i64 0, .int .i64 0, .int .u8 0, .int .i64 0, .int .i64 0, .int .u8 0, .string ⟨#[]⟩, .string ⟨#[]⟩, .string ⟨#[]⟩, .int .u8 0, .int .i64 0, .int .i64 0, .int .i64 0, .int .u8 0, .int .i64 0, .int .i64 0, .int .u8 0, .string ⟨#[]⟩, .string ⟨#[]⟩, .string ⟨#[]⟩] 82)).heap[w4.heap.size + 1]? = some (.cells (ffA (fun _ => zCp 0)) 82 (0, 0)) := new_two w4 (Obj.cells #[.int .u8 0, .int .i64 0, .int .i64 0, .int .i64 0, .int .i64 0] 79) (Obj.cells #[.int .u8 0, .int .i64 0, .int .i64 0, .int .i64 0, .int .u8 0, .int .i64 0, .int .i64 0, .int .u8 0, .string ⟨#[]⟩, .string ⟨#[]⟩, .string ⟨#[]⟩, .int .u8 0, .int .i64 0, .int .i64 0, .int .i64 0, .int .u8 0, .int .i64 0, .int .i64 0, .int .u8 0, .string ⟨#[]⟩, .string ⟨#[]⟩, .string ⟨#[]⟩] 82))
      | ((with_reducible refine wpList_stB 79 _ _ ?_); refine ⟨_, _, _, ⟨_, _, _, Tryz.sizeOf79, rfl, X40, rec_over _ p⟩, ?_⟩; intro w41 X41 g41; have Y41 := tr_st g41 Y40 (by omega))
      | ((with_reducible refine wpList_stB 82 _ _ ?_); refine ⟨_, _, _, ⟨_, _, _, Tryz.sizeOf82, rfl, Y41, ff_over _ f⟩, ?_⟩; intro w42 Y42 g42))
  refine HK.out _ _ ?_
  clear HK
  have X42 := tr_st g42 X41 (by omega)
  have hbb := hb6.trans (((blw w4 (Obj.cells #[.int .u8 0, .int .i64 0, .int .i64 0, .int .i64 0, .int .i64 0] 79)).trans ((blw (w4.alloc (Obj.cells #[.int .u8 0, .int .i64 0, .int .i64 0, .int .i64 0, .int .i64 0] 79)) (Obj.cells #[.int .u8 0, .int .i64 0, .int .i64 0, .int .i64 0, .int .u8 0, .int .i64 0, .int .i64 0, .int .u8 0, .string ⟨#[]⟩, .string ⟨#[]⟩, .string ⟨#[]⟩, .int .u8 0, .int .i64 0, .int .i64 0, .int .i64 0, .int .u8 0, .int .i64 0, .int .i64 0, .int .u8 0, .string ⟨#[]⟩, .string ⟨#[]⟩, .string ⟨#[]⟩] 82)).mono (blw w4 (Obj.cells #[.int .u8 0, .int .i64 0, .int .i64 0, .int .i64 0, .int .i64 0] 79)).size)).mono hb6.size)
  have hsz4 := hb6.size
  have hk42 : Below w2.heap.size w2 w42 := bls (bls hbb (Nat.le_refl _) g41 hsz4) (Nat.le_refl _) g42 (by omega)
  have L42 := L2.below hk42
  have D42 := D2.below hk42
  have B42 := tr_bl hk42 B2
  have O42 := O2.below hk42
  have hx42 := hx2.trans (hk42.mono hx2.size)
  clear hre L2 D2 B2 O2 hx2 hb6 hbb hsz4 hk42 X40 Y40 X41 Y41 g41 g42
  generalize w4.heap.size = cb at *
  refine wp_seq_k (fun K hK => ?_)
  have HK := Lib.hid hK
  clear hK
  go_wp2_with (first
      | ((with_reducible refine wpList_ldB 79 _ ?_); refine ⟨rfl, _, ⟨_, _, _, _, _, Tryz.isAgg79, Tryz.sizeOf79, rfl, ‹_›, arr_all rfl⟩, ?_⟩)
      | ((with_reducible refine wpList_ldB 82 _ ?_); refine ⟨rfl, _, ⟨_, _, _, _, _, Tryz.isAgg82, Tryz.sizeOf82, rfl, ‹_›, arr_all rfl⟩, ?_⟩)
      | (go_at_call 32; refine (hnx _).mono ?_; rintro en w5 ⟨rfl, hb7⟩))
  refine HK.out _ _ ?_
  clear HK
  have L5 := L42.below hb7
  have D5 := D42.below hb7
  have B5 := tr_bl hb7 B42
  have S5 := (O42.below hb7).slb
  have hx5 := hx42.trans (hb7.mono hx42.size)
  have hB5 := Nat.le_trans hb hx5.size
  have k5 := Kt.of hx5 hb
  clear L42 D42 B42 O42 hx42 hb7 X42 Y42 hnx hx5
  refine wp_seq_k (fun K hK => ?_)
  have HK := Lib.hid hK
  clear hK
  refine wp_seq_k (fun K hK => ?_)
  have HK := Lib.hid hK
  clear hK
  go_wp2_with (first
      | (go_at_call 34; refine (hpl _).mono ?_; rintro en w6 ⟨rfl, rfl⟩)
      | (go_at_call 33; refine (hW4 _ L5 D5 hB5 a2 c2 S5).mono ?_; rintro en w7 ⟨rfl, ⟨wv7, D7⟩, k7⟩))
  refine HK.out _ _ ?_
  clear HK
  have B7 := k7.ty _ _ _ B5 (by decide) (by decide) (by decide)
  have L7 := L5.kt k7
  have hB7 := Nat.le_trans hB5 k7.bl.size
  have k8 := k5.trans k7
  clear L5 D5 B5 S5 k5 k7 hW4 hB5
  by_cases h4 : r4.2 = 0
  case neg =>
    obtain rfl : r4 = r := by rw [← HR.out, if_pos h4]
    have e4 : (r4.2 != 0) = true := by rw [bne_iff_ne]; exact h4
    clear HR h4
    go_wp2
    go_ret
    exact ⟨rfl, ⟨_, D7⟩, k8⟩
  case pos =>
    obtain rfl : r3 = r := by rw [← HR.out, if_neg (by simp [h4])]
    rw [h4]
    clear HR h4
    go_wp2
    refine HK.out _ _ ?_
    clear HK
    refine wp_seq_k (fun K hK => ?_)
    have HK := Lib.hid hK
    clear hK
    go_wp2_with (first
          | ((with_reducible refine wpList_ldB 32 _ ?_); refine ⟨rfl, _, ⟨_, _, _, _, _, Tryz.isAgg32, Tryz.sizeOf32, rfl, ‹_›, arr_all rfl⟩, ?_⟩)
          | (go_at_call 35; refine (hsp _).mono ?_; rintro en w9 ⟨⟨a9, c9, rfl, O9⟩, hb9⟩))
    refine HK.out _ _ ?_
    clear HK
    have hW3' := hW3 w9 wv7 (L7.below hb9) (D7.below hb9) (Nat.le_trans hB7 hb9.size) a9 c9 O9.slb
    have k9 := k8.trans (Kt.of hb9 hB7)
    clear L7 D7 B7 k8 hW3 O9 hb9 hB7 hsp
    go_wp2_with (first
      | (go_at_call 34; refine (hpl _).mono ?_; rintro en w6 ⟨rfl, rfl⟩)
      | (go_at_call 33; refine hW3'.mono ?_; rintro en w10 ⟨rfl, ⟨wv10, D10⟩, k10⟩))
    go_ret
    exact ⟨rfl, ⟨_, D10⟩, k9.trans k10⟩
end
end Go.Proofs.YtknchbhobopkeaaGreatDoor
namespace Go.Proofs.YtknchbhobopkeaaGreatDoor
open Go.RowKit
theorem ne_tyA {w : World} {g j : Nat} {cs cs' : Array Value} {T T' : TypeId} (h : w.heap[g]? = some (.cells cs T (0, 0))) (h2 : w.heap[j]? = some (.cells cs' T' (0, 0))) (hn : T' ≠ T) : g ≠ j := by
  rintro rfl
  rw [h] at h2
  injection h2 with h2
  injection h2 with h3 h4
  exact hn h4.symm
theorem DiskB.otA {B g gp mb : Nat} {wv : Value} {d : Dk} {w w1 : World} {cs : Array Value} {T : TypeId} (h : DiskB B g gp wv d w) (hg : w.grownBy w1 (some mb)) (hc : w.heap[mb]? = some (.cells cs T (0, 0))) (h1 : 71 ≠ T) (h2 : 134 ≠ T) (h3 : 132 ≠ T) : DiskB B g gp wv d w1 :=
  ⟨tr_st hg h.box (ne_tyA hc h.box h1), tr_st hg h.pls (ne_tyA hc h.pls h2), owns_ne h.wts hg hc h3, h.gb, h.pb, h.n0, h.nl, h.lo, h.hi, h.ok, h.wk⟩
theorem rt_new (r : Rpt) : (Value.agg (rptA r)).cells = rptA r ∧ (rptA r).size = 11 ∧ ∀ u ∈ (rptA r).toList, u.oneCell' = true := ⟨rfl, rfl, by simp [rptA, rpA, Value.oneCell']⟩
theorem build_rp (i : Int) (st : Int) (b : Bal) (e : En) (w : World) : (Instr.build 44 #[(0, .int .i64 i), (1, .int .u8 st), (2, .agg (blA b)), (3, .agg (enA e))]).run Tryz.prog w = .ok (.agg (rptA ⟨i, st, b, e⟩)) w := by kernel_rfl
theorem build_rp2 (i : Int) (st : Int) (w : World) : (Instr.build 44 #[(0, .int .i64 i), (1, .int .u8 st)]).run Tryz.prog w = .ok (.agg (rptA ⟨i, st, zeroL, zeroE 0⟩)) w := by kernel_rfl
theorem run_gqR (x y : Operand) (u v : Array Value) (w : World) : (eqGuard .eql 44 x y (.agg u) (.agg v)).run Tryz.prog w = .ok () w := by
  have h : Tryz.prog.eqGuardType Tryz.prog.depth 44 = false := by kernel_rfl
  unfold eqGuard
  go_simp
set_option maxRecDepth 100000 in
set_option maxHeartbeats 2000000 in
theorem lawake_any (w : World) : Calls Tryz.prog 6 #[] w fun e w' => e = .returned (.bool true) ∧ Below w.heap.size w w' := by
  obtain ⟨d1, ep, el, eg1, eg25, ec, egp, eg8, hL1⟩ := ex_wal
  have hu1 := live_up hL1
  have HEP := Lib.hid ep
  have HEL := Lib.hid el
  have HEG1 := Lib.hid eg1
  have HEG25 := Lib.hid eg25
  have HEC := Lib.hid ec
  have HEGP := Lib.hid egp
  have HEG8 := Lib.hid eg8
  have HL1 := Lib.hid hL1
  clear ep el eg1 eg25 ec egp eg8 hL1 hu1
  have hsA : LgOk sA := ⟨by decide, by decide, by decide⟩
  have hsA8 : LgOk sA8 := ⟨by decide, by decide, by decide⟩
  have HSA := Lib.hid hsA
  have HSA8 := Lib.hid hsA8
  clear hsA hsA8
  have hnw := new_any (B := w.heap.size) (w := w) 156 (by decide) (by decide) (Nat.le_refl _)
  go_enter Tryz.func6, Tryz.ntmps6
  refine wp_seq_k (fun K hK => ?_)
  have HK := Lib.hid hK
  clear hK
  go_wp2
  refine HK.out _ _ ?_
  clear HK
  refine wp_seq_k (fun K hK => ?_)
  have HK := Lib.hid hK
  clear hK
  go_wp2_with (go_at_call 7; refine hnw.mono ?_; rintro e w1 ⟨⟨g, gp, rfl, D1⟩, hb1⟩)
  refine HK.out _ _ ?_
  clear HK
  refine wp_seq_k (fun K hK => ?_)
  have HK := Lib.hid hK
  clear hK
  go_wp2
  refine HK.out _ _ ?_
  clear HK
  have hop := lopen_ok D1 3 1 0 (by show 156 ≤ (List.replicate 156 zeroPl).length; rw [List.length_replicate]; decide) ⟨by decide, by decide, by decide⟩ (live_up new_live156)
  refine wp_seq_k (fun K hK => ?_)
  have HK := Lib.hid hK
  clear hK
  go_wp2_with (go_at_call 8; refine hop.mono ?_; rintro e w2 ⟨⟨q, rfl, hq, L2⟩, hb2⟩)
  refine HK.out _ _ ?_
  clear HK
  have L2 : LgB w2 q g sA := L2
  have D2 := D1.below hb2
  have k2 := (Kt.of hb1 (Nat.le_refl _)).trans (Kt.of hb2 hb1.size)
  have hBq : w.heap.size ≤ q := Nat.le_trans hb1.size hq
  clear hnw hop D1 hb1 hb2 hq
  have hpu := fun w' (hb : Below w2.heap.size w2 w') => lput_ok (L2.below hb) (D2.below hb) (Nat.le_trans k2.bl.size hb.size) HSA.out 1 (b := ⟨1, 0⟩) (e := zeroE 1) HEL.out (by decide) may_nop (by show ([] : List (List UInt8 × Nat)).length ≤ 900; simp)
  rw [HEP.out] at hpu
  refine wp_seq_k (fun K hK => ?_)
  have HK := Lib.hid hK
  clear hK
  go_wp2_with (first
      | (go_at_call 10; refine (lnoop_any _).mono ?_; rintro e w3 ⟨rfl, hb3⟩)
      | (go_at_call 9; refine (hpu _ hb3).mono ?_; rintro e w4 ⟨rfl, ⟨wv4, D4⟩, k4⟩))
  refine HK.out _ _ ?_
  clear HK
  have L4 := (L2.below hb3).kt k4
  have kq4 := (k2.trans (Kt.of hb3 k2.bl.size)).trans k4
  clear hpu D2 L2 k2 hb3 k4
  have hg1 := fun w' (hb : Below w4.heap.size w4 w') => lget_any2 (L4.below hb) (D4.below hb) HSA.out 1
  rw [HEG1.out] at hg1
  refine wp_seq_k (fun K hK => ?_)
  have HK := Lib.hid hK
  clear hK
  go_wp2_with (first
      | (go_at_call 15; refine (hg1 _ (Below.refl _ _)).mono ?_; rintro e w5 ⟨rfl, hb5⟩)
      | ((first | (with_reducible refine wpList_stNew 44 _ _ ?_) | (with_reducible refine wp_stNew 44 _ _ ?_)); refine ⟨_, _, ⟨Tryz.sizeOf44, rfl, rt_new _⟩, rfl, ?_⟩))
  refine HK.out _ _ ?_
  clear HK
  have Q6 := heap_alloc_new w5 (Obj.cells (rptA ⟨1, 2, ⟨1, 0⟩, zeroE 1⟩) 44)
  have hb6 := hb5.trans ((blw w5 (Obj.cells (rptA ⟨1, 2, ⟨1, 0⟩, zeroE 1⟩) 44)).mono hb5.size)
  have hg2 := fun w' (hb : Below w4.heap.size w4 w') => lget_any2 (L4.below hb) (D4.below hb) HSA.out 25
  rw [HEG25.out] at hg2
  clear hg1 hb5
  generalize w5.alloc (Obj.cells (rptA ⟨1, 2, ⟨1, 0⟩, zeroE 1⟩) 44) = w6 at *
  generalize w5.heap.size = q6 at *
  refine wp_seq_k (fun K hK => ?_)
  have HK := Lib.hid hK
  clear hK
  go_wp2_with (first
      | (go_at_call 15; refine (hg2 _ hb6).mono ?_; rintro e w7 ⟨rfl, hb7⟩)
      | ((first | (with_reducible refine wpList_stNew 44 _ _ ?_) | (with_reducible refine wp_stNew 44 _ _ ?_)); refine ⟨_, _, ⟨Tryz.sizeOf44, rfl, rt_new _⟩, rfl, ?_⟩))
  refine HK.out _ _ ?_
  clear HK
  have Q8 := tr_al (Obj.cells (rptA zeroR') 44) (tr_bl hb7 Q6)
  have hb8 := (hb6.trans (hb7.mono hb6.size)).trans ((blw w7 (Obj.cells (rptA zeroR') 44)).mono (Nat.le_trans hb6.size hb7.size))
  have L8 := L4.below hb8
  have D8 := D4.below hb8
  have k8 := kq4.trans (Kt.of hb8 kq4.bl.size)
  clear hg2 hb6 hb7 Q6 hb8 L4 D4 kq4
  generalize w7.alloc (Obj.cells (rptA zeroR') 44) = w8 at *
  generalize w7.heap.size = q8 at *
  have hcu := lcut_any2 L8 8
  rw [HEC.out] at hcu
  refine wp_seq_k (fun K hK => ?_)
  have HK := Lib.hid hK
  clear hK
  go_wp2_with (go_at_call 11; refine hcu.mono ?_; rintro e w9 ⟨rfl, L9, g9⟩)
  refine HK.out _ _ ?_
  clear HK
  have D9 := D8.otA g9 L8 (by decide) (by decide) (by decide)
  have Q9 := tr_st g9 Q8 (ne_tyA L8 Q8 (by decide))
  have k9 := bl_st k8.bl g9 k8.bl.size hBq
  have L9 : LgB w9 q g sA8 := L9
  clear hcu L8 D8 Q8 k8 g9
  have hg3 := fun w' (hb : Below w9.heap.size w9 w') => lget_any2 (L9.below hb) (D9.below hb) HSA8.out 25
  rw [HEGP.out] at hg3
  refine wp_seq_k (fun K hK => ?_)
  have HK := Lib.hid hK
  clear hK
  go_wp2_with (first
      | (go_at_call 15; refine (hg3 _ (Below.refl _ _)).mono ?_; rintro e w10 ⟨rfl, hb10⟩)
      | ((first | (with_reducible refine wpList_stNew 44 _ _ ?_) | (with_reducible refine wp_stNew 44 _ _ ?_)); refine ⟨_, _, ⟨Tryz.sizeOf44, rfl, rt_new _⟩, rfl, ?_⟩))
  refine HK.out _ _ ?_
  clear HK
  have Q11 := tr_al (Obj.cells (rptA ⟨25, 1, zeroL, zeroE 0⟩) 44) (tr_bl hb10 Q9)
  have X11 := heap_alloc_new w10 (Obj.cells (rptA ⟨25, 1, zeroL, zeroE 0⟩) 44)
  have hb11 := hb10.trans ((blw w10 (Obj.cells (rptA ⟨25, 1, zeroL, zeroE 0⟩) 44)).mono hb10.size)
  have L11 := L9.below hb11
  have D11 := D9.below hb11
  have k11 := k9.trans (hb11.mono k9.size)
  clear hg3 L9 D9 Q9 k9 hb11 hb10
  generalize w10.alloc (Obj.cells (rptA ⟨25, 1, zeroL, zeroE 0⟩) 44) = w11 at *
  generalize w10.heap.size = q11 at *
  have hg4 := lget_any2 L11 D11 HSA8.out 8
  rw [HEG8.out] at hg4
  refine wp_seq_k (fun K hK => ?_)
  have HK := Lib.hid hK
  clear hK
  go_wp2_with (first
      | (go_at_call 15; refine hg4.mono ?_; rintro e w12 ⟨rfl, hb12⟩)
      | ((first | (with_reducible refine wpList_stNew 44 _ _ ?_) | (with_reducible refine wp_stNew 44 _ _ ?_)); refine ⟨_, _, ⟨Tryz.sizeOf44, rfl, rt_new _⟩, rfl, ?_⟩))
  refine HK.out _ _ ?_
  clear HK
  have Q13 := tr_al (Obj.cells (rptA zeroR') 44) (tr_bl hb12 Q11)
  have X13 := tr_al (Obj.cells (rptA zeroR') 44) (tr_bl hb12 X11)
  have hb13 := hb12.trans ((blw w12 (Obj.cells (rptA zeroR') 44)).mono hb12.size)
  have k13 := k11.trans (hb13.mono k11.size)
  clear hg4 L11 D11 Q11 X11 k11 hb13 hb12
  generalize w12.alloc (Obj.cells (rptA zeroR') 44) = w13 at *
  generalize w12.heap.size = q13 at *
  go_wp2_with fail
  refine wp_region_under (by kernel_rfl) (by kernel_rfl) ?_
  refine wpQuiet_val (by rfl) (.agg (rptA ⟨1, 2, ⟨1, 0⟩, zeroE 1⟩)) (fun wS hSw => ?_) ?_
  · obtain ⟨x, rfl⟩ := hSw; exact exec_ldB 44 _ ⟨_, _, _, _, _, Tryz.isAgg44, Tryz.sizeOf44, rfl, tr_bl (under_below _ x) Q13, arr_all rfl⟩
  (try simp only [Act.put]); (try simp only [List.setIfInBounds_toArray]); (try simp only [List.set_cons_succ]); (try simp only [List.set_cons_zero])
  go_big_quiet_step (fail)
  go_big_quiet_step ((go_at_call 10; exact under_call (lnoop_any _)))
  refine wpQuiet_val (by rfl) (.agg (rptA ⟨1, 2, ⟨1, 0⟩, zeroE 1⟩)) (fun wS hSw => ?_) ?_
  · have hb : (Instr.build 44 #[(0, .int .i64 1), (1, .int .u8 2), (2, .agg #[.int .i64 1, .int .i64 0]), (3, .agg (enA (zeroE 1)))]).run Tryz.prog wS = .ok (.agg (rptA ⟨1, 2, ⟨1, 0⟩, zeroE 1⟩)) wS := (by kernel_rfl); unfold execOp; simp [Act.eval, hb]
  (try simp only [Act.put]); (try simp only [List.setIfInBounds_toArray]); (try simp only [List.set_cons_succ]); (try simp only [List.set_cons_zero])
  refine wpQuiet_val (by rfl) (.bool true) (fun wS hSw => ?_) ?_
  · have hq := run_gqR (.tmp 60) (.tmp 63) (rptA ⟨1, 2, ⟨1, 0⟩, zeroE 1⟩) (rptA ⟨1, 2, ⟨1, 0⟩, zeroE 1⟩) wS; have he := eqRp ⟨1, 2, ⟨1, 0⟩, zeroE 1⟩ wS; unfold execOp; simp [Act.eval, hq, he]
  (try simp only [Act.put]); (try simp only [List.setIfInBounds_toArray]); (try simp only [List.set_cons_succ]); (try simp only [List.set_cons_zero])
  repeat (go_big_quiet_step (fail))
  refine wpQuiet_val (by rfl) (.agg (rptA ⟨25, 1, zeroL, zeroE 0⟩)) (fun wS hSw => ?_) ?_
  · obtain ⟨x, rfl⟩ := hSw; exact exec_ldB 44 _ ⟨_, _, _, _, _, Tryz.isAgg44, Tryz.sizeOf44, rfl, tr_bl (under_below _ x) X13, arr_all rfl⟩
  (try simp only [Act.put]); (try simp only [List.setIfInBounds_toArray]); (try simp only [List.set_cons_succ]); (try simp only [List.set_cons_zero])
  refine wpQuiet_val (by rfl) (.agg (rptA ⟨25, 1, zeroL, zeroE 0⟩)) (fun wS hSw => ?_) ?_
  · have hb := build_rp2 25 1 wS; unfold execOp; simp [Act.eval, hb]
  (try simp only [Act.put]); (try simp only [List.setIfInBounds_toArray]); (try simp only [List.set_cons_succ]); (try simp only [List.set_cons_zero])
  refine wpQuiet_val (by rfl) (.bool true) (fun wS hSw => ?_) ?_
  · have hq := run_gqR (.tmp 78) (.tmp 79) (rptA ⟨25, 1, zeroL, zeroE 0⟩) (rptA ⟨25, 1, zeroL, zeroE 0⟩) wS; have he := eqRp ⟨25, 1, zeroL, zeroE 0⟩ wS; unfold execOp; simp [Act.eval, hq, he]
  (try simp only [Act.put]); (try simp only [List.setIfInBounds_toArray]); (try simp only [List.set_cons_succ]); (try simp only [List.set_cons_zero])
  repeat (go_big_quiet_step (fail))
  refine wpQuiet_nil ?_
  intro _ hw'
  obtain ⟨xU, hw''⟩ := hw'
  subst hw''
  have hbU := under_below w13 xU
  go_wp2
  go_ret
  exact ⟨rfl, k13.trans (hbU.mono k13.size)⟩
end Go.Proofs.YtknchbhobopkeaaGreatDoor
namespace Go.Proofs.YtknchbhobopkeaaGreatDoor
section
variable {d : Dk} {s : Lg} {i : Int} {b : Bal} {e : En}
theorem spend_dn (d : Dk) : (spendD d).1.down = d.down := by unfold spendD; split; rfl; split <;> rfl
theorem write_dn (d : Dk) (s : Int) (b : List UInt8) : (writeD d s b).1.down = d.down := by
  unfold writeD
  split
  · rfl
  · split
    · rfl
    · split
      · exact spend_dn d
      · exact spend_dn d
theorem flush_dn (d : Dk) : (flushD d).1.down = d.down := by
  unfold flushD
  split
  · rfl
  · split
    · exact spend_dn d
    · exact spend_dn d
theorem ws_dn (d : Dk) (f : Int) (fr : List UInt8) : ∀ k, (wsD d f fr k).1.down = d.down
  | 0 => rfl
  | k + 1 => by
    unfold wsD
    split
    · exact ws_dn d f fr k
    · rw [write_dn]; exact ws_dn d f fr k
theorem lput_dn (d : Dk) (f : Int) (fr : List UInt8) (n : Nat) : (lputD d f fr n).1.down = d.down := by
  unfold lputD
  split
  · exact ws_dn d f fr n
  · rw [flush_dn]; exact ws_dn d f fr n
theorem put_dn (d : Dk) (s : Lg) (i : Int) (b : Bal) (e : En) : (putW d s i b e).1.down = d.down := by
  unfold putW
  split
  · exact lput_dn _ _ _ _
  · unfold putL2
    rw [lput_dn]
    exact lput_dn _ _ _ _
theorem put_lives (h : Live d) (hl : d.left < 0) (hem : mayE e = true) : ∃ d', putW d s i b e = (d', 0) ∧ Live d' ∧ d'.left < 0 := by
  obtain ⟨p, hp, _⟩ := pl_nat i
  exact ⟨_, put_full h hl hp hem rfl, after_live h _ _ _ _ _, hl⟩
theorem put_apart (h : Live d) (x : Int) : Live (anew (putW { d with left := x } s i b e).1 []) ∧ ∀ j : Int, plW j ≠ plW i → repW (anew (putW { d with left := x } s i b e).1 []) s j = repW d s j := by
  obtain ⟨p, hp, hp2⟩ := pl_nat i
  have o0 : OutP (secW p) d.pl { d with left := x } := ⟨rfl, fun _ _ => rfl, by intro y hy; simp only at hy; rw [h.w] at hy; cases hy⟩
  have o := OutP.put (s := s) (b := b) (e := e) o0 hp
  generalize (putW { d with left := x } s i b e).1 = d2 at *
  obtain ⟨t1, t2⟩ := thru_out d2.waits d2.pl 0 (keepB []) o.wt o.len o.same
  have hl := anew_live (d := d2) [] (o.len.trans h.len)
  refine ⟨hl, fun j hj => ?_⟩
  obtain ⟨q, hq, hq2⟩ := pl_nat j
  refine rep_same hq fun y hy => ?_
  have hne : q ≠ p := fun e => hj (by rw [hq, hp, e])
  have hy2 : ¬ secW p y := by unfold secW at hy ⊢; omega
  have hy3 : y < 156 := by unfold secW at hy; omega
  rw [rd_live hl hy3, rd_live h hy3]
  unfold rdP
  rw [show (anew d2 []).pl[y]? = d.pl[y]? from t2 y hy2]
theorem told_at {d : Dk} {s : Lg} {k : Nat} (ht : toldC (slotW d s k) = true) : ∀ m, k < m → (toldL (slotsL d s m))[(toldL (slotsL d s k)).length]? = some (slotW d s k).2
  | 0, h => absurd h (by omega)
  | m + 1, h => by
    rw [slotsL_succ, toldL_snoc]
    by_cases hm : k = m
    · subst hm
      rw [if_pos ht, List.getElem?_append_right (Nat.le_refl _), Nat.sub_self]
      rfl
    · have ih := told_at ht m (by omega)
      rw [List.getElem?_append_left (List.getElem?_eq_some_iff.1 ih).1]
      exact ih
end
end Go.Proofs.YtknchbhobopkeaaGreatDoor
namespace Go.Proofs.YtknchbhobopkeaaGreatDoor
open Go.RowKit
def wasA (l : List Rpt) : Array Value := (l.flatMap rptC).toArray
theorem was_size (l : List Rpt) : (wasA l).size = 11 * l.length := by unfold wasA; rw [List.size_toArray, flat_len rptC_len]
theorem was_split {l : List Rpt} {k : Nat} (hk : k < l.length) : l.flatMap rptC = (l.take k).flatMap rptC ++ (rptC l[k] ++ (l.drop (k + 1)).flatMap rptC) := by
  rw [← List.flatMap_cons (f := rptC), ← List.flatMap_append, List.getElem_cons_drop, List.take_append_drop]
theorem was_pre {l : List Rpt} {k : Nat} (hk : k < l.length) : ((l.take k).flatMap rptC).length = k * 11 := by
  rw [flat_len rptC_len, List.length_take, Nat.min_eq_left (by omega), Nat.mul_comm]
theorem was_over {l : List Rpt} {k : Nat} (hk : k < l.length) (r : Rpt) : k * 11 + 11 ≤ (wasA l).size ∧ (Value.agg (rptA r)).cells.size = 11 ∧ (∀ u ∈ (Value.agg (rptA r)).cells.toList, u.oneCell' = true) ∧ ((wasA l).toList.take (k * 11) ++ (Value.agg (rptA r)).cells.toList ++ (wasA l).toList.drop (k * 11 + 11)).toArray = wasA (l.set k r) := by
  refine ⟨by rw [was_size]; omega, rfl, by simp [Value.cells, rptA, rpA, Value.oneCell'], ?_⟩
  have hp := was_pre hk
  have e : (l.set k r).flatMap rptC = (l.take k).flatMap rptC ++ (rptC r ++ (l.drop (k + 1)).flatMap rptC) := by
    rw [List.set_eq_take_append_cons_drop, if_pos hk, List.flatMap_append, List.flatMap_cons]
  unfold wasA
  rw [e]
  congr 1
  show ((l.flatMap rptC).take (k * 11) ++ rptC r ++ (l.flatMap rptC).drop (k * 11 + 11)) = _
  rw [was_split hk, List.take_append_of_le_length (by omega), List.take_of_length_le (by omega), List.drop_append, List.drop_of_length_le (by omega), List.nil_append, hp, show k * 11 + 11 - k * 11 = 11 by omega, List.drop_append_of_le_length (by rw [rptC_len]; omega), List.drop_of_length_le (by rw [rptC_len]; omega), List.nil_append, List.append_assoc]
theorem was_at {l : List Rpt} {k : Nat} (hk : k < l.length) : k * 11 + 11 ≤ (wasA l).size ∧ (wasA l).extract (k * 11) (k * 11 + 11) = rptA l[k] := by
  refine ⟨by rw [was_size]; omega, ?_⟩
  have hp := was_pre hk
  apply Array.ext'
  unfold wasA
  rw [Array.toList_extract, List.extract_eq_take_drop, was_split hk, List.drop_append, List.drop_of_length_le (by omega), List.nil_append, hp, Nat.sub_self, List.drop_zero, show k * 11 + 11 - k * 11 = 11 by omega, List.take_append_of_le_length (by rw [rptC_len]; omega), List.take_of_length_le (by rw [rptC_len]; omega)]
  rfl
theorem was_zero : Tryz.zeroCells50 = wasA (List.replicate 25 zeroR') := by kernel_rfl
theorem power_live0 {d : Dk} (h : Live d) {x : Int} (hx : 0 ≤ x) : powerD d x = ({ d with left := x }, 0) := by
  have h0 : live0 d = 0 := by
    unfold live0 there0
    rw [h.len, h.dn, h.de]
    simp
  unfold powerD
  rw [if_neg (by simp [h0]), if_neg (by omega)]
theorem getW_live {d : Dk} {s : Lg} {i : Int} (h : Live d) (h1 : s.snap < i) (h2 : i ≤ s.snap + 24) : getW d s i = (rptW d s i, 0) ∧ classW d s i = ((repW d s i).1, 0) ∧ liveW d s i = 0 := by
  have hl : liveW d s i = 0 := by
    unfold liveW
    rw [if_neg (by omega), if_neg (by simp [live_up h])]
  unfold getW classW
  rw [hl]
  exact ⟨rfl, rfl, rfl⟩
theorem end_apart {d : Dk} {s : Lg} {i : Int} {b : Bal} {e : En} {x : Int} (h : Live d) (d2 : Dk) (hd2 : (putW { d with left := x } s i b e).1 = d2) : (crashD d2 []).2 = 0 ∧ startD (crashD d2 []).1 = (anew d2 [], 0) ∧ Live (anew d2 []) ∧ ∀ j : Int, plW j ≠ plW i → rptW (anew d2 []) s j = rptW d s j := by
  obtain ⟨p, hp, hp2⟩ := pl_nat i
  have o0 : OutP (secW p) d.pl { d with left := x } := ⟨rfl, fun _ _ => rfl, by intro y hy; simp only at hy; rw [h.w] at hy; cases hy⟩
  have o := OutP.put (s := s) (b := b) (e := e) o0 hp
  have hdn := put_dn { d with left := x } s i b e
  have ha := put_apart (s := s) (i := i) (b := b) (e := e) h x
  rw [hd2] at o hdn ha
  obtain ⟨c1, c2⟩ := crash_start (d := d2) [] (o.len.trans h.len) (hdn.trans h.dn)
  refine ⟨c1, c2, ha.1, fun j hj => ?_⟩
  unfold rptW
  rw [ha.2 j hj]
theorem pl_ne {j i : Int} (h1 : 1 ≤ j) (h2 : j ≤ 24) (h3 : 1 ≤ i) (h4 : i ≤ 24) (h : j ≠ i) : plW j ≠ plW i := by unfold plW; omega
theorem slot_at (d : Dk) (q1 q2 : Int) (t : Nat) : slotW d ⟨q1, q2, 0⟩ t = ((repW d ⟨q1, q2, 0⟩ (t + 1 : Nat)).1, rptW d ⟨q1, q2, 0⟩ (t + 1 : Nat)) := by
  unfold slotW
  simp only
  rw [show (0 : Int) + 1 + t = ((t + 1 : Nat) : Int) by omega]
def cntT (d : Dk) (s : Lg) (t : Nat) : Nat := (toldL (slotsL d s t)).length
theorem cnt_le (d : Dk) (s : Lg) (t : Nat) : cntT d s t ≤ t := by
  unfold cntT
  have := toldL_len (slotsL d s t)
  unfold slotsL at this ⊢
  rw [List.length_map, List.length_range] at this
  exact this
theorem cnt_yes {d : Dk} {s : Lg} {t : Nat} (h : toldC (slotW d s t) = true) : cntT d s (t + 1) = cntT d s t + 1 := by
  unfold cntT
  rw [slotsL_succ, toldL_snoc, if_pos h, List.length_append, List.length_singleton]
theorem cnt_no {d : Dk} {s : Lg} {t : Nat} (h : toldC (slotW d s t) = false) : cntT d s (t + 1) = cntT d s t := by
  unfold cntT
  rw [slotsL_succ, toldL_snoc, if_neg (by rw [h]; simp), List.append_nil]
end Go.Proofs.YtknchbhobopkeaaGreatDoor
namespace Go.Proofs.YtknchbhobopkeaaGreatDoor
open Go.RowKit
theorem pt_one1 {p : PutL} : ∀ u ∈ ptC p, u.oneCell' = true := by
  intro u hu
  simp [ptC, ptA] at hu
  rcases hu with rfl | rfl | rfl | rfl | rfl | rfl | rfl | rfl | rfl | rfl <;> rfl
theorem wrap24 (n : Nat) : IntKind.i64.wrap (1 + IntKind.i64.wrap (((n : Nat) : Int).tmod 24)) = 1 + (n : Int) % 24 := by
  have e : IntKind.i64.wrap (((n : Nat) : Int).tmod 24) = (n : Int) % 24 := by rw [Int.tmod_eq_emod_of_nonneg (by omega)]; exact IntWalk.i64_in _ (by omega)
  rw [e]
  exact IntWalk.i64_in _ (by omega)
theorem row_pt {w : World} {g : Nat} {p : PutL} (h : w.heap[g]? = some (.cells (ptA p) 48 (0, 0))) : Row w (some ⟨g, 0, none⟩) (ptC p) := Row.of_block (cs := ptC p) h 0 (fun i u hu => by rw [Nat.zero_add]; exact hu)
def sP : Lg := ⟨2, 7, 0⟩
theorem pt_ldb {p : PutL} : 1 + 2 ≤ (ptA p).size ∧ (ptA p).extract 1 (1 + 2) = blA p.bal := ⟨by show 3 ≤ 10; decide, rfl⟩
theorem pt_lde {p : PutL} : 3 + 7 ≤ (ptA p).size ∧ (ptA p).extract 3 (3 + 7) = enA p.e := ⟨by show 10 ≤ 10; decide, rfl⟩
def ApR (l : List PutL) (v : Value) : Prop := ∃ r, v = .bool (!r) ∧ FitR l r
set_option maxRecDepth 100000 in
set_option maxHeartbeats 4000000 in
theorem apart_law (a : Option Addr) (cap : Nat) (l : List PutL) (pw : UInt8) (p : PutL) (w : World) (hR : Row w a (l.flatMap ptC)) (hl : l.length ≤ 1400000000000) (hby : (l.length + 1) * 104 ≤ 140737488355328) (hok : ∀ y ∈ l, okP y) (hokp : okP p) :
    Calls Tryz.prog 4 #[.slice a l.length cap, .int .u8 (pw.toNat : Int), .agg (ptA p)] w fun e w' => e = .returned (.bool true) ∧ Below w.heap.size w w' := by
  have HOK := Lib.hid (And.intro hok hokp)
  clear hok hokp
  have hll : (l.flatMap ptC).length = l.length * 10 := (flat_len ptC_len l).trans (Nat.mul_comm _ _)
  have hlen : 0 + l.length + 1 = (l ++ [p]).length := by simp
  have hfl : [] ++ l.flatMap ptC ++ ptC p = (l ++ [p]).flatMap ptC := by simp
  have hq2 : (0 + l.length + 1) * 104 ≤ 140737488355328 := by rw [Nat.zero_add]; exact hby
  have hq4 : (0 + l.length) * 104 ≤ 140737488355328 := by rw [Nat.zero_add]; exact Nat.le_trans (Nat.mul_le_mul_right _ (Nat.le_succ _)) hby
  have hq1 : 0 + l.length + 1 ≤ maxLen := by clear hq2 hq4 hby; unfold maxLen; omega
  have hq3 : 0 + l.length ≤ maxLen := Nat.le_trans (Nat.le_succ _) hq1
  have hq5 : (l ++ [p]).length ≤ maxLen := by rw [← hlen]; exact hq1
  obtain ⟨L, hL⟩ : ∃ L, l ++ [p] = L := ⟨_, rfl⟩
  rw [hL] at hlen hfl hq5
  have HL := Lib.hid hL
  clear hL
  have HQ := Lib.hid (And.intro hll (And.intro hlen (And.intro hfl (And.intro hq1 (And.intro hq2 (And.intro hq3 (And.intro hq4 hq5)))))))
  clear hll hlen hfl hq1 hq2 hq3 hq4 hq5 hl hby
  go_enter Tryz.func4, Tryz.ntmps4
  refine wp_seq_k (fun K hK => ?_)
  have HK := Lib.hid hK
  clear hK
  go_wp2
  refine HK.out _ _ ?_
  clear HK
  have B1 := heap_alloc_new w (Obj.cells (ptA p) 48)
  have hb1 := blw w (Obj.cells (ptA p) 48)
  generalize w.alloc (Obj.cells (ptA p) 48) = w1 at *
  refine wp_seq_k (fun K hK => ?_)
  have HK := Lib.hid hK
  clear hK
  go_wp2_with (go_at_call 6; refine (lawake_any _).mono ?_; rintro e w2 ⟨rfl, hb2⟩)
  refine HK.out _ _ ?_
  clear HK
  have B2 := tr_bl hb2 B1
  have hw2 : Below w.heap.size w w2 := hb1.trans (hb2.mono hb1.size)
  have htl : w.heap.size < w2.heap.size := lt_blk B2
  clear hb1 hb2 B1
  refine wp_seq_k (fun K hK => ?_)
  have HK := Lib.hid hK
  clear hK
  refine wp_seq_k (fun K hK => ?_)
  go_cut [31] (fun v wx => ApR L v ∧ wx.heap[w.heap.size]? = some (.cells (ptA p) 48 (0, 0)) ∧ Below w2.heap.size w2 wx)
  case first =>
    go_wp2_with fail
    have hb := (Below.refl w2.heap.size w2).drew
    have hs := tr_bl hb B2
    have hz := hb.size
    refine wp_region_held_drew (S := fun w' => w'.heap[w.heap.size]? = some (.cells (ptA p) 48 (0, 0))) (by kernel_rfl) hs (fun hS0 => ?_)
    clear hS0
    generalize w2.drew = x0 at *
    refine wpAnyH_take (i := 1) (oi := ⟨_, _, _, _, _, _⟩) (v := ?_) rfl (by kernel_rfl) (by kernel_rfl) (by kernel_rfl) (fun _ _ _ h => h) (Or.inl ⟨by rfl, ?_⟩) (by assumption) ?_
    rotate_left
    · intro wS hSw; go_simp; (try with_reducible rfl)
    (try simp only [Act.put]); (try simp only [List.setIfInBounds_toArray]); (try simp only [List.set_cons_succ]); (try simp only [List.set_cons_zero])
    refine wpAnyH_take (i := 3) (oi := ⟨_, _, _, _, _, _⟩) (v := .agg (ptA p)) rfl (by kernel_rfl) (by kernel_rfl) (by kernel_rfl) (fun _ _ _ h => h) (Or.inl ⟨by rfl, fun wS hSw => ?_⟩) (by assumption) ?_
    · exact exec_ldB 48 _ ⟨_, _, _, _, _, Tryz.isAgg48, Tryz.sizeOf48, rfl, hSw, arr_all rfl⟩
    (try simp only [Act.put]); (try simp only [List.setIfInBounds_toArray]); (try simp only [List.set_cons_succ]); (try simp only [List.set_cons_zero])
    refine wpAnyH_ready (rs := [0, 4]) (by kernel_rfl) (by simp) ?_
    refine AllReadyH.cons (o := ⟨_, _, _, _, _, _⟩) rfl (fun K' hK' => ?_) (AllReadyH.cons (o := ⟨_, _, _, _, _, _⟩) rfl (fun K' hK' => ?_) (AllReadyH.nil))
    · refine (if_pos (by rfl)).mpr ?_
      go_simp
      change K' _ (World.alloc _ (Obj.cells #[] 48))
      have O := owns_mono (owns_empty x0 48 10) hz
      have hb := hb.trans ((blw x0 (Obj.cells #[] 48)).mono hz)
      have hs := tr_al (Obj.cells #[] 48) hs
      have h0 : w2.heap.size ≤ x0.heap.size := hz
      have hz := Nat.le_trans hz (blw x0 (Obj.cells #[] 48)).size
      have hg0 : x0.heap.size < (x0.alloc (Obj.cells #[] 48)).heap.size := by rw [World.size_alloc]; omega
      refine hK'.out _ _ hs (fun _ => ?_)
      (try simp only [Act.put]); (try simp only [List.setIfInBounds_toArray]); (try simp only [List.set_cons_succ]); (try simp only [List.set_cons_zero])
      generalize x0.alloc (Obj.cells #[] 48) = x1 at *
      refine wpAnyH_ready (rs := [2, 4]) (by kernel_rfl) (by simp) ?_
      refine AllReadyH.cons (o := ⟨_, _, _, _, _, _⟩) rfl (fun K' hK' => ?_) (AllReadyH.cons (o := ⟨_, _, _, _, _, _⟩) rfl (fun K' hK' => ?_) (AllReadyH.nil))
      · refine (if_pos (by rfl)).mpr ?_
        refine wp_append_rowG _ _ 46 48 elPut rfl w2.heap.size _ 0 [] rfl O a l.length cap (l.flatMap ptC) rfl HQ.out.1 (hR.below0 (hw2.trans (hb.mono hw2.size))) pt_one HQ.out.2.2.2.2.2.1 HQ.out.2.2.2.2.2.2.1 hz ?_
        intro v2 x2 O2 hg2
        have hs := tr_gb hg2 hs (fun e => by have := Option.some.inj e; simp only at this; omega)
        have hb := hb.grown hg2 hz (fun k hk => (O.lt k hk).1)
        have hz := Nat.le_trans hz hg2.size
        have O := O2
        clear O2 hg2
        refine hK'.out _ _ hs (fun _ => ?_)
        (try simp only [Act.put]); (try simp only [List.setIfInBounds_toArray]); (try simp only [List.set_cons_succ]); (try simp only [List.set_cons_zero])
        refine wpAnyH_ready (rs := [4]) (by kernel_rfl) (by simp) ?_
        refine AllReadyH.cons (o := ⟨_, _, _, _, _, _⟩) rfl (fun K' hK' => ?_) (AllReadyH.nil)
        refine (if_pos (by rfl)).mpr ?_
        refine wp_run (w' := x2.alloc (Obj.cells (ptA p) 48)) (v := .slice (some ⟨x2.heap.size, 0, none⟩) 1 1) (by have hbp := build_pt p x2; unfold execOp; simp [Act.eval, hbp]) ?_
        have M := heap_alloc_new x2 (Obj.cells (ptA p) 48)
        have O := owns_bl O (blw x2 (Obj.cells (ptA p) 48))
        have hb := hb.trans ((blw x2 (Obj.cells (ptA p) 48)).mono hz)
        have hs := tr_al (Obj.cells (ptA p) 48) hs
        have hz := Nat.le_trans hz (blw x2 (Obj.cells (ptA p) 48)).size
        refine hK'.out _ _ hs (fun _ => ?_)
        (try simp only [Act.put]); (try simp only [List.setIfInBounds_toArray]); (try simp only [List.set_cons_succ]); (try simp only [List.set_cons_zero])
        generalize x2.alloc (Obj.cells (ptA p) 48) = x3 at *
        refine wpAnyH_ready (rs := [5]) (by kernel_rfl) (by simp) ?_
        refine AllReadyH.cons (o := ⟨_, _, _, _, _, _⟩) rfl (fun K' hK' => ?_) (AllReadyH.nil)
        refine (if_pos (by rfl)).mpr ?_
        refine wp_append_rowG _ _ 46 48 elPut rfl w2.heap.size _ _ _ rfl O (some ⟨x2.heap.size, 0, none⟩) 1 1 (ptC p) rfl (by rw [ptC_len]) (row_pt M) pt_one1 HQ.out.2.2.2.1 HQ.out.2.2.2.2.1 hz ?_
        intro v5 y5 O5 hg5
        have hs := tr_gb hg5 hs (fun e => by have := (O.lt _ e).1; omega)
        have hb := hb.grown hg5 hz (fun k hk => (O.lt k hk).1)
        have hz := Nat.le_trans hz hg5.size
        rw [HQ.out.2.1] at O5
        rw [HQ.out.2.2.1] at O5
        obtain ⟨a5, c5, rfl, hR5, hle5, hmx5⟩ := Row.of_owns O5
        refine hK'.out _ _ hs (fun _ => ?_)
        (try simp only [Act.put]); (try simp only [List.setIfInBounds_toArray]); (try simp only [List.set_cons_succ]); (try simp only [List.set_cons_zero])
        refine wpAnyH_ready (rs := [6]) (by kernel_rfl) (by simp) ?_
        refine AllReadyH.cons (o := ⟨_, _, _, _, _, _⟩) rfl (fun K' hK' => ?_) (AllReadyH.nil)
        refine (if_pos (by rfl)).mpr ?_
        go_simp
        refine (fits_any11 hR5 HQ.out.2.2.2.2.2.2.2).mono ?_
        rintro en y6 ⟨⟨r, rfl, hr⟩, hb6⟩
        have hs := tr_bl hb6 hs
        have hb := hb.trans (hb6.mono hz)
        refine hK'.out _ _ hs (fun _ => ?_)
        (try simp only [Act.put]); (try simp only [List.setIfInBounds_toArray]); (try simp only [List.set_cons_succ]); (try simp only [List.set_cons_zero])
        refine wpAnyH_take (i := 7) (oi := ⟨_, _, _, _, _, _⟩) (v := ?_) rfl (by kernel_rfl) (by kernel_rfl) (by kernel_rfl) (fun _ _ _ h => h) (Or.inl ⟨by rfl, ?_⟩) (by assumption) ?_
        rotate_left
        · intro wS hSw; go_simp; (try with_reducible rfl)
        (try simp only [Act.put]); (try simp only [List.setIfInBounds_toArray]); (try simp only [List.set_cons_succ]); (try simp only [List.set_cons_zero])
        refine wpAnyH_done (by kernel_rfl) ?_ _
        go_wp2
        go_meet
        exact ⟨⟨r, rfl, hr⟩, hs, hb⟩
      · refine (if_pos (by rfl)).mpr ?_
        refine wp_run (w' := x1.alloc (Obj.cells (ptA p) 48)) (v := .slice (some ⟨x1.heap.size, 0, none⟩) 1 1) (by have hbp := build_pt p x1; unfold execOp; simp [Act.eval, hbp]) ?_
        have M := heap_alloc_new x1 (Obj.cells (ptA p) 48)
        have O := owns_bl O (blw x1 (Obj.cells (ptA p) 48))
        have hb := hb.trans ((blw x1 (Obj.cells (ptA p) 48)).mono hz)
        have hs := tr_al (Obj.cells (ptA p) 48) hs
        have hz := Nat.le_trans hz (blw x1 (Obj.cells (ptA p) 48)).size
        refine hK'.out _ _ hs (fun _ => ?_)
        (try simp only [Act.put]); (try simp only [List.setIfInBounds_toArray]); (try simp only [List.set_cons_succ]); (try simp only [List.set_cons_zero])
        generalize x1.alloc (Obj.cells (ptA p) 48) = x4 at *
        refine wpAnyH_ready (rs := [2]) (by kernel_rfl) (by simp) ?_
        refine AllReadyH.cons (o := ⟨_, _, _, _, _, _⟩) rfl (fun K' hK' => ?_) (AllReadyH.nil)
        refine (if_pos (by rfl)).mpr ?_
        refine wp_append_rowG _ _ 46 48 elPut rfl w2.heap.size _ 0 [] rfl O a l.length cap (l.flatMap ptC) rfl HQ.out.1 (hR.below0 (hw2.trans (hb.mono hw2.size))) pt_one HQ.out.2.2.2.2.2.1 HQ.out.2.2.2.2.2.2.1 hz ?_
        intro v2 x5 O2 hg2
        have M := tr_gb hg2 M (fun e => by have := Option.some.inj e; simp only at this; omega)
        have hs := tr_gb hg2 hs (fun e => by have := Option.some.inj e; simp only at this; omega)
        have hb := hb.grown hg2 hz (fun k hk => (O.lt k hk).1)
        have hz := Nat.le_trans hz hg2.size
        have O := O2
        clear O2 hg2
        refine hK'.out _ _ hs (fun _ => ?_)
        (try simp only [Act.put]); (try simp only [List.setIfInBounds_toArray]); (try simp only [List.set_cons_succ]); (try simp only [List.set_cons_zero])
        refine wpAnyH_ready (rs := [5]) (by kernel_rfl) (by simp) ?_
        refine AllReadyH.cons (o := ⟨_, _, _, _, _, _⟩) rfl (fun K' hK' => ?_) (AllReadyH.nil)
        refine (if_pos (by rfl)).mpr ?_
        refine wp_append_rowG _ _ 46 48 elPut rfl w2.heap.size _ _ _ rfl O (some ⟨x1.heap.size, 0, none⟩) 1 1 (ptC p) rfl (by rw [ptC_len]) (row_pt M) pt_one1 HQ.out.2.2.2.1 HQ.out.2.2.2.2.1 hz ?_
        intro v5 y5 O5 hg5
        have hs := tr_gb hg5 hs (fun e => by have := (O.lt _ e).1; omega)
        have hb := hb.grown hg5 hz (fun k hk => (O.lt k hk).1)
        have hz := Nat.le_trans hz hg5.size
        rw [HQ.out.2.1] at O5
        rw [HQ.out.2.2.1] at O5
        obtain ⟨a5, c5, rfl, hR5, hle5, hmx5⟩ := Row.of_owns O5
        refine hK'.out _ _ hs (fun _ => ?_)
        (try simp only [Act.put]); (try simp only [List.setIfInBounds_toArray]); (try simp only [List.set_cons_succ]); (try simp only [List.set_cons_zero])
        refine wpAnyH_ready (rs := [6]) (by kernel_rfl) (by simp) ?_
        refine AllReadyH.cons (o := ⟨_, _, _, _, _, _⟩) rfl (fun K' hK' => ?_) (AllReadyH.nil)
        refine (if_pos (by rfl)).mpr ?_
        go_simp
        refine (fits_any11 hR5 HQ.out.2.2.2.2.2.2.2).mono ?_
        rintro en y6 ⟨⟨r, rfl, hr⟩, hb6⟩
        have hs := tr_bl hb6 hs
        have hb := hb.trans (hb6.mono hz)
        refine hK'.out _ _ hs (fun _ => ?_)
        (try simp only [Act.put]); (try simp only [List.setIfInBounds_toArray]); (try simp only [List.set_cons_succ]); (try simp only [List.set_cons_zero])
        refine wpAnyH_take (i := 7) (oi := ⟨_, _, _, _, _, _⟩) (v := ?_) rfl (by kernel_rfl) (by kernel_rfl) (by kernel_rfl) (fun _ _ _ h => h) (Or.inl ⟨by rfl, ?_⟩) (by assumption) ?_
        rotate_left
        · intro wS hSw; go_simp; (try with_reducible rfl)
        (try simp only [Act.put]); (try simp only [List.setIfInBounds_toArray]); (try simp only [List.set_cons_succ]); (try simp only [List.set_cons_zero])
        refine wpAnyH_done (by kernel_rfl) ?_ _
        go_wp2
        go_meet
        exact ⟨⟨r, rfl, hr⟩, hs, hb⟩
    · refine (if_pos (by rfl)).mpr ?_
      refine wp_run (w' := x0.alloc (Obj.cells (ptA p) 48)) (v := .slice (some ⟨x0.heap.size, 0, none⟩) 1 1) (by have hbp := build_pt p x0; unfold execOp; simp [Act.eval, hbp]) ?_
      have M := heap_alloc_new x0 (Obj.cells (ptA p) 48)
      have hb := hb.trans ((blw x0 (Obj.cells (ptA p) 48)).mono hz)
      have hs := tr_al (Obj.cells (ptA p) 48) hs
      have hz := Nat.le_trans hz (blw x0 (Obj.cells (ptA p) 48)).size
      refine hK'.out _ _ hs (fun _ => ?_)
      (try simp only [Act.put]); (try simp only [List.setIfInBounds_toArray]); (try simp only [List.set_cons_succ]); (try simp only [List.set_cons_zero])
      generalize x0.alloc (Obj.cells (ptA p) 48) = x6 at *
      refine wpAnyH_ready (rs := [0]) (by kernel_rfl) (by simp) ?_
      refine AllReadyH.cons (o := ⟨_, _, _, _, _, _⟩) rfl (fun K' hK' => ?_) (AllReadyH.nil)
      refine (if_pos (by rfl)).mpr ?_
      go_simp
      change K' _ (World.alloc _ (Obj.cells #[] 48))
      have O := owns_mono (owns_empty x6 48 10) hz
      have hgm := lt_blk M
      have M := tr_al (Obj.cells #[] 48) M
      have hb := hb.trans ((blw x6 (Obj.cells #[] 48)).mono hz)
      have hs := tr_al (Obj.cells #[] 48) hs
      have h0 : w2.heap.size ≤ x6.heap.size := hz
      have hz := Nat.le_trans hz (blw x6 (Obj.cells #[] 48)).size
      have hg0 : x6.heap.size < (x6.alloc (Obj.cells #[] 48)).heap.size := by rw [World.size_alloc]; omega
      refine hK'.out _ _ hs (fun _ => ?_)
      (try simp only [Act.put]); (try simp only [List.setIfInBounds_toArray]); (try simp only [List.set_cons_succ]); (try simp only [List.set_cons_zero])
      generalize x6.alloc (Obj.cells #[] 48) = x7 at *
      refine wpAnyH_ready (rs := [2]) (by kernel_rfl) (by simp) ?_
      refine AllReadyH.cons (o := ⟨_, _, _, _, _, _⟩) rfl (fun K' hK' => ?_) (AllReadyH.nil)
      refine (if_pos (by rfl)).mpr ?_
      refine wp_append_rowG _ _ 46 48 elPut rfl w2.heap.size _ 0 [] rfl O a l.length cap (l.flatMap ptC) rfl HQ.out.1 (hR.below0 (hw2.trans (hb.mono hw2.size))) pt_one HQ.out.2.2.2.2.2.1 HQ.out.2.2.2.2.2.2.1 hz ?_
      intro v2 x8 O2 hg2
      have M := tr_gb hg2 M (fun e => by have := Option.some.inj e; simp only at this; omega)
      have hs := tr_gb hg2 hs (fun e => by have := Option.some.inj e; simp only at this; omega)
      have hb := hb.grown hg2 hz (fun k hk => (O.lt k hk).1)
      have hz := Nat.le_trans hz hg2.size
      have O := O2
      clear O2 hg2
      refine hK'.out _ _ hs (fun _ => ?_)
      (try simp only [Act.put]); (try simp only [List.setIfInBounds_toArray]); (try simp only [List.set_cons_succ]); (try simp only [List.set_cons_zero])
      refine wpAnyH_ready (rs := [5]) (by kernel_rfl) (by simp) ?_
      refine AllReadyH.cons (o := ⟨_, _, _, _, _, _⟩) rfl (fun K' hK' => ?_) (AllReadyH.nil)
      refine (if_pos (by rfl)).mpr ?_
      refine wp_append_rowG _ _ 46 48 elPut rfl w2.heap.size _ _ _ rfl O (some ⟨x0.heap.size, 0, none⟩) 1 1 (ptC p) rfl (by rw [ptC_len]) (row_pt M) pt_one1 HQ.out.2.2.2.1 HQ.out.2.2.2.2.1 hz ?_
      intro v5 y5 O5 hg5
      have hs := tr_gb hg5 hs (fun e => by have := (O.lt _ e).1; omega)
      have hb := hb.grown hg5 hz (fun k hk => (O.lt k hk).1)
      have hz := Nat.le_trans hz hg5.size
      rw [HQ.out.2.1] at O5
      rw [HQ.out.2.2.1] at O5
      obtain ⟨a5, c5, rfl, hR5, hle5, hmx5⟩ := Row.of_owns O5
      refine hK'.out _ _ hs (fun _ => ?_)
      (try simp only [Act.put]); (try simp only [List.setIfInBounds_toArray]); (try simp only [List.set_cons_succ]); (try simp only [List.set_cons_zero])
      refine wpAnyH_ready (rs := [6]) (by kernel_rfl) (by simp) ?_
      refine AllReadyH.cons (o := ⟨_, _, _, _, _, _⟩) rfl (fun K' hK' => ?_) (AllReadyH.nil)
      refine (if_pos (by rfl)).mpr ?_
      go_simp
      refine (fits_any11 hR5 HQ.out.2.2.2.2.2.2.2).mono ?_
      rintro en y6 ⟨⟨r, rfl, hr⟩, hb6⟩
      have hs := tr_bl hb6 hs
      have hb := hb.trans (hb6.mono hz)
      refine hK'.out _ _ hs (fun _ => ?_)
      (try simp only [Act.put]); (try simp only [List.setIfInBounds_toArray]); (try simp only [List.set_cons_succ]); (try simp only [List.set_cons_zero])
      refine wpAnyH_take (i := 7) (oi := ⟨_, _, _, _, _, _⟩) (v := ?_) rfl (by kernel_rfl) (by kernel_rfl) (by kernel_rfl) (fun _ _ _ h => h) (Or.inl ⟨by rfl, ?_⟩) (by assumption) ?_
      rotate_left
      · intro wS hSw; go_simp; (try with_reducible rfl)
      (try simp only [Act.put]); (try simp only [List.setIfInBounds_toArray]); (try simp only [List.set_cons_succ]); (try simp only [List.set_cons_zero])
      refine wpAnyH_done (by kernel_rfl) ?_ _
      go_wp2
      go_meet
      exact ⟨⟨r, rfl, hr⟩, hs, hb⟩
  obtain ⟨hA, B3, hb3⟩ := hcut
  refine hK _ _ ?_
  clear hK
  obtain ⟨r, rfl, hr⟩ := hA
  have hwx := hw2.trans (hb3.mono hw2.size)
  cases r
  case false =>
    clear HK
    go_wp2
    go_ret
    exact ⟨rfl, hwx⟩
  case true =>
    have hr2 := hr rfl
    have HFT := Lib.hid hr2
    have hl30 : l.length ≤ 30 := by
      have h1 := hr2.1
      rw [← HL.out, List.length_append] at h1
      omega
    clear hr hr2 B2 hw2 hb3
    go_wp2
    refine HK.out _ _ ?_
    clear HK
    have hnw := new_any (B := w.heap.size) (w := wc) 156 (by decide) (by decide) hwx.size
    refine wp_seq_k (fun K hK => ?_)
    have HK := Lib.hid hK
    clear hK
    go_wp2_with (go_at_call 7; refine hnw.mono ?_; rintro e w3 ⟨⟨g, gp, rfl, D3⟩, hb3⟩)
    refine HK.out _ _ ?_
    clear HK
    refine wp_seq_k (fun K hK => ?_)
    have HK := Lib.hid hK
    clear hK
    go_wp2
    refine HK.out _ _ ?_
    clear HK
    have hop := lopen_ok D3 2 7 0 (by show 156 ≤ (List.replicate 156 zeroPl).length; rw [List.length_replicate]; decide) ⟨by decide, by decide, by decide⟩ (live_up new_live156)
    refine wp_seq_k (fun K hK => ?_)
    have HK := Lib.hid hK
    clear hK
    go_wp2_with (go_at_call 8; refine hop.mono ?_; rintro e w4 ⟨⟨q, rfl, hq, L4⟩, hb4⟩)
    refine HK.out _ _ ?_
    clear HK
    have L4 : LgB w4 q g sP := L4
    have D4 := D3.below hb4
    have k4 := (hwx.trans (hb3.mono hwx.size)).trans (hb4.mono (Nat.le_trans hwx.size hb3.size))
    have T4 := tr_bl hb4 (tr_bl hb3 B3)
    have hBq : w.heap.size < q := by have := lt_blk B3; have := hb3.size; omega
    clear hnw hop D3 hb3 hb4 hq hwx B3
    refine wp_seq_k (fun K hK => ?_)
    have HK := Lib.hid hK
    clear hK
    go_wp2
    refine HK.out _ _ ?_
    clear HK
    refine wp_seq_k (fun K hK => ?_)
    go_cut [11] (fun v wx => ∃ (d : Dk) (wv : Value), DiskB w.heap.size g gp wv d wx ∧ LgB wx q g sP ∧ Live d ∧ d.left < 0 ∧ wx.heap[w.heap.size]? = some (.cells (ptA p) 48 (0, 0)) ∧ Below w.heap.size w wx)
    case first =>
      go_wp2
      go_loopw [11] (fun v wr => ∃ (k : Nat) (d : Dk) (wv : Value), k ≤ l.length ∧ v = .int .i64 k ∧ DiskB w.heap.size g gp wv d wr ∧ LgB wr q g sP ∧ Live d ∧ d.left < 0 ∧ wr.heap[w.heap.size]? = some (.cells (ptA p) 48 (0, 0)) ∧ Below w.heap.size w wr) (fun v _ => l.length - (intOf v).toNat)
      case atStart => exact ⟨0, newDk 156, .slice none 0 0, by omega, rfl, D4, L4, new_live156, by decide, T4, k4⟩
      case round =>
        clear D4 L4 T4 k4
        obtain ⟨k, d, wv, hk, rfl, hD, hL, hLv, hlf, hT, hbr⟩ := hrel
        by_cases hlt : k < l.length
        · have hlt2 : (k : Int) < l.length := by omega
          obtain ⟨b, off, rfl, hpt⟩ := PtAt.of (hR.below0 hbr) hlt
          obtain ⟨x, hx⟩ : ∃ x, l[k] = x := ⟨_, rfl⟩
          have hxl : x ∈ L := by rw [← HL.out, ← hx]; exact List.mem_append_left _ (List.getElem_mem hlt)
          have hmx := HFT.out.2 x hxl
          have hox : x.at' ≤ 255 := HOK.out.1 x (by rw [← hx]; exact List.getElem_mem hlt)
          rw [hx] at hpt
          have HX := Lib.hid hx
          have HLT := Lib.hid hlt
          clear hx hxl
          have hsP : LgOk sP := ⟨by decide, by decide, by decide⟩
          have hi1 : (1 : Int) ≤ 1 + (x.at' : Int) % 24 ∧ 1 + (x.at' : Int) % 24 ≤ 24 := by omega
          have hlw : liveW d sP (1 + (x.at' : Int) % 24) = 0 := by
            unfold liveW sP
            rw [if_neg (by simp only; omega)]
            simp [live_up hLv]
          obtain ⟨d2, ep, hLv2, hlf2⟩ := put_lives (s := sP) (i := 1 + (x.at' : Int) % 24) (b := x.bal) hLv hlf hmx.2
          have hpu := fun w' (hb : Below wr.heap.size wr w') => lput_ok (hL.below hb) (hD.below hb) (Nat.le_trans hbr.size hb.size) hsP (1 + (x.at' : Int) % 24) hlw hmx.1 hmx.2 (by rw [hLv.w]; simp)
          rw [ep] at hpu
          have HPU := Lib.hid hpu
          clear hpu ep hlw hsP hmx hi1
          refine wp_seq_k (fun K hK => ?_)
          have HK := Lib.hid hK
          clear hK
          go_wp2
          refine HK.out _ _ ?_
          clear HK
          refine wp_seq_k (fun K hK => ?_)
          have HK2 := Lib.hid hK
          clear hK
          refine wp_block ?_
          refine wp_seq_k (fun K hK => ?_)
          have HK3 := Lib.hid hK
          clear hK
          go_wp2_with fail
          have hbd := (Below.refl wr.heap.size wr).drew
          have S1 := hpt.below hbd
          have T1 := tr_bl hbd hT
          have hb1 := hbr.trans (hbd.mono hbr.size)
          have HC := HPU.out _ hbd
          clear hpt HPU hD hT
          have L1 := hL.below hbd
          clear hL hbd hbr
          refine wp_region_held_drew (S := PtAt b (off + k * 10) x) (by kernel_rfl) S1 (fun hS0 => ?_)
          clear hS0
          generalize wr.drew = x0 at *
          refine wpAnyH_take (i := 0) (oi := ⟨_, _, _, _, _, _⟩) (v := ?_) rfl (by kernel_rfl) (by kernel_rfl) (by kernel_rfl) (fun _ _ _ h => h) (Or.inl ⟨by rfl, ?_⟩) (by assumption) ?_
          rotate_left
          · intro wS hSw; go_simp; (try with_reducible rfl)
          (try simp only [Act.put]); (try simp only [List.setIfInBounds_toArray]); (try simp only [List.set_cons_succ]); (try simp only [List.set_cons_zero])
          refine wpAnyH_take (i := 1) (oi := ⟨_, _, _, _, _, _⟩) (v := ?_) rfl (by kernel_rfl) (by kernel_rfl) (by kernel_rfl) (fun _ _ _ h => h) (Or.inl ⟨by rfl, ?_⟩) (by assumption) ?_
          rotate_left
          · intro wS hSw; go_simp; (try with_reducible rfl)
          (try simp only [Act.put]); (try simp only [List.setIfInBounds_toArray]); (try simp only [List.set_cons_succ]); (try simp only [List.set_cons_zero])
          refine wpAnyH_take (i := 2) (oi := ⟨_, _, _, _, _, _⟩) (v := ?_) rfl (by kernel_rfl) (by kernel_rfl) (by kernel_rfl) (fun _ _ _ h => h) (Or.inl ⟨by rfl, ?_⟩) (by assumption) ?_
          rotate_left
          · intro wS hSw; go_simp; (try with_reducible rfl)
          (try simp only [Act.put]); (try simp only [List.setIfInBounds_toArray]); (try simp only [List.set_cons_succ]); (try simp only [List.set_cons_zero])
          refine wpAnyH_take (i := 3) (oi := ⟨_, _, _, _, _, _⟩) (v := ?_) rfl (by kernel_rfl) (by kernel_rfl) (by kernel_rfl) (fun _ _ _ h => h) (Or.inl ⟨by rfl, ?_⟩) (by assumption) ?_
          rotate_left
          · intro wS hSw; go_simp; (try with_reducible rfl)
          (try simp only [Act.put]); (try simp only [List.setIfInBounds_toArray]); (try simp only [List.set_cons_succ]); (try simp only [List.set_cons_zero])
          refine wpAnyH_take (i := 4) (oi := ⟨_, _, _, _, _, _⟩) (v := ?_) rfl (by kernel_rfl) (by kernel_rfl) (by kernel_rfl) (fun _ _ _ h => h) (Or.inl ⟨by rfl, ?_⟩) (by assumption) ?_
          rotate_left
          · intro wS hSw; go_simp; (try with_reducible rfl)
          (try simp only [Act.put]); (try simp only [List.setIfInBounds_toArray]); (try simp only [List.set_cons_succ]); (try simp only [List.set_cons_zero])
          refine wpAnyH_take (i := 5) (oi := ⟨_, _, _, _, _, _⟩) (v := ?_) rfl (by kernel_rfl) (by kernel_rfl) (by kernel_rfl) (fun _ _ _ h => h) (Or.inl ⟨by rfl, ?_⟩) (by assumption) ?_
          rotate_left
          · intro wS hSw
            have c := hSw 0 _ rfl; rw [Nat.add_zero] at c; go_simp; (try with_reducible rfl)
          (try simp only [Act.put]); (try simp only [List.setIfInBounds_toArray]); (try simp only [List.set_cons_succ]); (try simp only [List.set_cons_zero])
          refine wpAnyH_take (i := 6) (oi := ⟨_, _, _, _, _, _⟩) (v := ?_) rfl (by kernel_rfl) (by kernel_rfl) (by kernel_rfl) (fun _ _ _ h => h) (Or.inl ⟨by rfl, ?_⟩) (by assumption) ?_
          rotate_left
          · intro wS hSw; go_simp; (try with_reducible rfl)
          (try simp only [Act.put]); (try simp only [List.setIfInBounds_toArray]); (try simp only [List.set_cons_succ]); (try simp only [List.set_cons_zero])
          refine wpAnyH_take (i := 7) (oi := ⟨_, _, _, _, _, _⟩) (v := ?_) rfl (by kernel_rfl) (by kernel_rfl) (by kernel_rfl) (fun _ _ _ h => h) (Or.inl ⟨by rfl, ?_⟩) (by assumption) ?_
          rotate_left
          · intro wS hSw; go_simp; (try with_reducible rfl)
          (try simp only [Act.put]); (try simp only [List.setIfInBounds_toArray]); (try simp only [List.set_cons_succ]); (try simp only [List.set_cons_zero])
          refine wpAnyH_take (i := 8) (oi := ⟨_, _, _, _, _, _⟩) (v := ?_) rfl (by kernel_rfl) (by kernel_rfl) (by kernel_rfl) (fun _ _ _ h => h) (Or.inl ⟨by rfl, ?_⟩) (by assumption) ?_
          rotate_left
          · intro wS hSw; go_simp; (try with_reducible rfl)
          (try simp only [Act.put]); (try simp only [List.setIfInBounds_toArray]); (try simp only [List.set_cons_succ]); (try simp only [List.set_cons_zero])
          refine wpAnyH_take (i := 9) (oi := ⟨_, _, _, _, _, _⟩) (v := ?_) rfl (by kernel_rfl) (by kernel_rfl) (by kernel_rfl) (fun _ _ _ h => h) (Or.inl ⟨by rfl, ?_⟩) (by assumption) ?_
          rotate_left
          · intro wS hSw; go_simp; (try with_reducible rfl)
          (try simp only [Act.put]); (try simp only [List.setIfInBounds_toArray]); (try simp only [List.set_cons_succ]); (try simp only [List.set_cons_zero])
          refine wpAnyH_take (i := 10) (oi := ⟨_, _, _, _, _, _⟩) (v := ?_) rfl (by kernel_rfl) (by kernel_rfl) (by kernel_rfl) (fun _ _ _ h => h) (Or.inl ⟨by rfl, ?_⟩) (by assumption) ?_
          rotate_left
          · intro wS hSw; go_simp; (try with_reducible rfl)
          (try simp only [Act.put]); (try simp only [List.setIfInBounds_toArray]); (try simp only [List.set_cons_succ]); (try simp only [List.set_cons_zero])
          refine wpAnyH_take (i := 11) (oi := ⟨_, _, _, _, _, _⟩) (v := ?_) rfl (by kernel_rfl) (by kernel_rfl) (by kernel_rfl) (fun _ _ _ h => h) (Or.inl ⟨by rfl, ?_⟩) (by assumption) ?_
          rotate_left
          · intro wS hSw; go_simp; (try with_reducible rfl)
          (try simp only [Act.put]); (try simp only [List.setIfInBounds_toArray]); (try simp only [List.set_cons_succ]); (try simp only [List.set_cons_zero])
          refine wpAnyH_take (i := 12) (oi := ⟨_, _, _, _, _, _⟩) (v := ?_) rfl (by kernel_rfl) (by kernel_rfl) (by kernel_rfl) (fun _ _ _ h => h) (Or.inl ⟨by rfl, ?_⟩) (by assumption) ?_
          rotate_left
          · intro wS hSw; go_simp; (try with_reducible rfl)
          (try simp only [Act.put]); (try simp only [List.setIfInBounds_toArray]); (try simp only [List.set_cons_succ]); (try simp only [List.set_cons_zero])
          refine wpAnyH_take (i := 13) (oi := ⟨_, _, _, _, _, _⟩) (v := .agg (blA x.bal)) rfl (by kernel_rfl) (by kernel_rfl) (by kernel_rfl) (fun _ _ _ h => h) (Or.inl ⟨by rfl, fun wS hSw => ?_⟩) (by assumption) ?_
          · exact exec_ldC 32 _ ⟨_, _, _, Tryz.isAgg32, Tryz.sizeOf32, rfl, rfl, hSw.bal⟩
          (try simp only [Act.put]); (try simp only [List.setIfInBounds_toArray]); (try simp only [List.set_cons_succ]); (try simp only [List.set_cons_zero])
          refine wpAnyH_take (i := 14) (oi := ⟨_, _, _, _, _, _⟩) (v := ?_) rfl (by kernel_rfl) (by kernel_rfl) (by kernel_rfl) (fun _ _ _ h => h) (Or.inl ⟨by rfl, ?_⟩) (by assumption) ?_
          rotate_left
          · intro wS hSw; go_simp; (try with_reducible rfl)
          (try simp only [Act.put]); (try simp only [List.setIfInBounds_toArray]); (try simp only [List.set_cons_succ]); (try simp only [List.set_cons_zero])
          refine wpAnyH_take (i := 15) (oi := ⟨_, _, _, _, _, _⟩) (v := ?_) rfl (by kernel_rfl) (by kernel_rfl) (by kernel_rfl) (fun _ _ _ h => h) (Or.inl ⟨by rfl, ?_⟩) (by assumption) ?_
          rotate_left
          · intro wS hSw; go_simp; (try with_reducible rfl)
          (try simp only [Act.put]); (try simp only [List.setIfInBounds_toArray]); (try simp only [List.set_cons_succ]); (try simp only [List.set_cons_zero])
          refine wpAnyH_take (i := 16) (oi := ⟨_, _, _, _, _, _⟩) (v := ?_) rfl (by kernel_rfl) (by kernel_rfl) (by kernel_rfl) (fun _ _ _ h => h) (Or.inl ⟨by rfl, ?_⟩) (by assumption) ?_
          rotate_left
          · intro wS hSw; go_simp; (try with_reducible rfl)
          (try simp only [Act.put]); (try simp only [List.setIfInBounds_toArray]); (try simp only [List.set_cons_succ]); (try simp only [List.set_cons_zero])
          refine wpAnyH_take (i := 17) (oi := ⟨_, _, _, _, _, _⟩) (v := ?_) rfl (by kernel_rfl) (by kernel_rfl) (by kernel_rfl) (fun _ _ _ h => h) (Or.inl ⟨by rfl, ?_⟩) (by assumption) ?_
          rotate_left
          · intro wS hSw; go_simp; (try with_reducible rfl)
          (try simp only [Act.put]); (try simp only [List.setIfInBounds_toArray]); (try simp only [List.set_cons_succ]); (try simp only [List.set_cons_zero])
          refine wpAnyH_take (i := 18) (oi := ⟨_, _, _, _, _, _⟩) (v := .agg (enA x.e)) rfl (by kernel_rfl) (by kernel_rfl) (by kernel_rfl) (fun _ _ _ h => h) (Or.inl ⟨by rfl, fun wS hSw => ?_⟩) (by assumption) ?_
          · exact exec_ldC 36 _ ⟨_, _, _, Tryz.isAgg36, Tryz.sizeOf36, rfl, rfl, hSw.en⟩
          (try simp only [Act.put]); (try simp only [List.setIfInBounds_toArray]); (try simp only [List.set_cons_succ]); (try simp only [List.set_cons_zero])
          refine wpAnyH_ready (rs := [19]) (by kernel_rfl) (by simp) ?_
          refine AllReadyH.cons (o := ⟨_, _, _, _, _, _⟩) rfl (fun K' hK' => ?_) AllReadyH.nil
          refine (if_pos (by rfl)).mpr ?_
          go_simp
          rw [show IntKind.i64.wrap (1 + IntKind.i64.wrap (((x.at' : Nat) : Int).tmod 24)) = 1 + (x.at' : Int) % 24 from wrap24 x.at']
          refine HC.mono ?_
          rintro en w6 ⟨rfl, ⟨wv6, D6⟩, k6⟩
          have hb6 := hb1.trans k6.bl
          have S6 : PtAt b (off + k * 10) x w6 := by
            obtain ⟨b', off', e, h⟩ := PtAt.of (hR.below0 hb6) hlt
            cases e
            rw [HX.out] at h
            exact h
          have L6 := L1.kt k6
          have T6 := k6.ty _ _ _ T1 (by decide) (by decide) (by decide)
          refine hK'.out _ _ S6 (fun _ => ?_)
          clear hK' S1 T1 L1 HC hb1 k6
          (try simp only [Act.put]); (try simp only [List.setIfInBounds_toArray]); (try simp only [List.set_cons_succ]); (try simp only [List.set_cons_zero])
          refine wpAnyH_take (i := 20) (oi := ⟨_, _, _, _, _, _⟩) (v := ?_) rfl (by kernel_rfl) (by kernel_rfl) (by kernel_rfl) (fun _ _ _ h => h) (Or.inl ⟨by rfl, ?_⟩) (by assumption) ?_
          rotate_left
          · intro wS hSw; go_simp; (try with_reducible rfl)
          (try simp only [Act.put]); (try simp only [List.setIfInBounds_toArray]); (try simp only [List.set_cons_succ]); (try simp only [List.set_cons_zero])
          refine wpAnyH_done (by kernel_rfl) ?_ _
          refine HK3.out _ _ ?_
          clear HK3
          go_wp2
          (try simp only [Exit.inBlock, Exit.then])
          refine HK2.out _ _ ?_
          clear HK2
          go_wp2
          go_roundw
          case rel => exact ⟨k + 1, d2, wv6, HLT.out, congrArg (Value.int .i64) (by omega), D6, L6, hLv2, hlf2, T6, hb6⟩
          case measure => have := HLT.out; simp [intOf]; omega
        · obtain rfl : k = l.length := by omega
          go_wp2
          go_meet
          exact ⟨d, wv, hD, hL, hLv, hlf, hT, hbr⟩
    obtain ⟨d, wv, hD, hL, hLv, hlf, hT, hbr⟩ := hcut
    refine hK _ _ ?_
    clear hK D4 L4 T4 k4
    refine wp_seq_k (fun K hK => ?_)
    have HK := Lib.hid hK
    clear hK
    go_wp2
    refine HK.out _ _ ?_
    clear HK
    have W0 := heap_alloc_new wc (Obj.cells Tryz.zeroCells50 50)
    have hb0 := blw wc (Obj.cells Tryz.zeroCells50 50)
    have D0 := hD.below hb0
    have L0 := hL.below hb0
    have T0 := tr_bl hb0 hT
    have k0 := hbr.trans (hb0.mono hbr.size)
    have hwq : w.heap.size < wc.heap.size := lt_blk hT
    clear hD hL hT hb0 hbr
    generalize wc.alloc (Obj.cells Tryz.zeroCells50 50) = wd at *
    generalize wc.heap.size = qw at *
    rw [was_zero] at W0
    have hsP : LgOk sP := ⟨by decide, by decide, by decide⟩
    have HSP := Lib.hid hsP
    have HLV := Lib.hid hLv
    clear hsP
    refine wp_seq_k (fun K hK => ?_)
    go_cut [13] (fun v wx => ∃ Z : List Rpt, Z.length = 25 ∧ (∀ j : Nat, 1 ≤ j → j ≤ 24 → Z[j]? = some (rptW d sP j)) ∧ wx.heap[qw]? = some (.cells (wasA Z) 50 (0, 0)) ∧ DiskB w.heap.size g gp wv d wx ∧ LgB wx q g sP ∧ wx.heap[w.heap.size]? = some (.cells (ptA p) 48 (0, 0)) ∧ Below w.heap.size w wx)
    case first =>
      go_wp2
      go_loopw [13] (fun v wr => ∃ (k : Nat) (Z : List Rpt), 1 ≤ k ∧ k ≤ 25 ∧ v = .int .i64 k ∧ Hid (Z.length = 25 ∧ ∀ j : Nat, 1 ≤ j → j < k → Z[j]? = some (rptW d sP j)) ∧ wr.heap[qw]? = some (.cells (wasA Z) 50 (0, 0)) ∧ DiskB w.heap.size g gp wv d wr ∧ LgB wr q g sP ∧ wr.heap[w.heap.size]? = some (.cells (ptA p) 48 (0, 0)) ∧ Below w.heap.size w wr) (fun v _ => 25 - (intOf v).toNat)
      case atStart => exact ⟨1, _, by omega, by omega, rfl, Lib.hid ⟨List.length_replicate, fun j h1 h2 => absurd h2 (by omega)⟩, W0, D0, L0, T0, k0⟩
      case round =>
        clear W0 D0 L0 T0 k0
        obtain ⟨k, Z, hk1, hk2, rfl, HZ, hW, hD, hL, hT, hbr⟩ := hrel
        by_cases hlt : k ≤ 24
        · have hlt2 : (k : Int) ≤ 24 := by omega
          have hge := lget_any2 hL hD HSP.out (k : Int)
          rw [(getW_live (i := (k : Int)) HLV.out (by show (0 : Int) < k; omega) (by show (k : Int) ≤ 0 + 24; omega)).1] at hge
          have HLT := Lib.hid (show k + 1 ≤ 25 by omega)
          have HK1 := Lib.hid (And.intro hk1 hlt)
          have HKZ := Lib.hid (show k < Z.length by rw [HZ.out.1]; omega)
          go_wp2_with (first
            | (go_at_call 15; refine hge.mono ?_; rintro e w5 ⟨rfl, hb5⟩)
            | ((with_reducible refine wpList_stB 44 _ _ ?_); refine ⟨_, _, _, ⟨_, _, _, Tryz.sizeOf44, rfl, tr_bl hb5 hW, was_over HKZ.out _⟩, ?_⟩; intro w6 W6 g6))
          have hW5 := tr_bl hb5 hW
          have L5 := hL.below hb5
          have T5 := tr_bl hb5 hT
          have D6 := (hD.below hb5).otA g6 hW5 (by decide) (by decide) (by decide)
          have L6 : LgB w6 q g sP := tr_st g6 L5 (ne_tyA hW5 L5 (by decide))
          have T6 := tr_st g6 T5 (ne_tyA hW5 T5 (by decide))
          have hr5 := hbr.trans (hb5.mono hbr.size)
          have hr6 := bl_st hr5 g6 hr5.size (Nat.le_of_lt hwq)
          go_roundw
          case rel =>
            refine ⟨k + 1, Z.set k (rptW d sP (k : Int)), by omega, HLT.out, congrArg (Value.int .i64) (by omega), Lib.hid ⟨by rw [List.length_set]; exact HZ.out.1, fun j h1 h2 => ?_⟩, W6, D6, L6, T6, hr6⟩
            by_cases hj : j = k
            · subst hj
              exact List.getElem?_set_self HKZ.out
            · rw [List.getElem?_set_ne (Ne.symm hj)]
              exact HZ.out.2 j h1 (by omega)
          case measure => have := HLT.out; simp [intOf]; omega
        · obtain rfl : k = 25 := by omega
          go_wp2
          go_meet
          exact ⟨Z, HZ.out.1, fun j h1 h2 => HZ.out.2 j h1 (by omega), hW, hD, hL, hT, hbr⟩
    clear W0 D0 L0 T0 k0
    obtain ⟨Z, hZl, hZ, hW, hD, hL, hT, hbr⟩ := hcut
    have HZ := Lib.hid hZ
    have HZL := Lib.hid hZl
    refine hK _ _ ?_
    clear hK hZ hZl
    obtain ⟨x, hx0, hx⟩ : ∃ x : Int, 0 ≤ x ∧ (pw.toNat : Int) % 8 = x := ⟨_, by omega, rfl⟩
    have hx9 : x ≤ 9223372036854775807 := by omega
    have hpo := power_any hD x hx9
    rw [power_live0 hLv hx0] at hpo
    have HX := Lib.hid hx
    clear hx9 hx
    refine wp_seq_k (fun K hK => ?_)
    have HK := Lib.hid hK
    clear hK
    go_wp2_with (go_at_call 16; rw [HX.out]; refine hpo.mono ?_; rintro e w7 ⟨rfl, D7, k7⟩)
    refine HK.out _ _ ?_
    clear HK
    have L7 := hL.kt k7
    have T7 := k7.ty _ _ _ hT (by decide) (by decide) (by decide)
    have W7 := k7.ty _ _ _ hW (by decide) (by decide) (by decide)
    have hb7 := hbr.trans k7.bl
    clear hpo hD hL hT hW hbr k7 hlf
    obtain ⟨i, hi⟩ : ∃ i : Int, 1 + (p.at' : Int) % 24 = i := ⟨_, rfl⟩
    have hi1 : 1 ≤ i ∧ i ≤ 24 := by omega
    have hmp := HFT.out.2 p (by rw [← HL.out]; exact List.mem_append_right _ (List.mem_singleton.2 rfl))
    have hlw : liveW { d with left := x } sP i = 0 := by
      unfold liveW sP
      rw [if_neg (by simp only; omega), if_neg]
      rw [show upD { d with left := x } = upD d from rfl, live_up hLv]
      simp
    obtain ⟨⟨d2, e2⟩, hpe⟩ : ∃ z, putW { d with left := x } sP i p.bal p.e = z := ⟨_, rfl⟩
    obtain ⟨ec, es, hL3, hR3⟩ := end_apart (s := sP) (i := i) (b := p.bal) (e := p.e) (x := x) hLv d2 (by rw [hpe])
    have hpu := lput_ok L7 D7 hb7.size HSP.out i (b := p.bal) (e := p.e) hlw hmp.1 hmp.2 (by show d.waits.length ≤ 900; rw [hLv.w]; simp)
    rw [hpe] at hpu
    have HI := Lib.hid hi
    have HI1 := Lib.hid hi1
    have HR3 := Lib.hid hR3
    have HEC := Lib.hid ec
    have HES := Lib.hid es
    have HL3 := Lib.hid hL3
    have hpa : p.at' ≤ 255 := HOK.out.2
    clear hi hi1 hR3 ec es hL3 hlw hmp hpe hLv hx0 HX
    have c0 := blk_cell T7 0 (.int .u8 (p.at' : Int)) rfl
    refine wp_seq_k (fun K hK => ?_)
    have HK := Lib.hid hK
    clear hK
    go_wp2_with (first
          | ((with_reducible refine wpList_ldB 32 _ ?_); refine ⟨rfl, _, ⟨_, _, _, _, _, Tryz.isAgg32, Tryz.sizeOf32, rfl, ‹_›, pt_ldb⟩, ?_⟩)
          | ((with_reducible refine wpList_ldB 36 _ ?_); refine ⟨rfl, _, ⟨_, _, _, _, _, Tryz.isAgg36, Tryz.sizeOf36, rfl, ‹_›, pt_lde⟩, ?_⟩)
          | (go_at_call 9; rw [HI.out]; refine hpu.mono ?_; rintro e w8 ⟨rfl, ⟨wv8, D8⟩, k8⟩))
    refine HK.out _ _ ?_
    clear HK
    have L8 := L7.kt k8
    have T8 := k8.ty _ _ _ T7 (by decide) (by decide) (by decide)
    have W8 := k8.ty _ _ _ W7 (by decide) (by decide) (by decide)
    have hb8 := hb7.trans k8.bl
    clear hpu D7 L7 T7 W7 hb7 k8 c0
    have hcr := crash_any D8 hb8.size none 0 [] (fun _ _ => .inl rfl)
    rw [HEC.out] at hcr
    refine wp_seq_k (fun K hK => ?_)
    have HK := Lib.hid hK
    clear hK
    go_wp2_with (go_at_call 17; refine hcr.mono ?_; rintro e w9 ⟨rfl, ⟨wv9, D9⟩, k9⟩)
    refine HK.out _ _ ?_
    clear HK
    have L9 := L8.kt k9
    have T9 := k9.ty _ _ _ T8 (by decide) (by decide) (by decide)
    have W9 := k9.ty _ _ _ W8 (by decide) (by decide) (by decide)
    have hb9 := hb8.trans k9.bl
    clear hcr D8 L8 T8 W8 hb8 k9
    have hsr := start_any D9
    rw [HES.out] at hsr
    refine wp_seq_k (fun K hK => ?_)
    have HK := Lib.hid hK
    clear hK
    go_wp2_with (go_at_call 18; refine hsr.mono ?_; rintro e w10 ⟨rfl, D10, k10⟩)
    refine HK.out _ _ ?_
    clear HK
    have L10 := L9.kt k10
    have T10 := k10.ty _ _ _ T9 (by decide) (by decide) (by decide)
    have W10 := k10.ty _ _ _ W9 (by decide) (by decide) (by decide)
    have hb10 := hb9.trans k10.bl
    clear hsr D9 L9 T9 W9 hb9 k10 HEC HES
    generalize anew d2 [] = d3 at *
    have hal := lall_any2 L10 D10 HSP.out (live_up HL3.out)
    obtain ⟨A, hA⟩ : ∃ A, allW d3 sP = A := ⟨_, rfl⟩
    rw [hA] at hal
    have HA := Lib.hid hA
    clear hA
    refine wp_seq_k (fun K hK => ?_)
    have HK := Lib.hid hK
    clear hK
    go_wp2_with (go_at_call 12; refine hal.mono ?_; rintro e w11 ⟨v, rfl, hO, hb11⟩)
    refine HK.out _ _ ?_
    clear HK
    obtain ⟨la, lc, rfl, hRA, _, _⟩ := Row.of_owns hO
    have L11 := L10.below hb11
    have D11 := D10.below hb11
    have T11 := tr_bl hb11 T10
    have W11 := tr_bl hb11 W10
    have k11 := hb10.trans (hb11.mono hb10.size)
    clear hal hO D10 L10 T10 W10 hb10 hb11
    refine wp_seq_k (fun K hK => ?_)
    have HK := Lib.hid hK
    clear hK
    go_wp2
    refine HK.out _ _ ?_
    clear HK
    have HAL := Lib.hid (show cntT d3 sP 24 = A.length by rw [← HA.out]; rfl)
    have hA24 : A.length ≤ 24 := by rw [← HAL.out]; exact cnt_le _ _ _
    refine wp_seq_k (fun K hK => ?_)
    go_cut [16] (fun v wx => v = .int .i64 (cntT d3 sP 24 : Int) ∧ Below w11.heap.size w11 wx)
    case first =>
      go_wp2
      go_loopw [16, 17] (fun n v wr => ∃ k t : Nat, Hid (k = t + 1) ∧ 1 ≤ k ∧ k ≤ 25 ∧ v = .int .i64 (k : Int) ∧ n = .int .i64 (cntT d3 sP t : Int) ∧ Below w11.heap.size w11 wr) (fun _ v _ => 25 - (intOf v).toNat)
      case atStart => exact ⟨1, 0, Lib.hid rfl, by omega, by omega, rfl, rfl, Below.refl _ _⟩
      case round =>
        obtain ⟨k, t, HKT, hk1, hk2, rfl, rfl, hbr⟩ := hrel
        by_cases hlt : k ≤ 24
        · have hlt2 : (k : Int) ≤ 24 := by omega
          have hcn : cntT d3 sP t ≤ 24 := Nat.le_trans (cnt_le d3 sP t) (by have := HKT.out; omega)
          have HLT := Lib.hid hlt
          have L12 := L11.below hbr
          have D12 := D11.below hbr
          have hge := fun w' (h : LgB w' q g sP) (D : DiskB w.heap.size g gp wv9 d3 w') => lget_any2 h D HSP.out (k : Int)
          have hcl := fun w' (h : LgB w' q g sP) (D : DiskB w.heap.size g gp wv9 d3 w') => lclass_any2 h D HSP.out (k : Int)
          obtain ⟨g1, g2, _⟩ := getW_live (s := sP) (i := (k : Int)) HL3.out (by show (0 : Int) < (k : Int); omega) (by show (k : Int) ≤ 0 + 24; omega)
          obtain ⟨r, hr⟩ : ∃ r, rptW d3 sP (k : Int) = r := ⟨_, rfl⟩
          obtain ⟨c, hc⟩ : ∃ c, (repW d3 sP (k : Int)).1 = c := ⟨_, rfl⟩
          rw [hr] at g1
          rw [hc] at g2
          rw [g1] at hge
          rw [g2] at hcl
          have hsl : slotW d3 sP t = (c, r) := by
            have h := slot_at d3 2 7 t
            rw [← HKT.out] at h
            rw [← hr, ← hc]
            exact h
          have HS := Lib.hid hsl
          have HR := Lib.hid hr
          have HZK := Lib.hid (show Z[k]? = some (rptW d sP k) from HZ.out k hk1 hlt)
          have HKZ := Lib.hid (show k < Z.length by rw [HZL.out]; omega)
          clear g1 g2 hr hc hsl
          refine wp_seq_k (fun K hK => ?_)
          have HK := Lib.hid hK
          clear hK
          go_wp2
          refine HK.out _ _ ?_
          clear HK
          refine wp_seq_k (fun K hK => ?_)
          have HK2 := Lib.hid hK
          clear hK
          refine wp_block ?_
          refine wp_seq_k (fun K hK => ?_)
          have HK := Lib.hid hK
          clear hK
          go_wp2_with (first
                      | (go_at_call 15; refine (hge _ L12 D12).mono ?_; rintro e w13 ⟨rfl, hb13⟩)
                      | ((first | (with_reducible refine wpList_stNew 44 _ _ ?_) | (with_reducible refine wp_stNew 44 _ _ ?_)); refine ⟨_, _, ⟨Tryz.sizeOf44, rfl, rt_new _⟩, rfl, ?_⟩))
          refine HK.out _ _ ?_
          clear HK
          have R14 := heap_alloc_new w13 (Obj.cells (rptA r) 44)
          have hb14 := hb13.trans ((blw w13 (Obj.cells (rptA r) 44)).mono hb13.size)
          have L14 := L12.below hb14
          have D14 := D12.below hb14
          have hr14 := hbr.trans (hb14.mono hbr.size)
          clear hge hb13 L12 D12 hb14 hbr
          generalize w13.alloc (Obj.cells (rptA r) 44) = w14 at *
          generalize w13.heap.size = qr at *
          refine wp_seq_k (fun K hK => ?_)
          have HK := Lib.hid hK
          clear hK
          go_wp2_with (go_at_call 19; refine (hcl _ L14 D14).mono ?_; rintro e w15 ⟨rfl, hb15⟩)
          refine HK.out _ _ ?_
          clear HK
          have R15 := tr_bl hb15 R14
          have hr15 := hr14.trans (hb15.mono hr14.size)
          have W15 := tr_bl hr15 W11
          have T15 := tr_bl hr15 T11
          clear hcl L14 D14 hr14 hb15 R14
          have c0 := blk_cell T15 0 (.int .u8 (p.at' : Int)) rfl
          refine wp_seq_k (fun K hK => ?_)
          go_cut [] (fun wx => Below w15.heap.size w15 wx)
          case first =>
            cases hne : ((k : Int) != 1 + (p.at' : Int) % 24)
            case false =>
              go_wp2_with fail
              refine wp_region_under (by kernel_rfl) (by kernel_rfl) ?_
              repeat (go_big_quiet_step (fail))
              refine wpQuiet_val (by rfl) ?_ ?_ ?_
              rotate_left
              · intro wS hSw
                obtain ⟨x, rfl⟩ := hSw; have c := under_cell c0 x
                go_simp
                (try with_reducible rfl)
              (try simp only [Act.put]); (try simp only [List.setIfInBounds_toArray]); (try simp only [List.set_cons_succ]); (try simp only [List.set_cons_zero])
              repeat (go_big_quiet_step (fail))
              refine wpQuiet_nil ?_
              intro _ hw'
              obtain ⟨xU, hw''⟩ := hw'
              subst hw''
              have hbU := under_below w15 xU
              go_wp2
              go_meet
              exact hbU
            case true =>
              have hki : (k : Int) ≠ i := by rw [← HI.out]; simpa using hne
              have hzr : Z[k]'HKZ.out = r := by
                have h1 := (List.getElem?_eq_some_iff.1 HZK.out).2
                rw [h1, ← HR.out]
                exact (HR3.out (k : Int) (pl_ne (by omega) (by omega) HI1.out.1 HI1.out.2 hki)).symm
              have hwa := was_at HKZ.out
              rw [hzr] at hwa
              have HWA := Lib.hid hwa
              clear hwa hzr hki
              go_wp2_with fail
              refine wp_region_under (by kernel_rfl) (by kernel_rfl) ?_
              repeat (go_big_quiet_step (fail))
              refine wpQuiet_val (by rfl) ?_ ?_ ?_
              rotate_left
              · intro wS hSw
                obtain ⟨x, rfl⟩ := hSw; have c := under_cell c0 x
                go_simp
                (try with_reducible rfl)
              (try simp only [Act.put]); (try simp only [List.setIfInBounds_toArray]); (try simp only [List.set_cons_succ]); (try simp only [List.set_cons_zero])
              repeat (go_big_quiet_step (fail))
              refine wpQuiet_val (by rfl) (.agg (rptA r)) (fun wS hSw => ?_) ?_
              · obtain ⟨x, rfl⟩ := hSw; exact exec_ldB 44 _ ⟨_, _, _, _, _, Tryz.isAgg44, Tryz.sizeOf44, rfl, tr_bl (under_below _ x) R15, arr_all rfl⟩
              (try simp only [Act.put]); (try simp only [List.setIfInBounds_toArray]); (try simp only [List.set_cons_succ]); (try simp only [List.set_cons_zero])
              repeat (go_big_quiet_step (fail))
              refine wpQuiet_val (by rfl) (.agg (rptA r)) (fun wS hSw => ?_) ?_
              · obtain ⟨x, rfl⟩ := hSw; exact exec_ldB 44 _ ⟨_, _, _, _, _, Tryz.isAgg44, Tryz.sizeOf44, rfl, tr_bl (under_below _ x) W15, HWA.out⟩
              (try simp only [Act.put]); (try simp only [List.setIfInBounds_toArray]); (try simp only [List.set_cons_succ]); (try simp only [List.set_cons_zero])
              refine wpQuiet_val (by rfl) (.bool false) (fun wS hSw => ?_) ?_
              · have hq := run_gqN (.tmp 148) (.tmp 151) (rptA r) (rptA r) wS; have he := neRp r wS; unfold execOp; simp [Act.eval, hq, he]
              (try simp only [Act.put]); (try simp only [List.setIfInBounds_toArray]); (try simp only [List.set_cons_succ]); (try simp only [List.set_cons_zero])
              repeat (go_big_quiet_step (fail))
              refine wpQuiet_nil ?_
              intro _ hw'
              obtain ⟨xU, hw''⟩ := hw'
              subst hw''
              have hbU := under_below w15 xU
              go_wp2
              go_meet
              exact hbU
          refine hK _ _ ?_
          clear hK
          have R16 := tr_bl hcut R15
          have hr16 := hr15.trans (hcut.mono hr15.size)
          clear R15 hr15 W15 T15 hcut c0
          by_cases hc3 : c = 3
          case pos =>
            subst hc3
            have HTO := Lib.hid (show toldC (slotW d3 sP t) = true by rw [HS.out]; rfl)
            have HCN := Lib.hid (cnt_yes HTO.out)
            have hat : A[cntT d3 sP t]? = some r := by
              have h := told_at HTO.out 24 (by have := HKT.out; omega)
              rw [HS.out] at h
              rw [← HA.out]
              exact h
            have hIlt : (cntT d3 sP t : Int) < A.length := by
              have := (List.getElem?_eq_some_iff.1 hat).1
              omega
            have hge35 : decide (A.length ≤ cntT d3 sP t) = false := decide_eq_false (by omega)
            obtain ⟨b, off, rfl, _, cs⟩ := (hRA.below0 hr16).flat rptC_len (by omega) hat
            clear hat
            refine wp_seq_k (fun K hK => ?_)
            have HK := Lib.hid hK
            clear hK
            go_wp2
            refine HK.out _ _ ?_
            clear HK
            refine wp_cond_true rfl ?_
            refine wp_seq_k (fun K hK => ?_)
            have HK6 := Lib.hid hK
            clear hK
            refine wp_seq_k (fun K hK => ?_)
            have HK7 := Lib.hid hK
            clear hK
            go_wp2_with fail
            refine wp_region_under (by kernel_rfl) (by kernel_rfl) ?_
            repeat (go_big_quiet_step (fail))
            refine wpQuiet_val (by rfl) (.agg (rptA r)) (fun wS hSw => ?_) ?_
            · obtain ⟨x, rfl⟩ := hSw; exact exec_ldC 44 _ ⟨_, _, _, Tryz.isAgg44, Tryz.sizeOf44, rfl, rfl, fun j u hu => under_cell (cs j u (by rw [rptC, Array.getElem?_toList]; exact hu)) x⟩
            (try simp only [Act.put]); (try simp only [List.setIfInBounds_toArray]); (try simp only [List.set_cons_succ]); (try simp only [List.set_cons_zero])
            refine wpQuiet_val (by rfl) (.agg (rptA r)) (fun wS hSw => ?_) ?_
            · obtain ⟨x, rfl⟩ := hSw; exact exec_ldB 44 _ ⟨_, _, _, _, _, Tryz.isAgg44, Tryz.sizeOf44, rfl, tr_bl (under_below _ x) R16, arr_all rfl⟩
            (try simp only [Act.put]); (try simp only [List.setIfInBounds_toArray]); (try simp only [List.set_cons_succ]); (try simp only [List.set_cons_zero])
            refine wpQuiet_val (by rfl) (.bool false) (fun wS hSw => ?_) ?_
            · have hq := run_gqN (.tmp 169) (.tmp 170) (rptA r) (rptA r) wS; have he := neRp r wS; unfold execOp; simp [Act.eval, hq, he]
            (try simp only [Act.put]); (try simp only [List.setIfInBounds_toArray]); (try simp only [List.set_cons_succ]); (try simp only [List.set_cons_zero])
            repeat (go_big_quiet_step (fail))
            refine wpQuiet_nil ?_
            intro _ hw'
            obtain ⟨xU, hw''⟩ := hw'
            subst hw''
            have hbU := under_below wc xU
            have hr17 := hr16.trans (hbU.mono hr16.size)
            go_wp2
            refine HK7.out _ _ ?_
            clear HK7
            go_wp2
            refine HK6.out _ _ ?_
            clear HK6
            go_wp2
            (try simp only [Exit.inBlock, Exit.then])
            refine HK2.out _ _ ?_
            clear HK2
            go_wp2
            go_roundw
            case rel => exact ⟨k + 1, t + 1, Lib.hid (congrArg (· + 1) HKT.out), by omega, by have := HLT.out; omega, by simp, by rw [HCN.out]; simp, hr17⟩
            case measure => have := HLT.out; simp [intOf]; omega
          case neg =>
            by_cases hc2 : c = 2
            case pos =>
              subst hc2
              clear hc3
              have HTO := Lib.hid (show toldC (slotW d3 sP t) = true by rw [HS.out]; rfl)
              have HCN := Lib.hid (cnt_yes HTO.out)
              have hat : A[cntT d3 sP t]? = some r := by
                have h := told_at HTO.out 24 (by have := HKT.out; omega)
                rw [HS.out] at h
                rw [← HA.out]
                exact h
              have hIlt : (cntT d3 sP t : Int) < A.length := by
                have := (List.getElem?_eq_some_iff.1 hat).1
                omega
              have hge35 : decide (A.length ≤ cntT d3 sP t) = false := decide_eq_false (by omega)
              obtain ⟨b, off, rfl, _, cs⟩ := (hRA.below0 hr16).flat rptC_len (by omega) hat
              clear hat
              refine wp_seq_k (fun K hK => ?_)
              have HK := Lib.hid hK
              clear hK
              go_wp2
              refine HK.out _ _ ?_
              clear HK
              refine wp_cond_true rfl ?_
              refine wp_seq_k (fun K hK => ?_)
              have HK6 := Lib.hid hK
              clear hK
              refine wp_seq_k (fun K hK => ?_)
              have HK7 := Lib.hid hK
              clear hK
              go_wp2_with fail
              refine wp_region_under (by kernel_rfl) (by kernel_rfl) ?_
              repeat (go_big_quiet_step (fail))
              refine wpQuiet_val (by rfl) (.agg (rptA r)) (fun wS hSw => ?_) ?_
              · obtain ⟨x, rfl⟩ := hSw; exact exec_ldC 44 _ ⟨_, _, _, Tryz.isAgg44, Tryz.sizeOf44, rfl, rfl, fun j u hu => under_cell (cs j u (by rw [rptC, Array.getElem?_toList]; exact hu)) x⟩
              (try simp only [Act.put]); (try simp only [List.setIfInBounds_toArray]); (try simp only [List.set_cons_succ]); (try simp only [List.set_cons_zero])
              refine wpQuiet_val (by rfl) (.agg (rptA r)) (fun wS hSw => ?_) ?_
              · obtain ⟨x, rfl⟩ := hSw; exact exec_ldB 44 _ ⟨_, _, _, _, _, Tryz.isAgg44, Tryz.sizeOf44, rfl, tr_bl (under_below _ x) R16, arr_all rfl⟩
              (try simp only [Act.put]); (try simp only [List.setIfInBounds_toArray]); (try simp only [List.set_cons_succ]); (try simp only [List.set_cons_zero])
              refine wpQuiet_val (by rfl) (.bool false) (fun wS hSw => ?_) ?_
              · have hq := run_gqN (.tmp 169) (.tmp 170) (rptA r) (rptA r) wS; have he := neRp r wS; unfold execOp; simp [Act.eval, hq, he]
              (try simp only [Act.put]); (try simp only [List.setIfInBounds_toArray]); (try simp only [List.set_cons_succ]); (try simp only [List.set_cons_zero])
              repeat (go_big_quiet_step (fail))
              refine wpQuiet_nil ?_
              intro _ hw'
              obtain ⟨xU, hw''⟩ := hw'
              subst hw''
              have hbU := under_below wc xU
              have hr17 := hr16.trans (hbU.mono hr16.size)
              go_wp2
              refine HK7.out _ _ ?_
              clear HK7
              go_wp2
              refine HK6.out _ _ ?_
              clear HK6
              go_wp2
              (try simp only [Exit.inBlock, Exit.then])
              refine HK2.out _ _ ?_
              clear HK2
              go_wp2
              go_roundw
              case rel => exact ⟨k + 1, t + 1, Lib.hid (congrArg (· + 1) HKT.out), by omega, by have := HLT.out; omega, by simp, by rw [HCN.out]; simp, hr17⟩
              case measure => have := HLT.out; simp [intOf]; omega
            case neg =>
              have hx3 : (c == 3) = false := by simpa using hc3
              have hx2 : (c == 2) = false := by simpa using hc2
              have HCN := Lib.hid (show cntT d3 sP (t + 1) = cntT d3 sP t from cnt_no (by rw [HS.out]; unfold toldC; simp only [hx3, hx2]; rfl))
              clear hc3 hc2
              refine wp_seq_k (fun K hK => ?_)
              have HK := Lib.hid hK
              clear hK
              go_wp2
              refine HK.out _ _ ?_
              clear HK
              go_wp2
              (try simp only [Exit.inBlock, Exit.then])
              refine HK2.out _ _ ?_
              clear HK2
              go_wp2
              go_roundw
              case rel => exact ⟨k + 1, t + 1, Lib.hid (congrArg (· + 1) HKT.out), by omega, by have := HLT.out; omega, by simp, by rw [HCN.out], hr16⟩
              case measure => have := HLT.out; simp [intOf]; omega
        · obtain rfl : k = 25 := by omega
          obtain rfl : t = 24 := by have := HKT.out; omega
          go_wp2
          go_meet
          exact ⟨rfl, hbr⟩
    obtain ⟨rfl, hbr⟩ := hcut
    refine hK _ _ ?_
    clear hK
    rw [HAL.out]
    go_wp2
    go_ret
    exact ⟨by simp, k11.trans (hbr.mono k11.size)⟩
end Go.Proofs.YtknchbhobopkeaaGreatDoor
namespace Go.Proofs.YtknchbhobopkeaaGreatDoor
open Go.ChangeShapes Go.WideShapes Go.ChangeAt Go.RowKit
theorem cellsU8 : Tryz.prog.cellsOf 5 = 1 := by kernel_rfl
set_option maxRecDepth 100000 in
theorem open_bytes {H : Type} {enc : TypeId × Value → H} {W : World} {base : Nat} {sp : Nat → Bool} {hd : Bool} {b0 : Nat} {v : Value} {d : DataW H} {p : List MemPlace}
    (hv : Value.okWide Tryz.prog W .any base 75 v) (h : DataW.Trod enc Tryz.prog W b0 sp hd 75 v d p) : ∃ (a : Option Addr) (l : List UInt8) (cap : Nat), v = .slice a l.length cap ∧ SlB W a cap l := by
  obtain ⟨a, l, cap, rfl, hr, hl, hc, hw⟩ := open_row_ints Tryz.underlying75 Tryz.underlying5 cellsU8 hv h
  have hnil : a = none → cap = 0 := by
    rintro rfl
    obtain ⟨fuel, hf⟩ := h
    rcases open_ints Tryz.underlying75 Tryz.underlying5 cellsU8 hf with ⟨hcs, hx⟩ | ⟨a, len', cap', zs, hcs, _⟩
    · simp [Value.cells] at hcs
      exact hcs.2
    · simp [Value.cells] at hcs
  have hb : ∀ n ∈ l, 0 ≤ n ∧ n < 256 := fun n hn => by
    have h1 := hw n hn
    have m0 : IntKind.u8.min = 0 := by decide
    have m1 : IntKind.u8.max = 255 := by decide
    replace h1 : (decide (IntKind.u8.min ≤ n) && decide (n ≤ IntKind.u8.max)) = true := h1
    rw [m0, m1, Bool.and_eq_true, decide_eq_true_eq, decide_eq_true_eq] at h1
    omega
  refine ⟨a, l.map (fun n => UInt8.ofNat n.toNat), cap, by simp, ?_, by simpa using hl, hc, hnil⟩
  have e : bys (l.map (fun n => UInt8.ofNat n.toNat)) = l.map (Value.int .u8) := by
    unfold bys
    rw [List.map_map]
    refine List.map_congr_left fun n hn => ?_
    have := hb n hn
    simp only [Function.comp, byv]
    rw [show ((UInt8.ofNat n.toNat).toNat : Int) = n by rw [UInt8.toNat_ofNat']; omega]
  rw [e]
  exact hr
theorem open_u8 {H : Type} {enc : TypeId × Value → H} {W : World} {sp : Nat → Bool} {hd : Bool} {b0 : Nat} {v : Value} {d : DataW H} {p : List MemPlace} (hv : ∃ x, v = .int .u8 x)
    (h : DataW.Trod enc Tryz.prog W b0 sp hd 5 v d p) : ∃ x : UInt8, v = .int .u8 x.toNat := by
  obtain ⟨y, rfl⟩ := hv
  obtain ⟨fuel, hf⟩ := h
  obtain ⟨n, q, hw, h1⟩ := DataW.trod_int Tryz.underlying5 hf
  simp [Value.cells] at q
  subst q
  have m0 : IntKind.u8.min = 0 := by decide
  have m1 : IntKind.u8.max = 255 := by decide
  replace h1 : (decide (IntKind.u8.min ≤ y) && decide (y ≤ IntKind.u8.max)) = true := h1
  rw [m0, m1, Bool.and_eq_true, decide_eq_true_eq, decide_eq_true_eq] at h1
  exact ⟨UInt8.ofNat y.toNat, by rw [show ((UInt8.ofNat y.toNat).toNat : Int) = y by rw [UInt8.toNat_ofNat']; omega]⟩
end Go.Proofs.YtknchbhobopkeaaGreatDoor
