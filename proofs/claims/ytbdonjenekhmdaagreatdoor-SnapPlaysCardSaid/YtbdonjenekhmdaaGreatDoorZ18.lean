/- Texts that the claim leans on, part 18: S14, S15, C31, C32, DP, C33, U0, U7. -/
import Derived.Test.YtbdonjenekhmdaaGreatDoorZ1
import Derived.Test.YtbdonjenekhmdaaGreatDoorZ2
import Derived.Test.YtbdonjenekhmdaaGreatDoorZ3
import Derived.Test.YtbdonjenekhmdaaGreatDoorZ4
import Derived.Test.YtbdonjenekhmdaaGreatDoorZ5
import Derived.Test.YtbdonjenekhmdaaGreatDoorZ6
import Derived.Test.YtbdonjenekhmdaaGreatDoorZ7
import Derived.Test.YtbdonjenekhmdaaGreatDoorZ8
import Derived.Test.YtbdonjenekhmdaaGreatDoorZ9
import Derived.Test.YtbdonjenekhmdaaGreatDoorZ10
import Derived.Test.YtbdonjenekhmdaaGreatDoorZ11
import Derived.Test.YtbdonjenekhmdaaGreatDoorZ12
import Derived.Test.YtbdonjenekhmdaaGreatDoorZ13
import Derived.Test.YtbdonjenekhmdaaGreatDoorZ14
import Derived.Test.YtbdonjenekhmdaaGreatDoorZ15
import Derived.Test.YtbdonjenekhmdaaGreatDoorZ16
import Derived.Test.YtbdonjenekhmdaaGreatDoorZ17
import Derived.Test.YtbdonjenekhmdaaGreatDoorRows
import Derived.WalkKit
import Derived.WalkSpells
import Derived.WalkLawsBesides
import Derived.Handy
import Derived.Deep.QuietTactic
import Derived.BigQuiet
import Derived.Deep.DeepCutAuto
import Derived.Lib.Hide
import Derived.RegionTactic
import Derived.ChangeAlike
import Derived.Laws.ResultCell
import Derived.Outline
import Derived.IntWalk
import Derived.Lib.SliceRun
import Derived.Laws.MakeOwn
import Derived.Laws.OwnMore
import Derived.Laws.BitsAllLaws
import Derived.Laws.IdiomStrings
import Derived.Laws.BytesArg
import Derived.Carry
import Derived.Maps.Own
import Derived.Maps.Keyed
import Derived.RangeFuncNested
import Derived.RangeFuncBound
import Derived.RangeFuncCalls
import Derived.RangeFuncLeaves
import Derived.RangeFuncBox
import Derived.RangeFuncRecord
import Derived.Shelf.Abstract
import Derived.Shelf.RegionOpen
import Derived.OwnWalkIn
import Derived.TacticsInMore
import Derived.LoopNIn
import Derived.LoopIn
import Derived.OrdersIn
import Derived.OrdersHeld
import Derived.Maps.AppendAt
import Derived.Great.BuildSlice
import Derived.Great.FillDense
import Derived.Laws.Rows
import Derived.Deep.Quiet
import Derived.Deep.RegionHeld3
import Derived.ProofKit
import Derived.OpenShut
import Derived.Deep.RegionHeld
import Derived.Laws.CopyOwn
import Derived.Laws.CopyRow
import Derived.Laws.NewBlocks
import Derived.Deep.RegionLaw
namespace Go.Proofs.YtbdonjenekhmdaaGreatDoor
open Go.RowKit
section
variable {B g gp q mb base : Nat} {wv v : Value} {d : Dk} {w w1 w2 : World} {s : Sh} {T : TypeId} {cs : Array Value} {l : List (List UInt8)}
theorem ne_ty {j : Nat} {xs : Array Value} {T' : TypeId} (hc : w.heap[mb]? = some (.cells cs T (0, 0))) (hj : w.heap[j]? = some (.cells xs T' (0, 0))) (hT : T' ≠ T) : mb ≠ j := fun e => by
 subst e
 rw [hc] at hj
 injection hj with hj
 injection hj with _ e
 exact hT e.symm
theorem DiskB.ot (h : DiskB B g gp wv d w) (hg : w.grownBy w1 (some mb)) (hc : w.heap[mb]? = some (.cells cs T (0, 0))) (h1 : 95 ≠ T) (h2 : 255 ≠ T) (h3 : 219 ≠ T) : DiskB B g gp wv d w1 :=
 ⟨tr_st hg h.box (ne_ty hc h.box h1), tr_st hg h.pls (ne_ty hc h.pls h2), owns_ne h.wts hg hc h3, h.gb, h.pb, h.n0, h.nl, h.lo, h.hi, h.ok, h.wk⟩
theorem ShB.ot (h : ShB w q g s) (hg : w.grownBy w1 (some mb)) (hc : w.heap[mb]? = some (.cells cs T (0, 0))) (h1 : 101 ≠ T) : ShB w1 q g s := tr_st hg h (ne_ty hc h h1)
theorem Kt.nw (h : Kt B w w1) (hg : w1.grownBy w2 (some mb)) (hq : w.heap.size ≤ mb) (hB : B ≤ w.heap.size) : Kt B w w2 :=
 ⟨h.bl.grown hg (Nat.le_trans hB h.bl.size) (fun k e => by cases e; omega), fun j cs T a b c e => tr_st hg (h.ty j cs T a b c e) (by have := lt_blk a; omega)⟩
theorem ChIn.ot (h : ChIn w base v l) (hg : w.grownBy w1 (some mb)) (hc : w.heap[mb]? = some (.cells cs T (0, 0))) (h1 : 37 ≠ T) (h2 : 5 ≠ T) : ChIn w1 base v l := by
 obtain ⟨es, r1, r2, r3⟩ := h
 refine ⟨es, ⟨r1.1, ?_⟩, r2, fun e he => ⟨?_, (r3 e he).2⟩⟩
 ·rcases r1.2 with h4 | ⟨g, cap, cur, h4, h5, h6, h7⟩
  ·exact .inl h4
  ·exact .inr ⟨g, cap, cur, h4, h5, tr_st hg h6 (ne_ty hc h6 h1), h7⟩
 ·rcases (r3 e he).1 with h4 | ⟨g, ys, h4, h5, h6, h7, h8⟩
  ·exact .inl h4
  ·exact .inr ⟨g, ys, h4, h5, h6, h7, tr_st hg h8 (ne_ty hc h8 h2)⟩
theorem man_set {i a c a' : Int} (h : w.heap[mb]? = some (.cells #[.int .i64 i, .int .i64 a, .int .i64 c] T (0, 0))) : (w.setCell ⟨mb, 1, none⟩ (.int .i64 a')).heap[mb]? = some (.cells #[.int .i64 i, .int .i64 a', .int .i64 c] T (0, 0)) := by
 obtain ⟨hlt, hk⟩ := Array.getElem?_eq_some_iff.1 h
 show (w.heap.modify mb _)[mb]? = _
 rw [Array.getElem?_eq_getElem (by rw [Array.size_modify]; exact hlt), Array.getElem_modify_self, hk]
 rfl
theorem gb_set (w : World) (mb k : Nat) (v : Value) : w.grownBy (w.setCell ⟨mb, k, none⟩ v) (some mb) :=
 ⟨rfl, rfl, rfl, (KeepsWalks.setCell w _ v).size, fun k _ hk => Below.heap_setCell _ _ _ k (fun e => hk (by rw [e]))⟩
theorem nextS_area (s : Sh) (idx : Int) (n : Nat) : (nextS s idx n).area = if 0 < s.idx then 1 - s.area else 0 := rfl
set_option maxRecDepth 100000 in
set_option maxHeartbeats 16000000 in
theorem sinst_ok (h : ShB w q g s) (hd : DiskB B g gp wv d w) (hb : B ≤ w.heap.size) (hq : B ≤ q) (hok : ShOk s) (idx : Int) (a : Option Addr) (cap : Nat) (b : List UInt8) (hs : SlB w a cap b) (i1 : s.idx < idx) (i2 : idx ≤ 1099511627752) (hl : b.length ≤ 640) (hu : upD d = true) (hw : d.waits.length ≤ 900) :
  Calls Tryz.prog 11 #[.pointer (some ⟨q, 0, none⟩), .int .i64 idx, .slice a b.length cap] w (IRes B g gp q w (installS d s idx b)) := by
 have hn8 := numC_le hl
 have hal := nextS_alike hok (n := numC b.length) i1 i2 hn8.1 hn8.2
 have hin : installS d s idx b = if (putsS d (nextS s idx (numC b.length)) 0 (splitC b)).2 ≠ 0 then ((putsS d (nextS s idx (numC b.length)) 0 (splitC b)).1, s, (putsS d (nextS s idx (numC b.length)) 0 (splitC b)).2) else
   if (flushD (putsS d (nextS s idx (numC b.length)) 0 (splitC b)).1).2 ≠ 0 then ((flushD (putsS d (nextS s idx (numC b.length)) 0 (splitC b)).1).1, s, (flushD (putsS d (nextS s idx (numC b.length)) 0 (splitC b)).1).2) else
   if (storeC (flushD (putsS d (nextS s idx (numC b.length)) 0 (splitC b)).1).1 s.rep 2 s.inc (manB idx (nextS s idx (numC b.length)).area (numC b.length))).2 ≠ 0 then ((storeC (flushD (putsS d (nextS s idx (numC b.length)) 0 (splitC b)).1).1 s.rep 2 s.inc (manB idx (nextS s idx (numC b.length)).area (numC b.length))).1, s, (storeC (flushD (putsS d (nextS s idx (numC b.length)) 0 (splitC b)).1).1 s.rep 2 s.inc (manB idx (nextS s idx (numC b.length)).area (numC b.length))).2) else
   ((storeC (flushD (putsS d (nextS s idx (numC b.length)) 0 (splitC b)).1).1 s.rep 2 s.inc (manB idx (nextS s idx (numC b.length)).area (numC b.length))).1, nextS s idx (numC b.length), 0) := by
  unfold installS
  rw [if_neg (by omega), if_neg (by omega), if_neg (by simp [hu])]
  rfl
 obtain ⟨r, hr⟩ : ∃ r, installS d s idx b = r := ⟨_, rfl⟩
 rw [hr]
 rw [hr] at hin
 have HIN := Lib.hid hin
 clear hr hin
 have hsl := splitC_len b
 have hsat := fun j (hj : j < (splitC b).length) => splitC_at b hj
 have hpl := fun k => pcC_len b k
 have hsp := split_any a cap b w hs
 have i1' : ¬ idx ≤ s.idx := by omega
 have i2' : ¬ 1099511627752 < idx := by omega
 have h6 : ¬ 640 < b.length := by omega
 have c0 := h.c0
 obtain ⟨n, hn⟩ : ∃ n, numC b.length = n := ⟨_, rfl⟩
 rw [hn] at hn8 hal hsl
 have HNN := Lib.hid hn
 have HSL := Lib.hid hsl
 have HI := Lib.hid (And.intro i1 i2)
 have HSA := Lib.hid hsat
 have HPC := Lib.hid hpl
 clear hn hsl i1 i2 hs hsat hpl
 have ci := hok.a
 go_enter Tryz.func11, Tryz.ntmps11
 refine seqH (fun K HK => ?_)
 go_wp2
 refine HK.out _ _ ?_
 clear HK
 refine seqH (fun K HK => ?_)
 go_wp2_with (go_at_call 41; refine (snone_any h).mono ?_; rintro e w1 ⟨rfl, rfl⟩)
 refine HK.out _ _ ?_
 clear HK
 refine seqH (fun K HK => ?_)
 go_wp2_with (go_at_call 42; refine hsp.mono ?_; rintro e w2 ⟨hr2, hb2⟩; unfold SplRes at hr2; rw [if_neg h6, HNN.out] at hr2; obtain ⟨a2, c2, rfl, hc2⟩ := hr2)
 refine HK.out _ _ ?_
 clear HK
 have S2 := h.below hb2
 have D2 := hd.below hb2
 have cc3 := S2.c3
 have hup := up_any D2
 rw [hu] at hup
 clear c0 hsp hd
 refine seqH (fun K HK => ?_)
 go_wp2_with (go_at_call 43; refine hup.mono ?_; rintro e w3 ⟨rfl, rfl⟩)
 refine HK.out _ _ ?_
 clear HK
 clear cc3 hup
 refine seqH (fun K HK => ?_)
 go_wp2_with ((first | (with_reducible refine wpList_stNew 99 _ _ ?_) | (with_reducible refine wp_stNew 99 _ _ ?_)); refine ⟨_, _, ⟨Tryz.sizeOf99, rfl, new3s _ _ _⟩, rfl, ?_⟩)
 refine HK.out _ _ ?_
 clear HK
 have M3 := heap_alloc_new w2 (Obj.cells #[.int .i64 idx, .int .i64 0, .int .i64 (n : Int)] 99)
 have hbn := blw w2 (Obj.cells #[.int .i64 idx, .int .i64 0, .int .i64 (n : Int)] 99)
 have S3 := S2.below hbn
 have D3 := D2.below hbn
 have C3 := hc2.below hbn
 have hwm := hb2.size
 have k3 := (Kt.of hb2 hb).trans (Kt.of hbn (Nat.le_trans hb hb2.size))
 clear S2 D2 hc2 hb2 hbn
 generalize w2.alloc (Obj.cells #[.int .i64 idx, .int .i64 0, .int .i64 (n : Int)] 99) = w3 at *
 generalize w2.heap.size = mb at *
 have hna := nextS_area s idx n
 have c0 := S3.c0
 have c1 := S3.c1
 have m1 := (man_cells M3).2.1
 have mf : w3.frozen? ⟨mb, 1, none⟩ = false := by simp [World.frozen?, M3]
 obtain ⟨ar, har⟩ : ∃ ar, (nextS s idx n).area = ar := ⟨_, rfl⟩
 rw [har] at hna
 have HAR := Lib.hid har
 clear har
 refine wp_seq_k (fun K hK => ?_)
 go_cut [] (fun wx => DiskB B g gp wv d wx ∧ ShB wx q g s ∧ wx.heap[mb]? = some (.cells #[.int .i64 idx, .int .i64 ar, .int .i64 (n : Int)] 99 (0, 0)) ∧ ChIn wx w.heap.size (.slice a2 n c2) (splitC b) ∧ Kt B w wx)
 case first =>
  by_cases h0 : 0 < s.idx
  ·rw [if_pos h0] at hna
   subst hna
   go_wp2
   go_meet
   exact ⟨D3.ot (gb_set _ _ _ _) M3 (by decide) (by decide) (by decide), S3.ot (gb_set _ _ _ _) M3 (by decide), man_set M3, C3.ot (gb_set _ _ _ _) M3 (by decide) (by decide), k3.nw (gb_set _ _ _ _) hwm hb⟩
  ·rw [if_neg h0] at hna
   subst hna
   go_wp2
   go_meet
   exact ⟨D3, S3, M3, C3, k3⟩
 obtain ⟨D4, S4, M4, C4, k4⟩ := hcut
 refine hK _ _ ?_
 clear hK c0 c1 m1 mf hna D3 S3 M3 C3 k3 hwm ci
 obtain ⟨es, e1, e2, e3⟩ := id C4
 have hwb : Below w.heap.size w w := Below.refl _ _
 clear e1 e2 e3 es hwb
 refine seqH (fun K HK => ?_)
 go_wp2_with fail
 go_loopw [65] (fun i wr => ∃ (j : Nat) (dj : Dk), j ≤ n ∧ i = .int .i64 (j : Nat) ∧ Hid (putsS d (nextS s idx n) 0 ((splitC b).take j) = (dj, 0)) ∧ (∃ wv', DiskB B g gp wv' dj wr) ∧ ShB wr q g s ∧ wr.heap[mb]? = some (.cells #[.int .i64 idx, .int .i64 ar, .int .i64 (n : Int)] 99 (0, 0)) ∧ ChIn wr w.heap.size (.slice a2 n c2) (splitC b) ∧ Kt B w wr) (fun i _ => n - (intOf i).toNat)
 case atStart => exact ⟨0, d, by omega, rfl, Lib.hid rfl, ⟨_, D4⟩, S4, M4, C4, k4⟩
 case round =>
  clear D4 S4 M4 C4 k4
  obtain ⟨j, dj, hj, rfl, hpj, ⟨wvj, D5⟩, S5, M5, C5, k5⟩ := hrel
  by_cases hlt : j < n
  case neg =>
   obtain rfl : j = n := by omega
   have hall : putsS d (nextS s idx j) 0 (splitC b) = (dj, 0) := by
    have h1 := hpj.out
    rw [← HSL.out, List.take_length, HSL.out] at h1
    exact h1
   have hwj : dj.waits.length ≤ 1000 := by
    have h1 := puts_waits (nextS s idx j) (splitC b) d 0
    rw [hall, HSL.out] at h1
    simp only at h1
    omega
   have hB5 := Nat.le_trans hb k5.bl.size
   have hfl := flush_any D5 hB5
   obtain ⟨d6, x6, hf6⟩ : ∃ d6 x6, flushD dj = (d6, x6) := ⟨_, _, rfl⟩
   rw [hf6] at hfl
   have hw6 : d6.waits.length ≤ 1000 := by
    rcases flush_pl dj with ⟨_, h1⟩ | ⟨_, h1⟩ <;> rw [hf6] at h1 <;> simp only at h1 <;> rw [h1]
    ·exact hwj
    ·simp
   have hin := HIN.out
   rw [HNN.out, hall] at hin
   simp only at hin
   rw [hf6] at hin
   simp only at hin
   have HIN2 := Lib.hid hin
   clear hin hall hpj HIN hf6
   have c3 := S5.c3
   go_wp2
   refine HK.out _ _ ?_
   clear HK
   by_cases hx : x6 = 0
   case neg =>
    have ex : (x6 != 0) = true := by rw [bne_iff_ne]; exact hx
    have hrr : r = (d6, s, x6) := by
     rw [HIN2.out]
     exact if_pos hx
    clear HIN2 hx
    go_wp2_with (go_at_call 45; refine hfl.mono ?_; rintro e w7 ⟨rfl, ⟨wv7, D7⟩, k7⟩)
    go_ret
    exact IRes.of hrr ⟨_, D7⟩ (S5.kt k7) (k5.trans k7).kq
   case pos =>
    subst hx
    refine seqH (fun K HK => ?_)
    go_wp2_with (go_at_call 45; refine hfl.mono ?_; rintro e w7 ⟨rfl, ⟨wv7, D7⟩, k7⟩)
    refine HK.out _ _ ?_
    clear HK
    have S7 := S5.kt k7
    have M7 := k7.ty _ _ _ M5 (by decide) (by decide) (by decide)
    have k8 := k5.trans k7
    have hB7 := Nat.le_trans hb k8.bl.size
    clear c3 hfl D5 S5 M5 C5 k5 k7 hB5
    refine seqH (fun K HK1 => ?_)
    refine seqH (fun K HK2 => ?_)
    go_wp2_with fail
    have hbd := (Below.refl w7.heap.size w7).drew
    have D9 := D7.below hbd
    have S9 := S7.below hbd
    have M9 := tr_bl hbd M7
    have k9 := k8.trans (Kt.of hbd hB7)
    have hB9 := Nat.le_trans hB7 hbd.size
    refine wp_region_held_drew (S := fun w' => ShB w' q g s ∧ w'.heap[mb]? = some (.cells #[.int .i64 idx, .int .i64 ar, .int .i64 (j : Int)] 99 (0, 0))) (by kernel_rfl) ⟨S9, M9⟩ (fun hS0 => ?_)
    clear hbd D7 S7 M7 k8 hB7
    generalize w7.drew = x0 at *
    refine tkT 0 rfl (by intro wS hSw; go_simp; (try with_reducible rfl)) ?_
    refine tkT 1 rfl (by intro wS hSw; go_simp; (try with_reducible rfl)) ?_
    refine tkT 2 rfl (by intro wS hSw; go_simp; (try with_reducible rfl)) ?_
    refine tkT 3 rfl (by intro wS hSw; have c := hSw.1.c3; go_simp; (try with_reducible rfl)) ?_
    refine tkT 4 rfl (by intro wS hSw; go_simp; (try with_reducible rfl)) ?_
    refine tkT 5 rfl (by intro wS hSw; go_simp; (try with_reducible rfl)) ?_
    refine tkT 6 rfl (by intro wS hSw; go_simp; (try with_reducible rfl)) ?_
    refine tkT 7 rfl (by intro wS hSw; have c := hSw.1.c4; go_simp; (try with_reducible rfl)) ?_
    refine tkT 8 rfl (by intro wS hSw; go_simp; (try with_reducible rfl)) ?_
    refine tkT 9 rfl (by intro wS hSw; go_simp; (try with_reducible rfl)) ?_
    refine tkT 10 rfl (by intro wS hSw; go_simp; (try with_reducible rfl)) ?_
    refine tkT 11 rfl (by intro wS hSw; have c := hSw.1.c5; go_simp; (try with_reducible rfl)) ?_
    refine tkT 12 (v := .agg (#[.int .i64 idx, .int .i64 ar, .int .i64 (j : Int)])) rfl (by intro wS hSw; exact exec_ldB 99 _ ⟨_, _, _, _, _, Tryz.isAgg99, Tryz.sizeOf99, rfl, hSw.2, ld3s _ _ _⟩) ?_
    refine rdy1 13 rfl (fun K' hK' => ?_)
    go_simp
    have hmm : mayMan idx ar (j : Int) := by
     have h1 := hal.ok.a
     rw [HAR.out] at h1
     have h2 := HI.out
     have h3 := hok.i
     exact ⟨by omega, h2.2, h1.1, h1.2, by omega, by omega⟩
    refine (sbody_any idx ar (j : Int) hmm _).mono ?_
    rintro e w10 ⟨⟨a10, c10, rfl, hO10⟩, hb10⟩
    have D10 := D9.below hb10
    have S10 := S9.below hb10
    have M10 := tr_bl hb10 M9
    have k10 := k9.trans (Kt.of hb10 hB9)
    have hB10 := Nat.le_trans hB9 hb10.size
    refine hK'.out _ _ ⟨S10, M10⟩ (fun _ => ?_)
    clear hK' D9 S9 M9 k9 hB9 hb10 hS0
    (try simp only [Act.put]); (try simp only [List.setIfInBounds_toArray]); (try simp only [List.set_cons_succ]); (try simp only [List.set_cons_zero])
    refine rdy1 14 rfl (fun K' hK' => ?_)
    go_simp
    have hst := cstore_any D10 hB10 s.rep 2 s.inc a10 c10 (manB idx ar (j : Int)) (fun w' hk => (hO10.kt hk).slb) (by rw [manB_len]; omega) hw6
    rw [manB_len] at hst
    obtain ⟨d11, x11, hd11⟩ : ∃ d11 x11, storeC d6 s.rep 2 s.inc (manB idx ar (j : Int)) = (d11, x11) := ⟨_, _, rfl⟩
    rw [hd11] at hst
    have hin := HIN2.out
    rw [HAR.out, hd11] at hin
    simp only at hin
    have HIN3 := Lib.hid hin
    clear hin HIN2 hd11
    refine hst.mono ?_
    rintro e w11 ⟨rfl, ⟨wv11, D11⟩, hk11⟩
    have S11 := S10.kt hk11
    have M11 := hk11.ty _ _ _ M10 (by decide) (by decide) (by decide)
    have k11 := k10.trans hk11
    refine hK'.out _ _ ⟨S11, M11⟩ (fun _ => ?_)
    clear hK' D10 S10 M10 k10 hB10 hk11 hst hO10
    refine tkT 15 rfl (by intro wS hSw; go_simp; (try with_reducible rfl)) ?_
    refine wpAnyH_done (by kernel_rfl) ?_ _
    refine HK2.out _ _ ?_
    clear HK2
    by_cases hy : x11 = 0
    case neg =>
     have ey : (x11 != 0) = true := by rw [bne_iff_ne]; exact hy
     have hrr : r = (d11, s, x11) := by
      rw [HIN3.out]
      exact if_pos hy
     clear HIN3 hy HK1
     go_wp2
     go_ret
     exact IRes.of rfl ⟨_, D11⟩ S11 k11.kq
    case pos =>
     subst hy
     have hrr : r = (d11, nextS s idx j, 0) := by
      rw [HIN3.out]
      exact if_neg (by simp)
     clear HIN3
     go_wp2
     refine HK1.out _ _ ?_
     clear HK1
     have SB : w11.heap[q]? = some (.cells #[.int .i64 s.idx, .int .i64 s.area, .int .i64 s.cnt, .pointer (some ⟨g, 0, none⟩), .int .i64 s.rep, .int .i64 s.inc] 101 (0, 0)) := S11
     go_wp2_with (first
      | ((with_reducible refine wpList_ldB 99 _ ?_); refine ⟨rfl, _, ⟨_, _, _, _, _, Tryz.isAgg99, Tryz.sizeOf99, rfl, ‹_›, ld3s _ _ _⟩, ?_⟩)
      | ((with_reducible refine wpList_stB 99 _ _ ?_); refine ⟨_, _, _, ⟨_, _, _, Tryz.sizeOf99, rfl, SB, st6s _ _ _ _ _ _ idx ar (j : Int)⟩, ?_⟩; intro w12 Z12 g12))
     go_ret
     exact IRes.of hrr ⟨_, D11.sh S11 g12⟩ (by rw [← HAR.out] at Z12; exact Z12) (k11.kq.trans (Kq.st S11 g12 hq))
  case pos =>
   have hlt2 : j < (splitC b).length := by rw [HSL.out]; exact hlt
   obtain ⟨es, e1, e2, e3⟩ := id C5
   have hel : es.length = n := by have := congrArg List.length e2; rw [List.length_map, HSL.out] at this; exact this
   have hje : j < es.length := by omega
   have hej : es[j].2.2 = pcC b j := by
    have h1 : (es.map (·.2.2))[j]? = some es[j].2.2 := by simp [hje]
    rw [e2, List.getElem?_eq_getElem hlt2, HSA.out j hlt2] at h1
    exact (Option.some.inj h1).symm
   have hO := e3 es[j] (List.getElem_mem hje)
   rw [hej] at hO
   obtain ⟨ba, bc, hv, hrw, _, _⟩ := Row.of_owns e1
   injection hv with hv1 hv2 hv3
   clear hv2 hv3
   subst hv1
   obtain ⟨rb, ro, rfl, hcs⟩ := hrw.at (k := j) (by rw [List.length_map]; exact hje)
   have hcj := hcs j (.slice es[j].1 (pcC b j).length es[j].2.1) (by
    rw [List.getElem?_map, List.getElem?_eq_getElem hje]
    show some (ekV es[j]) = _
    unfold ekV
    rw [hej])
   obtain ⟨ea, ec, hee⟩ : ∃ ea ec, es[j].1 = ea ∧ es[j].2.1 = ec := ⟨_, _, rfl, rfl⟩
   rw [hee.1, hee.2] at hO hcj
   have hB5 := Nat.le_trans hb k5.bl.size
   have hwj : dj.waits.length ≤ 1000 := by
    have h1 := puts_waits (nextS s idx n) ((splitC b).take j) d 0
    rw [hpj.out, List.length_take, Nat.min_eq_left (by omega)] at h1
    simp only at h1
    omega
   have hpt := sput_any S5 D5 hB5 hal (j : Int) (by omega) ea ec (pcC b j) hO.slb (by rw [HPC.out]; exact Nat.min_le_left _ _) hwj
   obtain ⟨d6, x6, hp6⟩ : ∃ d6 x6, putS dj (nextS s idx n) (j : Int) (pcC b j) = (d6, x6) := ⟨_, _, rfl⟩
   rw [hp6, show (nextS s idx n).idx = idx from rfl, HAR.out, show (nextS s idx n).cnt = (n : Int) from rfl] at hpt
   have hnx : putsS d (nextS s idx n) 0 ((splitC b).take (j + 1)) = (d6, x6) := puts_next hlt2 hpj.out (by rw [HSA.out j hlt2]; exact hp6)
   have HNX := Lib.hid hnx
   have hI : (j : Int) < (n : Int) := by omega
   clear hp6 hnx hcs hrw e1 e2 e3 hej hee hje hel hO
   by_cases hx : x6 = 0
   case neg =>
    have ex : (x6 != 0) = true := by rw [bne_iff_ne]; exact hx
    have hrr : r = (d6, s, x6) := by
     rw [HIN.out, HNN.out, puts_stop HNX.out hx]
     exact if_pos hx
    clear HIN HK hx
    go_wp2_with (first
     | ((with_reducible refine wpList_ldB 99 _ ?_); refine ⟨rfl, _, ⟨_, _, _, _, _, Tryz.isAgg99, Tryz.sizeOf99, rfl, ‹_›, ld3s _ _ _⟩, ?_⟩)
     | (go_at_call 44; refine hpt.mono ?_; rintro e w7 ⟨rfl, ⟨wv7, D7⟩, k7⟩))
    go_ret
    exact IRes.of hrr ⟨_, D7⟩ (S5.kt k7) (k5.trans k7).kq
   case pos =>
    subst hx
    go_wp2_with (first
     | ((with_reducible refine wpList_ldB 99 _ ?_); refine ⟨rfl, _, ⟨_, _, _, _, _, Tryz.isAgg99, Tryz.sizeOf99, rfl, ‹_›, ld3s _ _ _⟩, ?_⟩)
     | (go_at_call 44; refine hpt.mono ?_; rintro e w7 ⟨rfl, ⟨wv7, D7⟩, k7⟩))
    go_roundw
    case rel => exact ⟨j + 1, d6, by omega, by go_num, HNX, ⟨_, D7⟩, S5.kt k7, k7.ty _ _ _ M5 (by decide) (by decide) (by decide), C5.kt k7, k5.trans k7⟩
    case measure => simp [intOf]; omega
end
end Go.Proofs.YtbdonjenekhmdaaGreatDoor
namespace Go.Proofs.YtbdonjenekhmdaaGreatDoor
open Go.RowKit
def OpRes (B g gp : Nat) (w : World) (r : Dk × Sh × Int) (e : Ending) (w' : World) : Prop :=
 ((r.2.2 = 0 ∧ ∃ q, e = .returned (.tuple #[.pointer (some ⟨q, 0, none⟩), .int .i64 0]) ∧ w.heap.size ≤ q ∧ ShB w' q g r.2.1) ∨ (r.2.2 ≠ 0 ∧ e = .returned (.tuple #[.pointer none, .int .i64 r.2.2]))) ∧ (∃ wv', DiskB B g gp wv' r.1 w') ∧ Kt B w w'
section
variable {B g gp : Nat} {wv : Value} {d : Dk} {w w' : World}
theorem OpRes.err {r : Dk × Sh × Int} {s : Sh} {x : Int} (hr : r = (d, s, x)) (hx : x ≠ 0) (hd : ∃ wv', DiskB B g gp wv' d w') (hk : Kt B w w') : OpRes B g gp w r (.returned (.tuple #[.pointer none, .int .i64 x])) w' := by
 subst hr
 exact ⟨.inr ⟨hx, rfl⟩, hd, hk⟩
theorem OpRes.ok {r : Dk × Sh × Int} {s : Sh} {q : Nat} (hr : r = (d, s, 0)) (hq : w.heap.size ≤ q) (hs : ShB w' q g s) (hd : ∃ wv', DiskB B g gp wv' d w') (hk : Kt B w w') : OpRes B g gp w r (.returned (.tuple #[.pointer (some ⟨q, 0, none⟩), .int .i64 0])) w' := by
 subst hr
 exact ⟨.inl ⟨rfl, q, rfl, hq, hs⟩, hd, hk⟩
theorem load_len2 (hd : DiskB B g gp wv d w) (rep reg : Int) : (loadC d rep reg).2.1.length ≤ 64 := by
 have hc : ∀ i : Int, (copyC d rep reg i).body.length ≤ 64 := fun i => by
  have h1 := mine_len (readD d (firstN reg i)).1 rep reg i
  have h2 := read_len hd (firstN reg i)
  show (mineF (readD d (firstN reg i)).1 rep reg i).2.2.length ≤ 64
  by_cases h0 : (readD d (firstN reg i)).2 = 0
  ·have := h2.1 h0; omega
  ·have := h2.2 h0; rw [this] at h1 ⊢; exact Nat.le_trans h1 (by simp)
 unfold loadC
 split
 ·simp
 ·split
  ·simp
  ·unfold pickC
   simp only
   split
   ·exact hc 1
   ·exact hc 0
set_option maxRecDepth 100000 in
set_option maxHeartbeats 8000000 in
theorem sopen_any (hd : DiskB B g gp wv d w) (hb : B ≤ w.heap.size) (rep inc : Int) (hw : d.waits.length ≤ 1000) : Calls Tryz.prog 8 #[.pointer (some ⟨g, 0, none⟩), .int .i64 rep, .int .i64 inc] w (OpRes B g gp w (openS d rep inc)) := by
 have hn0 := hd.n0
 have e0 : (0 : Int) < d.pl.length := by omega
 obtain ⟨r, hr⟩ : ∃ r, openS d rep inc = r := ⟨_, rfl⟩
 rw [hr]
 have HR := Lib.hid hr
 clear hr
 by_cases j1 : d.pl.length < 156
 ·have e1 : (d.pl.length : Int) < 156 := by omega
  have hin : r = (d, ⟨0, 0, 0, rep, inc⟩, 2) := by
   rw [← HR.out]
   unfold openS
   simp only
   rw [if_pos ⟨hn0, .inl j1⟩]
  clear HR
  go_enter Tryz.func8, Tryz.ntmps8
  go_wp2_with (first
   | (go_at_call 33; refine (dsize hd).mono ?_; rintro e w1 ⟨rfl, rfl⟩)
   | (go_at_call 34; refine (all_any _).mono ?_; rintro e w1 ⟨rfl, hb1⟩))
  go_ret2
  exact OpRes.err hin (by decide) ⟨_, hd.below hb1⟩ (Kt.of hb1 hb)
 have e1 : ¬ (d.pl.length : Int) < 156 := by omega
 by_cases j2 : rep < 0
 ·skip
  have hin : r = (d, ⟨0, 0, 0, rep, inc⟩, 2) := by
   rw [← HR.out]
   unfold openS
   simp only
   rw [if_pos ⟨hn0, .inr (.inl j2)⟩]
  clear HR
  go_enter Tryz.func8, Tryz.ntmps8
  go_wp2_with (first
   | (go_at_call 33; refine (dsize hd).mono ?_; rintro e w1 ⟨rfl, rfl⟩)
   | (go_at_call 34; refine (all_any _).mono ?_; rintro e w1 ⟨rfl, hb1⟩))
  go_ret2
  exact OpRes.err hin (by decide) ⟨_, hd.below hb1⟩ (Kt.of hb1 hb)
 by_cases j3 : 7 ≤ rep
 ·skip
  have hin : r = (d, ⟨0, 0, 0, rep, inc⟩, 2) := by
   rw [← HR.out]
   unfold openS
   simp only
   rw [if_pos ⟨hn0, .inr (.inr (.inl j3))⟩]
  clear HR
  go_enter Tryz.func8, Tryz.ntmps8
  go_wp2_with (first
   | (go_at_call 33; refine (dsize hd).mono ?_; rintro e w1 ⟨rfl, rfl⟩)
   | (go_at_call 34; refine (all_any _).mono ?_; rintro e w1 ⟨rfl, hb1⟩))
  go_ret2
  exact OpRes.err hin (by decide) ⟨_, hd.below hb1⟩ (Kt.of hb1 hb)
 by_cases j4 : inc < 1
 ·skip
  have hin : r = (d, ⟨0, 0, 0, rep, inc⟩, 2) := by
   rw [← HR.out]
   unfold openS
   simp only
   rw [if_pos ⟨hn0, .inr (.inr (.inr (.inl j4)))⟩]
  clear HR
  go_enter Tryz.func8, Tryz.ntmps8
  go_wp2_with (first
   | (go_at_call 33; refine (dsize hd).mono ?_; rintro e w1 ⟨rfl, rfl⟩)
   | (go_at_call 34; refine (all_any _).mono ?_; rintro e w1 ⟨rfl, hb1⟩))
  go_ret2
  exact OpRes.err hin (by decide) ⟨_, hd.below hb1⟩ (Kt.of hb1 hb)
 by_cases j5 : 1099511627776 < inc
 ·skip
  have hin : r = (d, ⟨0, 0, 0, rep, inc⟩, 2) := by
   rw [← HR.out]
   unfold openS
   simp only
   rw [if_pos ⟨hn0, .inr (.inr (.inr (.inr j5)))⟩]
  clear HR
  go_enter Tryz.func8, Tryz.ntmps8
  go_wp2_with (first
   | (go_at_call 33; refine (dsize hd).mono ?_; rintro e w1 ⟨rfl, rfl⟩)
   | (go_at_call 34; refine (all_any _).mono ?_; rintro e w1 ⟨rfl, hb1⟩))
  go_ret2
  exact OpRes.err hin (by decide) ⟨_, hd.below hb1⟩ (Kt.of hb1 hb)
 have hin : r = openS d rep inc := HR.out.symm
 unfold openS at hin
 simp only at hin
 rw [if_neg (by omega)] at hin
 have hll := load_len2 hd rep 2
 have hhe := fun w' wv' (D : DiskB B g gp wv' d w') hB => cheal_any D hB rep 2 hw
 obtain ⟨ver, body, le, hlc⟩ : ∃ ver body le, loadC d rep 2 = (ver, body, le) := ⟨_, _, _, rfl⟩
 rw [hlc] at hin hll
 obtain ⟨d7, x7, hhc⟩ : ∃ d7 x7, healC d rep 2 = (d7, x7) := ⟨_, _, rfl⟩
 rw [hhc] at hin
 simp only [hhc] at hhe
 simp only at hin hll
 have hld : ∀ w' wv', DiskB B g gp wv' d w' → Calls Tryz.prog 35 #[.pointer (some ⟨g, 0, none⟩), .int .i64 rep, .int .i64 2] w' fun e w'' => (∃ a c, e = .returned (.tuple #[.int .i64 ver, .slice a body.length c, .int .i64 le]) ∧ OwnB w'' w'.heap.size a c body) ∧ Below w'.heap.size w' w'' := fun w' wv' D => by
  have hc := cload_any D rep 2
  rw [hlc] at hc
  exact hc
 clear hlc hhc HR
 have HIN := Lib.hid hin
 clear hin
 by_cases hle : le = 0
 case neg =>
  have ee : (le != 0) = true := by rw [bne_iff_ne]; exact hle
  have hrr : Hid (r = (d, ⟨0, 0, 0, rep, inc⟩, le)) := Lib.hid (by rw [HIN.out, if_pos hle])
  clear HIN
  go_enter Tryz.func8, Tryz.ntmps8
  go_wp2_with (first
   | (go_at_call 33; refine (dsize hd).mono ?_; rintro e w1 ⟨rfl, rfl⟩)
   | (go_at_call 34; refine (all_any _).mono ?_; rintro e w1 ⟨rfl, hb1⟩; have D1 := hd.below hb1)
   | (go_at_call 35; refine (hld _ _ D1).mono ?_; rintro e w2 ⟨⟨a2, c2, rfl, hO2⟩, hb2⟩))
  go_ret2
  have hb3 := hb1.trans (hb2.mono hb1.size)
  exact OpRes.err hrr.out hle ⟨_, hd.below hb3⟩ (Kt.of hb3 hb)
 case pos =>
  subst hle
  obtain ⟨i, ai, ci, x, hpm⟩ : ∃ i ai ci x, parseMan body = ((i, ai, ci), x) := ⟨_, _, _, _, rfl⟩
  have hpa : ∀ w' a c, SlB w' a c body → Calls Tryz.prog 36 #[.slice a body.length c] w' fun e w'' => e = .returned (.tuple #[.agg #[.int .i64 i, .int .i64 ai, .int .i64 ci], .int .i64 x]) ∧ Below w'.heap.size w' w'' := fun w' a c hs => by
   have hc := sparse_any a c body w' hs (by omega)
   rw [hpm] at hc
   exact hc
  have hin := HIN.out
  rw [if_neg (by simp), hpm] at hin
  simp only at hin
  clear HIN hpm hll
  by_cases hv : 0 < ver
  case pos =>
   by_cases hx : x = 0
   case neg =>
    have ex : (x != 0) = true := by rw [bne_iff_ne]; exact hx
    have hrr : Hid (r = (d, ⟨0, 0, 0, rep, inc⟩, x)) := Lib.hid (by rw [hin, if_pos ⟨hv, hx⟩])
    clear hin
    go_enter Tryz.func8, Tryz.ntmps8
    refine seqH (fun K HK => ?_)
    go_wp2
    refine HK.out _ _ ?_
    clear HK
    refine seqH (fun K HK => ?_)
    go_wp2_with (first
     | (go_at_call 33; refine (dsize hd).mono ?_; rintro e w1 ⟨rfl, rfl⟩)
     | (go_at_call 34; refine (all_any _).mono ?_; rintro e w1 ⟨rfl, hb1⟩; have D1 := hd.below hb1))
    refine HK.out _ _ ?_
    clear HK
    refine seqH (fun K HK => ?_)
    go_wp2_with (go_at_call 35; refine (hld _ _ D1).mono ?_; rintro e w2 ⟨⟨a2, c2, rfl, hO2⟩, hb2⟩)
    refine HK.out _ _ ?_
    clear HK
    refine seqH (fun K HK => ?_)
    go_wp2
    refine HK.out _ _ ?_
    clear HK
    refine seqH (fun K HK => ?_)
    go_wp2
    refine HK.out _ _ ?_
    clear HK
    have hbx := blw w2 (Obj.cells #[.int .i64 0, .int .i64 0, .int .i64 0, .pointer (some ⟨g, 0, none⟩), .int .i64 rep, .int .i64 inc] 101)
    have S3 : ShB (w2.alloc (Obj.cells #[.int .i64 0, .int .i64 0, .int .i64 0, .pointer (some ⟨g, 0, none⟩), .int .i64 rep, .int .i64 inc] 101)) w2.heap.size g ⟨0, 0, 0, rep, inc⟩ := heap_alloc_new w2 (Obj.cells #[.int .i64 0, .int .i64 0, .int .i64 0, .pointer (some ⟨g, 0, none⟩), .int .i64 rep, .int .i64 inc] 101)
    have hs3 := (hO2.below hbx).slb
    have hb3 := hb1.trans (hb2.mono hb1.size)
    have hb4 := hb3.trans (hbx.mono hb3.size)
    have hqb := hb3.size
    clear hb1 hb2 hb3 D1 hO2 hbx hld
    generalize w2.alloc (Obj.cells #[.int .i64 0, .int .i64 0, .int .i64 0, .pointer (some ⟨g, 0, none⟩), .int .i64 rep, .int .i64 inc] 101) = w3 at *
    generalize w2.heap.size = qb at *
    go_wp2_with (first
     | (go_at_call 36; refine (hpa _ a2 c2 hs3).mono ?_; rintro e w4 ⟨rfl, hb5⟩; have S4 := S3.below hb5; have SB : w4.heap[qb]? = some (.cells #[.int .i64 0, .int .i64 0, .int .i64 0, .pointer (some ⟨g, 0, none⟩), .int .i64 rep, .int .i64 inc] 101 (0, 0)) := S4)
     | ((with_reducible refine wpList_stB 99 _ _ ?_); refine ⟨_, _, _, ⟨_, _, _, Tryz.sizeOf99, rfl, SB, st6s _ _ _ _ _ _ i ai ci⟩, ?_⟩; intro w5 Z5 g5))
    go_ret2
    have hb6 := hb4.trans (hb5.mono hb4.size)
    exact OpRes.err hrr.out hx ⟨_, (hd.below hb6).sh S4 g5⟩ ((Kt.of hb6 hb).nw g5 hqb hb)
   case pos =>
    subst hx
    have hrr : Hid (r = (d7, ⟨i, ai, ci, rep, inc⟩, x7)) := Lib.hid (by rw [hin, if_neg (by simp), if_pos hv])
    clear hin
    go_enter Tryz.func8, Tryz.ntmps8
    refine seqH (fun K HK => ?_)
    go_wp2
    refine HK.out _ _ ?_
    clear HK
    refine seqH (fun K HK => ?_)
    go_wp2_with (first
     | (go_at_call 33; refine (dsize hd).mono ?_; rintro e w1 ⟨rfl, rfl⟩)
     | (go_at_call 34; refine (all_any _).mono ?_; rintro e w1 ⟨rfl, hb1⟩; have D1 := hd.below hb1))
    refine HK.out _ _ ?_
    clear HK
    refine seqH (fun K HK => ?_)
    go_wp2_with (go_at_call 35; refine (hld _ _ D1).mono ?_; rintro e w2 ⟨⟨a2, c2, rfl, hO2⟩, hb2⟩)
    refine HK.out _ _ ?_
    clear HK
    refine seqH (fun K HK => ?_)
    go_wp2
    refine HK.out _ _ ?_
    clear HK
    refine seqH (fun K HK => ?_)
    go_wp2
    refine HK.out _ _ ?_
    clear HK
    have hbx := blw w2 (Obj.cells #[.int .i64 0, .int .i64 0, .int .i64 0, .pointer (some ⟨g, 0, none⟩), .int .i64 rep, .int .i64 inc] 101)
    have S3 : ShB (w2.alloc (Obj.cells #[.int .i64 0, .int .i64 0, .int .i64 0, .pointer (some ⟨g, 0, none⟩), .int .i64 rep, .int .i64 inc] 101)) w2.heap.size g ⟨0, 0, 0, rep, inc⟩ := heap_alloc_new w2 (Obj.cells #[.int .i64 0, .int .i64 0, .int .i64 0, .pointer (some ⟨g, 0, none⟩), .int .i64 rep, .int .i64 inc] 101)
    have hs3 := (hO2.below hbx).slb
    have hb3 := hb1.trans (hb2.mono hb1.size)
    have hb4 := hb3.trans (hbx.mono hb3.size)
    have hqb := hb3.size
    clear hb1 hb2 hb3 D1 hO2 hbx hld
    generalize w2.alloc (Obj.cells #[.int .i64 0, .int .i64 0, .int .i64 0, .pointer (some ⟨g, 0, none⟩), .int .i64 rep, .int .i64 inc] 101) = w3 at *
    generalize w2.heap.size = qb at *
    refine seqH (fun K HK => ?_)
    go_wp2_with (first
         | (go_at_call 36; refine (hpa _ a2 c2 hs3).mono ?_; rintro e w4 ⟨rfl, hb5⟩; have S4 := S3.below hb5; have SB : w4.heap[qb]? = some (.cells #[.int .i64 0, .int .i64 0, .int .i64 0, .pointer (some ⟨g, 0, none⟩), .int .i64 rep, .int .i64 inc] 101 (0, 0)) := S4)
         | ((with_reducible refine wpList_stB 99 _ _ ?_); refine ⟨_, _, _, ⟨_, _, _, Tryz.sizeOf99, rfl, SB, st6s _ _ _ _ _ _ i ai ci⟩, ?_⟩; intro w5 Z5 g5))
    refine HK.out _ _ ?_
    clear HK
    have hb6 := hb4.trans (hb5.mono hb4.size)
    have D5 := (hd.below hb6).sh S4 g5
    have k5 := (Kt.of hb6 hb).nw g5 hqb hb
    have S5 : ShB w5 qb g ⟨i, ai, ci, rep, inc⟩ := Z5
    have hhe5 := hhe _ _ D5 (Nat.le_trans hb k5.bl.size)
    by_cases hx7 : x7 = 0
    case neg =>
     have ex7 : (x7 != 0) = true := by rw [bne_iff_ne]; exact hx7
     go_wp2_with (go_at_call 37; refine hhe5.mono ?_; rintro e w7 ⟨rfl, D7, k7⟩)
     go_ret2
     exact OpRes.err hrr.out hx7 D7 (k5.trans k7)
    case pos =>
     subst hx7
     go_wp2_with (go_at_call 37; refine hhe5.mono ?_; rintro e w7 ⟨rfl, D7, k7⟩)
     go_ret2
     exact OpRes.ok hrr.out hqb (S5.kt k7) D7 (k5.trans k7)
  case neg =>
   have hrr : Hid (r = (d7, ⟨0, 0, 0, rep, inc⟩, x7)) := Lib.hid (by rw [hin, if_neg (by omega), if_neg hv])
   clear hin
   go_enter Tryz.func8, Tryz.ntmps8
   refine seqH (fun K HK => ?_)
   go_wp2
   refine HK.out _ _ ?_
   clear HK
   refine seqH (fun K HK => ?_)
   go_wp2_with (first
    | (go_at_call 33; refine (dsize hd).mono ?_; rintro e w1 ⟨rfl, rfl⟩)
    | (go_at_call 34; refine (all_any _).mono ?_; rintro e w1 ⟨rfl, hb1⟩; have D1 := hd.below hb1))
   refine HK.out _ _ ?_
   clear HK
   refine seqH (fun K HK => ?_)
   go_wp2_with (go_at_call 35; refine (hld _ _ D1).mono ?_; rintro e w2 ⟨⟨a2, c2, rfl, hO2⟩, hb2⟩)
   refine HK.out _ _ ?_
   clear HK
   refine seqH (fun K HK => ?_)
   go_wp2
   refine HK.out _ _ ?_
   clear HK
   refine seqH (fun K HK => ?_)
   go_wp2
   refine HK.out _ _ ?_
   clear HK
   have hbx := blw w2 (Obj.cells #[.int .i64 0, .int .i64 0, .int .i64 0, .pointer (some ⟨g, 0, none⟩), .int .i64 rep, .int .i64 inc] 101)
   have S3 : ShB (w2.alloc (Obj.cells #[.int .i64 0, .int .i64 0, .int .i64 0, .pointer (some ⟨g, 0, none⟩), .int .i64 rep, .int .i64 inc] 101)) w2.heap.size g ⟨0, 0, 0, rep, inc⟩ := heap_alloc_new w2 (Obj.cells #[.int .i64 0, .int .i64 0, .int .i64 0, .pointer (some ⟨g, 0, none⟩), .int .i64 rep, .int .i64 inc] 101)
   have hs3 := (hO2.below hbx).slb
   have hb3 := hb1.trans (hb2.mono hb1.size)
   have hb4 := hb3.trans (hbx.mono hb3.size)
   have hqb := hb3.size
   clear hb1 hb2 hb3 D1 hO2 hbx hld
   generalize w2.alloc (Obj.cells #[.int .i64 0, .int .i64 0, .int .i64 0, .pointer (some ⟨g, 0, none⟩), .int .i64 rep, .int .i64 inc] 101) = w3 at *
   generalize w2.heap.size = qb at *
   refine seqH (fun K HK => ?_)
   go_wp2
   refine HK.out _ _ ?_
   clear HK
   have D5 := hd.below hb4
   have k5 := Kt.of hb4 hb
   have S5 : ShB w3 qb g ⟨0, 0, 0, rep, inc⟩ := S3
   have hhe5 := hhe _ _ D5 (Nat.le_trans hb k5.bl.size)
   by_cases hx7 : x7 = 0
   case neg =>
    have ex7 : (x7 != 0) = true := by rw [bne_iff_ne]; exact hx7
    go_wp2_with (go_at_call 37; refine hhe5.mono ?_; rintro e w7 ⟨rfl, D7, k7⟩)
    go_ret2
    exact OpRes.err hrr.out hx7 D7 (k5.trans k7)
   case pos =>
    subst hx7
    go_wp2_with (go_at_call 37; refine hhe5.mono ?_; rintro e w7 ⟨rfl, D7, k7⟩)
    go_ret2
    exact OpRes.ok hrr.out hqb (S5.kt k7) D7 (k5.trans k7)
end
end Go.Proofs.YtbdonjenekhmdaaGreatDoor
namespace Go.Proofs.YtbdonjenekhmdaaGreatDoor
open Go.RowKit
section
variable {B g g2 gp : Nat} {wv : Value} {q : RQ} {d : Dk} {w w' : World}
end
end Go.Proofs.YtbdonjenekhmdaaGreatDoor
namespace Go.Proofs.YtbdonjenekhmdaaGreatDoor
open Go.RowKit
structure A7 where
 kind : Nat
 n : Int
 ba : Option Addr
 body : List UInt8
 bc : Nat
 ot : A6
def a7L (x : A7) : List Value := [.int .u8 (x.kind : Int), .int .i64 x.n, .slice x.ba x.body.length x.bc] ++ a6L x.ot
def a7A (x : A7) : Array Value := (a7L x).toArray
structure A7in (w : World) (x : A7) : Prop where
 b : SlB w x.ba x.bc x.body
 d : A6in w x.ot
 k : x.kind < 256
theorem A7in.below {w w' : World} {x : A7} (h : A7in w x) (hb : Below w.heap.size w w') : A7in w' x := ⟨h.b.below hb, h.d.below hb, h.k⟩
structure Acts7 (w : World) (a : Option Addr) (l : List A7) : Prop where
 each : ∀ (j : Nat) (hj : j < l.length), ∃ b off, a = some ⟨b, off, none⟩ ∧ (∀ r u, (a7L l[j])[r]? = some u → w.cell? ⟨b, off + j * 15 + r, none⟩ = some u) ∧ A7in w l[j]
theorem Acts7.below {w w' : World} {a : Option Addr} {l : List A7} (h : Acts7 w a l) (hb : Below w.heap.size w w') : Acts7 w' a l :=
 ⟨fun j hj => by
  obtain ⟨b, off, e, hc, hi⟩ := h.each j hj
  exact ⟨b, off, e, fun r u hu => cell_later hb (hc r u hu), hi.below hb⟩⟩
def gr7x (x : A7) : Bool := decide (100 < x.body.length) || gr6 [x.ot]
def gr7 (l : List A7) : Bool := decide (40 < l.length) || l.any gr7x
theorem any_snoc7 {l : List A7} {j : Nat} (h : j < l.length) (f : A7 → Bool) : (l.take (j + 1)).any f = ((l.take j).any f || f l[j]) := by
 rw [List.take_succ_eq_append_getElem h, List.any_append, List.any_cons, List.any_nil, Bool.or_false]
theorem acts_one {w : World} {q : Nat} {x : A6} {T : TypeId} (hq : w.heap[q]? = some (.cells (a6A x) T (0, 0))) (hi : A6in w x) : Acts w (some ⟨q, 0, none⟩) [x] :=
 ⟨fun j hj => by
  obtain rfl : j = 0 := by simp at hj; omega
  refine ⟨q, 0, rfl, fun r u hu => ?_, hi⟩
  have := blk_cell hq r u (by simpa [a6A] using hu)
  simpa using this⟩
end Go.Proofs.YtbdonjenekhmdaaGreatDoor
namespace Go.Proofs.YtbdonjenekhmdaaGreatDoor
open Go.RowKit
theorem Parts.cell {w : World} {b off : Nat} {ls : List Part} (h : Parts w (some ⟨b, off, none⟩) ls) {j : Nat} (hj : j < ls.length) : w.cell? ⟨b, off + j, none⟩ = some (partV ls[j]) := by
 obtain ⟨b', off', e, hc⟩ := h.row.at (k := j) (by simpa using hj)
 cases e
 exact hc j _ (by simp [hj])
theorem new156 {B : Nat} {w : World} (hB : B ≤ w.heap.size) : Calls Tryz.prog 6 #[.int .i64 156] w fun e w' => (∃ g gp, e = .returned (.tuple #[.pointer (some ⟨g, 0, none⟩), .int .i64 0]) ∧ DiskB B g gp (.slice none 0 0) (newDk 156) w') ∧ Below w.heap.size w w' := new_any 156 (by decide) (by decide) hB
end Go.Proofs.YtbdonjenekhmdaaGreatDoor
namespace Go.Proofs.YtbdonjenekhmdaaGreatDoor
open Go.RowKit
def do7 (d : Dk) (rep reg : Int) (x : A7) : Dk := if x.kind % 4 = 0 then (storeC d rep reg x.n x.body).1 else if x.kind % 4 = 1 then (healC d rep reg).1 else do6 d x.ot
def Pl2 (d : Dk) (r : Dk × Int) : Prop := r.1.pl.length = d.pl.length ∧ r.1.waits.length ≤ d.waits.length + 2
theorem pl2_self (d : Dk) (x : Int) : Pl2 d (d, x) := ⟨rfl, by show d.waits.length ≤ d.waits.length + 2; omega⟩
theorem pl2_ite {d : Dk} {c : Prop} [Decidable c] {a b : Dk × Int} (ha : Pl2 d a) (hb : Pl2 d b) : Pl2 d (if c then a else b) := by
 by_cases h : c
 ·rw [if_pos h]; exact ha
 ·rw [if_neg h]; exact hb
theorem pl2_put (d : Dk) (t : Tg) (body : List UInt8) : Pl2 d (putC d t body) := by
 have h := put_pl d t body
 exact ⟨h.1, by have := h.2; omega⟩
theorem pl2_two (d : Dk) (t t2 : Tg) (body : List UInt8) : Pl2 d (if (putC d t body).2 ≠ 0 then putC d t body else putC (putC d t body).1 t2 body) := by
 refine pl2_ite (pl2_put d t body) ?_
 have h := put_pl d t body
 have h2 := put_pl (putC d t body).1 t2 body
 exact ⟨h2.1.trans h.1, by have := h.2; have := h2.2; omega⟩
theorem store_pl (d : Dk) (rep reg inc : Int) (body : List UInt8) : Pl2 d (storeC d rep reg inc body) := by
 unfold storeC
 exact pl2_ite (pl2_self _ _) (pl2_ite (pl2_self _ _) (pl2_ite (pl2_self _ _) (pl2_ite (pl2_self _ _) (pl2_ite (pl2_self _ _) (pl2_ite (pl2_self _ _) (pl2_two _ _ _ _))))))
theorem heal_pl (d : Dk) (rep reg : Int) : Pl2 d (healC d rep reg) := by
 unfold healC
 exact pl2_ite (pl2_self _ _) (pl2_ite (pl2_self _ _) (pl2_ite (pl2_self _ _) (pl2_put _ _ _)))
theorem load_len {B g : Nat} {q : RQ} {d : Dk} {w : World} (h : RefB B g q d w) (rep reg : Int) : (loadC d rep reg).2.1.length ≤ 43 := by
 have hc : ∀ i, (copyC d rep reg i).body.length ≤ 43 := by
  intro i
  rcases rcopy_tag h rep reg i with ⟨_, _, hz⟩ | ⟨_, _, hm⟩
  ·rw [hz]; simp
  ·exact hm
 unfold loadC
 split
 ·simp
 ·split
  ·simp
  ·unfold pickC
   split
   ·exact hc 1
   ·exact hc 0
end Go.Proofs.YtbdonjenekhmdaaGreatDoor
namespace Go.Proofs.YtbdonjenekhmdaaGreatDoor
theorem open_ok {d : Dk} {rep inc : Int} (hn : 0 < d.pl.length) (h : (openS d rep inc).2.2 = 0) : ShOk (openS d rep inc).2.1 := by
 unfold openS at h ⊢
 simp only at h ⊢
 split at h
 ·cases h
 ·rename_i h1
  rw [if_neg h1]
  split at h
  ·rename_i h2; exact absurd h h2
  ·rename_i h2
   rw [if_neg h2]
   split at h
   ·rename_i h3; exact absurd h h3.2
   ·rename_i h3
    rw [if_neg h3]
    simp only
    by_cases hv : 0 < (loadC d rep 2).1
    ·rw [if_pos hv]
     have hp : (parseMan (loadC d rep 2).2.1).2 = 0 := by
      by_cases hz : (parseMan (loadC d rep 2).2.1).2 = 0
      ·exact hz
      ·exact absurd ⟨hv, hz⟩ h3
     generalize (loadC d rep 2).2.1 = b at *
     unfold parseMan at hp ⊢
     split at hp
     ·cases hp
     ·rename_i g1
      rw [if_neg g1]
      split at hp
      ·cases hp
      ·rename_i g2
       rw [if_neg g2]
       have : 0 ≤ ((b.getD 6 0).toNat : Int) := by omega
       exact ⟨by simp only; omega, by simp only; omega, by simp only; omega, by simp only; omega, by simp only; omega⟩
    ·rw [if_neg hv]
     exact ⟨by simp, by simp, by simp, by simp only; omega, by simp only; omega⟩
theorem open_pl (d : Dk) (rep inc : Int) : (openS d rep inc).1.pl.length = d.pl.length ∧ (openS d rep inc).1.waits.length ≤ d.waits.length + 2 := by
 have h := heal_pl d rep 2
 unfold openS
 simp only
 split
 ·exact ⟨rfl, by show d.waits.length ≤ d.waits.length + 2; omega⟩
 ·split
  ·exact ⟨rfl, by show d.waits.length ≤ d.waits.length + 2; omega⟩
  ·split
   ·exact ⟨rfl, by show d.waits.length ≤ d.waits.length + 2; omega⟩
   ·exact ⟨h.1, h.2⟩
theorem putS_pl (d : Dk) (s : Sh) (k : Int) (c : List UInt8) : (putS d s k c).1.pl.length = d.pl.length := by
 unfold putS
 split
 ·rw [(write_pl _ _ _).1]
 ·rw [(write_pl _ _ _).1, (write_pl _ _ _).1]
theorem putsS_pl (s : Sh) : ∀ (l : List (List UInt8)) (d : Dk) (k : Nat), (putsS d s k l).1.pl.length = d.pl.length
 | [], _, _ => rfl
 | c :: l, d, k => by
  rw [putsS_cons]
  split
  ·exact putS_pl d s k c
  ·rw [putsS_pl s l]; exact putS_pl d s k c
theorem flush_wk (d : Dk) : (flushD d).1.pl.length = d.pl.length ∧ (flushD d).1.waits.length ≤ d.waits.length := by
 rcases flush_pl d with ⟨h3, h4⟩ | ⟨h3, h4⟩
 ·exact ⟨by rw [h3], by rw [h4]; exact Nat.le_refl _⟩
 ·exact ⟨by rw [h3, thru_len2], by rw [h4]; simp⟩
theorem install_pl (d : Dk) (s : Sh) (idx : Int) (b : List UInt8) : (installS d s idx b).1.pl.length = d.pl.length ∧ (installS d s idx b).1.waits.length ≤ d.waits.length + 18 := by
 unfold installS
 split
 ·exact ⟨rfl, by show d.waits.length ≤ d.waits.length + 18; omega⟩
 split
 ·exact ⟨rfl, by show d.waits.length ≤ d.waits.length + 18; omega⟩
 rename_i h6
 split
 ·exact ⟨rfl, by show d.waits.length ≤ d.waits.length + 18; omega⟩
 simp only
 have h8 := numC_le (show b.length ≤ 640 by omega)
 have p1 := putsS_pl (nextS s idx (numC b.length)) (splitC b) d 0
 have p2 := puts_waits (nextS s idx (numC b.length)) (splitC b) d 0
 rw [splitC_len] at p2
 generalize putsS d (nextS s idx (numC b.length)) 0 (splitC b) = p at *
 have f1 := flush_wk p.1
 generalize flushD p.1 = f at *
 have t1 := store_pl f.1 s.rep 2 s.inc (manB (nextS s idx (numC b.length)).idx (nextS s idx (numC b.length)).area (nextS s idx (numC b.length)).cnt)
 generalize storeC f.1 s.rep 2 s.inc (manB (nextS s idx (numC b.length)).idx (nextS s idx (numC b.length)).area (nextS s idx (numC b.length)).cnt) = t at *
 have t2 := t1.1
 have t3 := t1.2
 split
 ·exact ⟨p1, by simp only; omega⟩
 split
 ·exact ⟨by simp only; omega, by simp only; omega⟩
 split
 ·exact ⟨by simp only; omega, by simp only; omega⟩
 ·exact ⟨by simp only; omega, by simp only; omega⟩
theorem mend_pl (d : Dk) (s : Sh) (k : Int) (c : List UInt8) : (mendS d s k c).1.pl.length = d.pl.length ∧ (mendS d s k c).1.waits.length ≤ d.waits.length + 2 := by
 unfold mendS
 have p1 := putS_pl d s k c
 have p2 := putS_waits d s k c
 have f1 := flush_wk (putS d s k c).1
 split
 ·exact ⟨rfl, by show d.waits.length ≤ d.waits.length + 2; omega⟩
 split
 ·exact ⟨rfl, by show d.waits.length ≤ d.waits.length + 2; omega⟩
 split
 ·exact ⟨rfl, by show d.waits.length ≤ d.waits.length + 2; omega⟩
 split
 ·exact ⟨p1, p2⟩
 ·exact ⟨by omega, by omega⟩
theorem install_ok {d : Dk} {s : Sh} (hok : ShOk s) (idx : Int) (b : List UInt8) : ShOk (installS d s idx b).2.1 := by
 unfold installS
 split
 ·exact hok
 rename_i h1
 split
 ·exact hok
 rename_i h6
 split
 ·exact hok
 simp only
 have h8 := numC_le (show b.length ≤ 640 by omega)
 have hal := nextS_alike hok (idx := idx) (n := numC b.length) (by omega) (by omega) h8.1 h8.2
 split
 ·exact hok
 split
 ·exact hok
 split
 ·exact hok
 ·exact hal.ok
end Go.Proofs.YtbdonjenekhmdaaGreatDoor
namespace Go.Proofs.YtbdonjenekhmdaaGreatDoor
open Go.RowKit
def sT (T : TypeId) : Bool := rT T || T == 108
section
variable {B g q base c : Nat} {qq : RQ} {d : Dk} {w w' w1 w2 : World} {s : Sh} {a : Option Addr} {l : List UInt8}
theorem Kx.sh (h : Kx rT B w w') : Kx sT B w w' := h.wide fun T hT => by
 unfold sT at hT
 rw [Bool.or_eq_false_iff] at hT
 exact hT.1
def IResR (B g q : Nat) (w : World) (r : Dk × Sh × Int) (e : Ending) (w' : World) : Prop := e = .returned (.int .i64 r.2.2) ∧ (∃ q', RefB B g q' r.1 w') ∧ ShR w' q g r.2.1 ∧ Kx sT B w w'
theorem IResR.of {r : Dk × Sh × Int} {x : Int} (hr : r = (d, s, x)) (hd : ∃ q', RefB B g q' d w') (hs : ShR w' q g s) (hk : Kx sT B w w') : IResR B g q w r (.returned (.int .i64 x)) w' := by
 subst hr
 exact ⟨rfl, hd, hs, hk⟩
theorem OwnS.kw (h : OwnS w base a c l) (hk : Kx wT B w w') : OwnS w' base a c l := by
 refine ⟨?_, h.2⟩
 rcases h.1 with h1 | ⟨g, ys, h1, h2, h3, h4, h5⟩
 ·exact .inl h1
 ·exact .inr ⟨g, ys, h1, h2, h3, h4, hk.ty _ _ _ h5 (by decide)⟩
theorem OwnS.kr (h : OwnS w base a c l) (hk : Kx rT B w w') : OwnS w' base a c l := by
 refine ⟨?_, h.2⟩
 rcases h.1 with h1 | ⟨g, ys, h1, h2, h3, h4, h5⟩
 ·exact .inl h1
 ·exact .inr ⟨g, ys, h1, h2, h3, h4, hk.ty _ _ _ h5 (by decide)⟩
theorem ChIn.kw {v : Value} {l : List (List UInt8)} (h : ChIn w base v l) (hk : Kx wT B w w') : ChIn w' base v l := by
 obtain ⟨es, h1, h2, h3⟩ := h
 exact ⟨es, owns_kx h1 hk (by decide), h2, fun e he => (h3 e he).kw hk⟩
theorem sr3 (p : Value) (r n i a c x : Int) : 3 + 1 ≤ (#[p, .int .i64 r, .int .i64 n, .int .i64 i, .int .i64 a, .int .i64 c]).size ∧ (Value.int .i64 x).cells.size = 1 ∧ (∀ u ∈ (Value.int .i64 x).cells.toList, u.oneCell' = true) ∧ ((#[p, .int .i64 r, .int .i64 n, .int .i64 i, .int .i64 a, .int .i64 c]).toList.take 3 ++ (Value.int .i64 x).cells.toList ++ (#[p, .int .i64 r, .int .i64 n, .int .i64 i, .int .i64 a, .int .i64 c]).toList.drop (3 + 1)).toArray = #[p, .int .i64 r, .int .i64 n, .int .i64 x, .int .i64 a, .int .i64 c] := ⟨by simp, rfl, by simp [Value.cells, Value.oneCell'], rfl⟩
theorem sr4 (p : Value) (r n i a c x : Int) : 4 + 1 ≤ (#[p, .int .i64 r, .int .i64 n, .int .i64 i, .int .i64 a, .int .i64 c]).size ∧ (Value.int .i64 x).cells.size = 1 ∧ (∀ u ∈ (Value.int .i64 x).cells.toList, u.oneCell' = true) ∧ ((#[p, .int .i64 r, .int .i64 n, .int .i64 i, .int .i64 a, .int .i64 c]).toList.take 4 ++ (Value.int .i64 x).cells.toList ++ (#[p, .int .i64 r, .int .i64 n, .int .i64 i, .int .i64 a, .int .i64 c]).toList.drop (4 + 1)).toArray = #[p, .int .i64 r, .int .i64 n, .int .i64 i, .int .i64 x, .int .i64 c] := ⟨by simp, rfl, by simp [Value.cells, Value.oneCell'], rfl⟩
theorem sr5 (p : Value) (r n i a c x : Int) : 5 + 1 ≤ (#[p, .int .i64 r, .int .i64 n, .int .i64 i, .int .i64 a, .int .i64 c]).size ∧ (Value.int .i64 x).cells.size = 1 ∧ (∀ u ∈ (Value.int .i64 x).cells.toList, u.oneCell' = true) ∧ ((#[p, .int .i64 r, .int .i64 n, .int .i64 i, .int .i64 a, .int .i64 c]).toList.take 5 ++ (Value.int .i64 x).cells.toList ++ (#[p, .int .i64 r, .int .i64 n, .int .i64 i, .int .i64 a, .int .i64 c]).toList.drop (5 + 1)).toArray = #[p, .int .i64 r, .int .i64 n, .int .i64 i, .int .i64 a, .int .i64 x] := ⟨by simp, rfl, by simp [Value.cells, Value.oneCell'], rfl⟩
set_option maxRecDepth 100000 in
theorem rinst13_bad (h : ShR w q g s) (R : RefB B g qq d w) (idx : Int) (a : Option Addr) (cap : Nat) (b : List UInt8) (hi : idx ≤ s.idx ∨ 1099511627752 < idx) :
  Calls Tryz.prog 12 #[.pointer (some ⟨q, 0, none⟩), .int .i64 idx, .slice a b.length cap] w (IResR B g q w (d, s, 2)) := by
 have c3 := h.c3
 by_cases h1 : idx ≤ s.idx
 ·clear hi
  go_enter Tryz.func12, Tryz.ntmps12
  go_wp2
  go_ret
  exact IResR.of rfl ⟨_, R⟩ h (Kx.refl _ _ _)
 ·have h2 : 1099511627752 < idx := by omega
  clear hi
  go_enter Tryz.func12, Tryz.ntmps12
  go_wp2
  go_ret
  exact IResR.of rfl ⟨_, R⟩ h (Kx.refl _ _ _)
set_option maxRecDepth 100000 in
theorem rinst13_no (h : ShR w q g s) (R : RefB B g qq d w) (hb : B ≤ w.heap.size) (idx : Int) (a : Option Addr) (cap : Nat) (b : List UInt8) (hs : SlB w a cap b) (hi : ¬ (idx ≤ s.idx ∨ 1099511627752 < idx)) (hl : 640 < b.length ∨ upD d = false) :
  Calls Tryz.prog 12 #[.pointer (some ⟨q, 0, none⟩), .int .i64 idx, .slice a b.length cap] w (IResR B g q w (d, s, if 640 < b.length then 3 else 5)) := by
 have c3 := h.c3
 have i1 : ¬ idx ≤ s.idx := by omega
 have i2 : ¬ 1099511627752 < idx := by omega
 have hsp := rsplit12_any a cap b w hs
 clear hi
 by_cases h6 : 640 < b.length
 ·rw [if_pos h6]
  clear hl
  go_enter Tryz.func12, Tryz.ntmps12
  go_wp2_with (go_at_call 48; refine hsp.mono ?_; rintro e w2 ⟨hr2, hb2⟩; unfold SplRes at hr2; rw [if_pos h6] at hr2; subst hr2)
  go_ret
  exact IResR.of rfl ⟨_, R.below hb2⟩ (h.below hb2) (Kx.of hb2 hb)
 ·rw [if_neg h6]
  have hu : upD d = false := hl.resolve_left h6
  clear hl
  go_enter Tryz.func12, Tryz.ntmps12
  go_wp2_with (first
   | (go_at_call 48; refine hsp.mono ?_; rintro e w2 ⟨hr2, hb2⟩; unfold SplRes at hr2; rw [if_neg h6] at hr2; obtain ⟨a2, c2, rfl, hc2⟩ := hr2)
   | (go_at_call 49; refine (rdown_any (h.below hb2) (R.below hb2)).mono ?_; rintro e w3 ⟨rfl, rfl⟩; rw [hu]))
  go_ret
  exact IResR.of rfl ⟨_, R.below hb2⟩ (h.below hb2) (Kx.of hb2 hb)
set_option maxRecDepth 100000 in
set_option maxHeartbeats 16000000 in
theorem rinst13_ok (h : ShR w q g s) (hd : RefB B g qq d w) (hb : B ≤ w.heap.size) (hq : B ≤ q) (hok : ShOk s) (idx : Int) (a : Option Addr) (cap : Nat) (b : List UInt8) (hs : SlB w a cap b) (i1 : s.idx < idx) (i2 : idx ≤ 1099511627752) (hl : b.length ≤ 640) (hu : upD d = true) (hw : d.waits.length ≤ 900) :
  Calls Tryz.prog 12 #[.pointer (some ⟨q, 0, none⟩), .int .i64 idx, .slice a b.length cap] w (IResR B g q w (installS d s idx b)) := by
 have hn8 := numC_le hl
 have hal := nextS_alike hok (n := numC b.length) i1 i2 hn8.1 hn8.2
 have hin : installS d s idx b = if (putsS d (nextS s idx (numC b.length)) 0 (splitC b)).2 ≠ 0 then ((putsS d (nextS s idx (numC b.length)) 0 (splitC b)).1, s, (putsS d (nextS s idx (numC b.length)) 0 (splitC b)).2) else
   if (flushD (putsS d (nextS s idx (numC b.length)) 0 (splitC b)).1).2 ≠ 0 then ((flushD (putsS d (nextS s idx (numC b.length)) 0 (splitC b)).1).1, s, (flushD (putsS d (nextS s idx (numC b.length)) 0 (splitC b)).1).2) else
   if (storeC (flushD (putsS d (nextS s idx (numC b.length)) 0 (splitC b)).1).1 s.rep 2 s.inc (manB idx (nextS s idx (numC b.length)).area (numC b.length))).2 ≠ 0 then ((storeC (flushD (putsS d (nextS s idx (numC b.length)) 0 (splitC b)).1).1 s.rep 2 s.inc (manB idx (nextS s idx (numC b.length)).area (numC b.length))).1, s, (storeC (flushD (putsS d (nextS s idx (numC b.length)) 0 (splitC b)).1).1 s.rep 2 s.inc (manB idx (nextS s idx (numC b.length)).area (numC b.length))).2) else
   ((storeC (flushD (putsS d (nextS s idx (numC b.length)) 0 (splitC b)).1).1 s.rep 2 s.inc (manB idx (nextS s idx (numC b.length)).area (numC b.length))).1, nextS s idx (numC b.length), 0) := by
  unfold installS
  rw [if_neg (by omega), if_neg (by omega), if_neg (by simp [hu])]
  rfl
 obtain ⟨r, hr⟩ : ∃ r, installS d s idx b = r := ⟨_, rfl⟩
 rw [hr]
 rw [hr] at hin
 have HIN := Lib.hid hin
 clear hr hin
 have hsl := splitC_len b
 have hsat := fun j (hj : j < (splitC b).length) => splitC_at b hj
 have hpl := fun k => pcC_len b k
 have hsp := rsplit12_any a cap b w hs
 have i1' : ¬ idx ≤ s.idx := by omega
 have i2' : ¬ 1099511627752 < idx := by omega
 have h6 : ¬ 640 < b.length := by omega
 have c3 := h.c3
 obtain ⟨n, hn⟩ : ∃ n, numC b.length = n := ⟨_, rfl⟩
 rw [hn] at hn8 hal hsl
 have hidx : 0 < idx := by have := hok.i; omega
 have HNN := Lib.hid hn
 have HSL := Lib.hid hsl
 have HSA := Lib.hid hsat
 have HPC := Lib.hid hpl
 have har01 := hal.ok.a
 clear hn hsl i1 i2 hs hsat hpl
 go_enter Tryz.func12, Tryz.ntmps12
 refine seqH (fun K HK => ?_)
 go_wp2
 refine HK.out _ _ ?_
 clear HK
 refine seqH (fun K HK => ?_)
 go_wp2
 refine HK.out _ _ ?_
 clear HK
 refine seqH (fun K HK => ?_)
 go_wp2_with (go_at_call 48; refine hsp.mono ?_; rintro e w2 ⟨hr2, hb2⟩; unfold SplRes at hr2; rw [if_neg h6, HNN.out] at hr2; obtain ⟨a2, c2, rfl, C3⟩ := hr2)
 refine HK.out _ _ ?_
 clear HK
 have S3 := h.below hb2
 have D3 := hd.below hb2
 have k3 := Kx.of (X := wT) hb2 hb
 have hdn := rdown_any S3 D3
 rw [hu] at hdn
 clear c3 hsp hd h hb2
 refine seqH (fun K HK => ?_)
 go_wp2
 refine HK.out _ _ ?_
 clear HK
 refine seqH (fun K HK => ?_)
 go_wp2_with (go_at_call 49; refine hdn.mono ?_; rintro e w3 ⟨rfl, rfl⟩)
 refine HK.out _ _ ?_
 clear HK
 clear hdn
 have hna := nextS_area s idx n
 have c3 := S3.c3
 have c4 := S3.c4
 have hca := hok.a
 obtain ⟨ar, har⟩ : ∃ ar, (nextS s idx n).area = ar := ⟨_, rfl⟩
 rw [har] at hna har01
 have HAR := Lib.hid har
 clear har
 refine seqH (fun K HK => ?_)
 go_wp2
 refine HK.out _ _ ?_
 clear HK
 refine wp_seq_k (fun K hK => ?_)
 go_cut [9] (fun z wx => z = .int .i64 ar ∧ wx = w2)
 case first =>
  by_cases h0 : 0 < s.idx
  ·rw [if_pos h0] at hna
   subst hna
   go_wp2
   go_meet
   exact ⟨rfl, rfl⟩
  ·rw [if_neg h0] at hna
   subst hna
   go_wp2
   go_meet
   exact ⟨rfl, rfl⟩
 obtain ⟨rfl, rfl⟩ := hcut
 refine hK _ _ ?_
 clear hK c3 c4 hna hca
 refine seqH (fun K HK => ?_)
 go_wp2_with fail
 go_loopw [10] (fun i wr => ∃ (j : Nat) (dj : Dk), j ≤ n ∧ i = .int .i64 (j : Nat) ∧ Hid (putsS d (nextS s idx n) 0 ((splitC b).take j) = (dj, 0)) ∧ (∃ q', RefB B g q' dj wr) ∧ ShR wr q g s ∧ ChIn wr w.heap.size (.slice a2 n c2) (splitC b) ∧ Kx wT B w wr) (fun i _ => n - (intOf i).toNat)
 case atStart => exact ⟨0, d, by omega, rfl, Lib.hid rfl, ⟨_, D3⟩, S3, C3, k3⟩
 case round =>
  clear D3 S3 C3 k3
  obtain ⟨j, dj, hj, rfl, hpj, ⟨q5, D5⟩, S5, C5, k5⟩ := hrel
  by_cases hlt : j < n
  case neg =>
   obtain rfl : j = n := by omega
   have hall : putsS d (nextS s idx j) 0 (splitC b) = (dj, 0) := by
    have h1 := hpj.out
    rw [← HSL.out, List.take_length, HSL.out] at h1
    exact h1
   have hwj : dj.waits.length ≤ 1000 := by
    have h1 := puts_waits (nextS s idx j) (splitC b) d 0
    rw [hall, HSL.out] at h1
    simp only at h1
    omega
   have hB5 := Nat.le_trans hb k5.bl.size
   have hfl := rflush_any D5 hB5
   obtain ⟨d6, x6, hf6⟩ : ∃ d6 x6, flushD dj = (d6, x6) := ⟨_, _, rfl⟩
   rw [hf6] at hfl
   have hw6 : d6.waits.length ≤ 1000 := by
    have h1 := (flush_wk dj).2
    rw [hf6] at h1
    exact Nat.le_trans h1 hwj
   have hin := HIN.out
   rw [HNN.out, hall] at hin
   simp only at hin
   rw [hf6] at hin
   simp only at hin
   have HIN2 := Lib.hid hin
   clear hin hall hpj HIN hf6
   have c0 := S5.c0
   go_wp2
   refine HK.out _ _ ?_
   clear HK
   by_cases hx : x6 = 0
   case neg =>
    have ex : (x6 != 0) = true := by rw [bne_iff_ne]; exact hx
    have hrr : r = (d6, s, x6) := by
     rw [HIN2.out]
     exact if_pos hx
    clear HIN2 hx
    go_wp2_with (go_at_call 51; refine hfl.mono ?_; rintro e w7 ⟨rfl, ⟨q7, D7⟩, k7⟩)
    go_ret
    exact IResR.of hrr ⟨_, D7⟩ (S5.kx k7.f) (k5.r.trans k7).sh
   case pos =>
    subst hx
    refine seqH (fun K HK => ?_)
    go_wp2_with (go_at_call 51; refine hfl.mono ?_; rintro e w8 ⟨rfl, ⟨q8, D8⟩, k7⟩)
    refine HK.out _ _ ?_
    clear HK
    have S8 := S5.kx k7.f
    have k8 := k5.r.trans k7
    have hB8 := Nat.le_trans hb k8.bl.size
    clear c0 hfl D5 S5 C5 k5 k7 hB5
    have HP6 := Lib.hid (show oputL 6 idx = le 6 idx.toNat from oput_one (k := 6) (by omega) (by show _ < 281474976710656; omega))
    have W1 : IntKind.u8.wrap ar = ar := IntWalk.u8_in _ (by omega)
    have W2 : IntKind.u8.wrap (j : Int) = (j : Int) := IntWalk.u8_in _ (by omega)
    refine seqH (fun K HK => ?_)
    go_wp2
    refine HK.out _ _ ?_
    clear HK
    refine seqH (fun K HK => ?_)
    go_wp2_with (go_at_call 52; refine (rput_any 6 idx _ (by omega)).mono ?_; rintro e w9 ⟨⟨v9, rfl, o9⟩, hb9⟩; rw [HP6.out, le_len] at o9)
    refine HK.out _ _ ?_
    clear HK
    have hbP : Below w8.heap.size w8 (w9.alloc (Obj.cells #[.int .u8 ar, .int .u8 (j : Int)] 5)) := hb9.alloc hb9.size (Obj.cells #[.int .u8 ar, .int .u8 (j : Int)] 5)
    have oP := owns_bl o9 (blw w9 (Obj.cells #[.int .u8 ar, .int .u8 (j : Int)] 5))
    have rP : Row (w9.alloc (Obj.cells #[.int .u8 ar, .int .u8 (j : Int)] 5)) (some ⟨w9.heap.size, 0, none⟩) [Value.int .u8 ar, .int .u8 (j : Int)] := Row.of_block (cs := [Value.int .u8 ar, .int .u8 (j : Int)]) (heap_alloc_new w9 (Obj.cells #[.int .u8 ar, .int .u8 (j : Int)] 5)) 0 (fun i u hu => by rw [Nat.zero_add]; exact hu)
    refine seqH (fun K HK => ?_)
    go_wp2_with (at_builtin; refine wpList_append_row rfl _ _ 37 5 elByte rfl w8.heap.size _ 6 _ rfl oP (some ⟨w9.heap.size, 0, none⟩) 2 2 [Value.int .u8 ar, .int .u8 (j : Int)] rfl rfl rP (by simp [Value.oneCell']) (by omega) (by decide) hbP.size ?_; intro v10 w10 o10 hb10)
    refine HK.out _ _ ?_
    clear HK
    have hb11 : Below w8.heap.size w8 w10 := hbP.trans hb10
    have hmb : bys (manB idx ar (j : Int)) = bys (le 6 idx.toNat) ++ [Value.int .u8 ar, .int .u8 (j : Int)] := by
     have e1 := u8_nat ar (by omega) (by omega)
     have e2 := u8_nat (j : Int) (by omega) (by omega)
     unfold manB
     rw [bys_app]
     congr 1
     unfold bys byv
     rw [List.map_cons, List.map_cons, List.map_nil, e1, e2]
    have hO11 : w10.ownsRow w8.heap.size 5 1 v10 (manB idx ar (j : Int)).length (bys (manB idx ar (j : Int))) := by
     rw [hmb, manB_len]
     exact o10
    obtain ⟨a11, c11, rfl, O11⟩ := OwnS.of_owns hO11
    have S11 := S8.below hb11
    have D11 := D8.below hb11
    have k11 := k8.trans (Kx.of (X := rT) hb11 hB8)
    have hB11 := Nat.le_trans hB8 hb11.size
    rw [manB_len]
    clear hbP oP rP hb9 hb10 hb11 hmb hO11 o9 o10 S8 D8 k8 hB8
    refine seqH (fun K HK2 => ?_)
    go_wp2_with fail
    have hbd := (Below.refl w10.heap.size w10).drew
    have D12 := D11.below hbd
    have S12 := S11.below hbd
    have O12 := O11.below hbd
    have k12 := k11.trans (Kx.of (X := rT) hbd hB11)
    have hB12 := Nat.le_trans hB11 hbd.size
    refine wp_region_held_drew (S := fun w' => ShR w' q g s) (by kernel_rfl) S12 (fun hS0 => ?_)
    clear hbd D11 S11 O11 k11 hB11
    generalize w10.drew = x0 at *
    refine tkT 0 rfl (by intro wS hSw; go_simp; (try with_reducible rfl)) ?_
    refine tkT 1 rfl (by intro wS hSw; go_simp; (try with_reducible rfl)) ?_
    refine tkT 2 rfl (by intro wS hSw; go_simp; (try with_reducible rfl)) ?_
    refine tkT 3 rfl (by intro wS hSw; have c := hSw.c0; go_simp; (try with_reducible rfl)) ?_
    refine tkT 4 rfl (by intro wS hSw; go_simp; (try with_reducible rfl)) ?_
    refine tkT 5 rfl (by intro wS hSw; go_simp; (try with_reducible rfl)) ?_
    refine tkT 6 rfl (by intro wS hSw; go_simp; (try with_reducible rfl)) ?_
    refine tkT 7 rfl (by intro wS hSw; have c := hSw.c1; go_simp; (try with_reducible rfl)) ?_
    refine tkT 8 rfl (by intro wS hSw; go_simp; (try with_reducible rfl)) ?_
    refine tkT 9 rfl (by intro wS hSw; go_simp; (try with_reducible rfl)) ?_
    refine tkT 10 rfl (by intro wS hSw; go_simp; (try with_reducible rfl)) ?_
    refine tkT 11 rfl (by intro wS hSw; have c := hSw.c2; go_simp; (try with_reducible rfl)) ?_
    refine tkT 12 rfl (by intro wS hSw; go_simp; (try with_reducible rfl)) ?_
    refine rdy1 13 rfl (fun K' hK' => ?_)
    go_simp
    have hst := rstore7_any D12 hB12 s.rep 2 s.inc a11 c11 (manB idx ar (j : Int)) (fun w' hk => (O12.kr hk).slb) (by rw [manB_len]; omega) hw6
    rw [manB_len] at hst
    obtain ⟨d13, x13, hd13⟩ : ∃ d11 x11, storeC d6 s.rep 2 s.inc (manB idx ar (j : Int)) = (d11, x11) := ⟨_, _, rfl⟩
    rw [hd13] at hst
    have hin := HIN2.out
    rw [HAR.out, hd13] at hin
    simp only at hin
    have HIN3 := Lib.hid hin
    clear hin HIN2 hd13
    refine hst.mono ?_
    rintro e w13 ⟨rfl, ⟨q13, D13⟩, hk13⟩
    have S13 := S12.kx hk13.f
    have k13 := k12.trans hk13
    refine hK'.out _ _ S13 (fun _ => ?_)
    clear hK' D12 S12 k12 hB12 hk13 hst O12 hS0
    refine tkT 14 rfl (by intro wS hSw; go_simp; (try with_reducible rfl)) ?_
    refine wpAnyH_done (by kernel_rfl) ?_ _
    refine HK2.out _ _ ?_
    clear HK2
    by_cases hy : x13 = 0
    case neg =>
     have ey : (x13 != 0) = true := by rw [bne_iff_ne]; exact hy
     have hrr : r = (d13, s, x13) := by
      rw [HIN3.out]
      exact if_pos hy
     clear HIN3 hy
     go_wp2
     go_ret
     exact IResR.of rfl ⟨_, D13⟩ S13 k13.sh
    case pos =>
     subst hy
     have hrr : r = (d13, nextS s idx j, 0) := by
      rw [HIN3.out]
      exact if_neg (by simp)
     clear HIN3
     have SB : w13.heap[q]? = some (.cells #[.pointer (some ⟨g, 0, none⟩), .int .i64 s.rep, .int .i64 s.inc, .int .i64 s.idx, .int .i64 s.area, .int .i64 s.cnt] 108 (0, 0)) := S13
     go_wp2_with (first
      | ((with_reducible refine wpList_stB 3 _ _ ?_); refine ⟨_, _, _, ⟨_, _, _, Tryz.sizeOf3, rfl, SB, sr3 _ _ _ _ _ _ idx⟩, ?_⟩; intro w14 Z14 g14)
      | ((with_reducible refine wpList_stB 3 _ _ ?_); refine ⟨_, _, _, ⟨_, _, _, Tryz.sizeOf3, rfl, Z14, sr4 _ _ _ _ _ _ ar⟩, ?_⟩; intro w15 Z15 g15)
      | ((with_reducible refine wpList_stB 3 _ _ ?_); refine ⟨_, _, _, ⟨_, _, _, Tryz.sizeOf3, rfl, Z15, sr5 _ _ _ _ _ _ (j : Int)⟩, ?_⟩; intro w16 Z16 g16))
     go_ret
     have D16 := ((D13.stO g14 SB (by decide)).stO g15 Z14 (by decide)).stO g16 Z15 (by decide)
     have k16 := ((k13.sh.trans (Kx.st g14 SB (by decide) hq)).trans (Kx.st g15 Z14 (by decide) hq)).trans (Kx.st g16 Z15 (by decide) hq)
     have hal2 := HAR.out
     exact IResR.of rfl ⟨_, D16⟩ (by rw [← hal2] at Z16; exact Z16) k16
  case pos =>
   have hlt2 : j < (splitC b).length := by rw [HSL.out]; exact hlt
   obtain ⟨es, e1, e2, e3⟩ := id C5
   have hel : es.length = n := by have := congrArg List.length e2; rw [List.length_map, HSL.out] at this; exact this
   have hje : j < es.length := by omega
   have hej : es[j].2.2 = pcC b j := by
    have h1 : (es.map (·.2.2))[j]? = some es[j].2.2 := by simp [hje]
    rw [e2, List.getElem?_eq_getElem hlt2, HSA.out j hlt2] at h1
    exact (Option.some.inj h1).symm
   have hO := e3 es[j] (List.getElem_mem hje)
   rw [hej] at hO
   obtain ⟨ba, bc, hv, hrw, _, _⟩ := Row.of_owns e1
   injection hv with hv1 hv2 hv3
   clear hv2 hv3
   subst hv1
   obtain ⟨rb, ro, rfl, hcs⟩ := hrw.at (k := j) (by rw [List.length_map]; exact hje)
   have hcj := hcs j (.slice es[j].1 (pcC b j).length es[j].2.1) (by
    rw [List.getElem?_map, List.getElem?_eq_getElem hje]
    show some (ekV es[j]) = _
    unfold ekV
    rw [hej])
   obtain ⟨ea, ec, hee⟩ : ∃ ea ec, es[j].1 = ea ∧ es[j].2.1 = ec := ⟨_, _, rfl, rfl⟩
   rw [hee.1, hee.2] at hO hcj
   have hB5 := Nat.le_trans hb k5.bl.size
   have hwj : dj.waits.length ≤ 1000 := by
    have h1 := puts_waits (nextS s idx n) ((splitC b).take j) d 0
    rw [hpj.out, List.length_take, Nat.min_eq_left (by omega)] at h1
    simp only at h1
    omega
   have hpt := rput13_any S5 D5 hB5 hal (j : Int) (by omega) ea ec (pcC b j) hO.slb (by rw [HPC.out]; exact Nat.min_le_left _ _) hwj
   obtain ⟨d6, x6, hp6⟩ : ∃ d6 x6, putS dj (nextS s idx n) (j : Int) (pcC b j) = (d6, x6) := ⟨_, _, rfl⟩
   rw [hp6, show (nextS s idx n).idx = idx from rfl, HAR.out, show (nextS s idx n).cnt = (n : Int) from rfl] at hpt
   have hnx : putsS d (nextS s idx n) 0 ((splitC b).take (j + 1)) = (d6, x6) := puts_next hlt2 hpj.out (by rw [HSA.out j hlt2]; exact hp6)
   have HNX := Lib.hid hnx
   have hI : (j : Int) < (n : Int) := by omega
   clear hp6 hnx hcs hrw e1 e2 e3 hej hee hje hel hO
   by_cases hx : x6 = 0
   case neg =>
    have ex : (x6 != 0) = true := by rw [bne_iff_ne]; exact hx
    have hrr : r = (d6, s, x6) := by
     rw [HIN.out, HNN.out, puts_stop HNX.out hx]
     exact if_pos hx
    clear HIN HK hx
    go_wp2_with (go_at_call 50; refine hpt.mono ?_; rintro e w7 ⟨rfl, ⟨q7, D7⟩, k7⟩)
    go_ret
    exact IResR.of hrr ⟨_, D7⟩ (S5.kw k7) (k5.trans k7).r.sh
   case pos =>
    subst hx
    go_wp2_with (go_at_call 50; refine hpt.mono ?_; rintro e w7 ⟨rfl, ⟨q7, D7⟩, k7⟩)
    go_roundw
    case rel => exact ⟨j + 1, d6, by omega, by go_num, HNX, ⟨_, D7⟩, S5.kw k7, C5.kw k7, k5.trans k7⟩
    case measure => simp [intOf]; omega
end
end Go.Proofs.YtbdonjenekhmdaaGreatDoor
