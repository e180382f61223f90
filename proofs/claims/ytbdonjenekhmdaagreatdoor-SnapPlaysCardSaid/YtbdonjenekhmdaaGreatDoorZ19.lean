/- Texts that the claim leans on, part 19: U8, U9, U10, U11, U12, U13, Open, OB. -/
import Derived.Test.YtbdonjenekhmdaaGreatDoorZ1
import Derived.Test.YtbdonjenekhmdaaGreatDoorZ2
import Derived.Test.YtbdonjenekhmdaaGreatDoorZ3
import Derived.Test.YtbdonjenekhmdaaGreatDoorZ4
import Derived.Test.YtbdonjenekhmdaaGreatDoorZ5
import Derived.Test.YtbdonjenekhmdaaGreatDoorZ6
import Derived.Test.YtbdonjenekhmdaaGreatDoorZ7
import Derived.Test.YtbdonjenekhmdaaGreatDoorZ8
import Derived.Test.YtbdonjenekhmdaaGreatDoorZ9
import Derived.Test.YtbdonjenekhmdaaGreatDoorZ10
import Derived.Test.YtbdonjenekhmdaaGreatDoorZ11
import Derived.Test.YtbdonjenekhmdaaGreatDoorZ12
import Derived.Test.YtbdonjenekhmdaaGreatDoorZ13
import Derived.Test.YtbdonjenekhmdaaGreatDoorZ14
import Derived.Test.YtbdonjenekhmdaaGreatDoorZ15
import Derived.Test.YtbdonjenekhmdaaGreatDoorZ16
import Derived.Test.YtbdonjenekhmdaaGreatDoorZ17
import Derived.Test.YtbdonjenekhmdaaGreatDoorZ18
import Derived.Test.YtbdonjenekhmdaaGreatDoorRows
import Derived.WalkKit
import Derived.WalkSpells
import Derived.WalkLawsBesides
import Derived.Handy
import Derived.Deep.QuietTactic
import Derived.BigQuiet
import Derived.Deep.DeepCutAuto
import Derived.Lib.Hide
import Derived.RegionTactic
import Derived.ChangeAlike
import Derived.Laws.ResultCell
import Derived.Outline
import Derived.IntWalk
import Derived.Laws.BitsAllLaws
import Derived.ChangeSlices
import Derived.ProofKit
import Derived.Lib.SmallJoins
import Derived.Lib.SliceRun
import Derived.Laws.MakeOwn
import Derived.Laws.OwnMore
import Derived.Laws.IdiomStrings
import Derived.Laws.BytesArg
import Derived.Carry
import Derived.Maps.Own
import Derived.Maps.Keyed
import Derived.RangeFuncNested
import Derived.RangeFuncBound
import Derived.RangeFuncCalls
import Derived.RangeFuncLeaves
import Derived.RangeFuncBox
import Derived.RangeFuncRecord
import Derived.Shelf.Abstract
import Derived.Shelf.RegionOpen
import Derived.OwnWalkIn
import Derived.TacticsInMore
import Derived.LoopNIn
import Derived.LoopIn
import Derived.OrdersIn
import Derived.OrdersHeld
import Derived.Maps.AppendAt
import Derived.Great.BuildSlice
import Derived.Great.FillDense
import Derived.Laws.Rows
import Derived.Deep.Quiet
import Derived.Deep.RegionHeld3
import Derived.OpenShut
import Derived.Deep.RegionHeld
import Derived.Laws.CopyOwn
import Derived.Laws.CopyRow
import Derived.Laws.NewBlocks
import Derived.Deep.RegionLaw
namespace Go.Proofs.YtbdonjenekhmdaaGreatDoor
open Go.RowKit
def DoesR (B g : Nat) (w : World) (r : Dk × Int) (e : Ending) (w' : World) : Prop := e = .returned (.int .i64 r.2) ∧ RDoes B g rT w r.1 w'
theorem DoesR.of {B g : Nat} {w w' : World} {r : Dk × Int} {d : Dk} {x : Int} (hr : r = (d, x)) (hd : ∃ q', RefB B g q' d w') (hk : Kx rT B w w') : DoesR B g w r (.returned (.int .i64 x)) w' := by
 subst hr
 exact ⟨rfl, hd, hk⟩
section
variable {B g q : Nat} {qq : RQ} {d : Dk} {w : World} {s : Sh}
set_option maxRecDepth 100000 in
set_option maxHeartbeats 4000000 in
theorem rmend13_any (h : ShR w q g s) (R : RefB B g qq d w) (hb : B ≤ w.heap.size) (hok : ShOk s) (k : Int) (a : Option Addr) (cap : Nat) (c : List UInt8) (hs : SlB w a cap c) (hw : d.waits.length ≤ 1000) :
  Calls Tryz.prog 14 #[.pointer (some ⟨q, 0, none⟩), .int .i64 k, .slice a c.length cap] w (DoesR B g w (mendS d s k c)) := by
 have c5 := h.c5
 have hm : mendS d s k c = if (k < 0 ∨ s.cnt ≤ k) ∨ fitsC k s.cnt c.length = false then (d, 2) else if upD d = false then (d, 5) else if (readS d s k).2 = true then (d, 2) else if (putS d s k c).2 ≠ 0 then putS d s k c else flushD (putS d s k c).1 := by
  unfold mendS askedS
  by_cases h1 : k < 0 ∨ s.cnt ≤ k
  ·have e : (if k < 0 ∨ s.cnt ≤ k then (2 : Int) else if upD d = false then 5 else 0) = 2 := if_pos h1
   rw [e, if_pos (.inl rfl), if_pos (.inl h1)]
  ·have e : (if k < 0 ∨ s.cnt ≤ k then (2 : Int) else if upD d = false then 5 else 0) = if upD d = false then 5 else 0 := if_neg h1
   rw [e]
   by_cases hf : fitsC k s.cnt c.length = false
   ·rw [if_pos (.inr hf), if_pos (.inr hf)]
   ·rw [if_neg (show ¬ ((k < 0 ∨ s.cnt ≤ k) ∨ fitsC k s.cnt c.length = false) from fun h => h.elim h1 hf)]
    by_cases hu : upD d = false
    ·rw [if_pos hu, if_pos hu, if_neg (show ¬ ((5 : Int) = 2 ∨ fitsC k s.cnt c.length = false) from fun h => h.elim (by decide) hf), if_pos (by decide)]
    ·rw [if_neg hu, if_neg hu, if_neg (show ¬ ((0 : Int) = 2 ∨ fitsC k s.cnt c.length = false) from fun h => h.elim (by decide) hf), if_neg (by decide)]
 rw [hm]
 clear hm
 by_cases h1 : k < 0
 ·rw [if_pos (.inl (.inl h1))]
  go_enter Tryz.func14, Tryz.ntmps14
  go_wp2
  go_ret
  exact DoesR.of rfl ⟨_, R⟩ (Kx.refl _ _ _)
 by_cases h2 : s.cnt ≤ k
 ·rw [if_pos (.inl (.inr h2))]
  go_enter Tryz.func14, Tryz.ntmps14
  go_wp2
  go_ret
  exact DoesR.of rfl ⟨_, R⟩ (Kx.refl _ _ _)
 have hc := hok.c
 have hfi := rfits12_any k s.cnt c.length (by omega) w
 cases hft : fitsC k s.cnt c.length
 ·rw [if_pos (.inr rfl)]
  rw [hft] at hfi
  clear hft
  go_enter Tryz.func14, Tryz.ntmps14
  refine seqH (fun K HK => ?_)
  go_wp2
  refine HK.out _ _ ?_
  clear HK
  go_wp2_with (go_at_call 57; refine hfi.mono ?_; rintro e w2 ⟨rfl, hb2⟩)
  go_ret
  exact DoesR.of rfl ⟨_, R.below hb2⟩ (Kx.of hb2 hb)
 rw [if_neg (by simp [h1, h2])]
 rw [hft] at hfi
 have hcl : c.length ≤ 80 := by
  unfold fitsC at hft
  split at hft
  ·cases hft
  ·omega
 have hk8 : 0 ≤ k ∧ k < 8 := ⟨by omega, by omega⟩
 have hal : Alike s s := ⟨hok, by omega, rfl, rfl⟩
 clear hft
 cases hu : upD d
 case false =>
  rw [if_pos rfl]
  go_enter Tryz.func14, Tryz.ntmps14
  refine seqH (fun K HK => ?_)
  go_wp2
  refine HK.out _ _ ?_
  clear HK
  refine seqH (fun K HK => ?_)
  go_wp2_with (go_at_call 57; refine hfi.mono ?_; rintro e w2 ⟨rfl, hb2⟩)
  refine HK.out _ _ ?_
  clear HK
  have S2 := h.below hb2
  have D2 := R.below hb2
  have k2 := Kx.of (X := rT) hb2 hb
  have hB2 := Nat.le_trans hb hb2.size
  have hdn := rdown_any S2 D2
  have hs2 := hs.below hb2
  clear hfi h R hs c5
  rw [hu] at hdn
  go_wp2_with (go_at_call 49; refine hdn.mono ?_; rintro e w3 ⟨rfl, rfl⟩)
  go_ret
  exact DoesR.of rfl ⟨_, D2⟩ k2
 case true =>
  rw [if_neg (by simp)]
  obtain ⟨r1, r2, hrr⟩ : ∃ r1 r2, readS d s k = (r1, r2) := ⟨_, _, rfl⟩
  cases r2
  case true =>
   rw [if_pos (by rw [hrr])]
   go_enter Tryz.func14, Tryz.ntmps14
   refine seqH (fun K HK => ?_)
   go_wp2
   refine HK.out _ _ ?_
   clear HK
   refine seqH (fun K HK => ?_)
   go_wp2_with (go_at_call 57; refine hfi.mono ?_; rintro e w2 ⟨rfl, hb2⟩)
   refine HK.out _ _ ?_
   clear HK
   have S2 := h.below hb2
   have D2 := R.below hb2
   have k2 := Kx.of (X := rT) hb2 hb
   have hB2 := Nat.le_trans hb hb2.size
   have hdn := rdown_any S2 D2
   have hs2 := hs.below hb2
   clear hfi h R hs c5
   rw [hu] at hdn
   refine seqH (fun K HK => ?_)
   go_wp2_with (go_at_call 49; refine hdn.mono ?_; rintro e w3 ⟨rfl, rfl⟩)
   refine HK.out _ _ ?_
   clear HK
   have hrd := rread13_any S2 D2 hok k hk8
   rw [hrr] at hrd
   refine seqH (fun K HK => ?_)
   go_wp2_with (go_at_call 58; refine hrd.mono ?_; rintro e w4 ⟨⟨a4, c4, l4, rfl, -, -⟩, hb4⟩)
   refine HK.out _ _ ?_
   clear HK
   have S4 := S2.below hb4
   have D4 := D2.below hb4
   have k4 := k2.trans (Kx.of hb4 hB2)
   have hs4 := hs2.below hb4
   have hB4 := Nat.le_trans hB2 hb4.size
   clear hdn hrd S2 D2 k2 hs2 hB2 hb4
   go_wp2
   go_ret
   exact DoesR.of rfl ⟨_, D4⟩ k4
  case false =>
   rw [if_neg (by rw [hrr]; simp)]
   obtain ⟨d1, x1, hp⟩ : ∃ d1 x1, putS d s k c = (d1, x1) := ⟨_, _, rfl⟩
   rw [hp]
   simp only
   obtain ⟨r, hr⟩ : ∃ r, (if x1 ≠ 0 then (d1, x1) else flushD d1) = r := ⟨_, rfl⟩
   rw [hr]
   have HR := Lib.hid hr
   have HP := Lib.hid hp
   clear hr hp
   go_enter Tryz.func14, Tryz.ntmps14
   refine seqH (fun K HK => ?_)
   go_wp2
   refine HK.out _ _ ?_
   clear HK
   refine seqH (fun K HK => ?_)
   go_wp2_with (go_at_call 57; refine hfi.mono ?_; rintro e w2 ⟨rfl, hb2⟩)
   refine HK.out _ _ ?_
   clear HK
   have S2 := h.below hb2
   have D2 := R.below hb2
   have k2 := Kx.of (X := rT) hb2 hb
   have hB2 := Nat.le_trans hb hb2.size
   have hdn := rdown_any S2 D2
   have hs2 := hs.below hb2
   clear hfi h R hs c5
   rw [hu] at hdn
   refine seqH (fun K HK => ?_)
   go_wp2_with (go_at_call 49; refine hdn.mono ?_; rintro e w3 ⟨rfl, rfl⟩)
   refine HK.out _ _ ?_
   clear HK
   have hrd := rread13_any S2 D2 hok k hk8
   rw [hrr] at hrd
   refine seqH (fun K HK => ?_)
   go_wp2_with (go_at_call 58; refine hrd.mono ?_; rintro e w4 ⟨⟨a4, c4, l4, rfl, -, -⟩, hb4⟩)
   refine HK.out _ _ ?_
   clear HK
   have S4 := S2.below hb4
   have D4 := D2.below hb4
   have k4 := k2.trans (Kx.of hb4 hB2)
   have hs4 := hs2.below hb4
   have hB4 := Nat.le_trans hB2 hb4.size
   clear hdn hrd S2 D2 k2 hs2 hB2 hb4
   refine seqH (fun K HK => ?_)
   go_wp2
   refine HK.out _ _ ?_
   clear HK
   refine seqH (fun K HK => ?_)
   go_wp2_with fail
   have hbd := (Below.refl w4.heap.size w4).drew
   have D5 := D4.below hbd
   have S5 := S4.below hbd
   have hs5 := hs4.below hbd
   have k5 := k4.trans (Kx.of (X := rT) hbd hB4)
   have hB5 := Nat.le_trans hB4 hbd.size
   refine wp_region_held_drew (S := fun w' => ShR w' q g s) (by kernel_rfl) S5 (fun hS0 => ?_)
   clear hbd D4 S4 hs4 k4 hB4
   generalize w4.drew = x0 at *
   refine tkT 0 rfl (by intro wS hSw; go_simp; (try with_reducible rfl)) ?_
   refine tkT 1 rfl (by intro wS hSw; go_simp; (try with_reducible rfl)) ?_
   refine tkT 2 rfl (by intro wS hSw; go_simp; (try with_reducible rfl)) ?_
   refine tkT 3 rfl (by intro wS hSw; go_simp; (try with_reducible rfl)) ?_
   refine tkT 4 rfl (by intro wS hSw; have c := hSw.c3; go_simp; (try with_reducible rfl)) ?_
   refine tkT 5 rfl (by intro wS hSw; go_simp; (try with_reducible rfl)) ?_
   refine tkT 6 rfl (by intro wS hSw; go_simp; (try with_reducible rfl)) ?_
   refine tkT 7 rfl (by intro wS hSw; go_simp; (try with_reducible rfl)) ?_
   refine tkT 8 rfl (by intro wS hSw; have c := hSw.c4; go_simp; (try with_reducible rfl)) ?_
   refine tkT 9 rfl (by intro wS hSw; go_simp; (try with_reducible rfl)) ?_
   refine tkT 10 rfl (by intro wS hSw; go_simp; (try with_reducible rfl)) ?_
   refine tkT 11 rfl (by intro wS hSw; go_simp; (try with_reducible rfl)) ?_
   refine tkT 12 rfl (by intro wS hSw; have c := hSw.c5; go_simp; (try with_reducible rfl)) ?_
   refine tkT 13 rfl (by intro wS hSw; go_simp; (try with_reducible rfl)) ?_
   refine tkT 14 rfl (by intro wS hSw; go_simp; (try with_reducible rfl)) ?_
   refine rdy1 15 rfl (fun K' hK' => ?_)
   go_simp
   have hpt := rput13_any S5 D5 hB5 hal k hk8 a cap c hs5 hcl hw
   rw [HP.out] at hpt
   refine hpt.mono ?_
   rintro e w6 ⟨rfl, ⟨q6, D6⟩, k6⟩
   have S6 := S5.kw k6
   have k7 := k5.trans k6.r
   have hB6 := Nat.le_trans hb k7.bl.size
   refine hK'.out _ _ S6 (fun _ => ?_)
   clear hK' D5 S5 hs5 k5 hB5 hpt k6 hS0
   refine tkT 16 rfl (by intro wS hSw; go_simp; (try with_reducible rfl)) ?_
   refine wpAnyH_done (by kernel_rfl) ?_ _
   refine HK.out _ _ ?_
   clear HK
   by_cases hx : x1 = 0
   case neg =>
    have ex : (x1 != 0) = true := by rw [bne_iff_ne]; exact hx
    have hr2 : r = (d1, x1) := by rw [← HR.out, if_pos hx]
    clear hx HR HP
    go_wp2
    go_ret
    exact DoesR.of rfl ⟨_, D6⟩ k7
   case pos =>
    subst hx
    have hr2 : r = flushD d1 := by rw [← HR.out, if_neg (by simp)]
    have hfl := rflush_any D6 hB6
    have c0 := S6.c0
    subst hr2
    clear HR HP
    go_wp2_with (go_at_call 51; refine hfl.mono ?_; rintro e w8 ⟨rfl, hd8, k8⟩)
    go_ret
    exact ⟨rfl, hd8, k7.trans k8⟩
def OpResR (B g : Nat) (w : World) (r : Dk × Sh × Int) (e : Ending) (w' : World) : Prop :=
 ((r.2.2 = 0 ∧ ∃ q, e = .returned (.tuple #[.pointer (some ⟨q, 0, none⟩), .int .i64 0]) ∧ w.heap.size ≤ q ∧ ShR w' q g r.2.1) ∨ (r.2.2 ≠ 0 ∧ e = .returned (.tuple #[.pointer none, .int .i64 r.2.2]))) ∧ (∃ q', RefB B g q' r.1 w') ∧ Kx rT B w w'
theorem OpResR.err {r : Dk × Sh × Int} {s : Sh} {x : Int} {w' : World} (hr : r = (d, s, x)) (hx : x ≠ 0) (hd : ∃ q', RefB B g q' d w') (hk : Kx rT B w w') : OpResR B g w r (.returned (.tuple #[.pointer none, .int .i64 x])) w' := by
 subst hr
 exact ⟨.inr ⟨hx, rfl⟩, hd, hk⟩
theorem OpResR.ok {r : Dk × Sh × Int} {s : Sh} {q : Nat} {w' : World} (hr : r = (d, s, 0)) (hq : w.heap.size ≤ q) (hs : ShR w' q g s) (hd : ∃ q', RefB B g q' d w') (hk : Kx rT B w w') : OpResR B g w r (.returned (.tuple #[.pointer (some ⟨q, 0, none⟩), .int .i64 0])) w' := by
 subst hr
 exact ⟨.inl ⟨rfl, q, rfl, hq, hs⟩, hd, hk⟩
theorem cell_in {w : World} {p : Addr} {v : Value} (h : w.cell? p = some v) : p.block < w.heap.size := by
 unfold World.cell? at h
 by_cases hlt : p.block < w.heap.size
 ·exact hlt
 ·have : w.heap[p.block]? = none := Array.getElem?_eq_none (by omega)
  simp [this] at h
theorem cell_gb {w w' : World} {bk off k : Nat} {v : Value} (hg : w.grownBy w' (some k)) (h : w.cell? ⟨bk, off, none⟩ = some v) (hne : k ≠ bk) : w'.cell? ⟨bk, off, none⟩ = some v := by
 have hb := hg.block bk (cell_in h) (fun e => hne (by injection e with e; exact e.symm))
 unfold World.cell? at h ⊢
 rw [hb]
 exact h
theorem sh_cells {w : World} {q : Nat} {p : Value} {r n i a c : Int} {T : TypeId} (h : w.heap[q]? = some (.cells #[p, .int .i64 r, .int .i64 n, .int .i64 i, .int .i64 a, .int .i64 c] T (0, 0))) : w.cell? ⟨q, 3, none⟩ = some (.int .i64 i) ∧ w.cell? ⟨q, 4, none⟩ = some (.int .i64 a) ∧ w.cell? ⟨q, 5, none⟩ = some (.int .i64 c) := ⟨blk_cell h 3 _ rfl, blk_cell h 4 _ rfl, blk_cell h 5 _ rfl⟩
set_option maxRecDepth 100000 in
set_option maxHeartbeats 8000000 in
theorem ropen13_any (R : RefB B g qq d w) (hb : B ≤ w.heap.size) (rep inc : Int) (hw : d.waits.length ≤ 1000) : Calls Tryz.prog 9 #[.pointer (some ⟨g, 0, none⟩), .int .i64 rep, .int .i64 inc] w (OpResR B g w (openS d rep inc)) := by
 have hn0 := R.n0
 have c0 := R.c0
 obtain ⟨r, hr⟩ : ∃ r, openS d rep inc = r := ⟨_, rfl⟩
 rw [hr]
 have HR := Lib.hid hr
 clear hr
 by_cases j1 : d.pl.length < 156
 ·have e1 : (d.pl.length : Int) < 156 := by omega
  have hin : r = (d, ⟨0, 0, 0, rep, inc⟩, 2) := by
   rw [← HR.out]
   unfold openS
   simp only
   rw [if_pos ⟨hn0, .inl j1⟩]
  clear HR
  go_enter Tryz.func9, Tryz.ntmps9
  go_wp2
  go_ret2
  first | exact OpResR.err rfl (by decide) ⟨_, R⟩ (Kx.refl _ _ _) | exact OpResR.err hin (by decide) ⟨_, R⟩ (Kx.refl _ _ _)
 have e1 : ¬ (d.pl.length : Int) < 156 := by omega
 by_cases j2 : rep < 0
 ·skip
  have hin : r = (d, ⟨0, 0, 0, rep, inc⟩, 2) := by
   rw [← HR.out]
   unfold openS
   simp only
   rw [if_pos ⟨hn0, .inr (.inl j2)⟩]
  clear HR
  go_enter Tryz.func9, Tryz.ntmps9
  go_wp2
  go_ret2
  first | exact OpResR.err rfl (by decide) ⟨_, R⟩ (Kx.refl _ _ _) | exact OpResR.err hin (by decide) ⟨_, R⟩ (Kx.refl _ _ _)
 by_cases j3 : 7 ≤ rep
 ·have j3' : 6 < rep := by omega
  have hin : r = (d, ⟨0, 0, 0, rep, inc⟩, 2) := by
   rw [← HR.out]
   unfold openS
   simp only
   rw [if_pos ⟨hn0, .inr (.inr (.inl j3))⟩]
  clear HR
  go_enter Tryz.func9, Tryz.ntmps9
  go_wp2
  go_ret2
  first | exact OpResR.err rfl (by decide) ⟨_, R⟩ (Kx.refl _ _ _) | exact OpResR.err hin (by decide) ⟨_, R⟩ (Kx.refl _ _ _)
 have j3' : ¬ 6 < rep := by omega
 by_cases j4 : inc < 1
 ·skip
  have hin : r = (d, ⟨0, 0, 0, rep, inc⟩, 2) := by
   rw [← HR.out]
   unfold openS
   simp only
   rw [if_pos ⟨hn0, .inr (.inr (.inr (.inl j4)))⟩]
  clear HR
  go_enter Tryz.func9, Tryz.ntmps9
  go_wp2
  go_ret2
  first | exact OpResR.err rfl (by decide) ⟨_, R⟩ (Kx.refl _ _ _) | exact OpResR.err hin (by decide) ⟨_, R⟩ (Kx.refl _ _ _)
 by_cases j5 : 1099511627776 < inc
 ·skip
  have hin : r = (d, ⟨0, 0, 0, rep, inc⟩, 2) := by
   rw [← HR.out]
   unfold openS
   simp only
   rw [if_pos ⟨hn0, .inr (.inr (.inr (.inr j5)))⟩]
  clear HR
  go_enter Tryz.func9, Tryz.ntmps9
  go_wp2
  go_ret2
  first | exact OpResR.err rfl (by decide) ⟨_, R⟩ (Kx.refl _ _ _) | exact OpResR.err hin (by decide) ⟨_, R⟩ (Kx.refl _ _ _)
 have hin : r = openS d rep inc := HR.out.symm
 unfold openS at hin
 simp only at hin
 rw [if_neg (by omega)] at hin
 have hhe := fun w' q' (D : RefB B g q' d w') hB => rheal7_any D hB rep 2 hw
 have hld := rload_any R rep 2
 have hll := load_len R rep 2
 obtain ⟨ver, body, le, hlc⟩ : ∃ ver body le, loadC d rep 2 = (ver, body, le) := ⟨_, _, _, rfl⟩
 rw [hlc] at hin hld hll
 simp only at hll
 simp only [LdR] at hld
 obtain ⟨d7, x7, hhc⟩ : ∃ d7 x7, healC d rep 2 = (d7, x7) := ⟨_, _, rfl⟩
 rw [hhc] at hin
 simp only [hhc] at hhe
 simp only at hin
 clear hlc hhc HR
 have HIN := Lib.hid hin
 clear hin
 by_cases hle : le = 0
 case neg =>
  have ee : (le != 0) = true := by rw [bne_iff_ne]; exact hle
  have hrr : Hid (r = (d, ⟨0, 0, 0, rep, inc⟩, le)) := Lib.hid (by rw [HIN.out, if_pos hle])
  clear HIN
  go_enter Tryz.func9, Tryz.ntmps9
  go_wp2_with (go_at_call 38; refine hld.mono ?_; rintro e w2 ⟨⟨a2, c2, rfl, s2⟩, hb2⟩)
  go_ret2
  exact OpResR.err hrr.out hle ⟨_, R.below hb2⟩ (Kx.of hb2 hb)
 case pos =>
  subst hle
  have hin := HIN.out
  rw [if_neg (by simp)] at hin
  clear HIN
  by_cases hv : 0 < ver
  case neg =>
   have hrr : Hid (r = (d7, ⟨0, 0, 0, rep, inc⟩, x7)) := Lib.hid (by rw [hin, if_neg (by omega), if_neg hv])
   clear hin
   go_enter Tryz.func9, Tryz.ntmps9
   refine seqH (fun K HK => ?_)
   go_wp2
   refine HK.out _ _ ?_
   clear HK
   refine seqH (fun K HK => ?_)
   go_wp2
   refine HK.out _ _ ?_
   clear HK
   refine seqH (fun K HK => ?_)
   go_wp2_with (go_at_call 38; refine hld.mono ?_; rintro e w2 ⟨⟨a2, c2, rfl, s2⟩, hb2⟩)
   refine HK.out _ _ ?_
   clear HK
   refine seqH (fun K HK => ?_)
   go_wp2
   refine HK.out _ _ ?_
   clear HK
   refine seqH (fun K HK => ?_)
   go_wp2
   refine HK.out _ _ ?_
   clear HK
   skip
   have hbx := blw w2 (Obj.cells #[.pointer (some ⟨g, 0, none⟩), .int .i64 rep, .int .i64 inc, .int .i64 0, .int .i64 0, .int .i64 0] 108)
   have SB : (w2.alloc (Obj.cells #[.pointer (some ⟨g, 0, none⟩), .int .i64 rep, .int .i64 inc, .int .i64 0, .int .i64 0, .int .i64 0] 108)).heap[w2.heap.size]? = some (Obj.cells #[.pointer (some ⟨g, 0, none⟩), .int .i64 rep, .int .i64 inc, .int .i64 0, .int .i64 0, .int .i64 0] 108) := heap_alloc_new w2 (Obj.cells #[.pointer (some ⟨g, 0, none⟩), .int .i64 rep, .int .i64 inc, .int .i64 0, .int .i64 0, .int .i64 0] 108)
   have hs3 := s2.below hbx
   have hqb := hb2.size
   have hb4 := hb2.trans (hbx.mono hqb)
   have D3 := R.below hb4
   have k3 := Kx.of (X := rT) hb4 hb
   clear hb2 s2 hbx hld R c0 hb4
   generalize w2.alloc (Obj.cells #[.pointer (some ⟨g, 0, none⟩), .int .i64 rep, .int .i64 inc, .int .i64 0, .int .i64 0, .int .i64 0] 108) = w3 at *
   generalize w2.heap.size = qb at *
   refine seqH (fun K HK => ?_)
   go_wp2
   refine HK.out _ _ ?_
   clear HK
   have D5 := D3
   have k5 := k3
   have S5 : ShR w3 qb g ⟨0, 0, 0, rep, inc⟩ := SB
   have hhe5 := hhe _ _ D5 (Nat.le_trans hb k5.bl.size)
   by_cases hx7 : x7 = 0
   case neg =>
    have ex7 : (x7 != 0) = true := by rw [bne_iff_ne]; exact hx7
    go_wp2_with (go_at_call 40; refine hhe5.mono ?_; rintro e w7 ⟨rfl, D7, k7⟩)
    go_ret2
    exact OpResR.err hrr.out hx7 D7 (k5.trans k7)
   case pos =>
    subst hx7
    go_wp2_with (go_at_call 40; refine hhe5.mono ?_; rintro e w7 ⟨rfl, D7, k7⟩)
    go_ret2
    exact OpResR.ok hrr.out hqb (S5.kx k7.f) D7 (k5.trans k7)
  case pos =>
   by_cases h8 : body.length = 8
   case neg =>
    have e8 : ((body.length : Int) != 8) = true := by rw [bne_iff_ne]; omega
    have hrr : Hid (r = (d, ⟨0, 0, 0, rep, inc⟩, 130)) := Lib.hid (by
     have hp : parseMan body = ((0, 0, 0), 130) := by unfold parseMan; rw [if_pos h8]
     rw [hin, hp, if_pos ⟨hv, by simp⟩])
    clear hin h8
    go_enter Tryz.func9, Tryz.ntmps9
    refine seqH (fun K HK => ?_)
    go_wp2
    refine HK.out _ _ ?_
    clear HK
    refine seqH (fun K HK => ?_)
    go_wp2
    refine HK.out _ _ ?_
    clear HK
    refine seqH (fun K HK => ?_)
    go_wp2_with (go_at_call 38; refine hld.mono ?_; rintro e w2 ⟨⟨a2, c2, rfl, s2⟩, hb2⟩)
    refine HK.out _ _ ?_
    clear HK
    refine seqH (fun K HK => ?_)
    go_wp2
    refine HK.out _ _ ?_
    clear HK
    refine seqH (fun K HK => ?_)
    go_wp2
    refine HK.out _ _ ?_
    clear HK
    skip
    have hbx := blw w2 (Obj.cells #[.pointer (some ⟨g, 0, none⟩), .int .i64 rep, .int .i64 inc, .int .i64 0, .int .i64 0, .int .i64 0] 108)
    have SB : (w2.alloc (Obj.cells #[.pointer (some ⟨g, 0, none⟩), .int .i64 rep, .int .i64 inc, .int .i64 0, .int .i64 0, .int .i64 0] 108)).heap[w2.heap.size]? = some (Obj.cells #[.pointer (some ⟨g, 0, none⟩), .int .i64 rep, .int .i64 inc, .int .i64 0, .int .i64 0, .int .i64 0] 108) := heap_alloc_new w2 (Obj.cells #[.pointer (some ⟨g, 0, none⟩), .int .i64 rep, .int .i64 inc, .int .i64 0, .int .i64 0, .int .i64 0] 108)
    have hs3 := s2.below hbx
    have hqb := hb2.size
    have hb4 := hb2.trans (hbx.mono hqb)
    have D3 := R.below hb4
    have k3 := Kx.of (X := rT) hb4 hb
    clear hb2 s2 hbx hld R c0 hb4
    generalize w2.alloc (Obj.cells #[.pointer (some ⟨g, 0, none⟩), .int .i64 rep, .int .i64 inc, .int .i64 0, .int .i64 0, .int .i64 0] 108) = w3 at *
    generalize w2.heap.size = qb at *
    go_wp2
    go_ret2
    exact OpResR.err hrr.out (by decide) ⟨_, D3⟩ k3
   case pos =>
    obtain ⟨gi, hgi⟩ : ∃ gi, getN body 0 6 = gi := ⟨_, rfl⟩
    obtain ⟨g6, hg6⟩ : ∃ g6, (body.getD 6 0).toNat = g6 := ⟨_, rfl⟩
    obtain ⟨g7, hg7⟩ : ∃ g7, (body.getD 7 0).toNat = g7 := ⟨_, rfl⟩
    have hb6 : g6 < 256 := by rw [← hg6]; exact (body.getD 6 0).toNat_lt
    have hb7 : g7 < 256 := by rw [← hg7]; exact (body.getD 7 0).toNat_lt
    have hpm : parseMan body = if (gi : Int) < 1 ∨ 1099511627752 < (gi : Int) ∨ 1 < g6 ∨ g7 < 1 ∨ 8 < g7 then (((0 : Int), (0 : Int), (0 : Int)), (130 : Int)) else ((((gi : Nat) : Int), ((g6 : Nat) : Int), ((g7 : Nat) : Int)), (0 : Int)) := by
     unfold parseMan
     rw [if_neg (by simp [h8]), hgi, hg6, hg7]
    have hcell : ∀ w' a c, SlB w' a c body → ∃ bk off, a = some ⟨bk, off, none⟩ ∧ w'.cell? ⟨bk, off + 6, none⟩ = some (.int .u8 (g6 : Int)) ∧ w'.cell? ⟨bk, off + 7, none⟩ = some (.int .u8 (g7 : Int)) := fun w' a c hs => by
     obtain ⟨bk, off, rfl, hcs⟩ := hs.row.at (k := 0) (by rw [bys_len]; omega)
     refine ⟨bk, off, rfl, hcs 6 _ ?_, hcs 7 _ ?_⟩
     ·unfold bys
      rw [List.getElem?_map, List.getElem?_eq_getElem (by omega)]
      rw [List.getD_eq_getElem?_getD, List.getElem?_eq_getElem (by omega)] at hg6
      simp only [Option.getD_some] at hg6
      show some (byv _) = _
      unfold byv
      rw [hg6]
     ·unfold bys
      rw [List.getElem?_map, List.getElem?_eq_getElem (by omega)]
      rw [List.getD_eq_getElem?_getD, List.getElem?_eq_getElem (by omega)] at hg7
      simp only [Option.getD_some] at hg7
      show some (byv _) = _
      unfold byv
      rw [hg7]
    have hget := fun w' a c (hs : SlB w' a c body) => rget_ok a c body 0 6 w' hs (by omega) (by omega)
    simp only [hgi, h8] at hget
    rw [h8] at hld
    have W6 : IntKind.i64.wrap (g6 : Int) = g6 := IntWalk.i64_in _ (by omega)
    have W7 : IntKind.i64.wrap (g7 : Int) = g7 := IntWalk.i64_in _ (by omega)
    rw [hpm] at hin
    have HBad : Hid (((gi : Int) < 1 ∨ 1099511627752 < (gi : Int) ∨ 1 < g6 ∨ g7 < 1 ∨ 8 < g7) → r = (d, ⟨0, 0, 0, rep, inc⟩, 130)) := Lib.hid (fun hC => by rw [hin, if_pos hC, if_pos ⟨hv, by simp⟩])
    have HGood : Hid (¬ ((gi : Int) < 1 ∨ 1099511627752 < (gi : Int) ∨ 1 < g6 ∨ g7 < 1 ∨ 8 < g7) → r = (d7, ⟨(gi : Int), (g6 : Int), (g7 : Int), rep, inc⟩, x7)) := Lib.hid (fun hC => by rw [hin, if_neg hC, if_neg (by simp), if_pos hv])
    have HHE := Lib.hid hhe
    have H8 := Lib.hid h8
    clear hin hpm h8 hgi hg6 hg7 hll hhe
    go_enter Tryz.func9, Tryz.ntmps9
    refine seqH (fun K HK => ?_)
    go_wp2
    refine HK.out _ _ ?_
    clear HK
    refine seqH (fun K HK => ?_)
    go_wp2
    refine HK.out _ _ ?_
    clear HK
    refine seqH (fun K HK => ?_)
    go_wp2_with (go_at_call 38; refine hld.mono ?_; rintro e w2 ⟨⟨a2, c2, rfl, s2⟩, hb2⟩)
    refine HK.out _ _ ?_
    clear HK
    refine seqH (fun K HK => ?_)
    go_wp2
    refine HK.out _ _ ?_
    clear HK
    refine seqH (fun K HK => ?_)
    go_wp2
    refine HK.out _ _ ?_
    clear HK
    obtain ⟨bk, off, rfl, cc6, cc7⟩ := hcell _ _ _ s2; have hbq : w2.heap.size ≠ bk := (by have : bk < w2.heap.size := cell_in cc6; omega); have cx6 := cell_later (blw w2 (Obj.cells #[.pointer (some ⟨g, 0, none⟩), .int .i64 rep, .int .i64 inc, .int .i64 0, .int .i64 0, .int .i64 0] 108)) cc6; have cx7 := cell_later (blw w2 (Obj.cells #[.pointer (some ⟨g, 0, none⟩), .int .i64 rep, .int .i64 inc, .int .i64 0, .int .i64 0, .int .i64 0] 108)) cc7; clear cc6 cc7
    have hbx := blw w2 (Obj.cells #[.pointer (some ⟨g, 0, none⟩), .int .i64 rep, .int .i64 inc, .int .i64 0, .int .i64 0, .int .i64 0] 108)
    have SB : (w2.alloc (Obj.cells #[.pointer (some ⟨g, 0, none⟩), .int .i64 rep, .int .i64 inc, .int .i64 0, .int .i64 0, .int .i64 0] 108)).heap[w2.heap.size]? = some (Obj.cells #[.pointer (some ⟨g, 0, none⟩), .int .i64 rep, .int .i64 inc, .int .i64 0, .int .i64 0, .int .i64 0] 108) := heap_alloc_new w2 (Obj.cells #[.pointer (some ⟨g, 0, none⟩), .int .i64 rep, .int .i64 inc, .int .i64 0, .int .i64 0, .int .i64 0] 108)
    have hs3 := s2.below hbx
    have hqb := hb2.size
    have hb4 := hb2.trans (hbx.mono hqb)
    have D3 := R.below hb4
    have k3 := Kx.of (X := rT) hb4 hb
    clear hb2 s2 hbx hld R c0 hb4
    generalize w2.alloc (Obj.cells #[.pointer (some ⟨g, 0, none⟩), .int .i64 rep, .int .i64 inc, .int .i64 0, .int .i64 0, .int .i64 0] 108) = w3 at *
    generalize w2.heap.size = qb at *
    have hge := hget _ _ _ hs3
    clear hcell hget hs3
    go_wp2_with (first
     | (go_at_call 39; refine hge.mono ?_; rintro e w4 ⟨rfl, rfl⟩)
     | ((with_reducible refine wpList_stB 3 _ _ ?_); refine ⟨_, _, _, ⟨_, _, _, Tryz.sizeOf3, rfl, SB, sr3 _ _ _ _ _ _ (gi : Int)⟩, ?_⟩; intro w5 Z5 g5; have cy6 := cell_gb g5 cx6 hbq; have cy7 := cell_gb g5 cx7 hbq; have D5 := D3.stO g5 SB (by decide); have k5 := k3.own g5 hqb hb; clear SB cx6 cx7 D3 k3 g5 hge)
     | ((with_reducible refine wpList_stB 3 _ _ ?_); refine ⟨_, _, _, ⟨_, _, _, Tryz.sizeOf3, rfl, Z5, sr4 _ _ _ _ _ _ (g6 : Int)⟩, ?_⟩; intro w6 Z6 g6; have cz7 := cell_gb g6 cy7 hbq; have D6 := D5.stO g6 Z5 (by decide); have k6 := k5.own g6 hqb hb; clear Z5 cy6 cy7 D5 k5 g6)
     | ((with_reducible refine wpList_stB 3 _ _ ?_); refine ⟨_, _, _, ⟨_, _, _, Tryz.sizeOf3, rfl, Z6, sr5 _ _ _ _ _ _ (g7 : Int)⟩, ?_⟩; intro w7 Z7 g7'; have D7 := D6.stO g7' Z6 (by decide); have k7 := k6.own g7' hqb hb; clear Z6 cz7 D6 k6 g7'; obtain ⟨q3, q4, q5⟩ := sh_cells Z7))
    all_goals first
     | (go_ret2; exact OpResR.err (HBad.out (by omega)) (by decide) ⟨_, D7⟩ k7; done)
     | skip
    have hhe7 := HHE.out _ _ D7 (Nat.le_trans hb k7.bl.size)
    have hrr : Hid (r = (d7, ⟨(gi : Int), (g6 : Int), (g7 : Int), rep, inc⟩, x7)) := Lib.hid (HGood.out (by omega))
    have S7 : ShR w7 qb g ⟨(gi : Int), (g6 : Int), (g7 : Int), rep, inc⟩ := Z7
    clear HBad HGood q3 q4 q5 HHE
    by_cases hx7 : x7 = 0
    case neg =>
     have ex7 : (x7 != 0) = true := by rw [bne_iff_ne]; exact hx7
     refine hhe7.mono ?_
     rintro e w8 ⟨rfl, D8, k8⟩
     go_wp2
     go_ret2
     exact OpResR.err hrr.out hx7 D8 (k7.trans k8)
    case pos =>
     subst hx7
     refine hhe7.mono ?_
     rintro e w8 ⟨rfl, D8, k8⟩
     go_wp2
     go_ret2
     exact OpResR.ok hrr.out hqb (S7.kx k8.f) D8 (k7.trans k8)
end
end Go.Proofs.YtbdonjenekhmdaaGreatDoor
namespace Go.Proofs.YtbdonjenekhmdaaGreatDoor
open Go.RowKit
set_option maxRecDepth 100000 in
set_option maxHeartbeats 4000000 in
theorem rints_any (a b : Option Addr) (ca cb : Nat) (l : List Int) (w : World) (ha : Row w a (l.map (Value.int .i64))) (hb : Row w b (l.map (Value.int .i64))) (hl : l.length ≤ 100) :
  Calls Tryz.prog 68 #[.slice a l.length ca, .slice b l.length cb] w fun e w' => e = .returned (.bool true) ∧ Below w.heap.size w w' := by
 go_enter Tryz.func68, Tryz.ntmps68
 refine seqH (fun K HK => ?_)
 go_wp2
 refine HK.out _ _ ?_
 clear HK
 refine seqH (fun K HK => ?_)
 go_wp2
 refine HK.out _ _ ?_
 clear HK
 refine seqH (fun K HK => ?_)
 go_wp2_with fail
 go_loopw [5] (fun i wr => ∃ j : Nat, j ≤ l.length ∧ i = .int .i64 (j : Nat) ∧ Below w.heap.size w wr) (fun i _ => l.length - (intOf i).toNat)
 case atStart => exact ⟨0, by omega, rfl, Below.refl _ _⟩
 case round =>
  obtain ⟨j, hj, rfl, hbr⟩ := hrel
  by_cases hlt : j < l.length
  case neg =>
   obtain rfl : j = l.length := by omega
   go_wp2
   refine HK.out _ _ ?_
   clear HK
   go_wp2
   go_ret
   exact ⟨rfl, hbr⟩
  case pos =>
   obtain ⟨b1, o1, rfl, h1⟩ := ha.at (k := j) (by rw [List.length_map]; exact hlt)
   obtain ⟨b2, o2, rfl, h2⟩ := hb.at (k := j) (by rw [List.length_map]; exact hlt)
   have c1 := under_cell (cell_later hbr (h1 j (.int .i64 l[j]) (by simp [hlt])))
   have c2 := under_cell (cell_later hbr (h2 j (.int .i64 l[j]) (by simp [hlt])))
   clear ha hb h1 h2
   generalize l[j] = v at *
   refine seqH (fun K HK => ?_)
   go_wp2
   refine HK.out _ _ ?_
   clear HK
   refine seqH (fun K HK1 => ?_)
   refine wp_block ?_
   refine seqH (fun K HK2 => ?_)
   go_wp2_with fail
   refine wp_region_under (by kernel_rfl) (by kernel_rfl) ?_
   repeat (first | go_big_quiet_step (fail) | ((with_reducible refine wpQuiet_skip ?_ ?_) ; (focus rfl); (try simp only [Act.put]); (try simp only [List.setIfInBounds_toArray]); (try simp only [List.set_cons_succ]); (try simp only [List.set_cons_zero])))
   refine wpQuiet_nil ?_
   intro _ hw'
   obtain ⟨xU, hw''⟩ := hw'
   subst hw''
   have hbU := under_below wr xU
   refine HK2.out _ _ ?_
   clear HK2
   go_wp2
   (try simp only [Exit.inBlock, Exit.then])
   refine HK1.out _ _ ?_
   clear HK1
   go_wp2
   go_roundw
   case rel => exact ⟨j + 1, by omega, by go_num, hbr.trans (hbU.mono hbr.size)⟩
   case measure => simp [intOf]; omega
/-! Acts of the shelf's law: their values are as those of the cell's. -/
def gr13x (x : A7) : Bool := decide (700 < x.body.length) || gr6 [x.ot]
def gr13 (l : List A7) : Bool := decide (25 < l.length) || l.any gr13x
theorem gr13_no {l : List A7} (h : gr13 l = false) : l.length ≤ 25 ∧ ∀ x ∈ l, x.body.length ≤ 700 ∧ (x.ot.body.length ≤ 100 ∧ x.ot.dk.bytes.length ≤ 200 ∧ x.ot.dk.keep.length ≤ 100) := by
 unfold gr13 at h
 rw [Bool.or_eq_false_iff] at h
 refine ⟨by have := of_decide_eq_false h.1; omega, fun x hx => ?_⟩
 have h2 := List.any_eq_false.1 h.2 x hx
 unfold gr13x at h2
 rw [Bool.or_eq_true, not_or] at h2
 refine ⟨by have := h2.1; simp at this; omega, (gr6_no (by simpa using h2.2)).2 _ (by simp)⟩
set_option maxRecDepth 100000 in
set_option maxHeartbeats 8000000 in
theorem great13_any (a : Option Addr) (cap : Nat) (l : List A7) (w : World) (hp : Acts7 w a l) : Calls Tryz.prog 5 #[.slice a l.length cap] w fun e w' => e = .returned (.bool (gr13 l)) ∧ Below w.heap.size w w' := by
 unfold gr13
 by_cases h60 : 25 < l.length
 case pos =>
  rw [decide_eq_true h60, Bool.true_or]
  have hI : (25 : Int) < l.length := by omega
  go_enter Tryz.func5, Tryz.ntmps5
  go_wp2
  go_ret
  exact ⟨rfl, Below.refl _ _⟩
 case neg =>
  rw [decide_eq_false h60, Bool.false_or]
  have hI : ¬ (25 : Int) < l.length := by omega
  obtain ⟨r, hr⟩ : ∃ r, l.any gr13x = r := ⟨_, rfl⟩
  rw [hr]
  have HR := Lib.hid hr
  clear hr
  go_enter Tryz.func5, Tryz.ntmps5
  refine seqH (fun K HK => ?_)
  go_wp2
  refine HK.out _ _ ?_
  clear HK
  refine seqH (fun K HK => ?_)
  go_wp2
  refine HK.out _ _ ?_
  clear HK
  refine seqH (fun K HK => ?_)
  go_wp2_with fail
  go_loopw [3] (fun i wr => ∃ j : Nat, j ≤ l.length ∧ i = .int .i64 (j : Nat) ∧ Hid ((l.take j).any gr13x = false) ∧ Below w.heap.size w wr) (fun i _ => l.length - (intOf i).toNat)
  case atStart => exact ⟨0, by omega, rfl, Lib.hid rfl, Below.refl _ _⟩
  case round =>
   obtain ⟨j, hj, rfl, ha, hbr⟩ := hrel
   by_cases hlt : j < l.length
   case neg =>
    obtain rfl : j = l.length := by omega
    have hrf : r = false := by have h := ha.out; rw [List.take_length] at h; exact HR.out.symm.trans h
    subst hrf
    clear ha HR
    go_wp2
    refine HK.out _ _ ?_
    clear HK
    go_wp2
    go_ret
    exact ⟨rfl, hbr⟩
   case pos =>
    obtain ⟨b, off, rfl, hc, hi⟩ := (hp.below hbr).each j hlt
    have hsn := any_snoc7 hlt gr13x
    rw [ha.out, Bool.false_or] at hsn
    have hmem := List.getElem_mem hlt
    have hrt : gr13x l[j] = true → r = true := fun h => by
     rw [← HR.out, List.any_eq_true]
     exact ⟨_, hmem, h⟩
    generalize l[j] = x at *
    have c2 := hc 2 _ rfl
    have HSN := Lib.hid hsn
    have HRT := Lib.hid hrt
    clear hsn hrt hmem ha
    by_cases h1 : 700 < x.body.length
    ·have hI2 : (700 : Int) < x.body.length := by omega
     obtain rfl := HRT.out (by unfold gr13x; rw [decide_eq_true h1]; rfl)
     clear HRT HSN HR hc
     go_wp2
     go_ret
     exact ⟨rfl, hbr⟩
    ·have hI2 : ¬ (700 : Int) < x.body.length := by omega
     have hx : gr13x x = gr6 [x.ot] := by unfold gr13x; rw [decide_eq_false h1, Bool.false_or]
     obtain ⟨gx, hgx⟩ : ∃ gx, gr6 [x.ot] = gx := ⟨_, rfl⟩
     rw [hgx] at hx
     have HGX := Lib.hid hgx
     have HX := Lib.hid hx
     clear hgx hx
     have hbx := blw wr (Obj.cells (a6A x.ot) 44)
     have hg5 := lgreat_any (some ⟨wr.heap.size, 0, none⟩) 1 [x.ot] (wr.alloc (Obj.cells (a6A x.ot) 44)) (acts_one (heap_alloc_new wr (Obj.cells (a6A x.ot) 44)) (hi.d.below hbx))
     rw [HGX.out] at hg5
     have c3 := hc 3 _ rfl
     have c4 := hc 4 _ rfl
     have c5 := hc 5 _ rfl
     have c6 := hc 6 _ rfl
     have c7 := hc 7 _ rfl
     have c8 := hc 8 _ rfl
     have c9 := hc 9 _ rfl
     have c10 := hc 10 _ rfl
     have c11 := hc 11 _ rfl
     have c12 := hc 12 _ rfl
     have c13 := hc 13 _ rfl
     have c14 := hc 14 _ rfl
     clear hc hi
     cases gx
     ·go_wp2_with (go_at_call 32; refine hg5.mono ?_; rintro e w5 ⟨rfl, hb5⟩)
      go_roundw
      case rel => exact ⟨j + 1, by omega, by go_num, Lib.hid (by rw [HSN.out]; exact HX.out), hbr.trans ((hbx.trans (hb5.mono hbx.size)).mono hbr.size)⟩
      case measure => simp [intOf]; omega
     ·obtain rfl := HRT.out HX.out
      clear HRT HSN HR
      go_wp2_with (go_at_call 32; refine hg5.mono ?_; rintro e w5 ⟨rfl, hb5⟩)
      go_ret
      exact ⟨rfl, hbr.trans ((hbx.trans (hb5.mono hbx.size)).mono hbr.size)⟩
end Go.Proofs.YtbdonjenekhmdaaGreatDoor
namespace Go.Proofs.YtbdonjenekhmdaaGreatDoor
open Go.RowKit
theorem chunkS_len (d : Dk) (s : Sh) (k : Int) : (chunkS d s k).1.length ≤ 80 := by
 unfold chunkS
 split
 ·simp
 ·split
  ·simp
  ·exact read_len2 d s k
theorem bytesS_len {d : Dk} {s : Sh} (hok : ShOk s) : (bytesS d s).1.length ≤ 1000 := by
 unfold bytesS
 split
 ·simp
 ·split
  ·have := allS_len d s s.cnt.toNat
   have := hok.c
   simp only
   omega
  ·simp
section
variable {B B2 g g2 gp q q2 : Nat} {wv : Value} {qq : RQ} {d : Dk} {w : World} {s : Sh}
set_option maxRecDepth 100000 in
set_option maxHeartbeats 16000000 in
theorem ltells13_any (h : ShB w q g s) (D : DiskB B g gp wv d w) (h2 : ShR w q2 g2 s) (R : RefB B2 g2 qq d w) (hok : ShOk s) : Calls Tryz.prog 19 #[.pointer (some ⟨q, 0, none⟩), .pointer (some ⟨q2, 0, none⟩)] w fun e w' => e = .returned (.bool true) ∧ Below w.heap.size w w' := by
 have hc := hok.c
 have hhl : (hurtS d s s.cnt.toNat).length ≤ 100 := Nat.le_trans (hurtS_len d s s.cnt.toNat) (by omega)
 go_enter Tryz.func19, Tryz.ntmps19
 refine seqH (fun K HK => ?_)
 go_wp2
 refine HK.out _ _ ?_
 clear HK
 refine seqH (fun K HK => ?_)
 refine seqH (fun K HK1 => ?_)
 go_wp2_with fail
 have hbd := (Below.refl w.heap.size w).drew
 have S1 := h.below hbd
 have D1 := D.below hbd
 have T1 := h2.below hbd
 have R1 := R.below hbd
 refine wp_region_held_drew (S := fun w' => ShR w' q2 g2 s) (by kernel_rfl) T1 (fun hS0 => ?_)
 generalize w.drew = x0 at *
 refine tkT 0 rfl (by intro wS hSw; go_simp; (try with_reducible rfl)) ?_
 refine tkT 2 rfl (by intro wS hSw; go_simp; (try with_reducible rfl)) ?_
 refine tkT 3 rfl (by intro wS hSw; go_simp; (try with_reducible rfl)) ?_
 refine tkT 4 rfl (by intro wS hSw; go_simp; (try with_reducible rfl)) ?_
 refine tkT 5 rfl (by intro wS hSw; have c := hSw.c3; go_simp; (try with_reducible rfl)) ?_
 refine rdy1 1 rfl (fun K' hK' => ?_)
 go_simp
 refine (sindex_any S1).mono ?_
 rintro e w2 ⟨rfl, rfl⟩
 refine hK'.out _ _ T1 (fun _ => ?_)
 clear hK' hS0
 (try simp only [Act.put]); (try simp only [List.setIfInBounds_toArray]); (try simp only [List.set_cons_succ]); (try simp only [List.set_cons_zero])
 refine tkT 6 (v := .bool false) rfl (by intro wS hSw; go_simp; (try simp)) ?_
 refine tkT 7 rfl (by intro wS hSw; go_simp; (try with_reducible rfl)) ?_
 refine tkT 8 rfl (by intro wS hSw; go_simp; (try with_reducible rfl)) ?_
 refine tkT 10 rfl (by intro wS hSw; go_simp; (try with_reducible rfl)) ?_
 refine tkT 11 rfl (by intro wS hSw; go_simp; (try with_reducible rfl)) ?_
 refine tkT 12 rfl (by intro wS hSw; go_simp; (try with_reducible rfl)) ?_
 refine tkT 13 rfl (by intro wS hSw; have c := hSw.c5; go_simp; (try with_reducible rfl)) ?_
 refine rdy1 9 rfl (fun K' hK' => ?_)
 go_simp
 refine (scount_any S1).mono ?_
 rintro e w2 ⟨rfl, rfl⟩
 refine hK'.out _ _ T1 (fun _ => ?_)
 clear hK'
 (try simp only [Act.put]); (try simp only [List.setIfInBounds_toArray]); (try simp only [List.set_cons_succ]); (try simp only [List.set_cons_zero])
 refine tkT 14 (v := .bool false) rfl (by intro wS hSw; go_simp; (try simp)) ?_
 refine tkT 15 rfl (by intro wS hSw; go_simp; (try with_reducible rfl)) ?_
 refine tkT 16 rfl (by intro wS hSw; go_simp; (try with_reducible rfl)) ?_
 refine tkT 17 rfl (by intro wS hSw; go_simp; (try with_reducible rfl)) ?_
 refine tkT 19 rfl (by intro wS hSw; go_simp; (try with_reducible rfl)) ?_
 refine rdy1 18 rfl (fun K' hK' => ?_)
 go_simp
 refine (shurt_any S1 D1 hok).mono ?_
 rintro e w3 ⟨⟨a3, c3, rfl, r3⟩, hb3⟩
 have T3 := T1.below hb3
 have R3 := R1.below hb3
 have hb4 := hbd.trans (hb3.mono hbd.size)
 refine hK'.out _ _ T3 (fun _ => ?_)
 clear hK' S1 D1 T1 R1 hbd
 (try simp only [Act.put]); (try simp only [List.setIfInBounds_toArray]); (try simp only [List.set_cons_succ]); (try simp only [List.set_cons_zero])
 refine rdy1 20 rfl (fun K' hK' => ?_)
 go_simp
 refine (rhurt13_any T3 R3 hok).mono ?_
 rintro e w5 ⟨⟨a5, c5, rfl, r5⟩, hb5⟩
 have T5 := T3.below hb5
 have r3' := r3.below0 hb5
 have hb6 := hb4.trans (hb5.mono hb4.size)
 refine hK'.out _ _ T5 (fun _ => ?_)
 clear hK' T3 R3 r3 hb3 hb4 hb5
 (try simp only [Act.put]); (try simp only [List.setIfInBounds_toArray]); (try simp only [List.set_cons_succ]); (try simp only [List.set_cons_zero])
 refine rdy1 21 rfl (fun K' hK' => ?_)
 go_simp
 refine (rints_any a3 a5 c3 c5 _ w5 r3' r5 hhl).mono ?_
 rintro e w7 ⟨rfl, hb7⟩
 have T7 := T5.below hb7
 have hb8 := hb6.trans (hb7.mono hb6.size)
 refine hK'.out _ _ T7 (fun _ => ?_)
 clear hK' T5 r3' r5 hb6 hb7
 (try simp only [Act.put]); (try simp only [List.setIfInBounds_toArray]); (try simp only [List.set_cons_succ]); (try simp only [List.set_cons_zero])
 refine tkT 22 rfl (by intro wS hSw; go_simp; (try with_reducible rfl)) ?_
 refine tkT 23 rfl (by intro wS hSw; go_simp; (try with_reducible rfl)) ?_
 refine wpAnyH_done (by kernel_rfl) ?_ _
 refine HK1.out _ _ ?_
 clear HK1 T7
 go_wp2
 refine HK.out _ _ ?_
 clear HK
 have S8 := h.below hb8
 have D8 := D.below hb8
 have T8 := h2.below hb8
 have R8 := R.below hb8
 have hby := sbytes_any S8 D8 hok
 have hby2 := fun (w' : World) (hb : Below w7.heap.size w7 w') => rbytes13_any (T8.below hb) (R8.below hb) hok
 have hbl := bytesS_len (d := d) hok
 obtain ⟨⟨bl, be⟩, hbe⟩ : ∃ r, bytesS d s = r := ⟨_, rfl⟩
 rw [hbe] at hby hbl
 simp only [hbe] at hby2
 simp only at hbl
 clear hbe
 refine seqH (fun K HK => ?_)
 go_wp2_with (go_at_call 71; refine hby.mono ?_; rintro e w9 ⟨⟨a9, c9, rfl, o9⟩, hb9⟩)
 refine HK.out _ _ ?_
 clear HK
 have hby3 := hby2 _ hb9
 have hb10 := hb8.trans (hb9.mono hb8.size)
 clear hby hby2 hb9
 refine seqH (fun K HK => ?_)
 go_wp2_with (go_at_call 72; refine hby3.mono ?_; rintro e w11 ⟨⟨a11, c11, rfl, s11⟩, hb11⟩)
 refine HK.out _ _ ?_
 clear HK
 have hb12 := hb10.trans (hb11.mono hb10.size)
 have hsm := rsame_any a9 a11 c9 c11 bl bl w11 (o9.slb.below hb11).row s11.row (by omega)
 rw [decide_eq_true rfl] at hsm
 clear hby3 o9 s11 hb10 hb11 hbl S8 D8 T8 R8 hb8
 refine seqH (fun K HK => ?_)
 go_wp2_with (go_at_call 17; refine hsm.mono ?_; rintro e w13 ⟨rfl, hb13⟩)
 refine HK.out _ _ ?_
 clear HK
 have hb14 := hb12.trans (hb13.mono hb12.size)
 clear hsm hb12 hb13
 refine seqH (fun K HK => ?_)
 go_wp2_with fail
 go_loopw [9] (fun i wr => ∃ j : Nat, j ≤ 10 ∧ i = .int .i64 ((j : Int) - 1) ∧ Below w.heap.size w wr) (fun i _ => 9 - intOf i |>.toNat)
 case atStart => exact ⟨0, by omega, rfl, hb14⟩
 case round =>
  clear hb14
  obtain ⟨j, hj, rfl, hbr⟩ := hrel
  by_cases hlt : j < 10
  case neg =>
   obtain rfl : j = 10 := by omega
   go_wp2
   refine HK.out _ _ ?_
   clear HK
   go_wp2
   go_ret
   exact ⟨rfl, hbr⟩
  case pos =>
   obtain ⟨k, hk⟩ : ∃ k : Int, (j : Int) - 1 = k := ⟨_, rfl⟩
   have hch := schunk_any (h.below hbr) (D.below hbr) hok k
   have hch2 := fun (w' : World) (hb : Below wr.heap.size wr w') => rchunk13_any ((h2.below hbr).below hb) ((R.below hbr).below hb) hok k
   have hcl := chunkS_len d s k
   obtain ⟨⟨bl, be⟩, hbe⟩ : ∃ r, chunkS d s k = r := ⟨_, rfl⟩
   rw [hbe] at hch hcl
   simp only [hbe] at hch2
   simp only at hcl
   rw [hk]
   have hkb : -1 ≤ k ∧ k ≤ 8 := by omega
   have HKK := Lib.hid hk
   clear hbe hk
   refine seqH (fun K HK => ?_)
   go_wp2
   refine HK.out _ _ ?_
   clear HK
   refine seqH (fun K HK1 => ?_)
   refine wp_block ?_
   refine seqH (fun K HK => ?_)
   go_wp2_with (go_at_call 73; refine hch.mono ?_; rintro e w15 ⟨⟨a15, c15, rfl, o15⟩, hb15⟩)
   refine HK.out _ _ ?_
   clear HK
   have hch3 := hch2 _ hb15
   have hb16 := hbr.trans (hb15.mono hbr.size)
   clear hch hch2 hb15
   refine seqH (fun K HK => ?_)
   go_wp2_with (go_at_call 74; refine hch3.mono ?_; rintro e w17 ⟨⟨a17, c17, rfl, s17⟩, hb17⟩)
   refine HK.out _ _ ?_
   clear HK
   have hb18 := hb16.trans (hb17.mono hb16.size)
   have hsm := rsame_any a15 a17 c15 c17 bl bl w17 (o15.slb.below hb17).row s17.row (by omega)
   rw [decide_eq_true rfl] at hsm
   clear hch3 o15 s17 hb16 hb17 hcl
   refine seqH (fun K HK => ?_)
   go_wp2_with (go_at_call 17; refine hsm.mono ?_; rintro e w19 ⟨rfl, hb19⟩)
   refine HK.out _ _ ?_
   clear HK
   go_wp2
   (try simp only [Exit.inBlock, Exit.then])
   refine HK1.out _ _ ?_
   clear HK1
   go_wp2
   go_roundw
   case rel => exact ⟨j + 1, by omega, by have := HKK.out; congr 1; omega, hb18.trans (hb19.mono hb18.size)⟩
   case measure => simp [intOf]; have := HKK.out; omega
end
end Go.Proofs.YtbdonjenekhmdaaGreatDoor
namespace Go.Proofs.YtbdonjenekhmdaaGreatDoor
open Go.RowKit
structure KxJ (J : Nat → Prop) (B : Nat) (w w' : World) : Prop where
 k : Kx fT B w w'
 u : ∀ (j : Nat) (cs : Array Value), J j → w.heap[j]? = some (.cells cs 5 (0, 0)) → w'.heap[j]? = some (.cells cs 5 (0, 0))
section
variable {J : Nat → Prop} {B : Nat} {w w' w'' : World}
theorem KxJ.refl (J : Nat → Prop) (B : Nat) (w : World) : KxJ J B w w := ⟨Kx.refl _ _ _, fun _ _ _ h => h⟩
theorem KxJ.trans (h : KxJ J B w w') (h2 : KxJ J B w' w'') : KxJ J B w w'' := ⟨h.k.trans h2.k, fun j cs a b => h2.u j cs a (h.u j cs a b)⟩
theorem KxJ.of (hb : Below w.heap.size w w') (h : B ≤ w.heap.size) : KxJ J B w w' := ⟨Kx.of hb h, fun _ _ _ a => tr_bl hb a⟩
theorem Kx.j (h : Kx rT B w w') : KxJ J B w w' := ⟨h.f, fun j cs _ a => h.ty j cs _ a (by decide)⟩
def RDoesJ (J : Nat → Prop) (B g : Nat) (w : World) (d' : Dk) (w' : World) : Prop := (∃ q', RefB B g q' d' w') ∧ KxJ J B w w'
end
section
variable {J : Nat → Prop} {B g : Nat} {q : RQ} {d : Dk} {w w' : World}
set_option maxRecDepth 100000 in
set_option maxHeartbeats 4000000 in
theorem rflipJ_any (h : RefB B g q d w) (hB : B ≤ w.heap.size) (hJ : ∀ y ∈ q.ra, ¬ J y.1) (s bit : Int) : Calls Tryz.prog 143 #[.pointer (some ⟨g, 0, none⟩), .int .i64 s, .int .i64 bit] w fun e w' => e = .returned (.int .i64 (flipD d s bit).2) ∧ RDoesJ J B g w (flipD d s bit).1 w' := by
 have hh := rhas_any h s
 unfold flipD
 by_cases h0 : thereD d s = 0
 ·rw [if_neg (by simpa using h0)]
  rw [h0] at hh
  by_cases hbt : bit < 0
  ·rw [if_pos hbt]
   go_enter Tryz.func143, Tryz.ntmps143
   go_wp2_with (go_at_call 147; refine hh.mono ?_; rintro e w1 ⟨rfl, rfl⟩)
   go_ret
   exact ⟨rfl, ⟨_, h⟩, KxJ.refl _ _ _⟩
  ·rw [if_neg hbt]
   obtain ⟨k, rfl, hk2⟩ := there_nat h.n0 h0
   obtain ⟨p, hp⟩ : ∃ p, d.pl[k]? = some p := ⟨_, List.getElem?_eq_getElem hk2⟩
   obtain ⟨x, hx, cx⟩ := h.ra_at hk2
   have hsec := h.rs k x p hx hp
   have hok := (h.ok p (List.mem_of_getElem? hp)).1
   simp only [Int.toNat_natCast]
   obtain ⟨n, hn, hn2⟩ : ∃ n : Nat, bit = (n : Int) ∧ n = bit.toNat := ⟨bit.toNat, by omega, rfl⟩
   obtain ⟨m, hm, hm2⟩ : ∃ m : Nat, n % 512 = m ∧ m < 512 := ⟨_, rfl, Nat.mod_lt _ (by decide)⟩
   have hmt : bit % 512 = (m : Int) := by omega
   rw [← hn2, hm]
   clear hn2
   have HM := Lib.hid hmt
   have hnn : 0 ≤ bit := by omega
   clear hmt hn hm hbt
   obtain ⟨r8, hq8, hq64⟩ : ∃ r8 : Nat, m / 8 = r8 ∧ r8 < 64 := ⟨_, rfl, by omega⟩
   obtain ⟨r, hr8, hr64⟩ : ∃ r : Nat, m % 8 = r ∧ r < 8 := ⟨_, rfl, by omega⟩
   have HQ := Lib.hid (show (m : Int) / 8 = (r8 : Int) by omega)
   have HR := Lib.hid (show (m : Int).tmod 8 = (r : Int) by rw [Int.tmod_eq_emod_of_nonneg (by omega)]; omega)
   have hw1 : IntKind.i64.wrap (r8 : Int) = r8 := by rw [IntKind.wrap_i64]; omega
   have HW := Lib.hid hw1
   have hs8 : IntKind.u8.wrap (2 ^ r : Nat) = ((2 ^ r : Nat) : Int) := by
    have : ∀ r, r < 8 → IntKind.u8.wrap ((2 ^ r : Nat) : Int) = ((2 ^ r : Nat) : Int) := by decide
    exact this r hr64
   have HS8 := Lib.hid hs8
   have HU := Lib.hid (show IntKind.u64.wrap (r : Int) = r by rw [IntKind.wrap_u64]; omega)
   have hxr : ∀ y : UInt8, bits .xor .u8 (y.toNat : Int) (2 ^ r) = ((UInt8.ofNat (y.toNat ^^^ 2 ^ r)).toNat : Int) := fun y => by
    have h2 : 2 ^ r < 2 ^ 8 := Nat.pow_lt_pow_right (by decide) hr64
    have h3 := Nat.xor_lt_two_pow (n := 8) y.toNat_lt h2
    have h4 := u8_xor_nat y.toNat (2 ^ r) y.toNat_lt h2
    rw [show ((2 ^ r : Nat) : Int) = 2 ^ r by push_cast; rfl] at h4
    rw [h4, UInt8.toNat_ofNat', Nat.mod_eq_of_lt h3]
   have HX := Lib.hid hxr
   clear hxr hw1 hs8
   obtain ⟨y, hy⟩ : ∃ y, p.rest[r8]? = some y := ⟨_, List.getElem?_eq_getElem (by rw [hok]; exact hq64)⟩
   have htb : ∀ p' ∈ [p], turnBit p'.rest m = p'.rest.set r8 (UInt8.ofNat (y.toNat ^^^ 2 ^ r)) := by
    intro p' hp'
    rw [List.mem_singleton] at hp'
    subst hp'
    unfold turnBit
    rw [hq8, hr8, show p'.rest.getD r8 0 = y by rw [List.getD_eq_getElem?_getD, hy]; rfl]
   have hmod : d.pl.modify k (fun p => { p with rest := turnBit p.rest m }) = d.pl.modify k (fun p => { p with rest := p.rest.set r8 (UInt8.ofNat (y.toNat ^^^ 2 ^ r)) }) := by
    apply List.ext_getElem?
    intro i
    simp only [List.getElem?_modify]
    by_cases hi : k = i
    ·subst hi
     rw [hp]
     simp [htb p (List.mem_singleton.2 rfl)]
    ·simp [hi]
   rw [hmod]
   clear hmod htb
   have HY := Lib.hid hy
   have HP := Lib.hid hp
   have HX2 := Lib.hid hx
   have HK2 := Lib.hid hk2
   have cy : w.cell? ⟨x.1, r8, none⟩ = some (.int .u8 y.toNat) := by
    unfold SecB slv at hsec
    rw [hsec.cellAt _ (by omega)]
    simp [bys, byv, hy]
   unfold slv at cx
   clear hq8 hr8 hy hp hx h0 hok hk2
   go_enter Tryz.func143, Tryz.ntmps143
   go_wp2_with (go_at_call 147; refine hh.mono ?_; rintro e w1 ⟨rfl, rfl⟩)
   rw [HM.out]
   clear hh HM hnn
   have hd := h.below (Below.refl w.heap.size w).drew
   have kd := KxJ.of (J := J) (Below.refl w.heap.size w).drew hB
   have sd : SecB B w.drew x p.rest := owns_bl hsec (Below.refl _ _).drew
   have hcx : w.drew.cell? ⟨q.rb, k, none⟩ = some (.slice (some ⟨x.1, 0, none⟩) 64 x.2) := cx
   have hcy : w.drew.cell? ⟨x.1, r8, none⟩ = some (.int .u8 y.toNat) := cy
   refine wp_region_held_drew (S := fun w' => w'.heap[g]? = some (.cells (rkA q d) 57 (0, 0)) ∧ w'.cell? ⟨q.rb, k, none⟩ = some (.slice (some ⟨x.1, 0, none⟩) 64 x.2)) (by kernel_rfl) ⟨hd.box, hcx⟩ (fun hS0 => ?_)
   clear cx cy hsec
   generalize w.drew = x0 at *
   refine tkT 0 rfl (by intro wS hSw; go_simp; (try with_reducible rfl)) ?_
   refine tkT 1 rfl (by intro wS hSw; go_simp; (try with_reducible rfl)) ?_
   refine tkT 2 rfl (by intro wS hSw; go_simp; (try with_reducible rfl)) ?_
   refine tkT 3 rfl (by intro wS hSw; have c := blk_cell hSw.1 0 (.slice (some ⟨q.rb, 0, none⟩) d.pl.length q.rc) rfl; go_simp; (try with_reducible rfl)) ?_
   refine tkT 4 rfl (by intro wS hSw; go_simp; (try with_reducible rfl)) ?_
   refine tkT 5 rfl (by intro wS hSw; have hlt := HK2.out; go_simp; (try rw [if_pos hlt]); (try with_reducible rfl)) ?_
   refine tkT 6 rfl (by intro wS hSw; have c := hSw.2; go_simp; (try with_reducible rfl)) ?_
   refine tkT 7 rfl (by intro wS hSw; go_simp; (try with_reducible rfl)) ?_
   refine tkT 8 (v := .int .i64 (r8 : Int)) rfl (by intro wS hSw; go_simp; rw [HQ.out, HW.out]) ?_
   refine tkT 9 rfl (by intro wS hSw; go_simp; (try with_reducible rfl)) ?_
   refine tkT 10 rfl (by intro wS hSw; go_simp; (try with_reducible rfl)) ?_
   refine tkT 11 rfl (by intro wS hSw; go_simp; (try with_reducible rfl)) ?_
   refine tkT 12 rfl (by intro wS hSw; have c := blk_cell hSw.1 0 (.slice (some ⟨q.rb, 0, none⟩) d.pl.length q.rc) rfl; go_simp; (try with_reducible rfl)) ?_
   refine tkT 13 rfl (by intro wS hSw; go_simp; (try with_reducible rfl)) ?_
   refine tkT 14 rfl (by intro wS hSw; have hlt := HK2.out; go_simp; (try rw [if_pos hlt]); (try with_reducible rfl)) ?_
   refine tkT 15 rfl (by intro wS hSw; have c := hSw.2; go_simp; (try with_reducible rfl)) ?_
   refine tkT 16 rfl (by intro wS hSw; go_simp; (try with_reducible rfl)) ?_
   refine tkT 17 (v := .int .i64 (r8 : Int)) rfl (by intro wS hSw; go_simp; rw [HQ.out, HW.out]) ?_
   refine tkT 18 (v := .pointer (some ⟨x.1, r8, none⟩)) rfl (by intro wS hSw; go_simp; exact fun hh => absurd hh (by omega)) ?_
   refine tkT 20 rfl (by intro wS hSw; go_simp; (try with_reducible rfl)) ?_
   refine tkT 21 (v := .int .i64 (r : Int)) rfl (by intro wS hSw; go_simp; rw [HR.out]) ?_
   refine tkT 22 (v := .int .u64 (r : Int)) rfl (by intro wS hSw; go_simp; rw [HU.out]) ?_
   refine tkT 23 (v := .int .u8 ((2 ^ r : Nat) : Int)) rfl (by intro wS hSw; go_simp; have hs9 := HS8.out; push_cast at hs9; exact hs9) ?_
   refine rdy1 19 rfl (fun K' hK' => ?_)
   refine wp_run (v := .int .u8 y.toNat) (w' := x0) (by go_simp) ?_
   refine hK'.out _ _ hS0 (fun _ => ?_)
   clear hK'
   (try simp only [Act.put]); (try simp only [List.setIfInBounds_toArray]); (try simp only [List.set_cons_succ]); (try simp only [List.set_cons_zero])
   refine tkT 24 (v := .int .u8 ((UInt8.ofNat (y.toNat ^^^ 2 ^ r)).toNat : Int)) rfl (by intro wS hSw; go_simp; rw [HX.out]; simp) ?_
   refine tkT 25 (v := .pointer (some ⟨x.1, r8, none⟩)) rfl (by intro wS hSw; go_simp; exact fun hh => absurd hh (by omega)) ?_
   refine rdy1 26 rfl (fun K' hK' => ?_)
   have sd' : x0.ownsRow B 5 1 (.slice (some ⟨x.1, 0, none⟩) 64 x.2) 64 (bys p.rest) := sd
   refine wp_stOwn 5 _ _ (byv (UInt8.ofNat (y.toNat ^^^ 2 ^ r))) Tryz.sizeOf5 rfl rfl rfl rfl sd' hq64 ?_
   intro w6 hr6 g6
   have e6 : (bys p.rest).set r8 (byv (UInt8.ofNat (y.toNat ^^^ 2 ^ r))) = bys (p.rest.set r8 (UInt8.ofNat (y.toNat ^^^ 2 ^ r))) := by unfold bys; rw [List.map_set]
   rw [e6] at hr6
   obtain ⟨h6, k6⟩ := hd.setByte HP.out HX2.out hr6 g6
   obtain ⟨cs6, hcs6, _⟩ := own_block sd
   obtain ⟨csr, hcsr, _⟩ := hd.blk_r
   have S6 : w6.cell? ⟨q.rb, k, none⟩ = some (.slice (some ⟨x.1, 0, none⟩) 64 x.2) := by
    have e := blk_neT hcs6 g6 _ _ _ (by decide) hcsr
    have := hS0.2
    unfold World.cell? at this ⊢
    simp only [hcsr] at this
    simp only [e]
    exact this
   refine hK'.out _ _ ⟨blk_neT hcs6 g6 _ _ _ (by decide) hS0.1, S6⟩ (fun _ => ?_)
   refine wpAnyH_done (by kernel_rfl) ?_ _
   go_wp2
   go_ret
   exact ⟨rfl, ⟨q, h6⟩, kd.trans ⟨k6, fun j cs hj a => tr_st g6 a (fun e => by subst e; exact hJ x (List.mem_of_getElem? HX2.out) hj)⟩⟩
 ·rw [if_pos (by simpa using h0)]
  have h2 := there_two h.n0 h0
  rw [h2] at hh ⊢
  clear h2 h0
  go_enter Tryz.func143, Tryz.ntmps143
  go_wp2_with (go_at_call 147; refine hh.mono ?_; rintro e w1 ⟨rfl, rfl⟩)
  go_ret
  exact ⟨rfl, ⟨_, h⟩, KxJ.refl _ _ _⟩
end
section
variable {J : Nat → Prop} {B g : Nat} {q0 : RQ} {d : Dk} {w : World}
set_option maxRecDepth 100000 in
set_option maxHeartbeats 8000000 in
theorem same5J_any (h : RefB B g q0 d w) (hJ : ∀ y ∈ q0.ra, ¬ J y.1) (hb : B ≤ w.heap.size) (x : A5) (hi : ∀ w', Kx fT B w w' → A5in w' x) (hk : x.kind < 256) (hn : x.n ≤ 9223372036854775807) (hl : x.bytes.length ≤ 200 ∧ x.keep.length ≤ 100) (hw : d.waits.length ≤ 1000000) :
  Calls Tryz.prog 64 #[.pointer (some ⟨g, 0, none⟩), a5V x] w fun e w' => e = .returned (.int .i64 (do5A d x).2) ∧ RDoesJ J B g w (do5A d x).1 w' := by
 have hbq := blw w (Obj.cells (a5A x) 42)
 have D := h.below hbq
 have k0 := KxJ.of (J := J) hbq hb
 have B0 := heap_alloc_new w (Obj.cells (a5A x) 42)
 have c0 := a5_c0 B0
 have c1 := a5_c1 B0
 have c2 := a5_c2 B0
 have c3 := a5_c3 B0
 have c4 := a5_c4 B0
 have hB : B ≤ (w.alloc (Obj.cells (a5A x) 42)).heap.size := Nat.le_trans hb k0.k.bl.size
 have I0 := hi _ k0.k
 unfold do5A do5
 unfold a5V
 clear hbq h
 by_cases h0 : x.kind % 9 = 0
 ·rw [if_pos h0]
  have e0 : (x.kind : Int) % 9 = 0 := by omega
  have f0 : (x.kind : Int).tmod 9 = 0 := by rw [Int.tmod_eq_emod_of_nonneg (by omega)]; exact e0
  clear h0
  have hb0 := hb
  go_enter Tryz.func64, Tryz.ntmps64
  refine seqH (fun K HK => ?_)
  go_wp2
  refine HK.out _ _ ?_
  clear HK
  generalize w.alloc (Obj.cells (a5A x) 42) = w0 at *
  generalize hqe : w.heap.size = q at *
  replace hqe := Lib.hid hqe
  go_wp2_with (go_at_call 51; refine (rflush_any D hB).mono ?_; rintro e w1 ⟨rfl, D1, k1⟩)
  go_ret
  exact ⟨rfl, D1, k0.trans k1.j⟩
 rw [if_neg h0]
 by_cases h1 : x.kind % 9 = 1
 ·rw [if_pos h1]
  have e1 : (x.kind : Int) % 9 = 1 := by omega
  have f1 : (x.kind : Int).tmod 9 = 1 := by rw [Int.tmod_eq_emod_of_nonneg (by omega)]; exact e1
  clear h1
  have hb0 := hb
  go_enter Tryz.func64, Tryz.ntmps64
  refine seqH (fun K HK => ?_)
  go_wp2
  refine HK.out _ _ ?_
  clear HK
  generalize w.alloc (Obj.cells (a5A x) 42) = w0 at *
  generalize hqe : w.heap.size = q at *
  replace hqe := Lib.hid hqe
  go_wp2_with (go_at_call 141; refine (rcrash_any D hB x.ka x.kc x.keep (by omega) (fun w' hk' => (hi w' (k0.trans hk'.j).k).k)).mono ?_; rintro e w1 ⟨rfl, D1, k1⟩)
  go_ret
  exact ⟨rfl, D1, k0.trans k1.j⟩
 rw [if_neg h1]
 by_cases h2 : x.kind % 9 = 2
 ·rw [if_pos h2]
  have e2 : (x.kind : Int) % 9 = 2 := by omega
  have f2 : (x.kind : Int).tmod 9 = 2 := by rw [Int.tmod_eq_emod_of_nonneg (by omega)]; exact e2
  clear h2
  have hb0 := hb
  go_enter Tryz.func64, Tryz.ntmps64
  refine seqH (fun K HK => ?_)
  go_wp2
  refine HK.out _ _ ?_
  clear HK
  generalize w.alloc (Obj.cells (a5A x) 42) = w0 at *
  generalize hqe : w.heap.size = q at *
  replace hqe := Lib.hid hqe
  go_wp2_with (go_at_call 142; refine (rstart_any D).mono ?_; rintro e w1 ⟨rfl, D1, k1⟩)
  go_ret
  exact ⟨rfl, ⟨_, D1⟩, k0.trans k1.j⟩
 rw [if_neg h2]
 by_cases h3 : x.kind % 9 = 3
 ·rw [if_pos h3]
  have e3 : (x.kind : Int) % 9 = 3 := by omega
  have f3 : (x.kind : Int).tmod 9 = 3 := by rw [Int.tmod_eq_emod_of_nonneg (by omega)]; exact e3
  clear h3
  have hb0 := hb
  go_enter Tryz.func64, Tryz.ntmps64
  refine seqH (fun K HK => ?_)
  go_wp2
  refine HK.out _ _ ?_
  clear HK
  generalize w.alloc (Obj.cells (a5A x) 42) = w0 at *
  generalize hqe : w.heap.size = q at *
  replace hqe := Lib.hid hqe
  go_wp2_with (go_at_call 143; refine (rflipJ_any D hB hJ x.sec x.n).mono ?_; rintro e w1 ⟨rfl, D1, k1⟩)
  go_ret
  exact ⟨rfl, D1, k0.trans k1⟩
 rw [if_neg h3]
 by_cases h4 : x.kind % 9 = 4
 ·rw [if_pos h4]
  have e4 : (x.kind : Int) % 9 = 4 := by omega
  have f4 : (x.kind : Int).tmod 9 = 4 := by rw [Int.tmod_eq_emod_of_nonneg (by omega)]; exact e4
  clear h4
  have hb0 := hb
  go_enter Tryz.func64, Tryz.ntmps64
  refine seqH (fun K HK => ?_)
  go_wp2
  refine HK.out _ _ ?_
  clear HK
  generalize w.alloc (Obj.cells (a5A x) 42) = w0 at *
  generalize hqe : w.heap.size = q at *
  replace hqe := Lib.hid hqe
  go_wp2_with (go_at_call 144; refine (rlose_any D x.sec).mono ?_; rintro e w1 ⟨rfl, D1, k1⟩)
  go_ret
  exact ⟨rfl, D1, k0.trans k1.j⟩
 rw [if_neg h4]
 by_cases h5 : x.kind % 9 = 5
 ·rw [if_pos h5]
  have e5 : (x.kind : Int) % 9 = 5 := by omega
  have f5 : (x.kind : Int).tmod 9 = 5 := by rw [Int.tmod_eq_emod_of_nonneg (by omega)]; exact e5
  clear h5
  have hb0 := hb
  go_enter Tryz.func64, Tryz.ntmps64
  refine seqH (fun K HK => ?_)
  go_wp2
  refine HK.out _ _ ?_
  clear HK
  generalize w.alloc (Obj.cells (a5A x) 42) = w0 at *
  generalize hqe : w.heap.size = q at *
  replace hqe := Lib.hid hqe
  go_wp2_with (go_at_call 145; refine (rstray_any D hB x.sec x.n).mono ?_; rintro e w1 ⟨rfl, D1, k1⟩)
  go_ret
  exact ⟨rfl, D1, k0.trans k1.j⟩
 rw [if_neg h5]
 by_cases h8 : x.kind % 9 = 8
 ·rw [if_pos h8]
  have e8 : (x.kind : Int) % 9 = 8 := by omega
  have f8 : (x.kind : Int).tmod 9 = 8 := by rw [Int.tmod_eq_emod_of_nonneg (by omega)]; exact e8
  clear h8
  have hb0 := hb
  go_enter Tryz.func64, Tryz.ntmps64
  refine seqH (fun K HK => ?_)
  go_wp2
  refine HK.out _ _ ?_
  clear HK
  generalize w.alloc (Obj.cells (a5A x) 42) = w0 at *
  generalize hqe : w.heap.size = q at *
  replace hqe := Lib.hid hqe
  go_wp2_with (go_at_call 146; refine (rpower_any D x.n hn).mono ?_; rintro e w1 ⟨rfl, D1, k1⟩)
  go_ret
  exact ⟨rfl, ⟨_, D1⟩, k0.trans k1.j⟩
 rw [if_neg h8]
 have i0 : ((x.kind : Int) % 9 == 0) = false := by rw [beq_eq_false_iff_ne]; omega
 have i1 : ((x.kind : Int) % 9 == 1) = false := by rw [beq_eq_false_iff_ne]; omega
 have i2 : ((x.kind : Int) % 9 == 2) = false := by rw [beq_eq_false_iff_ne]; omega
 have i3 : ((x.kind : Int) % 9 == 3) = false := by rw [beq_eq_false_iff_ne]; omega
 have i4 : ((x.kind : Int) % 9 == 4) = false := by rw [beq_eq_false_iff_ne]; omega
 have i5 : ((x.kind : Int) % 9 == 5) = false := by rw [beq_eq_false_iff_ne]; omega
 have i8 : ((x.kind : Int) % 9 == 8) = false := by rw [beq_eq_false_iff_ne]; omega
 have ft : (x.kind : Int).tmod 9 = (x.kind : Int) % 9 := Int.tmod_eq_emod_of_nonneg (by omega)
 clear h0 h1 h2 h3 h4 h5 h8
 have hsl := sectorL_le (n := x.n) hl.1
 have hb0 := hb
 go_enter Tryz.func64, Tryz.ntmps64
 refine seqH (fun K HK => ?_)
 go_wp2
 refine HK.out _ _ ?_
 clear HK
 generalize w.alloc (Obj.cells (a5A x) 42) = w0 at *
 generalize hqe : w.heap.size = q at *
 replace hqe := Lib.hid hqe
 refine seqH (fun K HK => ?_)
 go_wp2
 refine HK.out _ _ ?_
 clear HK
 refine seqH (fun K HK => ?_)
 go_wp2_with fail
 have hbd := (Below.refl w0.heap.size w0).drew
 have D1 := D.below hbd
 have k1 := k0.trans (KxJ.of (J := J) hbd hB)
 have I1 : A5in w0.drew x := I0.below hbd
 have B1 := tr_bl hbd B0
 have hB1 : B ≤ w0.drew.heap.size := hB
 clear D k0 B0 I0 hbd c0 c1 c2 c3 c4 i0 i1 i2 i3 i4 i5 i8 ft hB
 refine wp_region_held_drew (S := fun w' => w'.heap[q]? = some (.cells (a5A x) 42 (0, 0))) (by kernel_rfl) B1 (fun hS0 => ?_)
 generalize w0.drew = x0 at *
 refine tkT 0 rfl (by intro wS hSw; go_simp; (try with_reducible rfl)) ?_
 refine tkT 1 rfl (by intro wS hSw; go_simp; (try with_reducible rfl)) ?_
 refine tkT 2 rfl (by intro wS hSw; have c := a5_c1 hSw; go_simp; (try with_reducible rfl)) ?_
 refine tkT 3 (v := .agg (a5A x)) rfl (by intro wS hSw; exact exec_ldB 42 _ ⟨_, _, _, _, _, Tryz.isAgg42, Tryz.sizeOf42, rfl, hSw, arr_all rfl⟩) ?_
 refine rdy1 4 rfl (fun K' hK' => ?_)
 go_simp
 refine (sector_any x _ I1.b hl.1).mono ?_
 rintro e w1 ⟨⟨v1, rfl, o1⟩, hb1⟩
 have D2 := D1.below hb1
 have k2 := k1.trans (KxJ.of (J := J) hb1 hB1)
 have hB2 := Nat.le_trans hB1 hb1.size
 have B2 := tr_bl hb1 B1
 obtain ⟨sa, sc, rfl, _⟩ := SlB.of_owns o1
 refine hK'.out _ _ B2 (fun _ => ?_)
 (try simp only [Act.put]); (try simp only [List.setIfInBounds_toArray]); (try simp only [List.set_cons_succ]); (try simp only [List.set_cons_zero])
 refine rdy1 5 rfl (fun K' hK' => ?_)
 go_simp
 have hwr := rwrite_any D2 hB2 x.sec sa sc (sectorL x.n x.bytes) (fun w' hk => by obtain ⟨_, _, e, h⟩ := SlB.of_owns (owns_kx o1 hk (by decide)); cases e; exact h) hw
 refine hwr.mono ?_
 rintro e w2 ⟨rfl, D3, k3⟩
 refine hK'.out _ _ (k3.ty _ _ _ B2 (by decide)) (fun _ => ?_)
 (try simp only [Act.put]); (try simp only [List.setIfInBounds_toArray]); (try simp only [List.set_cons_succ]); (try simp only [List.set_cons_zero])
 refine tkT 6 rfl (by intro wS hSw; go_simp; (try with_reducible rfl)) ?_
 refine wpAnyH_done (by kernel_rfl) ?_ _
 refine HK.out _ _ ?_
 clear HK
 go_wp2
 go_ret
 exact ⟨rfl, D3, k2.trans k3.j⟩
set_option maxRecDepth 100000 in
set_option maxHeartbeats 8000000 in
theorem same6J_no (h : RefB B g q0 d w) (hJ : ∀ y ∈ q0.ra, ¬ J y.1) (hb : B ≤ w.heap.size) (x : A6) (hx : x.sl = false) (hi : ∀ w', Kx fT B w w' → A6in w' x) (hl : x.dk.bytes.length ≤ 200 ∧ x.dk.keep.length ≤ 100) (hw : d.waits.length ≤ 1000) :
  Calls Tryz.prog 16 #[.pointer (some ⟨g, 0, none⟩), a6V x] w fun e w' => (∃ v, e = .returned v) ∧ RDoesJ J B g w (do6 d x) w' := by
 have hbw := blw w (Obj.cells (a6A x) 44)
 have D0 := h.below hbw
 have k0 := KxJ.of (J := J) hbw hb
 have B0 := heap_alloc_new w (Obj.cells (a6A x) 44)
 have hB0 : B ≤ (w.alloc (Obj.cells (a6A x) 44)).heap.size := Nat.le_trans hb k0.k.bl.size
 have h5 := same5J_any D0 hJ hB0 x.dk (fun w' hk => (hi w' (k0.k.trans hk)).d) (hi _ k0.k).k (hi _ k0.k).n hl (by omega)
 have c0 := a6_c0 B0
 rw [hx] at c0
 unfold do6
 rw [if_pos hx]
 unfold a6V
 clear hbw h hi hx
 go_enter Tryz.func16, Tryz.ntmps16
 refine seqH (fun K HK => ?_)
 go_wp2
 refine HK.out _ _ ?_
 clear HK
 generalize w.alloc (Obj.cells (a6A x) 44) = w0 at *
 go_wp2_with (first
  | ((with_reducible refine wpList_ldB 42 _ ?_); refine ⟨rfl, _, ⟨_, _, _, _, _, Tryz.isAgg42, Tryz.sizeOf42, rfl, ‹_›, a6_dk x⟩, ?_⟩)
  | (go_at_call 64; refine h5.mono ?_; rintro e w1 ⟨rfl, D1, k1⟩))
 refine bodyPost_ret (results_none rfl _ _ _) rfl ?_
 exact ⟨⟨_, rfl⟩, D1, k0.trans k1⟩
set_option maxRecDepth 100000 in
set_option maxHeartbeats 8000000 in
theorem same6J_yes (h : RefB B g q0 d w) (hb : B ≤ w.heap.size) (x : A6) (hx : x.sl = true) (hi : ∀ w', Kx fT B w w' → A6in w' x) (hl : x.body.length ≤ 1000) (hw : d.waits.length ≤ 1000) :
  Calls Tryz.prog 16 #[.pointer (some ⟨g, 0, none⟩), a6V x] w fun e w' => (∃ v, e = .returned v) ∧ RDoesJ J B g w (do6 d x) w' := by
 have hbw := blw w (Obj.cells (a6A x) 44)
 have D0 := h.below hbw
 have k0 := KxJ.of (J := J) hbw hb
 have B0 := heap_alloc_new w (Obj.cells (a6A x) 44)
 have hB0 : B ≤ (w.alloc (Obj.cells (a6A x) 44)).heap.size := Nat.le_trans hb k0.k.bl.size
 have I0 := hi _ k0.k
 have c0 := a6_c0 B0
 rw [hx] at c0
 unfold do6
 rw [if_neg (by rw [hx]; decide)]
 have hwi := fun w => lwide_any x.tg w
 have hwt := wideT_le x.tg
 have hse := fun w' (hs' : SlB w' x.oa x.oc x.body) => rseal_any x.tg x.oa x.oc x.body (wideT x.tg) w' hs' hl (by omega)
 have hcs := sealR_len x.tg x.body (wideT x.tg)
 have hff : sealE x.tg x.body (wideT x.tg) = 0 → ∃ f : Nat, firstN x.tg.reg x.tg.pla = f ∧ f + wideT x.tg ≤ 156 := fun he => by
  cases hm : mayTg x.tg
  ·unfold sealE at he
   rw [if_pos (.inl hm)] at he
   cases he
  ·obtain ⟨f, h1, h2, _⟩ := place_of hm
   exact ⟨f, h1, h2⟩
 generalize wideT x.tg = n at *
 generalize sealR x.tg x.body n = b at *
 generalize sealE x.tg x.body n = se at *
 generalize hfi : firstN x.tg.reg x.tg.pla = fi at *
 have HF := Lib.hid hfi
 have HCS := Lib.hid hcs
 have HFF := Lib.hid hff
 have hpw := fun k => (puts_pl d fi b k).2
 clear hfi hcs hff hbw h hi hx
 unfold a6V
 go_enter Tryz.func16, Tryz.ntmps16
 refine seqH (fun K HK => ?_)
 go_wp2
 refine HK.out _ _ ?_
 clear HK
 generalize w.alloc (Obj.cells (a6A x) 44) = w0 at *
 obtain ⟨q, hq⟩ : ∃ q, w.heap.size = q := ⟨_, rfl⟩
 have hbq : B ≤ q := by omega
 rw [hq] at B0 c0 ⊢
 clear hq
 refine seqH (fun K HK => ?_)
 go_wp2
 refine HK.out _ _ ?_
 clear HK
 clear c0
 refine seqH (fun K HK => ?_)
 go_wp2_with fail
 have hbd := (Below.refl w0.heap.size w0).drew
 have D1 := D0.below hbd
 have k1 := k0.trans (KxJ.of (J := J) hbd hB0)
 have B1 := tr_bl hbd B0
 have s1 := I0.b.below hbd
 have hB1 := Nat.le_trans hB0 hbd.size
 clear D0 k0 B0 I0 hB0 hbd
 refine wp_region_held_drew (S := fun w' => w'.heap[q]? = some (.cells (a6A x) 44 (0, 0))) (by kernel_rfl) B1 (fun hS0 => ?_)
 generalize w0.drew = x0 at *
 refine tkT 0 rfl (by intro wS hSw; go_simp; (try with_reducible rfl)) ?_
 refine tkT 1 (v := .agg (#[Value.int .i64 x.tg.rep, .int .i64 x.tg.reg, .int .i64 x.tg.pla, .int .i64 x.tg.idx, .int .i64 x.tg.inc])) rfl (by intro wS hSw; exact exec_ldB 39 _ ⟨_, _, _, _, _, Tryz.isAgg39, Tryz.sizeOf39, rfl, hSw, a6_tg x⟩) ?_
 refine tkT 2 rfl (by intro wS hSw; go_simp; (try with_reducible rfl)) ?_
 refine tkT 3 rfl (by intro wS hSw; have c := a6_c6 hSw; go_simp; (try with_reducible rfl)) ?_
 refine tkT 4 rfl (by intro wS hSw; go_simp; (try with_reducible rfl)) ?_
 refine tkT 5 (v := .agg (#[Value.int .i64 x.tg.rep, .int .i64 x.tg.reg, .int .i64 x.tg.pla, .int .i64 x.tg.idx, .int .i64 x.tg.inc])) rfl (by intro wS hSw; exact exec_ldB 39 _ ⟨_, _, _, _, _, Tryz.isAgg39, Tryz.sizeOf39, rfl, hSw, a6_tg x⟩) ?_
 refine rdy1 6 rfl (fun K' hK' => ?_)
 go_simp
 refine (hwi _).mono ?_
 rintro e w4 ⟨rfl, hb4⟩
 have D4 := D1.below hb4
 have k4 := k1.trans (KxJ.of (J := J) hb4 hB1)
 have B4 := tr_bl hb4 B1
 have s4 := s1.below hb4
 have hB4 := Nat.le_trans hB1 hb4.size
 refine hK'.out _ _ B4 (fun _ => ?_)
 clear hK' D1 k1 B1 s1 hB1 hb4 hS0
 (try simp only [Act.put]); (try simp only [List.setIfInBounds_toArray]); (try simp only [List.set_cons_succ]); (try simp only [List.set_cons_zero])
 refine rdy1 7 rfl (fun K' hK' => ?_)
 go_simp
 refine (hse _ s4).mono ?_
 rintro e w5 ⟨⟨v5, rfl, o5⟩, hb5⟩
 have D5 := D4.below hb5
 have k5 := k4.trans (KxJ.of (J := J) hb5 hB4)
 have B5 := tr_bl hb5 B4
 have hB5 := Nat.le_trans hB4 hb5.size
 refine hK'.out _ _ B5 (fun _ => ?_)
 clear hK' D4 k4 B4 s4 hB4 hb5 hse hwi
 (try simp only [Act.put]); (try simp only [List.setIfInBounds_toArray]); (try simp only [List.set_cons_succ]); (try simp only [List.set_cons_zero])
 refine tkT 8 rfl (by intro wS hSw; go_simp; (try with_reducible rfl)) ?_
 refine tkT 9 rfl (by intro wS hSw; go_simp; (try with_reducible rfl)) ?_
 refine tkT 10 rfl (by intro wS hSw; go_simp; (try with_reducible rfl)) ?_
 refine tkT 11 rfl (by intro wS hSw; go_simp; (try with_reducible rfl)) ?_
 refine tkT 12 rfl (by intro wS hSw; go_simp; (try with_reducible rfl)) ?_
 refine wpAnyH_done (by kernel_rfl) ?_ _
 refine HK.out _ _ ?_
 clear HK
 refine seqH (fun K HK => ?_)
 go_wp2
 refine HK.out _ _ ?_
 clear HK
 rcases HCS.out with ⟨hlb, hn12, rfl⟩ | ⟨hlb, hne⟩
 case inr =>
  have hsn : (se == 0) = false := by rw [beq_eq_false_iff_ne]; exact hne
  rw [hlb]
  clear hne HCS HFF hlb
  go_wp2_with fail
  go_loopw [6] (fun i wr => i = .int .i64 0 ∧ wr = w5) (fun _ _ => 0)
  case atStart => exact ⟨rfl, rfl⟩
  case round =>
   obtain ⟨rfl, rfl⟩ := hrel
   go_wp2
   go_end0
   exact ⟨⟨_, rfl⟩, ⟨_, D5⟩, k5⟩
 case inl =>
  obtain ⟨f, hf, hfn⟩ := HFF.out rfl
  subst hf
  obtain ⟨G, C, rfl, hG, F5⟩ := FrIn.of_owns o5 (by omega)
  rw [show b.length / 64 = n by omega]
  have q1 : (b.length : Int) / 64 = (n : Int) := by omega
  have q2 : (b.length : Int).tdiv 64 = (n : Int) := by rw [Int.tdiv_eq_ediv_of_nonneg (by omega)]; exact q1
  have hC := F5.1
  have HL := Lib.hid hlb
  have hCm := F5.2.1
  unfold maxLen at hCm
  clear HCS HFF o5 hG hlb
  go_wp2_with fail
  go_loopw [6] (fun i wr => ∃ k : Nat, k ≤ n ∧ i = .int .i64 (k : Int) ∧ (∃ q', RefB B g q' (putsD d f b k) wr) ∧ KxJ J B w wr ∧ wr.heap[q]? = some (Obj.cells (a6A x) 44) ∧ FrIn wr G C b) (fun i _ => n - (intOf i).toNat)
  case atStart => exact ⟨0, by omega, rfl, ⟨_, D5⟩, k5, B5, F5⟩
  case round =>
   clear D5 k5 B5 F5 hB5
   obtain ⟨k, hkn, rfl, ⟨wv7, D7⟩, k7, B7, F7⟩ := hrel
   have hB7 := Nat.le_trans hb k7.k.bl.size
   by_cases hlt : k < n
   case neg =>
    obtain rfl : k = n := by omega
    go_wp2
    go_end0
    exact ⟨⟨_, rfl⟩, ⟨_, D7⟩, k7⟩
   case pos =>
    have hlI : (k : Int) < (n : Int) := by omega
    have W1 := Lib.hid (show IntKind.i64.wrap (64 * (k : Int)) = 64 * (k : Int) from IntWalk.i64_in _ (by omega))
    have W2 := Lib.hid (show IntKind.i64.wrap (64 * (k : Int) + 64) = 64 * (k : Int) + 64 from IntWalk.i64_in _ (by omega))
    have W3 := Lib.hid (show IntKind.i64.wrap ((f : Int) + (k : Int)) = (f : Int) + (k : Int) from IntWalk.i64_in _ (by omega))
    have T1 := Lib.hid (show (64 * (k : Int)).toNat = 64 * k by omega)
    have T2 := Lib.hid (show (64 * (k : Int) + 64).toNat = 64 * k + 64 by omega)
    refine seqH (fun K HK => ?_)
    go_wp2
    refine HK.out _ _ ?_
    clear HK
    refine seqH (fun K HK2 => ?_)
    refine wp_block ?_
    go_wp2_with fail
    have hbd := (Below.refl wr.heap.size wr).drew
    have D9 := D7.below hbd
    have k9 := k7.trans (KxJ.of (J := J) hbd hB7)
    have B9 := tr_bl hbd B7
    have F9 := F7.below hbd
    have hB9 := Nat.le_trans hB7 hbd.size
    clear D7 k7 B7 F7 hB7 hbd
    refine wp_region_held_drew (S := fun w' => w'.heap[q]? = some (.cells (a6A x) 44 (0, 0))) (by kernel_rfl) B9 (fun hS0 => ?_)
    generalize wr.drew = x1 at *
    refine tkT 0 rfl (by intro wS hSw; go_simp; (try with_reducible rfl)) ?_
    refine tkT 1 rfl (by intro wS hSw; go_simp; (try with_reducible rfl)) ?_
    refine tkT 2 rfl (by intro wS hSw; go_simp; (try with_reducible rfl)) ?_
    refine tkT 3 rfl (by intro wS hSw; have c := a6_c2 hSw; go_simp; (try with_reducible rfl)) ?_
    refine tkT 4 rfl (by intro wS hSw; go_simp; (try with_reducible rfl)) ?_
    refine tkT 5 rfl (by intro wS hSw; go_simp; (try with_reducible rfl)) ?_
    refine tkT 6 rfl (by intro wS hSw; have c := a6_c3 hSw; go_simp; (try with_reducible rfl)) ?_
    refine tkT 8 rfl (by intro wS hSw; go_simp; (try with_reducible rfl)) ?_
    refine tkT 10 rfl (by intro wS hSw; go_simp; (try with_reducible rfl)) ?_
    refine tkT 11 rfl (by intro wS hSw; go_simp; (try with_reducible rfl)) ?_
    refine tkT 12 (v := .int .i64 (64 * (k : Int))) rfl (by intro wS hSw; go_simp; rw [W1.out]) ?_
    refine tkT 13 rfl (by intro wS hSw; go_simp; (try with_reducible rfl)) ?_
    refine tkT 14 (v := .int .i64 (64 * (k : Int))) rfl (by intro wS hSw; go_simp; rw [W1.out]) ?_
    refine tkT 15 (v := .int .i64 (64 * (k : Int) + 64)) rfl (by intro wS hSw; go_simp; rw [W2.out]) ?_
    refine tkT 16 (v := .slice (some ⟨G, 64 * k, none⟩) 64 (C - 64 * k)) rfl (by intro wS hSw; go_simp; rw [if_pos ⟨by omega, by have := HL.out; omega⟩, if_pos ⟨by omega, by omega⟩, T1.out, T2.out, if_neg (by have := HL.out; omega), show 64 * k + 64 - 64 * k = 64 by omega]) ?_
    refine rdy1 7 rfl (fun K' hK' => ?_)
    go_simp
    refine (first_any x.tg.reg x.tg.pla _).mono ?_
    rintro e w10 ⟨rfl, hb10⟩
    rw [HF.out]
    have D10 := D9.below hb10
    have k10 := k9.trans (KxJ.of (J := J) hb10 hB9)
    have B10 := tr_bl hb10 B9
    have F10 := F9.below hb10
    have hB10 := Nat.le_trans hB9 hb10.size
    refine hK'.out _ _ B10 (fun _ => ?_)
    clear hK' D9 k9 B9 F9 hB9 hb10 hS0
    (try simp only [Act.put]); (try simp only [List.setIfInBounds_toArray]); (try simp only [List.set_cons_succ]); (try simp only [List.set_cons_zero])
    refine tkT 9 (v := .int .i64 ((f : Int) + (k : Int))) rfl (by intro wS hSw; go_simp; rw [W3.out]) ?_
    refine rdy1 17 rfl (fun K' hK' => ?_)
    go_simp
    have hwr := rwrite_any D10 hB10 ((f : Int) + (k : Int)) (some ⟨G, 64 * k, none⟩) (C - 64 * k) (pcD b k) (fun w' hk => (F10.kr hk (by decide)).piece (by have := HL.out; omega)) (by have := hpw k; omega)
    rw [pcD_len (by have := HL.out; omega)] at hwr
    refine hwr.mono ?_
    rintro e w11 ⟨rfl, ⟨wv11, D11⟩, hk11⟩
    have B11 := hk11.ty _ _ _ B10 (by decide)
    have F11 := F10.kr hk11 (by decide)
    have k11 := k10.trans hk11.j
    refine hK'.out _ _ B11 (fun _ => ?_)
    clear hK' hwr D10 k10 B10 F10 hB10 hk11
    refine wpAnyH_done (by kernel_rfl) ?_ _
    (try simp only [Exit.inBlock, Exit.then])
    refine HK2.out _ _ ?_
    clear HK2
    go_wp2
    go_roundw
    case rel => exact ⟨k + 1, by omega, by go_num, ⟨_, D11⟩, k11, B11, F11⟩
    case measure => simp [intOf]; omega
theorem same6J_any (h : RefB B g q0 d w) (hJ : ∀ y ∈ q0.ra, ¬ J y.1) (hb : B ≤ w.heap.size) (x : A6) (hi : ∀ w', Kx fT B w w' → A6in w' x) (hl : x.body.length ≤ 100 ∧ x.dk.bytes.length ≤ 200 ∧ x.dk.keep.length ≤ 100) (hw : d.waits.length ≤ 1000) :
  Calls Tryz.prog 16 #[.pointer (some ⟨g, 0, none⟩), a6V x] w fun e w' => (∃ v, e = .returned v) ∧ RDoesJ J B g w (do6 d x) w' := by
 cases hx : x.sl
 ·exact same6J_no h hJ hb x hx hi hl.2 hw
 ·exact same6J_yes h hb x hx hi (by omega) hw
end
end Go.Proofs.YtbdonjenekhmdaaGreatDoor
namespace Go.Proofs.YtbdonjenekhmdaaGreatDoor
open Go.RowKit
section
variable {B B2 g g2 gp q qy base c : Nat} {wv : Value} {qq : RQ} {d : Dk} {w w' : World} {s : Sh} {a : Option Addr} {l : List UInt8}
theorem RefB.kq (h : RefB B g qq d w) (hk : Kq B2 w w') : RefB B g qq d w' := h.keep fun j cs T hT a => hk.ty j cs T a (fun e => by subst e; revert hT; decide) (fun e => by subst e; revert hT; decide) (fun e => by subst e; revert hT; decide) (fun e => by subst e; revert hT; decide)
theorem ShR.kq (h : ShR w q g s) (hk : Kq B w w') : ShR w' q g s := hk.ty _ _ _ h (by decide) (by decide) (by decide) (by decide)
theorem ShB.ks (h : ShB w q g s) (hk : Kx sT B w w') : ShB w' q g s := hk.ty _ _ _ h (by decide)
theorem ShB.kf (h : ShB w q g s) (hk : Kx fT B w w') : ShB w' q g s := hk.ty _ _ _ h (by decide)
theorem DiskB.ks (h : DiskB B g gp wv d w) (hk : Kx sT B2 w w') : DiskB B g gp wv d w' :=
 ⟨hk.ty _ _ _ h.box (by decide), hk.ty _ _ _ h.pls (by decide), owns_kx h.wts hk (by decide), h.gb, h.pb, h.n0, h.nl, h.lo, h.hi, h.ok, h.wk⟩
theorem OwnS.ks (h : OwnS w base a c l) (hk : Kx sT B w w') : OwnS w' base a c l := by
 refine ⟨?_, h.2⟩
 rcases h.1 with h1 | ⟨g, ys, h1, h2, h3, h4, h5⟩
 ·exact .inl h1
 ·exact .inr ⟨g, ys, h1, h2, h3, h4, hk.ty _ _ _ h5 (by decide)⟩
theorem OwnS.kj (h : OwnS w base a c l) (hk : KxJ (fun j => a = some ⟨j, 0, none⟩) B w w') : OwnS w' base a c l := by
 refine ⟨?_, h.2⟩
 rcases h.1 with h1 | ⟨g, ys, h1, h2, h3, h4, h5⟩
 ·exact .inl h1
 ·exact .inr ⟨g, ys, h1, h2, h3, h4, hk.u _ _ h1 h5⟩
theorem RefB.ra_lt (h : RefB B g qq d w) : ∀ y ∈ qq.ra, y.1 < w.heap.size := by
 intro y hy
 obtain ⟨k, hk, e⟩ := List.getElem_of_mem hy
 have hkd : k < d.pl.length := by rw [← h.la]; exact hk
 have hs := h.rs k y d.pl[k] (by rw [List.getElem?_eq_getElem hk, e]) (List.getElem?_eq_getElem hkd)
 obtain ⟨cs, hcs, _⟩ := own_block hs
 exact lt_blk hcs
theorem OwnS.not_ra (h : OwnS w' w.heap.size a c l) (R : RefB B g qq d w) : ∀ y ∈ qq.ra, ¬ a = some ⟨y.1, 0, none⟩ := by
 intro y hy e
 have h2 := R.ra_lt y hy
 rcases h.1 with ⟨h1, _⟩ | ⟨g, ys, h1, h3, _⟩
 ·rw [h1] at e; cases e
 ·rw [h1] at e
  injection e with e
  injection e with e
  omega
theorem sinst_any (h : ShB w q g s) (hd : DiskB B g gp wv d w) (hb : B ≤ w.heap.size) (hq : B ≤ q) (hok : ShOk s) (idx : Int) (a : Option Addr) (cap : Nat) (b : List UInt8) (hs : SlB w a cap b) (hw : d.waits.length ≤ 900) :
  Calls Tryz.prog 11 #[.pointer (some ⟨q, 0, none⟩), .int .i64 idx, .slice a b.length cap] w (IRes B g gp q w (installS d s idx b)) := by
 by_cases hi : idx ≤ s.idx ∨ 1099511627752 < idx
 ·rw [show installS d s idx b = (d, s, 2) by unfold installS; rw [if_pos hi]]
  exact sinst_bad h hd hb idx a cap b hi
 ·by_cases hl : 640 < b.length ∨ upD d = false
  ·rw [show installS d s idx b = (d, s, if 640 < b.length then 3 else 5) by
    unfold installS
    rw [if_neg hi]
    by_cases h6 : 640 < b.length
    ·rw [if_pos h6, if_pos h6]
    ·rw [if_neg h6, if_neg h6, if_pos (hl.resolve_left h6)]]
   exact sinst_no h hd hb idx a cap b hs hi hl
  ·exact sinst_ok h hd hb hq hok idx a cap b hs (by omega) (by omega) (by omega) (by cases hu : upD d <;> simp_all) hw
theorem rinst13_any (h : ShR w q g s) (R : RefB B g qq d w) (hb : B ≤ w.heap.size) (hq : B ≤ q) (hok : ShOk s) (idx : Int) (a : Option Addr) (cap : Nat) (b : List UInt8) (hs : SlB w a cap b) (hw : d.waits.length ≤ 900) :
  Calls Tryz.prog 12 #[.pointer (some ⟨q, 0, none⟩), .int .i64 idx, .slice a b.length cap] w (IResR B g q w (installS d s idx b)) := by
 by_cases hi : idx ≤ s.idx ∨ 1099511627752 < idx
 ·rw [show installS d s idx b = (d, s, 2) by unfold installS; rw [if_pos hi]]
  exact rinst13_bad h R idx a cap b hi
 ·by_cases hl : 640 < b.length ∨ upD d = false
  ·rw [show installS d s idx b = (d, s, if 640 < b.length then 3 else 5) by
    unfold installS
    rw [if_neg hi]
    by_cases h6 : 640 < b.length
    ·rw [if_pos h6, if_pos h6]
    ·rw [if_neg h6, if_neg h6, if_pos (hl.resolve_left h6)]]
   exact rinst13_no h R hb idx a cap b hs hi hl
  ·exact rinst13_ok h R hb hq hok idx a cap b hs (by omega) (by omega) (by omega) (by cases hu : upD d <;> simp_all) hw
end
structure St13 (B g gp g2 qx qy : Nat) (d : Dk) (s : Sh) (w : World) : Prop where
 D : ∃ wv, DiskB B g gp wv d w
 R : ∃ q, RefB B g2 q d w
 S : ShB w qx g s
 T : ShR w qy g2 s
 ok : ShOk s
 bx : B ≤ qx
 bY : B ≤ qy
theorem St13.below {B g gp g2 qx qy : Nat} {d : Dk} {s : Sh} {w w' : World} (h : St13 B g gp g2 qx qy d s w) (hb : Below w.heap.size w w') : St13 B g gp g2 qx qy d s w' := by
 obtain ⟨⟨wv, D⟩, ⟨q, R⟩, S, T, ok, b1, b2⟩ := h
 exact ⟨⟨wv, D.below hb⟩, ⟨q, R.below hb⟩, S.below hb, T.below hb, ok, b1, b2⟩
end Go.Proofs.YtbdonjenekhmdaaGreatDoor
namespace Go.Proofs.YtbdonjenekhmdaaGreatDoor
open Go.RowKit
theorem a13_new (x : A7) : (Value.agg (a7A x)).cells = a7A x ∧ (a7A x).size = 15 ∧ ∀ u ∈ (a7A x).toList, u.oneCell' = true := ⟨rfl, rfl, by simp [a7A, a7L, a6L, Value.oneCell']⟩
theorem a13_ot (x : A7) : 3 + 12 ≤ (a7A x).size ∧ (a7A x).extract 3 (3 + 12) = a6A x.ot := ⟨Nat.le_refl 15, rfl⟩
section
variable {B g gp : Nat} {w w' : World} {d : Dk} {s : Sh} {x : Int} {e : Ending}
theorem OpRes.get0 (h : OpRes B g gp w (d, s, 0) e w') : ∃ q, e = .returned (.tuple #[.pointer (some ⟨q, 0, none⟩), .int .i64 0]) ∧ w.heap.size ≤ q ∧ ShB w' q g s ∧ (∃ wv', DiskB B g gp wv' d w') ∧ Kt B w w' := by
 obtain ⟨h1, h2, h3⟩ := h
 rcases h1 with ⟨_, q, h4, h5, h6⟩ | ⟨h4, _⟩
 ·exact ⟨q, h4, h5, h6, h2, h3⟩
 ·exact absurd rfl h4
theorem OpRes.getE (h : OpRes B g gp w (d, s, x) e w') (hx : x ≠ 0) : e = .returned (.tuple #[.pointer none, .int .i64 x]) ∧ (∃ wv', DiskB B g gp wv' d w') ∧ Kt B w w' := by
 obtain ⟨h1, h2, h3⟩ := h
 rcases h1 with ⟨h4, _⟩ | ⟨_, h4⟩
 ·exact absurd h4 hx
 ·exact ⟨h4, h2, h3⟩
theorem OpResR.get0 (h : OpResR B g w (d, s, 0) e w') : ∃ q, e = .returned (.tuple #[.pointer (some ⟨q, 0, none⟩), .int .i64 0]) ∧ w.heap.size ≤ q ∧ ShR w' q g s ∧ (∃ q', RefB B g q' d w') ∧ Kx rT B w w' := by
 obtain ⟨h1, h2, h3⟩ := h
 rcases h1 with ⟨_, q, h4, h5, h6⟩ | ⟨h4, _⟩
 ·exact ⟨q, h4, h5, h6, h2, h3⟩
 ·exact absurd rfl h4
theorem OpResR.getE (h : OpResR B g w (d, s, x) e w') (hx : x ≠ 0) : e = .returned (.tuple #[.pointer none, .int .i64 x]) ∧ (∃ q', RefB B g q' d w') ∧ Kx rT B w w' := by
 obtain ⟨h1, h2, h3⟩ := h
 rcases h1 with ⟨h4, _⟩ | ⟨_, h4⟩
 ·exact absurd h4 hx
 ·exact ⟨h4, h2, h3⟩
end
set_option maxRecDepth 100000 in
set_option maxHeartbeats 32000000 in
theorem plays13_law (rep inc : Int) (a : Option Addr) (cap : Nat) (l : List A7) (w : World) (hp : Acts7 w a l) :
  Calls Tryz.prog 3 #[.int .i64 rep, .int .i64 inc, .slice a l.length cap] w fun e w' => e = .returned (.bool true) ∧ Below w.heap.size w w' := by
 cases hg : gr13 l
 case true =>
  have HG := Lib.hid hg
  clear hg
  go_enter Tryz.func3, Tryz.ntmps3
  go_wp2_with (go_at_call 5; refine (great13_any a cap l _ hp).mono ?_; rintro e w2 ⟨rfl, hb2⟩; rw [HG.out])
  go_ret
  exact ⟨rfl, hb2⟩
 case false =>
 obtain ⟨hl25, hl7⟩ := gr13_no hg
 have HG := Lib.hid hg
 have HL7 := Lib.hid hl7
 clear hg hl7
 have hpl0 := open_pl (newDk 156) rep inc
 have hok0 := open_ok (d := newDk 156) (rep := rep) (inc := inc) (by simp [newDk])
 obtain ⟨⟨d0, s0, e0⟩, hop0⟩ : ∃ r, openS (newDk 156) rep inc = r := ⟨_, rfl⟩
 rw [hop0] at hpl0 hok0
 simp only at hpl0 hok0
 have hwk0 : Wk d0 (18 * 0 + 2) := ⟨by rw [hpl0.1]; simp [newDk], by have := hpl0.2; simp [newDk] at this; omega⟩
 have HO := Lib.hid hop0
 have HOK0 := Lib.hid hok0
 clear hop0 hok0 hpl0
 by_cases he0 : e0 = 0
 case neg =>
  have en0 : (e0 != 0) = true := by rw [bne_iff_ne]; exact he0
  go_enter Tryz.func3, Tryz.ntmps3
  refine seqH (fun K HK => ?_)
  go_wp2
  refine HK.out _ _ ?_
  clear HK
  refine seqH (fun K HK => ?_)
  go_wp2_with (go_at_call 5; refine (great13_any a cap l _ hp).mono ?_; rintro e w2 ⟨rfl, hb2⟩; rw [HG.out])
  refine HK.out _ _ ?_
  clear HK
  refine seqH (fun K HK => ?_)
  go_wp2_with (go_at_call 6; refine (new156 (B := w.heap.size) hb2.size).mono ?_; rintro e w3 ⟨⟨g, gp, rfl, D3⟩, hb3⟩)
  refine HK.out _ _ ?_
  clear HK
  have hb3b := hb2.trans (hb3.mono hb2.size)
  refine seqH (fun K HK => ?_)
  go_wp2_with (go_at_call 7; refine (rnew_any 156 (by decide) (by decide) w3).mono ?_; rintro e w4 ⟨g2, rfl, ⟨q2, R4⟩, hb4⟩)
  refine HK.out _ _ ?_
  clear HK
  have hb4b := hb3b.trans (hb4.mono hb3b.size)
  have D4 := D3.below hb4
  have R5 := R4.mono hb3b.size
  clear D3 R4 hb2 hb3 hb3b hb4
  refine seqH (fun K HK => ?_)
  go_wp2
  refine HK.out _ _ ?_
  clear HK
  have hop := sopen_any D4 hb4b.size rep inc (by simp [newDk])
  rw [HO.out] at hop
  refine seqH (fun K HK => ?_)
  go_wp2_with (go_at_call 8; refine hop.mono ?_; intro e w6 hr6; obtain ⟨rfl, ⟨wv6, D6⟩, k6⟩ := hr6.getE he0)
  refine HK.out _ _ ?_
  clear HK
  have R6 := R5.kt k6
  have hb6 := hb4b.trans k6.bl
  have hop2 := ropen13_any R6 hb6.size rep inc (by simp [newDk])
  rw [HO.out] at hop2
  have hb4c := hb4b
  clear hop D4 R5 hb4b
  refine seqH (fun K HK => ?_)
  go_wp2_with (go_at_call 9; refine hop2.mono ?_; intro e w8 hr8; obtain ⟨rfl, ⟨q8, R8⟩, k8⟩ := hr8.getE he0)
  refine HK.out _ _ ?_
  clear HK
  have D8 := D6.kx k8.f
  have hb8 := hb6.trans k8.bl
  clear hop2 R6
  go_wp2
  go_ret
  exact ⟨rfl, hb8⟩
 case pos =>
 subst he0
 go_enter Tryz.func3, Tryz.ntmps3
 refine seqH (fun K HK => ?_)
 go_wp2
 refine HK.out _ _ ?_
 clear HK
 refine seqH (fun K HK => ?_)
 go_wp2_with (go_at_call 5; refine (great13_any a cap l _ hp).mono ?_; rintro e w2 ⟨rfl, hb2⟩; rw [HG.out])
 refine HK.out _ _ ?_
 clear HK
 refine seqH (fun K HK => ?_)
 go_wp2_with (go_at_call 6; refine (new156 (B := w.heap.size) hb2.size).mono ?_; rintro e w3 ⟨⟨g, gp, rfl, D3⟩, hb3⟩)
 refine HK.out _ _ ?_
 clear HK
 have hb3b := hb2.trans (hb3.mono hb2.size)
 refine seqH (fun K HK => ?_)
 go_wp2_with (go_at_call 7; refine (rnew_any 156 (by decide) (by decide) w3).mono ?_; rintro e w4 ⟨g2, rfl, ⟨q2, R4⟩, hb4⟩)
 refine HK.out _ _ ?_
 clear HK
 have hb4b := hb3b.trans (hb4.mono hb3b.size)
 have D4 := D3.below hb4
 have R5 := R4.mono hb3b.size
 clear D3 R4 hb2 hb3 hb3b hb4
 refine seqH (fun K HK => ?_)
 go_wp2
 refine HK.out _ _ ?_
 clear HK
 have hop := sopen_any D4 hb4b.size rep inc (by simp [newDk])
 rw [HO.out] at hop
 refine seqH (fun K HK => ?_)
 go_wp2_with (go_at_call 8; refine hop.mono ?_; intro e w6 hr6; obtain ⟨q6, rfl, hq6, S6, ⟨wv6, D6⟩, k6⟩ := hr6.get0)
 refine HK.out _ _ ?_
 clear HK
 have R6 := R5.kt k6
 have hb6 := hb4b.trans k6.bl
 have hop2 := ropen13_any R6 hb6.size rep inc (by simp [newDk])
 rw [HO.out] at hop2
 have hb4c := hb4b
 clear hop D4 R5 hb4b
 refine seqH (fun K HK => ?_)
 go_wp2_with (go_at_call 9; refine hop2.mono ?_; intro e w8 hr8; obtain ⟨q8, rfl, hq8, T8, ⟨r8, R8⟩, k8⟩ := hr8.get0)
 refine HK.out _ _ ?_
 clear HK
 have D8 := D6.kx k8.f
 have hb8 := hb6.trans k8.bl
 clear hop2 R6
 have S8 := S6.kf k8.f
 have hst0 : St13 w.heap.size g gp g2 q6 q8 d0 s0 w8 := ⟨⟨_, D8⟩, ⟨_, R8⟩, S8, T8, HOK0.out (by trivial), by have := hb4c.size; omega, by have := hb6.size; omega⟩
 clear D8 R8 S8 T8 D6 S6 k6 k8 hq6 hq8 hb6 hb4c
 refine seqH (fun K HK => ?_)
 go_wp2
 refine HK.out _ _ ?_
 clear HK
 refine seqH (fun K HK => ?_)
 go_wp2
 refine HK.out _ _ ?_
 clear HK
 refine wp_seq_k (fun K hK => ?_)
 go_cut [] (fun wx => Below w.heap.size w wx)
 case first =>
  go_wp2
  go_loopw [15, 11, 13] (fun i x y wr => ∃ (j : Nat) (d : Dk) (s : Sh) (qx qy : Nat), j ≤ l.length ∧ i = .int .i64 (j : Nat) ∧ x = .pointer (some ⟨qx, 0, none⟩) ∧ y = .pointer (some ⟨qy, 0, none⟩) ∧ St13 w.heap.size g gp g2 qx qy d s wr ∧ Wk d (18 * j + 2) ∧ Below w.heap.size w wr) (fun i _ _ _ => l.length - (intOf i).toNat)
  case atStart => exact ⟨0, _, _, _, _, by omega, rfl, rfl, rfl, hst0, hwk0, hb8⟩
  case round =>
   clear hst0 hb8 hwk0
   obtain ⟨j, d, s, qx, qy, hj, rfl, rfl, rfl, ⟨⟨wv, D⟩, ⟨q, R⟩, S, T, hok, hqx, hqy⟩, hwk, hbr⟩ := hrel
   by_cases hlt : j < l.length
   case neg =>
    clear D R S T hwk
    go_wp2
    go_meet
    exact hbr
   case pos =>
    obtain ⟨b, off, rfl, hc, hi⟩ := (hp.below hbr).each j hlt
    have hx := HL7.out _ (List.getElem_mem hlt)
    have HI : ∀ w', Below w.heap.size w w' → A7in w' l[j] := fun w' hk => by
     obtain ⟨_, _, _, _, h⟩ := (hp.below hk).each j hlt
     exact h
    generalize l[j] = x at *
    have hcA : ∀ r u, (a7A x)[r]? = some u → wr.cell? ⟨b, off + j * 15 + r, none⟩ = some u := fun r u hu => hc r u (by simpa [a7A] using hu)
    have hwt := hwk.wt
    have hkd := hi.k
    clear hc hi
    refine seqH (fun K HK => ?_)
    go_wp2
    refine HK.out _ _ ?_
    clear HK
    refine seqH (fun K HK1 => ?_)
    refine wp_block ?_
    refine seqH (fun K HK => ?_)
    go_wp2_with (first
         | ((with_reducible refine wpList_ldC 46 _ ?_); refine ⟨rfl, _, ⟨_, _, _, Tryz.isAgg46, Tryz.sizeOf46, rfl, (show (a7A x).size = 15 from rfl), hcA⟩, ?_⟩)
         | ((first | (with_reducible refine wpList_stNew 46 _ _ ?_) | (with_reducible refine wp_stNew 46 _ _ ?_)); refine ⟨_, _, ⟨Tryz.sizeOf46, rfl, a13_new x⟩, rfl, ?_⟩))
    refine HK.out _ _ ?_
    clear HK
    have X4 := heap_alloc_new wr (Obj.cells (a7A x) 46)
    have D4 := D.below (blw wr (Obj.cells (a7A x) 46))
    have R4 := R.below (blw wr (Obj.cells (a7A x) 46))
    have S4 := S.below (blw wr (Obj.cells (a7A x) 46))
    have T4 := T.below (blw wr (Obj.cells (a7A x) 46))
    have hb4 := hbr.trans ((blw wr (Obj.cells (a7A x) 46)).mono hbr.size)
    clear D R S T hcA hbr
    generalize wr.alloc (Obj.cells (a7A x) 46) = w4 at *
    generalize wr.heap.size = q4 at *
    have c2 := blk_cell X4 2 (.slice x.ba x.body.length x.bc) rfl
    refine seqH (fun K HK => ?_)
    go_wp2_with (go_at_call 10; refine (copy_any x.ba x.bc x.body _ (HI _ hb4).b (by omega)).mono ?_; rintro e w5 ⟨⟨v5, rfl, o5⟩, hb45⟩)
    refine HK.out _ _ ?_
    clear HK
    obtain ⟨sa, sc, rfl, O5⟩ := OwnS.of_owns o5
    have HNR := Lib.hid (O5.not_ra R4)
    have D5 := D4.below hb45
    have R5 := R4.below hb45
    have S5 := S4.below hb45
    have T5 := T4.below hb45
    have X5 := tr_bl hb45 X4
    have hb5 := hb4.trans (hb45.mono hb4.size)
    clear D4 R4 S4 T4 X4 hb4 hb45 c2 o5
    refine wp_seq_k (fun K hK => ?_)
    go_cut [11, 13] (fun z y wx => ∃ (d' : Dk) (s' : Sh) (qx qy : Nat), z = .pointer (some ⟨qx, 0, none⟩) ∧ y = .pointer (some ⟨qy, 0, none⟩) ∧ St13 w.heap.size g gp g2 qx qy d' s' wx ∧ Wk d' (18 * (j + 1) + 2) ∧ OwnS wx w4.heap.size sa sc x.body ∧ wx.heap[q4]? = some (.cells (a7A x) 46 (0, 0)) ∧ Below w.heap.size w wx)
    case first =>
     have c0 := blk_cell X5 0 (.int .u8 (x.kind : Int)) rfl
     have hm5 : x.kind % 5 = 0 ∨ x.kind % 5 = 1 ∨ x.kind % 5 = 2 ∨ x.kind % 5 = 3 ∨ x.kind % 5 = 4 := by omega
     have ft : (x.kind : Int).tmod 5 = (x.kind : Int) % 5 := Int.tmod_eq_emod_of_nonneg (by omega)
     rcases hm5 with h0 | h0 | h0 | h0 | h0
     ·have f0 : (x.kind : Int) % 5 = 0 := by omega
      rw [f0] at ft
      clear h0 hkd
      obtain ⟨⟨d', s', er⟩, hir⟩ : ∃ r, installS d s x.n x.body = r := ⟨_, rfl⟩
      have hpl := install_pl d s x.n x.body
      have hok' := install_ok (d := d) hok x.n x.body
      rw [hir] at hpl hok'
      have HIR := Lib.hid hir
      have W5 : Wk d' (18 * (j + 1) + 2) := ⟨hpl.1.trans hwk.len, Nat.le_trans hpl.2 (by omega)⟩
      have HOK := Lib.hid hok'
      clear hir hpl hok' hwk
      go_wp2_with fail
      have hbd := (Below.refl w5.heap.size w5).drew
      have D6 := D5.below hbd
      have R6 := R5.below hbd
      have S6 := S5.below hbd
      have T6 := T5.below hbd
      have X6 := tr_bl hbd X5
      have O6 := O5.below hbd
      have hb6 := hb5.trans (hbd.mono hb5.size)
      clear D5 R5 S5 T5 X5 O5 hb5 hbd c0 HNR
      refine wp_region_held_drew (S := fun w' => w'.heap[q4]? = some (.cells (a7A x) 46 (0, 0))) (by kernel_rfl) X6 (fun hS0 => ?_)
      generalize w5.drew = x0 at *
      refine tkT 0 rfl (by intro wS hSw; go_simp; (try with_reducible rfl)) ?_
      refine tkT 1 rfl (by intro wS hSw; go_simp; (try with_reducible rfl)) ?_
      refine tkT 2 rfl (by intro wS hSw; have c := blk_cell hSw 1 (.int .i64 x.n) rfl; go_simp; (try with_reducible rfl)) ?_
      refine tkT 3 rfl (by intro wS hSw; go_simp; (try with_reducible rfl)) ?_
      refine tkT 5 rfl (by intro wS hSw; go_simp; (try with_reducible rfl)) ?_
      refine tkT 6 rfl (by intro wS hSw; go_simp; (try with_reducible rfl)) ?_
      refine tkT 7 rfl (by intro wS hSw; have c := blk_cell hSw 1 (.int .i64 x.n) rfl; go_simp; (try with_reducible rfl)) ?_
      refine tkT 8 rfl (by intro wS hSw; go_simp; (try with_reducible rfl)) ?_
      refine tkT 9 rfl (by intro wS hSw; have c := blk_cell hSw 2 (.slice x.ba x.body.length x.bc) rfl; go_simp; (try with_reducible rfl)) ?_
      refine rdy1 4 rfl (fun K' hK' => ?_)
      go_simp
      have hin := sinst_any S6 D6 hb6.size hqx hok x.n sa sc x.body O6.slb (by omega)
      rw [HIR.out] at hin
      refine hin.mono ?_
      rintro e w7 ⟨rfl, ⟨wv7, D7⟩, S7, k7⟩
      have R7 := R6.kq k7
      have T7 := T6.kq k7
      have X7 := k7.ty _ _ _ X6 (by decide) (by decide) (by decide) (by decide)
      have O7 := O6.kq k7
      have hb7 := hb6.trans k7.bl
      refine hK'.out _ _ X7 (fun _ => ?_)
      clear hK' D6 R6 S6 T6 X6 O6 hb6 k7 hS0 hin
      refine rdy1 10 rfl (fun K' hK' => ?_)
      go_simp
      have hin := rinst13_any T7 R7 hb7.size hqy hok x.n x.ba x.bc x.body (HI _ hb7).b (by omega)
      rw [HIR.out] at hin
      refine hin.mono ?_
      rintro e w8 ⟨rfl, ⟨q8, R8⟩, T8, k8⟩
      have D8 := D7.ks k8
      have S8 := S7.ks k8
      have X8 := k8.ty _ _ _ X7 (by decide)
      have O8 := O7.ks k8
      have hb8 := hb7.trans k8.bl
      refine hK'.out _ _ X8 (fun _ => ?_)
      clear hK' D7 R7 S7 T7 X7 O7 hb7 k8 hin
      refine tkT 11 (v := .bool false) rfl (by intro wS hSw; go_simp; (try simp)) ?_
      refine wpAnyH_done (by kernel_rfl) ?_ _
      (try simp only [Exit.then])
      go_wp2
      (try simp only [Exit.inBlock, Exit.then])
      go_meet
      exact ⟨d', s', qx, qy, rfl, rfl, ⟨⟨_, D8⟩, ⟨_, R8⟩, S8, T8, HOK.out, hqx, hqy⟩, W5, O8, X8, hb8⟩
     ·have f0 : (x.kind : Int) % 5 = 1 := by omega
      rw [f0] at ft
      clear h0 hkd
      obtain ⟨⟨d', s', er⟩, hir⟩ : ∃ r, installS d s x.n x.body = r := ⟨_, rfl⟩
      have hpl := install_pl d s x.n x.body
      have hok' := install_ok (d := d) hok x.n x.body
      rw [hir] at hpl hok'
      have HIR := Lib.hid hir
      have W5 : Wk d' (18 * (j + 1) + 2) := ⟨hpl.1.trans hwk.len, Nat.le_trans hpl.2 (by omega)⟩
      have HOK := Lib.hid hok'
      clear hir hpl hok' hwk
      go_wp2_with fail
      have hbd := (Below.refl w5.heap.size w5).drew
      have D6 := D5.below hbd
      have R6 := R5.below hbd
      have S6 := S5.below hbd
      have T6 := T5.below hbd
      have X6 := tr_bl hbd X5
      have O6 := O5.below hbd
      have hb6 := hb5.trans (hbd.mono hb5.size)
      clear D5 R5 S5 T5 X5 O5 hb5 hbd c0 HNR
      refine wp_region_held_drew (S := fun w' => w'.heap[q4]? = some (.cells (a7A x) 46 (0, 0))) (by kernel_rfl) X6 (fun hS0 => ?_)
      generalize w5.drew = x0 at *
      refine tkT 0 rfl (by intro wS hSw; go_simp; (try with_reducible rfl)) ?_
      refine tkT 1 rfl (by intro wS hSw; go_simp; (try with_reducible rfl)) ?_
      refine tkT 2 rfl (by intro wS hSw; have c := blk_cell hSw 1 (.int .i64 x.n) rfl; go_simp; (try with_reducible rfl)) ?_
      refine tkT 3 rfl (by intro wS hSw; go_simp; (try with_reducible rfl)) ?_
      refine tkT 5 rfl (by intro wS hSw; go_simp; (try with_reducible rfl)) ?_
      refine tkT 6 rfl (by intro wS hSw; go_simp; (try with_reducible rfl)) ?_
      refine tkT 7 rfl (by intro wS hSw; have c := blk_cell hSw 1 (.int .i64 x.n) rfl; go_simp; (try with_reducible rfl)) ?_
      refine tkT 8 rfl (by intro wS hSw; go_simp; (try with_reducible rfl)) ?_
      refine tkT 9 rfl (by intro wS hSw; have c := blk_cell hSw 2 (.slice x.ba x.body.length x.bc) rfl; go_simp; (try with_reducible rfl)) ?_
      refine rdy1 4 rfl (fun K' hK' => ?_)
      go_simp
      have hin := sinst_any S6 D6 hb6.size hqx hok x.n sa sc x.body O6.slb (by omega)
      rw [HIR.out] at hin
      refine hin.mono ?_
      rintro e w7 ⟨rfl, ⟨wv7, D7⟩, S7, k7⟩
      have R7 := R6.kq k7
      have T7 := T6.kq k7
      have X7 := k7.ty _ _ _ X6 (by decide) (by decide) (by decide) (by decide)
      have O7 := O6.kq k7
      have hb7 := hb6.trans k7.bl
      refine hK'.out _ _ X7 (fun _ => ?_)
      clear hK' D6 R6 S6 T6 X6 O6 hb6 k7 hS0 hin
      refine rdy1 10 rfl (fun K' hK' => ?_)
      go_simp
      have hin := rinst13_any T7 R7 hb7.size hqy hok x.n x.ba x.bc x.body (HI _ hb7).b (by omega)
      rw [HIR.out] at hin
      refine hin.mono ?_
      rintro e w8 ⟨rfl, ⟨q8, R8⟩, T8, k8⟩
      have D8 := D7.ks k8
      have S8 := S7.ks k8
      have X8 := k8.ty _ _ _ X7 (by decide)
      have O8 := O7.ks k8
      have hb8 := hb7.trans k8.bl
      refine hK'.out _ _ X8 (fun _ => ?_)
      clear hK' D7 R7 S7 T7 X7 O7 hb7 k8 hin
      refine tkT 11 (v := .bool false) rfl (by intro wS hSw; go_simp; (try simp)) ?_
      refine wpAnyH_done (by kernel_rfl) ?_ _
      (try simp only [Exit.then])
      go_wp2
      (try simp only [Exit.inBlock, Exit.then])
      go_meet
      exact ⟨d', s', qx, qy, rfl, rfl, ⟨⟨_, D8⟩, ⟨_, R8⟩, S8, T8, HOK.out, hqx, hqy⟩, W5, O8, X8, hb8⟩
     ·have f0 : (x.kind : Int) % 5 = 2 := by omega
      rw [f0] at ft
      clear h0 hkd
      obtain ⟨⟨d', er⟩, hir⟩ : ∃ r, mendS d s x.n x.body = r := ⟨_, rfl⟩
      have hpl := mend_pl d s x.n x.body
      rw [hir] at hpl
      have HIR := Lib.hid hir
      have W5 : Wk d' (18 * (j + 1) + 2) := ⟨hpl.1.trans hwk.len, Nat.le_trans hpl.2 (by omega)⟩
      clear hir hpl hwk
      go_wp2_with fail
      have hbd := (Below.refl w5.heap.size w5).drew
      have D6 := D5.below hbd
      have R6 := R5.below hbd
      have S6 := S5.below hbd
      have T6 := T5.below hbd
      have X6 := tr_bl hbd X5
      have O6 := O5.below hbd
      have hb6 := hb5.trans (hbd.mono hb5.size)
      clear D5 R5 S5 T5 X5 O5 hb5 hbd c0 HNR
      refine wp_region_held_drew (S := fun w' => w'.heap[q4]? = some (.cells (a7A x) 46 (0, 0))) (by kernel_rfl) X6 (fun hS0 => ?_)
      generalize w5.drew = x0 at *
      refine tkT 0 rfl (by intro wS hSw; go_simp; (try with_reducible rfl)) ?_
      refine tkT 1 rfl (by intro wS hSw; go_simp; (try with_reducible rfl)) ?_
      refine tkT 2 rfl (by intro wS hSw; have c := blk_cell hSw 1 (.int .i64 x.n) rfl; go_simp; (try with_reducible rfl)) ?_
      refine tkT 3 rfl (by intro wS hSw; go_simp; (try with_reducible rfl)) ?_
      refine tkT 5 rfl (by intro wS hSw; go_simp; (try with_reducible rfl)) ?_
      refine tkT 6 rfl (by intro wS hSw; go_simp; (try with_reducible rfl)) ?_
      refine tkT 7 rfl (by intro wS hSw; have c := blk_cell hSw 1 (.int .i64 x.n) rfl; go_simp; (try with_reducible rfl)) ?_
      refine tkT 8 rfl (by intro wS hSw; go_simp; (try with_reducible rfl)) ?_
      refine tkT 9 rfl (by intro wS hSw; have c := blk_cell hSw 2 (.slice x.ba x.body.length x.bc) rfl; go_simp; (try with_reducible rfl)) ?_
      refine rdy1 4 rfl (fun K' hK' => ?_)
      go_simp
      have hin := smend_any S6 D6 hb6.size hok x.n sa sc x.body O6.slb (by omega)
      rw [HIR.out] at hin
      refine hin.mono ?_
      rintro e w7 ⟨rfl, ⟨wv7, D7⟩, k7⟩
      have R7 := R6.kt k7
      have T7 := T6.kt k7
      have S7 := S6.kt k7
      have X7 := k7.ty _ _ _ X6 (by decide) (by decide) (by decide)
      have O7 := O6.kt k7
      have hb7 := hb6.trans k7.bl
      refine hK'.out _ _ X7 (fun _ => ?_)
      clear hK' D6 R6 S6 T6 X6 O6 hb6 k7 hS0 hin
      refine rdy1 10 rfl (fun K' hK' => ?_)
      go_simp
      have hin := rmend13_any T7 R7 hb7.size hok x.n x.ba x.bc x.body (HI _ hb7).b (by omega)
      rw [HIR.out] at hin
      refine hin.mono ?_
      rintro e w8 ⟨rfl, ⟨q8, R8⟩, k8⟩
      have D8 := D7.kx k8.f
      have S8 := S7.kf k8.f
      have T8 := T7.kx k8.f
      have X8 := k8.ty _ _ _ X7 (by decide)
      have O8 := O7.kr k8
      have hb8 := hb7.trans k8.bl
      refine hK'.out _ _ X8 (fun _ => ?_)
      clear hK' D7 R7 S7 T7 X7 O7 hb7 k8 hin
      refine tkT 11 (v := .bool false) rfl (by intro wS hSw; go_simp; (try simp)) ?_
      refine wpAnyH_done (by kernel_rfl) ?_ _
      (try simp only [Exit.then])
      go_wp2
      (try simp only [Exit.inBlock, Exit.then])
      go_meet
      exact ⟨d', s, qx, qy, rfl, rfl, ⟨⟨_, D8⟩, ⟨_, R8⟩, S8, T8, hok, hqx, hqy⟩, W5, O8, X8, hb8⟩
     ·have f0 : (x.kind : Int) % 5 = 3 := by omega
      rw [f0] at ft
      clear h0 hkd
      have hpl := open_pl d rep x.n
      have hok1 := open_ok (d := d) (rep := rep) (inc := x.n) (by have := hwk.len; omega)
      obtain ⟨⟨d', s', er⟩, hir⟩ : ∃ r, openS d rep x.n = r := ⟨_, rfl⟩
      rw [hir] at hpl hok1
      have HIR := Lib.hid hir
      have HOK := Lib.hid hok1
      have W5 : Wk d' (18 * (j + 1) + 2) := ⟨hpl.1.trans hwk.len, Nat.le_trans hpl.2 (by omega)⟩
      clear hir hok1
      by_cases her : er = 0
      ·subst her
       have c1 := blk_cell X5 1 (.int .i64 x.n) rfl
       have hop := sopen_any D5 hb5.size rep x.n (by omega)
       rw [HIR.out] at hop
       clear hpl hwk
       go_wp2_with (first
        | (go_at_call 8; refine hop.mono ?_; intro e w6 hr6; obtain ⟨q6, rfl, hq6, S6n, ⟨wv6, D6⟩, k6⟩ := hr6.get0; have R6 := R5.kt k6; have S6 := S5.kt k6; have T6 := T5.kt k6; have X6 := k6.ty _ _ _ X5 (by decide) (by decide) (by decide); have O6 := O5.kt k6; have hb6 := hb5.trans k6.bl; clear D5 R5 S5 T5 X5 O5 hop c0 c1; have c1 := blk_cell X6 1 (.int .i64 x.n) rfl; have hop2 := ropen13_any R6 hb6.size rep x.n (by omega); rw [HIR.out] at hop2)
        | (go_at_call 9; refine hop2.mono ?_; intro e w8 hr8; obtain ⟨q8, rfl, hq8, T8n, ⟨r8, R8⟩, k8⟩ := hr8.get0))
       have D8 := D6.kx k8.f
       have S8 := S6.kf k8.f
       have T8 := T6.kx k8.f
       have X8 := k8.ty _ _ _ X6 (by decide)
       have O8 := O6.kr k8
       have hb8 := hb6.trans k8.bl
       (try simp only [Exit.inBlock, Exit.then])
       go_meet
       exact ⟨d', s', q6, q8, rfl, rfl, ⟨⟨_, D8⟩, ⟨_, R8⟩, S6n.kf k8.f, T8n, HOK.out (by trivial), Nat.le_trans hb5.size hq6, Nat.le_trans hb6.size hq8⟩, W5, O8, X8, hb8⟩
      ·have ern : (er == 0) = false := by rw [beq_eq_false_iff_ne]; exact her
       have ern2 : (er != 0) = true := by rw [bne_iff_ne]; exact her
       have c1 := blk_cell X5 1 (.int .i64 x.n) rfl
       have hop := sopen_any D5 hb5.size rep x.n (by omega)
       rw [HIR.out] at hop
       clear hpl hwk
       go_wp2_with (first
        | (go_at_call 8; refine hop.mono ?_; intro e w6 hr6; obtain ⟨rfl, ⟨wv6, D6⟩, k6⟩ := hr6.getE her; have R6 := R5.kt k6; have S6 := S5.kt k6; have T6 := T5.kt k6; have X6 := k6.ty _ _ _ X5 (by decide) (by decide) (by decide); have O6 := O5.kt k6; have hb6 := hb5.trans k6.bl; clear D5 R5 S5 T5 X5 O5 hop c0 c1; have c1 := blk_cell X6 1 (.int .i64 x.n) rfl; have hop2 := ropen13_any R6 hb6.size rep x.n (by omega); rw [HIR.out] at hop2)
        | (go_at_call 9; refine hop2.mono ?_; intro e w8 hr8; obtain ⟨rfl, ⟨r8, R8⟩, k8⟩ := hr8.getE her))
       have D8 := D6.kx k8.f
       have S8 := S6.kf k8.f
       have T8 := T6.kx k8.f
       have X8 := k8.ty _ _ _ X6 (by decide)
       have O8 := O6.kr k8
       have hb8 := hb6.trans k8.bl
       (try simp only [Exit.inBlock, Exit.then])
       go_meet
       exact ⟨d', s, qx, qy, rfl, rfl, ⟨⟨_, D8⟩, ⟨_, R8⟩, S8, T8, hok, hqx, hqy⟩, W5, O8, X8, hb8⟩
     ·have f0 : (x.kind : Int) % 5 = 4 := by omega
      rw [f0] at ft
      clear h0 hkd
      have hdo := ldo_any D5 hb5.size x.ot (fun w' hk => (HI _ (hb5.trans hk.bl)).d) hx.2 (by omega)
      have W5 : Wk (do6 d x.ot) (18 * (j + 1) + 2) := (by have h := do6_wk hwk x.ot; exact ⟨h.len, Nat.le_trans h.wt (by omega)⟩)
      clear hwk
      go_wp2_with (first
       | ((with_reducible refine wpList_ldB 44 _ ?_); refine ⟨rfl, _, ⟨_, _, _, _, _, Tryz.isAgg44, Tryz.sizeOf44, rfl, ‹_›, a13_ot x⟩, ?_⟩)
       | (go_at_call 15; refine hdo.mono ?_; rintro e w6 ⟨⟨v6, rfl⟩, ⟨wv6, D6⟩, k6⟩; have R6 := R5.kt k6; have S6 := S5.kt k6; have T6 := T5.kt k6; have X6 := k6.ty _ _ _ X5 (by decide) (by decide) (by decide); have O6 := O5.kt k6; have hb6 := hb5.trans k6.bl; clear D5 R5 S5 T5 X5 O5 hdo c0 hb5; have hsm := same6J_any (J := fun j => sa = some ⟨j, 0, none⟩) R6 HNR.out hb6.size x.ot (fun w' hk => (HI _ (hb6.trans hk.bl)).d) hx.2 (by omega))
       | (go_at_call 16; refine hsm.mono ?_; rintro e w8 ⟨⟨v8, rfl⟩, ⟨q8, R8⟩, k8⟩))
      have D8 := D6.kx k8.k
      have S8 := S6.kf k8.k
      have T8 := T6.kx k8.k
      have X8 := k8.k.ty _ _ _ X6 (by decide)
      have O8 := O6.kj k8
      have hb8 := hb6.trans k8.k.bl
      (try simp only [Exit.inBlock, Exit.then])
      go_meet
      exact ⟨_, s, qx, qy, rfl, rfl, ⟨⟨_, D8⟩, ⟨_, R8⟩, S8, T8, hok, hqx, hqy⟩, W5, O8, X8, hb8⟩
    clear D5 R5 S5 T5 X5 O5 hb5 HNR hok hqx hqy hwk
    obtain ⟨d9, s9, qx9, qy9, rfl, rfl, ⟨⟨wv9, D9⟩, ⟨q9, R9⟩, S9, T9, hok9, hqx9, hqy9⟩, W9, O9, X9, hb9⟩ := hcut
    refine hK _ _ ?_
    clear hK
    have hsm := fun z => rsame_any sa x.ba sc x.bc x.body x.body (Under wc z) (O9.slb.below (under_below wc z)).row (HI _ (hb9.trans ((under_below wc z).mono hb9.size))).b.row (by omega)
    simp only [decide_true] at hsm
    have hwa := fun z => waits_any (D9.below (under_below wc z))
    have htl := fun z => ltells13_any (S9.below (under_below wc z)) (D9.below (under_below wc z)) (T9.below (under_below wc z)) (R9.below (under_below wc z)) hok9
    have u2 := under_cell (blk_cell X9 2 (.slice x.ba x.body.length x.bc) rfl)
    have c3 := R9.c3
    obtain ⟨qa, qc, hqw, _, hwl, hwm⟩ := Row.of_owns R9.wts
    rw [hqw] at c3
    have u3 := under_cell c3
    have hst9 : ∀ w', Below wc.heap.size wc w' → St13 w.heap.size g gp g2 qx9 qy9 d9 s9 w' := fun w' hb => (St13.mk ⟨_, D9⟩ ⟨_, R9⟩ S9 T9 hok9 hqx9 hqy9).below hb
    clear D9 R9 S9 T9 O9 X9 c3 hqw hok9
    refine seqH (fun K HK6 => ?_)
    go_wp2_with fail
    refine wp_region_under (by kernel_rfl) (by kernel_rfl) ?_
    repeat (first | go_big_quiet_step ((first
         | (go_at_call 17; exact under_call (hsm _))
         | (go_at_call 18; exact under_same (hwa _))
         | (go_at_call 19; exact under_call (htl _)))) | ((with_reducible refine wpQuiet_skip ?_ ?_) ; (focus rfl); (try simp only [Act.put]); (try simp only [List.setIfInBounds_toArray]); (try simp only [List.set_cons_succ]); (try simp only [List.set_cons_zero])))
    refine wpQuiet_nil ?_
    intro _ hw'
    obtain ⟨xU, hw''⟩ := hw'
    subst hw''
    have hbU := under_below wc xU
    refine HK6.out _ _ ?_
    clear HK6
    go_wp2
    (try simp only [Exit.inBlock, Exit.then])
    refine HK1.out _ _ ?_
    go_wp2
    go_roundw
    case rel => exact ⟨j + 1, d9, s9, qx9, qy9, by omega, by go_num, rfl, rfl, hst9 _ hbU, W9, hb9.trans (hbU.mono hb9.size)⟩
    case measure => simp [intOf]; omega
 refine hK _ _ ?_
 clear hK
 go_wp2
 go_ret
 exact ⟨rfl, hcut⟩
end Go.Proofs.YtbdonjenekhmdaaGreatDoor
namespace Go.Proofs.YtbdonjenekhmdaaGreatDoor
open Go.ChangeShapes Go.WideShapes Go.ChangeAt Go.RowKit
variable {H : Type} {enc : TypeId × Value → H} {P : Program}
end Go.Proofs.YtbdonjenekhmdaaGreatDoor
namespace Go.Proofs.YtbdonjenekhmdaaGreatDoor
open Go.ChangeShapes Go.WideShapes Go.ChangeAt Go.RowKit
theorem cellsU8 : Tryz.prog.cellsOf 5 = 1 := by kernel_rfl
end Go.Proofs.YtbdonjenekhmdaaGreatDoor
