/- Texts that the claim leans on, part 16: C26, C27, C28, C29, C30, U1, U2, U3. -/
import Derived.Test.YtbdonjenekhmdaaGreatDoorZ1
import Derived.Test.YtbdonjenekhmdaaGreatDoorZ2
import Derived.Test.YtbdonjenekhmdaaGreatDoorZ3
import Derived.Test.YtbdonjenekhmdaaGreatDoorZ4
import Derived.Test.YtbdonjenekhmdaaGreatDoorZ5
import Derived.Test.YtbdonjenekhmdaaGreatDoorZ6
import Derived.Test.YtbdonjenekhmdaaGreatDoorZ7
import Derived.Test.YtbdonjenekhmdaaGreatDoorZ8
import Derived.Test.YtbdonjenekhmdaaGreatDoorZ9
import Derived.Test.YtbdonjenekhmdaaGreatDoorZ10
import Derived.Test.YtbdonjenekhmdaaGreatDoorZ11
import Derived.Test.YtbdonjenekhmdaaGreatDoorZ12
import Derived.Test.YtbdonjenekhmdaaGreatDoorZ13
import Derived.Test.YtbdonjenekhmdaaGreatDoorZ14
import Derived.Test.YtbdonjenekhmdaaGreatDoorZ15
import Derived.Test.YtbdonjenekhmdaaGreatDoorRows
import Derived.WalkKit
import Derived.WalkSpells
import Derived.WalkLawsBesides
import Derived.Handy
import Derived.Deep.QuietTactic
import Derived.BigQuiet
import Derived.Deep.DeepCutAuto
import Derived.Lib.Hide
import Derived.RegionTactic
import Derived.ChangeAlike
import Derived.Laws.ResultCell
import Derived.Outline
import Derived.IntWalk
import Derived.Lib.SliceRun
import Derived.Laws.MakeOwn
import Derived.Laws.OwnMore
import Derived.Laws.BitsAllLaws
import Derived.Laws.IdiomStrings
import Derived.Laws.BytesArg
import Derived.Carry
import Derived.Maps.Own
import Derived.Maps.Keyed
import Derived.RangeFuncNested
import Derived.RangeFuncBound
import Derived.RangeFuncCalls
import Derived.RangeFuncLeaves
import Derived.RangeFuncBox
import Derived.RangeFuncRecord
import Derived.Shelf.Abstract
import Derived.Shelf.RegionOpen
import Derived.OwnWalkIn
import Derived.TacticsInMore
import Derived.LoopNIn
import Derived.LoopIn
import Derived.OrdersIn
import Derived.OrdersHeld
import Derived.Maps.AppendAt
import Derived.Great.BuildSlice
import Derived.Great.FillDense
import Derived.Laws.Rows
import Derived.Deep.Quiet
import Derived.Deep.RegionHeld3
import Derived.ProofKit
import Derived.OpenShut
import Derived.Deep.RegionHeld
import Derived.Laws.CopyOwn
import Derived.Laws.CopyRow
import Derived.Laws.NewBlocks
import Derived.Deep.RegionLaw
namespace Go.Proofs.YtbdonjenekhmdaaGreatDoor
open Go.RowKit
theorem put_pl (d : Dk) (t : Tg) (body : List UInt8) : (putC d t body).1.pl.length = d.pl.length ∧ (putC d t body).1.waits.length ≤ d.waits.length + 1 := by
 obtain ⟨h1, h2⟩ := write_pl d (firstN t.reg t.pla) (sealF t body 64)
 unfold putC
 split
 ·exact ⟨by rw [h1], h2⟩
 ·rcases flush_pl (writeD d (firstN t.reg t.pla) (sealF t body 64)).1 with ⟨h3, h4⟩ | ⟨h3, h4⟩
  ·exact ⟨by rw [h3, h1], by rw [h4]; exact h2⟩
  ·exact ⟨by rw [h3, thru_len2, h1], by rw [h4]; simp⟩
section
variable {B g : Nat} {q : RQ} {d : Dk} {w w' : World}
set_option maxRecDepth 100000 in
set_option maxHeartbeats 8000000 in
theorem rput7_any (h : RefB B g q d w) (hB : B ≤ w.heap.size) (t : Tg) (ht : mayTg t = true) (ba : Option Addr) (bc : Nat) (body : List UInt8) (hbs : SlB w ba bc body) (hbl : body.length ≤ 43) (hwl : d.waits.length ≤ 1000) :
  Calls Tryz.prog 106 #[.pointer (some ⟨g, 0, none⟩), tgV t, .slice ba body.length bc] w fun e w' => e = .returned (.int .i64 (putC d t body).2) ∧ RDoes B g rT w (putC d t body).1 w' := by
 have hbA := blw w (Obj.cells #[.int .i64 t.rep, .int .i64 t.reg, .int .i64 t.pla, .int .i64 t.idx, .int .i64 t.inc] 39)
 have A0 := heap_alloc_new w (Obj.cells #[.int .i64 t.rep, .int .i64 t.reg, .int .i64 t.pla, .int .i64 t.idx, .int .i64 t.inc] 39)
 have hd0 := h.below hbA
 have k0 := Kx.of (X := rT) hbA hB
 have hB0 : B ≤ (w.alloc (Obj.cells #[.int .i64 t.rep, .int .i64 t.reg, .int .i64 t.pla, .int .i64 t.idx, .int .i64 t.inc] 39)).heap.size := Nat.le_trans hB hbA.size
 have hs0 := hbs.below hbA
 have hse := rseal_any t ba bc body 1 (w.alloc (Obj.cells #[.int .i64 t.rep, .int .i64 t.reg, .int .i64 t.pla, .int .i64 t.idx, .int .i64 t.inc] 39)) hs0 (by omega) (by decide)
 have hsr : sealR t body 1 = sealF t body 64 := by
  unfold sealR
  rw [if_pos ⟨ht, by decide, by show body.length ≤ 43; exact hbl⟩]
 rw [hsr] at hse
 have hfi := rfirst3_any t.reg t.pla
 unfold putC
 have hwv : (writeD d (firstN t.reg t.pla) (sealF t body 64)).2 = 0 ∨ (writeD d (firstN t.reg t.pla) (sealF t body 64)).2 ≠ 0 := by omega
 have HWV := Lib.hid hwv
 clear hwv
 generalize sealF t body 64 = sl at *
 generalize firstN t.reg t.pla = f at *
 clear hbs hsr h hbA
 go_enter Tryz.func106, Tryz.ntmps106
 refine seqH (fun K HK => ?_)
 go_wp2
 refine HK.out _ _ ?_
 clear HK
 generalize w.alloc (Obj.cells #[.int .i64 t.rep, .int .i64 t.reg, .int .i64 t.pla, .int .i64 t.idx, .int .i64 t.inc] 39) = w0 at *
 have hq0 := lt_blk A0
 obtain ⟨q0, hqe⟩ : ∃ q0, w.heap.size = q0 := ⟨_, rfl⟩
 (try rw [hqe])
 rw [hqe] at A0
 clear hqe hq0
 refine seqH (fun K HK => ?_)
 go_wp2_with (first
   | ((with_reducible refine wpList_ldB 39 _ ?_); refine ⟨rfl, _, ⟨_, _, _, _, _, Tryz.isAgg39, Tryz.sizeOf39, rfl, ‹_›, ld5 _ _ _ _ _⟩, ?_⟩)
   | (go_at_call 60; refine hse.mono ?_; rintro e w1 ⟨⟨v1, rfl, o1⟩, hb1⟩))
 refine HK.out _ _ ?_
 clear HK
 have hd1 := hd0.below hb1
 have k1 := k0.trans (Kx.of (X := rT) hb1 hB0)
 have A1 := tr_bl hb1 A0
 have hB1 := Nat.le_trans hB0 hb1.size
 clear hd0 k0 A0 hb1 hse hs0 hB0
 obtain ⟨sa, sc, rfl, _⟩ := SlB.of_owns o1
 have hwr := rwrite_any hd1 hB1 f sa sc sl (fun w' hk => by obtain ⟨_, _, e, h⟩ := SlB.of_owns (owns_kx o1 hk (by decide)); cases e; exact h) (by omega)
 have u1 := blk_cell A1 1 (.int .i64 t.reg) rfl
 have u2 := blk_cell A1 2 (.int .i64 t.pla) rfl
 refine seqH (fun K HK => ?_)
 go_wp2_with (first
   | (go_at_call 119; refine (hfi _).mono ?_; rintro e w2 ⟨rfl, rfl⟩)
   | (go_at_call 65; refine hwr.mono ?_; rintro e w3 ⟨rfl, ⟨q3, hd3⟩, k3⟩))
 refine HK.out _ _ ?_
 clear HK
 have k13 := k1.trans k3
 have hB3 := Nat.le_trans hB k13.bl.size
 clear hd1 k1 k3 A1 hB1 o1 hwr u1 u2
 rcases HWV.out with h0 | h0
 ·rw [if_neg (by rw [h0]; simp)]
  have hfl := rflush_any hd3 hB3
  rw [h0]
  clear h0 hd3
  go_wp2_with (go_at_call 51; refine hfl.mono ?_; rintro e w4 ⟨rfl, hd4, k4⟩)
  go_ret
  exact ⟨rfl, hd4, k13.trans k4⟩
 ·rw [if_pos h0]
  have e0 : ((writeD d f sl).2 != 0) = true := by rw [bne_iff_ne]; exact h0
  clear h0
  generalize writeD d f sl = r at *
  go_wp2
  go_ret
  exact ⟨rfl, ⟨_, hd3⟩, k13⟩
end
end Go.Proofs.YtbdonjenekhmdaaGreatDoor
namespace Go.Proofs.YtbdonjenekhmdaaGreatDoor
open Go.RowKit
theorem mine_good {b : List UInt8} {rep reg pla : Int} (h : (mineF b rep reg pla).1 = 1) : (mineF b rep reg pla).2.1.rep = rep ∧ (mineF b rep reg pla).2.1.reg = reg ∧ (mineF b rep reg pla).2.1.pla = pla := by
 unfold mineF at h ⊢
 split at h
 ·cases h
 ·rename_i h1
  rw [if_neg h1]
  have h2 : ¬ ((openF b).2.1.rep ≠ rep ∨ (openF b).2.1.reg ≠ reg ∨ (openF b).2.1.pla ≠ pla) := fun hh => h1 ⟨h, hh⟩
  refine ⟨Decidable.byContradiction fun e => h2 (.inl e), Decidable.byContradiction fun e => h2 (.inr (.inl e)), Decidable.byContradiction fun e => h2 (.inr (.inr e))⟩
theorem copy_good {d : Dk} {rep reg i : Int} (h : (copyC d rep reg i).st = 1) : (copyC d rep reg i).tg.rep = rep ∧ (copyC d rep reg i).tg.reg = reg ∧ (copyC d rep reg i).tg.pla = i := mine_good h
theorem heal_at {d : Dk} {rep reg : Int} (ho : openC d rep reg = 0) (h : 0 ≤ (whichC d rep reg).1) :
  (copyC d rep reg (whichC d rep reg).1).st = 1 ∧ ((whichC d rep reg).1 = 0 ∨ (whichC d rep reg).1 = 1) ∧ healC d rep reg = if (copyC d rep reg (1 - (whichC d rep reg).1)).st = 1 ∧ (copyC d rep reg (1 - (whichC d rep reg).1)).tg.idx = (copyC d rep reg (whichC d rep reg).1).tg.idx ∧ (copyC d rep reg (1 - (whichC d rep reg).1)).body = (copyC d rep reg (whichC d rep reg).1).body then (d, 0)
   else putC d ⟨rep, reg, 1 - (whichC d rep reg).1, (copyC d rep reg (whichC d rep reg).1).tg.idx, (copyC d rep reg (whichC d rep reg).1).tg.inc⟩ (copyC d rep reg (whichC d rep reg).1).body := by
 obtain ⟨h1, h2, h3, h4⟩ := which_ge h
 have hst : (copyC d rep reg (whichC d rep reg).1).st = 1 := by
  rw [h4]
  revert h1
  unfold pickC loadedC
  by_cases ho : overC (copyC d rep reg 1) (copyC d rep reg 0) = true
  ·rw [if_pos ho]
   intro _
   simp only [if_true]
   exact over_good ho
  ·rw [if_neg ho]
   by_cases h0 : (copyC d rep reg 0).st = 1
   ·rw [if_pos h0]
    intro _
    simp [h0]
   ·rw [if_neg h0]
    split
    ·intro hh; cases hh
    ·intro hh; cases hh
 refine ⟨hst, by rw [h3]; omega, ?_⟩
 unfold healC
 rw [if_neg (by rw [ho]; simp)]
 simp only
 rw [if_neg (by rw [h1]; simp)]
 rw [h3] at hst ⊢
 rcases h2 with h2 | h2
 ·rw [h2] at hst ⊢
  simp only [Nat.zero_ne_one, if_false] at hst ⊢
  have h00 : ((0 : Nat) : Int) = 0 := rfl
  rw [h00] at hst ⊢
  rw [Int.sub_zero]
  have e : ((copyC d rep reg 0).st = (copyC d rep reg 1).st ∧ (copyC d rep reg 0).tg.idx = (copyC d rep reg 1).tg.idx ∧ (copyC d rep reg 0).body = (copyC d rep reg 1).body) ↔ ((copyC d rep reg 1).st = 1 ∧ (copyC d rep reg 1).tg.idx = (copyC d rep reg 0).tg.idx ∧ (copyC d rep reg 1).body = (copyC d rep reg 0).body) :=
   ⟨fun ⟨a, b, c⟩ => ⟨a.symm.trans hst, b.symm, c.symm⟩, fun ⟨a, b, c⟩ => ⟨hst.trans a.symm, b.symm, c.symm⟩⟩
  by_cases hc : (copyC d rep reg 1).st = 1 ∧ (copyC d rep reg 1).tg.idx = (copyC d rep reg 0).tg.idx ∧ (copyC d rep reg 1).body = (copyC d rep reg 0).body
  ·rw [if_pos hc, if_pos (e.2 hc)]
  ·rw [if_neg hc, if_neg (fun hh => hc (e.1 hh))]
 ·rw [h2] at hst ⊢
  simp only [if_true] at hst ⊢
  have e1 : (1 : Int) - ((1 : Nat) : Int) = 0 := by decide
  rw [e1]
  have e : ((copyC d rep reg 1).st = (copyC d rep reg 0).st ∧ (copyC d rep reg 1).tg.idx = (copyC d rep reg 0).tg.idx ∧ (copyC d rep reg 1).body = (copyC d rep reg 0).body) ↔ ((copyC d rep reg 0).st = 1 ∧ (copyC d rep reg 0).tg.idx = (copyC d rep reg 1).tg.idx ∧ (copyC d rep reg 0).body = (copyC d rep reg 1).body) :=
   ⟨fun ⟨a, b, c⟩ => ⟨a.symm.trans hst, b.symm, c.symm⟩, fun ⟨a, b, c⟩ => ⟨hst.trans a.symm, b.symm, c.symm⟩⟩
  have hcast : ((1 : Nat) : Int) = 1 := rfl
  rw [hcast]
  by_cases hc : (copyC d rep reg 0).st = 1 ∧ (copyC d rep reg 0).tg.idx = (copyC d rep reg 1).tg.idx ∧ (copyC d rep reg 0).body = (copyC d rep reg 1).body
  ·rw [if_pos hc, if_pos (e.2 hc)]
  ·rw [if_neg hc, if_neg (fun hh => hc (e.1 hh))]
theorem open_asked {d : Dk} {rep reg : Int} (h : openC d rep reg = 0) : (reg = 1 ∨ reg = 2) ∧ 0 ≤ rep ∧ rep ≤ 6 := by
 unfold openC at h
 split at h
 ·cases h
 ·split at h
  ·cases h
  ·omega
section
variable {B g : Nat} {q : RQ} {d : Dk} {w w' : World}
theorem rcopy_tag (h : RefB B g q d w) (rep reg i : Int) : (copyC d rep reg i).tg = zeroTg ∧ (copyC d rep reg i).st ≠ 1 ∧ (copyC d rep reg i).body = [] ∨ (copyC d rep reg i).st = 1 ∧ mayTg (copyC d rep reg i).tg = true ∧ (copyC d rep reg i).body.length ≤ 43 := by
 rcases mine_tag (readD d (firstN reg i)).1 rep reg i with hh | ⟨h1, h2, h3⟩
 ·exact .inl hh
 ·refine .inr ⟨h1, h2, Nat.le_trans h3 ?_⟩
  have := rread_len h (firstN reg i)
  by_cases h0 : (readD d (firstN reg i)).2 = 0
  ·rw [this.1 h0]; decide
  ·rw [this.2 h0]; decide
theorem copy_place {d : Dk} {rep reg i j : Int} (hr : reg = 1 ∨ reg = 2) (hj : j = 0 ∨ j = 1) (h : mayTg (copyC d rep reg i).tg = true) (h1 : (copyC d rep reg i).st = 1) : mayTg ⟨rep, reg, j, (copyC d rep reg i).tg.idx, (copyC d rep reg i).tg.inc⟩ = true := by
 obtain ⟨g1, g2, g3⟩ := copy_good h1
 obtain ⟨a1, a2, a3, a4, a5, a6, a7, a8⟩ := mayTg_parts h
 rw [g1] at a1 a2
 have hp : placesN reg = 2 := by rcases hr with rfl | rfl <;> rfl
 simp only [mayTg, Bool.and_eq_true, decide_eq_true_eq]
 exact ⟨a1, a2, by omega, by rw [hp]; omega, a5, a6, a7, a8⟩
end
end Go.Proofs.YtbdonjenekhmdaaGreatDoor
namespace Go.Proofs.YtbdonjenekhmdaaGreatDoor
open Go.RowKit
theorem st_pla (a b c d e x : Int) : 2 + 1 ≤ (#[Value.int .i64 a, .int .i64 b, .int .i64 c, .int .i64 d, .int .i64 e] : Array Value).size ∧ (Value.int .i64 x).cells.size = 1 ∧ (∀ u ∈ (Value.int .i64 x).cells.toList, u.oneCell' = true) ∧ ((#[Value.int .i64 a, .int .i64 b, .int .i64 c, .int .i64 d, .int .i64 e] : Array Value).toList.take 2 ++ (Value.int .i64 x).cells.toList ++ (#[Value.int .i64 a, .int .i64 b, .int .i64 c, .int .i64 d, .int .i64 e] : Array Value).toList.drop (2 + 1)).toArray = #[.int .i64 a, .int .i64 b, .int .i64 x, .int .i64 d, .int .i64 e] :=
 ⟨by simp, rfl, by simp [Value.cells, Value.oneCell'], rfl⟩
section
variable {B g : Nat} {q : RQ} {d : Dk} {w w' : World}
set_option maxRecDepth 100000 in
set_option maxHeartbeats 8000000 in
theorem rheal7_any (h : RefB B g q d w) (hB : B ≤ w.heap.size) (rep reg : Int) (hwl : d.waits.length ≤ 1000) :
  Calls Tryz.prog 40 #[.pointer (some ⟨g, 0, none⟩), .int .i64 rep, .int .i64 reg] w fun e w' => e = .returned (.int .i64 (healC d rep reg).2) ∧ RDoes B g rT w (healC d rep reg).1 w' := by
 have hld := rload_any h rep reg
 by_cases ho : openC d rep reg = 0
 case neg =>
  have hl : loadC d rep reg = (0, [], openC d rep reg) := by unfold loadC; rw [if_pos ho]
  have hh : healC d rep reg = (d, openC d rep reg) := by unfold healC; rw [if_pos ho]
  rw [hl] at hld
  rw [hh]
  have e0 : (openC d rep reg != 0) = true := by rw [bne_iff_ne]; exact ho
  generalize openC d rep reg = oc at *
  clear hl hh ho
  go_enter Tryz.func40, Tryz.ntmps40
  go_wp2_with (go_at_call 38; refine hld.mono ?_; rintro e w1 ⟨⟨a1, c1, rfl, _⟩, hb1⟩)
  go_ret
  exact ⟨rfl, ⟨_, h.below hb1⟩, Kx.of hb1 hB⟩
 case pos =>
 have hwh := fun (w' : World) (hb : Below w.heap.size w w') => rwhich_any (h.below hb) rep reg
 by_cases hi : (whichC d rep reg).1 < 0
 case pos =>
  obtain ⟨h1, h2⟩ := which_lt hi
  have hl : loadC d rep reg = (0, [], (whichC d rep reg).2) := by unfold loadC; rw [if_neg (by rw [ho]; simp), if_pos h1, h2]
  have hh : healC d rep reg = (d, (whichC d rep reg).2) := by unfold healC; rw [if_neg (by rw [ho]; simp)]; simp only; rw [if_pos h1, h2]
  rw [hl] at hld
  rw [hh]
  clear hl hh h1 h2 ho
  generalize whichC d rep reg = wh at *
  obtain ⟨i, er⟩ := wh
  simp only at hld hwh hi ⊢
  by_cases he : er = 0
  ·subst he
   go_enter Tryz.func40, Tryz.ntmps40
   refine seqH (fun K HK => ?_)
   go_wp2
   refine HK.out _ _ ?_
   clear HK
   refine seqH (fun K HK => ?_)
   go_wp2_with (go_at_call 38; refine hld.mono ?_; rintro e w1 ⟨⟨a1, c1, rfl, _⟩, hb1⟩)
   refine HK.out _ _ ?_
   clear HK
   have hwh1 := hwh _ hb1
   clear hwh hld
   go_wp2_with (go_at_call 103; refine hwh1.mono ?_; rintro e w2 ⟨rfl, hb2⟩)
   go_ret
   have hb3 := hb1.trans (hb2.mono hb1.size)
   exact ⟨rfl, ⟨_, h.below hb3⟩, Kx.of hb3 hB⟩
  ·have e0 : (er != 0) = true := by rw [bne_iff_ne]; exact he
   clear he hwh
   go_enter Tryz.func40, Tryz.ntmps40
   go_wp2_with (go_at_call 38; refine hld.mono ?_; rintro e w1 ⟨⟨a1, c1, rfl, _⟩, hb1⟩)
   go_ret
   exact ⟨rfl, ⟨_, h.below hb1⟩, Kx.of hb1 hB⟩
 case neg =>
  have hi0 : 0 ≤ (whichC d rep reg).1 := by omega
  obtain ⟨hx1, hx2, hx3⟩ := heal_at ho hi0
  obtain ⟨hr1, _, _⟩ := open_asked ho
  have hany := (which_ge hi0).1
  have hl : (loadC d rep reg).2.2 = 0 := by unfold loadC; rw [if_neg (by rw [ho]; simp), if_neg (by rw [hany]; simp)]
  have hmx := fun (w' : World) (hb : Below w.heap.size w w') => rmine7_any (h.below hb) rep reg (whichC d rep reg).1
  have hmy := fun (w' : World) (hb : Below w.heap.size w w') => rmine7_any (h.below hb) rep reg (1 - (whichC d rep reg).1)
  simp only [mineD_copy] at hmx hmy
  have htx := rcopy_tag h rep reg (whichC d rep reg).1
  have hty := rcopy_tag h rep reg (1 - (whichC d rep reg).1)
  have hgood := copy_good hx1
  have hplc := copy_place (d := d) (rep := rep) (j := 1 - (whichC d rep reg).1) hr1 (by omega) (i := (whichC d rep reg).1)
  obtain ⟨⟨v, bl, er⟩, hle⟩ : ∃ r, loadC d rep reg = r := ⟨_, rfl⟩
  rw [hle] at hld hl
  simp only at hl
  subst hl
  rw [hx3]
  clear hx3 hany hi0 hle ho hr1 hi
  obtain ⟨X, hX⟩ : ∃ X, copyC d rep reg (whichC d rep reg).1 = X := ⟨_, rfl⟩
  obtain ⟨Y, hY⟩ : ∃ Y, copyC d rep reg (1 - (whichC d rep reg).1) = Y := ⟨_, rfl⟩
  rw [hX] at hx1 hmx htx hgood hplc ⊢
  rw [hY] at hmy hty ⊢
  clear hX hY
  generalize whichC d rep reg = wh at *
  obtain ⟨i, er⟩ := wh
  obtain ⟨xs, xt, xb⟩ := X
  obtain ⟨ys, yt, yb⟩ := Y
  simp only at hx1 hx2 hmx hmy htx hty hgood hplc hwh ⊢
  have HYB := Lib.hid (show ys = 1 → yb.length ≤ 43 from fun he => by
   rcases hty with ⟨_, hh, _⟩ | ⟨_, h1, h2⟩
   ·exact absurd he hh
   ·exact h2)
  clear hty
  subst hx1
  have htx2 : mayTg xt = true ∧ xb.length ≤ 43 := by
   rcases htx with ⟨_, hh, _⟩ | ⟨_, h1, h2⟩
   ·exact absurd rfl hh
   ·exact ⟨h1, h2⟩
  have HPL := Lib.hid (hplc htx2.1 rfl)
  have HXB := Lib.hid htx2.2
  have HGD := Lib.hid hgood
  have hi2 : 0 ≤ i ∧ i ≤ 1 := by omega
  clear htx htx2 hplc hgood hx2
  obtain ⟨r, hr⟩ : ∃ r, (if ys = 1 ∧ yt.idx = xt.idx ∧ yb = xb then (d, (0 : Int)) else putC d ⟨rep, reg, 1 - i, xt.idx, xt.inc⟩ xb) = r := ⟨_, rfl⟩
  rw [hr]
  have HR := Lib.hid hr
  clear hr
  go_enter Tryz.func40, Tryz.ntmps40
  refine seqH (fun K HK => ?_)
  go_wp2
  refine HK.out _ _ ?_
  clear HK
  refine seqH (fun K HK => ?_)
  go_wp2_with (go_at_call 38; refine hld.mono ?_; rintro e w1 ⟨⟨a1, c1, rfl, _⟩, hb1⟩)
  refine HK.out _ _ ?_
  clear HK
  have hwh1 := hwh _ hb1
  clear hwh hld
  refine seqH (fun K HK => ?_)
  go_wp2
  refine HK.out _ _ ?_
  clear HK
  refine seqH (fun K HK => ?_)
  go_wp2_with (go_at_call 103; refine hwh1.mono ?_; rintro e w2 ⟨rfl, hb2⟩)
  refine HK.out _ _ ?_
  clear HK
  have hb3 := hb1.trans (hb2.mono hb1.size)
  have hmx3 := hmx _ hb3
  clear hwh1 hmx hb1 hb2
  refine seqH (fun K HK => ?_)
  go_wp2
  refine HK.out _ _ ?_
  clear HK
  refine seqH (fun K HK => ?_)
  go_wp2_with (first
     | (go_at_call 104; refine hmx3.mono ?_; rintro e w4 ⟨⟨a4, c4, rfl, o4⟩, hb4⟩)
     | ((first | (with_reducible refine wpList_stNew 39 _ _ ?_) | (with_reducible refine wp_stNew 39 _ _ ?_)); refine ⟨_, _, ⟨Tryz.sizeOf39, rfl, tg_new _⟩, rfl, ?_⟩))
  refine HK.out _ _ ?_
  clear HK
  have X5 := heap_alloc_new w4 (Obj.cells #[.int .i64 xt.rep, .int .i64 xt.reg, .int .i64 xt.pla, .int .i64 xt.idx, .int .i64 xt.inc] 39)
  have s5 := o4.below (blw w4 (Obj.cells #[.int .i64 xt.rep, .int .i64 xt.reg, .int .i64 xt.pla, .int .i64 xt.idx, .int .i64 xt.inc] 39))
  have hb40 := hb3.trans (hb4.mono hb3.size)
  have hb5 := hb40.trans ((blw w4 (Obj.cells #[.int .i64 xt.rep, .int .i64 xt.reg, .int .i64 xt.pla, .int .i64 xt.idx, .int .i64 xt.inc] 39)).mono hb40.size)
  have hq5 := Lib.hid hb40.size
  have hmy5 := hmy _ hb5
  clear hmx3 hmy hb3 hb4 hb40 o4
  generalize w4.alloc (Obj.cells #[.int .i64 xt.rep, .int .i64 xt.reg, .int .i64 xt.pla, .int .i64 xt.idx, .int .i64 xt.inc] 39) = w5 at *
  generalize w4.heap.size = q5 at *
  refine seqH (fun K HK => ?_)
  go_wp2_with (first
     | (go_at_call 104; refine hmy5.mono ?_; rintro e w6 ⟨⟨a6, c6, rfl, o6⟩, hb6⟩)
     | ((first | (with_reducible refine wpList_stNew 39 _ _ ?_) | (with_reducible refine wp_stNew 39 _ _ ?_)); refine ⟨_, _, ⟨Tryz.sizeOf39, rfl, tg_new _⟩, rfl, ?_⟩))
  refine HK.out _ _ ?_
  clear HK
  have Y7 := heap_alloc_new w6 (Obj.cells #[.int .i64 yt.rep, .int .i64 yt.reg, .int .i64 yt.pla, .int .i64 yt.idx, .int .i64 yt.inc] 39)
  have X7 := tr_al (Obj.cells #[.int .i64 yt.rep, .int .i64 yt.reg, .int .i64 yt.pla, .int .i64 yt.idx, .int .i64 yt.inc] 39) (tr_bl hb6 X5)
  have s7 := (s5.below hb6).below (blw w6 (Obj.cells #[.int .i64 yt.rep, .int .i64 yt.reg, .int .i64 yt.pla, .int .i64 yt.idx, .int .i64 yt.inc] 39))
  have y7 := o6.slb.below (blw w6 (Obj.cells #[.int .i64 yt.rep, .int .i64 yt.reg, .int .i64 yt.pla, .int .i64 yt.idx, .int .i64 yt.inc] 39))
  have hb60 := hb5.trans (hb6.mono hb5.size)
  have hb7 := hb60.trans ((blw w6 (Obj.cells #[.int .i64 yt.rep, .int .i64 yt.reg, .int .i64 yt.pla, .int .i64 yt.idx, .int .i64 yt.inc] 39)).mono hb60.size)
  clear hmy5 hb5 hb6 hb60 o6 X5 s5
  generalize w6.alloc (Obj.cells #[.int .i64 yt.rep, .int .i64 yt.reg, .int .i64 yt.pla, .int .i64 yt.idx, .int .i64 yt.inc] 39) = w7 at *
  generalize w6.heap.size = q7 at *
  have d7 := h.below hb7
  have k7 := Kx.of (X := rT) hb7 hB
  have hB7 := Nat.le_trans hB hb7.size
  have x3 := blk_cell X7 3 (.int .i64 xt.idx) rfl
  have y3 := blk_cell Y7 3 (.int .i64 yt.idx) rfl
  by_cases hA : ys = 1 ∧ yt.idx = xt.idx
  case pos =>
   obtain ⟨rfl, hA2⟩ := hA
   have e1 : (yt.idx == xt.idx) = true := by rw [beq_iff_eq]; exact hA2
   have hsm := rsame_any a6 a4 c6 c4 yb xb w7 y7.row s7.slb.row (by have := HYB.out rfl; omega) 
   have HA := Lib.hid hA2
   clear hA2 HYB
   by_cases hB1 : yb = xb
   case pos =>
    rw [decide_eq_true hB1] at hsm
    have HR1 := HR.out
    rw [if_pos ⟨rfl, HA.out, hB1⟩] at HR1
    subst HR1
    clear HR HA hB1
    go_wp2_with (go_at_call 17; refine hsm.mono ?_; rintro e w8 ⟨rfl, hb8⟩)
    have hb9 := hb7.trans (hb8.mono hb7.size)
    go_ret
    exact ⟨rfl, ⟨_, h.below hb9⟩, Kx.of hb9 hB⟩
   case neg =>
    rw [decide_eq_false hB1] at hsm
    have HR1 := HR.out
    rw [if_neg (fun hc => hB1 hc.2.2)] at HR1
    subst HR1
    clear HR HA hB1
    refine seqH (fun K HK => ?_)
    go_wp2_with (go_at_call 17; refine hsm.mono ?_; rintro e w8 ⟨rfl, hb8⟩)
    refine HK.out _ _ ?_
    clear HK
    have hb9 := hb7.trans (hb8.mono hb7.size)
    have X9 := tr_bl hb8 X7
    have s9 := s7.below hb8
    clear x3 y3
    refine seqH (fun K HK => ?_)
    go_wp2_with (first
     | ((first | (with_reducible refine wpList_stB 3 _ _ ?_) | (with_reducible refine wp_stB 3 _ _ ?_)); refine ⟨_, _, _, ⟨_, _, _, Tryz.sizeOf3, rfl, ‹_›, st_pla _ _ _ _ _ _⟩, ?_⟩; intro w10 X10 g10))
    refine HK.out _ _ ?_
    clear HK
    have hb10 := bl_st hb9 g10 hb9.size hq5.out
    have s10 := (s9.st g10 X9 (by decide)).slb
    have d10 := h.below hb10
    have k10 := Kx.of (X := rT) hb10 hB
    have hB10 := Nat.le_trans hB hb10.size
    clear hb9 g10 s9 X9
    obtain ⟨HG1, HG2, HG3⟩ := HGD.out
    have hmt := HPL.out
    rw [← HG1, ← HG2] at hmt
    have hpu := rput7_any d10 hB10 _ hmt _ _ xb s10 HXB.out hwl
    rw [HG1, HG2] at hpu
    rw [HG1, HG2] at X10
    clear hmt HG1 HG2 HG3 HGD HPL d10 s10 X7 Y7 s7 y7 d7 k7 hB7 hb7 hq5 hi2 HXB hwl h
    clear hB10
    generalize putC d ⟨rep, reg, 1 - i, xt.idx, xt.inc⟩ xb = r at *
    generalize (1 - i) = i2 at *
    refine seqH (fun K HK => ?_)
    go_wp2_with (first
     | ((with_reducible refine wpList_ldB 39 _ ?_); refine ⟨rfl, _, ⟨_, _, _, _, _, Tryz.isAgg39, Tryz.sizeOf39, rfl, ‹_›, ld5 _ _ _ _ _⟩, ?_⟩)
     | (go_at_call 106; refine hpu.mono ?_; rintro e w11 ⟨rfl, hd11, k11⟩))
    refine HK.out _ _ ?_
    clear HK
    go_wp2
    go_ret
    exact ⟨rfl, hd11, k10.trans k11⟩
  case neg =>
   have HR1 := HR.out
   rw [if_neg (fun hc => hA ⟨hc.1, hc.2.1⟩)] at HR1
   subst HR1
   clear HR HYB
   have hb9 := hb7
   have X9 := X7
   have s9 := s7
   by_cases hy : ys = 1
   case pos =>
    subst hy
    have e1 : (yt.idx == xt.idx) = false := by rw [beq_eq_false_iff_ne]; exact fun hc => hA ⟨rfl, hc⟩
    clear hA
    refine seqH (fun K HK => ?_)
    go_wp2
    refine HK.out _ _ ?_
    clear HK
    clear x3 y3
    refine seqH (fun K HK => ?_)
    go_wp2_with (first
     | ((first | (with_reducible refine wpList_stB 3 _ _ ?_) | (with_reducible refine wp_stB 3 _ _ ?_)); refine ⟨_, _, _, ⟨_, _, _, Tryz.sizeOf3, rfl, ‹_›, st_pla _ _ _ _ _ _⟩, ?_⟩; intro w10 X10 g10))
    refine HK.out _ _ ?_
    clear HK
    have hb10 := bl_st hb9 g10 hb9.size hq5.out
    have s10 := (s9.st g10 X9 (by decide)).slb
    have d10 := h.below hb10
    have k10 := Kx.of (X := rT) hb10 hB
    have hB10 := Nat.le_trans hB hb10.size
    clear hb9 g10 s9 X9
    obtain ⟨HG1, HG2, HG3⟩ := HGD.out
    have hmt := HPL.out
    rw [← HG1, ← HG2] at hmt
    have hpu := rput7_any d10 hB10 _ hmt _ _ xb s10 HXB.out hwl
    rw [HG1, HG2] at hpu
    rw [HG1, HG2] at X10
    clear hmt HG1 HG2 HG3 HGD HPL d10 s10 X7 Y7 s7 y7 d7 k7 hB7 hb7 hq5 hi2 HXB hwl h
    clear hB10
    generalize putC d ⟨rep, reg, 1 - i, xt.idx, xt.inc⟩ xb = r at *
    generalize (1 - i) = i2 at *
    refine seqH (fun K HK => ?_)
    go_wp2_with (first
     | ((with_reducible refine wpList_ldB 39 _ ?_); refine ⟨rfl, _, ⟨_, _, _, _, _, Tryz.isAgg39, Tryz.sizeOf39, rfl, ‹_›, ld5 _ _ _ _ _⟩, ?_⟩)
     | (go_at_call 106; refine hpu.mono ?_; rintro e w11 ⟨rfl, hd11, k11⟩))
    refine HK.out _ _ ?_
    clear HK
    go_wp2
    go_ret
    exact ⟨rfl, hd11, k10.trans k11⟩
   case neg =>
    have e1 : ((ys : Int) == 1) = false := by rw [beq_eq_false_iff_ne]; omega
    clear hA hy
    refine seqH (fun K HK => ?_)
    go_wp2
    refine HK.out _ _ ?_
    clear HK
    clear x3 y3
    refine seqH (fun K HK => ?_)
    go_wp2_with (first
     | ((first | (with_reducible refine wpList_stB 3 _ _ ?_) | (with_reducible refine wp_stB 3 _ _ ?_)); refine ⟨_, _, _, ⟨_, _, _, Tryz.sizeOf3, rfl, ‹_›, st_pla _ _ _ _ _ _⟩, ?_⟩; intro w10 X10 g10))
    refine HK.out _ _ ?_
    clear HK
    have hb10 := bl_st hb9 g10 hb9.size hq5.out
    have s10 := (s9.st g10 X9 (by decide)).slb
    have d10 := h.below hb10
    have k10 := Kx.of (X := rT) hb10 hB
    have hB10 := Nat.le_trans hB hb10.size
    clear hb9 g10 s9 X9
    obtain ⟨HG1, HG2, HG3⟩ := HGD.out
    have hmt := HPL.out
    rw [← HG1, ← HG2] at hmt
    have hpu := rput7_any d10 hB10 _ hmt _ _ xb s10 HXB.out hwl
    rw [HG1, HG2] at hpu
    rw [HG1, HG2] at X10
    clear hmt HG1 HG2 HG3 HGD HPL d10 s10 X7 Y7 s7 y7 d7 k7 hB7 hb7 hq5 hi2 HXB hwl h
    clear hB10
    generalize putC d ⟨rep, reg, 1 - i, xt.idx, xt.inc⟩ xb = r at *
    generalize (1 - i) = i2 at *
    refine seqH (fun K HK => ?_)
    go_wp2_with (first
     | ((with_reducible refine wpList_ldB 39 _ ?_); refine ⟨rfl, _, ⟨_, _, _, _, _, Tryz.isAgg39, Tryz.sizeOf39, rfl, ‹_›, ld5 _ _ _ _ _⟩, ?_⟩)
     | (go_at_call 106; refine hpu.mono ?_; rintro e w11 ⟨rfl, hd11, k11⟩))
    refine HK.out _ _ ?_
    clear HK
    go_wp2
    go_ret
    exact ⟨rfl, hd11, k10.trans k11⟩
end
end Go.Proofs.YtbdonjenekhmdaaGreatDoor
namespace Go.Proofs.YtbdonjenekhmdaaGreatDoor
open Go.RowKit
theorem store_bad {d : Dk} {rep reg inc : Int} {body : List UInt8} (hn : d.pl.length ≠ 0) (h : openC d rep reg = 2 ∨ inc < 1 ∨ 1099511627776 < inc) : storeC d rep reg inc body = (d, 2) := by
 have ho : openC d rep reg = 0 ∨ openC d rep reg = 2 ∨ openC d rep reg = 5 := by
  unfold openC
  rw [if_neg hn]
  split
  ·exact .inr (.inl rfl)
  ·split
   ·exact .inr (.inr rfl)
   ·exact .inl rfl
 have hb : openC d rep reg ≠ 2 → inc < 1 ∨ 1099511627776 < inc := fun h0 => by
  rcases h with h | h | h
  ·exact absurd h h0
  ·exact .inl h
  ·exact .inr h
 unfold storeC
 by_cases h0 : openC d rep reg = 2
 ·have hc : openC d rep reg ≠ 0 ∧ openC d rep reg ≠ 5 := by rw [h0]; decide
  rw [if_pos hc, h0]
 ·have hc : ¬ (openC d rep reg ≠ 0 ∧ openC d rep reg ≠ 5) := by omega
  rw [if_neg hc, if_pos (hb h0)]
theorem open_vals {d : Dk} {rep reg : Int} (hn : d.pl.length ≠ 0) (h : openC d rep reg ≠ 2) : openC d rep reg = 0 ∨ openC d rep reg = 5 := by
 unfold openC at h ⊢
 rw [if_neg hn] at h ⊢
 split
 ·rename_i hc; rw [if_pos hc] at h; exact absurd rfl h
 ·split
  ·exact .inr rfl
  ·exact .inl rfl
theorem store_long {d : Dk} {rep reg inc : Int} {body : List UInt8} (hn : d.pl.length ≠ 0) (h : openC d rep reg ≠ 2) (h1 : ¬ (inc < 1 ∨ 1099511627776 < inc)) (hl : 43 < body.length) : storeC d rep reg inc body = (d, 3) := by
 unfold storeC
 have hv := open_vals hn h
 have hc : ¬ (openC d rep reg ≠ 0 ∧ openC d rep reg ≠ 5) := by omega
 rw [if_neg hc, if_neg h1, if_pos hl]
theorem store_er {d : Dk} {rep reg inc : Int} {body : List UInt8} (hn : d.pl.length ≠ 0) (h : openC d rep reg ≠ 2) (h1 : ¬ (inc < 1 ∨ 1099511627776 < inc)) (hl : ¬ 43 < body.length) (he : (loadC d rep reg).2.2 ≠ 0) : storeC d rep reg inc body = (d, (loadC d rep reg).2.2) := by
 have hv := open_vals hn h
 have hc : ¬ (openC d rep reg ≠ 0 ∧ openC d rep reg ≠ 5) := by omega
 unfold storeC
 rw [if_neg hc, if_neg h1, if_neg hl]
 unfold loadC at he ⊢
 by_cases ho : openC d rep reg = 0
 ·have hn0 : ¬ (openC d rep reg ≠ 0) := by rw [ho]; simp
  rw [if_neg hn0] at he ⊢
  rw [if_neg hn0]
  by_cases hk : (loadedC (copyC d rep reg 0) (copyC d rep reg 1)).2.1 = false
  ·rw [if_pos hk] at he ⊢
   simp only at he ⊢
   rw [if_pos he]
  ·rw [if_neg hk] at he
   exact absurd rfl he
 ·rw [if_pos ho, if_pos ho]
def firstW (i : Int) : Int := if i = 0 then 1 else 0
section
variable {B g : Nat} {q : RQ} {d : Dk} {w w' : World}
theorem load_idx (h : RefB B g q d w) (rep reg : Int) : 0 ≤ (loadC d rep reg).1 ∧ (loadC d rep reg).1 ≤ 1099511627776 := by
 have hc : ∀ i, 0 ≤ (copyC d rep reg i).tg.idx ∧ (copyC d rep reg i).tg.idx ≤ 1099511627776 := by
  intro i
  rcases rcopy_tag h rep reg i with ⟨hz, _, _⟩ | ⟨_, hm, _⟩
  ·rw [hz]; decide
  ·have := mayTg_parts hm
   omega
 unfold loadC
 split
 ·exact ⟨by simp, by simp⟩
 ·split
  ·exact ⟨by simp, by simp⟩
  ·unfold pickC
   split
   ·exact hc 1
   ·exact hc 0
theorem store_ok (h : RefB B g q d w) {rep reg inc : Int} {body : List UInt8} (ho : openC d rep reg = 0) (h1 : ¬ (inc < 1 ∨ 1099511627776 < inc)) (hl : ¬ 43 < body.length) (he : (loadC d rep reg).2.2 = 0) :
  storeC d rep reg inc body = if 1099511627776 < (loadC d rep reg).1 + 1 then (d, 4) else if (putC d ⟨rep, reg, firstW (whichC d rep reg).1, (loadC d rep reg).1 + 1, inc⟩ body).2 ≠ 0 then putC d ⟨rep, reg, firstW (whichC d rep reg).1, (loadC d rep reg).1 + 1, inc⟩ body else putC (putC d ⟨rep, reg, firstW (whichC d rep reg).1, (loadC d rep reg).1 + 1, inc⟩ body).1 ⟨rep, reg, 1 - firstW (whichC d rep reg).1, (loadC d rep reg).1 + 1, inc⟩ body := by
 have hz := rcopy_tag h rep reg 0
 have hlt := loaded_lt (copyC d rep reg 0) (copyC d rep reg 1)
 unfold storeC
 unfold loadC at he ⊢
 unfold whichC
 rw [which_loaded]
 have hn0 : ¬ (openC d rep reg ≠ 0) := by rw [ho]; simp
 have hn1 : ¬ (openC d rep reg ≠ 0 ∧ openC d rep reg ≠ 5) := by rw [ho]; simp
 rw [if_neg hn0] at he ⊢
 rw [if_neg hn1, if_neg h1, if_neg hl, if_neg hn0]
 simp only
 generalize copyC d rep reg 1 = c1 at *
 generalize copyC d rep reg 0 = c0 at *
 obtain ⟨⟨i, ok, er⟩, hld⟩ : ∃ r, loadedC c0 c1 = r := ⟨_, rfl⟩
 rw [hld] at he hlt ⊢
 unfold pickC
 rw [hld]
 simp only at he hlt ⊢
 cases ok
 ·rw [if_pos rfl] at he ⊢
  simp only at he
  subst he
  have hi : i = 0 := (loaded_ok hld).2.1 rfl
  subst hi
  have hs : c0.st ≠ 1 := by
   intro h0
   unfold loadedC at hld
   split at hld
   ·cases hld
   ·cases hld
  have h0 : c0.tg.idx = 0 := by
   rcases hz with ⟨hz, _, _⟩ | ⟨hz, _, _⟩
   ·rw [hz]; rfl
   ·exact absurd hz hs
  simp [h0, firstW]
 ·have he2 : er = 0 := (loaded_ok hld).2.2 rfl
  subst he2
  rcases (show i = 0 ∨ i = 1 by omega) with rfl | rfl
  ·simp [firstW]
  ·simp [firstW]
end
end Go.Proofs.YtbdonjenekhmdaaGreatDoor
namespace Go.Proofs.YtbdonjenekhmdaaGreatDoor
open Go.RowKit
section
variable {B g : Nat} {q : RQ} {d : Dk} {w w' : World}
theorem Kx.own {X : TypeId → Bool} {w1 w2 : World} {q5 : Nat} (h : Kx X B w w1) (hg : w1.grownBy w2 (some q5)) (hq : w.heap.size ≤ q5) (hB : B ≤ w.heap.size) : Kx X B w w2 :=
 ⟨h.bl.grown hg (Nat.le_trans hB h.bl.size) (fun k e => by cases e; exact Nat.le_trans hB hq), fun j cs T a b => tr_st hg (h.ty j cs T a b) (by have := lt_blk a; omega)⟩
theorem RefB.stO {q5 : Nat} {cs : Array Value} {T : TypeId} (h : RefB B g q d w) (hg : w.grownBy w' (some q5)) (hc : w.heap[q5]? = some (.cells cs T (0, 0))) (hT : fT T = false) : RefB B g q d w' :=
 h.keep fun j cs' T' h1 a => tr_st hg a (by
  rintro rfl
  rw [hc] at a
  injection a with a
  injection a with _ e
  subst e
  rw [hT] at h1
  cases h1)
set_option maxRecDepth 100000 in
set_option maxHeartbeats 8000000 in
theorem rstore7_any (h : RefB B g q d w) (hB : B ≤ w.heap.size) (rep reg inc : Int) (a : Option Addr) (c : Nat) (body : List UInt8) (hs : ∀ w', Kx rT B w w' → SlB w' a c body) (hbl : body.length ≤ 1000) (hwl : d.waits.length ≤ 1000) :
  Calls Tryz.prog 53 #[.pointer (some ⟨g, 0, none⟩), .int .i64 rep, .int .i64 reg, .int .i64 inc, .slice a body.length c] w fun e w' => e = .returned (.int .i64 (storeC d rep reg inc body).2) ∧ RDoes B g rT w (storeC d rep reg inc body).1 w' := by
 have hld := rload_any h rep reg
 have hak := rasked7_any h rep reg
 have hn : d.pl.length ≠ 0 := by have := h.n0; omega
 have hend : RDoes B g rT w d w := ⟨⟨_, h⟩, Kx.refl _ _ _⟩
 by_cases hbad : openC d rep reg = 2 ∨ inc < 1 ∨ 1099511627776 < inc
 case pos =>
  rw [store_bad hn hbad]
  by_cases h0 : openC d rep reg = 2
  ·rw [decide_eq_false (by rw [h0]; simp)] at hak
   clear hbad hn h0 hld
   go_enter Tryz.func53, Tryz.ntmps53
   refine seqH (fun K HK => ?_)
   go_wp2
   refine HK.out _ _ ?_
   clear HK
   go_wp2_with (go_at_call 102; refine hak.mono ?_; rintro e w1 ⟨rfl, rfl⟩)
   go_ret
   exact ⟨rfl, hend⟩
  ·rw [decide_eq_true h0] at hak
   by_cases h1 : inc < 1
   ·clear hbad hn h0 hld
    go_enter Tryz.func53, Tryz.ntmps53
    refine seqH (fun K HK => ?_)
    go_wp2
    refine HK.out _ _ ?_
    clear HK
    go_wp2_with (go_at_call 102; refine hak.mono ?_; rintro e w1 ⟨rfl, rfl⟩)
    go_ret
    exact ⟨rfl, hend⟩
   ·have h2 : 1099511627776 < inc := by
     rcases hbad with h | h | h
     ·exact absurd h h0
     ·exact absurd h h1
     ·exact h
    clear hbad hn h0 hld
    go_enter Tryz.func53, Tryz.ntmps53
    refine seqH (fun K HK => ?_)
    go_wp2
    refine HK.out _ _ ?_
    clear HK
    go_wp2_with (go_at_call 102; refine hak.mono ?_; rintro e w1 ⟨rfl, rfl⟩)
    go_ret
    exact ⟨rfl, hend⟩
 case neg =>
 have h0 : openC d rep reg ≠ 2 := fun hc => hbad (.inl hc)
 have h12 : ¬ (inc < 1 ∨ 1099511627776 < inc) := fun hc => hbad (.inr hc)
 rw [decide_eq_true h0] at hak
 clear hbad
 have h1 : ¬ inc < 1 := fun hc => h12 (.inl hc)
 have h2 : ¬ 1099511627776 < inc := fun hc => h12 (.inr hc)
 by_cases hl : 43 < body.length
 case pos =>
  rw [store_long hn h0 h12 hl]
  have hl2 : (43 : Int) < body.length := by omega
  clear h12 hn h0 hld
  go_enter Tryz.func53, Tryz.ntmps53
  refine seqH (fun K HK => ?_)
  go_wp2
  refine HK.out _ _ ?_
  clear HK
  refine seqH (fun K HK => ?_)
  go_wp2_with (go_at_call 102; refine hak.mono ?_; rintro e w1 ⟨rfl, rfl⟩)
  refine HK.out _ _ ?_
  clear HK
  go_wp2
  go_ret
  exact ⟨rfl, hend⟩
 case neg =>
 have hl2 : ¬ (43 : Int) < body.length := by omega
 by_cases he : (loadC d rep reg).2.2 = 0
 case neg =>
  rw [store_er hn h0 h12 hl he]
  have e0 : ((loadC d rep reg).2.2 != 0) = true := by rw [bne_iff_ne]; exact he
  clear h12 hn h0 he hend
  generalize loadC d rep reg = ld at *
  obtain ⟨v, bl, er⟩ := ld
  go_enter Tryz.func53, Tryz.ntmps53
  refine seqH (fun K HK => ?_)
  go_wp2
  refine HK.out _ _ ?_
  clear HK
  refine seqH (fun K HK => ?_)
  go_wp2_with (go_at_call 102; refine hak.mono ?_; rintro e w1 ⟨rfl, rfl⟩)
  refine HK.out _ _ ?_
  clear HK
  refine seqH (fun K HK => ?_)
  go_wp2
  refine HK.out _ _ ?_
  clear HK
  refine seqH (fun K HK => ?_)
  go_wp2_with (go_at_call 38; refine hld.mono ?_; rintro e w1 ⟨⟨a1, c1, rfl, _⟩, hb1⟩)
  refine HK.out _ _ ?_
  clear HK
  go_wp2
  go_ret
  exact ⟨rfl, ⟨_, h.below hb1⟩, Kx.of hb1 hB⟩
 case pos =>
 have ho : openC d rep reg = 0 := by
  rcases open_vals hn h0 with hh | hh
  ·exact hh
  ·unfold loadC at he
   rw [if_pos (by rw [hh]; decide)] at he
   exact absurd (hh.symm.trans he) (by decide)
 obtain ⟨hrg, hrp⟩ := open_asked ho
 rw [store_ok h ho h12 hl he]
 have hvi := load_idx h rep reg
 have hwh := fun (w' : World) (hb : Below w.heap.size w w') => rwhich_any (h.below hb) rep reg
 clear ho h12 hn h0 hend
 generalize loadC d rep reg = ld at *
 generalize whichC d rep reg = wh at *
 obtain ⟨v, bl, er⟩ := ld
 obtain ⟨i, er2⟩ := wh
 simp only at he hvi hwh hld ⊢
 subst he
 by_cases hv : 1099511627776 < v + 1
 case pos =>
  rw [if_pos hv]
  clear hwh
  go_enter Tryz.func53, Tryz.ntmps53
  refine seqH (fun K HK => ?_)
  go_wp2
  refine HK.out _ _ ?_
  clear HK
  refine seqH (fun K HK => ?_)
  go_wp2_with (go_at_call 102; refine hak.mono ?_; rintro e w1 ⟨rfl, rfl⟩)
  refine HK.out _ _ ?_
  clear HK
  refine seqH (fun K HK => ?_)
  go_wp2
  refine HK.out _ _ ?_
  clear HK
  refine seqH (fun K HK => ?_)
  go_wp2_with (go_at_call 38; refine hld.mono ?_; rintro e w1 ⟨⟨a1, c1, rfl, _⟩, hb1⟩)
  refine HK.out _ _ ?_
  clear HK
  go_wp2
  go_ret
  exact ⟨rfl, ⟨_, h.below hb1⟩, Kx.of hb1 hB⟩
 case neg =>
 rw [if_neg hv]
 have hm0 := may_cell2 (rep := rep) (reg := reg) (v := v + 1) (c := inc) (i := 0) hrp hrg (by omega) (by omega) (by omega) (by omega) (by omega)
 have hm1 := may_cell2 (rep := rep) (reg := reg) (v := v + 1) (c := inc) (i := 1) hrp hrg (by omega) (by omega) (by omega) (by omega) (by omega)
 simp only [Int.natCast_zero, Int.natCast_one] at hm0 hm1
 have HBL := Lib.hid (show body.length ≤ 43 by omega)
 go_enter Tryz.func53, Tryz.ntmps53
 refine seqH (fun K HK => ?_)
 go_wp2
 refine HK.out _ _ ?_
 clear HK
 refine seqH (fun K HK => ?_)
 go_wp2_with (go_at_call 102; refine hak.mono ?_; rintro e w1 ⟨rfl, rfl⟩)
 refine HK.out _ _ ?_
 clear HK
 refine seqH (fun K HK => ?_)
 go_wp2
 refine HK.out _ _ ?_
 clear HK
 refine seqH (fun K HK => ?_)
 go_wp2_with (go_at_call 38; refine hld.mono ?_; rintro e w1 ⟨⟨a1, c1, rfl, o1⟩, hb1⟩)
 refine HK.out _ _ ?_
 clear HK
 have hwh1 := hwh _ hb1
 clear hwh hld hak o1
 refine seqH (fun K HK => ?_)
 go_wp2
 refine HK.out _ _ ?_
 clear HK
 refine seqH (fun K HK => ?_)
 go_wp2
 refine HK.out _ _ ?_
 clear HK
 refine seqH (fun K HK => ?_)
 go_wp2_with (go_at_call 103; refine hwh1.mono ?_; rintro e w2 ⟨rfl, hb2⟩)
 refine HK.out _ _ ?_
 clear HK
 have hb3 := hb1.trans (hb2.mono hb1.size)
 clear hwh1 hb1 hb2
 refine seqH (fun K HK => ?_)
 go_wp2_with (first
   | ((first | (with_reducible refine wpList_stNew 39 _ _ ?_) | (with_reducible refine wp_stNew 39 _ _ ?_)); refine ⟨_, _, ⟨Tryz.sizeOf39, rfl, tg_new ⟨rep, reg, 0, v + 1, inc⟩⟩, rfl, ?_⟩))
 refine HK.out _ _ ?_
 clear HK
 have X4 := heap_alloc_new w2 (Obj.cells #[.int .i64 rep, .int .i64 reg, .int .i64 0, .int .i64 (v + 1), .int .i64 inc] 39)
 have hb4 := hb3.trans ((blw w2 (Obj.cells #[.int .i64 rep, .int .i64 reg, .int .i64 0, .int .i64 (v + 1), .int .i64 inc] 39)).mono hb3.size)
 have hq5 := Lib.hid hb3.size
 generalize w2.alloc (Obj.cells #[.int .i64 rep, .int .i64 reg, .int .i64 0, .int .i64 (v + 1), .int .i64 inc] 39) = w4 at *
 generalize w2.heap.size = q5 at *
 clear hb3
 by_cases hi : i = 0
 case pos =>
  subst hi
  rw [show firstW 0 = 1 from rfl]
  refine seqH (fun K HK => ?_)
  go_wp2_with (first
     | ((first | (with_reducible refine wpList_stB 3 _ _ ?_) | (with_reducible refine wp_stB 3 _ _ ?_)); refine ⟨_, _, _, ⟨_, _, _, Tryz.sizeOf3, rfl, ‹_›, st_pla _ _ _ _ _ _⟩, ?_⟩; intro w6 X6 g6))
  refine HK.out _ _ ?_
  clear HK
  have hb6 := bl_st hb4 g6 hb4.size hq5.out
  clear hb4 X4 g6
  have X9 := X6
  clear X6
  have hb9 := hb6
  have d9 := h.below hb9
  have k9 := Kx.of (X := rT) hb9 hB
  have hB9 := Nat.le_trans hB hb9.size
  have hp1 := rput7_any d9 hB9 _ hm1 _ _ body (hs _ k9) HBL.out hwl
  clear hb6 d9 hm1
  obtain ⟨r1, hr1⟩ : ∃ r, putC d ⟨rep, reg, 1, v + 1, inc⟩ body = r := ⟨_, rfl⟩
  have hw1 := @put_waits d ⟨rep, reg, 1, v + 1, inc⟩ body
  rw [hr1] at hp1 hw1 ⊢
  have HW1 := Lib.hid hw1
  clear hw1 hr1
  refine seqH (fun K HK => ?_)
  go_wp2_with (first
   | ((with_reducible refine wpList_ldB 39 _ ?_); refine ⟨rfl, _, ⟨_, _, _, _, _, Tryz.isAgg39, Tryz.sizeOf39, rfl, ‹_›, ld5 _ _ _ _ _⟩, ?_⟩)
   | (go_at_call 106; refine hp1.mono ?_; rintro e w10 ⟨rfl, ⟨q10, d10⟩, k10⟩))
  refine HK.out _ _ ?_
  clear HK
  have X10 := k10.ty _ _ _ X9 (by decide)
  have k11 := k9.trans k10
  have hB11 := Nat.le_trans hB k11.bl.size
  clear hp1 X9 k9 k10 hb9 hB9
  by_cases he1 : r1.2 = 0
  case neg =>
   rw [if_pos he1]
   have e1 : (r1.2 != 0) = true := by rw [bne_iff_ne]; exact he1
   clear he1 HW1
   obtain ⟨r1d, r1e⟩ := r1
   go_wp2
   go_ret
   exact ⟨rfl, ⟨_, d10⟩, k11⟩
  case pos =>
   rw [if_neg (by rw [he1]; simp)]
   have hw0 := HW1.out he1
   have e1 : (r1.2 != 0) = false := by rw [he1]; rfl
   clear he1 HW1
   obtain ⟨r1d, r1e⟩ := r1
   simp only at hw0 e1 d10 ⊢
   have hwl1 : r1d.waits.length ≤ 1000 := by rw [hw0]; simp
   clear hw0
   have x2 := blk_cell X10 2 (.int .i64 1) rfl
   refine seqH (fun K HK => ?_)
   go_wp2
   refine HK.out _ _ ?_
   clear HK
   refine seqH (fun K HK => ?_)
   go_wp2_with (first
     | ((first | (with_reducible refine wpList_stB 3 _ _ ?_) | (with_reducible refine wp_stB 3 _ _ ?_)); refine ⟨_, _, _, ⟨_, _, _, Tryz.sizeOf3, rfl, ‹_›, st_pla _ _ _ _ _ _⟩, ?_⟩; intro w12 X12 g12))
   refine HK.out _ _ ?_
   clear HK
   have k12 := k11.own g12 hq5.out hB
   have d12 := d10.stO g12 X10 (by decide)
   have hB12 := Nat.le_trans hB k12.bl.size
   have hp2 := rput7_any d12 hB12 _ hm0 _ _ body (hs _ k12) HBL.out hwl1
   rw [show (1 : Int) - 1 = 0 from rfl]
   clear d10 d12 hm0 X10 k11 hB11 g12 x2 hwl1 e1
   generalize putC r1d ⟨rep, reg, 0, v + 1, inc⟩ body = r2 at *
   obtain ⟨r2d, r2e⟩ := r2
   go_wp2_with (first
    | ((with_reducible refine wpList_ldB 39 _ ?_); refine ⟨rfl, _, ⟨_, _, _, _, _, Tryz.isAgg39, Tryz.sizeOf39, rfl, ‹_›, ld5 _ _ _ _ _⟩, ?_⟩)
    | (go_at_call 106; refine hp2.mono ?_; rintro e w13 ⟨rfl, hd13, k13⟩))
   go_ret
   exact ⟨rfl, hd13, k12.trans k13⟩
 case neg =>
  rw [show firstW i = 0 from if_neg hi]
  have ei : (i == 0) = false := by rw [beq_eq_false_iff_ne]; exact hi
  clear hi
  refine seqH (fun K HK => ?_)
  go_wp2
  refine HK.out _ _ ?_
  clear HK
  have hb6 := hb4
  have X6 := X4
  clear hb4 X4 ei
  have X9 := X6
  clear X6
  have hb9 := hb6
  have d9 := h.below hb9
  have k9 := Kx.of (X := rT) hb9 hB
  have hB9 := Nat.le_trans hB hb9.size
  have hp1 := rput7_any d9 hB9 _ hm0 _ _ body (hs _ k9) HBL.out hwl
  clear hb6 d9 hm0
  obtain ⟨r1, hr1⟩ : ∃ r, putC d ⟨rep, reg, 0, v + 1, inc⟩ body = r := ⟨_, rfl⟩
  have hw1 := @put_waits d ⟨rep, reg, 0, v + 1, inc⟩ body
  rw [hr1] at hp1 hw1 ⊢
  have HW1 := Lib.hid hw1
  clear hw1 hr1
  refine seqH (fun K HK => ?_)
  go_wp2_with (first
   | ((with_reducible refine wpList_ldB 39 _ ?_); refine ⟨rfl, _, ⟨_, _, _, _, _, Tryz.isAgg39, Tryz.sizeOf39, rfl, ‹_›, ld5 _ _ _ _ _⟩, ?_⟩)
   | (go_at_call 106; refine hp1.mono ?_; rintro e w10 ⟨rfl, ⟨q10, d10⟩, k10⟩))
  refine HK.out _ _ ?_
  clear HK
  have X10 := k10.ty _ _ _ X9 (by decide)
  have k11 := k9.trans k10
  have hB11 := Nat.le_trans hB k11.bl.size
  clear hp1 X9 k9 k10 hb9 hB9
  by_cases he1 : r1.2 = 0
  case neg =>
   rw [if_pos he1]
   have e1 : (r1.2 != 0) = true := by rw [bne_iff_ne]; exact he1
   clear he1 HW1
   obtain ⟨r1d, r1e⟩ := r1
   go_wp2
   go_ret
   exact ⟨rfl, ⟨_, d10⟩, k11⟩
  case pos =>
   rw [if_neg (by rw [he1]; simp)]
   have hw0 := HW1.out he1
   have e1 : (r1.2 != 0) = false := by rw [he1]; rfl
   clear he1 HW1
   obtain ⟨r1d, r1e⟩ := r1
   simp only at hw0 e1 d10 ⊢
   have hwl1 : r1d.waits.length ≤ 1000 := by rw [hw0]; simp
   clear hw0
   have x2 := blk_cell X10 2 (.int .i64 0) rfl
   refine seqH (fun K HK => ?_)
   go_wp2
   refine HK.out _ _ ?_
   clear HK
   refine seqH (fun K HK => ?_)
   go_wp2_with (first
     | ((first | (with_reducible refine wpList_stB 3 _ _ ?_) | (with_reducible refine wp_stB 3 _ _ ?_)); refine ⟨_, _, _, ⟨_, _, _, Tryz.sizeOf3, rfl, ‹_›, st_pla _ _ _ _ _ _⟩, ?_⟩; intro w12 X12 g12))
   refine HK.out _ _ ?_
   clear HK
   have k12 := k11.own g12 hq5.out hB
   have d12 := d10.stO g12 X10 (by decide)
   have hB12 := Nat.le_trans hB k12.bl.size
   have hp2 := rput7_any d12 hB12 _ hm1 _ _ body (hs _ k12) HBL.out hwl1
   rw [show (1 : Int) - 0 = 1 from rfl]
   clear d10 d12 hm1 X10 k11 hB11 g12 x2 hwl1 e1
   generalize putC r1d ⟨rep, reg, 1, v + 1, inc⟩ body = r2 at *
   obtain ⟨r2d, r2e⟩ := r2
   go_wp2_with (first
    | ((with_reducible refine wpList_ldB 39 _ ?_); refine ⟨rfl, _, ⟨_, _, _, _, _, Tryz.isAgg39, Tryz.sizeOf39, rfl, ‹_›, ld5 _ _ _ _ _⟩, ?_⟩)
    | (go_at_call 106; refine hp2.mono ?_; rintro e w13 ⟨rfl, hd13, k13⟩))
   go_ret
   exact ⟨rfl, hd13, k12.trans k13⟩
end
end Go.Proofs.YtbdonjenekhmdaaGreatDoor
namespace Go.Proofs.YtbdonjenekhmdaaGreatDoor
open Go.RowKit
set_option maxRecDepth 100000 in
set_option maxHeartbeats 4000000 in
theorem rfits12_any (k cnt : Int) (n : Nat) (hc : -1000 ≤ cnt ∧ cnt ≤ 1000) (w : World) : Calls Tryz.prog 57 #[.int .i64 k, .int .i64 cnt, .int .i64 (n : Int)] w fun e w' => e = .returned (.bool (fitsC k cnt n)) ∧ Below w.heap.size w w' := by
 unfold fitsC
 by_cases h1 : cnt < 1
 ·rw [if_pos (by omega)]
  go_enter Tryz.func57, Tryz.ntmps57
  go_wp2
  go_ret
  exact ⟨rfl, by (repeat' (first | (with_reducible exact Below.refl _ _) | (with_reducible assumption) | (with_reducible refine Below.alloc ?_ ?_ _) | (with_reducible refine Below.drew ?_) | (with_reducible refine below_drewN ?_ _) | (with_reducible refine Below.setCell ?_ ?_ _) | (with_reducible refine Below.trans ?_ (by assumption)) | go_size))⟩
 by_cases h2 : 8 < cnt
 ·rw [if_pos (by omega)]
  go_enter Tryz.func57, Tryz.ntmps57
  go_wp2
  go_ret
  exact ⟨rfl, by (repeat' (first | (with_reducible exact Below.refl _ _) | (with_reducible assumption) | (with_reducible refine Below.alloc ?_ ?_ _) | (with_reducible refine Below.drew ?_) | (with_reducible refine below_drewN ?_ _) | (with_reducible refine Below.setCell ?_ ?_ _) | (with_reducible refine Below.trans ?_ (by assumption)) | go_size))⟩
 by_cases h3 : k < 0
 ·rw [if_pos (by omega)]
  go_enter Tryz.func57, Tryz.ntmps57
  go_wp2
  go_ret
  exact ⟨rfl, by (repeat' (first | (with_reducible exact Below.refl _ _) | (with_reducible assumption) | (with_reducible refine Below.alloc ?_ ?_ _) | (with_reducible refine Below.drew ?_) | (with_reducible refine below_drewN ?_ _) | (with_reducible refine Below.setCell ?_ ?_ _) | (with_reducible refine Below.trans ?_ (by assumption)) | go_size))⟩
 by_cases h4 : cnt ≤ k
 ·rw [if_pos (by omega)]
  go_enter Tryz.func57, Tryz.ntmps57
  go_wp2
  go_ret
  exact ⟨rfl, by (repeat' (first | (with_reducible exact Below.refl _ _) | (with_reducible assumption) | (with_reducible refine Below.alloc ?_ ?_ _) | (with_reducible refine Below.drew ?_) | (with_reducible refine below_drewN ?_ _) | (with_reducible refine Below.setCell ?_ ?_ _) | (with_reducible refine Below.trans ?_ (by assumption)) | go_size))⟩
 by_cases h5 : 80 < n
 ·rw [if_pos (by omega)]
  have h5' : (80 : Int) < n := by omega
  go_enter Tryz.func57, Tryz.ntmps57
  go_wp2
  go_ret
  exact ⟨rfl, by (repeat' (first | (with_reducible exact Below.refl _ _) | (with_reducible assumption) | (with_reducible refine Below.alloc ?_ ?_ _) | (with_reducible refine Below.drew ?_) | (with_reducible refine below_drewN ?_ _) | (with_reducible refine Below.setCell ?_ ?_ _) | (with_reducible refine Below.trans ?_ (by assumption)) | go_size))⟩
 rw [if_neg (by omega)]
 have h5' : ¬ (80 : Int) < n := by omega
 by_cases h6 : k = cnt - 1
 ·rw [if_neg (by simpa using h6)]
  have h6' : ¬ k < cnt - 1 := by omega
  clear h6
  by_cases h7 : 0 < n
  ·have h7' : (0 : Int) < n := by omega
   go_enter Tryz.func57, Tryz.ntmps57
   go_wp2
   go_ret
   exact ⟨ret_bool (by simp), by (repeat' (first | (with_reducible exact Below.refl _ _) | (with_reducible assumption) | (with_reducible refine Below.alloc ?_ ?_ _) | (with_reducible refine Below.drew ?_) | (with_reducible refine below_drewN ?_ _) | (with_reducible refine Below.setCell ?_ ?_ _) | (with_reducible refine Below.trans ?_ (by assumption)) | go_size))⟩
  ·have h7' : ¬ (0 : Int) < n := by omega
   go_enter Tryz.func57, Tryz.ntmps57
   go_wp2
   go_ret
   exact ⟨ret_bool (by rw [Bool.eq_iff_iff]; simp; omega), by (repeat' (first | (with_reducible exact Below.refl _ _) | (with_reducible assumption) | (with_reducible refine Below.alloc ?_ ?_ _) | (with_reducible refine Below.drew ?_) | (with_reducible refine below_drewN ?_ _) | (with_reducible refine Below.setCell ?_ ?_ _) | (with_reducible refine Below.trans ?_ (by assumption)) | go_size))⟩
 ·rw [if_pos h6]
  have h6' : k < cnt - 1 := by omega
  have h8 : ((n : Int) == 80) = decide (n = 80) := by rw [Bool.eq_iff_iff]; simp; omega
  clear h6
  go_enter Tryz.func57, Tryz.ntmps57
  go_wp2
  go_ret
  exact ⟨ret_bool rfl, by (repeat' (first | (with_reducible exact Below.refl _ _) | (with_reducible assumption) | (with_reducible refine Below.alloc ?_ ?_ _) | (with_reducible refine Below.drew ?_) | (with_reducible refine below_drewN ?_ _) | (with_reducible refine Below.setCell ?_ ?_ _) | (with_reducible refine Below.trans ?_ (by assumption)) | go_size))⟩
set_option maxRecDepth 100000 in
set_option maxHeartbeats 4000000 in
theorem rprint12_any (cnt : Int) (h1 : 1 ≤ cnt) (h2 : cnt ≤ 8) (a : Option Addr) (cap : Nat) (c : List UInt8) (hc : c.length ≤ 80) (w : World) (hs : SlB w a cap c) : Calls Tryz.prog 118 #[.int .i64 cnt, .slice a c.length cap] w fun e w' =>
  (∃ v, e = .returned (.tuple #[v, .int .i64 0]) ∧ w'.ownsRow w.heap.size 5 1 v (ckB cnt c).length (bys (ckB cnt c))) ∧ Below w.heap.size w w' := by
 have i1 : ¬ cnt < 1 := by omega
 have i2 : ¬ 8 < cnt := by omega
 have i3 : ¬ (80 : Int) < c.length := by omega
 have hlen : (ckB cnt c).length = 1 + c.length := by unfold ckB; rw [List.length_cons]; omega
 have hby : bys (ckB cnt c) = [Value.int .u8 cnt] ++ bys c := by
  have e := u8_nat cnt (by omega) (by omega)
  unfold ckB bys
  rw [List.map_cons]
  unfold byv
  rw [e]
  rfl
 rw [hlen, hby]
 clear hlen hby
 have W1 : IntKind.u8.wrap cnt = cnt := IntWalk.u8_in _ (by omega)
 have ho := owns_of_cur (w := w.alloc (.cells #[Value.int .u8 cnt] 5)) (base := w.heap.size) (n := 1) (cap := 1) (size := 1) (cur := [Value.int .u8 cnt]) (ys := [Value.int .u8 cnt]) (heap_alloc_new w _) (Nat.le_refl _) (Nat.le_refl _) (by decide) rfl rfl
 have hbe := blw w (Obj.cells #[Value.int .u8 cnt] 5)
 have hse := hs.below hbe
 go_enter Tryz.func118, Tryz.ntmps118
 refine seqH (fun K HK => ?_)
 go_wp2
 refine HK.out _ _ ?_
 clear HK
 refine seqH (fun K HK => ?_)
 go_wp2
 refine HK.out _ _ ?_
 clear HK
 go_wp2_with (at_builtin; refine wpList_append_row rfl _ _ 37 5 elByte rfl w.heap.size _ 1 [Value.int .u8 cnt] rfl ho a c.length cap (bys c) rfl (by rw [bys_len]; omega) hse.row bys_one (by omega) (by decide) hbe.size ?_; intro v4 w4 ho4 hb4)
 go_ret2
 exact ⟨⟨_, rfl, ho4⟩, hbe.trans hb4⟩
set_option maxRecDepth 100000 in
set_option maxHeartbeats 4000000 in
theorem rparse12_any (a : Option Addr) (cap : Nat) (b : List UInt8) (w : World) (hs : SlB w a cap b) (hl : b.length ≤ 1000) : Calls Tryz.prog 128 #[.slice a b.length cap] w fun e w' => CkRes w.heap.size b e w' ∧ Below w.heap.size w w' := by
 cases b with
 | nil =>
  have HP := Lib.hid (show parseCk [] = (0, [], 120) from rfl)
  have hz : (([] : List UInt8).length : Int) = 0 := rfl
  go_enter Tryz.func128, Tryz.ntmps128
  refine seqH (fun K HK => ?_)
  go_wp2
  refine HK.out _ _ ?_
  clear HK
  go_wp2_with fail
  go_ret3
  exact ⟨CkRes.err HP.out, by (repeat' (first | (with_reducible exact Below.refl _ _) | (with_reducible assumption) | (with_reducible refine Below.alloc ?_ ?_ _) | (with_reducible refine Below.drew ?_) | (with_reducible refine below_drewN ?_ _) | (with_reducible refine Below.setCell ?_ ?_ _) | (with_reducible refine Below.trans ?_ (by assumption)) | go_size))⟩
 | cons x c =>
  obtain ⟨bk, off, rfl, hcs⟩ := hs.row.at (k := 0) (by simp [bys])
  have hcl : (x :: c).length = c.length + 1 := List.length_cons
  have hx := hcs 0 (byv x) rfl
  rw [Nat.add_zero] at hx
  have hxv : byv x = .int .u8 (x.toNat : Int) := rfl
  rw [hxv] at hx
  clear hxv hcs
  have e0 : (((x :: c).length : Int) == 0) = false := by rw [beq_eq_false_iff_ne]; omega
  have hg1 : 1 ≤ (x :: c).length := by omega
  have hx255 : x.toNat < 256 := x.toNat_lt
  have W0 : IntKind.i64.wrap (x.toNat : Int) = x.toNat := IntWalk.i64_in _ (by omega)
  by_cases h1 : 80 < c.length
  ·have HP := Lib.hid (show parseCk (x :: c) = (0, [], 120) by unfold parseCk; simp only; rw [if_pos (.inl h1)])
   have e1 : (81 : Int) < ((x :: c).length : Int) := by omega
   clear hcl h1
   generalize x :: c = l at *
   go_enter Tryz.func128, Tryz.ntmps128
   refine seqH (fun K HK => ?_)
   go_wp2
   refine HK.out _ _ ?_
   clear HK
   go_wp2_with fail
   go_ret3
   exact ⟨CkRes.err HP.out, by (repeat' (first | (with_reducible exact Below.refl _ _) | (with_reducible assumption) | (with_reducible refine Below.alloc ?_ ?_ _) | (with_reducible refine Below.drew ?_) | (with_reducible refine below_drewN ?_ _) | (with_reducible refine Below.setCell ?_ ?_ _) | (with_reducible refine Below.trans ?_ (by assumption)) | go_size))⟩
  have e1 : ¬ (81 : Int) < ((x :: c).length : Int) := by omega
  by_cases h2 : x.toNat < 1
  ·have HP := Lib.hid (show parseCk (x :: c) = (0, [], 120) by unfold parseCk; simp only; rw [if_pos (.inr (.inl h2))])
   have e2 : (x.toNat : Int) < 1 := by omega
   clear hcl h1
   generalize x :: c = l at *
   go_enter Tryz.func128, Tryz.ntmps128
   refine seqH (fun K HK => ?_)
   go_wp2
   refine HK.out _ _ ?_
   clear HK
   go_wp2_with fail
   go_ret3
   exact ⟨CkRes.err HP.out, by (repeat' (first | (with_reducible exact Below.refl _ _) | (with_reducible assumption) | (with_reducible refine Below.alloc ?_ ?_ _) | (with_reducible refine Below.drew ?_) | (with_reducible refine below_drewN ?_ _) | (with_reducible refine Below.setCell ?_ ?_ _) | (with_reducible refine Below.trans ?_ (by assumption)) | go_size))⟩
  have e2 : ¬ (x.toNat : Int) < 1 := by omega
  by_cases h3 : 8 < x.toNat
  ·have HP := Lib.hid (show parseCk (x :: c) = (0, [], 120) by unfold parseCk; simp only; rw [if_pos (.inr (.inr h3))])
   have e3 : (8 : Int) < (x.toNat : Int) := by omega
   clear hcl h1
   generalize x :: c = l at *
   go_enter Tryz.func128, Tryz.ntmps128
   refine seqH (fun K HK => ?_)
   go_wp2
   refine HK.out _ _ ?_
   clear HK
   go_wp2_with fail
   go_ret3
   exact ⟨CkRes.err HP.out, by (repeat' (first | (with_reducible exact Below.refl _ _) | (with_reducible assumption) | (with_reducible refine Below.alloc ?_ ?_ _) | (with_reducible refine Below.drew ?_) | (with_reducible refine below_drewN ?_ _) | (with_reducible refine Below.setCell ?_ ?_ _) | (with_reducible refine Below.trans ?_ (by assumption)) | go_size))⟩
  have e3 : ¬ (8 : Int) < (x.toNat : Int) := by omega
  have HP := Lib.hid (show parseCk (x :: c) = (x.toNat, c, 0) by unfold parseCk; simp only; rw [if_neg (by omega)])
  have hs1 := hs.sub 1 c.length (by omega)
  rw [List.drop_succ_cons, List.drop_zero, List.take_length] at hs1
  obtain ⟨ad, had, hs2⟩ : ∃ ad, (if cap = 1 then some (⟨bk, off, none⟩ : Addr) else some ⟨bk, off + 1, none⟩) = some ad ∧ SlB w (some ad) (cap - 1) c := by
   by_cases hc1 : cap = 1
   ·refine ⟨_, if_pos hc1, ?_⟩
    have h0 : c.length = 0 := by have := hs.le; omega
    have h00 := List.eq_nil_of_length_eq_zero h0
    subst h00
    exact ⟨.inl rfl, by simp, hs1.max, fun e => by cases e⟩
   ·exact ⟨_, if_neg hc1, hs1⟩
  have HA := Lib.hid had
  clear had hs1
  have HL := Lib.hid hcl
  have HB := Lib.hid hs.le
  have HM := Lib.hid h1
  clear hcl h1 h2 h3 hs
  generalize x :: c = l at *
  go_enter Tryz.func128, Tryz.ntmps128
  refine seqH (fun K HK => ?_)
  go_wp2
  refine HK.out _ _ ?_
  clear HK
  refine seqH (fun K HK => ?_)
  go_wp2
  refine HK.out _ _ ?_
  clear HK
  refine seqH (fun K HK => ?_)
  go_wp2_with fail
  have hbd := (Below.refl w.heap.size w).drew
  have s1 := hs2.below hbd
  have x1 := cell_later hbd hx
  refine wp_region_held_drew (S := fun w' => w'.cell? ⟨bk, off, none⟩ = some (.int .u8 (x.toNat : Int))) (by kernel_rfl) x1 (fun hS0 => ?_)
  generalize w.drew = x0 at *
  refine tkT 0 rfl (by intro wS hSw; go_simp; (try with_reducible rfl)) ?_
  refine tkT 1 rfl (by intro wS hSw; go_simp; (try with_reducible rfl)) ?_
  refine tkT 2 rfl (by intro wS hSw; have c := hSw; go_simp; (try with_reducible rfl)) ?_
  refine tkT 3 (v := .int .i64 (x.toNat : Int)) rfl (by intro wS hSw; go_simp) ?_
  refine tkT 4 rfl (by intro wS hSw; go_simp; (try with_reducible rfl)) ?_
  refine tkT 5 (v := .slice (some ad) c.length (cap - 1)) rfl (by intro wS hSw; have hl0 := HL.out; go_simp; rw [if_pos (by omega), HA.out]) ?_
  refine rdy1 6 rfl (fun K' hK' => ?_)
  go_simp
  refine (copy_any _ _ c _ s1 (by have := HM.out; omega)).mono ?_
  rintro e w2 ⟨⟨v2, rfl, o2⟩, hb2⟩
  obtain ⟨G, C, rfl, O2⟩ := OwnS.of_owns o2
  refine hK'.out _ _ (cell_later hb2 x1) (fun _ => ?_)
  clear hK'
  (try simp only [Act.put]); (try simp only [List.setIfInBounds_toArray]); (try simp only [List.set_cons_succ]); (try simp only [List.set_cons_zero])
  refine tkT 7 rfl (by intro wS hSw; go_simp; (try with_reducible rfl)) ?_
  refine tkT 8 rfl (by intro wS hSw; go_simp; (try with_reducible rfl)) ?_
  refine tkT 9 rfl (by intro wS hSw; go_simp; (try with_reducible rfl)) ?_
  refine wpAnyH_done (by kernel_rfl) ?_ _
  refine HK.out _ _ ?_
  clear HK
  go_wp2
  go_ret3
  refine ⟨?_, hbd.trans (hb2.mono hbd.size)⟩
  unfold CkRes
  rw [HP.out]
  exact ⟨_, _, rfl, O2.mono hbd.size⟩
end Go.Proofs.YtbdonjenekhmdaaGreatDoor
namespace Go.Proofs.YtbdonjenekhmdaaGreatDoor
open Go.RowKit
def wT (T : TypeId) : Bool := T == 57 || T == 202
section
variable {B : Nat} {w w' : World}
theorem Kx.r (h : Kx wT B w w') : Kx rT B w w' := h.wide fun T hT => by
 unfold rT at hT
 unfold wT
 simp only [Bool.or_eq_false_iff] at hT ⊢
 exact ⟨hT.1, hT.2.2.2⟩
end
section
variable {B g : Nat} {q : RQ} {d : Dk} {w : World}
set_option maxRecDepth 100000 in
theorem rspendW_any (h : RefB B g q d w) : Calls Tryz.prog 120 #[.pointer (some ⟨g, 0, none⟩)] w fun e w' => e = .returned (.bool (decide ((spendD d).2 = 0))) ∧ RefB B g q (spendD d).1 w' ∧ Kx wT B w w' := by
 have c6 := h.c6
 have hB := h.box
 have hlo := h.lo
 have hhi := h.hi
 by_cases h0 : d.left = 0
 ·have hs : spendD d = ({ d with dead := true }, 5) := by unfold spendD; rw [if_pos h0]
  rw [hs]
  rw [h0] at c6
  clear hs
  go_enter Tryz.func120, Tryz.ntmps120
  go_wp2_with ((first | (with_reducible refine wpList_stB 4 _ _ ?_) | (with_reducible refine wp_stB 4 _ _ ?_)); refine ⟨_, _, _, ⟨_, _, _, Tryz.sizeOf4, rfl, ‹_›, rk_dead _ _ true⟩, ?_⟩; intro w5 B5 g5)
  go_ret
  exact ⟨rfl, (h.turn B5 g5 rfl rfl hlo hhi).1, Kx.st g5 hB (by decide) h.gb⟩
 ·by_cases h1 : 0 < d.left
  ·have hs : spendD d = ({ d with left := d.left - 1 }, 0) := by unfold spendD; rw [if_neg h0, if_pos h1]
   rw [hs]
   have h0b : (d.left == 0) = false := by rw [beq_eq_false_iff_ne]; exact h0
   clear hs
   go_enter Tryz.func120, Tryz.ntmps120
   go_wp2_with ((first | (with_reducible refine wpList_stB 3 _ _ ?_) | (with_reducible refine wp_stB 3 _ _ ?_)); refine ⟨_, _, _, ⟨_, _, _, Tryz.sizeOf3, rfl, ‹_›, rk_left _ _ (d.left - 1)⟩, ?_⟩; intro w5 B5 g5)
   go_ret
   exact ⟨rfl, (h.turn B5 g5 rfl rfl (by simp only; omega) (by simp only; omega)).1, Kx.st g5 hB (by decide) h.gb⟩
  ·have hs : spendD d = (d, 0) := by unfold spendD; rw [if_neg h0, if_neg h1]
   rw [hs]
   have h0b : (d.left == 0) = false := by rw [beq_eq_false_iff_ne]; exact h0
   clear hs
   go_enter Tryz.func120, Tryz.ntmps120
   go_wp2
   go_ret
   exact ⟨rfl, h, Kx.refl _ _ _⟩
end
section
variable {B g : Nat} {q : RQ} {d : Dk} {w w' : World}
set_option maxRecDepth 100000 in
set_option maxHeartbeats 4000000 in
theorem rwriteW_any (h : RefB B g q d w) (hB : B ≤ w.heap.size) (s : Int) (ba : Option Addr) (bc : Nat) (b : List UInt8) (hbs : ∀ w', Kx wT B w w' → SlB w' ba bc b) (hwl : d.waits.length ≤ 1000000) : Calls Tryz.prog 65 #[.pointer (some ⟨g, 0, none⟩), .int .i64 s, .slice ba b.length bc] w fun e w' => e = .returned (.int .i64 (writeD d s b).2) ∧ RDoes B g wT w (writeD d s b).1 w' := by
 have hh := rhas_any h s
 have hli := live_isD h.n0 s
 have c4 := h.c4
 have c5 := h.c5
 have hsp := rspendW_any h
 unfold writeD
 rcases two_b d.down with e1 | e1
 case inr =>
  have hl5 : liveD d s = 5 := by rw [hli, if_pos (.inl e1)]
  rw [if_pos (by rw [hl5]; simp), hl5]
  rw [e1] at c4
  clear hli hl5 e1
  go_enter Tryz.func65, Tryz.ntmps65
  go_wp2
  go_ret
  exact ⟨rfl, ⟨_, h⟩, Kx.refl _ _ _⟩
 case inl =>
 rcases two_b d.dead with e2 | e2
 case inr =>
  have hl5 : liveD d s = 5 := by rw [hli, if_pos (.inr e2)]
  rw [if_pos (by rw [hl5]; simp), hl5]
  rw [e1] at c4
  rw [e2] at c5
  clear hli hl5 e1 e2
  go_enter Tryz.func65, Tryz.ntmps65
  go_wp2
  go_ret
  exact ⟨rfl, ⟨_, h⟩, Kx.refl _ _ _⟩
 case inl =>
 have hl0 : liveD d s = thereD d s := by rw [hli, if_neg (by rw [e1, e2]; simp)]
 rw [hl0]
 rw [e1] at c4
 rw [e2] at c5
 clear hli hl0 e1 e2
 by_cases h0 : thereD d s = 0
 case neg =>
  rw [if_pos (by simpa using h0)]
  have h2 := there_two h.n0 h0
  rw [h2] at hh ⊢
  clear h2 h0
  go_enter Tryz.func65, Tryz.ntmps65
  go_wp2_with (go_at_call 147; refine hh.mono ?_; rintro e w1 ⟨rfl, rfl⟩)
  go_ret
  exact ⟨rfl, ⟨_, h⟩, Kx.refl _ _ _⟩
 case pos =>
 rw [if_neg (by simpa using h0)]
 obtain ⟨k, rfl, hk⟩ := there_nat h.n0 h0
 rw [h0] at hh
 clear h0
 by_cases h64 : b.length = 64
 case neg =>
  rw [if_pos h64]
  have hne : ((b.length : Int) != 64) = true := by rw [bne_iff_ne]; omega
  clear h64
  go_enter Tryz.func65, Tryz.ntmps65
  go_wp2_with (go_at_call 147; refine hh.mono ?_; rintro e w1 ⟨rfl, rfl⟩)
  go_ret
  exact ⟨rfl, ⟨_, h⟩, Kx.refl _ _ _⟩
 case pos =>
 rw [if_neg (by simpa using h64)]
 have H64 := Lib.hid h64
 have HBS := Lib.hid hbs
 rw [h64]
 have hlen : b.length ≤ 1000000 := by have := H64.out; omega
 clear h64 hbs
 rcases spend_val d with hs | hs
 case inr =>
  rw [if_pos (by rw [hs]; simp), hs]
  rw [hs] at hsp
  clear hs
  go_enter Tryz.func65, Tryz.ntmps65
  refine seqH (fun K HK => ?_)
  go_wp2
  refine HK.out _ _ ?_
  clear HK
  refine seqH (fun K HK => ?_)
  go_wp2
  refine HK.out _ _ ?_
  clear HK
  refine seqH (fun K HK => ?_)
  go_wp2_with (go_at_call 147; refine hh.mono ?_; rintro e w1 ⟨rfl, rfl⟩)
  refine HK.out _ _ ?_
  clear HK
  go_wp2_with (go_at_call 120; refine hsp.mono ?_; rintro e w1 ⟨rfl, h1, k1⟩)
  go_ret
  exact ⟨rfl, ⟨_, h1⟩, k1⟩
 case inl =>
 rw [if_neg (by rw [hs]; simp)]
 rw [hs] at hsp
 clear hs
 have hpw := spend_pl d
 have hwl1 : (spendD d).1.waits.length ≤ 1000000 := by rw [hpw.2]; exact hwl
 have hk1 : k < (spendD d).1.pl.length := by rw [hpw.1]; exact hk
 obtain ⟨d1, hd1⟩ : ∃ d1, (spendD d).1 = d1 := ⟨_, rfl⟩
 rw [hd1] at hsp hwl1 hk1 ⊢
 have HK3 := Lib.hid hk1
 clear hd1 hpw hwl hk hk1
 simp only [Int.toNat_natCast]
 go_enter Tryz.func65, Tryz.ntmps65
 refine seqH (fun K HK => ?_)
 go_wp2
 refine HK.out _ _ ?_
 clear HK
 refine seqH (fun K HK => ?_)
 go_wp2
 refine HK.out _ _ ?_
 clear HK
 refine seqH (fun K HK => ?_)
 go_wp2_with (go_at_call 147; refine hh.mono ?_; rintro e w1 ⟨rfl, rfl⟩)
 refine HK.out _ _ ?_
 clear HK
 refine seqH (fun K HK => ?_)
 go_wp2_with (go_at_call 120; refine hsp.mono ?_; rintro e w1 ⟨rfl, h1, k1⟩)
 refine HK.out _ _ ?_
 clear HK
 clear hsp c4 c5 h hh
 have hB1 := Nat.le_trans hB k1.bl.size
 refine seqH (fun K HK => ?_)
 go_wp2_with fail
 have hd := h1.below (Below.refl w1.heap.size w1).drew
 have kd := k1.trans (Kx.of (X := wT) (Below.refl w1.heap.size w1).drew hB1)
 have hBd : B ≤ w1.drew.heap.size := hB1
 have hfr := hd.fresh
 have hbd := HBS.out _ kd
 refine wp_region_held_drew (S := fun _ => True) (by kernel_rfl) trivial (fun hS0 => ?_)
 clear h1 k1 hB1 hB
 generalize w1.drew = x0 at *
 refine tkT 0 rfl (by intro wS hSw; go_simp; (try with_reducible rfl)) ?_
 refine tkT 1 rfl (by intro wS hSw; go_simp; (try with_reducible rfl)) ?_
 refine tkT 2 rfl (by intro wS hSw; go_simp; (try with_reducible rfl)) ?_
 refine tkT 3 rfl (by intro wS hSw; go_simp; (try with_reducible rfl)) ?_
 refine tkT 5 rfl (by intro wS hSw; go_simp; (try with_reducible rfl)) ?_
 refine tkT 6 rfl (by intro wS hSw; go_simp; (try with_reducible rfl)) ?_
 refine wpAnyH_ready (rs := [4, 7]) (by kernel_rfl) (by simp) ?_
 refine AllReadyH.cons (o := ⟨_, _, _, _, _, _⟩) rfl (fun K' hK' => ?_) (AllReadyH.cons (o := ⟨_, _, _, _, _, _⟩) rfl (fun K' hK' => ?_) AllReadyH.nil)
 ·refine (if_pos (by rfl)).mpr ?_
  have c := hd.c3
  go_simp
  clear c
  refine hK'.out _ _ trivial (fun _ => ?_)
  (try simp only [Act.put]); (try simp only [List.setIfInBounds_toArray]); (try simp only [List.set_cons_succ]); (try simp only [List.set_cons_zero])
  refine rdy1 7 rfl (fun K' hK' => ?_)
  go_simp
  rw [← H64.out]
  refine (copy_any _ _ _ _ hbd hlen).mono ?_
  rintro e x1 ⟨⟨v, rfl, hO⟩, hb2⟩
  rw [H64.out] at hO
  obtain ⟨a2, c2, rfl, ha2⟩ := owns_some hO (by decide)
  replace hd := hd.below hb2
  replace kd := kd.trans (Kx.of (X := wT) hb2 hBd)
  have hf : ∀ y ∈ q.ra, y.1 ≠ a2 := fun y hy => by have := hfr y (List.mem_append_left _ hy); omega
  have hO2 : SecB B x1 (a2, c2) b := owns_mono hO hBd
  replace hBd := Nat.le_trans hBd hb2.size
  clear hb2 hO ha2
  refine hK'.out _ _ trivial (fun _ => ?_)
  (try simp only [Act.put]); (try simp only [List.setIfInBounds_toArray]); (try simp only [List.set_cons_succ]); (try simp only [List.set_cons_zero])
  refine tkT 8 rfl (by intro wS hSw; go_simp; (try with_reducible rfl)) ?_
  refine rdy1 9 rfl (fun K' hK' => ?_)
  refine wp_bw1 _ k a2 c2 rfl ?_
  have hN := heap_alloc_new x1 (Obj.cells #[.int .i64 (k : Int), .slice (some ⟨a2, 0, none⟩) 64 c2] 202)
  replace hd := hd.below (blw x1 (Obj.cells #[.int .i64 (k : Int), .slice (some ⟨a2, 0, none⟩) 64 c2] 202))
  replace hO2 : SecB B (x1.alloc (Obj.cells #[.int .i64 (k : Int), .slice (some ⟨a2, 0, none⟩) 64 c2] 202)) (a2, c2) b := owns_bl hO2 (blw x1 (Obj.cells #[.int .i64 (k : Int), .slice (some ⟨a2, 0, none⟩) 64 c2] 202))
  replace kd := kd.trans (Kx.of (X := wT) (blw x1 (Obj.cells #[.int .i64 (k : Int), .slice (some ⟨a2, 0, none⟩) 64 c2] 202)) hBd)
  replace hBd := Nat.le_trans hBd (blw x1 (Obj.cells #[.int .i64 (k : Int), .slice (some ⟨a2, 0, none⟩) 64 c2] 202)).size
  refine hK'.out _ _ trivial (fun _ => ?_)
  (try simp only [Act.put]); (try simp only [List.setIfInBounds_toArray]); (try simp only [List.set_cons_succ]); (try simp only [List.set_cons_zero])
  generalize x1.alloc (Obj.cells #[.int .i64 (k : Int), .slice (some ⟨a2, 0, none⟩) 64 c2] 202) = x2 at *
  generalize x1.heap.size = nb at *
  refine rdy1 10 rfl (fun K' hK' => ?_)
  refine wp_appN _ _ 55 55 202 202 elWriteR Tryz.underlying55 rfl B q.wv d1.waits.length ((d1.waits.zip q.wa).flatMap rwC) rfl hd.wts ⟨nb, 0, none⟩ 1 1 (rwC ((b, k), (a2, c2))) rfl rfl (fun j u hu => ?_) (rw_one _) (by omega) (by decide) hBd ?_
  ·rw [addr_add, Nat.zero_add]
   exact blk_cell hN j u (by rw [← Array.getElem?_toList]; exact hu)
  intro v8 x8 ho8 hg8
  obtain ⟨a8, c8, rfl, _⟩ := Row.of_owns ho8
  refine hK'.out _ _ trivial (fun _ => ?_)
  (try simp only [Act.put]); (try simp only [List.setIfInBounds_toArray]); (try simp only [List.set_cons_succ]); (try simp only [List.set_cons_zero])
  refine tkT 11 rfl (by intro wS hSw; go_simp; (try with_reducible rfl)) ?_
  refine tkT 12 rfl (by intro wS hSw; go_simp; (try with_reducible rfl)) ?_
  refine rdy1 13 rfl (fun K' hK' => ?_)
  have box8 := tr_gb hg8 hd.box (own_ne hd.wts hd.box (by decide))
  refine wp_stB 55 _ _ ?_
  refine ⟨_, _, _, ⟨_, _, _, Tryz.sizeOf55, rfl, box8, rk_waits q d1 a8 (d1.waits.length + 1) c8 (q.wa ++ [(a2, c2)]) (d1.waits ++ [(b, k)])⟩, ?_⟩
  intro x9 B9 g9
  have hkeep : ∀ (j : Nat) (cs : Array Value) (T : TypeId), T ≠ 202 → T ≠ 57 → x2.heap[j]? = some (.cells cs T (0, 0)) → x9.heap[j]? = some (.cells cs T (0, 0)) := fun j cs T h1 h2 hj =>
   blk_neT box8 g9 _ _ _ h2 (tr_gb hg8 hj (own_ne hd.wts hj (fun e => h1 e.symm)))
  have hfin := hd.wrote hkeep B9 (owns_ne ho8 g9 box8 (by decide)) hO2 hf H64.out HK3.out
  have hgr : Below B x2 x9 := bl_st ((Below.refl B x2).grown hg8 hBd (fun k e => (hd.wts.lt k e).1)) g9 (Nat.le_trans hBd hg8.size) hd.gb
  have hkx : Kx wT B x2 x9 := ⟨hgr, fun j cs T a hT => hkeep j cs T (fun e => by subst e; revert hT; decide) (fun e => by subst e; revert hT; decide) a⟩
  refine hK'.out _ _ trivial (fun _ => ?_)
  refine wpAnyH_done (by kernel_rfl) ?_ _
  refine HK.out _ _ ?_
  clear HK
  go_wp2
  go_ret
  exact ⟨rfl, ⟨_, hfin⟩, kd.trans hkx⟩
 ·refine (if_pos (by rfl)).mpr ?_
  go_simp
  rw [← H64.out]
  refine (copy_any _ _ _ _ hbd hlen).mono ?_
  rintro e x1 ⟨⟨v, rfl, hO⟩, hb2⟩
  rw [H64.out] at hO
  obtain ⟨a2, c2, rfl, ha2⟩ := owns_some hO (by decide)
  replace hd := hd.below hb2
  replace kd := kd.trans (Kx.of (X := wT) hb2 hBd)
  have hf : ∀ y ∈ q.ra, y.1 ≠ a2 := fun y hy => by have := hfr y (List.mem_append_left _ hy); omega
  have hO2 : SecB B x1 (a2, c2) b := owns_mono hO hBd
  replace hBd := Nat.le_trans hBd hb2.size
  clear hb2 hO ha2
  refine hK'.out _ _ trivial (fun _ => ?_)
  (try simp only [Act.put]); (try simp only [List.setIfInBounds_toArray]); (try simp only [List.set_cons_succ]); (try simp only [List.set_cons_zero])
  refine tkT 8 rfl (by intro wS hSw; go_simp; (try with_reducible rfl)) ?_
  refine wpAnyH_ready (rs := [4, 9]) (by kernel_rfl) (by simp) ?_
  refine AllReadyH.cons (o := ⟨_, _, _, _, _, _⟩) rfl (fun K' hK' => ?_) (AllReadyH.cons (o := ⟨_, _, _, _, _, _⟩) rfl (fun K' hK' => ?_) AllReadyH.nil)
  ·refine (if_pos (by rfl)).mpr ?_
   have c := hd.c3
   go_simp
   clear c
   refine hK'.out _ _ trivial (fun _ => ?_)
   (try simp only [Act.put]); (try simp only [List.setIfInBounds_toArray]); (try simp only [List.set_cons_succ]); (try simp only [List.set_cons_zero])
   refine rdy1 9 rfl (fun K' hK' => ?_)
   refine wp_bw1 _ k a2 c2 rfl ?_
   have hN := heap_alloc_new x1 (Obj.cells #[.int .i64 (k : Int), .slice (some ⟨a2, 0, none⟩) 64 c2] 202)
   replace hd := hd.below (blw x1 (Obj.cells #[.int .i64 (k : Int), .slice (some ⟨a2, 0, none⟩) 64 c2] 202))
   replace hO2 : SecB B (x1.alloc (Obj.cells #[.int .i64 (k : Int), .slice (some ⟨a2, 0, none⟩) 64 c2] 202)) (a2, c2) b := owns_bl hO2 (blw x1 (Obj.cells #[.int .i64 (k : Int), .slice (some ⟨a2, 0, none⟩) 64 c2] 202))
   replace kd := kd.trans (Kx.of (X := wT) (blw x1 (Obj.cells #[.int .i64 (k : Int), .slice (some ⟨a2, 0, none⟩) 64 c2] 202)) hBd)
   replace hBd := Nat.le_trans hBd (blw x1 (Obj.cells #[.int .i64 (k : Int), .slice (some ⟨a2, 0, none⟩) 64 c2] 202)).size
   refine hK'.out _ _ trivial (fun _ => ?_)
   (try simp only [Act.put]); (try simp only [List.setIfInBounds_toArray]); (try simp only [List.set_cons_succ]); (try simp only [List.set_cons_zero])
   generalize x1.alloc (Obj.cells #[.int .i64 (k : Int), .slice (some ⟨a2, 0, none⟩) 64 c2] 202) = x2 at *
   generalize x1.heap.size = nb at *
   refine rdy1 10 rfl (fun K' hK' => ?_)
   refine wp_appN _ _ 55 55 202 202 elWriteR Tryz.underlying55 rfl B q.wv d1.waits.length ((d1.waits.zip q.wa).flatMap rwC) rfl hd.wts ⟨nb, 0, none⟩ 1 1 (rwC ((b, k), (a2, c2))) rfl rfl (fun j u hu => ?_) (rw_one _) (by omega) (by decide) hBd ?_
   ·rw [addr_add, Nat.zero_add]
    exact blk_cell hN j u (by rw [← Array.getElem?_toList]; exact hu)
   intro v8 x8 ho8 hg8
   obtain ⟨a8, c8, rfl, _⟩ := Row.of_owns ho8
   refine hK'.out _ _ trivial (fun _ => ?_)
   (try simp only [Act.put]); (try simp only [List.setIfInBounds_toArray]); (try simp only [List.set_cons_succ]); (try simp only [List.set_cons_zero])
   refine tkT 11 rfl (by intro wS hSw; go_simp; (try with_reducible rfl)) ?_
   refine tkT 12 rfl (by intro wS hSw; go_simp; (try with_reducible rfl)) ?_
   refine rdy1 13 rfl (fun K' hK' => ?_)
   have box8 := tr_gb hg8 hd.box (own_ne hd.wts hd.box (by decide))
   refine wp_stB 55 _ _ ?_
   refine ⟨_, _, _, ⟨_, _, _, Tryz.sizeOf55, rfl, box8, rk_waits q d1 a8 (d1.waits.length + 1) c8 (q.wa ++ [(a2, c2)]) (d1.waits ++ [(b, k)])⟩, ?_⟩
   intro x9 B9 g9
   have hkeep : ∀ (j : Nat) (cs : Array Value) (T : TypeId), T ≠ 202 → T ≠ 57 → x2.heap[j]? = some (.cells cs T (0, 0)) → x9.heap[j]? = some (.cells cs T (0, 0)) := fun j cs T h1 h2 hj =>
    blk_neT box8 g9 _ _ _ h2 (tr_gb hg8 hj (own_ne hd.wts hj (fun e => h1 e.symm)))
   have hfin := hd.wrote hkeep B9 (owns_ne ho8 g9 box8 (by decide)) hO2 hf H64.out HK3.out
   have hgr : Below B x2 x9 := bl_st ((Below.refl B x2).grown hg8 hBd (fun k e => (hd.wts.lt k e).1)) g9 (Nat.le_trans hBd hg8.size) hd.gb
   have hkx : Kx wT B x2 x9 := ⟨hgr, fun j cs T a hT => hkeep j cs T (fun e => by subst e; revert hT; decide) (fun e => by subst e; revert hT; decide) a⟩
   refine hK'.out _ _ trivial (fun _ => ?_)
   refine wpAnyH_done (by kernel_rfl) ?_ _
   refine HK.out _ _ ?_
   clear HK
   go_wp2
   go_ret
   exact ⟨rfl, ⟨_, hfin⟩, kd.trans hkx⟩
  ·refine (if_pos (by rfl)).mpr ?_
   refine wp_bw1 _ k a2 c2 rfl ?_
   have hN := heap_alloc_new x1 (Obj.cells #[.int .i64 (k : Int), .slice (some ⟨a2, 0, none⟩) 64 c2] 202)
   replace hd := hd.below (blw x1 (Obj.cells #[.int .i64 (k : Int), .slice (some ⟨a2, 0, none⟩) 64 c2] 202))
   replace hO2 : SecB B (x1.alloc (Obj.cells #[.int .i64 (k : Int), .slice (some ⟨a2, 0, none⟩) 64 c2] 202)) (a2, c2) b := owns_bl hO2 (blw x1 (Obj.cells #[.int .i64 (k : Int), .slice (some ⟨a2, 0, none⟩) 64 c2] 202))
   replace kd := kd.trans (Kx.of (X := wT) (blw x1 (Obj.cells #[.int .i64 (k : Int), .slice (some ⟨a2, 0, none⟩) 64 c2] 202)) hBd)
   replace hBd := Nat.le_trans hBd (blw x1 (Obj.cells #[.int .i64 (k : Int), .slice (some ⟨a2, 0, none⟩) 64 c2] 202)).size
   refine hK'.out _ _ trivial (fun _ => ?_)
   (try simp only [Act.put]); (try simp only [List.setIfInBounds_toArray]); (try simp only [List.set_cons_succ]); (try simp only [List.set_cons_zero])
   generalize x1.alloc (Obj.cells #[.int .i64 (k : Int), .slice (some ⟨a2, 0, none⟩) 64 c2] 202) = x2 at *
   generalize x1.heap.size = nb at *
   refine rdy1 4 rfl (fun K' hK' => ?_)
   have c := hd.c3
   go_simp
   clear c
   refine hK'.out _ _ trivial (fun _ => ?_)
   (try simp only [Act.put]); (try simp only [List.setIfInBounds_toArray]); (try simp only [List.set_cons_succ]); (try simp only [List.set_cons_zero])
   refine rdy1 10 rfl (fun K' hK' => ?_)
   refine wp_appN _ _ 55 55 202 202 elWriteR Tryz.underlying55 rfl B q.wv d1.waits.length ((d1.waits.zip q.wa).flatMap rwC) rfl hd.wts ⟨nb, 0, none⟩ 1 1 (rwC ((b, k), (a2, c2))) rfl rfl (fun j u hu => ?_) (rw_one _) (by omega) (by decide) hBd ?_
   ·rw [addr_add, Nat.zero_add]
    exact blk_cell hN j u (by rw [← Array.getElem?_toList]; exact hu)
   intro v8 x8 ho8 hg8
   obtain ⟨a8, c8, rfl, _⟩ := Row.of_owns ho8
   refine hK'.out _ _ trivial (fun _ => ?_)
   (try simp only [Act.put]); (try simp only [List.setIfInBounds_toArray]); (try simp only [List.set_cons_succ]); (try simp only [List.set_cons_zero])
   refine tkT 11 rfl (by intro wS hSw; go_simp; (try with_reducible rfl)) ?_
   refine tkT 12 rfl (by intro wS hSw; go_simp; (try with_reducible rfl)) ?_
   refine rdy1 13 rfl (fun K' hK' => ?_)
   have box8 := tr_gb hg8 hd.box (own_ne hd.wts hd.box (by decide))
   refine wp_stB 55 _ _ ?_
   refine ⟨_, _, _, ⟨_, _, _, Tryz.sizeOf55, rfl, box8, rk_waits q d1 a8 (d1.waits.length + 1) c8 (q.wa ++ [(a2, c2)]) (d1.waits ++ [(b, k)])⟩, ?_⟩
   intro x9 B9 g9
   have hkeep : ∀ (j : Nat) (cs : Array Value) (T : TypeId), T ≠ 202 → T ≠ 57 → x2.heap[j]? = some (.cells cs T (0, 0)) → x9.heap[j]? = some (.cells cs T (0, 0)) := fun j cs T h1 h2 hj =>
    blk_neT box8 g9 _ _ _ h2 (tr_gb hg8 hj (own_ne hd.wts hj (fun e => h1 e.symm)))
   have hfin := hd.wrote hkeep B9 (owns_ne ho8 g9 box8 (by decide)) hO2 hf H64.out HK3.out
   have hgr : Below B x2 x9 := bl_st ((Below.refl B x2).grown hg8 hBd (fun k e => (hd.wts.lt k e).1)) g9 (Nat.le_trans hBd hg8.size) hd.gb
   have hkx : Kx wT B x2 x9 := ⟨hgr, fun j cs T a hT => hkeep j cs T (fun e => by subst e; revert hT; decide) (fun e => by subst e; revert hT; decide) a⟩
   refine hK'.out _ _ trivial (fun _ => ?_)
   refine wpAnyH_done (by kernel_rfl) ?_ _
   refine HK.out _ _ ?_
   clear HK
   go_wp2
   go_ret
   exact ⟨rfl, ⟨_, hfin⟩, kd.trans hkx⟩
end
end Go.Proofs.YtbdonjenekhmdaaGreatDoor
namespace Go.Proofs.YtbdonjenekhmdaaGreatDoor
open Go.RowKit
def RRes (r : List UInt8 × Bool) (e : Ending) (w' : World) : Prop := ∃ a c l, e = .returned (.tuple #[.slice a (l : List UInt8).length c, .bool r.2]) ∧ SlB w' a c l ∧ (r.2 = true → l = r.1)
theorem RRes.no (w' : World) {r : List UInt8 × Bool} (h : r.2 = false) : RRes r (.returned (.tuple #[.slice none 0 0, .bool false])) w' := ⟨none, 0, [], by rw [h]; rfl, slb_nil _, fun e => by rw [h] at e; cases e⟩
def ShR (w : World) (q g : Nat) (s : Sh) : Prop := w.heap[q]? = some (.cells #[.pointer (some ⟨g, 0, none⟩), .int .i64 s.rep, .int .i64 s.inc, .int .i64 s.idx, .int .i64 s.area, .int .i64 s.cnt] 108 (0, 0))
section
variable {w w' : World} {q g : Nat} {s : Sh}
theorem ShR.below (h : ShR w q g s) (hb : Below w.heap.size w w') : ShR w' q g s := tr_bl hb h
theorem ShR.kt {B : Nat} (h : ShR w q g s) (hk : Kt B w w') : ShR w' q g s := hk.ty _ _ _ h (by decide) (by decide) (by decide)
theorem ShR.kx {B : Nat} (h : ShR w q g s) (hk : Kx fT B w w') : ShR w' q g s := hk.ty _ _ _ h (by decide)
theorem ShR.al (h : ShR w q g s) (o : Obj) : ShR (w.alloc o) q g s := tr_al o h
theorem ShR.c0 (h : ShR w q g s) : w.cell? ⟨q, 0, none⟩ = some (.pointer (some ⟨g, 0, none⟩)) := blk_cell h 0 _ rfl
theorem ShR.c1 (h : ShR w q g s) : w.cell? ⟨q, 1, none⟩ = some (.int .i64 s.rep) := blk_cell h 1 _ rfl
theorem ShR.c2 (h : ShR w q g s) : w.cell? ⟨q, 2, none⟩ = some (.int .i64 s.inc) := blk_cell h 2 _ rfl
theorem ShR.c3 (h : ShR w q g s) : w.cell? ⟨q, 3, none⟩ = some (.int .i64 s.idx) := blk_cell h 3 _ rfl
theorem ShR.c4 (h : ShR w q g s) : w.cell? ⟨q, 4, none⟩ = some (.int .i64 s.area) := blk_cell h 4 _ rfl
theorem ShR.c5 (h : ShR w q g s) : w.cell? ⟨q, 5, none⟩ = some (.int .i64 s.cnt) := blk_cell h 5 _ rfl
end
section
variable {B g q : Nat} {qq : RQ} {d : Dk} {w : World} {s : Sh}
set_option maxRecDepth 100000 in
theorem rdown_any (h : ShR w q g s) (R : RefB B g qq d w) : Calls Tryz.prog 49 #[.pointer (some ⟨q, 0, none⟩)] w fun e w' => e = .returned (.bool (!upD d)) ∧ w = w' := by
 have c0 := h.c0
 have r4 := R.c4
 have r5 := R.c5
 have hup : upD d = (!d.down && !d.dead) := by unfold upD; rw [decide_eq_true R.n0]; rfl
 rcases two_b d.down with e1 | e1
 ·rcases two_b d.dead with e2 | e2
  ·have hu : upD d = true := by rw [hup, e1, e2]; rfl
   rw [hu]
   rw [e1] at r4
   rw [e2] at r5
   clear hup e1 e2 hu
   go_enter Tryz.func49, Tryz.ntmps49
   go_wp2
   go_ret
   exact ⟨rfl, rfl⟩
  ·have hu : upD d = false := by rw [hup, e1, e2]; rfl
   rw [hu]
   rw [e1] at r4
   rw [e2] at r5
   clear hup e1 e2 hu
   go_enter Tryz.func49, Tryz.ntmps49
   go_wp2
   go_ret
   exact ⟨rfl, rfl⟩
 ·have hu : upD d = false := by rw [hup, e1]; rfl
  rw [hu]
  rw [e1] at r4
  clear hup e1 hu
  go_enter Tryz.func49, Tryz.ntmps49
  go_wp2
  go_ret
  exact ⟨rfl, rfl⟩
set_option maxRecDepth 100000 in
set_option maxHeartbeats 8000000 in
theorem rread13_any (h : ShR w q g s) (R : RefB B g qq d w) (hok : ShOk s) (k : Int) (hk : 0 ≤ k ∧ k < 8) : Calls Tryz.prog 58 #[.pointer (some ⟨q, 0, none⟩), .int .i64 k] w fun e w' => RRes (readS d s k) e w' ∧ Below w.heap.size w w' := by
 have ha := hok.a
 have hp : 0 ≤ plaS s k ∧ plaS s k < 16 := by unfold plaS; omega
 have hf := first5 hp
 have hsec : secsS d (plaS s k) = (preS d (firstN 5 (plaS s k)) 2, decide ((readD d (firstN 5 (plaS s k))).2 = 0) && decide ((readD d (firstN 5 (plaS s k) + 1)).2 = 0)) := rfl
 unfold readS
 rw [hsec]
 simp only
 obtain ⟨f, hff⟩ : ∃ f, firstN 5 (plaS s k) = f := ⟨_, rfl⟩
 rw [hff] at hf ⊢
 obtain ⟨r, hr⟩ : ∃ r, (if (decide ((readD d f).2 = 0) && decide ((readD d (f + 1)).2 = 0)) = false then (([], false) : List UInt8 × Bool) else frameS s k (mineF (preS d f 2) s.rep 5 (plaS s k))) = r := ⟨_, rfl⟩
 rw [hr]
 have HR := Lib.hid hr
 clear hr
 have hpl : plaS s k = 8 * s.area + k := rfl
 have c4 := h.c4
 go_enter Tryz.func58, Tryz.ntmps58
 refine seqH (fun K HK => ?_)
 go_wp2
 refine HK.out _ _ ?_
 clear HK
 refine seqH (fun K HK => ?_)
 go_wp2
 refine HK.out _ _ ?_
 clear HK
 rw [← hpl]
 obtain ⟨p, hpp⟩ : ∃ p, plaS s k = p := ⟨_, rfl⟩
 rw [hpp] at hff hf hp ⊢
 have HPP := Lib.hid hpp
 have hfb : 0 ≤ f ∧ f < 200 := by omega
 have HF := Lib.hid hff
 clear hf
 clear hff hpl c4 hsec hpp
 refine seqH (fun K HK => ?_)
 go_wp2
 refine HK.out _ _ ?_
 clear HK
 refine seqH (fun K HK => ?_)
 go_wp2_with fail
 go_loopw [8, 7] (fun i o wr => ∃ (j : Nat) (v : Value), j ≤ 2 ∧ i = .int .i64 (j : Nat) ∧ o = v ∧ (∀ t : Nat, t < j → (readD d (f + t)).2 = 0) ∧ wr.ownsRow w.heap.size 5 1 v (preS d f j).length (bys (preS d f j)) ∧ Below w.heap.size w wr) (fun i _ _ => 2 - (intOf i).toNat)
 case atStart => exact ⟨0, _, by omega, rfl, rfl, fun t ht => absurd ht (by omega), World.ownsRow_nil _ _ _ _, Below.refl _ _⟩
 case round =>
  obtain ⟨j, v, hj, rfl, rfl, hall, hown, hbr⟩ := hrel
  rcases (show j = 0 ∨ j = 1 ∨ j = 2 by omega) with rfl | rfl | rfl
  ·skip
   have hrd := fun w' (h' : RefB B g qq d w') => rread_any h' (f)
   obtain ⟨bs, re, hbs⟩ : ∃ bs re, readD d (f) = (bs, re) := ⟨_, _, rfl⟩
   have hrl := rread_len R (f)
   rw [hbs] at hrl
   simp only [hbs] at hrd
   simp only at hrl
   have HBS := Lib.hid hbs
   clear hbs
   have hdr := R.below hbr
   have hsr := h.below hbr
   have hpl : (preS d f 0).length = 64 * 0 := rfl
   have HPL := Lib.hid hpl
   have HPS := Lib.hid (show preS d f (0 + 1) = preS d f 0 ++ (readD d (f)).1 from rfl)
   clear hpl
   generalize preS d f 0 = pr at *
   refine seqH (fun K HK => ?_)
   go_wp2
   refine HK.out _ _ ?_
   clear HK
   refine seqH (fun K HK2 => ?_)
   refine wp_block ?_
   refine seqH (fun K HK3 => ?_)
   go_wp2_with fail
   have hbd := (Below.refl wr.heap.size wr).drew
   have D1 := hdr.below hbd
   have S1 := hsr.below hbd
   have hb1 := hbr.trans (hbd.mono hbr.size)
   have o1 := owns_bl hown hbd
   refine wp_region_held_drew (S := fun w' => ShR w' q g s) (by kernel_rfl) S1 (fun hS0 => ?_)
   clear hbd hdr hsr hown hbr
   generalize wr.drew = x0 at *
   refine tkT 0 rfl (by intro wS hSw; go_simp; (try with_reducible rfl)) ?_
   refine tkT 1 rfl (by intro wS hSw; go_simp; (try with_reducible rfl)) ?_
   refine tkT 2 rfl (by intro wS hSw; go_simp; (try with_reducible rfl)) ?_
   refine tkT 3 rfl (by intro wS hSw; have c := hSw.c0; go_simp; (try with_reducible rfl)) ?_
   refine tkT 4 rfl (by intro wS hSw; go_simp; (try with_reducible rfl)) ?_
   refine tkT 6 rfl (by intro wS hSw; go_simp; (try with_reducible rfl)) ?_
   refine rdy1 5 rfl (fun K' hK' => ?_)
   go_simp
   refine (rfirst3_any 5 p _).mono ?_
   rintro e w2 ⟨rfl, rfl⟩
   rw [HF.out]
   refine hK'.out _ _ S1 (fun _ => ?_)
   clear hK' hS0
   (try simp only [Act.put]); (try simp only [List.setIfInBounds_toArray]); (try simp only [List.set_cons_succ]); (try simp only [List.set_cons_zero])
   refine tkT 7 (v := .int .i64 (f)) rfl (by intro wS hSw; go_simp; (try rw [IntWalk.i64_in _ (by omega)])) ?_
   refine rdy1 8 rfl (fun K' hK' => ?_)
   go_simp
   refine (hrd _ D1).mono ?_
   rintro e w4 ⟨⟨a4, c4, rfl, s4⟩, hb4⟩
   have S4 := S1.below hb4
   have o4 := owns_bl o1 hb4
   have hb5 := hb1.trans (hb4.mono hb1.size)
   refine hK'.out _ _ S4 (fun _ => ?_)
   clear hK' D1 S1 o1 hb1 hb4 hrd
   (try simp only [Act.put]); (try simp only [List.setIfInBounds_toArray]); (try simp only [List.set_cons_succ]); (try simp only [List.set_cons_zero])
   refine tkT 9 rfl (by intro wS hSw; go_simp; (try with_reducible rfl)) ?_
   refine tkT 10 rfl (by intro wS hSw; go_simp; (try with_reducible rfl)) ?_
   refine tkT 11 rfl (by intro wS hSw; go_simp; (try with_reducible rfl)) ?_
   refine tkT 12 rfl (by intro wS hSw; go_simp; (try with_reducible rfl)) ?_
   refine tkT 13 rfl (by intro wS hSw; go_simp; (try with_reducible rfl)) ?_
   refine wpAnyH_done (by kernel_rfl) ?_ _
   refine HK3.out _ _ ?_
   clear HK3
   by_cases h0 : re = 0
   ·subst h0
    have HBL := Lib.hid (hrl.1 rfl)
    clear hrl
    refine seqH (fun K HK => ?_)
    go_wp2
    refine HK.out _ _ ?_
    clear HK
    go_wp2_with (at_builtin; refine wpList_append_row rfl _ _ 37 5 elByte rfl w.heap.size _ pr.length (bys pr) rfl o4 a4 bs.length c4 (bys bs) rfl (by rw [bys_len]; omega) s4.row bys_one (by have := HPL.out; have := HBL.out; omega) (by decide) hb5.size ?_; intro v6 w6 ho6 hb6)
    (try simp only [Exit.inBlock, Exit.then])
    refine HK2.out _ _ ?_
    clear HK2
    go_wp2
    go_roundw
    case rel =>
     refine ⟨0 + 1, _, by omega, by rfl, rfl, fun t ht => ?_, ?_, hb5.trans hb6⟩
     ·by_cases htj : t < 0
      ·exact hall t htj
      ·obtain rfl : t = 0 := by omega
       rw [show f + ((0 : Nat) : Int) = f by omega, HBS.out]
     ·rw [HPS.out, HBS.out, List.length_append, bys_app]
      exact ho6
    case measure => simp [intOf]
   ·have hn : (re != 0) = true := by rw [bne_iff_ne]; exact h0
    have hr0 : r.2 = false := by
     rw [← HR.out, if_pos]
     rw [HBS.out]; simp [h0]
    clear HK HR HPS
    go_wp2
    go_ret2
    exact ⟨RRes.no _ hr0, hb5⟩
  ·have hr0 := hall 0 (by omega)
   rw [show f + ((0 : Nat) : Int) = f by omega] at hr0
   skip
   have hrd := fun w' (h' : RefB B g qq d w') => rread_any h' (f + 1)
   obtain ⟨bs, re, hbs⟩ : ∃ bs re, readD d (f + 1) = (bs, re) := ⟨_, _, rfl⟩
   have hrl := rread_len R (f + 1)
   rw [hbs] at hrl
   simp only [hbs] at hrd
   simp only at hrl
   have HBS := Lib.hid hbs
   clear hbs
   have hdr := R.below hbr
   have hsr := h.below hbr
   have hpl : (preS d f 1).length = 64 * 1 := (rread_len R f).1 hr0
   have HPL := Lib.hid hpl
   have HPS := Lib.hid (show preS d f (1 + 1) = preS d f 1 ++ (readD d (f + 1)).1 from rfl)
   clear hpl
   generalize preS d f 1 = pr at *
   refine seqH (fun K HK => ?_)
   go_wp2
   refine HK.out _ _ ?_
   clear HK
   refine seqH (fun K HK2 => ?_)
   refine wp_block ?_
   refine seqH (fun K HK3 => ?_)
   go_wp2_with fail
   have hbd := (Below.refl wr.heap.size wr).drew
   have D1 := hdr.below hbd
   have S1 := hsr.below hbd
   have hb1 := hbr.trans (hbd.mono hbr.size)
   have o1 := owns_bl hown hbd
   refine wp_region_held_drew (S := fun w' => ShR w' q g s) (by kernel_rfl) S1 (fun hS0 => ?_)
   clear hbd hdr hsr hown hbr
   generalize wr.drew = x0 at *
   refine tkT 0 rfl (by intro wS hSw; go_simp; (try with_reducible rfl)) ?_
   refine tkT 1 rfl (by intro wS hSw; go_simp; (try with_reducible rfl)) ?_
   refine tkT 2 rfl (by intro wS hSw; go_simp; (try with_reducible rfl)) ?_
   refine tkT 3 rfl (by intro wS hSw; have c := hSw.c0; go_simp; (try with_reducible rfl)) ?_
   refine tkT 4 rfl (by intro wS hSw; go_simp; (try with_reducible rfl)) ?_
   refine tkT 6 rfl (by intro wS hSw; go_simp; (try with_reducible rfl)) ?_
   refine rdy1 5 rfl (fun K' hK' => ?_)
   go_simp
   refine (rfirst3_any 5 p _).mono ?_
   rintro e w2 ⟨rfl, rfl⟩
   rw [HF.out]
   refine hK'.out _ _ S1 (fun _ => ?_)
   clear hK' hS0
   (try simp only [Act.put]); (try simp only [List.setIfInBounds_toArray]); (try simp only [List.set_cons_succ]); (try simp only [List.set_cons_zero])
   refine tkT 7 (v := .int .i64 (f + 1)) rfl (by intro wS hSw; go_simp; (try rw [IntWalk.i64_in _ (by omega)])) ?_
   refine rdy1 8 rfl (fun K' hK' => ?_)
   go_simp
   refine (hrd _ D1).mono ?_
   rintro e w4 ⟨⟨a4, c4, rfl, s4⟩, hb4⟩
   have S4 := S1.below hb4
   have o4 := owns_bl o1 hb4
   have hb5 := hb1.trans (hb4.mono hb1.size)
   refine hK'.out _ _ S4 (fun _ => ?_)
   clear hK' D1 S1 o1 hb1 hb4 hrd
   (try simp only [Act.put]); (try simp only [List.setIfInBounds_toArray]); (try simp only [List.set_cons_succ]); (try simp only [List.set_cons_zero])
   refine tkT 9 rfl (by intro wS hSw; go_simp; (try with_reducible rfl)) ?_
   refine tkT 10 rfl (by intro wS hSw; go_simp; (try with_reducible rfl)) ?_
   refine tkT 11 rfl (by intro wS hSw; go_simp; (try with_reducible rfl)) ?_
   refine tkT 12 rfl (by intro wS hSw; go_simp; (try with_reducible rfl)) ?_
   refine tkT 13 rfl (by intro wS hSw; go_simp; (try with_reducible rfl)) ?_
   refine wpAnyH_done (by kernel_rfl) ?_ _
   refine HK3.out _ _ ?_
   clear HK3
   by_cases h0 : re = 0
   ·subst h0
    have HBL := Lib.hid (hrl.1 rfl)
    clear hrl
    refine seqH (fun K HK => ?_)
    go_wp2
    refine HK.out _ _ ?_
    clear HK
    go_wp2_with (at_builtin; refine wpList_append_row rfl _ _ 37 5 elByte rfl w.heap.size _ pr.length (bys pr) rfl o4 a4 bs.length c4 (bys bs) rfl (by rw [bys_len]; omega) s4.row bys_one (by have := HPL.out; have := HBL.out; omega) (by decide) hb5.size ?_; intro v6 w6 ho6 hb6)
    (try simp only [Exit.inBlock, Exit.then])
    refine HK2.out _ _ ?_
    clear HK2
    go_wp2
    go_roundw
    case rel =>
     refine ⟨1 + 1, _, by omega, by rfl, rfl, fun t ht => ?_, ?_, hb5.trans hb6⟩
     ·by_cases htj : t < 1
      ·exact hall t htj
      ·obtain rfl : t = 1 := by omega
       rw [show f + ((1 : Nat) : Int) = f + 1 by omega, HBS.out]
     ·rw [HPS.out, HBS.out, List.length_append, bys_app]
      exact ho6
    case measure => simp [intOf]
   ·have hn : (re != 0) = true := by rw [bne_iff_ne]; exact h0
    have hr0 : r.2 = false := by
     rw [← HR.out, if_pos]
     rw [HBS.out]; simp [h0]
    clear HK HR HPS
    go_wp2
    go_ret2
    exact ⟨RRes.no _ hr0, hb5⟩
  ·have hr0 := hall 0 (by omega)
   have hr1 := hall 1 (by omega)
   rw [show f + ((0 : Nat) : Int) = f by omega] at hr0
   rw [show f + ((1 : Nat) : Int) = f + 1 by omega] at hr1
   have hrr := HR.out
   rw [hr0, hr1, if_neg (by simp)] at hrr
   have hlen : (preS d f 2).length = 128 := by
    show ((readD d f).1 ++ (readD d (f + 1)).1).length = 128
    rw [List.length_append, (rread_len R f).1 hr0, (rread_len R (f + 1)).1 hr1]
   clear hall hr0 hr1 HR
   generalize preS d f 2 = b at *
   obtain ⟨a2, c2, rfl, s2⟩ := SlB.of_owns hown
   have hmi := rmine_any a2 c2 b s.rep 5 p wr s2 (by omega)
   have hml := mine_len b s.rep 5 p
   obtain ⟨st, tg, body, hmm⟩ : ∃ st tg body, mineF b s.rep 5 p = (st, tg, body) := ⟨_, _, _, rfl⟩
   have hppv : plaS s k = p := HPP.out
   rw [hppv, hmm] at hrr
   rw [hmm] at hmi hml
   simp only at hml
   have hbl : body.length ≤ 1000 := by omega
   have hsr := h.below hbr
   have cr1 := hsr.c1
   clear hppv hmm hml hown hlen
   generalize hbn : b.length = bn at *
   clear hbn
   go_wp2
   refine HK.out _ _ ?_
   clear HK
   refine seqH (fun K HK => ?_)
   go_wp2_with (first
       | (go_at_call 127; refine hmi.mono ?_; rintro e w2 ⟨⟨a3, c3, rfl, hO⟩, hb2⟩)
       | ((first | (with_reducible refine wpList_stNew 39 _ _ ?_) | (with_reducible refine wp_stNew 39 _ _ ?_)); refine ⟨_, _, ⟨Tryz.sizeOf39, rfl, tg_new _⟩, rfl, ?_⟩))
   refine HK.out _ _ ?_
   clear HK
   have hb3 := hbr.trans (hb2.mono hbr.size)
   have hbn := blw w2 (Obj.cells #[.int .i64 tg.rep, .int .i64 tg.reg, .int .i64 tg.pla, .int .i64 tg.idx, .int .i64 tg.inc] 39)
   have T3 := heap_alloc_new w2 (Obj.cells #[.int .i64 tg.rep, .int .i64 tg.reg, .int .i64 tg.pla, .int .i64 tg.idx, .int .i64 tg.inc] 39)
   have S3 := (hsr.below hb2).below hbn
   have O3 := hO.below hbn
   have hb4 := hb3.trans (hbn.mono hb3.size)
   clear hbr hb2 hb3 hsr hO cr1 hmi s2 hbn
   generalize w2.alloc (Obj.cells #[.int .i64 tg.rep, .int .i64 tg.reg, .int .i64 tg.pla, .int .i64 tg.idx, .int .i64 tg.inc] 39) = w3 at *
   generalize w2.heap.size = tb at *
   have u0 := under_cell S3.c3
   have ut : ∀ x, (Under w3 x).cell? ⟨tb, 3, none⟩ = some (.int .i64 tg.idx) := under_cell (blk_cell T3 3 _ rfl)
   obtain ⟨n, c, pe, hpk⟩ : ∃ n c pe, parseCk body = (n, c, pe) := ⟨_, _, _, rfl⟩
   have hpn := parse_ck_le body
   have hkp : ∀ w4, Below w3.heap.size w3 w4 → Calls Tryz.prog 128 #[.slice a3 body.length c3] w4 fun e w' => (∃ a4 c4, e = .returned (.tuple #[.int .i64 (n : Nat), .slice a4 c.length c4, .int .i64 pe]) ∧ OwnS w' w4.heap.size a4 c4 c) ∧ Below w4.heap.size w4 w' := fun w4 hb => by
    have := rparse12_any a3 c3 body w4 (O3.slb.below hb) hbl
    unfold CkRes at this
    simp only [hpk] at this
    exact this
   unfold frameS at hrr
   rw [hpk] at hrr hpn
   simp only at hrr hpn
   clear hpk hbl O3
   by_cases g1 : st = 1
   case neg =>
    have e1 : ((st : Int) != 1) = true := by rw [bne_iff_ne]; omega
    rw [decide_eq_false g1, Bool.false_and] at hrr
    clear g1
    refine seqH (fun K HK5 => ?_)
    refine seqH (fun K HK6 => ?_)
    refine wp_region_under (by kernel_rfl) (by kernel_rfl) ?_
    repeat (first | go_big_quiet_step (fail) | ((with_reducible refine wpQuiet_skip ?_ ?_) ; (focus rfl); (try simp only [Act.put]); (try simp only [List.setIfInBounds_toArray]); (try simp only [List.set_cons_succ]); (try simp only [List.set_cons_zero])))
    refine wpQuiet_nil ?_
    intro _ hw'
    obtain ⟨xU, hw''⟩ := hw'
    subst hw''
    have hbU := under_below w3 xU
    refine HK6.out _ _ ?_
    clear HK6
    go_wp2
    replace hrr : r.2 = false := by rw [← hrr]
    go_ret2
    exact ⟨RRes.no _ (by rw [hrr]), hb4.trans (hbU.mono hb4.size)⟩
   case pos =>
    subst g1
    by_cases g2 : tg.idx = s.idx
    case neg =>
     have e2 : (tg.idx != s.idx) = true := by rw [bne_iff_ne]; exact g2
     rw [decide_eq_false g2, Bool.false_and, Bool.and_false] at hrr
     clear g2
     refine seqH (fun K HK5 => ?_)
     refine seqH (fun K HK6 => ?_)
     refine wp_region_under (by kernel_rfl) (by kernel_rfl) ?_
     repeat (first | go_big_quiet_step (fail) | ((with_reducible refine wpQuiet_skip ?_ ?_) ; (focus rfl); (try simp only [Act.put]); (try simp only [List.setIfInBounds_toArray]); (try simp only [List.set_cons_succ]); (try simp only [List.set_cons_zero])))
     refine wpQuiet_nil ?_
     intro _ hw'
     obtain ⟨xU, hw''⟩ := hw'
     subst hw''
     have hbU := under_below w3 xU
     refine HK6.out _ _ ?_
     clear HK6
     go_wp2
     replace hrr : r.2 = false := by rw [← hrr]
     go_ret2
     exact ⟨RRes.no _ (by rw [hrr]), hb4.trans (hbU.mono hb4.size)⟩
    case pos =>
     have e2 : (tg.idx != s.idx) = false := by rw [bne_eq_false_iff_eq]; exact g2
     rw [decide_eq_true g2, Bool.true_and] at hrr
     simp only [Bool.true_and, decide_true] at hrr
     clear g2
     refine seqH (fun K HK5 => ?_)
     refine seqH (fun K HK6 => ?_)
     refine wp_region_under (by kernel_rfl) (by kernel_rfl) ?_
     repeat (first | go_big_quiet_step (fail) | ((with_reducible refine wpQuiet_skip ?_ ?_) ; (focus rfl); (try simp only [Act.put]); (try simp only [List.setIfInBounds_toArray]); (try simp only [List.set_cons_succ]); (try simp only [List.set_cons_zero])))
     refine wpQuiet_nil ?_
     intro _ hw'
     obtain ⟨xU, hw''⟩ := hw'
     subst hw''
     have hbU := under_below w3 xU
     refine HK6.out _ _ ?_
     clear HK6
     go_wp2
     refine HK5.out _ _ ?_
     clear HK5
     have S5 := S3.below hbU
     have hkp5 := hkp _ hbU
     have hb5 := hb4.trans (hbU.mono hb4.size)
     clear u0 ut hkp S3 T3 hbU hb4 e2
     refine seqH (fun K HK => ?_)
     go_wp2_with (go_at_call 128; refine hkp5.mono ?_; rintro e w6 ⟨⟨a4, c4, rfl, O4⟩, hb6⟩)
     refine HK.out _ _ ?_
     clear HK
     have S6 := S5.below hb6
     have cc := S6.c5
     have hb7 := hb5.trans (hb6.mono hb5.size)
     have hfi := rfits12_any k (n : Int) c.length (by omega) w6
     clear S5 hkp5 hb5 hb6
     by_cases g3 : pe = 0
     case neg =>
      have e3 : (pe != 0) = true := by rw [bne_iff_ne]; exact g3
      rw [decide_eq_false g3, Bool.false_and] at hrr
      replace hrr : r.2 = false := by rw [← hrr]
      clear g3
      go_wp2
      go_ret2
      exact ⟨RRes.no _ hrr, hb7⟩
     case pos =>
      subst g3
      by_cases g4 : (n : Int) = s.cnt
      case neg =>
       have e4 : ((n : Int) != s.cnt) = true := by rw [bne_iff_ne]; exact g4
       rw [decide_eq_false g4, Bool.false_and, Bool.and_false] at hrr
       replace hrr : r.2 = false := by rw [← hrr]
       clear g4
       go_wp2
       go_ret2
       exact ⟨RRes.no _ hrr, hb7⟩
      case pos =>
       have e4 : ((n : Int) != s.cnt) = false := by rw [bne_eq_false_iff_eq]; exact g4
       rw [decide_eq_true g4] at hrr
       simp only [Bool.true_and, decide_true] at hrr
       clear g4
       cases hft : fitsC k (n : Int) c.length
       ·rw [hft] at hrr hfi
        replace hrr : r.2 = false := by rw [← hrr]
        clear hft
        go_wp2_with (go_at_call 57; refine hfi.mono ?_; rintro e w8 ⟨rfl, hb8⟩)
        go_ret2
        exact ⟨RRes.no _ hrr, hb7.trans (hb8.mono hb7.size)⟩
       ·rw [hft] at hrr hfi
        clear hft
        subst hrr
        go_wp2_with (go_at_call 57; refine hfi.mono ?_; rintro e w8 ⟨rfl, hb8⟩)
        go_ret2
        exact ⟨⟨a4, c4, c, rfl, (O4.below hb8).slb, fun _ => rfl⟩, hb7.trans (hb8.mono hb7.size)⟩
end
end Go.Proofs.YtbdonjenekhmdaaGreatDoor
