/- Texts that the claim leans on, part 16: X17, X32, G8, S27, G1, G2, G3, G4. -/
import Derived.Test.YthfolocjkpiljaaGreatDoorZ1
import Derived.Test.YthfolocjkpiljaaGreatDoorZ2
import Derived.Test.YthfolocjkpiljaaGreatDoorZ3
import Derived.Test.YthfolocjkpiljaaGreatDoorZ4
import Derived.Test.YthfolocjkpiljaaGreatDoorZ5
import Derived.Test.YthfolocjkpiljaaGreatDoorZ6
import Derived.Test.YthfolocjkpiljaaGreatDoorZ7
import Derived.Test.YthfolocjkpiljaaGreatDoorZ8
import Derived.Test.YthfolocjkpiljaaGreatDoorZ9
import Derived.Test.YthfolocjkpiljaaGreatDoorZ10
import Derived.Test.YthfolocjkpiljaaGreatDoorZ11
import Derived.Test.YthfolocjkpiljaaGreatDoorZ12
import Derived.Test.YthfolocjkpiljaaGreatDoorZ13
import Derived.Test.YthfolocjkpiljaaGreatDoorRows
import Derived.WalkKit
import Derived.WalkSpells
import Derived.WalkLawsBesides
import Derived.Handy
import Derived.Deep.QuietTactic
import Derived.BigQuiet
import Derived.Deep.DeepCutAuto
import Derived.Lib.Hide
import Derived.RegionTactic
import Derived.ChangeAlike
import Derived.Laws.ResultCell
import Derived.Outline
import Derived.IntWalk
import Derived.Shelf.Abstract
import Derived.Shelf.RegionOpen
import Derived.OwnWalkIn
import Derived.TacticsInMore
import Derived.LoopNIn
import Derived.LoopIn
import Derived.Maps.AppendAt
import Derived.Lib.SliceRun
import Derived.Laws.IdiomStrings
import Derived.Laws.BytesArg
import Derived.Carry
import Derived.Maps.Own
import Derived.Maps.Keyed
import Derived.RangeFuncNested
import Derived.RangeFuncBound
import Derived.RangeFuncCalls
import Derived.RangeFuncLeaves
import Derived.RangeFuncBox
import Derived.RangeFuncRecord
import Derived.OrdersIn
import Derived.OrdersHeld
import Derived.Laws.MakeOwn
import Derived.Laws.BitsAllLaws
import Derived.Great.BuildSlice
import Derived.Great.FillDense
import Derived.Laws.Rows
import Derived.Deep.Quiet
import Derived.Deep.RegionHeld3
import Derived.ProofKit
import Derived.OpenShut
import Derived.Laws.CopyOwn
import Derived.Laws.CopyRow
import Derived.Laws.NewBlocks
import Derived.Deep.RegionLaw
namespace Go.Proofs.YthfolocjkpiljaaGreatDoor

/-- A disk to which faults came: bits, losses, strays. -/
structure Flt (d d' : Dk) : Prop where
  live : Live d'
  left : d'.left = d.left
  mt : ∀ j : Int, meantD d' j = meantD d j
section
variable {d d' : Dk}
theorem Flt.refl (h : Live d) : Flt d d := ⟨h, rfl, fun _ => rfl⟩
theorem flip_st (d : Dk) (s n : Int) : (flipD d s n).1.down = d.down ∧ (flipD d s n).1.dead = d.dead ∧ (flipD d s n).1.left = d.left := by
  unfold flipD
  split
  · exact ⟨rfl, rfl, rfl⟩
  · split <;> exact ⟨rfl, rfl, rfl⟩
theorem lose_st (d : Dk) (s : Int) : (loseD d s).1.down = d.down ∧ (loseD d s).1.dead = d.dead ∧ (loseD d s).1.left = d.left := by
  unfold loseD
  split <;> exact ⟨rfl, rfl, rfl⟩
theorem stray_st (d : Dk) (s t : Int) : (strayD d s t).1.down = d.down ∧ (strayD d s t).1.dead = d.dead ∧ (strayD d s t).1.left = d.left := by
  unfold strayD
  split
  · exact ⟨rfl, rfl, rfl⟩
  · split <;> exact ⟨rfl, rfl, rfl⟩
theorem Flt.flip (h : Flt d d') (s n : Int) : Flt d (flipD d' s n).1 := by
  obtain ⟨a1, a2, a3⟩ := flip_pl d' s n
  obtain ⟨b1, b2, b3⟩ := flip_st d' s n
  exact ⟨⟨a1.trans h.live.len, a2.trans h.live.w, b1.trans h.live.dn, b2.trans h.live.de⟩, b3.trans h.left, fun j => (a3 j).trans (h.mt j)⟩
theorem Flt.lose (h : Flt d d') (s : Int) : Flt d (loseD d' s).1 := by
  obtain ⟨a1, a2, a3⟩ := lose_pl d' s
  obtain ⟨b1, b2, b3⟩ := lose_st d' s
  exact ⟨⟨a1.trans h.live.len, a2.trans h.live.w, b1.trans h.live.dn, b2.trans h.live.de⟩, b3.trans h.left, fun j => (a3 j).trans (h.mt j)⟩
theorem Flt.stray (h : Flt d d') (s t : Int) : Flt d (strayD d' s t).1 := by
  obtain ⟨a1, a2, a3⟩ := stray_pl d' s t
  obtain ⟨b1, b2, b3⟩ := stray_st d' s t
  exact ⟨⟨a1.trans h.live.len, a2.trans h.live.w, b1.trans h.live.dn, b2.trans h.live.de⟩, b3.trans h.left, fun j => (a3 j).trans (h.mt j)⟩
theorem there_p {j : Nat} (hl : d.pl.length = 156) (hj : j < 156) : ∃ p, d.pl[j]? = some p ∧ d.pl.getD j zeroPl = p ∧ p ∈ d.pl := by
  have hlt : j < d.pl.length := by omega
  have e := List.getElem?_eq_getElem hlt
  exact ⟨_, e, by rw [List.getD_eq_getElem?_getD, e]; rfl, List.getElem_mem hlt⟩
theorem read_p {j : Nat} (hL : Live d) (hj : j < 156) {p : Pl} (hp : d.pl[j]? = some p) : readD d j = if p.lost = true then ([], 50) else (p.rest, 0) := by
  rw [rd_live hL hj]
  unfold rdP
  rw [hp]
theorem rest_p {j : Nat} (hl : d.pl.length = 156) (hj : j < 156) {p : Pl} (hp : d.pl.getD j zeroPl = p) : restD d j = if p.lost = true then ([], true, 0) else (p.rest, false, 0) := by
  unfold restD
  rw [there_of hl hj, if_neg (by simp), Int.toNat_natCast, hp]
theorem meant_p {j : Nat} (hl : d.pl.length = 156) (hj : j < 156) {p : Pl} (hp : d.pl.getD j zeroPl = p) : meantD d j = (p.meant, 0) := by
  unfold meantD
  rw [there_of hl hj, if_neg (by simp), Int.toNat_natCast, hp]
/-- A sector that isn't hurt is read as ahead of the faults. -/
theorem unhurt_read {j : Nat} (hc : CleanL d.pl) (hL : Live d) (hf : Flt d d') (hj : j < 156) (hh : hurtB d' j = false) : readD d' j = readD d j := by
  obtain ⟨p, e1, e2, e3⟩ := there_p hL.len hj
  obtain ⟨p', f1, f2, f3⟩ := there_p hf.live.len hj
  obtain ⟨c1, c2⟩ := hc p e3
  have hm := hf.mt (j : Int)
  rw [meant_p hf.live.len hj f2, meant_p hL.len hj e2] at hm
  injection hm with hm _
  rw [hurt_pl (p := p') (there_of hf.live.len hj) f2, Bool.or_eq_false_iff] at hh
  obtain ⟨h1, h2⟩ := hh
  have h3 : p'.rest = p'.meant := by simpa using h2
  rw [read_p hf.live hj f1, read_p hL hj e1, h1, c2, h3, hm, c1]
variable {rep reg pla : Int}
theorem isHurt_no {f n : Nat} (h : isHurt d f n = false) : ∀ k, k < n → hurtB d ((f + k : Nat) : Int) = false := fun k hk => by
  cases hh : hurtB d ((f + k : Nat) : Int)
  · rfl
  · have hne := hurtsL_ne (d := d) (f := f) (t := f + n) (s := f + k) (by omega) (by omega) hh
    unfold isHurt at h
    cases hL : hurtsL d f (f + n)
    · exact absurd hL hne
    · rw [hL] at h; cases h
theorem place_parts (ha : askG d rep reg pla = 0) : placeG d rep reg pla = (isHurt d (firstN reg pla).toNat (wideN reg).toNat, isHurt d (firstN reg pla).toNat (wideN reg).toNat && (goneG d (firstN reg pla).toNat (wideN reg).toNat || decide ((mineF (allR d (firstN reg pla).toNat (wideN reg).toNat) rep reg pla).1 = 2)), 0) := by
  unfold placeG
  rw [if_neg (by simp [ha])]
theorem place_unhurt (hc : CleanL d.pl) (hL : Live d) (hf : Flt d d') (ha : askG d' rep reg pla = 0) (h : (placeG d' rep reg pla).1 = false) : ∀ k : Nat, k < (wideN reg).toNat → readD d' (((firstN reg pla).toNat + k : Nat) : Int) = readD d (((firstN reg pla).toNat + k : Nat) : Int) := fun k hk => by
  have hb := ask_first ha
  rw [place_parts ha] at h
  exact unhurt_read hc hL hf (by omega) (isHurt_no h k hk)
/-- A place that is hurt, and seen to be: a sector can't be read, or its bytes are bad. -/
theorem place_seen (hL : Live d) (ha : askG d rep reg pla = 0) (h : (placeG d rep reg pla).2.1 = true) :
    (∃ k, k < (wideN reg).toNat ∧ readD d (((firstN reg pla).toNat + k : Nat) : Int) = ([], 50)) ∨
      ((∀ k, k < (wideN reg).toNat → (readD d (((firstN reg pla).toNat + k : Nat) : Int)).2 = 0) ∧ (mineF (allG (fun s => (readD d s).1) (firstN reg pla).toNat (wideN reg).toNat) rep reg pla).1 = 2) := by
  have hb := ask_first ha
  rw [place_parts ha] at h
  simp only [Bool.and_eq_true, Bool.or_eq_true, decide_eq_true_eq] at h
  have hfn : (firstN reg pla).toNat + (wideN reg).toNat ≤ 156 := by omega
  generalize (firstN reg pla).toNat = f at *
  generalize (wideN reg).toNat = n at *
  by_cases hg : goneG d f n = true
  · refine .inl ?_
    unfold goneG at hg
    rw [List.any_eq_true] at hg
    obtain ⟨k, hk, hl⟩ := hg
    have hk := List.mem_range.1 hk
    obtain ⟨p, e1, e2, _⟩ := there_p hL.len (show f + k < 156 by omega)
    refine ⟨k, hk, ?_⟩
    rw [rest_p hL.len (by omega) e2] at hl
    rw [read_p hL (by omega) e1]
    by_cases hp : p.lost = true
    · rw [if_pos hp]
    · rw [if_neg hp] at hl; cases hl
  · refine .inr ?_
    have hno : ∀ k, k < n → readD d ((f + k : Nat) : Int) = ((restD d ((f + k : Nat) : Int)).1, 0) := fun k hk => by
      obtain ⟨p, e1, e2, _⟩ := there_p hL.len (show f + k < 156 by omega)
      have hpl : ¬ p.lost = true := fun hp => hg (by
        unfold goneG
        rw [List.any_eq_true]
        exact ⟨k, List.mem_range.2 hk, by rw [rest_p hL.len (by omega) e2, if_pos hp]⟩)
      rw [rest_p hL.len (by omega) e2, read_p hL (by omega) e1, if_neg hpl, if_neg hpl]
    refine ⟨fun k hk => by rw [hno k hk], ?_⟩
    have e : allG (fun s => (readD d s).1) f n = allR d f n := by
      unfold allR allG
      rw [List.flatMap_def, List.flatMap_def]
      congr 1
      exact List.map_congr_left fun k hk => congrArg (fun x => x.1) (hno k (List.mem_range.1 hk))
    rw [e]
    exact (h.2.resolve_left hg)
theorem mine_bad {b : List UInt8} (h : (mineF b rep reg pla).1 = 2) : mineF b rep reg pla = (2, zeroTg, []) := by
  unfold mineF at h ⊢
  split
  · rfl
  · rename_i hc
    rw [if_neg hc] at h
    unfold openF at h ⊢
    split
    · rfl
    · rename_i h1
      rw [if_neg h1] at h
      split
      · rename_i h2; rw [if_pos h2] at h; cases h
      · rename_i h2
        rw [if_neg h2] at h
        split
        · rename_i h3; rw [if_pos h3] at h; cases h
        · rfl
theorem ask_of (hl : d.pl.length = 156) (hr : 0 ≤ rep ∧ rep ≤ 6) (hf : 0 ≤ firstN reg pla) : askG d rep reg pla = 0 := by
  unfold askG askN
  rw [hl, if_neg (by decide), if_neg (by omega)]
theorem seen_all (hs : seenG d rep = (true, 0)) {r p : Nat} (h1 : 1 ≤ r) (h2 : r ≤ 5) (hp : p < (placesN (r : Int)).toNat) : (placeG d rep (r : Int) (p : Int)).1 = (placeG d rep (r : Int) (p : Int)).2.1 := by
  unfold seenG at hs
  split at hs
  · cases hs
  · injection hs with hs _
    unfold seenR at hs
    rw [List.all_eq_true] at hs
    have h3 := hs (r - 1) (List.mem_range.2 (by omega))
    rw [show r - 1 + 1 = r by omega] at h3
    unfold seenP at h3
    rw [List.all_eq_true] at h3
    simpa using h3 p (List.mem_range.2 hp)
end
end Go.Proofs.YthfolocjkpiljaaGreatDoor

namespace Go.Proofs.YthfolocjkpiljaaGreatDoor

section
variable {d d' : Dk} {s : Sh} {b : List UInt8} {o : Vo}
theorem allG_one (f : Int → List UInt8) (a : Nat) : allG f a 1 = f (a : Int) := by
  unfold allG
  simp
theorem allG_two (f : Int → List UInt8) (a : Nat) : allG f a 2 = f (a : Int) ++ f ((a + 1 : Nat) : Int) := by
  unfold allG
  simp [List.range_succ]
/-- A copy of a cell whose place isn't hurt, or is. -/
theorem cell_unhurt (hc : CleanL d.pl) (hL : Live d) (hf : Flt d d') {rep reg : Int} (hp : 0 ≤ rep ∧ rep ≤ 6) (hr : reg = 1 ∨ reg = 2) {i : Nat} (hi : i < 2) (h : (placeG d' rep reg i).1 = false) : readD d' (secC reg i) = readD d (secC reg i) := by
  obtain ⟨hs, _⟩ := sec_first hr hi
  have ha : askG d' rep reg i = 0 := ask_of hf.live.len hp (by rw [hs]; omega)
  have h1 := place_unhurt hc hL hf ha h 0 (by rcases hr with rfl | rfl <;> decide)
  rw [hs, Int.toNat_natCast, Nat.add_zero] at h1
  exact h1
theorem cell_seen (hf : Flt d d') {rep reg : Int} (hp : 0 ≤ rep ∧ rep ≤ 6) (hr : reg = 1 ∨ reg = 2) {i : Nat} (hi : i < 2) (h : (placeG d' rep reg i).2.1 = true) : cop d' rep reg i = badR := by
  obtain ⟨hs, _⟩ := sec_first hr hi
  have ha : askG d' rep reg i = 0 := ask_of hf.live.len hp (by rw [hs]; omega)
  have hw : (wideN reg).toNat = 1 := by rcases hr with rfl | rfl <;> rfl
  have h1 := place_seen hf.live ha h
  rw [hs, Int.toNat_natCast, hw] at h1
  rcases h1 with ⟨k, hk, h2⟩ | ⟨_, h2⟩
  · obtain rfl : k = 0 := by omega
    rw [Nat.add_zero] at h2
    exact cop_none h2
  · rw [allG_one] at h2
    have h3 := mine_bad h2
    unfold cop
    rw [h3]
    rfl
/-- A shelf whose manifest is loaded, and healed. -/
theorem open_is {inc : Int} (hL : Live d) (hok : ShOk s) (hoo : okO o) (hl : loadC d s.rep 2 = (verO o, bodO o, 0)) (hh : healC d s.rep 2 = (d', 0)) (hi : 1 ≤ inc ∧ inc ≤ 1099511627776) (i1 : 1 ≤ s.idx) (cn : s.cnt = (numC b.length : Nat)) (ln : b.length ≤ 640) (so : o.isSome = true) (bo : bodO o = manB s.idx s.area s.cnt) :
    openS d s.rep inc = (d', { s with inc := inc }, 0) := by
  have hrp := hok.r
  have hc := hok.c
  have hn := numC_le ln
  have hpm : parseMan (bodO o) = ((s.idx, s.area, s.cnt), 0) := by
    rw [bo]
    exact parse_man ⟨i1, hok.i.2, hok.a.1, hok.a.2, by omega, by omega⟩
  have hv : 0 < verO o := by
    match o, so, hoo with
    | some (v, c, b), _, ⟨h, _⟩ => show 0 < v; omega
  unfold openS
  simp only
  rw [if_neg (by rw [hL.len]; omega), hl]
  simp only
  rw [if_neg (by simp), hpm, if_neg (fun hh => hh.2 rfl), hh, if_pos hv]
theorem nothing_bad (h : Holds d s b o) (hf : Flt d d') (hs : seenG d' s.rep = (true, 0)) (h0 : (placeG d' s.rep 2 0).1 = true) (h1 : (placeG d' s.rep 2 1).1 = true) {inc : Int} (hi : 1 ≤ inc ∧ inc ≤ 1099511627776) : ∃ z, openS d' s.rep inc = (d', z, 70) := by
  have hp := h.ok.r
  have s0 := seen_all hs (r := 2) (p := 0) (by decide) (by decide) (by decide)
  have s1 := seen_all hs (r := 2) (p := 1) (by decide) (by decide) (by decide)
  have c0 := cell_seen hf hp (.inr rfl) (i := 0) (by decide) (by rw [show ((2 : Nat) : Int) = 2 from rfl] at s0; rw [← s0]; exact h0)
  have c1 := cell_seen hf hp (.inr rfl) (i := 1) (by decide) (by rw [show ((2 : Nat) : Int) = 2 from rfl] at s1; rw [← s1]; exact h1)
  have hl := load_none hf.live hp (.inr rfl) c0 c1
  refine ⟨⟨0, 0, 0, s.rep, inc⟩, ?_⟩
  unfold openS
  simp only
  rw [if_neg (by rw [hf.live.len]; omega), hl]
  simp only
  rw [if_pos (by simp)]
/-- Which chunks are whole. -/
def wholeP (d' : Dk) (s : Sh) (k : Nat) : Bool := !(placeG d' s.rep 5 (plaS s (k : Int))).1
theorem nothing_good (h : Holds d s b o) (hcl : CleanL d.pl) (i1 : 1 ≤ s.idx) (hf : Flt d d') (hs : seenG d' s.rep = (true, 0)) (h01 : ¬ ((placeG d' s.rep 2 0).1 = true ∧ (placeG d' s.rep 2 1).1 = true)) {inc : Int} (hi : 1 ≤ inc ∧ inc ≤ 1099511627776) :
    ∃ d9, openS d' s.rep inc = (d9, { s with inc := inc }, 0) ∧ Parted d9 s b o (wholeP d' s) := by
  have hp := h.ok.r
  have hr2 : (2 : Int) = 1 ∨ (2 : Int) = 2 := .inr rfl
  have s0 := seen_all hs (r := 2) (p := 0) (by decide) (by decide) (by decide)
  have s1 := seen_all hs (r := 2) (p := 1) (by decide) (by decide) (by decide)
  rw [show ((2 : Nat) : Int) = 2 from rfl] at s0 s1
  have hleft : d'.left < 0 := by rw [hf.left]; exact h.left
  obtain ⟨hcn, hln, hheld, hso, hbo⟩ : s.cnt = (numC b.length : Nat) ∧ b.length ≤ 640 ∧ HeldS d s 0 (splitC b) ∧ o.isSome = true ∧ bodO o = manB s.idx s.area s.cnt := by
    rcases h.is with ⟨h1, _⟩ | ⟨_, h2, h3, h4, h5, h6⟩
    · omega
    · exact ⟨h2, h3, h4, h5, h6⟩
  have hn := numC_le hln
  -- the manifest
  have hman : ∃ d9, loadC d' s.rep 2 = (verO o, bodO o, 0) ∧ healC d' s.rep 2 = (d9, 0) ∧ Live d9 ∧ d9.left < 0 ∧ Fr d9 s.rep 2 o ∧ ∀ j : Nat, j < 156 → j ≠ secC 2 0 → j ≠ secC 2 1 → readD d9 j = readD d' j := by
    have hone : ∀ i : Nat, i < 2 → (placeG d' s.rep 2 (i : Nat)).1 = false → (placeG d' s.rep 2 ((1 - i : Nat) : Int)).1 = true → (placeG d' s.rep 2 ((1 - i : Nat) : Int)).1 = (placeG d' s.rep 2 ((1 - i : Nat) : Int)).2.1 → ∃ d9, loadC d' s.rep 2 = (verO o, bodO o, 0) ∧ healC d' s.rep 2 = (d9, 0) ∧ Live d9 ∧ d9.left < 0 ∧ Fr d9 s.rep 2 o ∧ ∀ j : Nat, j < 156 → j ≠ secC 2 0 → j ≠ secC 2 1 → readD d9 j = readD d' j := fun i hi2 hu hb hsn => by
      have e1 := cell_unhurt hcl h.live hf hp hr2 hi2 hu
      have e2 := cell_seen hf hp hr2 (i := 1 - i) (by omega) (by rw [← hsn]; exact hb)
      match o, hso, h.fr with
      | some (v, c, bb), _, hfr =>
        have r1 : readD d' (secC 2 i) = (fraC s.rep 2 v c bb i, 0) := by
          rw [e1]
          rcases (show i = 0 ∨ i = 1 by omega) with rfl | rfl
          · exact hfr.r0
          · exact hfr.r1
        have hcp := cop_fr hp hr2 hi2 hfr.ok (show readD d' (secC 2 i) = (frR s.rep 2 i (some (v, c, bb)), 0) from r1)
        have hold : (cop d' s.rep 2 (1 - i)).st ≠ 1 ∨ (cop d' s.rep 2 (1 - i)).tg.idx < v := .inl (by rw [e2]; decide)
        obtain ⟨d9, g1, g2, g3, g4, g5⟩ := heal_one hf.live hp hr2 hi2 hfr.ok hleft r1 hold
        exact ⟨d9, load_one hf.live hp hr2 hi2 hcp hold, g1, g2, by rw [g3]; exact hleft, g4, g5⟩
    cases e0 : (placeG d' s.rep 2 0).1 with
    | false =>
      cases e1 : (placeG d' s.rep 2 1).1 with
      | false =>
        have hfr : Fr d' s.rep 2 o := h.fr.same (cell_unhurt hcl h.live hf hp hr2 (i := 0) (by decide) e0) (cell_unhurt hcl h.live hf hp hr2 (i := 1) (by decide) e1)
        exact ⟨d', hfr.load hf.live hp hr2, heal_same hf.live hp hr2 hfr, hf.live, hleft, hfr, fun _ _ _ _ => rfl⟩
      | true => exact hone 0 (by decide) e0 e1 s1
    | true =>
      cases e1 : (placeG d' s.rep 2 1).1 with
      | false => exact hone 1 (by decide) e1 e0 s0
      | true => exact absurd ⟨e0, e1⟩ h01
  obtain ⟨d9, m1, m2, m3, m4, m5, m6⟩ := hman
  have hr9 : ∀ j : Nat, j < 156 → 4 ≤ j → readD d9 j = readD d' j := fun j hj h4 => m6 j hj (by unfold secC; simp; omega) (by unfold secC; simp; omega)
  refine ⟨d9, open_is hf.live h.ok h.fr.ok m1 m2 hi i1 hcn hln hso hbo, m3, m4, h.ok, m5, i1, hcn, hln, ?_, ?_, hso, hbo⟩
  · intro i hin hg
    obtain ⟨hfs, hlt⟩ := secS_eq h.ok (k := i) (by omega)
    unfold wholeP at hg
    rw [Bool.not_eq_true'] at hg
    have ha : askG d' s.rep 5 (plaS s (i : Int)) = 0 := ask_of hf.live.len hp (by rw [hfs]; omega)
    have hu := place_unhurt hcl h.live hf ha hg
    rw [hfs, Int.toNat_natCast] at hu
    have hl : i < (splitC b).length := by rw [splitC_len]; exact hin
    obtain ⟨t0, t1⟩ := hheld i hl
    rw [Nat.zero_add, splitC_at b hl] at t0 t1
    refine ⟨?_, ?_⟩
    · rw [hr9 _ (by omega) (by unfold secS; omega)]
      exact (hu 0 (by decide)).trans t0
    · rw [hr9 _ hlt (by unfold secS; omega)]
      exact (hu 1 (by decide)).trans t1
  · intro i hin hg
    obtain ⟨hfs, hlt⟩ := secS_eq h.ok (k := i) (by omega)
    have har := h.ok.a
    unfold wholeP at hg
    rw [Bool.not_eq_false'] at hg
    have ha : askG d' s.rep 5 (plaS s (i : Int)) = 0 := ask_of hf.live.len hp (by rw [hfs]; omega)
    have hpl : plaS s (i : Int) = ((8 * s.area.toNat + i : Nat) : Int) := by unfold plaS; omega
    have hsn := seen_all hs (r := 5) (p := 8 * s.area.toNat + i) (by decide) (by decide) (by show 8 * s.area.toNat + i < 16; omega)
    rw [show ((5 : Nat) : Int) = 5 from rfl, ← hpl] at hsn
    have hse := place_seen hf.live ha (by rw [← hsn]; exact hg)
    rw [hfs, Int.toNat_natCast, show (wideN 5).toNat = 2 from rfl] at hse
    have q0 : readD d9 (secS s i : Int) = readD d' (secS s i : Int) := hr9 _ (by omega) (by unfold secS; omega)
    have q1 : readD d9 ((secS s i + 1 : Nat) : Int) = readD d' ((secS s i + 1 : Nat) : Int) := hr9 _ hlt (by unfold secS; omega)
    rcases hse with ⟨k, hk, hbad⟩ | ⟨hgood, hbad⟩
    · unfold readS
      rw [if_pos]
      unfold secsS
      rw [hfs, show ((secS s i : Int) + 1) = ((secS s i + 1 : Nat) : Int) by omega, q0, q1]
      rcases (show k = 0 ∨ k = 1 by omega) with rfl | rfl
      · rw [Nat.add_zero] at hbad
        rw [hbad]
        rfl
      · rw [hbad]
        simp
    · have g0 := hgood 0 (by decide)
      have g1 := hgood 1 (by decide)
      rw [Nat.add_zero] at g0
      rw [allG_two] at hbad
      have hm := mine_bad hbad
      unfold readS
      rw [if_neg]
      · have e : (secsS d9 (plaS s (i : Int))).1 = (readD d' (secS s i : Int)).1 ++ (readD d' ((secS s i + 1 : Nat) : Int)).1 := by
          unfold secsS
          rw [hfs, show ((secS s i : Int) + 1) = ((secS s i + 1 : Nat) : Int) by omega, q0, q1]
        rw [e, hm]
        rfl
      · unfold secsS
        rw [hfs, show ((secS s i : Int) + 1) = ((secS s i + 1 : Nat) : Int) by omega, q0, q1, g0, g1]
        simp
end
end Go.Proofs.YthfolocjkpiljaaGreatDoor

namespace Go.Proofs.YthfolocjkpiljaaGreatDoor
open Go.RowKit

def there2 (d : Dk) (s t : Int) : Int := if thereD d s ≠ 0 then thereD d s else thereD d t
theorem there_val {d : Dk} (hn : 0 < d.pl.length) (s : Int) : (s < 0 ∧ thereD d s = 2) ∨ (¬ s < 0 ∧ (d.pl.length : Int) ≤ s ∧ thereD d s = 2) ∨ (¬ s < 0 ∧ ¬ (d.pl.length : Int) ≤ s ∧ thereD d s = 0) := by
  unfold thereD
  rw [if_neg (by omega)]
  by_cases h1 : s < 0
  · exact .inl ⟨h1, if_pos (.inl h1)⟩
  · by_cases h2 : (d.pl.length : Int) ≤ s
    · exact .inr (.inl ⟨h1, h2, if_pos (.inr h2)⟩)
    · exact .inr (.inr ⟨h1, h2, if_neg (by omega)⟩)
theorem pl_restS (p : Pl) (x : List UInt8) (hx : x.length = 64) : (plC p).take 0 ++ (Value.agg (bys x).toArray).cells.toList ++ (plC p).drop (0 + 64) = plC { p with rest := x } := by
  have h1 : (bys (fix64 p.rest)).length = 64 := by rw [bys_len, fix64_len]
  have e : (plC p).drop (0 + 64) = bys (fix64 p.meant) ++ [.bool p.lost] := by
    unfold plC
    rw [show 0 + 64 = (bys (fix64 p.rest)).length by rw [h1], List.drop_left]
  rw [e, List.take_zero, List.nil_append]
  unfold plC
  simp only
  rw [fix64_of hx]
  rfl
theorem pls_restS {l : List Pl} {s : Nat} {p : Pl} (h : l[s]? = some p) (x : List UInt8) (hx : x.length = 64) : s * 129 + 64 ≤ (plsV l).size ∧ (Value.agg (bys x).toArray).cells.size = 64 ∧ (∀ u ∈ (Value.agg (bys x).toArray).cells.toList, u.oneCell' = true) ∧ ((plsV l).toList.take (s * 129) ++ (Value.agg (bys x).toArray).cells.toList ++ (plsV l).toList.drop (s * 129 + 64)).toArray = plsV (l.set s { p with rest := x }) := by
  have := pls_part (x := .agg (bys x).toArray) (n := 64) (r := 0) h (by show (bys x).toArray.size = 64; rw [List.size_toArray, bys_len]; exact hx) (by omega) (by show ∀ u ∈ (bys x).toArray.toList, _; exact bys_one) (pl_restS p x hx)
  simpa only [Nat.add_zero] using this
theorem pl_all {l : List Pl} {k : Nat} {p : Pl} (h : l[k]? = some p) : k * 129 + 129 ≤ (plsV l).size ∧ (plsV l).extract (k * 129) (k * 129 + 129) = (plC p).toArray := by
  have hs := (List.getElem?_eq_some_iff.1 h).1
  refine ⟨by rw [plsV_size]; omega, ?_⟩
  obtain ⟨a, b, rfl, hl, _⟩ := pl_split h
  have hfa : (a.flatMap plC).length = k * 129 := by rw [flat_len plC_len, hl, Nat.mul_comm]
  have e : (plsV (a ++ p :: b)).toList = a.flatMap plC ++ (plC p ++ b.flatMap plC) := by
    unfold plsV
    simp only [List.flatMap_append, List.flatMap_cons]
  apply Array.toList_inj.1
  rw [Array.toList_extract, e]
  show List.take (k * 129 + 129 - k * 129) (List.drop (k * 129) _) = plC p
  rw [← hfa, List.drop_left, show (a.flatMap plC).length + 129 - (a.flatMap plC).length = 129 by omega, ← plC_len p, List.take_left]
theorem plC_one (p : Pl) : ∀ u ∈ (plC p).toArray.toList, u.oneCell' = true := by
  intro u hu
  simp only [plC, List.mem_append, List.mem_singleton] at hu
  rcases hu with hu | hu | rfl
  · exact bys_one u hu
  · exact bys_one u hu
  · rfl
theorem pl_c128 {w : World} {q : Nat} {p : Pl} {T : TypeId} (h : w.heap[q]? = some (.cells (plC p).toArray T (0, 0))) : w.cell? ⟨q, 128, none⟩ = some (.bool p.lost) := blk_cell h 128 _ (by rw [List.getElem?_toArray]; exact pl_lostAt p)
theorem pl_rst {p : Pl} (hp : p.rest.length = 64) : 0 + 64 ≤ (plC p).toArray.size ∧ (plC p).toArray.extract 0 (0 + 64) = (bys p.rest).toArray := by
  refine ⟨by rw [List.size_toArray, plC_len]; omega, ?_⟩
  apply Array.toList_inj.1
  rw [Array.toList_extract]
  show List.take 64 (plC p) = bys p.rest
  unfold plC
  rw [fix64_of hp]
  have h64 : (bys p.rest).length = 64 := by rw [bys_len]; exact hp
  rw [← h64, List.take_left]
section
variable {B g gp : Nat} {wv : Value} {d : Dk} {w : World}
set_option maxRecDepth 100000 in
theorem there_2 (h : DiskB B g gp wv d w) (s t : Int) (q : Nat) (hq0 : w.cell? ⟨q, 0, none⟩ = some (.int .i64 s)) (hq1 : w.cell? ⟨q, 1, none⟩ = some (.int .i64 t)) : Calls Tryz.prog 124 #[.pointer (some ⟨g, 0, none⟩), .slice (some ⟨q, 0, none⟩) 2 2] w fun e w' => e = .returned (.int .i64 (there2 d s t)) ∧ w = w' := by
  have h0 : ((d.pl.length : Int) == 0) = false := by have := h.n0; rw [beq_eq_false_iff_ne]; omega
  have c0 := h.c0
  have HS := Lib.hid (there_val h.n0 s)
  have HT := Lib.hid (there_val h.n0 t)
  unfold there2
  generalize thereD d s = rs at *
  generalize thereD d t = rt at *
  obtain ⟨r, hr⟩ : ∃ r, (if rs ≠ 0 then rs else rt) = r := ⟨_, rfl⟩
  rw [hr]
  have HR := Lib.hid hr
  clear hr
  go_enter Tryz.func124, Tryz.ntmps124
  go_wp2_with (go_at_call 93; refine (dsize h).mono ?_; rintro e w1 ⟨rfl, rfl⟩)
  go_loopw [12, 6] (fun i _ wr => ∃ k : Nat, k ≤ 2 ∧ i = .int .i64 (k : Nat) ∧ Hid (1 ≤ k → rs = 0) ∧ Hid (2 ≤ k → rt = 0) ∧ wr = w) (fun i _ _ => 2 - (intOf i).toNat)
  case atStart => exact ⟨0, by omega, rfl, Lib.hid (fun h => absurd h (by omega)), Lib.hid (fun h => absurd h (by omega)), rfl⟩
  case round =>
    obtain ⟨k, hk, rfl, hk1, hk2, rfl⟩ := hrel
    rcases (show k = 0 ∨ k = 1 ∨ k = 2 by omega) with rfl | rfl | rfl
    · clear hk1 hk2
      rcases HS.out with ⟨h1, h2⟩ | ⟨h1, h2, h3⟩ | ⟨h1, h2, h3⟩
      · subst h2
        obtain rfl : r = 2 := by rw [← HR.out]; rfl
        go_wp2
        go_ret
        exact ⟨rfl, rfl⟩
      · subst h3
        obtain rfl : r = 2 := by rw [← HR.out]; rfl
        go_wp2
        go_ret
        exact ⟨rfl, rfl⟩
      · subst h3
        go_wp2
        go_roundw
        case rel => exact ⟨1, by omega, by first | rfl | go_num, Lib.hid (fun _ => by first | rfl | trivial), Lib.hid (fun h => absurd h (by omega)), by first | trivial | rfl⟩
        case measure => first | (simp [intOf]; done) | (simp [intOf]; omega)
    · have e := hk1.out (by omega)
      subst e
      clear hk1 hk2 HS
      rcases HT.out with ⟨h1, h2⟩ | ⟨h1, h2, h3⟩ | ⟨h1, h2, h3⟩
      · subst h2
        obtain rfl : r = 2 := by rw [← HR.out]; rfl
        go_wp2
        go_ret
        exact ⟨rfl, rfl⟩
      · subst h3
        obtain rfl : r = 2 := by rw [← HR.out]; rfl
        go_wp2
        go_ret
        exact ⟨rfl, rfl⟩
      · subst h3
        go_wp2
        go_roundw
        case rel => exact ⟨2, by omega, by first | rfl | go_num, Lib.hid (fun _ => by first | rfl | trivial), Lib.hid (fun _ => by first | rfl | trivial), by first | trivial | rfl⟩
        case measure => first | (simp [intOf]; done) | (simp [intOf]; omega)
    · have e := hk1.out (by omega)
      have e2 := hk2.out (by omega)
      subst e e2
      obtain rfl : r = 0 := by rw [← HR.out]; rfl
      clear hk1 hk2 HS HT
      go_wp2
      go_ret
      exact ⟨rfl, rfl⟩
set_option maxRecDepth 100000 in
set_option maxHeartbeats 1000000 in
theorem stray_any (h : DiskB B g gp wv d w) (hb : B ≤ w.heap.size) (s t : Int) : Calls Tryz.prog 175 #[.pointer (some ⟨g, 0, none⟩), .int .i64 s, .int .i64 t] w fun e w' => e = .returned (.int .i64 (strayD d s t).2) ∧ DiskB B g gp wv (strayD d s t).1 w' ∧ Kt B w w' := by
  have hbA := blw w (Obj.cells #[.int .i64 s, .int .i64 t] 3)
  have hA := h.below hbA
  have hk := Kt.of hbA hb
  have B0 := heap_alloc_new w (Obj.cells #[.int .i64 s, .int .i64 t] 3)
  have ht := there_2 hA s t w.heap.size (blk_cell B0 0 _ rfl) (blk_cell B0 1 _ rfl)
  have c0 := hA.c0
  have hP := hA.pls
  unfold there2 at ht
  unfold strayD
  by_cases h0 : thereD d s = 0
  · rw [if_neg (by simpa using h0)] at ht ⊢
    by_cases h1 : thereD d t = 0
    · rw [if_neg (by simpa using h1)]
      rw [h1] at ht
      have hsr := there_in h0
      have htr := there_in h1
      obtain ⟨k, rfl⟩ : ∃ k : Nat, s = k := ⟨s.toNat, by omega⟩
      obtain ⟨m, rfl⟩ : ∃ m : Nat, t = m := ⟨t.toNat, by omega⟩
      have hk2 : k < d.pl.length := by omega
      have hk3 : (k : Int) < d.pl.length := by omega
      have hm2 : m < d.pl.length := by omega
      have hm3 : (m : Int) < d.pl.length := by omega
      have hpk : d.pl[k]? = some d.pl[k] := List.getElem?_eq_getElem hk2
      have hpm : d.pl[m]? = some d.pl[m] := List.getElem?_eq_getElem hm2
      simp only [Int.toNat_natCast]
      rw [modify_set _ hpm, show d.pl.getD k zeroPl = d.pl[k] by rw [List.getD_eq_getElem?_getD, hpk]; rfl]
      have hok := h.ok _ (List.getElem_mem hk2)
      have hom := h.ok _ (List.getElem_mem hm2)
      generalize d.pl[k] = p at *
      generalize d.pl[m] = r at *
      clear h0 h1 hsr htr B0
      go_enter Tryz.func175, Tryz.ntmps175
      refine wp_seq_k (fun K hK => ?_)
      have HK := Lib.hid hK
      clear hK
      go_wp2
      refine HK.out _ _ ?_
      clear HK
      refine wp_seq_k (fun K hK => ?_)
      have HK := Lib.hid hK
      clear hK
      go_wp2_with (go_at_call 124; refine ht.mono ?_; rintro e w1 ⟨rfl, rfl⟩)
      refine HK.out _ _ ?_
      clear HK
      generalize w.alloc (Obj.cells #[.int .i64 (k : Int), .int .i64 (m : Int)] 3) = wq at *
      refine wp_seq_k (fun K hK => ?_)
      have HK := Lib.hid hK
      clear hK
      go_wp2_with (first
              | ((with_reducible refine wpList_ldB 218 _ ?_); refine ⟨rfl, _, ⟨_, _, _, _, _, Tryz.isAgg218, Tryz.sizeOf218, rfl, ‹_›, pl_all hpk⟩, ?_⟩)
              | ((with_reducible refine wpList_stNew 218 _ _ ?_); refine ⟨129, (plC p).toArray, ⟨Tryz.sizeOf218, rfl, rfl, by rw [List.size_toArray, plC_len], plC_one p⟩, by kernel_rfl, ?_⟩))
      refine HK.out _ _ ?_
      clear HK
      have X0 := heap_alloc_new wq (Obj.cells (plC p).toArray 218)
      have hbX := blw wq (Obj.cells (plC p).toArray 218)
      have hX := hA.below hbX
      have hkX := hk.trans (Kt.of hbX (Nat.le_trans hb hk.bl.size))
      have hneX : gp ≠ wq.heap.size := by have := lt_blk hA.pls; omega
      clear c0 hP ht hA hbX hbA
      generalize wq.alloc (Obj.cells (plC p).toArray 218) = wx at *
      generalize wq.heap.size = qx at *
      refine wp_seq_k (fun K hK => ?_)
      have HK := Lib.hid hK
      clear hK
      go_wp2_with fail
      have hbd := (Below.refl wx.heap.size wx).drew
      have hdD := hX.below hbd
      have hkD := hkX.trans (Kt.of hbd (Nat.le_trans hb hkX.bl.size))
      have hxD := tr_bl hbd X0
      have hne1 : gp ≠ g := by rintro rfl; have := hdD.box.symm.trans hdD.pls; injection this with this; injection this with _ e; revert e; decide
      clear hX hkX X0 hbd
      refine wp_region_held_drew (S := fun w' => w'.heap[g]? = some (.cells (dkA gp wv d) 175 (0, 0)) ∧ w'.heap[qx]? = some (.cells (plC p).toArray 218 (0, 0))) (by kernel_rfl) ⟨hdD.box, hxD⟩ (fun hS0 => ?_)
      generalize wx.drew = x0 at *
      refine wpAnyH_take (i := 0) (oi := ⟨_, _, _, _, _, _⟩) (v := ?_) rfl (by kernel_rfl) (by kernel_rfl) (by kernel_rfl) (fun _ _ _ h => h) (Or.inl ⟨by rfl, ?_⟩) (by assumption) ?_
      rotate_left
      · intro wS hSw
        go_simp; (try with_reducible rfl)
      (try simp only [Act.put])
      (try simp only [List.setIfInBounds_toArray])
      (try simp only [List.set_cons_succ])
      (try simp only [List.set_cons_zero])
      refine wpAnyH_take (i := 1) (oi := ⟨_, _, _, _, _, _⟩) (v := ?_) rfl (by kernel_rfl) (by kernel_rfl) (by kernel_rfl) (fun _ _ _ h => h) (Or.inl ⟨by rfl, ?_⟩) (by assumption) ?_
      rotate_left
      · intro wS hSw
        go_simp; (try with_reducible rfl)
      (try simp only [Act.put])
      (try simp only [List.setIfInBounds_toArray])
      (try simp only [List.set_cons_succ])
      (try simp only [List.set_cons_zero])
      refine wpAnyH_take (i := 2) (oi := ⟨_, _, _, _, _, _⟩) (v := ?_) rfl (by kernel_rfl) (by kernel_rfl) (by kernel_rfl) (fun _ _ _ h => h) (Or.inl ⟨by rfl, ?_⟩) (by assumption) ?_
      rotate_left
      · intro wS hSw
        go_simp; (try with_reducible rfl)
      (try simp only [Act.put])
      (try simp only [List.setIfInBounds_toArray])
      (try simp only [List.set_cons_succ])
      (try simp only [List.set_cons_zero])
      refine wpAnyH_take (i := 3) (oi := ⟨_, _, _, _, _, _⟩) (v := ?_) rfl (by kernel_rfl) (by kernel_rfl) (by kernel_rfl) (fun _ _ _ h => h) (Or.inl ⟨by rfl, ?_⟩) (by assumption) ?_
      rotate_left
      · intro wS hSw
        have c := dkA_c0 hSw.1; go_simp; (try with_reducible rfl)
      (try simp only [Act.put])
      (try simp only [List.setIfInBounds_toArray])
      (try simp only [List.set_cons_succ])
      (try simp only [List.set_cons_zero])
      refine wpAnyH_take (i := 4) (oi := ⟨_, _, _, _, _, _⟩) (v := ?_) rfl (by kernel_rfl) (by kernel_rfl) (by kernel_rfl) (fun _ _ _ h => h) (Or.inl ⟨by rfl, ?_⟩) (by assumption) ?_
      rotate_left
      · intro wS hSw
        go_simp; (try with_reducible rfl)
      (try simp only [Act.put])
      (try simp only [List.setIfInBounds_toArray])
      (try simp only [List.set_cons_succ])
      (try simp only [List.set_cons_zero])
      refine wpAnyH_take (i := 5) (oi := ⟨_, _, _, _, _, _⟩) (v := ?_) rfl (by kernel_rfl) (by kernel_rfl) (by kernel_rfl) (fun _ _ _ h => h) (Or.inl ⟨by rfl, ?_⟩) (by assumption) ?_
      rotate_left
      · intro wS hSw
        go_simp; (try with_reducible rfl)
      (try simp only [Act.put])
      (try simp only [List.setIfInBounds_toArray])
      (try simp only [List.set_cons_succ])
      (try simp only [List.set_cons_zero])
      refine wpAnyH_take (i := 6) (oi := ⟨_, _, _, _, _, _⟩) (v := ?_) rfl (by kernel_rfl) (by kernel_rfl) (by kernel_rfl) (fun _ _ _ h => h) (Or.inl ⟨by rfl, ?_⟩) (by assumption) ?_
      rotate_left
      · intro wS hSw
        go_simp; (try with_reducible rfl)
      (try simp only [Act.put])
      (try simp only [List.setIfInBounds_toArray])
      (try simp only [List.set_cons_succ])
      (try simp only [List.set_cons_zero])
      refine wpAnyH_take (i := 7) (oi := ⟨_, _, _, _, _, _⟩) (v := ?_) rfl (by kernel_rfl) (by kernel_rfl) (by kernel_rfl) (fun _ _ _ h => h) (Or.inl ⟨by rfl, ?_⟩) (by assumption) ?_
      rotate_left
      · intro wS hSw
        go_simp; (try with_reducible rfl)
      (try simp only [Act.put])
      (try simp only [List.setIfInBounds_toArray])
      (try simp only [List.set_cons_succ])
      (try simp only [List.set_cons_zero])
      refine wpAnyH_take (i := 8) (oi := ⟨_, _, _, _, _, _⟩) (v := ?_) rfl (by kernel_rfl) (by kernel_rfl) (by kernel_rfl) (fun _ _ _ h => h) (Or.inl ⟨by rfl, ?_⟩) (by assumption) ?_
      rotate_left
      · intro wS hSw
        have c := dkA_c0 hSw.1; go_simp; (try with_reducible rfl)
      (try simp only [Act.put])
      (try simp only [List.setIfInBounds_toArray])
      (try simp only [List.set_cons_succ])
      (try simp only [List.set_cons_zero])
      refine wpAnyH_take (i := 9) (oi := ⟨_, _, _, _, _, _⟩) (v := ?_) rfl (by kernel_rfl) (by kernel_rfl) (by kernel_rfl) (fun _ _ _ h => h) (Or.inl ⟨by rfl, ?_⟩) (by assumption) ?_
      rotate_left
      · intro wS hSw
        go_simp; (try with_reducible rfl)
      (try simp only [Act.put])
      (try simp only [List.setIfInBounds_toArray])
      (try simp only [List.set_cons_succ])
      (try simp only [List.set_cons_zero])
      refine wpAnyH_take (i := 10) (oi := ⟨_, _, _, _, _, _⟩) (v := ?_) rfl (by kernel_rfl) (by kernel_rfl) (by kernel_rfl) (fun _ _ _ h => h) (Or.inl ⟨by rfl, ?_⟩) (by assumption) ?_
      rotate_left
      · intro wS hSw
        go_simp; (try with_reducible rfl)
      (try simp only [Act.put])
      (try simp only [List.setIfInBounds_toArray])
      (try simp only [List.set_cons_succ])
      (try simp only [List.set_cons_zero])
      refine wpAnyH_take (i := 11) (oi := ⟨_, _, _, _, _, _⟩) (v := .agg ((bys p.rest).toArray)) rfl (by kernel_rfl) (by kernel_rfl) (by kernel_rfl) (fun _ _ _ h => h) (Or.inl ⟨by rfl, fun wS hSw => ?_⟩) (by assumption) ?_
      · exact exec_ldB 216 _ ⟨_, _, _, _, _, Tryz.isAgg216, Tryz.sizeOf216, rfl, hSw.2, pl_rst hok.1⟩
      (try simp only [Act.put])
      (try simp only [List.setIfInBounds_toArray])
      (try simp only [List.set_cons_succ])
      (try simp only [List.set_cons_zero])
      refine wpAnyH_take (i := 12) (oi := ⟨_, _, _, _, _, _⟩) (v := ?_) rfl (by kernel_rfl) (by kernel_rfl) (by kernel_rfl) (fun _ _ _ h => h) (Or.inl ⟨by rfl, ?_⟩) (by assumption) ?_
      rotate_left
      · intro wS hSw
        go_simp; (try with_reducible rfl)
      (try simp only [Act.put])
      (try simp only [List.setIfInBounds_toArray])
      (try simp only [List.set_cons_succ])
      (try simp only [List.set_cons_zero])
      refine wpAnyH_take (i := 13) (oi := ⟨_, _, _, _, _, _⟩) (v := ?_) rfl (by kernel_rfl) (by kernel_rfl) (by kernel_rfl) (fun _ _ _ h => h) (Or.inl ⟨by rfl, ?_⟩) (by assumption) ?_
      rotate_left
      · intro wS hSw
        have c := pl_c128 hSw.2; go_simp; (try with_reducible rfl)
      (try simp only [Act.put])
      (try simp only [List.setIfInBounds_toArray])
      (try simp only [List.set_cons_succ])
      (try simp only [List.set_cons_zero])
      refine wpAnyH_take (i := 14) (oi := ⟨_, _, _, _, _, _⟩) (v := ?_) rfl (by kernel_rfl) (by kernel_rfl) (by kernel_rfl) (fun _ _ _ h => h) (Or.inl ⟨by rfl, ?_⟩) (by assumption) ?_
      rotate_left
      · intro wS hSw
        go_simp; (try with_reducible rfl)
      (try simp only [Act.put])
      (try simp only [List.setIfInBounds_toArray])
      (try simp only [List.set_cons_succ])
      (try simp only [List.set_cons_zero])
      refine wpAnyH_take (i := 15) (oi := ⟨_, _, _, _, _, _⟩) (v := ?_) rfl (by kernel_rfl) (by kernel_rfl) (by kernel_rfl) (fun _ _ _ h => h) (Or.inl ⟨by rfl, ?_⟩) (by assumption) ?_
      rotate_left
      · intro wS hSw
        go_simp; (try with_reducible rfl)
      (try simp only [Act.put])
      (try simp only [List.setIfInBounds_toArray])
      (try simp only [List.set_cons_succ])
      (try simp only [List.set_cons_zero])
      refine wpAnyH_ready (rs := [16]) (by kernel_rfl) (by simp) ?_
      refine AllReadyH.cons (o := ⟨_, _, _, _, _, _⟩) rfl (fun K' hK' => ?_) AllReadyH.nil
      refine (if_pos (by rfl)).mpr ?_
      refine wp_stB 216 _ _ ?_
      refine ⟨_, _, _, ⟨_, _, _, Tryz.sizeOf216, rfl, hdD.pls, pls_restS hpm p.rest hok.1⟩, ?_⟩
      intro w6 B6 g6
      have hf6 := hdD.sect B6 g6 ⟨hok.1, hom.2⟩
      have hS6 : w6.heap[g]? = some (.cells (dkA gp wv d) 175 (0, 0)) ∧ w6.heap[qx]? = some (.cells (plC p).toArray 218 (0, 0)) := ⟨tr_st g6 hS0.1 hne1, tr_st g6 hS0.2 hneX⟩
      refine hK'.out _ _ hS6 (fun _ => ?_)
      clear hK'
      (try simp only [Act.put])
      (try simp only [List.setIfInBounds_toArray])
      (try simp only [List.set_cons_succ])
      (try simp only [List.set_cons_zero])
      refine wpAnyH_take (i := 17) (oi := ⟨_, _, _, _, _, _⟩) (v := ?_) rfl (by kernel_rfl) (by kernel_rfl) (by kernel_rfl) (fun _ _ _ h => h) (Or.inl ⟨by rfl, ?_⟩) (by assumption) ?_
      rotate_left
      · intro wS hSw
        go_simp; (try with_reducible rfl)
      (try simp only [Act.put])
      (try simp only [List.setIfInBounds_toArray])
      (try simp only [List.set_cons_succ])
      (try simp only [List.set_cons_zero])
      refine wpAnyH_take (i := 18) (oi := ⟨_, _, _, _, _, _⟩) (v := ?_) rfl (by kernel_rfl) (by kernel_rfl) (by kernel_rfl) (fun _ _ _ h => h) (Or.inl ⟨by rfl, ?_⟩) (by assumption) ?_
      rotate_left
      · intro wS hSw
        go_simp; (try with_reducible rfl)
      (try simp only [Act.put])
      (try simp only [List.setIfInBounds_toArray])
      (try simp only [List.set_cons_succ])
      (try simp only [List.set_cons_zero])
      refine wpAnyH_ready (rs := [19]) (by kernel_rfl) (by simp) ?_
      refine AllReadyH.cons (o := ⟨_, _, _, _, _, _⟩) rfl (fun K' hK' => ?_) AllReadyH.nil
      refine (if_pos (by rfl)).mpr ?_
      have hpm2 : (d.pl.set m { r with rest := p.rest })[m]? = some { r with rest := p.rest } := List.getElem?_set_self hm2
      refine wp_stB 4 _ _ ?_
      refine ⟨_, _, _, ⟨_, _, _, Tryz.sizeOf4, rfl, B6, pls_part (x := .bool p.lost) hpm2 rfl (by omega) (by simp [Value.cells, Value.oneCell']) (pl_lost _ p.lost)⟩, ?_⟩
      intro w7 B7 g7
      have hf7 := hf6.1.sect B7 g7 ⟨hok.1, hom.2⟩
      refine hK'.out _ _ ⟨tr_st g7 hS6.1 hne1, tr_st g7 hS6.2 hneX⟩ (fun _ => ?_)
      clear hK'
      refine wpAnyH_done (by kernel_rfl) ?_ _
      refine HK.out _ _ ?_
      clear HK
      go_wp2
      go_ret
      simp only [List.set_set] at hf7
      exact ⟨rfl, hf7.1, (hkD.trans hf6.2).trans hf7.2⟩
    · rw [if_pos (by simpa using h1)]
      have h0b : (thereD d t != 0) = true := by simpa using h1
      generalize thereD d t = rt at *
      go_enter Tryz.func175, Tryz.ntmps175
      go_wp2_with (go_at_call 124; refine ht.mono ?_; rintro e w1 ⟨rfl, rfl⟩)
      go_ret
      exact ⟨rfl, hA, hk⟩
  · rw [if_pos (by simpa using h0)] at ht ⊢
    have h0b : (thereD d s != 0) = true := by simpa using h0
    generalize thereD d s = rs at *
    go_enter Tryz.func175, Tryz.ntmps175
    go_wp2_with (go_at_call 124; refine ht.mono ?_; rintro e w1 ⟨rfl, rfl⟩)
    go_ret
    exact ⟨rfl, hA, hk⟩
end
end Go.Proofs.YthfolocjkpiljaaGreatDoor

namespace Go.Proofs.YthfolocjkpiljaaGreatDoor
open Go.RowKit

/-- Faults as they lie in a row. -/
structure Flts (w : World) (a : Option Addr) (l : List (Nat × Nat × Nat)) : Prop where
  at_ : ∀ j (h : j < l.length), ∃ b off, a = some ⟨b, off, none⟩ ∧ w.cell? ⟨b, off + j * 3, none⟩ = some (.int .u8 (l[j].1 : Nat)) ∧ w.cell? ⟨b, off + j * 3 + 1, none⟩ = some (.int .u16 (l[j].2.1 : Nat)) ∧ w.cell? ⟨b, off + j * 3 + 2, none⟩ = some (.int .u16 (l[j].2.2 : Nat))
  bd : ∀ x ∈ l, x.1 < 256 ∧ x.2.1 < 65536 ∧ x.2.2 < 65536
theorem Flts.below {w w' : World} {a : Option Addr} {l : List (Nat × Nat × Nat)} (h : Flts w a l) (hb : Below w.heap.size w w') : Flts w' a l := ⟨fun j hj => by
  obtain ⟨b, off, e, c0, c1, c2⟩ := h.at_ j hj
  have hlt := World.block_lt_of_cell? _ _ c0
  exact ⟨b, off, e, by rw [hb.cell hlt]; exact c0, by rw [hb.cell (p := ⟨b, off + j * 3 + 1, none⟩) hlt]; exact c1, by rw [hb.cell (p := ⟨b, off + j * 3 + 2, none⟩) hlt]; exact c2⟩, h.bd⟩
section
variable {B g gp : Nat} {wv : Value} {d d0 : Dk} {w : World} {fs : List (Nat × Nat × Nat)}
set_option maxRecDepth 100000 in
set_option maxHeartbeats 1000000 in
theorem lhurt_any (hd : DiskB B g gp wv d w) (hb : B ≤ w.heap.size) (hf : Flt d0 d) (a : Option Addr) (cap : Nat) (hp : ∀ w', Kt B w w' → Flts w' a fs) (hn : fs.length ≤ 40) : Calls Tryz.prog 79 #[.pointer (some ⟨g, 0, none⟩), .slice a fs.length cap] w fun e w' => e = .returned (.tuple #[]) ∧ (∃ d', DiskB B g gp wv d' w' ∧ Flt d0 d') ∧ Kt B w w' := by
  go_enter Tryz.func79, Tryz.ntmps79
  go_wp2_with fail
  go_loopw [4, 5, 6] (fun i _ _ wr => ∃ (j : Nat) (dj : Dk), j ≤ fs.length ∧ i = .int .i64 (j : Nat) ∧ DiskB B g gp wv dj wr ∧ Flt d0 dj ∧ Kt B w wr) (fun i _ _ _ => fs.length - (intOf i).toNat)
  case atStart => exact ⟨0, d, by omega, rfl, hd, hf, Kt.refl _ _⟩
  case round =>
    clear hd hf
    obtain ⟨j, dj, hj, rfl, hD, hF, hk⟩ := hrel
    by_cases hlt : j < fs.length
    case neg =>
      obtain rfl : j = fs.length := by omega
      go_wp2
      clear hp
      exact bodyPost_end (results_none Tryz.results79 _ _ _) rfl ⟨rfl, ⟨dj, hD, hF⟩, hk⟩
    case pos =>
      have hI : (j : Int) < (fs.length : Int) := by omega
      have HJ := Lib.hid (show j + 1 ≤ fs.length by omega)
      obtain ⟨rb, ro, rfl, c0, c1, c2⟩ := (hp _ hk).at_ j hlt
      obtain ⟨b0, b1, b2⟩ := (hp _ hk).bd _ (List.getElem_mem hlt)
      generalize fs[j] = x at *
      obtain ⟨x0, x1, x2⟩ := x
      simp only at c0 c1 c2 b0 b1 b2
      go_wp2
      go_quiet (fail)
      have hbq : Below wr.heap.size wr (wr.drewN nq) := below_drewN (Below.refl _ _) nq
      have D0 := hD.below hbq
      have k0 := hk.trans (Kt.of hbq (Nat.le_trans hb hk.bl.size))
      have c0q : (wr.drewN nq).cell? ⟨rb, ro + j * 3, none⟩ = some (.int .u8 (x0 : Nat)) := by rw [hbq.cell (p := ⟨rb, ro + j * 3, none⟩) (World.block_lt_of_cell? _ _ c0)]; exact c0
      clear hD hk c0 c1 c2
      generalize wr.drewN nq = wq at *
      have hBq := Nat.le_trans hb k0.bl.size
      have hfl := flip_any D0 hBq ((x1 : Int) % 156) (x2 : Int)
      have hlo := lose_any D0 hBq ((x1 : Int) % 156)
      have hst := stray_any D0 hBq ((x1 : Int) % 156) ((x2 : Int) % 156)
      have F1 := Lib.hid (hF.flip ((x1 : Int) % 156) (x2 : Int))
      have F2 := Lib.hid (hF.lose ((x1 : Int) % 156))
      have F3 := Lib.hid (hF.stray ((x1 : Int) % 156) ((x2 : Int) % 156))
      clear D0 hbq hF
      go_wp2_with (first
        | (go_at_call 174; refine hfl.mono ?_; rintro e w1 ⟨rfl, D1, k1⟩; have G1 := F1; have k2 := k0.trans k1)
        | (go_at_call 139; refine hlo.mono ?_; rintro e w1 ⟨rfl, D1, k1⟩; have G1 := F2; have k2 := k0.trans k1)
        | (go_at_call 175; refine hst.mono ?_; rintro e w1 ⟨rfl, D1, k1⟩; have G1 := F3; have k2 := k0.trans k1))
      all_goals
        go_roundw
        case rel => exact ⟨j + 1, _, HJ.out, by go_num, D1, G1.out, k2⟩
        case measure => have := HJ.out; simp [intOf]; omega
end
end Go.Proofs.YthfolocjkpiljaaGreatDoor

namespace Go.Proofs.YthfolocjkpiljaaGreatDoor
open Go.RowKit

theorem rest_nil {d : Dk} {s : Int} (h : ¬ ((restD d s).2.2 = 0 ∧ (restD d s).2.1 = false)) : (restD d s).1 = [] := by
  unfold restD at h ⊢
  split
  · rfl
  · rename_i h0
    rw [if_neg h0] at h
    split
    · rfl
    · rename_i h1
      rw [if_neg h1] at h
      exact absurd ⟨rfl, rfl⟩ h
theorem meant_nil {d : Dk} {s : Int} (h : ¬ (meantD d s).2 = 0) : (meantD d s).1 = [] := by
  unfold meantD at h ⊢
  split
  · rfl
  · rename_i h0
    rw [if_neg h0] at h
    exact absurd rfl h
theorem owns64 {w : World} {base : Nat} {a : Option Addr} {c : Nat} {l : List UInt8} (h : w.ownsRow base 5 1 (.slice a 64 c) 64 (bys l)) : l.length = 64 ∧ SlB w a c l := by
  have hl : l.length = 64 := by
    have := h.1
    rw [bys_len] at this
    omega
  rw [← hl] at h
  obtain ⟨a', c', e, hs⟩ := SlB.of_owns h
  injection e with e1 e2 e3
  subst e1 e3
  exact ⟨hl, hs⟩
theorem slb_nil (w : World) : SlB w none 0 [] := ⟨.inl rfl, Nat.le_refl _, by simp, fun _ => rfl⟩
theorem RestRes.slb {base : Nat} {d : Dk} {s : Int} {e : Ending} {w' : World} (h : RestRes base (restD d s) e w') : ∃ a c, e = .returned (.tuple #[.slice a (restD d s).1.length c, .bool (restD d s).2.1, .int .i64 (restD d s).2.2]) ∧ SlB w' a c (restD d s).1 := by
  have hn := @rest_nil d s
  generalize restD d s = r at *
  unfold RestRes at h
  split at h
  · rename_i h0
    obtain ⟨a, c, he, ho⟩ := h
    obtain ⟨h1, h2⟩ := owns64 ho
    refine ⟨a, c, ?_, h2⟩
    rw [he, h1, h0.1, h0.2]
  · rename_i h0
    have := hn h0
    rw [this]
    exact ⟨none, 0, h, slb_nil w'⟩
theorem ReadRes.slb {base : Nat} {r : List UInt8 × Int} {e : Ending} {w' : World} (h : ReadRes base r e w') (hn : ¬ r.2 = 0 → r.1 = []) : ∃ a c, e = .returned (.tuple #[.slice a r.1.length c, .int .i64 r.2]) ∧ SlB w' a c r.1 := by
  unfold ReadRes at h
  split at h
  · rename_i h0
    obtain ⟨a, c, he, ho⟩ := h
    obtain ⟨h1, h2⟩ := owns64 ho
    refine ⟨a, c, ?_, h2⟩
    rw [he, h1, h0]
  · rename_i h0
    rw [hn h0]
    exact ⟨none, 0, h, slb_nil w'⟩
section
variable {B g gp : Nat} {wv : Value} {d : Dk} {w : World}
theorem rest_sl (h : DiskB B g gp wv d w) (s : Int) : Calls Tryz.prog 41 #[.pointer (some ⟨g, 0, none⟩), .int .i64 s] w fun e w' => (∃ a c, e = .returned (.tuple #[.slice a (restD d s).1.length c, .bool (restD d s).2.1, .int .i64 (restD d s).2.2]) ∧ SlB w' a c (restD d s).1) ∧ Below w.heap.size w w' :=
  (rest_any h s).mono fun _ _ hh => ⟨hh.1.slb, hh.2⟩
theorem meant_sl (h : DiskB B g gp wv d w) (s : Int) : Calls Tryz.prog 104 #[.pointer (some ⟨g, 0, none⟩), .int .i64 s] w fun e w' => (∃ a c, e = .returned (.tuple #[.slice a (meantD d s).1.length c, .int .i64 (meantD d s).2]) ∧ SlB w' a c (meantD d s).1) ∧ Below w.heap.size w w' :=
  (meant_any h s).mono fun _ _ hh => ⟨hh.1.slb meant_nil, hh.2⟩
set_option maxRecDepth 100000 in
theorem is_any (h : DiskB B g gp wv d w) (q : Nat) (hq : w.cell? ⟨q, 0, none⟩ = some (.pointer (some ⟨g, 0, none⟩))) (s : Int) : Calls Tryz.prog 192 #[.int .i64 s, .pointer (some ⟨q, 0, none⟩)] w fun e w' => e = .returned (.bool (hurtB d s)) ∧ Below w.heap.size w w' := by
  have hr := rest_sl h s
  unfold hurtB
  obtain ⟨l, lost, er, hre⟩ : ∃ l lost er, restD d s = (l, lost, er) := ⟨_, _, _, rfl⟩
  obtain ⟨m, em, hme⟩ : ∃ m em, meantD d s = (m, em) := ⟨_, _, rfl⟩
  rw [hre] at hr ⊢
  rw [hme]
  have HM := Lib.hid hme
  clear hre hme
  simp only at hr ⊢
  by_cases he : er = 0
  · subst he
    cases lost
    · simp only [decide_true, Bool.true_and, Bool.false_or]
      go_enter Tryz.func192, Tryz.ntmps192
      go_wp2_with (first
        | (go_at_call 41; refine hr.mono ?_; rintro e w1 ⟨⟨a1, c1, rfl, s1⟩, hb1⟩; have hm := meant_sl (h.below hb1) s; rw [HM.out] at hm; have hq1 := cell_later hb1 hq)
        | (go_at_call 104; refine hm.mono ?_; rintro e w2 ⟨⟨a2, c2, rfl, s2⟩, hb2⟩; have hr1 := s1.row.below0 hb2; have hr2 := s2.row)
        | (go_at_call 193; refine (equal_any a1 a2 c1 c2 l m _ hr1 hr2).mono ?_; rintro e w3 ⟨rfl, rfl⟩))
      go_ret
      exact ⟨rfl, hb1.trans (hb2.mono hb1.size)⟩
    · simp only [decide_true, Bool.true_and, Bool.true_or]
      go_enter Tryz.func192, Tryz.ntmps192
      go_wp2_with (first
        | (go_at_call 41; refine hr.mono ?_; rintro e w1 ⟨⟨a1, c1, rfl, s1⟩, hb1⟩; have hm := meant_sl (h.below hb1) s; rw [HM.out] at hm; have hq1 := cell_later hb1 hq)
        | (go_at_call 104; refine hm.mono ?_; rintro e w2 ⟨⟨a2, c2, rfl, s2⟩, hb2⟩; have hr1 := s1.row.below0 hb2; have hr2 := s2.row)
        | (go_at_call 193; refine (equal_any a1 a2 c1 c2 l m _ hr1 hr2).mono ?_; rintro e w3 ⟨rfl, rfl⟩))
      go_ret
      exact ⟨rfl, hb1.trans (hb2.mono hb1.size)⟩
  · have e1 : (er == 0) = false := by rw [beq_eq_false_iff_ne]; exact he
    rw [decide_eq_false he, Bool.false_and]
    clear he
    go_enter Tryz.func192, Tryz.ntmps192
    go_wp2_with (first
      | (go_at_call 41; refine hr.mono ?_; rintro e w1 ⟨⟨a1, c1, rfl, s1⟩, hb1⟩; have hm := meant_sl (h.below hb1) s; rw [HM.out] at hm; have hq1 := cell_later hb1 hq)
      | (go_at_call 104; refine hm.mono ?_; rintro e w2 ⟨⟨a2, c2, rfl, s2⟩, hb2⟩; have hr1 := s1.row.below0 hb2; have hr2 := s2.row)
      | (go_at_call 193; refine (equal_any a1 a2 c1 c2 l m _ hr1 hr2).mono ?_; rintro e w3 ⟨rfl, rfl⟩))
    go_ret
    exact ⟨rfl, hb1.trans (hb2.mono hb1.size)⟩
end
end Go.Proofs.YthfolocjkpiljaaGreatDoor

namespace Go.Proofs.YthfolocjkpiljaaGreatDoor
open Go.RowKit Go.Shelf

theorem hurtsL_pre (d : Dk) {f k t : Nat} (h1 : f ≤ k) (h2 : k ≤ t) : hurtsL d f k <+: hurtsL d f t := by
  unfold hurtsL rangeI
  refine List.IsPrefix.filter _ (List.IsPrefix.map _ ?_)
  refine ⟨List.range' k (t - k), ?_⟩
  have := List.range'_append_1 (s := f) (m := k - f) (n := t - k)
  rw [show f + (k - f) = k by omega, show k - f + (t - k) = t - f by omega] at this
  exact this
/-- What hurts lays: four boxes. -/
structure HuB (pa : Option Addr) (m f t : Nat) (w : World) : Prop where
  c0 : w.cell? ⟨m, 0, none⟩ = some (.pointer pa)
  c1 : w.cell? ⟨m + 1, 0, none⟩ = some (.int .i64 (f : Int))
  c2 : w.cell? ⟨m + 2, 0, none⟩ = some (.int .i64 (t : Int))
  c3 : w.cell? ⟨m + 3, 0, none⟩ = some (.func (.func 192) #[] #[.pointer (some ⟨m, 0, none⟩)])
theorem cell_bx {n m k : Nat} {w w' : World} {v : Value} (h : KpH n m w w') (h1 : m ≤ k) (h2 : k < m + 4) (hc : w.cell? ⟨k, 0, none⟩ = some v) : w'.cell? ⟨k, 0, none⟩ = some v := by
  unfold World.cell? at hc ⊢
  simp only at hc ⊢
  rw [h.bx k h1 h2]
  exact hc
theorem HuB.kp {pa : Option Addr} {m f t n : Nat} {w w' : World} (h : HuB pa m f t w) (hk : KpH n m w w') : HuB pa m f t w' :=
  ⟨cell_bx hk (by omega) (by omega) h.c0, cell_bx hk (by omega) (by omega) h.c1, cell_bx hk (by omega) (by omega) h.c2, cell_bx hk (by omega) (by omega) h.c3⟩
theorem HuB.below {pa : Option Addr} {m f t : Nat} {w w' : World} (h : HuB pa m f t w) (hb : Below w.heap.size w w') : HuB pa m f t w' :=
  ⟨cell_later hb h.c0, cell_later hb h.c1, cell_later hb h.c2, cell_later hb h.c3⟩
theorem fn_new (f : Fn) (ts lb : Array Value) : (Value.func f ts lb).cells = #[.func f ts lb] ∧ (#[Value.func f ts lb]).size = 1 ∧ ∀ u ∈ (#[Value.func f ts lb]).toList, u.oneCell' = true := ⟨rfl, rfl, by simp [Value.oneCell']⟩
set_option maxRecDepth 100000 in
theorem hurts_any (pa : Option Addr) (f t : Nat) (w : World) : Calls Tryz.prog 92 #[.pointer pa, .int .i64 (f : Int), .int .i64 (t : Int)] w fun e w' =>
    e = .returned (.func (.func 194) #[] #[.pointer (some ⟨w.heap.size + 1, 0, none⟩), .pointer (some ⟨w.heap.size + 2, 0, none⟩), .pointer (some ⟨w.heap.size + 3, 0, none⟩)]) ∧ HuB pa w.heap.size f t w' ∧ w'.heap.size = w.heap.size + 4 ∧ Below w.heap.size w w' := by
  go_enter Tryz.func92, Tryz.ntmps92
  refine wp_seq_k (fun K hK => ?_)
  have HK := Lib.hid hK
  clear hK
  go_wp2
  refine HK.out _ _ ?_
  clear HK
  have hb1 := blw w (Obj.cells #[.pointer pa] 24)
  have hb2 := hb1.alloc (by simp) (Obj.cells #[.int .i64 (f : Int)] 3)
  have hb3 := hb2.alloc (by simp; omega) (Obj.cells #[.int .i64 (t : Int)] 3)
  have d0 : (((w.alloc (Obj.cells #[.pointer pa] 24)).alloc (Obj.cells #[.int .i64 (f : Int)] 3)).alloc (Obj.cells #[.int .i64 (t : Int)] 3)).cell? ⟨w.heap.size, 0, none⟩ = some (.pointer pa) := by go_simp
  have d1 : (((w.alloc (Obj.cells #[.pointer pa] 24)).alloc (Obj.cells #[.int .i64 (f : Int)] 3)).alloc (Obj.cells #[.int .i64 (t : Int)] 3)).cell? ⟨w.heap.size + 1, 0, none⟩ = some (.int .i64 (f : Int)) := by go_simp
  have d2 : (((w.alloc (Obj.cells #[.pointer pa] 24)).alloc (Obj.cells #[.int .i64 (f : Int)] 3)).alloc (Obj.cells #[.int .i64 (t : Int)] 3)).cell? ⟨w.heap.size + 2, 0, none⟩ = some (.int .i64 (t : Int)) := by go_simp
  have hs : (((w.alloc (Obj.cells #[.pointer pa] 24)).alloc (Obj.cells #[.int .i64 (f : Int)] 3)).alloc (Obj.cells #[.int .i64 (t : Int)] 3)).heap.size = w.heap.size + 3 := by simp
  generalize (((w.alloc (Obj.cells #[.pointer pa] 24)).alloc (Obj.cells #[.int .i64 (f : Int)] 3)).alloc (Obj.cells #[.int .i64 (t : Int)] 3)) = w3 at *
  have HS := Lib.hid hs
  clear hs
  refine wp_seq_k (fun K hK => ?_)
  have HK := Lib.hid hK
  clear hK
  go_wp2_with ((first | (with_reducible refine wpList_stNew 220 _ _ ?_) | (with_reducible refine wp_stNew 220 _ _ ?_)); refine ⟨_, _, ⟨Tryz.sizeOf220, rfl, fn_new _ _ _⟩, rfl, ?_⟩)
  refine HK.out _ _ ?_
  clear HK
  have c3 := blk_cell (heap_alloc_new w3 (Obj.cells #[.func (.func 192) #[] #[.pointer (some ⟨w.heap.size, 0, none⟩)]] 220)) 0 _ rfl
  rw [HS.out] at c3
  have hb4 := blw w3 (Obj.cells #[.func (.func 192) #[] #[.pointer (some ⟨w.heap.size, 0, none⟩)]] 220)
  have hz := HS.out
  have HC := Lib.hid c3
  clear c3
  go_wp2
  go_ret
  exact ⟨rfl, ⟨cell_later hb4 d0, cell_later hb4 d1, cell_later hb4 d2, HC.out⟩, by simp; omega, hb3.alloc (by omega) _⟩
section
variable {B g gp : Nat} {wv : Value} {d : Dk} {wc : World}
set_option maxRecDepth 100000 in
set_option maxHeartbeats 1000000 in
theorem hurts_in (h : DiskB B g gp wv d wc) (f t m l : Nat) (ht : t ≤ 100000) (hf : f ≤ t) (J Jx : List Int → World → Prop) (W : World) (hm : wc.heap.size ≤ W.heap.size) (hm4 : m + 4 ≤ W.heap.size) (hB : Below wc.heap.size wc W) (hq : HuB (some ⟨g, 0, none⟩) m f t W) (hJ : AbidesFrom W.heap.size J)
    (hY : ∀ pre x W1, J pre W1 → pre.length < t → YieldAt Fence.wide 1 Tryz.prog l #[.int .i64 x] W1 fun e W' => (e = .returned (.bool true) ∧ J (pre ++ [x]) W' ∧ KpH wc.heap.size m W1 W') ∨ (e = .returned (.bool false) ∧ Jx (pre ++ [x]) W')) (h0 : J [] W) :
    CallsIn Fence.wide 2 Tryz.prog 194 (#[.func (.yield l) #[] #[]] ++ #[.pointer (some ⟨m + 1, 0, none⟩), .pointer (some ⟨m + 2, 0, none⟩), .pointer (some ⟨m + 3, 0, none⟩)]) W fun e W' => (∃ v, e = .returned v) ∧ ((∃ xs, xs = hurtsL d f t ∧ J xs W') ∨ (∃ pre, (pre <+: hurtsL d f t ∧ pre ≠ []) ∧ Jx pre W')) := by
  refine callsIn_of_wp Tryz.func194 rfl trivial ?_ rfl
  simp only [Tryz.ntmps194, List.size_toArray, List.length_cons, List.length_nil, Nat.reduceAdd, Nat.reduceSub, Array.replicate_succ, Array.replicate_zero, List.push_toArray, List.append_toArray, List.nil_append, List.cons_append]
  have c1 := hq.c1
  gi_wp2
  gi_loopw [5] (fun i wr => ∃ k : Nat, f ≤ k ∧ k ≤ t ∧ i = .int .i64 k ∧ J (hurtsL d f k) wr ∧ KpH wc.heap.size m W wr)
    (fun i _ => t - (intOf i).toNat)
  case atStart => exact ⟨f, Nat.le_refl _, hf, rfl, by rw [hurtsL_self]; exact h0, ⟨Below.refl _ _, fun _ _ _ => rfl⟩⟩
  case round =>
    obtain ⟨k, hk1, hk2, rfl, hJs, hKr⟩ := hrel
    have hqr := hq.kp hKr
    have c2 := hqr.c2
    have c3 := hqr.c3
    have hdr := h.below (hB.trans hKr.bl)
    have his := is_any hdr m hqr.c0 (k : Int)
    by_cases hlt : k < t
    · cases hb : hurtB d (k : Int)
      case true =>
        rw [hb] at his
        have hll := hurtsL_len d f k
        have hYk := fun W1 (hj : J (hurtsL d f k) W1) => hY _ (k : Int) W1 hj (by omega)
        gi_wp2_with (refine ⟨trivial, ?_⟩; gi_at_call 192; refine (callsIn_wide.2 his).mono ?_; rintro e w3 ⟨rfl, hb3⟩; have hk3 := KpH.below (n := wc.heap.size) (m := m) hb3 (by have := hKr.bl.size; omega) (by have := hKr.bl.size; omega); obtain ⟨fn, tmps, assign, body, hy, hR⟩ := hYk w3 (abides_bl hJ hJs hb3))
        refine hR.mono ?_
        rintro e W3 (⟨rfl, hJ3, hk4⟩ | ⟨rfl, hJx3⟩)
        · gi_wp2
          go_roundw
          case rel => exact ⟨k + 1, by omega, by omega, by go_num, by rw [hurtsL_yes hk1 hb]; exact hJ3, (hKr.trans hk3).trans hk4⟩
          case measure => simp [intOf]; omega
        · gi_wp2
          refine bodyPost_ret (results_none rfl _ _ _) rfl ?_
          exact ⟨⟨_, rfl⟩, .inr ⟨_, ⟨by rw [← hurtsL_yes hk1 hb]; exact hurtsL_pre d (by omega) (by omega), by simp⟩, hJx3⟩⟩
      case false =>
        rw [hb] at his
        gi_wp2_with (refine ⟨trivial, ?_⟩; gi_at_call 192; refine (callsIn_wide.2 his).mono ?_; rintro e w3 ⟨rfl, hb3⟩)
        refine ⟨fun _ h => (by cases h), ?_⟩
        gi_wp2
        have hk3 := KpH.below (n := wc.heap.size) (m := m) hb3 (by have := hKr.bl.size; omega) (by have := hKr.bl.size; omega)
        go_roundw
        case rel => exact ⟨k + 1, by omega, by omega, by go_num, by rw [hurtsL_no hk1 hb]; exact abides_bl hJ hJs hb3, hKr.trans hk3⟩
        case measure => simp [intOf]; omega
    · obtain rfl : k = t := by omega
      gi_wp2
      go_end0
      exact ⟨⟨_, rfl⟩, .inl ⟨_, rfl, hJs⟩⟩
end
end Go.Proofs.YthfolocjkpiljaaGreatDoor

namespace Go.Proofs.YthfolocjkpiljaaGreatDoor
open Go.RowKit Go.Shelf

attribute [local go_sem] Oper.semAt_some

theorem box_app {W w1 : World} {n₀ n1 B m : Nat} {t e : TypeId} {size : Nat} {v v' : Value} {k k' : Nat} {xs ys : List Value} {tmp : Obj}
    (hv : Boxed W B t v) (hte : t ≠ e) (hrow : W.ownsRow n1 e size v k xs) (hn1 : n1 ≤ W.heap.size) (hB : n₀ ≤ B) (hm : B < m) (hm4 : m + 4 ≤ n1)
    (hown' : w1.ownsRow n1 e size v' k' ys) (hgrow : (W.alloc tmp).grownBy w1 v.ownBlock) :
    Boxed w1 B t v ∧ Boxed (w1.setCell ⟨B, 0, none⟩ v') B t v' ∧ (w1.setCell ⟨B, 0, none⟩ v').ownsRow n1 e size v' k' ys ∧ KeepsOthers W (w1.setCell ⟨B, 0, none⟩ v') ∧ KpH n₀ m W (w1.setCell ⟨B, 0, none⟩ v') := by
  obtain ⟨h1, h2, _, h4, h5⟩ := hv.appended hte (owns_mono hrow (show n₀ ≤ n1 by omega)) (by omega) hB (owns_mono hown' (show n₀ ≤ n1 by omega)) hgrow
  refine ⟨h1, h2, hown'.kept (grownBy_setCell' w1 B v') (.inr (h1.not_row hte hown').symm), h4, h5, fun k hk1 hk2 => ?_⟩
  have hkw : k < W.heap.size := by omega
  have e1 : (w1.setCell ⟨B, 0, none⟩ v').heap[k]? = w1.heap[k]? := Below.heap_setCell _ _ _ k (by simp only; omega)
  have e2 : w1.heap[k]? = (W.alloc tmp).heap[k]? := hgrow.block k (by simp; omega) (fun e => by
    rcases hrow.2 with ⟨rfl, _⟩ | ⟨g, cap, cur, rfl, hg, _⟩
    · simp [Value.ownBlock] at e
    · simp [Value.ownBlock] at e
      omega)
  exact e1.trans (e2.trans (Below.heap_alloc W tmp k hkw))
theorem infoI : (Tryz.prog.info? 3).map (fun i => (i.zero, i.size, i.bytes)) = some (some (.int .i64 0), 1, 8) := by kernel_rfl
section
variable {B g gp : Nat} {wv : Value} {d : Dk} {w wc : World}
theorem hurts_stops (h : DiskB B g gp wv d wc) (f t m : Nat) (ht : t ≤ 100000) (hf : f ≤ t) {w : World} (hm : wc.heap.size ≤ w.heap.size) (hm4 : m + 4 ≤ w.heap.size) (hB : Below wc.heap.size wc w) (hq : HuB (some ⟨g, 0, none⟩) m f t w) :
    SeqStopsK Fence.wide 2 Tryz.prog 194 #[.pointer (some ⟨m + 1, 0, none⟩), .pointer (some ⟨m + 2, 0, none⟩), .pointer (some ⟨m + 3, 0, none⟩)] (fun x : Int => #[Value.int .i64 x]) (KpH wc.heap.size m) (fun xs => xs = hurtsL d f t) (fun pre => pre <+: hurtsL d f t ∧ pre ≠ []) t w :=
  fun l J Jx W hW hJ _ hY h0 => hurts_in h f t m l ht hf J Jx W (Nat.le_trans hm hW.size) (Nat.le_trans hm4 hW.size) (hB.trans (hW.mono hm)) (hq.below hW) hJ hY h0
set_option maxRecDepth 100000 in
set_option maxHeartbeats 1000000 in
theorem hurt_any (h : DiskB B g gp wv d w) : Calls Tryz.prog 18 #[.pointer (some ⟨g, 0, none⟩)] w fun e w' => (∃ a c, e = .returned (.slice a (hurtsL d 0 d.pl.length).length c) ∧ Row w' a ((hurtsL d 0 d.pl.length).map (Value.int .i64))) ∧ Below w.heap.size w w' := by
  obtain ⟨i0, hi, hz0, hz1, hz2⟩ := info_parts infoI
  have hbA := blw w (Obj.cells #[.slice none 0 0] 41)
  have hA := h.below hbA
  have hsz := dsize hA
  have hnl := h.nl
  have hhu := hurts_any (some ⟨g, 0, none⟩) 0 d.pl.length (w.alloc (Obj.cells #[.slice none 0 0] 41))
  simp only [Int.natCast_zero] at hhu
  refine calls_marks Tryz.func18 rfl ?_
  simp only [Tryz.ntmps18, List.size_toArray, List.length_cons, List.length_nil, Nat.reduceAdd, Nat.reduceSub, Array.replicate_succ, Array.replicate_zero, List.push_toArray, List.append_toArray, List.nil_append, List.cons_append]
  have bO := Boxed.new w 41 (.slice none 0 0)
  go_wp2_with (first
    | (go_at_call 93; refine hsz.mono ?_; rintro e w1 ⟨rfl, rfl⟩)
    | (go_at_call 92; refine hhu.mono ?_; rintro e w2 ⟨rfl, hq, hsz2, hb2⟩; have HSZ := Lib.hid hsz2; clear hsz2))
  have bO2 : Boxed w2 w.heap.size 41 (.slice none 0 0) := tr_bl hb2 bO
  rw [World.size_alloc] at hq hb2
  have hz : w.heap.size + 5 ≤ w2.heap.size := by have := HSZ.out; rw [World.size_alloc] at this; omega
  have hB2 : Below w.heap.size w w2 := hbA.trans (hb2.mono (by omega))
  clear hb2 hhu hsz hbA bO HSZ
  refine wp_range (gf := 194) rfl (enters_of Tryz.func194 (by kernel_rfl) rfl) (hurts_stops h 0 d.pl.length (w.heap.size + 1) (by omega) (by omega) hB2.size (by omega) hB2 hq) KpH.trans (KpH.put hB2.size (by omega)) (fun _ => rfl)
    (fun (pre : List Int) W => (∃ v, Boxed W w.heap.size 41 v ∧ W.ownsRow w2.heap.size 3 1 v pre.length (pre.map (Value.int .i64)) ∧ True) ∧ Below w.heap.size w W ∧ w2.heap.size ≤ W.heap.size)
    (fun _ _ _ => False)
    (OwnFrom.and (Own.from (holdsRow_own w2.heap.size w.heap.size 41 3 1 (fun (pre : List Int) => pre.length) (fun (pre : List Int) => pre.map (Value.int .i64)) (fun _ _ => True)) _) (OwnFrom.and (ownFrom_below (Nat.le_refl _) hB2.size) (fun _ _ _ _ hs hg _ => Nat.le_trans hs hg.size)))
    (fun _ _ _ _ _ hs _ _ => hs)
    ⟨⟨_, bO2, World.ownsRow_nil _ _ _ _, trivial⟩, hB2, Nat.le_refl _⟩
    (fun x => { tmps := #[.pointer (some ⟨g, 0, none⟩), undef, .slice none 0 0, .pointer (some ⟨w.heap.size, 0, none⟩), .int .i64 x, .pointer (some ⟨g, 0, none⟩), .pointer (some ⟨g, 0, none⟩), .int .i64 d.pl.length, .func (.func 194) #[] #[.pointer (some ⟨w.heap.size + 1 + 1, 0, none⟩), .pointer (some ⟨w.heap.size + 1 + 2, 0, none⟩), .pointer (some ⟨w.heap.size + 1 + 3, 0, none⟩)], .int .i64 x, undef, undef, undef, undef, undef], defers := [] }) ?assign ?body ?done ?stop
  case assign =>
    intro l x W K hK
    gi_wp2
    exact hK
  case body =>
    rintro l pre x W ⟨⟨v, hv, hrow, _⟩, hB, hsW⟩ hlt
    have hc := hv.cell
    gi_wp2_with (gi_at_builtin; refine wpListIn_append_own _ rfl _ _ 41 rfl w2.heap.size 3 i0 (.int .i64 0) 1 8 Tryz.underlying41 hi hz0 hz1 hz2 rfl (by decide) _ _ _ rfl (hrow.alloc _) ⟨W.heap.size, 0, none⟩ 1 1 [.int .i64 x] rfl rfl (cell_one_new _ _ _) (by simp [Value.oneCell']) (by simp [maxLen]; omega) (by omega) (by simp; omega) ?_; intro v' w1 hown' hgrow _; obtain ⟨g', cap', rfl⟩ := ownsRow_succ hown'; obtain ⟨hv1, hv2, hr2, hk2, hb2⟩ := box_app (n₀ := w.heap.size) (m := w.heap.size + 1) hv (by decide) hrow hsW (Nat.le_refl _) (by omega) (by omega) hown' hgrow; have hc1 := hv1.cell; have hf1 := hv1.frozen)
    exact ⟨hk2.from _, hb2, ⟨_, hv2, by simpa using hr2, trivial⟩, hB.trans hb2.bl, Nat.le_trans hsW hk2.size⟩
  case done =>
    rintro D ys W hD rfl ⟨⟨v, hv, hrow, _⟩, hB, hsW⟩ hK
    have hc := hv.cell
    go_wp2
    refine marks_ret hK (results_tmp rfl _ _ _) ?_
    have hro := ownsRow_putObj hrow (Obj.deferred none) hK rfl
    have hlen : (hurtsL d 0 d.pl.length).length = (hurtsL d 0 d.pl.length).length := rfl
    obtain ⟨a, c, rfl, hR, _⟩ := Row.of_owns hro
    exact ⟨⟨a, c, rfl, hR⟩, below_mark hB (by omega)⟩
  case stop =>
    rintro D c pre W _ _ h _
    exact h.elim
end
end Go.Proofs.YthfolocjkpiljaaGreatDoor

namespace Go.Proofs.YthfolocjkpiljaaGreatDoor
open Go.RowKit

set_option maxRecDepth 100000 in
theorem asked_any (p : Value) (n : Nat) (w : World) (h : DiskN w p n) (rep reg pla : Int) : Calls Tryz.prog 95 #[p, .int .i64 rep, .int .i64 reg, .int .i64 pla] w fun e w' => e = .returned (.int .i64 (askN n rep reg pla)) ∧ Below w.heap.size w w' := by
  have hsz := size_any p n w h
  have hf := first_any reg pla
  unfold askN
  generalize firstN reg pla = x at *
  by_cases h0 : n = 0
  · subst h0
    rw [if_pos rfl]
    go_enter Tryz.func95, Tryz.ntmps95
    go_wp2_with (first
      | (go_at_call 93; refine hsz.mono ?_; rintro e w1 ⟨rfl, rfl⟩)
      | (go_at_call 127; refine (all_any _).mono ?_; rintro e w2 ⟨rfl, hb2⟩)
      | (go_at_call 89; refine (hf _).mono ?_; rintro e w3 ⟨rfl, hb3⟩))
    go_ret
    exact ⟨rfl, Below.refl _ _⟩
  · rw [if_neg h0]
    have e0 : ((n : Int) == 0) = false := by rw [beq_eq_false_iff_ne]; omega
    by_cases h1 : n < 156
    · rw [if_pos (.inl h1)]
      have i1 : (n : Int) < 156 := by omega
      clear h0 h1
      go_enter Tryz.func95, Tryz.ntmps95
      go_wp2_with (first
        | (go_at_call 93; refine hsz.mono ?_; rintro e w1 ⟨rfl, rfl⟩)
        | (go_at_call 127; refine (all_any _).mono ?_; rintro e w2 ⟨rfl, hb2⟩)
        | (go_at_call 89; refine (hf _).mono ?_; rintro e w3 ⟨rfl, hb3⟩))
      go_ret
      exact ⟨rfl, hb2⟩
    · have i1 : ¬ (n : Int) < 156 := by omega
      by_cases h2 : rep < 0
      · rw [if_pos (.inr (.inl h2))]
        clear h0 h1
        go_enter Tryz.func95, Tryz.ntmps95
        go_wp2_with (first
          | (go_at_call 93; refine hsz.mono ?_; rintro e w1 ⟨rfl, rfl⟩)
          | (go_at_call 127; refine (all_any _).mono ?_; rintro e w2 ⟨rfl, hb2⟩)
          | (go_at_call 89; refine (hf _).mono ?_; rintro e w3 ⟨rfl, hb3⟩))
        go_ret
        exact ⟨rfl, hb2⟩
      · by_cases h3 : 7 ≤ rep
        · rw [if_pos (.inr (.inr (.inl h3)))]
          clear h0 h1
          go_enter Tryz.func95, Tryz.ntmps95
          go_wp2_with (first
            | (go_at_call 93; refine hsz.mono ?_; rintro e w1 ⟨rfl, rfl⟩)
            | (go_at_call 127; refine (all_any _).mono ?_; rintro e w2 ⟨rfl, hb2⟩)
            | (go_at_call 89; refine (hf _).mono ?_; rintro e w3 ⟨rfl, hb3⟩))
          go_ret
          exact ⟨rfl, hb2⟩
        · by_cases h4 : x < 0
          · rw [if_pos (.inr (.inr (.inr h4)))]
            clear h0 h1
            have hf := fun w => hf w
            go_enter Tryz.func95, Tryz.ntmps95
            go_wp2_with (first
              | (go_at_call 93; refine hsz.mono ?_; rintro e w1 ⟨rfl, rfl⟩)
              | (go_at_call 127; refine (all_any _).mono ?_; rintro e w2 ⟨rfl, hb2⟩)
              | (go_at_call 89; refine (hf _).mono ?_; rintro e w3 ⟨rfl, hb3⟩))
            go_ret
            exact ⟨rfl, hb2.trans (hb3.mono hb2.size)⟩
          · rw [if_neg (by omega)]
            clear h0 h1
            go_enter Tryz.func95, Tryz.ntmps95
            go_wp2_with (first
              | (go_at_call 93; refine hsz.mono ?_; rintro e w1 ⟨rfl, rfl⟩)
              | (go_at_call 127; refine (all_any _).mono ?_; rintro e w2 ⟨rfl, hb2⟩)
              | (go_at_call 89; refine (hf _).mono ?_; rintro e w3 ⟨rfl, hb3⟩))
            go_ret
            exact ⟨rfl, hb2.trans (hb3.mono hb2.size)⟩
end Go.Proofs.YthfolocjkpiljaaGreatDoor

