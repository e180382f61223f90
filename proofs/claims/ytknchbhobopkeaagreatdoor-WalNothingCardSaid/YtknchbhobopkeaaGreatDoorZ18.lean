/- Texts that the claim leans on, part 18: X17, G8, N1, N3, N0, N4, V10, A2. -/
import Derived.Test.YtknchbhobopkeaaGreatDoorZ1
import Derived.Test.YtknchbhobopkeaaGreatDoorZ2
import Derived.Test.YtknchbhobopkeaaGreatDoorZ3
import Derived.Test.YtknchbhobopkeaaGreatDoorZ4
import Derived.Test.YtknchbhobopkeaaGreatDoorZ5
import Derived.Test.YtknchbhobopkeaaGreatDoorZ6
import Derived.Test.YtknchbhobopkeaaGreatDoorZ7
import Derived.Test.YtknchbhobopkeaaGreatDoorZ8
import Derived.Test.YtknchbhobopkeaaGreatDoorZ9
import Derived.Test.YtknchbhobopkeaaGreatDoorZ10
import Derived.Test.YtknchbhobopkeaaGreatDoorZ11
import Derived.Test.YtknchbhobopkeaaGreatDoorZ12
import Derived.Test.YtknchbhobopkeaaGreatDoorZ13
import Derived.Test.YtknchbhobopkeaaGreatDoorZ14
import Derived.Test.YtknchbhobopkeaaGreatDoorZ15
import Derived.Test.YtknchbhobopkeaaGreatDoorZ16
import Derived.Test.YtknchbhobopkeaaGreatDoorZ17
import Derived.Test.YtknchbhobopkeaaGreatDoorRows
import Derived.WalkKit
import Derived.WalkSpells
import Derived.WalkLawsBesides
import Derived.Handy
import Derived.Deep.QuietTactic
import Derived.BigQuiet
import Derived.Deep.DeepCutAuto
import Derived.Lib.Hide
import Derived.RegionTactic
import Derived.ChangeAlike
import Derived.Laws.ResultCell
import Derived.Outline
import Derived.IntWalk
import Derived.RangeFuncNested
import Derived.RangeFuncBound
import Derived.RangeFuncCalls
import Derived.RangeFuncLeaves
import Derived.RangeFuncBox
import Derived.RangeFuncRecord
import Derived.Shelf.Abstract
import Derived.Shelf.RegionOpen
import Derived.OwnWalkIn
import Derived.TacticsInMore
import Derived.LoopNIn
import Derived.LoopIn
import Derived.Maps.AppendAt
import Derived.Maps.OwnIn
import Derived.Laws.IdiomStrings
import Derived.Laws.BytesArg
import Derived.LoopN
import Derived.ChangeSlices
import Derived.ProofKit
import Derived.Deep.Slices
import Derived.Deep.Strs
import Derived.OpenShut
import Derived.Lib.SmallJoins
import Derived.Laws.MakeOwn
import Derived.Lib.SliceRun
import Derived.Laws.BitsAllLaws
import Derived.Great.BuildSlice
import Derived.Great.FillDense
import Derived.Laws.Rows
import Derived.Deep.Quiet
import Derived.Deep.RegionHeld3
import Derived.Lib.AppendStr
import Derived.Laws.Strings
import Derived.Laws.CopyOwn
import Derived.Laws.CopyRow
import Derived.Laws.NewBlocks
import Derived.Deep.RegionLaw
namespace Go.Proofs.YtknchbhobopkeaaGreatDoor
structure Flt (d d' : Dk) : Prop where
  live : Live d'
  left : d'.left = d.left
  mt : ∀ j : Int, meantD d' j = meantD d j
section
variable {d d' : Dk}
theorem Flt.refl (h : Live d) : Flt d d := ⟨h, rfl, fun _ => rfl⟩
theorem flip_st (d : Dk) (s n : Int) : (flipD d s n).1.down = d.down ∧ (flipD d s n).1.dead = d.dead ∧ (flipD d s n).1.left = d.left := by
  unfold flipD
  split
  · exact ⟨rfl, rfl, rfl⟩
  · split <;> exact ⟨rfl, rfl, rfl⟩
theorem lose_st (d : Dk) (s : Int) : (loseD d s).1.down = d.down ∧ (loseD d s).1.dead = d.dead ∧ (loseD d s).1.left = d.left := by
  unfold loseD
  split <;> exact ⟨rfl, rfl, rfl⟩
theorem stray_st (d : Dk) (s t : Int) : (strayD d s t).1.down = d.down ∧ (strayD d s t).1.dead = d.dead ∧ (strayD d s t).1.left = d.left := by
  unfold strayD
  split
  · exact ⟨rfl, rfl, rfl⟩
  · split <;> exact ⟨rfl, rfl, rfl⟩
theorem Flt.flip (h : Flt d d') (s n : Int) : Flt d (flipD d' s n).1 := by
  obtain ⟨a1, a2, a3⟩ := flip_pl d' s n
  obtain ⟨b1, b2, b3⟩ := flip_st d' s n
  exact ⟨⟨a1.trans h.live.len, a2.trans h.live.w, b1.trans h.live.dn, b2.trans h.live.de⟩, b3.trans h.left, fun j => (a3 j).trans (h.mt j)⟩
theorem Flt.lose (h : Flt d d') (s : Int) : Flt d (loseD d' s).1 := by
  obtain ⟨a1, a2, a3⟩ := lose_pl d' s
  obtain ⟨b1, b2, b3⟩ := lose_st d' s
  exact ⟨⟨a1.trans h.live.len, a2.trans h.live.w, b1.trans h.live.dn, b2.trans h.live.de⟩, b3.trans h.left, fun j => (a3 j).trans (h.mt j)⟩
theorem Flt.stray (h : Flt d d') (s t : Int) : Flt d (strayD d' s t).1 := by
  obtain ⟨a1, a2, a3⟩ := stray_pl d' s t
  obtain ⟨b1, b2, b3⟩ := stray_st d' s t
  exact ⟨⟨a1.trans h.live.len, a2.trans h.live.w, b1.trans h.live.dn, b2.trans h.live.de⟩, b3.trans h.left, fun j => (a3 j).trans (h.mt j)⟩
theorem there_p {j : Nat} (hl : d.pl.length = 156) (hj : j < 156) : ∃ p, d.pl[j]? = some p ∧ d.pl.getD j zeroPl = p ∧ p ∈ d.pl := by
  have hlt : j < d.pl.length := by omega
  have e := List.getElem?_eq_getElem hlt
  exact ⟨_, e, by rw [List.getD_eq_getElem?_getD, e]; rfl, List.getElem_mem hlt⟩
theorem read_p {j : Nat} (hL : Live d) (hj : j < 156) {p : Pl} (hp : d.pl[j]? = some p) : readD d j = if p.lost = true then ([], 50) else (p.rest, 0) := by
  rw [rd_live hL hj]
  unfold rdP
  rw [hp]
theorem rest_p {j : Nat} (hl : d.pl.length = 156) (hj : j < 156) {p : Pl} (hp : d.pl.getD j zeroPl = p) : restD d j = if p.lost = true then ([], true, 0) else (p.rest, false, 0) := by
  unfold restD
  rw [there_of hl hj, if_neg (by simp), Int.toNat_natCast, hp]
theorem meant_p {j : Nat} (hl : d.pl.length = 156) (hj : j < 156) {p : Pl} (hp : d.pl.getD j zeroPl = p) : meantD d j = (p.meant, 0) := by
  unfold meantD
  rw [there_of hl hj, if_neg (by simp), Int.toNat_natCast, hp]
theorem unhurt_read {j : Nat} (hc : CleanL d.pl) (hL : Live d) (hf : Flt d d') (hj : j < 156) (hh : hurtB d' j = false) : readD d' j = readD d j := by
  obtain ⟨p, e1, e2, e3⟩ := there_p hL.len hj
  obtain ⟨p', f1, f2, f3⟩ := there_p hf.live.len hj
  obtain ⟨c1, c2⟩ := hc p e3
  have hm := hf.mt (j : Int)
  rw [meant_p hf.live.len hj f2, meant_p hL.len hj e2] at hm
  injection hm with hm _
  rw [hurt_pl (p := p') (there_of hf.live.len hj) f2, Bool.or_eq_false_iff] at hh
  obtain ⟨h1, h2⟩ := hh
  have h3 : p'.rest = p'.meant := by simpa using h2
  rw [read_p hf.live hj f1, read_p hL hj e1, h1, c2, h3, hm, c1]
variable {rep reg pla : Int}
theorem isHurt_no {f n : Nat} (h : isHurt d f n = false) : ∀ k, k < n → hurtB d ((f + k : Nat) : Int) = false := fun k hk => by
  cases hh : hurtB d ((f + k : Nat) : Int)
  · rfl
  · have hne := hurtsL_ne (d := d) (f := f) (t := f + n) (s := f + k) (by omega) (by omega) hh
    unfold isHurt at h
    cases hL : hurtsL d f (f + n)
    · exact absurd hL hne
    · rw [hL] at h; cases h
theorem place_parts (ha : askG d rep reg pla = 0) : placeG d rep reg pla = (isHurt d (firstN reg pla).toNat (wideN reg).toNat, isHurt d (firstN reg pla).toNat (wideN reg).toNat && (goneG d (firstN reg pla).toNat (wideN reg).toNat || decide ((mineF (allR d (firstN reg pla).toNat (wideN reg).toNat) rep reg pla).1 = 2)), 0) := by
  unfold placeG
  rw [if_neg (by simp [ha])]
theorem place_unhurt (hc : CleanL d.pl) (hL : Live d) (hf : Flt d d') (ha : askG d' rep reg pla = 0) (h : (placeG d' rep reg pla).1 = false) : ∀ k : Nat, k < (wideN reg).toNat → readD d' (((firstN reg pla).toNat + k : Nat) : Int) = readD d (((firstN reg pla).toNat + k : Nat) : Int) := fun k hk => by
  have hb := ask_first ha
  rw [place_parts ha] at h
  exact unhurt_read hc hL hf (by omega) (isHurt_no h k hk)
theorem place_seen (hL : Live d) (ha : askG d rep reg pla = 0) (h : (placeG d rep reg pla).2.1 = true) :
    (∃ k, k < (wideN reg).toNat ∧ readD d (((firstN reg pla).toNat + k : Nat) : Int) = ([], 50)) ∨
      ((∀ k, k < (wideN reg).toNat → (readD d (((firstN reg pla).toNat + k : Nat) : Int)).2 = 0) ∧ (mineF (allG (fun s => (readD d s).1) (firstN reg pla).toNat (wideN reg).toNat) rep reg pla).1 = 2) := by
  have hb := ask_first ha
  rw [place_parts ha] at h
  simp only [Bool.and_eq_true, Bool.or_eq_true, decide_eq_true_eq] at h
  have hfn : (firstN reg pla).toNat + (wideN reg).toNat ≤ 156 := by omega
  generalize (firstN reg pla).toNat = f at *
  generalize (wideN reg).toNat = n at *
  by_cases hg : goneG d f n = true
  · refine .inl ?_
    unfold goneG at hg
    rw [List.any_eq_true] at hg
    obtain ⟨k, hk, hl⟩ := hg
    have hk := List.mem_range.1 hk
    obtain ⟨p, e1, e2, _⟩ := there_p hL.len (show f + k < 156 by omega)
    refine ⟨k, hk, ?_⟩
    rw [rest_p hL.len (by omega) e2] at hl
    rw [read_p hL (by omega) e1]
    by_cases hp : p.lost = true
    · rw [if_pos hp]
    · rw [if_neg hp] at hl; cases hl
  · refine .inr ?_
    have hno : ∀ k, k < n → readD d ((f + k : Nat) : Int) = ((restD d ((f + k : Nat) : Int)).1, 0) := fun k hk => by
      obtain ⟨p, e1, e2, _⟩ := there_p hL.len (show f + k < 156 by omega)
      have hpl : ¬ p.lost = true := fun hp => hg (by
        unfold goneG
        rw [List.any_eq_true]
        exact ⟨k, List.mem_range.2 hk, by rw [rest_p hL.len (by omega) e2, if_pos hp]⟩)
      rw [rest_p hL.len (by omega) e2, read_p hL (by omega) e1, if_neg hpl, if_neg hpl]
    refine ⟨fun k hk => by rw [hno k hk], ?_⟩
    have e : allG (fun s => (readD d s).1) f n = allR d f n := by
      unfold allR allG
      rw [List.flatMap_def, List.flatMap_def]
      congr 1
      exact List.map_congr_left fun k hk => congrArg (fun x => x.1) (hno k (List.mem_range.1 hk))
    rw [e]
    exact (h.2.resolve_left hg)
theorem mine_bad {b : List UInt8} (h : (mineF b rep reg pla).1 = 2) : mineF b rep reg pla = (2, zeroTg, []) := by
  unfold mineF at h ⊢
  split
  · rfl
  · rename_i hc
    rw [if_neg hc] at h
    unfold openF at h ⊢
    split
    · rfl
    · rename_i h1
      rw [if_neg h1] at h
      split
      · rename_i h2; rw [if_pos h2] at h; cases h
      · rename_i h2
        rw [if_neg h2] at h
        split
        · rename_i h3; rw [if_pos h3] at h; cases h
        · rfl
theorem ask_of (hl : d.pl.length = 156) (hr : 0 ≤ rep ∧ rep ≤ 6) (hf : 0 ≤ firstN reg pla) : askG d rep reg pla = 0 := by
  unfold askG askN
  rw [hl, if_neg (by decide), if_neg (by omega)]
theorem seen_all (hs : seenG d rep = (true, 0)) {r p : Nat} (h1 : 1 ≤ r) (h2 : r ≤ 5) (hp : p < (placesN (r : Int)).toNat) : (placeG d rep (r : Int) (p : Int)).1 = (placeG d rep (r : Int) (p : Int)).2.1 := by
  unfold seenG at hs
  split at hs
  · cases hs
  · injection hs with hs _
    unfold seenR at hs
    rw [List.all_eq_true] at hs
    have h3 := hs (r - 1) (List.mem_range.2 (by omega))
    rw [show r - 1 + 1 = r by omega] at h3
    unfold seenP at h3
    rw [List.all_eq_true] at h3
    simpa using h3 p (List.mem_range.2 hp)
end
end Go.Proofs.YtknchbhobopkeaaGreatDoor
namespace Go.Proofs.YtknchbhobopkeaaGreatDoor
open Go.RowKit
def there2 (d : Dk) (s t : Int) : Int := if thereD d s ≠ 0 then thereD d s else thereD d t
theorem there_val {d : Dk} (hn : 0 < d.pl.length) (s : Int) : (s < 0 ∧ thereD d s = 2) ∨ (¬ s < 0 ∧ (d.pl.length : Int) ≤ s ∧ thereD d s = 2) ∨ (¬ s < 0 ∧ ¬ (d.pl.length : Int) ≤ s ∧ thereD d s = 0) := by
  unfold thereD
  rw [if_neg (by omega)]
  by_cases h1 : s < 0
  · exact .inl ⟨h1, if_pos (.inl h1)⟩
  · by_cases h2 : (d.pl.length : Int) ≤ s
    · exact .inr (.inl ⟨h1, h2, if_pos (.inr h2)⟩)
    · exact .inr (.inr ⟨h1, h2, if_neg (by omega)⟩)
theorem pl_restS (p : Pl) (x : List UInt8) (hx : x.length = 64) : (plC p).take 0 ++ (Value.agg (bys x).toArray).cells.toList ++ (plC p).drop (0 + 64) = plC { p with rest := x } := by
  have h1 : (bys (fix64 p.rest)).length = 64 := by rw [bys_len, fix64_len]
  have e : (plC p).drop (0 + 64) = bys (fix64 p.meant) ++ [.bool p.lost] := by
    unfold plC
    rw [show 0 + 64 = (bys (fix64 p.rest)).length by rw [h1], List.drop_left]
  rw [e, List.take_zero, List.nil_append]
  unfold plC
  simp only
  rw [fix64_of hx]
  rfl
theorem pls_restS {l : List Pl} {s : Nat} {p : Pl} (h : l[s]? = some p) (x : List UInt8) (hx : x.length = 64) : s * 129 + 64 ≤ (plsV l).size ∧ (Value.agg (bys x).toArray).cells.size = 64 ∧ (∀ u ∈ (Value.agg (bys x).toArray).cells.toList, u.oneCell' = true) ∧ ((plsV l).toList.take (s * 129) ++ (Value.agg (bys x).toArray).cells.toList ++ (plsV l).toList.drop (s * 129 + 64)).toArray = plsV (l.set s { p with rest := x }) := by
  have := pls_part (x := .agg (bys x).toArray) (n := 64) (r := 0) h (by show (bys x).toArray.size = 64; rw [List.size_toArray, bys_len]; exact hx) (by omega) (by show ∀ u ∈ (bys x).toArray.toList, _; exact bys_one) (pl_restS p x hx)
  simpa only [Nat.add_zero] using this
theorem pl_all {l : List Pl} {k : Nat} {p : Pl} (h : l[k]? = some p) : k * 129 + 129 ≤ (plsV l).size ∧ (plsV l).extract (k * 129) (k * 129 + 129) = (plC p).toArray := by
  have hs := (List.getElem?_eq_some_iff.1 h).1
  refine ⟨by rw [plsV_size]; omega, ?_⟩
  obtain ⟨a, b, rfl, hl, _⟩ := pl_split h
  have hfa : (a.flatMap plC).length = k * 129 := by rw [flat_len plC_len, hl, Nat.mul_comm]
  have e : (plsV (a ++ p :: b)).toList = a.flatMap plC ++ (plC p ++ b.flatMap plC) := by
    unfold plsV
    simp only [List.flatMap_append, List.flatMap_cons]
  apply Array.toList_inj.1
  rw [Array.toList_extract, e]
  show List.take (k * 129 + 129 - k * 129) (List.drop (k * 129) _) = plC p
  rw [← hfa, List.drop_left, show (a.flatMap plC).length + 129 - (a.flatMap plC).length = 129 by omega, ← plC_len p, List.take_left]
theorem plC_one (p : Pl) : ∀ u ∈ (plC p).toArray.toList, u.oneCell' = true := by
  intro u hu
  simp only [plC, List.mem_append, List.mem_singleton] at hu
  rcases hu with hu | hu | rfl
  · exact bys_one u hu
  · exact bys_one u hu
  · rfl
theorem pl_c128 {w : World} {q : Nat} {p : Pl} {T : TypeId} (h : w.heap[q]? = some (.cells (plC p).toArray T (0, 0))) : w.cell? ⟨q, 128, none⟩ = some (.bool p.lost) := blk_cell h 128 _ (by rw [List.getElem?_toArray]; exact pl_lostAt p)
theorem pl_rst {p : Pl} (hp : p.rest.length = 64) : 0 + 64 ≤ (plC p).toArray.size ∧ (plC p).toArray.extract 0 (0 + 64) = (bys p.rest).toArray := by
  refine ⟨by rw [List.size_toArray, plC_len]; omega, ?_⟩
  apply Array.toList_inj.1
  rw [Array.toList_extract]
  show List.take 64 (plC p) = bys p.rest
  unfold plC
  rw [fix64_of hp]
  have h64 : (bys p.rest).length = 64 := by rw [bys_len]; exact hp
  rw [← h64, List.take_left]
section
variable {B g gp : Nat} {wv : Value} {d : Dk} {w : World}
set_option maxRecDepth 100000 in
theorem there_2 (h : DiskB B g gp wv d w) (s t : Int) (q : Nat) (hq0 : w.cell? ⟨q, 0, none⟩ = some (.int .i64 s)) (hq1 : w.cell? ⟨q, 1, none⟩ = some (.int .i64 t)) : Calls Tryz.prog 40 #[.pointer (some ⟨g, 0, none⟩), .slice (some ⟨q, 0, none⟩) 2 2] w fun e w' => e = .returned (.int .i64 (there2 d s t)) ∧ w = w' := by
  have h0 : ((d.pl.length : Int) == 0) = false := by have := h.n0; rw [beq_eq_false_iff_ne]; omega
  have c0 := h.c0
  have HS := Lib.hid (there_val h.n0 s)
  have HT := Lib.hid (there_val h.n0 t)
  unfold there2
  generalize thereD d s = rs at *
  generalize thereD d t = rt at *
  obtain ⟨r, hr⟩ : ∃ r, (if rs ≠ 0 then rs else rt) = r := ⟨_, rfl⟩
  rw [hr]
  have HR := Lib.hid hr
  clear hr
  go_enter Tryz.func40, Tryz.ntmps40
  go_wp2_with (go_at_call 25; refine (dsize h).mono ?_; rintro e w1 ⟨rfl, rfl⟩)
  go_loopw [12, 6] (fun i _ wr => ∃ k : Nat, k ≤ 2 ∧ i = .int .i64 (k : Nat) ∧ Hid (1 ≤ k → rs = 0) ∧ Hid (2 ≤ k → rt = 0) ∧ wr = w) (fun i _ _ => 2 - (intOf i).toNat)
  case atStart => exact ⟨0, by omega, rfl, Lib.hid (fun h => absurd h (by omega)), Lib.hid (fun h => absurd h (by omega)), rfl⟩
  case round =>
    obtain ⟨k, hk, rfl, hk1, hk2, rfl⟩ := hrel
    rcases (show k = 0 ∨ k = 1 ∨ k = 2 by omega) with rfl | rfl | rfl
    · clear hk1 hk2
      rcases HS.out with ⟨h1, h2⟩ | ⟨h1, h2, h3⟩ | ⟨h1, h2, h3⟩
      · subst h2
        obtain rfl : r = 2 := by rw [← HR.out]; rfl
        go_wp2
        go_ret
        exact ⟨rfl, rfl⟩
      · subst h3
        obtain rfl : r = 2 := by rw [← HR.out]; rfl
        go_wp2
        go_ret
        exact ⟨rfl, rfl⟩
      · subst h3
        go_wp2
        go_roundw
        case rel => exact ⟨1, by omega, by first | rfl | go_num, Lib.hid (fun _ => by first | rfl | trivial), Lib.hid (fun h => absurd h (by omega)), by first | trivial | rfl⟩
        case measure => first | (simp [intOf]; done) | (simp [intOf]; omega)
    · have e := hk1.out (by omega)
      subst e
      clear hk1 hk2 HS
      rcases HT.out with ⟨h1, h2⟩ | ⟨h1, h2, h3⟩ | ⟨h1, h2, h3⟩
      · subst h2
        obtain rfl : r = 2 := by rw [← HR.out]; rfl
        go_wp2
        go_ret
        exact ⟨rfl, rfl⟩
      · subst h3
        obtain rfl : r = 2 := by rw [← HR.out]; rfl
        go_wp2
        go_ret
        exact ⟨rfl, rfl⟩
      · subst h3
        go_wp2
        go_roundw
        case rel => exact ⟨2, by omega, by first | rfl | go_num, Lib.hid (fun _ => by first | rfl | trivial), Lib.hid (fun _ => by first | rfl | trivial), by first | trivial | rfl⟩
        case measure => first | (simp [intOf]; done) | (simp [intOf]; omega)
    · have e := hk1.out (by omega)
      have e2 := hk2.out (by omega)
      subst e e2
      obtain rfl : r = 0 := by rw [← HR.out]; rfl
      clear hk1 hk2 HS HT
      go_wp2
      go_ret
      exact ⟨rfl, rfl⟩
set_option maxRecDepth 100000 in
set_option maxHeartbeats 1000000 in
theorem stray_any (h : DiskB B g gp wv d w) (hb : B ≤ w.heap.size) (s t : Int) : Calls Tryz.prog 45 #[.pointer (some ⟨g, 0, none⟩), .int .i64 s, .int .i64 t] w fun e w' => e = .returned (.int .i64 (strayD d s t).2) ∧ DiskB B g gp wv (strayD d s t).1 w' ∧ Kt B w w' := by
  have hbA := blw w (Obj.cells #[.int .i64 s, .int .i64 t] 3)
  have hA := h.below hbA
  have hk := Kt.of hbA hb
  have B0 := heap_alloc_new w (Obj.cells #[.int .i64 s, .int .i64 t] 3)
  have ht := there_2 hA s t w.heap.size (blk_cell B0 0 _ rfl) (blk_cell B0 1 _ rfl)
  have c0 := hA.c0
  have hP := hA.pls
  unfold there2 at ht
  unfold strayD
  by_cases h0 : thereD d s = 0
  · rw [if_neg (by simpa using h0)] at ht ⊢
    by_cases h1 : thereD d t = 0
    · rw [if_neg (by simpa using h1)]
      rw [h1] at ht
      have hsr := there_in h0
      have htr := there_in h1
      obtain ⟨k, rfl⟩ : ∃ k : Nat, s = k := ⟨s.toNat, by omega⟩
      obtain ⟨m, rfl⟩ : ∃ m : Nat, t = m := ⟨t.toNat, by omega⟩
      have hk2 : k < d.pl.length := by omega
      have hk3 : (k : Int) < d.pl.length := by omega
      have hm2 : m < d.pl.length := by omega
      have hm3 : (m : Int) < d.pl.length := by omega
      have hpk : d.pl[k]? = some d.pl[k] := List.getElem?_eq_getElem hk2
      have hpm : d.pl[m]? = some d.pl[m] := List.getElem?_eq_getElem hm2
      simp only [Int.toNat_natCast]
      rw [modify_set _ hpm, show d.pl.getD k zeroPl = d.pl[k] by rw [List.getD_eq_getElem?_getD, hpk]; rfl]
      have hok := h.ok _ (List.getElem_mem hk2)
      have hom := h.ok _ (List.getElem_mem hm2)
      generalize d.pl[k] = p at *
      generalize d.pl[m] = r at *
      clear h0 h1 hsr htr B0
      go_enter Tryz.func45, Tryz.ntmps45
      refine wp_seq_k (fun K hK => ?_)
      have HK := Lib.hid hK
      clear hK
      go_wp2
      refine HK.out _ _ ?_
      clear HK
      refine wp_seq_k (fun K hK => ?_)
      have HK := Lib.hid hK
      clear hK
      go_wp2_with (go_at_call 40; refine ht.mono ?_; rintro e w1 ⟨rfl, rfl⟩)
      refine HK.out _ _ ?_
      clear HK
      generalize w.alloc (Obj.cells #[.int .i64 (k : Int), .int .i64 (m : Int)] 3) = wq at *
      refine wp_seq_k (fun K hK => ?_)
      have HK := Lib.hid hK
      clear hK
      go_wp2_with (first
              | ((with_reducible refine wpList_ldB 134 _ ?_); refine ⟨rfl, _, ⟨_, _, _, _, _, Tryz.isAgg134, Tryz.sizeOf134, rfl, ‹_›, pl_all hpk⟩, ?_⟩)
              | ((with_reducible refine wpList_stNew 134 _ _ ?_); refine ⟨129, (plC p).toArray, ⟨Tryz.sizeOf134, rfl, rfl, by rw [List.size_toArray, plC_len], plC_one p⟩, by kernel_rfl, ?_⟩))
      refine HK.out _ _ ?_
      clear HK
      have X0 := heap_alloc_new wq (Obj.cells (plC p).toArray 134)
      have hbX := blw wq (Obj.cells (plC p).toArray 134)
      have hX := hA.below hbX
      have hkX := hk.trans (Kt.of hbX (Nat.le_trans hb hk.bl.size))
      have hneX : gp ≠ wq.heap.size := by have := lt_blk hA.pls; omega
      clear c0 hP ht hA hbX hbA
      generalize wq.alloc (Obj.cells (plC p).toArray 134) = wx at *
      generalize wq.heap.size = qx at *
      refine wp_seq_k (fun K hK => ?_)
      have HK := Lib.hid hK
      clear hK
      go_wp2_with fail
      have hbd := (Below.refl wx.heap.size wx).drew
      have hdD := hX.below hbd
      have hkD := hkX.trans (Kt.of hbd (Nat.le_trans hb hkX.bl.size))
      have hxD := tr_bl hbd X0
      have hne1 : gp ≠ g := by rintro rfl; have := hdD.box.symm.trans hdD.pls; injection this with this; injection this with _ e; revert e; decide
      clear hX hkX X0 hbd
      refine wp_region_held_drew (S := fun w' => w'.heap[g]? = some (.cells (dkA gp wv d) 71 (0, 0)) ∧ w'.heap[qx]? = some (.cells (plC p).toArray 134 (0, 0))) (by kernel_rfl) ⟨hdD.box, hxD⟩ (fun hS0 => ?_)
      generalize wx.drew = x0 at *
      refine wpAnyH_take (i := 0) (oi := ⟨_, _, _, _, _, _⟩) (v := ?_) rfl (by kernel_rfl) (by kernel_rfl) (by kernel_rfl) (fun _ _ _ h => h) (Or.inl ⟨by rfl, ?_⟩) (by assumption) ?_
      rotate_left
      · intro wS hSw; go_simp; (try with_reducible rfl)
      (try simp only [Act.put]); (try simp only [List.setIfInBounds_toArray]); (try simp only [List.set_cons_succ]); (try simp only [List.set_cons_zero])
      refine wpAnyH_take (i := 1) (oi := ⟨_, _, _, _, _, _⟩) (v := ?_) rfl (by kernel_rfl) (by kernel_rfl) (by kernel_rfl) (fun _ _ _ h => h) (Or.inl ⟨by rfl, ?_⟩) (by assumption) ?_
      rotate_left
      · intro wS hSw; go_simp; (try with_reducible rfl)
      (try simp only [Act.put]); (try simp only [List.setIfInBounds_toArray]); (try simp only [List.set_cons_succ]); (try simp only [List.set_cons_zero])
      refine wpAnyH_take (i := 2) (oi := ⟨_, _, _, _, _, _⟩) (v := ?_) rfl (by kernel_rfl) (by kernel_rfl) (by kernel_rfl) (fun _ _ _ h => h) (Or.inl ⟨by rfl, ?_⟩) (by assumption) ?_
      rotate_left
      · intro wS hSw; go_simp; (try with_reducible rfl)
      (try simp only [Act.put]); (try simp only [List.setIfInBounds_toArray]); (try simp only [List.set_cons_succ]); (try simp only [List.set_cons_zero])
      refine wpAnyH_take (i := 3) (oi := ⟨_, _, _, _, _, _⟩) (v := ?_) rfl (by kernel_rfl) (by kernel_rfl) (by kernel_rfl) (fun _ _ _ h => h) (Or.inl ⟨by rfl, ?_⟩) (by assumption) ?_
      rotate_left
      · intro wS hSw
        have c := dkA_c0 hSw.1; go_simp; (try with_reducible rfl)
      (try simp only [Act.put]); (try simp only [List.setIfInBounds_toArray]); (try simp only [List.set_cons_succ]); (try simp only [List.set_cons_zero])
      refine wpAnyH_take (i := 4) (oi := ⟨_, _, _, _, _, _⟩) (v := ?_) rfl (by kernel_rfl) (by kernel_rfl) (by kernel_rfl) (fun _ _ _ h => h) (Or.inl ⟨by rfl, ?_⟩) (by assumption) ?_
      rotate_left
      · intro wS hSw; go_simp; (try with_reducible rfl)
      (try simp only [Act.put]); (try simp only [List.setIfInBounds_toArray]); (try simp only [List.set_cons_succ]); (try simp only [List.set_cons_zero])
      refine wpAnyH_take (i := 5) (oi := ⟨_, _, _, _, _, _⟩) (v := ?_) rfl (by kernel_rfl) (by kernel_rfl) (by kernel_rfl) (fun _ _ _ h => h) (Or.inl ⟨by rfl, ?_⟩) (by assumption) ?_
      rotate_left
      · intro wS hSw; go_simp; (try with_reducible rfl)
      (try simp only [Act.put]); (try simp only [List.setIfInBounds_toArray]); (try simp only [List.set_cons_succ]); (try simp only [List.set_cons_zero])
      refine wpAnyH_take (i := 6) (oi := ⟨_, _, _, _, _, _⟩) (v := ?_) rfl (by kernel_rfl) (by kernel_rfl) (by kernel_rfl) (fun _ _ _ h => h) (Or.inl ⟨by rfl, ?_⟩) (by assumption) ?_
      rotate_left
      · intro wS hSw; go_simp; (try with_reducible rfl)
      (try simp only [Act.put]); (try simp only [List.setIfInBounds_toArray]); (try simp only [List.set_cons_succ]); (try simp only [List.set_cons_zero])
      refine wpAnyH_take (i := 7) (oi := ⟨_, _, _, _, _, _⟩) (v := ?_) rfl (by kernel_rfl) (by kernel_rfl) (by kernel_rfl) (fun _ _ _ h => h) (Or.inl ⟨by rfl, ?_⟩) (by assumption) ?_
      rotate_left
      · intro wS hSw; go_simp; (try with_reducible rfl)
      (try simp only [Act.put]); (try simp only [List.setIfInBounds_toArray]); (try simp only [List.set_cons_succ]); (try simp only [List.set_cons_zero])
      refine wpAnyH_take (i := 8) (oi := ⟨_, _, _, _, _, _⟩) (v := ?_) rfl (by kernel_rfl) (by kernel_rfl) (by kernel_rfl) (fun _ _ _ h => h) (Or.inl ⟨by rfl, ?_⟩) (by assumption) ?_
      rotate_left
      · intro wS hSw
        have c := dkA_c0 hSw.1; go_simp; (try with_reducible rfl)
      (try simp only [Act.put]); (try simp only [List.setIfInBounds_toArray]); (try simp only [List.set_cons_succ]); (try simp only [List.set_cons_zero])
      refine wpAnyH_take (i := 9) (oi := ⟨_, _, _, _, _, _⟩) (v := ?_) rfl (by kernel_rfl) (by kernel_rfl) (by kernel_rfl) (fun _ _ _ h => h) (Or.inl ⟨by rfl, ?_⟩) (by assumption) ?_
      rotate_left
      · intro wS hSw; go_simp; (try with_reducible rfl)
      (try simp only [Act.put]); (try simp only [List.setIfInBounds_toArray]); (try simp only [List.set_cons_succ]); (try simp only [List.set_cons_zero])
      refine wpAnyH_take (i := 10) (oi := ⟨_, _, _, _, _, _⟩) (v := ?_) rfl (by kernel_rfl) (by kernel_rfl) (by kernel_rfl) (fun _ _ _ h => h) (Or.inl ⟨by rfl, ?_⟩) (by assumption) ?_
      rotate_left
      · intro wS hSw; go_simp; (try with_reducible rfl)
      (try simp only [Act.put]); (try simp only [List.setIfInBounds_toArray]); (try simp only [List.set_cons_succ]); (try simp only [List.set_cons_zero])
      refine wpAnyH_take (i := 11) (oi := ⟨_, _, _, _, _, _⟩) (v := .agg ((bys p.rest).toArray)) rfl (by kernel_rfl) (by kernel_rfl) (by kernel_rfl) (fun _ _ _ h => h) (Or.inl ⟨by rfl, fun wS hSw => ?_⟩) (by assumption) ?_
      · exact exec_ldB 130 _ ⟨_, _, _, _, _, Tryz.isAgg130, Tryz.sizeOf130, rfl, hSw.2, pl_rst hok.1⟩
      (try simp only [Act.put]); (try simp only [List.setIfInBounds_toArray]); (try simp only [List.set_cons_succ]); (try simp only [List.set_cons_zero])
      refine wpAnyH_take (i := 12) (oi := ⟨_, _, _, _, _, _⟩) (v := ?_) rfl (by kernel_rfl) (by kernel_rfl) (by kernel_rfl) (fun _ _ _ h => h) (Or.inl ⟨by rfl, ?_⟩) (by assumption) ?_
      rotate_left
      · intro wS hSw; go_simp; (try with_reducible rfl)
      (try simp only [Act.put]); (try simp only [List.setIfInBounds_toArray]); (try simp only [List.set_cons_succ]); (try simp only [List.set_cons_zero])
      refine wpAnyH_take (i := 13) (oi := ⟨_, _, _, _, _, _⟩) (v := ?_) rfl (by kernel_rfl) (by kernel_rfl) (by kernel_rfl) (fun _ _ _ h => h) (Or.inl ⟨by rfl, ?_⟩) (by assumption) ?_
      rotate_left
      · intro wS hSw
        have c := pl_c128 hSw.2; go_simp; (try with_reducible rfl)
      (try simp only [Act.put]); (try simp only [List.setIfInBounds_toArray]); (try simp only [List.set_cons_succ]); (try simp only [List.set_cons_zero])
      refine wpAnyH_take (i := 14) (oi := ⟨_, _, _, _, _, _⟩) (v := ?_) rfl (by kernel_rfl) (by kernel_rfl) (by kernel_rfl) (fun _ _ _ h => h) (Or.inl ⟨by rfl, ?_⟩) (by assumption) ?_
      rotate_left
      · intro wS hSw; go_simp; (try with_reducible rfl)
      (try simp only [Act.put]); (try simp only [List.setIfInBounds_toArray]); (try simp only [List.set_cons_succ]); (try simp only [List.set_cons_zero])
      refine wpAnyH_take (i := 15) (oi := ⟨_, _, _, _, _, _⟩) (v := ?_) rfl (by kernel_rfl) (by kernel_rfl) (by kernel_rfl) (fun _ _ _ h => h) (Or.inl ⟨by rfl, ?_⟩) (by assumption) ?_
      rotate_left
      · intro wS hSw; go_simp; (try with_reducible rfl)
      (try simp only [Act.put]); (try simp only [List.setIfInBounds_toArray]); (try simp only [List.set_cons_succ]); (try simp only [List.set_cons_zero])
      refine wpAnyH_ready (rs := [16]) (by kernel_rfl) (by simp) ?_
      refine AllReadyH.cons (o := ⟨_, _, _, _, _, _⟩) rfl (fun K' hK' => ?_) AllReadyH.nil
      refine (if_pos (by rfl)).mpr ?_
      refine wp_stB 130 _ _ ?_
      refine ⟨_, _, _, ⟨_, _, _, Tryz.sizeOf130, rfl, hdD.pls, pls_restS hpm p.rest hok.1⟩, ?_⟩
      intro w6 B6 g6
      have hf6 := hdD.sect B6 g6 ⟨hok.1, hom.2⟩
      have hS6 : w6.heap[g]? = some (.cells (dkA gp wv d) 71 (0, 0)) ∧ w6.heap[qx]? = some (.cells (plC p).toArray 134 (0, 0)) := ⟨tr_st g6 hS0.1 hne1, tr_st g6 hS0.2 hneX⟩
      refine hK'.out _ _ hS6 (fun _ => ?_)
      clear hK'
      (try simp only [Act.put]); (try simp only [List.setIfInBounds_toArray]); (try simp only [List.set_cons_succ]); (try simp only [List.set_cons_zero])
      refine wpAnyH_take (i := 17) (oi := ⟨_, _, _, _, _, _⟩) (v := ?_) rfl (by kernel_rfl) (by kernel_rfl) (by kernel_rfl) (fun _ _ _ h => h) (Or.inl ⟨by rfl, ?_⟩) (by assumption) ?_
      rotate_left
      · intro wS hSw; go_simp; (try with_reducible rfl)
      (try simp only [Act.put]); (try simp only [List.setIfInBounds_toArray]); (try simp only [List.set_cons_succ]); (try simp only [List.set_cons_zero])
      refine wpAnyH_take (i := 18) (oi := ⟨_, _, _, _, _, _⟩) (v := ?_) rfl (by kernel_rfl) (by kernel_rfl) (by kernel_rfl) (fun _ _ _ h => h) (Or.inl ⟨by rfl, ?_⟩) (by assumption) ?_
      rotate_left
      · intro wS hSw; go_simp; (try with_reducible rfl)
      (try simp only [Act.put]); (try simp only [List.setIfInBounds_toArray]); (try simp only [List.set_cons_succ]); (try simp only [List.set_cons_zero])
      refine wpAnyH_ready (rs := [19]) (by kernel_rfl) (by simp) ?_
      refine AllReadyH.cons (o := ⟨_, _, _, _, _, _⟩) rfl (fun K' hK' => ?_) AllReadyH.nil
      refine (if_pos (by rfl)).mpr ?_
      have hpm2 : (d.pl.set m { r with rest := p.rest })[m]? = some { r with rest := p.rest } := List.getElem?_set_self hm2
      refine wp_stB 4 _ _ ?_
      refine ⟨_, _, _, ⟨_, _, _, Tryz.sizeOf4, rfl, B6, pls_part (x := .bool p.lost) hpm2 rfl (by omega) (by simp [Value.cells, Value.oneCell']) (pl_lost _ p.lost)⟩, ?_⟩
      intro w7 B7 g7
      have hf7 := hf6.1.sect B7 g7 ⟨hok.1, hom.2⟩
      refine hK'.out _ _ ⟨tr_st g7 hS6.1 hne1, tr_st g7 hS6.2 hneX⟩ (fun _ => ?_)
      clear hK'
      refine wpAnyH_done (by kernel_rfl) ?_ _
      refine HK.out _ _ ?_
      clear HK
      go_wp2
      go_ret
      simp only [List.set_set] at hf7
      exact ⟨rfl, hf7.1, (hkD.trans hf6.2).trans hf7.2⟩
    · rw [if_pos (by simpa using h1)]
      have h0b : (thereD d t != 0) = true := by simpa using h1
      generalize thereD d t = rt at *
      go_enter Tryz.func45, Tryz.ntmps45
      go_wp2_with (go_at_call 40; refine ht.mono ?_; rintro e w1 ⟨rfl, rfl⟩)
      go_ret
      exact ⟨rfl, hA, hk⟩
  · rw [if_pos (by simpa using h0)] at ht ⊢
    have h0b : (thereD d s != 0) = true := by simpa using h0
    generalize thereD d s = rs at *
    go_enter Tryz.func45, Tryz.ntmps45
    go_wp2_with (go_at_call 40; refine ht.mono ?_; rintro e w1 ⟨rfl, rfl⟩)
    go_ret
    exact ⟨rfl, hA, hk⟩
end
end Go.Proofs.YtknchbhobopkeaaGreatDoor
namespace Go.Proofs.YtknchbhobopkeaaGreatDoor
open Go.RowKit
structure Flts (w : World) (a : Option Addr) (l : List (Nat × Nat × Nat)) : Prop where
  at_ : ∀ j (h : j < l.length), ∃ b off, a = some ⟨b, off, none⟩ ∧ w.cell? ⟨b, off + j * 3, none⟩ = some (.int .u8 (l[j].1 : Nat)) ∧ w.cell? ⟨b, off + j * 3 + 1, none⟩ = some (.int .u16 (l[j].2.1 : Nat)) ∧ w.cell? ⟨b, off + j * 3 + 2, none⟩ = some (.int .u16 (l[j].2.2 : Nat))
  bd : ∀ x ∈ l, x.1 < 256 ∧ x.2.1 < 65536 ∧ x.2.2 < 65536
theorem Flts.below {w w' : World} {a : Option Addr} {l : List (Nat × Nat × Nat)} (h : Flts w a l) (hb : Below w.heap.size w w') : Flts w' a l := ⟨fun j hj => by
  obtain ⟨b, off, e, c0, c1, c2⟩ := h.at_ j hj
  have hlt := World.block_lt_of_cell? _ _ c0
  exact ⟨b, off, e, by rw [hb.cell hlt]; exact c0, by rw [hb.cell (p := ⟨b, off + j * 3 + 1, none⟩) hlt]; exact c1, by rw [hb.cell (p := ⟨b, off + j * 3 + 2, none⟩) hlt]; exact c2⟩, h.bd⟩
section
variable {B g gp : Nat} {wv : Value} {d d0 : Dk} {w : World} {fs : List (Nat × Nat × Nat)}
set_option maxRecDepth 100000 in
set_option maxHeartbeats 1000000 in
theorem lhurt_any (hd : DiskB B g gp wv d w) (hb : B ≤ w.heap.size) (hf : Flt d0 d) (a : Option Addr) (cap : Nat) (hp : ∀ w', Kt B w w' → Flts w' a fs) (hn : fs.length ≤ 40) : Calls Tryz.prog 21 #[.pointer (some ⟨g, 0, none⟩), .slice a fs.length cap] w fun e w' => e = .returned (.tuple #[]) ∧ (∃ d', DiskB B g gp wv d' w' ∧ Flt d0 d') ∧ Kt B w w' := by
  go_enter Tryz.func21, Tryz.ntmps21
  go_wp2_with fail
  go_loopw [4, 5, 6] (fun i _ _ wr => ∃ (j : Nat) (dj : Dk), j ≤ fs.length ∧ i = .int .i64 (j : Nat) ∧ DiskB B g gp wv dj wr ∧ Flt d0 dj ∧ Kt B w wr) (fun i _ _ _ => fs.length - (intOf i).toNat)
  case atStart => exact ⟨0, d, by omega, rfl, hd, hf, Kt.refl _ _⟩
  case round =>
    clear hd hf
    obtain ⟨j, dj, hj, rfl, hD, hF, hk⟩ := hrel
    by_cases hlt : j < fs.length
    case neg =>
      obtain rfl : j = fs.length := by omega
      go_wp2
      clear hp
      exact bodyPost_end (results_none Tryz.results21 _ _ _) rfl ⟨rfl, ⟨dj, hD, hF⟩, hk⟩
    case pos =>
      have hI : (j : Int) < (fs.length : Int) := by omega
      have HJ := Lib.hid (show j + 1 ≤ fs.length by omega)
      obtain ⟨rb, ro, rfl, c0, c1, c2⟩ := (hp _ hk).at_ j hlt
      obtain ⟨b0, b1, b2⟩ := (hp _ hk).bd _ (List.getElem_mem hlt)
      generalize fs[j] = x at *
      obtain ⟨x0, x1, x2⟩ := x
      simp only at c0 c1 c2 b0 b1 b2
      go_wp2
      go_quiet (fail)
      have hbq : Below wr.heap.size wr (wr.drewN nq) := below_drewN (Below.refl _ _) nq
      have D0 := hD.below hbq
      have k0 := hk.trans (Kt.of hbq (Nat.le_trans hb hk.bl.size))
      have c0q : (wr.drewN nq).cell? ⟨rb, ro + j * 3, none⟩ = some (.int .u8 (x0 : Nat)) := by rw [hbq.cell (p := ⟨rb, ro + j * 3, none⟩) (World.block_lt_of_cell? _ _ c0)]; exact c0
      clear hD hk c0 c1 c2
      generalize wr.drewN nq = wq at *
      have hBq := Nat.le_trans hb k0.bl.size
      have hfl := flip_any D0 hBq ((x1 : Int) % 156) (x2 : Int)
      have hlo := lose_any D0 hBq ((x1 : Int) % 156)
      have hst := stray_any D0 hBq ((x1 : Int) % 156) ((x2 : Int) % 156)
      have F1 := Lib.hid (hF.flip ((x1 : Int) % 156) (x2 : Int))
      have F2 := Lib.hid (hF.lose ((x1 : Int) % 156))
      have F3 := Lib.hid (hF.stray ((x1 : Int) % 156) ((x2 : Int) % 156))
      clear D0 hbq hF
      go_wp2_with (first
        | (go_at_call 43; refine hfl.mono ?_; rintro e w1 ⟨rfl, D1, k1⟩; have G1 := F1; have k2 := k0.trans k1)
        | (go_at_call 44; refine hlo.mono ?_; rintro e w1 ⟨rfl, D1, k1⟩; have G1 := F2; have k2 := k0.trans k1)
        | (go_at_call 45; refine hst.mono ?_; rintro e w1 ⟨rfl, D1, k1⟩; have G1 := F3; have k2 := k0.trans k1))
      all_goals
        go_roundw
        case rel => exact ⟨j + 1, _, HJ.out, by go_num, D1, G1.out, k2⟩
        case measure => have := HJ.out; simp [intOf]; omega
end
end Go.Proofs.YtknchbhobopkeaaGreatDoor
namespace Go.Proofs.YtknchbhobopkeaaGreatDoor
open Go.RowKit
set_option maxRecDepth 100000 in
set_option maxHeartbeats 1000000 in
theorem above_any (a b : Bal) (r : Bool) (hr : lessB b a = r) (w : World) : Calls Tryz.prog 20 #[.agg (blA a), .agg (blA b)] w fun e w' => e = .returned (.bool r) ∧ Below w.heap.size w w' := by
  obtain ⟨x, y⟩ := a
  obtain ⟨u, v⟩ := b
  unfold lessB at hr
  simp only at hr
  have HR := Lib.hid hr
  clear hr
  unfold blA
  simp only
  have hb0 := blw w (Obj.cells #[.int .i64 x, .int .i64 y] 32)
  have hb1 := hb0.trans ((blw (w.alloc (Obj.cells #[.int .i64 x, .int .i64 y] 32)) (Obj.cells #[.int .i64 u, .int .i64 v] 32)).mono hb0.size)
  rcases (show u < x ∨ (¬ u < x ∧ x = u ∧ v < y) ∨ (¬ u < x ∧ x = u ∧ ¬ v < y) ∨ (¬ u < x ∧ ¬ x = u) by omega) with h | ⟨h, h2, h3⟩ | ⟨h, h2, h3⟩ | ⟨h, h2⟩
  · obtain rfl : r = true := by rw [← HR.out, decide_eq_true h]; rfl
    go_enter Tryz.func20, Tryz.ntmps20
    go_wp2
    go_ret
    exact ⟨ret_bool (by simp), hb1⟩
  · obtain rfl : r = true := by rw [← HR.out, decide_eq_false h, decide_eq_true h3]; simp [h2]
    have e2 : (x == u) = true := by rw [beq_iff_eq]; exact h2
    clear h2
    go_enter Tryz.func20, Tryz.ntmps20
    go_wp2
    go_ret
    exact ⟨ret_bool (by simp), hb1⟩
  · obtain rfl : r = false := by rw [← HR.out, decide_eq_false h, decide_eq_false h3]; simp
    have e2 : (x == u) = true := by rw [beq_iff_eq]; exact h2
    clear h2
    go_enter Tryz.func20, Tryz.ntmps20
    go_wp2
    go_ret
    exact ⟨ret_bool (by simp), hb1⟩
  · have e2 : (x == u) = false := by rw [beq_eq_false_iff_ne]; exact h2
    obtain rfl : r = false := by rw [← HR.out, decide_eq_false h, show (u == x) = false by rw [beq_eq_false_iff_ne]; exact fun e => h2 e.symm]; rfl
    clear h2
    go_enter Tryz.func20, Tryz.ntmps20
    go_wp2
    go_ret
    exact ⟨ret_bool (by simp), hb1⟩
set_option maxRecDepth 100000 in
set_option maxHeartbeats 1000000 in
theorem lis_any (i : Int) (p : PutL) (w : World) : Calls Tryz.prog 24 #[.agg (rptA ⟨i, 2, p.bal, p.e⟩), .agg (ptA p)] w fun e w' => e = .returned (.bool true) ∧ Below w.heap.size w w' := by
  obtain ⟨at', ⟨rn, rp⟩, ⟨kd, cl, sq, ⟨ok, key, old, val⟩⟩⟩ := p
  unfold rptA rpA ptA
  simp only
  have hb0 := blw w (Obj.cells #[.int .i64 i, .int .u8 2, .int .i64 rn, .int .i64 rp, .int .u8 kd, .int .i64 cl, .int .i64 sq, .int .u8 ok, .string key, .string old, .string val] 44)
  have hb1 := hb0.trans ((blw (w.alloc (Obj.cells #[.int .i64 i, .int .u8 2, .int .i64 rn, .int .i64 rp, .int .u8 kd, .int .i64 cl, .int .i64 sq, .int .u8 ok, .string key, .string old, .string val] 44)) (Obj.cells #[.int .u8 (at' : Int), .int .i64 rn, .int .i64 rp, .int .u8 kd, .int .i64 cl, .int .i64 sq, .int .u8 ok, .string key, .string old, .string val] 48)).mono hb0.size)
  go_enter Tryz.func24, Tryz.ntmps24
  go_wp2
  go_ret
  exact ⟨ret_bool (by simp), hb1⟩
end Go.Proofs.YtknchbhobopkeaaGreatDoor
namespace Go.Proofs.YtknchbhobopkeaaGreatDoor
section
variable {d d' : Dk} {s : Lg} {p q k : Nat} {i : Int} {b : Bal} {e : En}
theorem fst3 (hp : p < 24) : (firstN 3 p).toNat = 4 + p := by rw [first3 (by omega)]; omega
theorem fst4 (hq : q < 48) : (firstN 4 q).toNat = 28 + 2 * q := by rw [first4 (by omega)]; omega
theorem fr1_at (d : Dk) (rep : Int) (hp : p < 24) : fr1 d rep 3 p = if (readD d ((4 + p : Nat) : Int)).2 ≠ 0 then (2, zeroTg, []) else mineF (readD d ((4 + p : Nat) : Int)).1 rep 3 p := by
  unfold fr1 preW
  rw [first3 (by omega), show (4 + (p : Int)) = ((4 + p : Nat) : Int) by omega]
  rfl
theorem fr2_at (d : Dk) (rep : Int) (hq : q < 48) : fr2 d rep 4 q = if (readD d ((28 + 2 * q : Nat) : Int)).2 ≠ 0 ∨ (readD d ((28 + 2 * q + 1 : Nat) : Int)).2 ≠ 0 then (2, zeroTg, []) else mineF ((readD d ((28 + 2 * q : Nat) : Int)).1 ++ (readD d ((28 + 2 * q + 1 : Nat) : Int)).1) rep 4 q := by
  unfold fr2 preW
  rw [first4 (by omega), show (28 + 2 * (q : Int)) = ((28 + 2 * q : Nat) : Int) by omega, show (((28 + 2 * q : Nat) : Int) + 1) = ((28 + 2 * q + 1 : Nat) : Int) by omega]
  rfl
theorem ask3 (hl : d.pl.length = 156) (hr : 0 ≤ s.rep ∧ s.rep ≤ 6) (hp : p < 24) : askG d s.rep 3 p = 0 := ask_of hl hr (by rw [first3 (by omega)]; omega)
theorem ask4 (hl : d.pl.length = 156) (hr : 0 ≤ s.rep ∧ s.rep ≤ 6) (hq : q < 48) : askG d s.rep 4 q = 0 := ask_of hl hr (by rw [first4 (by omega)]; omega)
theorem fr1_same (hc : CleanL d.pl) (hL : Live d) (hf : Flt d d') (hr : 0 ≤ s.rep ∧ s.rep ≤ 6) (hp : p < 24) (h : (placeG d' s.rep 3 p).1 = false) : fr1 d' s.rep 3 p = fr1 d s.rep 3 p := by
  have hu := place_unhurt hc hL hf (ask3 hf.live.len hr hp) h 0 (by decide)
  rw [fst3 hp, Nat.add_zero] at hu
  rw [fr1_at d' _ hp, fr1_at d _ hp, hu]
theorem fr2_same (hc : CleanL d.pl) (hL : Live d) (hf : Flt d d') (hr : 0 ≤ s.rep ∧ s.rep ≤ 6) (hq : q < 48) (h : (placeG d' s.rep 4 q).1 = false) : fr2 d' s.rep 4 q = fr2 d s.rep 4 q := by
  have hu0 := place_unhurt hc hL hf (ask4 hf.live.len hr hq) h 0 (by decide)
  have hu1 := place_unhurt hc hL hf (ask4 hf.live.len hr hq) h 1 (by decide)
  rw [fst4 hq] at hu0 hu1
  rw [Nat.add_zero] at hu0
  rw [fr2_at d' _ hq, fr2_at d _ hq, hu0, hu1]
theorem seen3 (hs : seenG d s.rep = (true, 0)) (hp : p < 24) (h : (placeG d s.rep 3 p).1 = true) : (placeG d s.rep 3 p).2.1 = true :=
  (seen_all hs (r := 3) (p := p) (by omega) (by omega) (by show p < 24; exact hp)).symm.trans h
theorem seen4 (hs : seenG d s.rep = (true, 0)) (hq : q < 48) (h : (placeG d s.rep 4 q).1 = true) : (placeG d s.rep 4 q).2.1 = true :=
  (seen_all hs (r := 4) (p := q) (by omega) (by omega) (by show q < 48; exact hq)).symm.trans h
theorem fr1_hurt (hL : Live d) (hs : seenG d s.rep = (true, 0)) (hr : 0 ≤ s.rep ∧ s.rep ≤ 6) (hp : p < 24) (h : (placeG d s.rep 3 p).1 = true) : fr1 d s.rep 3 p = (2, zeroTg, []) := by
  have hx := place_seen hL (ask3 hL.len hr hp) (seen3 hs hp h)
  rw [fst3 hp] at hx
  rw [fr1_at d _ hp]
  rcases hx with ⟨k, hk, h1⟩ | ⟨h1, h2⟩
  · obtain rfl : k = 0 := by have : k < 1 := hk; omega
    rw [Nat.add_zero] at h1
    rw [h1, if_pos (by simp)]
  · have h0 := h1 0 (by decide)
    rw [Nat.add_zero] at h0
    rw [if_neg (by rw [h0]; simp)]
    refine mine_bad ?_
    have e1 : allG (fun s => (readD d s).1) (4 + p) (wideN 3).toNat = (readD d ((4 + p : Nat) : Int)).1 := by
      show allG (fun s => (readD d s).1) (4 + p) 1 = _
      rw [allG_succ, allG_zero, List.nil_append, Nat.add_zero]
    rw [e1] at h2
    exact h2
theorem fr2_hurt (hL : Live d) (hs : seenG d s.rep = (true, 0)) (hr : 0 ≤ s.rep ∧ s.rep ≤ 6) (hq : q < 48) (h : (placeG d s.rep 4 q).1 = true) : fr2 d s.rep 4 q = (2, zeroTg, []) := by
  have hx := place_seen hL (ask4 hL.len hr hq) (seen4 hs hq h)
  rw [fst4 hq] at hx
  rw [fr2_at d _ hq]
  rcases hx with ⟨k, hk, h1⟩ | ⟨h1, h2⟩
  · rcases (show k = 0 ∨ k = 1 by have : k < 2 := hk; omega) with rfl | rfl
    · rw [Nat.add_zero] at h1
      rw [h1, if_pos (.inl (by simp))]
    · rw [if_pos (.inr (by rw [h1]; simp))]
  · have h0 := h1 0 (by decide)
    have h1' := h1 1 (by decide)
    rw [Nat.add_zero] at h0
    rw [if_neg (by rw [h0, h1']; simp)]
    refine mine_bad ?_
    have e1 : allG (fun s => (readD d s).1) (28 + 2 * q) (wideN 4).toNat = (readD d ((28 + 2 * q : Nat) : Int)).1 ++ (readD d ((28 + 2 * q + 1 : Nat) : Int)).1 := by
      show allG (fun s => (readD d s).1) (28 + 2 * q) 2 = _
      rw [allG_succ, allG_succ, allG_zero, List.nil_append, Nat.add_zero]
    rw [e1] at h2
    exact h2
structure Nth (d d' : Dk) (s : Lg) (p : Nat) : Prop where
  r : ((placeG d' s.rep 3 p).1 = false ∧ recOf (fr1 d' s.rep 3 p) = recOf (fr1 d s.rep 3 p)) ∨ ((placeG d' s.rep 3 p).1 = true ∧ recOf (fr1 d' s.rep 3 p) = zRec 2)
  f : ∀ k : Nat, k < 2 → ((placeG d' s.rep 4 (2 * p + k)).1 = false ∧ cpOf (fr2 d' s.rep 4 (2 * p + k)) = cpOf (fr2 d s.rep 4 (2 * p + k))) ∨ ((placeG d' s.rep 4 (2 * p + k)).1 = true ∧ cpOf (fr2 d' s.rep 4 (2 * p + k)) = zCp 2)
theorem nth_of (hc : CleanL d.pl) (hL : Live d) (hf : Flt d d') (hs : seenG d' s.rep = (true, 0)) (hr : 0 ≤ s.rep ∧ s.rep ≤ 6) (hp : p < 24) : Nth d d' s p := by
  refine ⟨?_, fun k hk => ?_⟩
  · cases h : (placeG d' s.rep 3 p).1
    · exact .inl ⟨rfl, by rw [fr1_same hc hL hf hr hp h]⟩
    · refine .inr ⟨rfl, ?_⟩
      rw [fr1_hurt hf.live hs hr hp h]
      rfl
  · have e : (2 * (p : Int) + (k : Int)) = ((2 * p + k : Nat) : Int) := by omega
    rw [e]
    cases h : (placeG d' s.rep 4 ((2 * p + k : Nat) : Int)).1
    · exact .inl ⟨rfl, by rw [fr2_same hc hL hf hr (by omega) h]⟩
    · refine .inr ⟨rfl, ?_⟩
      rw [fr2_hurt hf.live hs hr (by omega) h]
      rfl
theorem slot_of (d : Dk) (s : Lg) (hp : plW i = p) : recW d s i = recOf (fr1 d s.rep 3 p) ∧ ∀ k : Nat, ffW d s i k = cpOf (fr2 d s.rep 4 (2 * p + k)) := by
  unfold recW ffW cpW
  rw [hp]
  exact ⟨rfl, fun _ => rfl⟩
theorem nothing_no (hn : PlNo d s p) (h : Nth d d' s p) (hp : plW i = p) : (repW d' s i).1 ≠ 3 := by
  obtain ⟨e1, e2⟩ := slot_of d' s hp
  have h0 : (ffW d' s i 0).st ≠ 1 := by
    rw [e2 0]
    rcases h.f 0 (by omega) with ⟨_, h⟩ | ⟨_, h⟩
    · rw [h, hn.f 0 (by omega)]; simp [zCp]
    · rw [h]; simp [zCp]
  have h1 : (ffW d' s i 1).st ≠ 1 := by
    rw [e2 1]
    rcases h.f 1 (by omega) with ⟨_, h⟩ | ⟨_, h⟩
    · rw [h, hn.f 1 (by omega)]; simp [zCp]
    · rw [h]; simp [zCp]
  have o0 : ofS (ffW d' s i 0) i = false := by unfold ofS; simp [h0]
  have o1 : ofS (ffW d' s i 1) i = false := by unfold ofS; simp [h1]
  have hno : ∀ (first : Nat) (least : Bal), first < 2 → bestS (ffW d' s i) i first least = none := fun first least hf => by
    rcases (show first = 0 ∨ first = 1 by omega) with rfl | rfl
    · exact best_none o0 o1
    · exact best_none o1 o0
  have hin : intactS (recW d' s i) (ffW d' s i) i = none := by
    unfold intactS
    split
    · exact hno _ _ (by omega)
    · split
      · rfl
      · exact hno _ _ (by omega)
  unfold repW whatS
  rw [hin]
  simp only
  repeat' split
  all_goals (simp)
theorem bad_of {f : Nat → SCp} {k : Nat} (hk : k < 2) (h : (f k).st = 2) : badS f = true := by
  unfold badS
  rcases (show k = 0 ∨ k = 1 by omega) with rfl | rfl
  · simp [h]
  · simp [h]
theorem best_k {f : Nat → SCp} {k : Nat} (hk : k < 2) (h1 : ofS (f k) i = true) (h2 : lessB (f k).bal minBal = false) (h3 : ofS (f (1 - k)) i = false ∨ lessB (f (1 - k)).bal (f k).bal = true) : bestS f i 0 minBal = some k := by
  have h4 : ofS (f (1 - k)) i = false ∨ lessB (f k).bal (f (1 - k)).bal = false := h3.imp id less_asym
  rcases (show k = 0 ∨ k = 1 by omega) with rfl | rfl
  · exact best_first h1 h2 h4
  · by_cases hx : ofS (f 0) i = true ∧ lessB (f 0).bal minBal = false
    · have h5 : lessB (f 0).bal (f 1).bal = true := h3.resolve_left (by rw [show 1 - 1 = 0 from rfl, hx.1]; simp)
      unfold bestS
      have e : stepS f i minBal none 0 = some 0 := by
        unfold stepS
        rw [if_pos (by simp [hx.1, hx.2])]
      rw [e]
      unfold stepS
      rw [if_pos (by simp [h1, h2, h5])]
    · refine best_other ?_ h1 h2
      cases ho : ofS (f 0) i
      · exact .inl rfl
      · refine .inr ?_
        cases hl : lessB (f 0).bal minBal
        · exact absurd ⟨ho, hl⟩ hx
        · rfl
theorem min_not {a : Bal} (h : mayBl a = true) : lessB a minBal = false := by
  unfold mayBl at h
  unfold lessB minBal
  simp only [Bool.or_eq_false_iff, Bool.and_eq_false_iff, decide_eq_false_iff_not, beq_eq_false_iff_ne]
  simp only [Bool.and_eq_true, decide_eq_true_eq] at h
  omega
theorem nothing_is (hi : PlIs d s p i b e k) (h : Nth d d' s p) (hp : plW i = p) (hb : mayBl b = true) :
    (repW d' s i = (3, 2, b, e)) ∨ ((repW d' s i).1 = 2 ∧ ((placeG d' s.rep 3 p).1 = true ∨ (placeG d' s.rep 4 (2 * p)).1 = true ∨ (placeG d' s.rep 4 (2 * p + 1)).1 = true)) := by
  obtain ⟨e1, e2⟩ := slot_of d' s hp
  have hk := hi.k2
  have hfk := h.f k hk
  have hfo := h.f (1 - k) (by omega)
  rw [← e2 k, hi.f] at hfk
  rw [← e2 (1 - k)] at hfo
  have hr := h.r
  rw [← e1, hi.r] at hr
  have hko : ∀ x : Bool, (placeG d' s.rep 4 (2 * (p : Int) + (k : Int))).1 = x → x = true → (placeG d' s.rep 4 (2 * p)).1 = true ∨ (placeG d' s.rep 4 (2 * p + 1)).1 = true := fun x h1 h2 => by
    rw [h2] at h1
    rcases (show k = 0 ∨ k = 1 by omega) with rfl | rfl
    · left; simpa using h1
    · right; simpa using h1
  have hof : OldIs (ffW d' s i (1 - k)) i b ∨ (ffW d' s i (1 - k)) = zCp 2 := by
    rcases hfo with ⟨_, ho⟩ | ⟨_, ho⟩
    · left; rw [ho]; exact hi.o
    · exact .inr ho
  -- the other frame
  have hoth : ofS (ffW d' s i (1 - k)) i = false ∨ lessB (ffW d' s i (1 - k)).bal b = true := by
    rcases hof with ho | ho
    · rcases ho with ho | ⟨_, h2 | ⟨_, h3⟩⟩
      · left; rw [ho]; rfl
      · left
        unfold ofS
        rw [Bool.and_eq_false_iff]
        exact .inr (by rw [beq_eq_false_iff_ne]; omega)
      · exact .inr h3
    · left; rw [ho]; rfl
  have hbey : ∀ r : SRec, (r.st = 1 → r.idx = i) → ((ffW d' s i k) = ⟨1, i, b, e⟩ ∨ ffW d' s i k = zCp 2) → beyondS r (ffW d' s i) i = false := fun r hr hf => by
    have a0 : ((ffW d' s i k).st == 1 && decide (i < (ffW d' s i k).idx)) = false := by
      rcases hf with hf | hf
      · rw [hf]; simp
      · rw [hf]; rfl
    have a1 : ((ffW d' s i (1 - k)).st == 1 && decide (i < (ffW d' s i (1 - k)).idx)) = false := by
      rcases hof with ho | ho
      · rcases old_idx ho with ho | ⟨ho, h2⟩
        · rw [ho]; rfl
        · rw [Bool.and_eq_false_iff]
          exact .inr (decide_eq_false (by omega))
      · rw [ho]; rfl
    have a2 : (r.st == 1 && decide (i < r.idx)) = false := by
      rw [Bool.and_eq_false_iff]
      by_cases h1 : r.st = 1
      · exact .inr (decide_eq_false (by rw [hr h1]; omega))
      · exact .inl (by rw [beq_eq_false_iff_ne]; exact h1)
    unfold beyondS
    rw [a2]
    rcases (show k = 0 ∨ k = 1 by omega) with rfl | rfl
    · rw [a0]; rw [show 1 - 0 = 1 from rfl] at a1; rw [a1]; rfl
    · rw [a0]; rw [show 1 - 1 = 0 from rfl] at a1; rw [a1]; rfl
  rcases hr with ⟨_, hr⟩ | ⟨hh, hr⟩
  · rcases hfk with ⟨_, hfk⟩ | ⟨hh, hfk⟩
    · left
      have hin : intactS (recW d' s i) (ffW d' s i) i = some k := by
        refine intact_named (k := k) (by rw [hr]) (by rw [hr]) (by rw [hr]; simp only; omega) (by rw [hfk]; unfold ofS; simp) (by rw [hr, hfk]) ?_
        rw [hr]
        exact hoth.imp id less_asym
      unfold repW whatS
      rw [hin]
      simp only
      rw [hfk]
    · right
      have hn : bestS (ffW d' s i) i ((k : Int) % 2).toNat b = none := by
        have hko2 : ((k : Int) % 2).toNat = k := by omega
        rw [hko2]
        have ok : ofS (ffW d' s i k) i = false := by rw [hfk]; rfl
        unfold bestS stepS
        rcases hoth with ho | ho
        · simp [ok, ho]
        · simp [ok, ho]
      have hin : intactS (recW d' s i) (ffW d' s i) i = none := by
        unfold intactS
        rw [hr, if_pos ⟨rfl, rfl⟩]
        exact hn
      refine ⟨?_, .inr (hko _ hh rfl)⟩
      unfold repW whatS
      rw [hin]
      simp only
      rw [if_pos (by rw [hr]; exact ⟨rfl, rfl⟩)]
  · by_cases hbd : badS (ffW d' s i) = true
    · right
      refine ⟨?_, .inl hh⟩
      have hfk2 : (ffW d' s i k) = ⟨1, i, b, e⟩ ∨ ffW d' s i k = zCp 2 := hfk.imp (·.2) (·.2)
      have hin : intactS (recW d' s i) (ffW d' s i) i = none := by
        unfold intactS
        rw [hr, if_neg (by simp [zRec]), if_pos (.inr ⟨rfl, hbd⟩)]
      have hby := hbey (recW d' s i) (by rw [hr]; simp [zRec]) hfk2
      unfold repW whatS
      rw [hin]
      simp only
      rw [if_neg (by rw [hr]; simp [zRec]), if_neg (by rw [hby]; simp), if_neg (by rw [hr]; simp [zRec]), if_pos hbd]
    · left
      have hfk2 : ffW d' s i k = ⟨1, i, b, e⟩ := by
        rcases hfk with ⟨_, h⟩ | ⟨_, h⟩
        · exact h
        · exact absurd (bad_of hk (by rw [h]; rfl)) hbd
      have hby := hbey (recW d' s i) (by rw [hr]; simp [zRec]) (.inl hfk2)
      have hin : intactS (recW d' s i) (ffW d' s i) i = some k := by
        unfold intactS
        rw [if_neg (by rw [hr]; simp [zRec]), if_neg (by rw [hby]; simp [hbd])]
        exact best_k hk (by rw [hfk2]; unfold ofS; simp) (by rw [hfk2]; exact min_not hb) (by rw [hfk2]; exact hoth)
      unfold repW whatS
      rw [hin]
      simp only
      rw [hfk2]
end
end Go.Proofs.YtknchbhobopkeaaGreatDoor
namespace Go.Proofs.YtknchbhobopkeaaGreatDoor
open Go.RowKit
def sN : Lg := ⟨2, 7, 0⟩
theorem sN_ok : LgOk sN := ⟨by decide, by decide, by decide⟩
def lastA (l : List Int) : Array Value := (l.map (Value.int .i64)).toArray
theorem last_at {l : List Int} {k : Nat} {x : Int} (h : l[k]? = some x) : (lastA l)[k]? = some (.int .i64 x) := by
  unfold lastA
  rw [List.getElem?_toArray, List.getElem?_map, h]
  rfl
theorem last_set {l : List Int} {k : Nat} (h : k < l.length) (x : Int) : k + 1 ≤ (lastA l).size ∧ (Value.int .i64 x).cells.size = 1 ∧ (∀ u ∈ (Value.int .i64 x).cells.toList, u.oneCell' = true) ∧ ((lastA l).toList.take k ++ (Value.int .i64 x).cells.toList ++ (lastA l).toList.drop (k + 1)).toArray = lastA (l.set k x) := by
  refine ⟨by unfold lastA; rw [List.size_toArray, List.length_map]; omega, rfl, by simp [Value.cells, Value.oneCell'], ?_⟩
  unfold lastA
  rw [List.map_set, List.set_eq_take_append_cons_drop, if_pos (by rw [List.length_map]; exact h)]
  simp [Value.cells]
structure LdN (l : List PutL) (k : Nat) (d : Dk) (La : List Int) : Prop where
  len : La.length = 25
  live : Live d
  left : d.left < 0
  clean : CleanL d.pl
  at' : ∀ p : Nat, p < 24 → (La[p + 1]? = some 0 ∧ PlNo d sN p) ∨ ∃ j kk : Nat, ∃ hj : j < l.length, j < k ∧ La[p + 1]? = some ((j : Int) + 1) ∧ PlIs d sN p ((p : Int) + 1) l[j].bal l[j].e kk
section
variable {l : List PutL} {k : Nat} {d : Dk} {La : List Int}
theorem ldn_new (l : List PutL) : LdN l 0 (newDk 156) (List.replicate 25 0) :=
  ⟨List.length_replicate, new_live156, by decide, new_clean 156, fun p hp => .inl ⟨by rw [List.getElem?_replicate, if_pos (by omega)], new_no sN hp⟩⟩
theorem LdN.skip (h : LdN l k d La) : LdN l (k + 1) d La :=
  ⟨h.len, h.live, h.left, h.clean, fun p hp => (h.at' p hp).imp id fun ⟨j, kk, hj, h1, h2⟩ => ⟨j, kk, hj, by omega, h2⟩⟩
theorem pls_clean {pl : List Pl} (h : CleanL pl) (f : Nat) (fr : List UInt8) : ∀ n, CleanL (plsW pl f fr n)
  | 0 => h
  | n + 1 => clean_set (pls_clean h f fr n) _ _
theorem after_clean (h : CleanL d.pl) (s : Lg) (j : Int) (p k : Nat) (b : Bal) (e : En) : CleanL (afterW d s j p k b e).pl := pls_clean (pls_clean h _ _ 2) _ _ 1
theorem pl_at {p : Nat} (hp : p < 24) : plW ((p : Int) + 1) = p := by unfold plW; omega
theorem LdN.next (h : LdN l k d La) {p : Nat} (hp : p < 24) (hk : k < l.length) {d' : Dk} {kk : Nat} {b : Bal} {e : En} (hk2 : kk < 2) (he : d' = afterW d sN ((p : Int) + 1) p kk b e) (hb : l[k].bal = b) (hee : l[k].e = e) (hi : PlIs d' sN p ((p : Int) + 1) b e kk) : LdN l (k + 1) d' (La.set (p + 1) ((k : Int) + 1)) := by
  subst he
  refine ⟨by rw [List.length_set]; exact h.len, after_live h.live _ _ _ _ _, h.left, after_clean h.clean _ _ _ _ _ _, fun q hq => ?_⟩
  by_cases hqp : q = p
  · subst hqp
    refine .inr ⟨k, kk, hk, by omega, List.getElem?_set_self (by rw [h.len]; omega), ?_⟩
    rw [hb, hee]
    exact hi
  · rw [List.getElem?_set_ne (by omega)]
    rcases h.at' q hq with ⟨h1, h2⟩ | ⟨j, kj, hj, h1, h2, h3⟩
    · exact .inl ⟨h1, h2.keep h.live hq hp hqp hk2 _ _ _⟩
    · exact .inr ⟨j, kj, hj, by omega, h2, h3.keep h.live hq hp hqp hk2 _ _ _⟩
theorem LdN.fresh (h : LdN l k d La) {p : Nat} (hp : p < 24) (hk : k < l.length) {b : Bal} {e : En} (hb : l[k].bal = b) (hee : l[k].e = e) (hmb : mayBl b = true) (hme : mayE e = true) (hn : PlNo d sN p) :
    ∃ d', putW d sN ((p : Int) + 1) b e = (d', 0) ∧ LdN l (k + 1) d' (La.set (p + 1) ((k : Int) + 1)) := by
  obtain ⟨e1, i1⟩ := put_no (j := (p : Int) + 1) (b' := b) (e' := e) h.live h.left sN_ok (by omega) (by omega) (pl_at hp) hmb hme hn
  exact ⟨_, e1, h.next hp hk (by omega) rfl hb hee i1⟩
theorem LdN.over (h : LdN l k d La) {p : Nat} (hp : p < 24) (hk : k < l.length) {b b0 : Bal} {e e0 : En} {kk : Nat} (hb : l[k].bal = b) (hee : l[k].e = e) (hmb : mayBl b = true) (hme : mayE e = true) (hi : PlIs d sN p ((p : Int) + 1) b0 e0 kk) (hl : lessB b0 b = true) :
    ∃ d', putW d sN ((p : Int) + 1) b e = (d', 0) ∧ LdN l (k + 1) d' (La.set (p + 1) ((k : Int) + 1)) := by
  obtain ⟨e1, i1⟩ := put_is (j := (p : Int) + 1) (b' := b) (e' := e) h.live h.left sN_ok (by omega) (by omega) (pl_at hp) hmb hme hi (.inr ⟨rfl, hl⟩)
  exact ⟨_, e1, h.next hp hk i1.k2 rfl hb hee i1⟩
theorem liveN (h : Live d) {i : Int} (h1 : 1 ≤ i) (h2 : i ≤ 24) : liveW d sN i = 0 ∧ getW d sN i = (rptW d sN i, 0) ∧ classW d sN i = ((repW d sN i).1, 0) := by
  have h3 : upD d = true := by unfold upD; simp [h.dn, h.de, h.len]
  have hl : liveW d sN i = 0 := by
    unfold liveW sN
    rw [if_neg (by simp only; omega), if_neg (by simp [h3])]
  refine ⟨hl, ?_, ?_⟩
  · unfold getW; rw [hl]; rfl
  · unfold classW; rw [hl]; rfl
end
end Go.Proofs.YtknchbhobopkeaaGreatDoor
namespace Go.Proofs.YtknchbhobopkeaaGreatDoor
open Go.RowKit
section
variable {B g gp q : Nat} {wv : Value} {d : Dk} {w w' : World} {s : Lg} {b : Bal} {e : En}
set_option maxRecDepth 100000 in
set_option maxHeartbeats 1000000 in
theorem lput_ok (h : LgB w q g s) (hd : DiskB B g gp wv d w) (hb : B ≤ w.heap.size) (hs : LgOk s) (i : Int) (hl : liveW d s i = 0) (hbm : mayBl b = true) (hem : mayE e = true) (hw : d.waits.length ≤ 900) : Calls Tryz.prog 9 #[.pointer (some ⟨q, 0, none⟩), .int .i64 i, .agg (blA b), .agg (enA e)] w fun en w' => en = .returned (.int .i64 (putW d s i b e).2) ∧ (∃ wv', DiskB B g gp wv' (putW d s i b e).1 w') ∧ Kt B w w' := by
  obtain ⟨h1, h2, _⟩ := live_in hs hl
  have hli := fun w' (h : LgB w' q g s) (D : DiskB B g gp wv d w') => llive_any2 h D hs.p i
  rw [hl] at hli
  have hpr := fun w => eprint_ok (w := w) (b := b) (e := e) hbm hem
  have hre := fun w' (h : LgB w' q g s) (D : DiskB B g gp wv d w') => wread_any h D i h1 h2
  have hwh : (recW d s i).wh = 0 ∨ (recW d s i).wh = 1 := recOf_wh _
  have hnx := fun w => next_any2 (p := recW d s i) (f := ffW d s i) (i := i) hwh w
  have hk2 := nextS_lt (recW d s i) (ffW d s i) i
  have hpl := fun w => wplace_any i h1 h2 w
  have hbl := bodyE_len b hem
  obtain ⟨r, hr⟩ : ∃ r, putW d s i b e = r := ⟨_, rfl⟩
  rw [hr]
  unfold putW at hr
  generalize recW d s i = p at *
  generalize ffW d s i = f at *
  obtain ⟨k, hk⟩ : ∃ k, nextS p f i = k := ⟨_, rfl⟩
  rw [hk] at hr hnx hk2
  have hsp := fun w => sprint_ok (w := w) (b := b) hbm k hk2
  have hmy4 := mayT4 hs h1 h2 hk2
  have hmy3 := mayT3 hs h1 h2
  have hpin := plW_in (i := i)
  have hf4 := first4 (p := 2 * plW i + k) (by omega)
  have hf3 := first3 hpin
  have hW4 := fun w' (L : LgB w' q g s) (D : DiskB B g gp wv d w') hB a cap S => lwrite2_any (f := firstN 4 (2 * plW i + k)) L D hB rfl (by omega) (by omega) i a cap (bodyE b e) S hmy4 (by omega)
  have ht4 := lputD_wt d (firstN 4 (2 * plW i + k)) (frmL s i k b e) 2
  unfold putL1 putL2 at hr
  obtain ⟨r4, hr4⟩ : ∃ r4, lputD d (firstN 4 (2 * plW i + k)) (frmL s i k b e) 2 = r4 := ⟨_, rfl⟩
  rw [show sealF ⟨s.rep, 4, 2 * plW i + k, i, s.inc⟩ (bodyE b e) 128 = frmL s i k b e from rfl, hr4] at hW4
  rw [hr4] at hr ht4
  have hW3 := fun w' wv' (L : LgB w' q g s) (D : DiskB B g gp wv' r4.1 w') hB a cap S => lwrite1_any (f := firstN 3 (plW i)) L D hB rfl (by omega) (by omega) i a cap (recB b k) S hmy3 (by rw [recB_len]; omega)
  obtain ⟨r3, hr3⟩ : ∃ r3, lputD r4.1 (firstN 3 (plW i)) (frmR s i k b) 1 = r3 := ⟨_, rfl⟩
  rw [show sealF ⟨s.rep, 3, plW i, i, s.inc⟩ (recB b k) 64 = frmR s i k b from rfl, hr3] at hW3
  rw [hr3] at hr
  have HR := Lib.hid hr
  have hki : 0 ≤ (k : Int) ∧ (k : Int) < 2 := by omega
  clear hr hr3 hr4 ht4 hf3 hf4 hmy3 hmy4 hk hwh hbl hs hl hbm hem
  generalize plW i = pp at *
  generalize bodyE b e = body at *
  generalize recB b k = rbd at *
  generalize (k : Int) = ki at *
  have hbB := blw w (Obj.cells (blA b) 32)
  have hb0 := hbB.trans ((blw (w.alloc (Obj.cells (blA b) 32)) (Obj.cells (enA e) 36)).mono hbB.size)
  have Bx : ((w.alloc (Obj.cells (blA b) 32)).alloc (Obj.cells (enA e) 36)).heap[w.heap.size]? = some (.cells (blA b) 32 (0, 0)) := tr_al (Obj.cells (enA e) 36) (heap_alloc_new w (Obj.cells (blA b) 32))
  have Ex : ((w.alloc (Obj.cells (blA b) 32)).alloc (Obj.cells (enA e) 36)).heap[w.heap.size + 1]? = some (.cells (enA e) 36 (0, 0)) := new_two w (Obj.cells (blA b) 32) (Obj.cells (enA e) 36)
  have L0 := h.below hb0
  have D0 := hd.below hb0
  go_enter Tryz.func9, Tryz.ntmps9
  refine wp_seq_k (fun K hK => ?_)
  have HK := Lib.hid hK
  clear hK
  go_wp2
  refine HK.out _ _ ?_
  clear HK
  generalize (w.alloc (Obj.cells (blA b) 32)).alloc (Obj.cells (enA e) 36) = w0 at *
  clear h hd hbB
  refine wp_seq_k (fun K hK => ?_)
  have HK := Lib.hid hK
  clear hK
  go_wp2_with (go_at_call 29; refine (hli _ L0 D0).mono ?_; rintro en w1 ⟨rfl, rfl⟩)
  refine HK.out _ _ ?_
  clear HK
  refine wp_seq_k (fun K hK => ?_)
  have HK := Lib.hid hK
  clear hK
  go_wp2
  refine HK.out _ _ ?_
  clear HK
  refine wp_seq_k (fun K hK => ?_)
  have HK := Lib.hid hK
  clear hK
  go_wp2_with (first
      | ((with_reducible refine wpList_ldB 32 _ ?_); refine ⟨rfl, _, ⟨_, _, _, _, _, Tryz.isAgg32, Tryz.sizeOf32, rfl, ‹_›, arr_all rfl⟩, ?_⟩)
      | ((with_reducible refine wpList_ldB 36 _ ?_); refine ⟨rfl, _, ⟨_, _, _, _, _, Tryz.isAgg36, Tryz.sizeOf36, rfl, ‹_›, arr_all rfl⟩, ?_⟩)
      | (go_at_call 30; refine (hpr _).mono ?_; rintro en w2 ⟨⟨a2, c2, rfl, O2⟩, hb2⟩))
  refine HK.out _ _ ?_
  clear HK
  have L2 := L0.below hb2
  have D2 := D0.below hb2
  have B2 := tr_bl hb2 Bx
  have hx2 := hb0.trans (hb2.mono hb0.size)
  have O2 := O2.mono hb0.size
  clear L0 D0 Bx Ex hb0 hb2 hpr hli
  refine wp_seq_k (fun K hK => ?_)
  have HK := Lib.hid hK
  clear hK
  go_wp2
  refine HK.out _ _ ?_
  clear HK
  refine wp_seq_k (fun K hK => ?_)
  have HK := Lib.hid hK
  clear hK
  go_wp2_with (first
      | (go_at_call 31; refine (hre _ L2 D2).mono ?_; rintro en w4 ⟨rfl, hb6⟩; have X40 : ((w4.alloc (Obj.cells #[.int .u8 0, .int .i64 0, .int .i64 0, .int .i64 0, .int .i64 0] 79)).alloc (Obj.cells #[.int .u8 0, .int .i64 0, .int .i64 0, .int .i64 0, .int .u8 0, .int .i64 0, .int .i64 0, .int .u8 0, .string ⟨#[]⟩, .string ⟨#[]⟩, .string ⟨#[]⟩, .int .u8 0, .int .i64 0, .int .i64 0, .int .i64 0, .int .u8 0, .int .i64 0, .int .i64 0, .int .u8 0, .string ⟨#[]⟩, .string ⟨#[]⟩, .string ⟨#[]⟩] 82)).heap[w4.heap.size]? = some (.cells (recA (zRec 0)) 79 (0, 0)) := tr_al (Obj.cells #[.int .u8 0, .int .i64 0, .int .i64 0, .int .i64 0, .int .u8 0, .int .i64 0, .int .i64 0, .int .u8 0, .string ⟨#[]⟩, .string ⟨#[]⟩, .string ⟨#[]⟩, .int .u8 0, .int .i64 0, .int .i64 0, .int .i64 0, .int .u8 0, .int .i64 0, .int .i64 0, .int .u8 0, .string ⟨#[]⟩, .string ⟨#[]⟩, .string ⟨#[]⟩] 82) (heap_alloc_new w4 (Obj.cells #[.int .u8 0, .int .i64 0, .int .i64 0, .int .i64 0, .int .i64 0] 79)); have Y40 : ((w4.alloc (Obj.cells #[.int .u8 0, .int .i64 0, .int .i64 0, .int .i64 0, .int .i64 0] 79)).alloc (Obj.cells #[.int .u8 0, .int .i64 0, .int .i64 0, .int .i64 0, .int .u8 0, .int .i64 0, .int .i64 0, .int .u8 0, .string ⟨#[]⟩, .string ⟨#[]⟩, .string ⟨#[]⟩, .int .u8 0, .int .i64 0, .int .i64 0, .int .i64 0, .int .u8 0, .int .i64 0, .int .i64 0, .int .u8 0, .string ⟨#[]⟩, .string ⟨#[]⟩, .string ⟨#[]⟩] 82)).heap[w4.heap.size + 1]? = some (.cells (ffA (fun _ => zCp 0)) 82 (0, 0)) := new_two w4 (Obj.cells #[.int .u8 0, .int .i64 0, .int .i64 0, .int .i64 0, .int .i64 0] 79) (Obj.cells #[.int .u8 0, .int .i64 0, .int .i64 0, .int .i64 0, .int .u8 0, .int .i64 0, .int .i64 0, .int .u8 0, .string ⟨#[]⟩, .string ⟨#[]⟩, .string ⟨#[]⟩, .int .u8 0, .int .i64 0, .int .i64 0, .int .i64 0, .int .u8 0, .int .i64 0, .int .i64 0, .int .u8 0, .string ⟨#[]⟩, .string ⟨#[]⟩, .string ⟨#[]⟩] 82))
      | ((with_reducible refine wpList_stB 79 _ _ ?_); refine ⟨_, _, _, ⟨_, _, _, Tryz.sizeOf79, rfl, X40, rec_over _ p⟩, ?_⟩; intro w41 X41 g41; have Y41 := tr_st g41 Y40 (by omega))
      | ((with_reducible refine wpList_stB 82 _ _ ?_); refine ⟨_, _, _, ⟨_, _, _, Tryz.sizeOf82, rfl, Y41, ff_over _ f⟩, ?_⟩; intro w42 Y42 g42))
  refine HK.out _ _ ?_
  clear HK
  have X42 := tr_st g42 X41 (by omega)
  have hbb := hb6.trans (((blw w4 (Obj.cells #[.int .u8 0, .int .i64 0, .int .i64 0, .int .i64 0, .int .i64 0] 79)).trans ((blw (w4.alloc (Obj.cells #[.int .u8 0, .int .i64 0, .int .i64 0, .int .i64 0, .int .i64 0] 79)) (Obj.cells #[.int .u8 0, .int .i64 0, .int .i64 0, .int .i64 0, .int .u8 0, .int .i64 0, .int .i64 0, .int .u8 0, .string ⟨#[]⟩, .string ⟨#[]⟩, .string ⟨#[]⟩, .int .u8 0, .int .i64 0, .int .i64 0, .int .i64 0, .int .u8 0, .int .i64 0, .int .i64 0, .int .u8 0, .string ⟨#[]⟩, .string ⟨#[]⟩, .string ⟨#[]⟩] 82)).mono (blw w4 (Obj.cells #[.int .u8 0, .int .i64 0, .int .i64 0, .int .i64 0, .int .i64 0] 79)).size)).mono hb6.size)
  have hsz4 := hb6.size
  have hk42 : Below w2.heap.size w2 w42 := bls (bls hbb (Nat.le_refl _) g41 hsz4) (Nat.le_refl _) g42 (by omega)
  have L42 := L2.below hk42
  have D42 := D2.below hk42
  have B42 := tr_bl hk42 B2
  have O42 := O2.below hk42
  have hx42 := hx2.trans (hk42.mono hx2.size)
  clear hre L2 D2 B2 O2 hx2 hb6 hbb hsz4 hk42 X40 Y40 X41 Y41 g41 g42
  generalize w4.heap.size = cb at *
  refine wp_seq_k (fun K hK => ?_)
  have HK := Lib.hid hK
  clear hK
  go_wp2_with (first
      | ((with_reducible refine wpList_ldB 79 _ ?_); refine ⟨rfl, _, ⟨_, _, _, _, _, Tryz.isAgg79, Tryz.sizeOf79, rfl, ‹_›, arr_all rfl⟩, ?_⟩)
      | ((with_reducible refine wpList_ldB 82 _ ?_); refine ⟨rfl, _, ⟨_, _, _, _, _, Tryz.isAgg82, Tryz.sizeOf82, rfl, ‹_›, arr_all rfl⟩, ?_⟩)
      | (go_at_call 32; refine (hnx _).mono ?_; rintro en w5 ⟨rfl, hb7⟩))
  refine HK.out _ _ ?_
  clear HK
  have L5 := L42.below hb7
  have D5 := D42.below hb7
  have B5 := tr_bl hb7 B42
  have S5 := (O42.below hb7).slb
  have hx5 := hx42.trans (hb7.mono hx42.size)
  have hB5 := Nat.le_trans hb hx5.size
  have k5 := Kt.of hx5 hb
  clear L42 D42 B42 O42 hx42 hb7 X42 Y42 hnx hx5
  refine wp_seq_k (fun K hK => ?_)
  have HK := Lib.hid hK
  clear hK
  refine wp_seq_k (fun K hK => ?_)
  have HK := Lib.hid hK
  clear hK
  go_wp2_with (first
      | (go_at_call 34; refine (hpl _).mono ?_; rintro en w6 ⟨rfl, rfl⟩)
      | (go_at_call 33; refine (hW4 _ L5 D5 hB5 a2 c2 S5).mono ?_; rintro en w7 ⟨rfl, ⟨wv7, D7⟩, k7⟩))
  refine HK.out _ _ ?_
  clear HK
  have B7 := k7.ty _ _ _ B5 (by decide) (by decide) (by decide)
  have L7 := L5.kt k7
  have hB7 := Nat.le_trans hB5 k7.bl.size
  have k8 := k5.trans k7
  clear L5 D5 B5 S5 k5 k7 hW4 hB5
  by_cases h4 : r4.2 = 0
  case neg =>
    obtain rfl : r4 = r := by rw [← HR.out, if_pos h4]
    have e4 : (r4.2 != 0) = true := by rw [bne_iff_ne]; exact h4
    clear HR h4
    go_wp2
    go_ret
    exact ⟨rfl, ⟨_, D7⟩, k8⟩
  case pos =>
    obtain rfl : r3 = r := by rw [← HR.out, if_neg (by simp [h4])]
    rw [h4]
    clear HR h4
    go_wp2
    refine HK.out _ _ ?_
    clear HK
    refine wp_seq_k (fun K hK => ?_)
    have HK := Lib.hid hK
    clear hK
    go_wp2_with (first
          | ((with_reducible refine wpList_ldB 32 _ ?_); refine ⟨rfl, _, ⟨_, _, _, _, _, Tryz.isAgg32, Tryz.sizeOf32, rfl, ‹_›, arr_all rfl⟩, ?_⟩)
          | (go_at_call 35; refine (hsp _).mono ?_; rintro en w9 ⟨⟨a9, c9, rfl, O9⟩, hb9⟩))
    refine HK.out _ _ ?_
    clear HK
    have hW3' := hW3 w9 wv7 (L7.below hb9) (D7.below hb9) (Nat.le_trans hB7 hb9.size) a9 c9 O9.slb
    have k9 := k8.trans (Kt.of hb9 hB7)
    clear L7 D7 B7 k8 hW3 O9 hb9 hB7 hsp
    go_wp2_with (first
      | (go_at_call 34; refine (hpl _).mono ?_; rintro en w6 ⟨rfl, rfl⟩)
      | (go_at_call 33; refine hW3'.mono ?_; rintro en w10 ⟨rfl, ⟨wv10, D10⟩, k10⟩))
    go_ret
    exact ⟨rfl, ⟨_, D10⟩, k9.trans k10⟩
end
end Go.Proofs.YtknchbhobopkeaaGreatDoor
namespace Go.Proofs.YtknchbhobopkeaaGreatDoor
open Go.RowKit
theorem ne_tyA {w : World} {g j : Nat} {cs cs' : Array Value} {T T' : TypeId} (h : w.heap[g]? = some (.cells cs T (0, 0))) (h2 : w.heap[j]? = some (.cells cs' T' (0, 0))) (hn : T' ≠ T) : g ≠ j := by
  rintro rfl
  rw [h] at h2
  injection h2 with h2
  injection h2 with h3 h4
  exact hn h4.symm
theorem DiskB.otA {B g gp mb : Nat} {wv : Value} {d : Dk} {w w1 : World} {cs : Array Value} {T : TypeId} (h : DiskB B g gp wv d w) (hg : w.grownBy w1 (some mb)) (hc : w.heap[mb]? = some (.cells cs T (0, 0))) (h1 : 71 ≠ T) (h2 : 134 ≠ T) (h3 : 132 ≠ T) : DiskB B g gp wv d w1 :=
  ⟨tr_st hg h.box (ne_tyA hc h.box h1), tr_st hg h.pls (ne_tyA hc h.pls h2), owns_ne h.wts hg hc h3, h.gb, h.pb, h.n0, h.nl, h.lo, h.hi, h.ok, h.wk⟩
theorem rt_new (r : Rpt) : (Value.agg (rptA r)).cells = rptA r ∧ (rptA r).size = 11 ∧ ∀ u ∈ (rptA r).toList, u.oneCell' = true := ⟨rfl, rfl, by simp [rptA, rpA, Value.oneCell']⟩
theorem build_rp2 (i : Int) (st : Int) (w : World) : (Instr.build 44 #[(0, .int .i64 i), (1, .int .u8 st)]).run Tryz.prog w = .ok (.agg (rptA ⟨i, st, zeroL, zeroE 0⟩)) w := by kernel_rfl
theorem run_gqR (x y : Operand) (u v : Array Value) (w : World) : (eqGuard .eql 44 x y (.agg u) (.agg v)).run Tryz.prog w = .ok () w := by
  have h : Tryz.prog.eqGuardType Tryz.prog.depth 44 = false := by kernel_rfl
  unfold eqGuard
  go_simp
set_option maxRecDepth 100000 in
set_option maxHeartbeats 2000000 in
theorem lawake_any (w : World) : Calls Tryz.prog 6 #[] w fun e w' => e = .returned (.bool true) ∧ Below w.heap.size w w' := by
  obtain ⟨d1, ep, el, eg1, eg25, ec, egp, eg8, hL1⟩ := ex_wal
  have hu1 := live_up hL1
  have HEP := Lib.hid ep
  have HEL := Lib.hid el
  have HEG1 := Lib.hid eg1
  have HEG25 := Lib.hid eg25
  have HEC := Lib.hid ec
  have HEGP := Lib.hid egp
  have HEG8 := Lib.hid eg8
  have HL1 := Lib.hid hL1
  clear ep el eg1 eg25 ec egp eg8 hL1 hu1
  have hsA : LgOk sA := ⟨by decide, by decide, by decide⟩
  have hsA8 : LgOk sA8 := ⟨by decide, by decide, by decide⟩
  have HSA := Lib.hid hsA
  have HSA8 := Lib.hid hsA8
  clear hsA hsA8
  have hnw := new_any (B := w.heap.size) (w := w) 156 (by decide) (by decide) (Nat.le_refl _)
  go_enter Tryz.func6, Tryz.ntmps6
  refine wp_seq_k (fun K hK => ?_)
  have HK := Lib.hid hK
  clear hK
  go_wp2
  refine HK.out _ _ ?_
  clear HK
  refine wp_seq_k (fun K hK => ?_)
  have HK := Lib.hid hK
  clear hK
  go_wp2_with (go_at_call 7; refine hnw.mono ?_; rintro e w1 ⟨⟨g, gp, rfl, D1⟩, hb1⟩)
  refine HK.out _ _ ?_
  clear HK
  refine wp_seq_k (fun K hK => ?_)
  have HK := Lib.hid hK
  clear hK
  go_wp2
  refine HK.out _ _ ?_
  clear HK
  have hop := lopen_ok D1 3 1 0 (by show 156 ≤ (List.replicate 156 zeroPl).length; rw [List.length_replicate]; decide) ⟨by decide, by decide, by decide⟩ (live_up new_live156)
  refine wp_seq_k (fun K hK => ?_)
  have HK := Lib.hid hK
  clear hK
  go_wp2_with (go_at_call 8; refine hop.mono ?_; rintro e w2 ⟨⟨q, rfl, hq, L2⟩, hb2⟩)
  refine HK.out _ _ ?_
  clear HK
  have L2 : LgB w2 q g sA := L2
  have D2 := D1.below hb2
  have k2 := (Kt.of hb1 (Nat.le_refl _)).trans (Kt.of hb2 hb1.size)
  have hBq : w.heap.size ≤ q := Nat.le_trans hb1.size hq
  clear hnw hop D1 hb1 hb2 hq
  have hpu := fun w' (hb : Below w2.heap.size w2 w') => lput_ok (L2.below hb) (D2.below hb) (Nat.le_trans k2.bl.size hb.size) HSA.out 1 (b := ⟨1, 0⟩) (e := zeroE 1) HEL.out (by decide) may_nop (by show ([] : List (List UInt8 × Nat)).length ≤ 900; simp)
  rw [HEP.out] at hpu
  refine wp_seq_k (fun K hK => ?_)
  have HK := Lib.hid hK
  clear hK
  go_wp2_with (first
      | (go_at_call 10; refine (lnoop_any _).mono ?_; rintro e w3 ⟨rfl, hb3⟩)
      | (go_at_call 9; refine (hpu _ hb3).mono ?_; rintro e w4 ⟨rfl, ⟨wv4, D4⟩, k4⟩))
  refine HK.out _ _ ?_
  clear HK
  have L4 := (L2.below hb3).kt k4
  have kq4 := (k2.trans (Kt.of hb3 k2.bl.size)).trans k4
  clear hpu D2 L2 k2 hb3 k4
  have hg1 := fun w' (hb : Below w4.heap.size w4 w') => lget_any2 (L4.below hb) (D4.below hb) HSA.out 1
  rw [HEG1.out] at hg1
  refine wp_seq_k (fun K hK => ?_)
  have HK := Lib.hid hK
  clear hK
  go_wp2_with (first
      | (go_at_call 15; refine (hg1 _ (Below.refl _ _)).mono ?_; rintro e w5 ⟨rfl, hb5⟩)
      | ((first | (with_reducible refine wpList_stNew 44 _ _ ?_) | (with_reducible refine wp_stNew 44 _ _ ?_)); refine ⟨_, _, ⟨Tryz.sizeOf44, rfl, rt_new _⟩, rfl, ?_⟩))
  refine HK.out _ _ ?_
  clear HK
  have Q6 := heap_alloc_new w5 (Obj.cells (rptA ⟨1, 2, ⟨1, 0⟩, zeroE 1⟩) 44)
  have hb6 := hb5.trans ((blw w5 (Obj.cells (rptA ⟨1, 2, ⟨1, 0⟩, zeroE 1⟩) 44)).mono hb5.size)
  have hg2 := fun w' (hb : Below w4.heap.size w4 w') => lget_any2 (L4.below hb) (D4.below hb) HSA.out 25
  rw [HEG25.out] at hg2
  clear hg1 hb5
  generalize w5.alloc (Obj.cells (rptA ⟨1, 2, ⟨1, 0⟩, zeroE 1⟩) 44) = w6 at *
  generalize w5.heap.size = q6 at *
  refine wp_seq_k (fun K hK => ?_)
  have HK := Lib.hid hK
  clear hK
  go_wp2_with (first
      | (go_at_call 15; refine (hg2 _ hb6).mono ?_; rintro e w7 ⟨rfl, hb7⟩)
      | ((first | (with_reducible refine wpList_stNew 44 _ _ ?_) | (with_reducible refine wp_stNew 44 _ _ ?_)); refine ⟨_, _, ⟨Tryz.sizeOf44, rfl, rt_new _⟩, rfl, ?_⟩))
  refine HK.out _ _ ?_
  clear HK
  have Q8 := tr_al (Obj.cells (rptA zeroR') 44) (tr_bl hb7 Q6)
  have hb8 := (hb6.trans (hb7.mono hb6.size)).trans ((blw w7 (Obj.cells (rptA zeroR') 44)).mono (Nat.le_trans hb6.size hb7.size))
  have L8 := L4.below hb8
  have D8 := D4.below hb8
  have k8 := kq4.trans (Kt.of hb8 kq4.bl.size)
  clear hg2 hb6 hb7 Q6 hb8 L4 D4 kq4
  generalize w7.alloc (Obj.cells (rptA zeroR') 44) = w8 at *
  generalize w7.heap.size = q8 at *
  have hcu := lcut_any2 L8 8
  rw [HEC.out] at hcu
  refine wp_seq_k (fun K hK => ?_)
  have HK := Lib.hid hK
  clear hK
  go_wp2_with (go_at_call 11; refine hcu.mono ?_; rintro e w9 ⟨rfl, L9, g9⟩)
  refine HK.out _ _ ?_
  clear HK
  have D9 := D8.otA g9 L8 (by decide) (by decide) (by decide)
  have Q9 := tr_st g9 Q8 (ne_tyA L8 Q8 (by decide))
  have k9 := bl_st k8.bl g9 k8.bl.size hBq
  have L9 : LgB w9 q g sA8 := L9
  clear hcu L8 D8 Q8 k8 g9
  have hg3 := fun w' (hb : Below w9.heap.size w9 w') => lget_any2 (L9.below hb) (D9.below hb) HSA8.out 25
  rw [HEGP.out] at hg3
  refine wp_seq_k (fun K hK => ?_)
  have HK := Lib.hid hK
  clear hK
  go_wp2_with (first
      | (go_at_call 15; refine (hg3 _ (Below.refl _ _)).mono ?_; rintro e w10 ⟨rfl, hb10⟩)
      | ((first | (with_reducible refine wpList_stNew 44 _ _ ?_) | (with_reducible refine wp_stNew 44 _ _ ?_)); refine ⟨_, _, ⟨Tryz.sizeOf44, rfl, rt_new _⟩, rfl, ?_⟩))
  refine HK.out _ _ ?_
  clear HK
  have Q11 := tr_al (Obj.cells (rptA ⟨25, 1, zeroL, zeroE 0⟩) 44) (tr_bl hb10 Q9)
  have X11 := heap_alloc_new w10 (Obj.cells (rptA ⟨25, 1, zeroL, zeroE 0⟩) 44)
  have hb11 := hb10.trans ((blw w10 (Obj.cells (rptA ⟨25, 1, zeroL, zeroE 0⟩) 44)).mono hb10.size)
  have L11 := L9.below hb11
  have D11 := D9.below hb11
  have k11 := k9.trans (hb11.mono k9.size)
  clear hg3 L9 D9 Q9 k9 hb11 hb10
  generalize w10.alloc (Obj.cells (rptA ⟨25, 1, zeroL, zeroE 0⟩) 44) = w11 at *
  generalize w10.heap.size = q11 at *
  have hg4 := lget_any2 L11 D11 HSA8.out 8
  rw [HEG8.out] at hg4
  refine wp_seq_k (fun K hK => ?_)
  have HK := Lib.hid hK
  clear hK
  go_wp2_with (first
      | (go_at_call 15; refine hg4.mono ?_; rintro e w12 ⟨rfl, hb12⟩)
      | ((first | (with_reducible refine wpList_stNew 44 _ _ ?_) | (with_reducible refine wp_stNew 44 _ _ ?_)); refine ⟨_, _, ⟨Tryz.sizeOf44, rfl, rt_new _⟩, rfl, ?_⟩))
  refine HK.out _ _ ?_
  clear HK
  have Q13 := tr_al (Obj.cells (rptA zeroR') 44) (tr_bl hb12 Q11)
  have X13 := tr_al (Obj.cells (rptA zeroR') 44) (tr_bl hb12 X11)
  have hb13 := hb12.trans ((blw w12 (Obj.cells (rptA zeroR') 44)).mono hb12.size)
  have k13 := k11.trans (hb13.mono k11.size)
  clear hg4 L11 D11 Q11 X11 k11 hb13 hb12
  generalize w12.alloc (Obj.cells (rptA zeroR') 44) = w13 at *
  generalize w12.heap.size = q13 at *
  go_wp2_with fail
  refine wp_region_under (by kernel_rfl) (by kernel_rfl) ?_
  refine wpQuiet_val (by rfl) (.agg (rptA ⟨1, 2, ⟨1, 0⟩, zeroE 1⟩)) (fun wS hSw => ?_) ?_
  · obtain ⟨x, rfl⟩ := hSw; exact exec_ldB 44 _ ⟨_, _, _, _, _, Tryz.isAgg44, Tryz.sizeOf44, rfl, tr_bl (under_below _ x) Q13, arr_all rfl⟩
  (try simp only [Act.put]); (try simp only [List.setIfInBounds_toArray]); (try simp only [List.set_cons_succ]); (try simp only [List.set_cons_zero])
  go_big_quiet_step (fail)
  go_big_quiet_step ((go_at_call 10; exact under_call (lnoop_any _)))
  refine wpQuiet_val (by rfl) (.agg (rptA ⟨1, 2, ⟨1, 0⟩, zeroE 1⟩)) (fun wS hSw => ?_) ?_
  · have hb : (Instr.build 44 #[(0, .int .i64 1), (1, .int .u8 2), (2, .agg #[.int .i64 1, .int .i64 0]), (3, .agg (enA (zeroE 1)))]).run Tryz.prog wS = .ok (.agg (rptA ⟨1, 2, ⟨1, 0⟩, zeroE 1⟩)) wS := (by kernel_rfl); unfold execOp; simp [Act.eval, hb]
  (try simp only [Act.put]); (try simp only [List.setIfInBounds_toArray]); (try simp only [List.set_cons_succ]); (try simp only [List.set_cons_zero])
  refine wpQuiet_val (by rfl) (.bool true) (fun wS hSw => ?_) ?_
  · have hq := run_gqR (.tmp 60) (.tmp 63) (rptA ⟨1, 2, ⟨1, 0⟩, zeroE 1⟩) (rptA ⟨1, 2, ⟨1, 0⟩, zeroE 1⟩) wS; have he := eqRp ⟨1, 2, ⟨1, 0⟩, zeroE 1⟩ wS; unfold execOp; simp [Act.eval, hq, he]
  (try simp only [Act.put]); (try simp only [List.setIfInBounds_toArray]); (try simp only [List.set_cons_succ]); (try simp only [List.set_cons_zero])
  repeat (go_big_quiet_step (fail))
  refine wpQuiet_val (by rfl) (.agg (rptA ⟨25, 1, zeroL, zeroE 0⟩)) (fun wS hSw => ?_) ?_
  · obtain ⟨x, rfl⟩ := hSw; exact exec_ldB 44 _ ⟨_, _, _, _, _, Tryz.isAgg44, Tryz.sizeOf44, rfl, tr_bl (under_below _ x) X13, arr_all rfl⟩
  (try simp only [Act.put]); (try simp only [List.setIfInBounds_toArray]); (try simp only [List.set_cons_succ]); (try simp only [List.set_cons_zero])
  refine wpQuiet_val (by rfl) (.agg (rptA ⟨25, 1, zeroL, zeroE 0⟩)) (fun wS hSw => ?_) ?_
  · have hb := build_rp2 25 1 wS; unfold execOp; simp [Act.eval, hb]
  (try simp only [Act.put]); (try simp only [List.setIfInBounds_toArray]); (try simp only [List.set_cons_succ]); (try simp only [List.set_cons_zero])
  refine wpQuiet_val (by rfl) (.bool true) (fun wS hSw => ?_) ?_
  · have hq := run_gqR (.tmp 78) (.tmp 79) (rptA ⟨25, 1, zeroL, zeroE 0⟩) (rptA ⟨25, 1, zeroL, zeroE 0⟩) wS; have he := eqRp ⟨25, 1, zeroL, zeroE 0⟩ wS; unfold execOp; simp [Act.eval, hq, he]
  (try simp only [Act.put]); (try simp only [List.setIfInBounds_toArray]); (try simp only [List.set_cons_succ]); (try simp only [List.set_cons_zero])
  repeat (go_big_quiet_step (fail))
  refine wpQuiet_nil ?_
  intro _ hw'
  obtain ⟨xU, hw''⟩ := hw'
  subst hw''
  have hbU := under_below w13 xU
  go_wp2
  go_ret
  exact ⟨rfl, k13.trans (hbU.mono k13.size)⟩
end Go.Proofs.YtknchbhobopkeaaGreatDoor
