/- SnapPlays: whatever is done to a shelf and its disk, what each call answers, what it tells, and how many writes wait, is what the chapter says. No condition. -/
import Derived.Test.YtbdonjenekhmdaaGreatDoorZ1
import Derived.Test.YtbdonjenekhmdaaGreatDoorZ2
import Derived.Test.YtbdonjenekhmdaaGreatDoorZ3
import Derived.Test.YtbdonjenekhmdaaGreatDoorZ4
import Derived.Test.YtbdonjenekhmdaaGreatDoorZ5
import Derived.Test.YtbdonjenekhmdaaGreatDoorZ6
import Derived.Test.YtbdonjenekhmdaaGreatDoorZ7
import Derived.Test.YtbdonjenekhmdaaGreatDoorZ8
import Derived.Test.YtbdonjenekhmdaaGreatDoorZ9
import Derived.Test.YtbdonjenekhmdaaGreatDoorZ10
import Derived.Test.YtbdonjenekhmdaaGreatDoorZ11
import Derived.Test.YtbdonjenekhmdaaGreatDoorZ12
import Derived.Test.YtbdonjenekhmdaaGreatDoorZ13
import Derived.Test.YtbdonjenekhmdaaGreatDoorZ14
import Derived.Test.YtbdonjenekhmdaaGreatDoorZ15
import Derived.Test.YtbdonjenekhmdaaGreatDoorZ16
import Derived.Test.YtbdonjenekhmdaaGreatDoorZ17
import Derived.Test.YtbdonjenekhmdaaGreatDoorZ18
import Derived.Test.YtbdonjenekhmdaaGreatDoorZ19
import Derived.Test.YtbdonjenekhmdaaGreatDoorZ20
import Derived.Test.YtbdonjenekhmdaaGreatDoorRows
import Derived.Test.YtbdonjenekhmdaaGreatDoorTie
import Derived.Test.YtbdonjenekhmdaaGreatDoorCards
import Derived.ProofKit
import Derived.ChangeMaps5
import Derived.Lay
import Derived.SevenTiedAt
import Derived.Deep.Slices
import Derived.ChangeSlices
import Derived.Lib.SmallJoins
import Derived.WalkKit
import Derived.WalkSpells
import Derived.WalkLawsBesides
import Derived.Handy
import Derived.Deep.QuietTactic
import Derived.BigQuiet
import Derived.Deep.DeepCutAuto
import Derived.Lib.Hide
import Derived.RegionTactic
import Derived.ChangeAlike
import Derived.Laws.ResultCell
import Derived.Outline
import Derived.IntWalk
import Derived.Laws.BitsAllLaws
import Derived.Lib.SliceRun
import Derived.Laws.MakeOwn
import Derived.Laws.OwnMore
import Derived.Laws.IdiomStrings
import Derived.Laws.BytesArg
import Derived.Carry
import Derived.Maps.Own
import Derived.Maps.Keyed
import Derived.RangeFuncNested
import Derived.RangeFuncBound
import Derived.RangeFuncCalls
import Derived.RangeFuncLeaves
import Derived.RangeFuncBox
import Derived.RangeFuncRecord
import Derived.Shelf.Abstract
import Derived.Shelf.RegionOpen
import Derived.OwnWalkIn
import Derived.TacticsInMore
import Derived.LoopNIn
import Derived.LoopIn
import Derived.OrdersIn
import Derived.OrdersHeld
import Derived.Maps.AppendAt
import Derived.Great.BuildSlice
import Derived.Great.FillDense
import Derived.Laws.Rows
import Derived.Deep.Quiet
import Derived.Deep.RegionHeld3
import Derived.OpenShut
import Derived.Deep.RegionHeld
import Derived.Laws.CopyOwn
import Derived.Laws.CopyRow
import Derived.Laws.NewBlocks
import Derived.Deep.RegionLaw
namespace Go.Proofs.YtbdonjenekhmdaaGreatDoor
open Go.ChangeShapes Go.WideShapes Go.ChangeAt Go.RowKit
section
variable {H : Type} {enc : TypeId × Value → H} {P : Program} {w : World} {base : Nat} {spare : Nat → Bool} {held : Bool}
theorem trodAll_3u {t t' t2 : TypeId} {args : Array Value} {ds : List (DataW H)} {ps : List MemPlace} (h : DataW.TrodAll enc P w base spare held [t, t', t2] args.toList ds ps) :
  ∃ v v' v2 d d' d2 p p' p2, args = #[v, v', v2] ∧ ds = [d, d', d2] ∧ ps = p ++ (p' ++ p2) ∧ DataW.Trod enc P w base spare held t v d p ∧ DataW.Trod enc P w base spare held t' v' d' p' ∧ DataW.Trod enc P w base spare held t2 v2 d2 p2 := by
 obtain ⟨v, vs, d, ds', p, q, hargs, rfl, rfl, hd, hrest⟩ := trodAll_cons h
 obtain ⟨v', vs', d', ds'', p', q', rfl, rfl, rfl, hd', hrest'⟩ := trodAll_cons hrest
 obtain ⟨v2, vs2, d2, ds2, p2, q2, rfl, rfl, rfl, hd2, hrest2⟩ := trodAll_cons hrest'
 obtain ⟨rfl, rfl, rfl⟩ := trodAll_nil hrest2
 exact ⟨v, v', v2, d, d', d2, p, p', p2, by cases args; simp_all, rfl, by simp, hd, hd', hd2⟩
end
theorem cellsA13 : Tryz.prog.cellsOf 46 = 15 := by kernel_rfl
theorem list15u {α : Type} {l : List α} (h : l.length = 15) : ∃ a b c r, l = [a, b, c] ++ r ∧ r.length = 12 := by
 match l, h with
 | a :: b :: c :: r, h => exact ⟨a, b, c, r, rfl, by simpa using h⟩
section
variable {H : Type} {enc : TypeId × Value → H} {W : World} {sp : Nat → Bool} {hd : Bool} {b0 fuel : Nat}
set_option maxRecDepth 100000 in
theorem a13_of {cs : List Value} {x : DataW H × List MemPlace} (h : DataW.trod enc Tryz.prog W b0 sp hd fuel 46 cs = some x) : ∃ a : A7, cs = a7L a ∧ A7in W a := by
 obtain ⟨y0, y1, y2, y3, n, _, hl, h0, h1, h2, h3⟩ := Go.Joins.trod_struct4 Tryz.underlying46 h
 rw [cellsA13] at hl
 obtain ⟨a0, a1, a2, r, rfl, hr⟩ := list15u hl
 simp [cellsIn6, cellsU8, cellsSl, cellsA6] at h0 h1 h2 h3
 rw [List.take_of_length_le (by omega)] at h3
 obtain ⟨k, rfl, hk⟩ := u8_of6 h0
 obtain ⟨n1, rfl, _⟩ := int_of6 h1
 obtain ⟨ba, bc, bl, rfl, hb⟩ := bytes_of h2
 obtain ⟨o, rfl, ho⟩ := a6_of h3
 exact ⟨⟨k, n1, ba, bl, bc, o⟩, rfl, ⟨hb, ho, hk⟩⟩
end
set_option maxRecDepth 100000 in
theorem open_acts13 {H : Type} {enc : TypeId × Value → H} {W : World} {base : Nat} {sp : Nat → Bool} {hd : Bool} {b0 : Nat} {v : Value} {d : DataW H} {p : List MemPlace}
  (hv : Value.okWide Tryz.prog W .any base 22 v) (h : DataW.Trod enc Tryz.prog W b0 sp hd 22 v d p) : ∃ (a : Option Addr) (l : List A7) (cap : Nat), v = .slice a l.length cap ∧ Acts7 W a l := by
 obtain ⟨a0, len, cap, rfl⟩ := okWide_slice Tryz.underlying22 hv
 obtain ⟨fuel, hf⟩ := h
 rcases Go.Deep.open_slice Tryz.underlying22 hf with ⟨hcs, hx⟩ | ⟨a, len', cap', m, n, D, Pl, hcs, _, hl, hm, hmm, hx, hel⟩
 ·simp [Value.cells] at hcs
  obtain ⟨rfl, rfl, rfl⟩ := hcs
  exact ⟨none, [], 0, rfl, ⟨fun j hj => by simp at hj⟩⟩
 ·simp [Value.cells] at hcs
  obtain ⟨rfl, rfl, rfl⟩ := hcs
  have hlm : len ≤ m := by rw [hmm]; split <;> omega
  have hex : ∀ i, i < len → ∃ s : A7, (∀ r u, (a7L s)[r]? = some u → W.cell? (a.add (i * 15 + r)) = some u) ∧ A7in W s := by
   intro i hi
   obtain ⟨cs', hc, ht⟩ := hel i (by omega)
   rw [cellsA13] at hc
   obtain ⟨_, hlen2, hat⟩ := World.cells?_some hc
   obtain ⟨s, rfl, h2⟩ := a13_of ht
   refine ⟨s, fun r u hr => ?_, h2⟩
   have hlt := (List.getElem?_eq_some_iff.1 hr).1
   have := hat r (by simpa [a7L, a6L] using hlt)
   rw [Go.Deep.add_add] at this
   rw [this, ← hr, List.getElem?_eq_getElem hlt]
  have : Inhabited A7 := ⟨⟨0, 0, none, [], 0, ⟨false, zeroTg, none, [], 0, ⟨0, 0, 0, none, [], 0, none, [], 0⟩⟩⟩⟩
  obtain ⟨f, hf2⟩ := Go.Deep.choose_lt hex
  refine ⟨some a, (List.range len).map f, cap, by simp, ⟨fun j hj => ?_⟩⟩
  simp only [List.length_map, List.length_range] at hj
  obtain ⟨b, off, spot⟩ := a
  have hspot : spot = none := by
   have := World.cell?_spot ((hf2 0 (by omega)).1 0 _ rfl)
   simpa [Addr.add] using this
  subst hspot
  obtain ⟨h1, h2⟩ := hf2 j hj
  simp only [addr_add] at h1
  simp only [List.getElem_map, List.getElem_range]
  refine ⟨b, off, rfl, fun r u hu => ?_, h2⟩
  have := h1 r u hu
  rw [← Nat.add_assoc] at this
  exact this
theorem Tryzown : ownKnob Tryz.prog.godebug = none := by kernel_rfl
theorem Tryzlaid : laidOutB Tryz.prog = true := by kernel_rfl
set_option maxRecDepth 100000 in
theorem snapPlays_lifted (os : Os) (started : os.Started) (H : Type) (enc : TypeId × Value → H) :
  ReturnsInHanded {} Tryz.checked os 3 .any (fun w args => (Rows.snapPlaysSpec.pre enc Tryz.prog Tryz.f3 [] false w args ∧ laidMetH Tryz.prog Rows.snapPlaysRow.laid w) ∧ sizedMet enc Tryz.prog Tryz.f3 (OpenSpec.ofChange Rows.snapPlaysSpec) false w args)
   (Rows.snapPlaysSpec.post enc Tryz.prog Tryz.f3 false true false false) := by
 refine returnsInHanded_of_change_and (C := Tryz.checked) (X := fun w _ => laidMetH Tryz.prog Rows.snapPlaysRow.laid w) (fun _ _ _ hh h => h.of_heap hh) Tryzown started (by kernel_rfl) Tryz.func3
  (ChangeSpec.witness_shaped (enc := enc) (C := Tryz.checked) (os := os) (X := fun w _ => laidMetH Tryz.prog Rows.snapPlaysRow.laid w) false (World.laidAll Tryz.prog os Rows.snapPlaysRow.laid) #[.int .i64 0, .int .i64 0, .slice none 0 0] 8 (World.laidAll_os _ _ _)
   (World.shaped_of_ZipB (by kernel_rfl) (by kernel_rfl)) (by kernel_rfl) (by kernel_rfl) (by kernel_rfl)
   (by rw [MakeChecks.laidMetH_plain _ _ _ (by kernel_rfl)]; exact laidMet_laidAll _ (by kernel_rfl) (by kernel_rfl))) ?_
 intro W base args ds gs before hval0 hW _ _ _ _
 have hval : ∀ (j : Nat) t v, Tryz.f3.params[j]? = some t → args[j]? = some v → Value.okWide Tryz.prog W .any base t v := hval0
 have hW' := hW
 obtain ⟨p, q, hA0, hV, rfl, hfz, hnd⟩ := hW
 have hA : DataW.TrodAll enc Tryz.prog W 0 (fun _ => true) true Tryz.f3.params.toList args.toList ds p := hA0
 rw [Tryz.params3] at hA hval
 obtain ⟨v0, v1, v2, d0, d1, d2, p0, p1, p2, rfl, rfl, rfl, h0, h1, h2⟩ := trodAll_3u hA
 obtain ⟨rfl, rfl⟩ := trodVars_none hV
 obtain ⟨n0, rfl⟩ := okWide_int Tryz.underlying3 (hval 0 3 v0 rfl rfl)
 obtain ⟨n1, rfl⟩ := okWide_int Tryz.underlying3 (hval 1 3 v1 rfl rfl)
 obtain ⟨a, l, c, rfl, hl⟩ := open_acts13 (hval 2 22 v2 rfl rfl) h2
 clear hA0 hval0
 refine (plays13_law n0 n1 a c l W hl).mono fun e W' ⟨he, hb⟩ => ?_
 subst he
 exact ⟨_, rfl, law_post Tryzlaid (by kernel_rfl) rfl Tryz.underlying4 rfl ⟨rfl, rfl, rfl⟩ hW' hb⟩
theorem snapPlays_h1 : (Rows.snapPlaysRow.inPlace == Tryz.prog.inPlace 3) = true := by kernel_rfl
theorem snapPlays_h2 : (Rows.snapPlaysRow.unfollowed == Tryz.prog.unfollowed 3) = true := by kernel_rfl
theorem snapPlays_h3 : (Rows.snapPlaysRow.recurses == Tryz.prog.recurses 3) = true := by kernel_rfl
theorem snapPlays_h4 : (Rows.snapPlaysRow.named == Tryz.prog.varsNamed 3) = true := by kernel_rfl
theorem snapPlays_facts : joinedFacts Tryz.prog 3 Tryz.f3 Rows.snapPlaysSpec Rows.snapPlaysRow = true := by
 unfold joinedFacts
 rw [snapPlays_h1, snapPlays_h2, snapPlays_h3, snapPlays_h4]
 kernel_rfl
theorem snapPlays_holds : Rows.SnapPlaysSaid :=
 OpenClaim.holds_of_wide 3 Tryz.f3 rfl rfl rfl rfl rfl rfl rfl ⟨rfl, rfl, rfl, rfl, rfl⟩ rfl rfl rfl rfl rfl (by kernel_rfl) Tryz.func3 snapPlays_facts
  (of_decide_eq_true (by kernel_rfl)) (by unfold Func.isWrapper; first | (rw [if_pos (by decide +kernel)]; kernel_rfl) | (rw [if_neg (by decide +kernel)]; exact ⟨rfl, rfl⟩))
  (fun os started H enc _ => snapPlays_lifted os started H enc)
theorem snapPlays_card : Rows.SnapPlaysCardSaid :=
 Claim7.holds_tied_plain_at .later [] [.data, .pinned] true Rows.snapPlaysCard.stood.harness false
  snapPlays_holds (fun _ h => by cases h) (by kernel_rfl) (fun _ h => by cases h) snapPlays_row_tie rfl ⟨rfl, rfl⟩ (by kernel_rfl) rfl
  (fun f fn hf hfn => by
   obtain rfl : f = 3 := Option.some.inj ((show Tryz.prog.funcNamed Rows.snapPlaysRow.func = some 3 by kernel_rfl).symm.trans hf) |>.symm
   obtain rfl : fn = Tryz.f3 := (Option.some.inj (Tryz.func3.symm.trans hfn)).symm
   exact ⟨by kernel_rfl, fun j t ht => by
    rw [Tryz.params3] at ht
    have hm : t ∈ [3, 3, 22] := by simpa using Array.mem_of_getElem? ht
    have hall : ([3, 3, 22].all fun u => !Tryz.prog.wantsStandIn u) = true := by kernel_rfl
    exact (show Tryz.prog.wantsStandIn t = false by simpa using List.all_eq_true.1 hall t hm)⟩)
  (by kernel_rfl)
end Go.Proofs.YtbdonjenekhmdaaGreatDoor
