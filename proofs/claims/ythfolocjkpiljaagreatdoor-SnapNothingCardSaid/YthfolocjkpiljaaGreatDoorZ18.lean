/- SnapNothing: whatever faults come, if all that is hurt is seen, a shelf that is opened has the snapshot that was installed last, and tells its bytes, or which chunks are hurt. No condition. -/
import Derived.Test.YthfolocjkpiljaaGreatDoorZ1
import Derived.Test.YthfolocjkpiljaaGreatDoorZ2
import Derived.Test.YthfolocjkpiljaaGreatDoorZ3
import Derived.Test.YthfolocjkpiljaaGreatDoorZ4
import Derived.Test.YthfolocjkpiljaaGreatDoorZ5
import Derived.Test.YthfolocjkpiljaaGreatDoorZ6
import Derived.Test.YthfolocjkpiljaaGreatDoorZ7
import Derived.Test.YthfolocjkpiljaaGreatDoorZ8
import Derived.Test.YthfolocjkpiljaaGreatDoorZ9
import Derived.Test.YthfolocjkpiljaaGreatDoorZ10
import Derived.Test.YthfolocjkpiljaaGreatDoorZ11
import Derived.Test.YthfolocjkpiljaaGreatDoorZ12
import Derived.Test.YthfolocjkpiljaaGreatDoorZ13
import Derived.Test.YthfolocjkpiljaaGreatDoorZ14
import Derived.Test.YthfolocjkpiljaaGreatDoorZ15
import Derived.Test.YthfolocjkpiljaaGreatDoorZ16
import Derived.Test.YthfolocjkpiljaaGreatDoorZ17
import Derived.Test.YthfolocjkpiljaaGreatDoorRows
import Derived.Test.YthfolocjkpiljaaGreatDoorTie
import Derived.Test.YthfolocjkpiljaaGreatDoorCards
import Derived.ProofKit
import Derived.ChangeMaps5
import Derived.Lay
import Derived.SevenTiedAt
import Derived.WalkKit
import Derived.WalkSpells
import Derived.WalkLawsBesides
import Derived.Handy
import Derived.Deep.QuietTactic
import Derived.BigQuiet
import Derived.Deep.DeepCutAuto
import Derived.Lib.Hide
import Derived.RegionTactic
import Derived.ChangeAlike
import Derived.Shelf.Abstract
import Derived.Shelf.RegionOpen
import Derived.OwnWalkIn
import Derived.TacticsInMore
import Derived.LoopNIn
import Derived.LoopIn
import Derived.Laws.ResultCell
import Derived.Outline
import Derived.IntWalk
import Derived.Deep.Slices
import Derived.Maps.AppendAt
import Derived.Lib.SliceRun
import Derived.Laws.IdiomStrings
import Derived.Laws.BytesArg
import Derived.Carry
import Derived.Maps.Own
import Derived.Maps.Keyed
import Derived.RangeFuncNested
import Derived.RangeFuncBound
import Derived.RangeFuncCalls
import Derived.RangeFuncLeaves
import Derived.RangeFuncBox
import Derived.RangeFuncRecord
import Derived.OrdersIn
import Derived.OrdersHeld
import Derived.Laws.MakeOwn
import Derived.Laws.BitsAllLaws
import Derived.Great.BuildSlice
import Derived.Great.FillDense
import Derived.Laws.Rows
import Derived.Deep.Quiet
import Derived.Deep.RegionHeld3
import Derived.OpenShut
import Derived.Laws.CopyOwn
import Derived.Laws.CopyRow
import Derived.Laws.NewBlocks
import Derived.Deep.RegionLaw
import Derived.ChangeSlices
import Derived.Lib.SmallJoins
namespace Go.Proofs.YthfolocjkpiljaaGreatDoor
open Go.ChangeShapes Go.WideShapes Go.ChangeAt Go.RowKit

theorem Tryzown : ownKnob Tryz.prog.godebug = none := by kernel_rfl
theorem Tryzlaid : laidOutB Tryz.prog = true := by kernel_rfl

set_option maxRecDepth 100000 in
theorem snapNothing_lifted (os : Os) (started : os.Started) (H : Type) (enc : TypeId × Value → H) :
    ReturnsInHanded {} Tryz.checked os 12 .any (fun w args => (Rows.snapNothingSpec.pre enc Tryz.prog Tryz.f12 [] false w args ∧ laidMetH Tryz.prog Rows.snapNothingRow.laid w) ∧ sizedMet enc Tryz.prog Tryz.f12 (OpenSpec.ofChange Rows.snapNothingSpec) false w args)
      (Rows.snapNothingSpec.post enc Tryz.prog Tryz.f12 false true false false) := by
  refine returnsInHanded_of_change_and (C := Tryz.checked) (X := fun w _ => laidMetH Tryz.prog Rows.snapNothingRow.laid w) (fun _ _ _ hh h => h.of_heap hh) Tryzown started (by kernel_rfl) Tryz.func12
    (ChangeSpec.witness_shaped (enc := enc) (C := Tryz.checked) (os := os) (X := fun w _ => laidMetH Tryz.prog Rows.snapNothingRow.laid w) false (World.laidAll Tryz.prog os Rows.snapNothingRow.laid) #[.slice none 0 0, .slice none 0 0] 8 (World.laidAll_os _ _ _)
      (World.shaped_of_ZipB (by kernel_rfl) (by kernel_rfl)) (by kernel_rfl) (by kernel_rfl) (by kernel_rfl)
      (by rw [MakeChecks.laidMetH_plain _ _ _ (by kernel_rfl)]; exact laidMet_laidAll _ (by kernel_rfl) (by kernel_rfl))) ?_
  intro W base args ds gs before hval0 hW _ _ _ _
  have hval : ∀ (j : Nat) t v, Tryz.f12.params[j]? = some t → args[j]? = some v → Value.okWide Tryz.prog W .any base t v := hval0
  have hW' := hW
  obtain ⟨p, q, hA0, hV, rfl, hfz, hnd⟩ := hW
  have hA : DataW.TrodAll enc Tryz.prog W 0 (fun _ => true) true Tryz.f12.params.toList args.toList ds p := hA0
  rw [Tryz.params12] at hA hval
  obtain ⟨v0, v1, d0, d1, p0, p1, rfl, rfl, rfl, h0, h1⟩ := trodAll_2 hA
  obtain ⟨rfl, rfl⟩ := trodVars_none hV
  obtain ⟨a, ls, c, rfl, hl⟩ := open_parts (hval 0 92 v0 rfl rfl) h0
  obtain ⟨fa, fs, fc, rfl, hfs⟩ := open_flts (hval 1 160 v1 rfl rfl) h1
  clear hA0 hval0
  refine (nothing_law a fa c fc ls fs W hl hfs).mono fun e W' ⟨he, hb⟩ => ?_
  subst he
  exact ⟨_, rfl, law_post Tryzlaid (by kernel_rfl) rfl Tryz.underlying4 rfl ⟨rfl, rfl, rfl⟩ hW' hb⟩

theorem snapNothing_h1 : (Rows.snapNothingRow.inPlace == Tryz.prog.inPlace 12) = true := by kernel_rfl
theorem snapNothing_h2 : (Rows.snapNothingRow.unfollowed == Tryz.prog.unfollowed 12) = true := by kernel_rfl
theorem snapNothing_h3 : (Rows.snapNothingRow.recurses == Tryz.prog.recurses 12) = true := by kernel_rfl
theorem snapNothing_h4 : (Rows.snapNothingRow.named == Tryz.prog.varsNamed 12) = true := by kernel_rfl
theorem snapNothing_facts : joinedFacts Tryz.prog 12 Tryz.f12 Rows.snapNothingSpec Rows.snapNothingRow = true := by
  unfold joinedFacts
  rw [snapNothing_h1, snapNothing_h2, snapNothing_h3, snapNothing_h4]
  kernel_rfl
theorem snapNothing_holds : Rows.SnapNothingSaid :=
  OpenClaim.holds_of_wide 12 Tryz.f12 rfl rfl rfl rfl rfl rfl rfl ⟨rfl, rfl, rfl, rfl, rfl⟩ rfl rfl rfl rfl rfl (by kernel_rfl) Tryz.func12 snapNothing_facts
    (of_decide_eq_true (by kernel_rfl)) (by unfold Func.isWrapper; first | (rw [if_pos (by decide +kernel)]; kernel_rfl) | (rw [if_neg (by decide +kernel)]; exact ⟨rfl, rfl⟩))
    (fun os started H enc _ => snapNothing_lifted os started H enc)

theorem snapNothing_card : Rows.SnapNothingCardSaid :=
  Claim7.holds_tied_plain_at .later [] [.data, .pinned] true Rows.snapNothingCard.stood.harness false
    snapNothing_holds (fun _ h => by cases h) (by kernel_rfl) (fun _ h => by cases h) snapNothing_row_tie rfl ⟨rfl, rfl⟩ (by kernel_rfl) rfl
    (fun f fn hf hfn => by
      obtain rfl : f = 12 := Option.some.inj ((show Tryz.prog.funcNamed Rows.snapNothingRow.func = some 12 by kernel_rfl).symm.trans hf) |>.symm
      obtain rfl : fn = Tryz.f12 := (Option.some.inj (Tryz.func12.symm.trans hfn)).symm
      exact ⟨by kernel_rfl, fun j t ht => by
        rw [Tryz.params12] at ht
        have hm : t ∈ [92, 160] := by simpa using Array.mem_of_getElem? ht
        have hall : ([92, 160].all fun u => !Tryz.prog.wantsStandIn u) = true := by kernel_rfl
        exact (show Tryz.prog.wantsStandIn t = false by simpa using List.all_eq_true.1 hall t hm)⟩)
    (by kernel_rfl)
end Go.Proofs.YthfolocjkpiljaaGreatDoor

