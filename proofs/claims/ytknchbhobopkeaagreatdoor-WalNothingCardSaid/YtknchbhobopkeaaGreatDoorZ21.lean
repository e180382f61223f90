/- WalNothing: whatever faults come, if all that is hurt is seen: what a slot is intact with was put there; one of which a put was done is intact by the last one, or corrupt, never absent, never torn; where nothing of it is hurt it is intact. No condition. -/
import Derived.Test.YtknchbhobopkeaaGreatDoorZ1
import Derived.Test.YtknchbhobopkeaaGreatDoorZ2
import Derived.Test.YtknchbhobopkeaaGreatDoorZ3
import Derived.Test.YtknchbhobopkeaaGreatDoorZ4
import Derived.Test.YtknchbhobopkeaaGreatDoorZ5
import Derived.Test.YtknchbhobopkeaaGreatDoorZ6
import Derived.Test.YtknchbhobopkeaaGreatDoorZ7
import Derived.Test.YtknchbhobopkeaaGreatDoorZ8
import Derived.Test.YtknchbhobopkeaaGreatDoorZ9
import Derived.Test.YtknchbhobopkeaaGreatDoorZ10
import Derived.Test.YtknchbhobopkeaaGreatDoorZ11
import Derived.Test.YtknchbhobopkeaaGreatDoorZ12
import Derived.Test.YtknchbhobopkeaaGreatDoorZ13
import Derived.Test.YtknchbhobopkeaaGreatDoorZ14
import Derived.Test.YtknchbhobopkeaaGreatDoorZ15
import Derived.Test.YtknchbhobopkeaaGreatDoorZ16
import Derived.Test.YtknchbhobopkeaaGreatDoorZ17
import Derived.Test.YtknchbhobopkeaaGreatDoorZ18
import Derived.Test.YtknchbhobopkeaaGreatDoorZ19
import Derived.Test.YtknchbhobopkeaaGreatDoorZ20
import Derived.Test.YtknchbhobopkeaaGreatDoorRows
import Derived.Test.YtknchbhobopkeaaGreatDoorTie
import Derived.Test.YtknchbhobopkeaaGreatDoorCards
import Derived.ProofKit
import Derived.ChangeMaps5
import Derived.Lay
import Derived.SevenTiedAt
import Derived.Lib.SmallJoins
import Derived.Deep.Slices
import Derived.WalkKit
import Derived.WalkSpells
import Derived.WalkLawsBesides
import Derived.Handy
import Derived.Deep.QuietTactic
import Derived.BigQuiet
import Derived.Deep.DeepCutAuto
import Derived.Lib.Hide
import Derived.RegionTactic
import Derived.ChangeAlike
import Derived.Laws.ResultCell
import Derived.Outline
import Derived.IntWalk
import Derived.RangeFuncNested
import Derived.RangeFuncBound
import Derived.RangeFuncCalls
import Derived.RangeFuncLeaves
import Derived.RangeFuncBox
import Derived.RangeFuncRecord
import Derived.Shelf.Abstract
import Derived.Shelf.RegionOpen
import Derived.OwnWalkIn
import Derived.TacticsInMore
import Derived.LoopNIn
import Derived.LoopIn
import Derived.Maps.AppendAt
import Derived.Maps.OwnIn
import Derived.Laws.IdiomStrings
import Derived.Laws.BytesArg
import Derived.LoopN
import Derived.ChangeSlices
import Derived.Deep.Strs
import Derived.OpenShut
import Derived.Laws.MakeOwn
import Derived.Lib.SliceRun
import Derived.Laws.BitsAllLaws
import Derived.Great.BuildSlice
import Derived.Great.FillDense
import Derived.Laws.Rows
import Derived.Deep.Quiet
import Derived.Deep.RegionHeld3
import Derived.Lib.AppendStr
import Derived.Laws.Strings
import Derived.Laws.CopyOwn
import Derived.Laws.CopyRow
import Derived.Laws.NewBlocks
import Derived.Deep.RegionLaw
namespace Go.Proofs.YtknchbhobopkeaaGreatDoor
open Go.ChangeShapes Go.WideShapes Go.ChangeAt Go.RowKit
section
variable {H : Type} {enc : TypeId × Value → H} {P : Program} {w : World} {base : Nat} {spare : Nat → Bool} {held : Bool}
theorem trodAll_2n {t t' : TypeId} {args : Array Value} {ds : List (DataW H)} {ps : List MemPlace} (h : DataW.TrodAll enc P w base spare held [t, t'] args.toList ds ps) :
    ∃ v v' d d' p p', args = #[v, v'] ∧ ds = [d, d'] ∧ ps = p ++ p' ∧ DataW.Trod enc P w base spare held t v d p ∧ DataW.Trod enc P w base spare held t' v' d' p' := by
  obtain ⟨v, vs, d, ds', p, q, hargs, rfl, rfl, hd, hrest⟩ := trodAll_cons h
  obtain ⟨v', vs', d', ds'', p', q', rfl, rfl, rfl, hd', hrest'⟩ := trodAll_cons hrest
  obtain ⟨rfl, rfl, rfl⟩ := trodAll_nil hrest'
  exact ⟨v, v', d, d', p, p', by cases args; simp_all, rfl, by simp, hd, hd'⟩
end
theorem Tryzown : ownKnob Tryz.prog.godebug = none := by kernel_rfl
theorem Tryzlaid : laidOutB Tryz.prog = true := by kernel_rfl
set_option maxRecDepth 100000 in
theorem walNothing_lifted (os : Os) (started : os.Started) (H : Type) (enc : TypeId × Value → H) :
    ReturnsInHanded {} Tryz.checked os 5 .any (fun w args => (Rows.walNothingSpec.pre enc Tryz.prog Tryz.f5 [] false w args ∧ laidMetH Tryz.prog Rows.walNothingRow.laid w) ∧ sizedMet enc Tryz.prog Tryz.f5 (OpenSpec.ofChange Rows.walNothingSpec) false w args)
      (Rows.walNothingSpec.post enc Tryz.prog Tryz.f5 false true false false) := by
  refine returnsInHanded_of_change_and (C := Tryz.checked) (X := fun w _ => laidMetH Tryz.prog Rows.walNothingRow.laid w) (fun _ _ _ hh h => h.of_heap hh) Tryzown started (by kernel_rfl) Tryz.func5
    (ChangeSpec.witness_shaped (enc := enc) (C := Tryz.checked) (os := os) (X := fun w _ => laidMetH Tryz.prog Rows.walNothingRow.laid w) false (World.laidAll Tryz.prog os Rows.walNothingRow.laid) #[.slice none 0 0, .slice none 0 0] 8 (World.laidAll_os _ _ _)
      (World.shaped_of_ZipB (by kernel_rfl) (by kernel_rfl)) (by kernel_rfl) (by kernel_rfl) (by kernel_rfl)
      (by rw [MakeChecks.laidMetH_plain _ _ _ (by kernel_rfl)]; exact laidMet_laidAll _ (by kernel_rfl) (by kernel_rfl))) ?_
  intro W base args ds gs before hval0 hW _ _ _ _
  have hval : ∀ (j : Nat) t v, Tryz.f5.params[j]? = some t → args[j]? = some v → Value.okWide Tryz.prog W .any base t v := hval0
  have hW' := hW
  obtain ⟨p, q, hA0, hV, rfl, hfz, hnd⟩ := hW
  have hA : DataW.TrodAll enc Tryz.prog W 0 (fun _ => true) true Tryz.f5.params.toList args.toList ds p := hA0
  rw [Tryz.params5] at hA hval
  obtain ⟨v0, v1, d0, d1, p0, p1, rfl, rfl, rfl, h0, h1⟩ := trodAll_2n hA
  obtain ⟨rfl, rfl⟩ := trodVars_none hV
  obtain ⟨a, l, cap, rfl, hR, hle, hmx, hok⟩ := open_putsL (hval 0 46 v0 rfl rfl) h0
  obtain ⟨fa, fs, fcap, rfl, hF, hsl⟩ := open_flts (hval 1 58 v1 rfl rfl) h1
  clear hA0 hval0
  refine (nothing_law a cap l fa fcap fs W hR (Nat.le_trans hle hmx) hsl hok hF).mono fun e W' ⟨he, hb⟩ => ?_
  subst he
  exact ⟨_, rfl, law_post Tryzlaid (by kernel_rfl) rfl Tryz.underlying4 rfl ⟨rfl, rfl, rfl⟩ hW' hb⟩
theorem walNothing_h1 : (Rows.walNothingRow.inPlace == Tryz.prog.inPlace 5) = true := by kernel_rfl
theorem walNothing_h2 : (Rows.walNothingRow.unfollowed == Tryz.prog.unfollowed 5) = true := by kernel_rfl
theorem walNothing_h3 : (Rows.walNothingRow.recurses == Tryz.prog.recurses 5) = true := by kernel_rfl
theorem walNothing_h4 : (Rows.walNothingRow.named == Tryz.prog.varsNamed 5) = true := by kernel_rfl
theorem walNothing_facts : joinedFacts Tryz.prog 5 Tryz.f5 Rows.walNothingSpec Rows.walNothingRow = true := by
  unfold joinedFacts
  rw [walNothing_h1, walNothing_h2, walNothing_h3, walNothing_h4]
  kernel_rfl
theorem walNothing_holds : Rows.WalNothingSaid :=
  OpenClaim.holds_of_wide 5 Tryz.f5 rfl rfl rfl rfl rfl rfl rfl ⟨rfl, rfl, rfl, rfl, rfl⟩ rfl rfl rfl rfl rfl (by kernel_rfl) Tryz.func5 walNothing_facts
    (of_decide_eq_true (by kernel_rfl)) (by unfold Func.isWrapper; first | (rw [if_pos (by decide +kernel)]; kernel_rfl) | (rw [if_neg (by decide +kernel)]; exact ⟨rfl, rfl⟩))
    (fun os started H enc _ => walNothing_lifted os started H enc)
theorem walNothing_card : Rows.WalNothingCardSaid :=
  Claim7.holds_tied_plain_at .later [] [.data, .pinned] true Rows.walNothingCard.stood.harness false
    walNothing_holds (fun _ h => by cases h) (by kernel_rfl) (fun _ h => by cases h) walNothing_row_tie rfl ⟨rfl, rfl⟩ (by kernel_rfl) rfl
    (fun f fn hf hfn => by
      obtain rfl : f = 5 := Option.some.inj ((show Tryz.prog.funcNamed Rows.walNothingRow.func = some 5 by kernel_rfl).symm.trans hf) |>.symm
      obtain rfl : fn = Tryz.f5 := (Option.some.inj (Tryz.func5.symm.trans hfn)).symm
      exact ⟨by kernel_rfl, fun j t ht => by
        rw [Tryz.params5] at ht
        have hm : t ∈ [46, 58] := by simpa using Array.mem_of_getElem? ht
        have hall : ([46, 58].all fun u => !Tryz.prog.wantsStandIn u) = true := by kernel_rfl
        exact (show Tryz.prog.wantsStandIn t = false by simpa using List.all_eq_true.1 hall t hm)⟩)
    (by kernel_rfl)
end Go.Proofs.YtknchbhobopkeaaGreatDoor
