/- CellEither: behind a power that goes amid a Store, and any crash, what is loaded is what was loaded ahead of it, or what was stored. No condition. -/
import Derived.Test.YtejjneamngkmoaaDoorZ1
import Derived.Test.YtejjneamngkmoaaDoorZ2
import Derived.Test.YtejjneamngkmoaaDoorZ3
import Derived.Test.YtejjneamngkmoaaDoorZ4
import Derived.Test.YtejjneamngkmoaaDoorZ5
import Derived.Test.YtejjneamngkmoaaDoorZ6
import Derived.Test.YtejjneamngkmoaaDoorZ7
import Derived.Test.YtejjneamngkmoaaDoorZ8
import Derived.Test.YtejjneamngkmoaaDoorZ9
import Derived.Test.YtejjneamngkmoaaDoorZ10
import Derived.Test.YtejjneamngkmoaaDoorZ11
import Derived.Test.YtejjneamngkmoaaDoorRows
import Derived.Test.YtejjneamngkmoaaDoorTie
import Derived.Test.YtejjneamngkmoaaDoorCards
import Derived.ProofKit
import Derived.ChangeMaps5
import Derived.Lay
import Derived.SevenTiedAt
import Derived.WalkKit
import Derived.WalkSpells
import Derived.WalkLawsBesides
import Derived.Handy
import Derived.Deep.QuietTactic
import Derived.BigQuiet
import Derived.Deep.DeepCutAuto
import Derived.Lib.Hide
import Derived.RegionTactic
import Derived.ChangeAlike
import Derived.Laws.ResultCell
import Derived.Outline
import Derived.OpenShut
import Derived.ChangeSlices
import Derived.Lib.SmallJoins
import Derived.Deep.Slices
import Derived.Laws.IdiomStrings
import Derived.Laws.BytesArg
import Derived.Laws.MakeOwn
import Derived.Lib.SliceRun
import Derived.Laws.BitsAllLaws
import Derived.Great.BuildSlice
import Derived.Great.FillDense
import Derived.Laws.Rows
import Derived.Deep.Quiet
import Derived.Deep.RegionHeld3
import Derived.Laws.CopyOwn
import Derived.Laws.CopyRow
import Derived.Laws.NewBlocks
import Derived.Deep.RegionLaw
namespace Go.Proofs.YtejjneamngkmoaaDoor
open Go.ChangeShapes Go.WideShapes Go.ChangeAt Go.RowKit

theorem Trydown : ownKnob Tryd.prog.godebug = none := by kernel_rfl
theorem Trydlaid : laidOutB Tryd.prog = true := by kernel_rfl

set_option maxRecDepth 100000 in
theorem cellEither_lifted (os : Os) (started : os.Started) (H : Type) (enc : TypeId × Value → H) :
    ReturnsInHanded {} Tryd.checked os 9 .any (fun w args => (Rows.cellEitherSpec.pre enc Tryd.prog Tryd.f9 [] false w args ∧ laidMetH Tryd.prog Rows.cellEitherRow.laid w) ∧ sizedMet enc Tryd.prog Tryd.f9 (OpenSpec.ofChange Rows.cellEitherSpec) false w args)
      (Rows.cellEitherSpec.post enc Tryd.prog Tryd.f9 false true false false) := by
  refine returnsInHanded_of_change_and (C := Tryd.checked) (X := fun w _ => laidMetH Tryd.prog Rows.cellEitherRow.laid w) (fun _ _ _ hh h => h.of_heap hh) Trydown started (by kernel_rfl) Tryd.func9
    (ChangeSpec.witness_shaped (enc := enc) (C := Tryd.checked) (os := os) (X := fun w _ => laidMetH Tryd.prog Rows.cellEitherRow.laid w) false (World.laidAll Tryd.prog os Rows.cellEitherRow.laid) #[.bool false, .slice none 0 0, .slice none 0 0, .int .u8 0, .slice none 0 0] 8 (World.laidAll_os _ _ _)
      (World.shaped_of_ZipB (by kernel_rfl) (by kernel_rfl)) (by kernel_rfl) (by kernel_rfl) (by kernel_rfl)
      (by rw [MakeChecks.laidMetH_plain _ _ _ (by kernel_rfl)]; exact laidMet_laidAll _ (by kernel_rfl) (by kernel_rfl))) ?_
  intro W base args ds gs before hval0 hW _ _ _ _
  have hval : ∀ (j : Nat) t v, Tryd.f9.params[j]? = some t → args[j]? = some v → Value.okWide Tryd.prog W .any base t v := hval0
  have hW' := hW
  obtain ⟨p, q, hA0, hV, rfl, hfz, hnd⟩ := hW
  have hA : DataW.TrodAll enc Tryd.prog W 0 (fun _ => true) true Tryd.f9.params.toList args.toList ds p := hA0
  rw [Tryd.params9] at hA hval
  obtain ⟨v0, v1, v2, v3, v4, d0, d1, d2, d3, d4, p0, p1, p2, p3, p4, rfl, rfl, rfl, h0, h1, h2, h3, h4⟩ := trodAll_5 hA
  obtain ⟨rfl, rfl⟩ := trodVars_none hV
  obtain ⟨two, rfl⟩ := okWide_bool Tryd.underlying4 (hval 0 4 v0 rfl rfl)
  obtain ⟨a, ls, c, rfl, hl⟩ := open_parts (hval 1 54 v1 rfl rfl) h1
  obtain ⟨ba, body, bc, rfl, hs⟩ := open_bytes (hval 2 38 v2 rfl rfl) h2
  obtain ⟨pw, rfl⟩ := open_u8 (okWide_int Tryd.underlying5 (hval 3 5 v3 rfl rfl)) h3
  obtain ⟨ka, keep, kc, rfl, hk⟩ := open_bools (hval 4 47 v4 rfl rfl) h4
  clear hA0 hval0
  refine (either_law two a ba ka c bc kc ls body pw keep W hl hs hk).mono fun e W' ⟨he, hb⟩ => ?_
  subst he
  exact ⟨_, rfl, law_post Trydlaid (by kernel_rfl) rfl Tryd.underlying4 rfl ⟨rfl, rfl, rfl⟩ hW' hb⟩

theorem cellEither_holds : Rows.CellEitherSaid :=
  OpenClaim.holds_of_wide 9 Tryd.f9 rfl rfl rfl rfl rfl rfl rfl ⟨rfl, rfl, rfl, rfl, rfl⟩ rfl rfl rfl rfl rfl (by kernel_rfl) Tryd.func9 (by kernel_rfl)
    (of_decide_eq_true (by kernel_rfl)) (by unfold Func.isWrapper; first | (rw [if_pos (by decide +kernel)]; kernel_rfl) | (rw [if_neg (by decide +kernel)]; exact ⟨rfl, rfl⟩))
    (fun os started H enc _ => cellEither_lifted os started H enc)

theorem cellEither_card : Rows.CellEitherCardSaid :=
  Claim7.holds_tied_plain_at .later [] [.data, .pinned] true Rows.cellEitherCard.stood.harness false
    cellEither_holds (fun _ h => by cases h) (by kernel_rfl) (fun _ h => by cases h) cellEither_row_tie rfl ⟨rfl, rfl⟩ (by kernel_rfl) rfl
    (fun f fn hf hfn => by
      obtain rfl : f = 9 := Option.some.inj ((show Tryd.prog.funcNamed Rows.cellEitherRow.func = some 9 by kernel_rfl).symm.trans hf) |>.symm
      obtain rfl : fn = Tryd.f9 := (Option.some.inj (Tryd.func9.symm.trans hfn)).symm
      exact ⟨by kernel_rfl, fun j t ht => by
        rw [Tryd.params9] at ht
        have hm : t ∈ [4, 54, 38, 5, 47] := by simpa using Array.mem_of_getElem? ht
        have hall : ([4, 54, 38, 5, 47].all fun u => !Tryd.prog.wantsStandIn u) = true := by kernel_rfl
        exact (show Tryd.prog.wantsStandIn t = false by simpa using List.all_eq_true.1 hall t hm)⟩)
    (by kernel_rfl)
end Go.Proofs.YtejjneamngkmoaaDoor

