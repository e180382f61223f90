/- LinearOrders: of any history of at most 6 calls, or more than 40, of short texts, whether there is an order is what the chapter says, or it is refused; one that is found holds; the calls stay. No condition. -/
import Derived.Test.YtaojblejnpemkaaDoorZ1
import Derived.Test.YtaojblejnpemkaaDoorZ2
import Derived.Test.YtaojblejnpemkaaDoorZ3
import Derived.Test.YtaojblejnpemkaaDoorZ4
import Derived.Test.YtaojblejnpemkaaDoorZ5
import Derived.Test.YtaojblejnpemkaaDoorZ6
import Derived.Test.YtaojblejnpemkaaDoorZ7
import Derived.Test.YtaojblejnpemkaaDoorZ8
import Derived.Test.YtaojblejnpemkaaDoorZ9
import Derived.Test.YtaojblejnpemkaaDoorZ13
import Derived.Test.YtaojblejnpemkaaDoorZ14
import Derived.Test.YtaojblejnpemkaaDoorZ15
import Derived.Test.YtaojblejnpemkaaDoorRows
import Derived.Test.YtaojblejnpemkaaDoorTie
import Derived.Test.YtaojblejnpemkaaDoorCards
import Derived.ProofKit
import Derived.ChangeMaps5
import Derived.Lay
import Derived.SevenTiedAt
import Derived.Deep.Slices
import Derived.Deep.Strs
import Derived.Lib.SmallJoins
import Derived.WalkKit
import Derived.WalkSpells
import Derived.WalkLawsBesides
import Derived.Handy
import Derived.Deep.QuietTactic
import Derived.BigQuiet
import Derived.Deep.DeepCutAuto
import Derived.Lib.Hide
import Derived.RegionTactic
import Derived.ChangeAlike
import Derived.Laws.ResultCell
import Derived.Outline
import Derived.IntWalk
import Derived.Deep.RegionHeld3
import Derived.StillTailTactics
import Derived.Deep.RegionWith
import Derived.Laws.BitsAllLaws
import Derived.Laws.Shifts
import Derived.Lib.Overlaps
import Derived.OpenShut
import Derived.Laws.Strings
import Derived.Laws.CopyOwn
import Derived.Laws.CopyRow
import Derived.Laws.NewBlocks
import Derived.Deep.RegionLaw
import Derived.Laws.MakeOwn
import Derived.Laws.OwnMore
import Derived.LoopN
import Derived.Shelf.Strconv.Quote
import Derived.Shelf.Strings.BuilderK
import Derived.Shelf.Strings.BuilderF
import Derived.Lib.LaidPrint
import Derived.Lib.QuoteLoop
import Derived.Lib.MapLaws
import Derived.Laws.BytesArg
import Derived.Maps.OwnSet
import Derived.Maps.Keyed
import Derived.WideKeyEntry
import Derived.DeepKeys4
import Derived.Laws.Rows
import Derived.Deep.Quiet
import Derived.Laws.EntriesVeiled
import Derived.Lib.LaidU8
import Derived.PinnedBridge
namespace Go.Proofs.YtaojblejnpemkaaDoor
open Go.ChangeShapes Go.WideShapes Go.ChangeAt Go.RowKit
theorem cCallO : Tryd.prog.cellsOf 38 = 10 := by kernel_rfl
theorem cOpO : Tryd.prog.cellsOf 34 = 4 := by kernel_rfl
theorem cRepO : Tryd.prog.cellsOf 36 = 3 := by kernel_rfl
theorem cErrO : Tryd.prog.cellsOf 27 = 1 := by kernel_rfl
theorem cIntO : Tryd.prog.cellsOf 3 = 1 := by kernel_rfl
theorem cU8O : Tryd.prog.cellsOf 5 = 1 := by kernel_rfl
theorem cStrO : Tryd.prog.cellsOf 9 = 1 := by kernel_rfl
theorem cBoolO : Tryd.prog.cellsOf 4 = 1 := by kernel_rfl
theorem callC_lenO (c : Cl) : (callC c).length = 10 := rfl
theorem list10O {α : Type} {l : List α} (h : l.length = 10) : ∃ a0 a1 a2 a3 a4 a5 a6 a7 a8 a9, l = [a0, a1, a2, a3, a4, a5, a6, a7, a8, a9] := by
  match l, h with
  | [a0, a1, a2, a3, a4, a5, a6, a7, a8, a9], _ => exact ⟨a0, a1, a2, a3, a4, a5, a6, a7, a8, a9, rfl⟩
set_option maxRecDepth 100000 in
theorem call_ofO {H : Type} {enc : TypeId × Value → H} {W : World} {b0 : Nat} {sp : Nat → Bool} {hd : Bool} {fuel : Nat} {cs : List Value} {x : DataW H × List MemPlace}
    (h : DataW.trod enc Tryd.prog W b0 sp hd fuel 38 cs = some x) : ∃ c : Cl, cs = callC c ∧ True := by
  obtain ⟨y0, y1, y2, y3, y4, n, hl, h0, h1, h2, h3, h4⟩ := trod_st5 Tryd.underlying38 h
  rw [cCallO] at hl
  obtain ⟨a0, a1, a2, a3, a4, a5, a6, a7, a8, a9, rfl⟩ := list10O hl
  obtain ⟨z0, z1, z2, z3, m, _, _, g0, g1, g2, g3⟩ := Go.Joins.trod_struct4 Tryd.underlying34 h1
  obtain ⟨u0, u1, u2, k, _, _, e0, e1, e2⟩ := Go.Deep.trod_struct3 Tryd.underlying36 h2
  simp [cOpO, cRepO, cErrO, cIntO, cU8O, cStrO, cBoolO] at h0 h3 h4 g0 g1 g2 g3 e0 e1 e2
  obtain ⟨cli, q0, _⟩ := DataW.trod_int Tryd.underlying3 h0
  obtain ⟨kd, q1, _⟩ := DataW.trod_int Tryd.underlying5 g0
  obtain ⟨s1, q2, _⟩ := DataW.trod_string Tryd.underlying9 g1
  obtain ⟨s2, q3, _⟩ := DataW.trod_string Tryd.underlying9 g2
  obtain ⟨s3, q4, _⟩ := DataW.trod_string Tryd.underlying9 g3
  obtain ⟨er, q5, _⟩ := DataW.trod_int Tryd.underlying27 e0
  obtain ⟨fo, q6, _⟩ := DataW.trod_bool Tryd.underlying4 e1
  obtain ⟨va, q7, _⟩ := DataW.trod_string Tryd.underlying9 e2
  obtain ⟨st, q8, _⟩ := DataW.trod_int Tryd.underlying3 h3
  obtain ⟨en, q9, _⟩ := DataW.trod_int Tryd.underlying3 h4
  simp at q0 q1 q2 q3 q4 q5 q6 q7 q8 q9
  subst q0 q1 q2 q3 q4 q5 q6 q7 q8 q9
  exact ⟨⟨cli, ⟨kd, s1, s2, s3⟩, ⟨er, fo, va⟩, st, en⟩, rfl, trivial⟩
set_option maxRecDepth 100000 in
theorem open_callsO {H : Type} {enc : TypeId × Value → H} {W : World} {base : Nat} {sp : Nat → Bool} {hd : Bool} {b0 : Nat} {v : Value} {d : DataW H} {p : List MemPlace}
    (hv : Value.okWide Tryd.prog W .any base 22 v) (h : DataW.Trod enc Tryd.prog W b0 sp hd 22 v d p) : ∃ (a : Option Addr) (l : List Cl) (cap : Nat), v = .slice a l.length cap ∧ SlC W a cap l := by
  obtain ⟨a0, len, cap, rfl⟩ := okWide_slice Tryd.underlying22 hv
  obtain ⟨fuel, hf⟩ := h
  obtain ⟨a, l, c, hcs, hr, h1, h2, h3⟩ := structsS (ok := fun _ => True) (by decide) callC_lenO Tryd.underlying22 cCallO (fun _ _ _ h => call_ofO h) hf
  simp [Value.cells] at hcs
  obtain ⟨rfl, rfl, rfl⟩ := hcs
  exact ⟨_, l, _, rfl, ⟨hr, h1, h2⟩⟩
section
variable {H : Type} {enc : TypeId × Value → H} {P : Program} {w : World} {base : Nat} {spare : Nat → Bool} {held : Bool}
theorem trodAll_1o {t : TypeId} {args : Array Value} {ds : List (DataW H)} {ps : List MemPlace} (h : DataW.TrodAll enc P w base spare held [t] args.toList ds ps) :
    ∃ v d p, args = #[v] ∧ ds = [d] ∧ ps = p ++ [] ∧ DataW.Trod enc P w base spare held t v d p := by
  obtain ⟨v, vs, d, ds', p, q, hargs, rfl, rfl, hd, hrest⟩ := trodAll_cons h
  obtain ⟨rfl, rfl, rfl⟩ := trodAll_nil hrest
  exact ⟨v, d, p, by cases args; simp_all, rfl, rfl, hd⟩
end
theorem Trydown : ownKnob Tryd.prog.godebug = none := by kernel_rfl
theorem Trydlaid : laidOutB Tryd.prog = true := by kernel_rfl
set_option maxRecDepth 100000 in
theorem linearOrders_lifted (os : Os) (started : os.Started) (H : Type) (enc : TypeId × Value → H) :
    ReturnsInHanded {} Tryd.checked os 3 .any (fun w args => (Rows.linearOrdersSpec.pre enc Tryd.prog Tryd.f3 [] false w args ∧ laidMetH Tryd.prog Rows.linearOrdersRow.laid w) ∧ sizedMet enc Tryd.prog Tryd.f3 (OpenSpec.ofChange Rows.linearOrdersSpec) false w args)
      (Rows.linearOrdersSpec.post enc Tryd.prog Tryd.f3 false true false false) := by
  refine returnsInHanded_of_change_and (C := Tryd.checked) (X := fun w _ => laidMetH Tryd.prog Rows.linearOrdersRow.laid w) (fun _ _ _ hh h => h.of_heap hh) Trydown started (by kernel_rfl) Tryd.func3
    (ChangeSpec.witness_shaped (enc := enc) (C := Tryd.checked) (os := os) (X := fun w _ => laidMetH Tryd.prog Rows.linearOrdersRow.laid w) false (World.laidAll Tryd.prog os Rows.linearOrdersRow.laid) #[.slice none 0 0] 8 (World.laidAll_os _ _ _)
      (World.shaped_of_ZipB (by kernel_rfl) (by kernel_rfl)) (by kernel_rfl) (by kernel_rfl) (by kernel_rfl)
      (by rw [MakeChecks.laidMetH_plain _ _ _ (by kernel_rfl)]; exact laidMet_laidAll _ (by kernel_rfl) (by kernel_rfl))) ?_
  intro W base args ds gs before hval0 hW _ hsz hX _
  have hval : ∀ (j : Nat) t v, Tryd.f3.params[j]? = some t → args[j]? = some v → Value.okWide Tryd.prog W .any base t v := hval0
  have hW' := hW
  obtain ⟨p, q, hA0, hV, rfl, hfz, hnd⟩ := hW
  have hA : DataW.TrodAll enc Tryd.prog W 0 (fun _ => true) true Tryd.f3.params.toList args.toList ds p := hA0
  rw [Tryd.params3] at hA hval
  obtain ⟨v0, d0, p0, rfl, rfl, rfl, h0⟩ := trodAll_1o hA
  obtain ⟨rfl, rfl⟩ := trodVars_none hV
  obtain ⟨a, l, cap, rfl, hs⟩ := open_callsO (hval 0 22 v0 rfl rfl) h0
  clear hA0 hval0
  have hL := hX
  rw [MakeChecks.laidMetH_plain _ _ _ (by kernel_rfl)] at hL
  refine (orders_law a cap l W hs (lin_tabs hL)).mono fun e W' ⟨he, hb⟩ => ?_
  subst he
  exact ⟨_, rfl, law_post Trydlaid (by kernel_rfl) rfl Tryd.underlying4 rfl ⟨rfl, rfl, rfl⟩ hW' hb⟩
theorem linearOrders_holds : Rows.LinearOrdersSaid :=
  OpenClaim.holds_of_wide 3 Tryd.f3 rfl rfl rfl rfl rfl rfl rfl ⟨rfl, rfl, rfl, rfl, rfl⟩ rfl rfl rfl rfl rfl (by kernel_rfl) Tryd.func3 (by kernel_rfl)
    (of_decide_eq_true (by kernel_rfl)) (by unfold Func.isWrapper; first | (rw [if_pos (by decide +kernel)]; kernel_rfl) | (rw [if_neg (by decide +kernel)]; exact ⟨rfl, rfl⟩))
    (fun os started H enc _ => linearOrders_lifted os started H enc)
theorem linearOrders_card : Rows.LinearOrdersCardSaid :=
  Claim7.holds_tied_plain_at .later [] [.data, .pinned, .pinned, .pinned, .pinned, .pinned, .pinned] true Rows.linearOrdersCard.stood.harness false
    linearOrders_holds (fun _ h => by cases h) (by kernel_rfl) (fun _ h => by cases h) linearOrders_row_tie rfl ⟨rfl, rfl⟩ (by kernel_rfl) rfl
    (fun f fn hf hfn => by
      obtain rfl : f = 3 := Option.some.inj ((show Tryd.prog.funcNamed Rows.linearOrdersRow.func = some 3 by kernel_rfl).symm.trans hf) |>.symm
      obtain rfl : fn = Tryd.f3 := (Option.some.inj (Tryd.func3.symm.trans hfn)).symm
      exact ⟨by kernel_rfl, fun j t ht => by
        rw [Tryd.params3] at ht
        have hm : t ∈ [22] := by simpa using Array.mem_of_getElem? ht
        have hall : ([22].all fun u => !Tryd.prog.wantsStandIn u) = true := by kernel_rfl
        exact (show Tryd.prog.wantsStandIn t = false by simpa using List.all_eq_true.1 hall t hm)⟩)
    (by kernel_rfl)
end Go.Proofs.YtaojblejnpemkaaDoor
