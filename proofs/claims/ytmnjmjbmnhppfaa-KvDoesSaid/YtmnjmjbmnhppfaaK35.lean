/- KvDoes: any operation on any state comes to what the chapter says; what is handed in stays. No condition. -/
import Derived.Test.YtmnjmjbmnhppfaaRows
import Derived.Test.YtmnjmjbmnhppfaaK34
import Derived.Test.YtmnjmjbmnhppfaaOS
import Derived.Test.YtmnjmjbmnhppfaaOP
import Derived.ProofKit
import Derived.ChangeMaps5
import Derived.Test.YtmnjmjbmnhppfaaRows
import Derived.WalkKit
import Derived.WalkSpells
import Derived.WalkLawsBesides
import Derived.Handy
import Derived.Deep.QuietTactic
import Derived.BigQuiet
import Derived.Deep.DeepCutAuto
import Derived.Lib.Hide
import Derived.RegionTactic
import Derived.ChangeAlike
namespace Go.Proofs.Ytmnjmjbmnhppfaa
open Go.ChangeShapes Go.WideShapes Go.ChangeAt Go.RowKit

set_option maxRecDepth 100000 in
set_option maxHeartbeats 4000000 in
theorem does_bad (a : Option Addr) (cap : Nat) (s : List Pr) (b : Option Addr) (bcap : Nat) (t : List Pr) (kd : Int) (key old val : Tx) (w : World) (hs : SlP w a cap s) (ht : SlP w b bcap t)
    (hbad : greatB s = true ∨ (greatB s = false ∧ greatB t = true) ∨ (greatB s = false ∧ greatB t = false ∧ 100 < key.size) ∨ (greatB s = false ∧ greatB t = false ∧ ¬ 100 < key.size ∧ 100 < old.size) ∨ (greatB s = false ∧ greatB t = false ∧ ¬ 100 < key.size ∧ ¬ 100 < old.size ∧ 100 < val.size)) :
    Calls Try.prog 8 #[.slice a s.length cap, .slice b t.length bcap, .agg #[.int .u8 kd, .string key, .string old, .string val]] w fun e w' => e = .returned (.bool true) ∧ Below w.heap.size w w' := by
  have hb0 := blw1 w (Obj.cells #[.int .u8 kd, .string key, .string old, .string val] 61)
  have b0 := heap_alloc_new w (Obj.cells #[.int .u8 kd, .string key, .string old, .string val] 61)
  have HBAD := Lib.hid hbad
  clear hbad
  go_enter Try.func8, Try.ntmps8
  refine wp_seq_k (fun K hK => ?_)
  have HK := Lib.hid hK
  clear hK
  go_wp2
  refine HK.out _ _ ?_
  clear HK
  generalize w.alloc (Obj.cells #[.int .u8 kd, .string key, .string old, .string val] 61) = w1 at *
  have hs1 := hs.below hb0
  have ht1 := ht.below hb0
  obtain ⟨d0, d1, d2, d3⟩ := four b0
  rcases HBAD.out with h | ⟨h, h2⟩ | ⟨h, h2, h3⟩ | ⟨h, h2, h3, h4⟩ | ⟨h, h2, h3, h4, h5⟩
  · have HG := Lib.hid h
    clear h
    go_wp2_with (go_at_call 32; (with_reducible refine (great_any _ _ _ _ hs1).mono ?_); rintro e w' ⟨rfl, rfl⟩; rw [HG.out])
    go_ret
    exact ⟨rfl, hb0⟩
  all_goals
    have HG := Lib.hid h
    have HG2 := Lib.hid h2
    clear h h2
    go_wp2_with (first
      | (go_at_call 32; (with_reducible refine (great_any _ _ _ _ hs1).mono ?_); rintro e w' ⟨rfl, rfl⟩; rw [HG.out])
      | (go_at_call 32; (with_reducible refine (great_any _ _ _ _ ht1).mono ?_); rintro e w' ⟨rfl, rfl⟩; rw [HG2.out]))
    go_ret
    exact ⟨rfl, hb0⟩

theorem does_law (a : Option Addr) (cap : Nat) (s : List Pr) (b : Option Addr) (bcap : Nat) (t : List Pr) (kd : Int) (key old val : Tx) (w : World) (hs : SlP w a cap s) (ht : SlP w b bcap t) :
    Calls Try.prog 8 #[.slice a s.length cap, .slice b t.length bcap, .agg #[.int .u8 kd, .string key, .string old, .string val]] w fun e w' => e = .returned (.bool true) ∧ Below w.heap.size w w' := by
  cases hg : greatB s with
  | true => exact does_bad a cap s b bcap t kd key old val w hs ht (.inl hg)
  | false =>
  cases hg2 : greatB t with
  | true => exact does_bad a cap s b bcap t kd key old val w hs ht (.inr (.inl ⟨hg, hg2⟩))
  | false =>
  by_cases h3 : 100 < key.size
  · exact does_bad a cap s b bcap t kd key old val w hs ht (.inr (.inr (.inl ⟨hg, hg2, h3⟩)))
  by_cases h4 : 100 < old.size
  · exact does_bad a cap s b bcap t kd key old val w hs ht (.inr (.inr (.inr (.inl ⟨hg, hg2, h3, h4⟩))))
  by_cases h5 : 100 < val.size
  · exact does_bad a cap s b bcap t kd key old val w hs ht (.inr (.inr (.inr (.inr ⟨hg, hg2, h3, h4, h5⟩))))
  exact does_good a cap s b bcap t kd key old val w hs ht hg hg2 (by omega) (by omega) (by omega)

theorem Tryown : ownKnob Try.prog.godebug = none := by kernel_rfl
theorem Trylaid : laidOutB Try.prog = true := by kernel_rfl

set_option maxRecDepth 100000 in
theorem does_lifted (os : Os) (started : os.Started) (H : Type) (enc : TypeId × Value → H) :
    ReturnsInHanded {} Try.checked os 8 .any (Rows.kvDoesSpec.pre6 enc Try.prog Try.f8 Rows.kvDoesRow.domain false) (Rows.kvDoesSpec.post enc Try.prog Try.f8 false true false false) := by
  refine returnsInHanded_of_change (C := Try.checked) Tryown started (by kernel_rfl) Try.func8
    (ChangeSpec.witness6 (enc := enc) (C := Try.checked) false ⟨#[], #[.slice none 0 0, .slice none 0 0, .agg #[.int .u8 0, .string ⟨#[]⟩, .string ⟨#[]⟩, .string ⟨#[]⟩]], []⟩ 8 (by kernel_rfl) (by kernel_rfl) (by kernel_rfl) (by kernel_rfl)) ?_
  intro W base args ds gs before hval0 hW hcnd _
  have hval : ∀ (j : Nat) t v, Try.f8.params[j]? = some t → args[j]? = some v → Value.okWide Try.prog W .any base t v := hval0
  have hW' := hW
  obtain ⟨p, q, hA0, hV, rfl, hfz, hnd⟩ := hW
  have hA : DataW.TrodAll enc Try.prog W 0 (fun _ => true) true Try.f8.params.toList args.toList ds p := hA0
  rw [Try.params8] at hA hval
  obtain ⟨v0, v1, v2, d0, d1, d2, p0, p1, p2, rfl, rfl, rfl, h0, h1, h2⟩ := trodAll_three hA
  obtain ⟨rfl, rfl⟩ := trodVars_none hV
  obtain ⟨a, l, cap, rfl, hs⟩ := open_state (hval 0 41 v0 rfl rfl) h0
  obtain ⟨b, m, bcap, rfl, ht⟩ := open_state (hval 1 41 v1 rfl rfl) h1
  obtain ⟨k, key, old, val, rfl⟩ := open_opn (hval 2 61 v2 rfl rfl) h2
  clear hA0 hval0
  refine (does_law a cap l b bcap m k key old val W hs ht).mono fun e W' ⟨he, hb⟩ => ?_
  subst he
  exact ⟨_, rfl, law_post Trylaid (by kernel_rfl) rfl Try.underlying4 rfl ⟨rfl, rfl, rfl⟩ hW' hb⟩

theorem does_holds : Rows.KvDoesSaid :=
  OpenClaim.holds_of_wide 8 Try.f8 rfl rfl rfl rfl rfl rfl rfl ⟨rfl, rfl, rfl, rfl, rfl⟩ rfl rfl rfl rfl rfl (by kernel_rfl) Try.func8 (by kernel_rfl)
    (of_decide_eq_true (by kernel_rfl)) (by unfold Func.isWrapper; first | (rw [if_pos (by decide +kernel)]; kernel_rfl) | (rw [if_neg (by decide +kernel)]; exact ⟨rfl, rfl⟩))
    (fun os started H enc _ => does_lifted os started H enc)
end Go.Proofs.Ytmnjmjbmnhppfaa
