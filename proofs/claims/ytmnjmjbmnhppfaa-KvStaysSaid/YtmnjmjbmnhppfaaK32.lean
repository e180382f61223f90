/- The law KvStays: every way. -/
import Derived.Test.YtmnjmjbmnhppfaaK31
import Derived.Test.YtmnjmjbmnhppfaaRows
import Derived.WalkKit
import Derived.WalkSpells
import Derived.WalkLawsBesides
import Derived.Handy
import Derived.Deep.QuietTactic
import Derived.BigQuiet
import Derived.Deep.DeepCutAuto
import Derived.Lib.Hide
import Derived.RegionTactic
import Derived.ChangeAlike
import Derived.Laws.ResultCell
namespace Go.Proofs.Ytmnjmjbmnhppfaa
open Go.RowKit

set_option maxRecDepth 100000 in
set_option maxHeartbeats 4000000 in
theorem stays_bad (a : Option Addr) (cap : Nat) (s : List Pr) (b : Option Addr) (bcap : Nat) (l : List Opn) (w : World) (hs : SlP w a cap s) (ho : SlO w b bcap l)
    (hbad : greatO l = true ∨ (greatO l = false ∧ greatB s = true) ∨ (greatO l = false ∧ greatB s = false ∧ mayS s = false)) :
    Calls Try.prog 9 #[.slice a s.length cap, .slice b l.length bcap] w fun e w' => e = .returned (.bool true) ∧ Below w.heap.size w w' := by
  have hlen : greatB s = false → s.length ≤ 1000 := fun h => by have := (great_no h).1; omega
  have HL := Lib.hid hlen
  have HBAD := Lib.hid hbad
  clear hlen hbad
  go_enter Try.func9, Try.ntmps9
  refine wp_seq_k (fun K hK => ?_)
  have HK := Lib.hid hK
  clear hK
  go_wp2
  refine HK.out _ _ ?_
  clear HK
  refine wp_seq_k (fun K hK => ?_)
  have HK := Lib.hid hK
  clear hK
  go_wp2_with (go_at_call 30; refine (awake_any _).mono ?_; rintro e w1 ⟨rfl, hb1⟩)
  refine HK.out _ _ ?_
  clear HK
  have hs1 := hs.below hb1
  have ho1 := ho.below hb1
  rcases HBAD.out with h | ⟨h, h2⟩ | ⟨h, h2, h3⟩
  · have HG := Lib.hid h
    clear h
    go_wp2_with (go_at_call 44; refine (greatO_any _ _ _ _ ho1).mono ?_; rintro e w' ⟨rfl, rfl⟩; rw [HG.out])
    go_ret
    exact ⟨rfl, hb1⟩
  · have HG := Lib.hid h
    have HG2 := Lib.hid h2
    clear h h2
    go_wp2_with (first
      | (go_at_call 44; refine (greatO_any _ _ _ _ ho1).mono ?_; rintro e w' ⟨rfl, rfl⟩; rw [HG.out])
      | (go_at_call 32; refine (great_any _ _ _ _ hs1).mono ?_; rintro e w' ⟨rfl, rfl⟩; rw [HG2.out]))
    go_ret
    exact ⟨rfl, hb1⟩
  · have hl := HL.out h2
    have HG := Lib.hid h
    have HG2 := Lib.hid h2
    have HM := Lib.hid h3
    clear h h2 h3
    go_wp2_with (first
      | (go_at_call 44; refine (greatO_any _ _ _ _ ho1).mono ?_; rintro e w' ⟨rfl, rfl⟩; rw [HG.out])
      | (go_at_call 32; refine (great_any _ _ _ _ hs1).mono ?_; rintro e w' ⟨rfl, rfl⟩; rw [HG2.out])
      | (go_at_call 33; refine (may_any _ _ _ _ hs1.row hl).mono ?_; rintro e w2 ⟨rfl, hb2⟩; rw [HM.out]))
    go_ret
    exact ⟨rfl, hb1.trans (hb2.mono hb1.size)⟩

theorem stays_law (a : Option Addr) (cap : Nat) (s : List Pr) (b : Option Addr) (bcap : Nat) (l : List Opn) (w : World) (hs : SlP w a cap s) (ho : SlO w b bcap l) :
    Calls Try.prog 9 #[.slice a s.length cap, .slice b l.length bcap] w fun e w' => e = .returned (.bool true) ∧ Below w.heap.size w w' := by
  cases hg : greatO l with
  | true => exact stays_bad a cap s b bcap l w hs ho (.inl hg)
  | false =>
  cases hg2 : greatB s with
  | true => exact stays_bad a cap s b bcap l w hs ho (.inr (.inl ⟨hg, hg2⟩))
  | false =>
  cases hm : mayS s with
  | false => exact stays_bad a cap s b bcap l w hs ho (.inr (.inr ⟨hg, hg2, hm⟩))
  | true => exact stays_good a cap s b bcap l w hs ho hg hg2 hm
end Go.Proofs.Ytmnjmjbmnhppfaa
