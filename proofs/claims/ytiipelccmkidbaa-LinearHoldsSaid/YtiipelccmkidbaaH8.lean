/- LinearHolds: whether any places are an order of any history is what the chapter says. No condition. -/
import Derived.Test.YtiipelccmkidbaaRows
import Derived.Test.YtiipelccmkidbaaH7
import Derived.Test.YtiipelccmkidbaaOpen
import Derived.ProofKit
import Derived.Deep.Slices
import Derived.Lib.SmallJoins
import Derived.Test.YtiipelccmkidbaaRows
import Derived.WalkKit
import Derived.WalkSpells
import Derived.WalkLawsBesides
import Derived.Handy
import Derived.Deep.QuietTactic
import Derived.BigQuiet
import Derived.Deep.DeepCutAuto
import Derived.Lib.Hide
import Derived.RegionTactic
import Derived.ChangeAlike
namespace Go.Proofs.Ytiipelccmkidbaa
open Go.ChangeShapes Go.WideShapes Go.ChangeAt Go.RowKit

set_option maxRecDepth 100000 in
set_option maxHeartbeats 4000000 in
theorem linear_law (a : Option Addr) (cap : Nat) (l : List Cl) (b : Option Addr) (bcap : Nat) (q : List Int) (w : World) (hs : SlC w a cap l) (hq : SlI w b bcap q) :
    Calls Try.prog 3 #[.slice a l.length cap, .slice b q.length bcap] w fun e w' => e = .returned (.bool true) ∧ Below w.heap.size w w' := by
  have hqm := hq.max
  have hql := hq.le
  unfold maxLen at hqm
  have HE := Lib.hid (holds_eq l q)
  go_enter Try.func3, Try.ntmps3
  refine wp_seq_k (fun K hK => ?_)
  have HK := Lib.hid hK
  clear hK
  go_wp2
  refine HK.out _ _ ?_
  clear HK
  go_wp2_with fail
  refine (long_any _ _ _ _ hs).mono ?_
  rintro e w1 ⟨⟨lb, rfl, hlb⟩, hb1⟩
  clear hlb
  cases lb
  · by_cases h50 : 50 < q.length
    · go_wp2
      go_ret
      exact ⟨rfl, hb1⟩
    · have hs1 := hs.below hb1
      have hq1 := hq.below hb1
      go_wp2_with (first
        | (go_at_call 5; refine (holds_any _ _ _ _ _ _ _ hs1 hq1).mono ?_; rintro e w2 ⟨rfl, hb2⟩)
        | (go_at_call 6; refine (rholds_any _ _ _ _ _ _ _ (hs1.below hb2) (hq1.below hb2)).mono ?_; rintro e w3 ⟨rfl, hb3⟩; rw [← HE.out]))
      go_ret
      have hb12 := hb1.trans (hb2.mono hb1.size)
      exact ⟨rfl, hb12.trans (hb3.mono hb12.size)⟩
  · go_wp2
    go_ret
    exact ⟨rfl, hb1⟩

theorem cellsU8 : Try.prog.cellsOf 5 = 1 := by kernel_rfl
theorem cellsBool : Try.prog.cellsOf 4 = 1 := by kernel_rfl
theorem cellsInt : Try.prog.cellsOf 3 = 1 := by kernel_rfl
theorem cellsErr : Try.prog.cellsOf 28 = 1 := by kernel_rfl
theorem cellsString : Try.prog.cellsOf 9 = 1 := by kernel_rfl
theorem cellsOpn : Try.prog.cellsOf 27 = 4 := by kernel_rfl
theorem cellsReply : Try.prog.cellsOf 30 = 3 := by kernel_rfl
theorem cellsCall : Try.prog.cellsOf 32 = 10 := by kernel_rfl
end Go.Proofs.Ytiipelccmkidbaa
