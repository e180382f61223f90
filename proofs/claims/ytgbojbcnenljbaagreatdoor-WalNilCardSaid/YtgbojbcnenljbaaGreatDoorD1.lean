/- Cells of disks that are none, or too small. -/
import Derived.Test.YtgbojbcnenljbaaGreatDoorD0
import Derived.Test.YtgbojbcnenljbaaGreatDoorRows
import Derived.WalkKit
import Derived.WalkSpells
import Derived.WalkLawsBesides
import Derived.Handy
import Derived.Deep.QuietTactic
import Derived.BigQuiet
import Derived.Deep.DeepCutAuto
import Derived.Lib.Hide
import Derived.RegionTactic
import Derived.ChangeAlike
import Derived.Laws.ResultCell
import Derived.Outline
namespace Go.Proofs.YtgbojbcnenljbaaGreatDoor
open Go.RowKit

/-- The error that a dull disk is answered with. -/
def dull (n : Nat) : Int := if n = 0 then 1 else 2

theorem dull_ne (n : Nat) : (dull n != 0) = true := by unfold dull; split <;> rfl
theorem dull_ne5 (n : Nat) : (dull n != 5) = true := by unfold dull; split <;> rfl
end Go.Proofs.YtgbojbcnenljbaaGreatDoor
