/- does, Do. -/
import Derived.Test.YtiipelccmkidbaaK14
import Derived.Test.YtiipelccmkidbaaK1b
import Derived.Test.YtiipelccmkidbaaRows
import Derived.WalkKit
import Derived.WalkSpells
import Derived.WalkLawsBesides
import Derived.Handy
import Derived.Deep.QuietTactic
import Derived.BigQuiet
import Derived.Deep.DeepCutAuto
import Derived.Lib.Hide
import Derived.RegionTactic
import Derived.ChangeAlike
import Derived.Deep.RegionHeld3
import Derived.Laws.ResultCell
import Derived.Outline
import Derived.Laws.EntriesVeiled
namespace Go.Proofs.Ytiipelccmkidbaa
open Go.RowKit

abbrev fnV (f : FuncId) : Value := .func (.func f) #[] #[]
def doesV : Value := .agg #[.nilFunc, fnV 25, fnV 26, fnV 27, fnV 28]

set_option maxRecDepth 100000 in
theorem does_any (w : World) : Calls Try.prog 16 #[] w fun e w' => e = .returned doesV ∧ Below w.heap.size w w' := by
  go_enter Try.func16, Try.ntmps16
  go_wp2
  (try simp only [Exit.inBlock, Exit.then])
  refine bodyPost_ret (v := doesV) ?hr rfl ⟨rfl, ?_⟩
  case hr =>
    simp only [results, Try.results16]
    go_simp
    try rfl
  (repeat' (first | (with_reducible exact Below.refl _ _) | (with_reducible assumption) | (with_reducible refine Below.alloc ?_ ?_ _) | (with_reducible refine Below.drew ?_) | (with_reducible refine below_drewN ?_ _) | (with_reducible refine Below.setCell ?_ ?_ _) | (with_reducible refine Below.trans ?_ (by assumption)) | go_size))
end Go.Proofs.Ytiipelccmkidbaa
