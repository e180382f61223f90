/- How an operation that came in is opened. -/
import Derived.Test.YtmnjmjbmnhppfaaOS
import Derived.Test.YtmnjmjbmnhppfaaK9
import Derived.Lib.SmallJoins
namespace Go.Proofs.Ytmnjmjbmnhppfaa
open Go.ChangeShapes Go.WideShapes Go.ChangeAt Go.RowKit

set_option maxRecDepth 100000 in
theorem open_opn {H : Type} {enc : TypeId × Value → H} {W : World} {base : Nat} {sp : Nat → Bool} {hd : Bool} {b0 : Nat} {v : Value} {d : DataW H} {p : List MemPlace}
    (hv : Value.okWide Try.prog W .any base 61 v) (h : DataW.Trod enc Try.prog W b0 sp hd 61 v d p) : ∃ (k : Int) (key old val : Tx), v = .agg #[.int .u8 k, .string key, .string old, .string val] := by
  obtain ⟨v0, v1, v2, v3, y0, y1, y2, y3, n, rfl, _, _, h0, h1, h2, h3⟩ := Go.Joins.open_agg4 Try.underlying61 (by kernel_rfl) (by kernel_rfl) hv h
  obtain ⟨k, e0, _⟩ := DataW.trod_int Try.underlying5 h0
  obtain ⟨s1, e1, _⟩ := DataW.trod_string Try.underlying9 h1
  obtain ⟨s2, e2, _⟩ := DataW.trod_string Try.underlying9 h2
  obtain ⟨s3, e3, _⟩ := DataW.trod_string Try.underlying9 h3
  simp at e0 e1 e2 e3
  subst e0 e1 e2 e3
  exact ⟨k, s1, s2, s3, rfl⟩
end Go.Proofs.Ytmnjmjbmnhppfaa
