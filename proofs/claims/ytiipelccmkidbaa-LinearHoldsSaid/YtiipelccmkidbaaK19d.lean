/- The reference's Do: one contract. -/
import Derived.Test.YtiipelccmkidbaaK19a
import Derived.Test.YtiipelccmkidbaaK19b
import Derived.Test.YtiipelccmkidbaaK19c
namespace Go.Proofs.Ytiipelccmkidbaa
open Go.RowKit

theorem rdo_any (a : Option Addr) (cap : Nat) (l : List Pr) (o : Opn) (w : World) (hs : SlP w a cap l) (hl : l.length ≤ 1000) (hsm : ∀ p ∈ l, p.1.size ≤ 100000) (lr : List Pr × Rp) (hlr : doP l o = lr) :
    Calls Try.prog 10 #[.slice a l.length cap, opV o] w fun e w' => StRes w.heap.size lr.1 lr.2 e w' ∧ Below w.heap.size w w' := by
  obtain ⟨k, key, old, val⟩ := o
  cases hm : mayS l with
  | false =>
    have : doP l ⟨k, key, old, val⟩ = ([], ⟨2, false, ⟨#[]⟩⟩) := by unfold doP; rw [if_pos hm]
    rw [this] at hlr
    subst hlr
    exact rdo_nomay a cap l k key old val w hs hl hsm hm
  | true =>
    cases ho : mayO ⟨k, key, old, val⟩ with
    | false =>
      rw [doP_bad hm ho] at hlr
      subst hlr
      exact rdo_badop a cap l k key old val w hs hl hsm hm ho
    | true =>
      have hk := (mayO_spec ho).2.2.2
      rw [doP_ok hm ho] at hlr
      simp only at hlr hk
      rcases hk with rfl | rfl | rfl | rfl
      · simp only [if_true] at hlr
        cases hlk : look l key with
        | none =>
          have hw : wasR l key = ⟨0, false, ⟨#[]⟩⟩ := by simp [wasR, hlk]
          rw [hw] at hlr
          subst hlr
          exact rdo_1n a cap l key old val w hs hl hm ho hlk
        | some u =>
          have hw : wasR l key = ⟨0, true, u⟩ := by simp [wasR, hlk]
          rw [hw] at hlr
          subst hlr
          exact rdo_1s a cap l key old val w hs hl hm ho u hlk
      · simp only [show ¬ (2 : Int) = 1 by decide, if_true, if_false] at hlr
        cases hlk : look l key with
        | none =>
          have hw : wasR l key = ⟨0, false, ⟨#[]⟩⟩ := by simp [wasR, hlk]
          rw [hw] at hlr
          by_cases h8 : l.length = 8
          · rw [if_pos ⟨hlk, h8⟩] at hlr
            subst hlr
            exact rdo_2f a cap l key old val w hs hl hm ho hlk h8
          · rw [if_neg (fun h => h8 h.2)] at hlr
            subst hlr
            exact rdo_2n a cap l key old val w hs hl hm ho hlk h8
        | some u =>
          have hw : wasR l key = ⟨0, true, u⟩ := by simp [wasR, hlk]
          rw [hw, if_neg (by rw [hlk]; exact fun h => by cases h.1)] at hlr
          subst hlr
          exact rdo_2s a cap l key old val w hs hl hm ho u hlk
      · simp only [show ¬ (3 : Int) = 1 by decide, show ¬ (3 : Int) = 2 by decide, if_true, if_false] at hlr
        cases hlk : look l key with
        | none =>
          have hw : wasR l key = ⟨0, false, ⟨#[]⟩⟩ := by simp [wasR, hlk]
          rw [hw] at hlr
          subst hlr
          exact rdo_3n a cap l key old val w hs hl hm ho hlk
        | some u =>
          have hw : wasR l key = ⟨0, true, u⟩ := by simp [wasR, hlk]
          rw [hw] at hlr
          subst hlr
          exact rdo_3s a cap l key old val w hs hl hm ho u hlk
      · simp only [show ¬ (4 : Int) = 1 by decide, show ¬ (4 : Int) = 2 by decide, show ¬ (4 : Int) = 3 by decide, if_false] at hlr
        cases hlk : look l key with
        | none =>
          have hw : wasR l key = ⟨0, false, ⟨#[]⟩⟩ := by simp [wasR, hlk]
          rw [hw, if_neg (by rw [hlk]; exact fun h => by cases h)] at hlr
          subst hlr
          exact rdo_4n a cap l key old val w hs hl hm ho hlk
        | some u =>
          have hw : wasR l key = ⟨0, true, u⟩ := by simp [wasR, hlk]
          by_cases hu : u = old
          · subst hu
            rw [hw, if_pos hlk] at hlr
            subst hlr
            exact rdo_4e a cap l key u val w hs hl hm ho hlk
          · rw [hw, if_neg (by rw [hlk]; exact fun h => hu (Option.some.inj h))] at hlr
            subst hlr
            exact rdo_4o a cap l key old val w hs hl hm ho u hlk hu
end Go.Proofs.Ytiipelccmkidbaa
