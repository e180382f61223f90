/- Ints; the law ScrubNotes. -/
import Derived.Test.YtjolhdlnjdmbeaaN6
import Derived.Test.YtjolhdlnjdmbeaaRows
import Derived.WalkKit
import Derived.WalkSpells
import Derived.WalkLawsBesides
import Derived.Handy
import Derived.Deep.QuietTactic
import Derived.BigQuiet
import Derived.Deep.DeepCutAuto
import Derived.Lib.Hide
import Derived.RegionTactic
import Derived.ChangeAlike
namespace Go.Proofs.Ytjolhdlnjdmbeaa
open Go.RowKit

def sameFrom (l m : List Int) (k : Nat) : Prop := ∀ i x y, i < k → l[i]? = some x → m[i]? = some y → x = y
theorem same_zero (l m : List Int) : sameFrom l m 0 := fun i _ _ h => by omega
theorem same_succ {l m : List Int} {k : Nat} {x : Int} (h : sameFrom l m k) (hx : l[k]? = some x) (hy : m[k]? = some x) : sameFrom l m (k + 1) := by
  intro i a b hi ha hb
  by_cases e : i = k
  · subst e; rw [hx] at ha; rw [hy] at hb; cases ha; cases hb; rfl
  · exact h i a b (by omega) ha hb
theorem same_all {l m : List Int} (hl : l.length = m.length) (h : sameFrom l m l.length) : l = m := by
  apply List.ext_getElem hl
  intro i h1 h2
  exact h i _ _ h1 (List.getElem?_eq_getElem h1) (List.getElem?_eq_getElem h2)

set_option maxHeartbeats 1000000 in
theorem ints_any (a b : Option Addr) (c d : Nat) (l m : List Int) (w : World) (ha : Row w a (l.map (Value.int .i64))) (hb : Row w b (m.map (Value.int .i64))) (hl : l.length ≤ 1000000) (hm : m.length ≤ 1000000) (r : Bool) (hr : decide (l = m) = r) :
    Calls Try.prog 11 #[.slice a l.length c, .slice b m.length d] w fun e w' => e = .returned (.bool r) ∧ ∃ q, w' = w.drewN q := by
  have HR := Lib.hid hr
  clear hr
  by_cases hlen : l.length = m.length
  · go_enter Try.func11, Try.ntmps11
    rw [← hlen]
    have HL := Lib.hid hlen
    clear hlen hm
    refine wp_seq_k (fun K hK => ?_)
    have HK := Lib.hid hK
    clear hK
    go_wp2
    refine HK.out _ _ ?_
    clear HK
    refine wp_seq_k (fun K hK => ?_)
    have HK := Lib.hid hK
    clear hK
    go_wp2
    refine HK.out _ _ ?_
    clear HK
    refine wp_seq_k (fun K hK => ?_)
    go_cut [] (fun wx => sameFrom l m l.length ∧ ∃ q, wx = w.drewN q)
    case first =>
      go_wp2_with fail
      go_loopw [5] (fun i wr => ∃ k : Nat, k ≤ l.length ∧ i = .int .i64 k ∧ sameFrom l m k ∧ ∃ q, wr = w.drewN q) (fun i _ => l.length - (intOf i).toNat)
      case atStart => exact ⟨0, Nat.zero_le _, rfl, same_zero l m, 0, rfl⟩
      case round =>
        obtain ⟨k, hk, rfl, hsame, q, rfl⟩ := hrel
        by_cases hlt : k < l.length
        · obtain ⟨b1, o1, x, rfl, hx, hcx⟩ := ha.int hlt
          obtain ⟨b2, o2, y, rfl, hy, hcy⟩ := hb.int (i := k) (by rw [← HL.out]; exact hlt)
          by_cases hxy : x = y
          · subst hxy
            have hsn := same_succ hsame hx hy
            have h1 : ((x != x) : Bool) = false := by simp
            have HX := Lib.hid hx
            clear hx hy
            go_wp2
            go_quiet (fail)
            go_wp2
            refine ⟨⟨k + 1, by omega, by go_num, hsn, _, rfl⟩, by simp [intOf]; omega⟩
          · have h1 : ((x != y) : Bool) = true := by simpa using hxy
            have hne : decide (l = m) = false := by
              simp only [decide_eq_false_iff_not]
              rintro rfl
              rw [hx] at hy
              exact hxy (Option.some.inj hy)
            rw [hne] at HR
            have hr' := HR.out
            subst hr'
            clear hx hy hxy hne
            go_wp2
            go_quiet (fail)
            go_wp2
            go_ret
            exact ⟨rfl, q + nq, World.drewN_drewN ..⟩
        · go_wp2
          go_meet
          obtain rfl : k = l.length := by omega
          exact ⟨hsame, q, rfl⟩
    obtain ⟨hs, q, rfl⟩ := hcut
    refine hK _ _ ?_; clear hK
    have he := same_all HL.out hs
    have hr' := HR.out
    rw [he] at hr'
    simp only [decide_true] at hr'
    subst hr'
    clear he hs
    go_wp2
    go_ret
    exact ⟨rfl, q, rfl⟩
  · have h1 : ((l.length : Int) != (m.length : Int)) = true := by rw [bne_iff_ne]; omega
    go_enter Try.func11, Try.ntmps11
    go_wp2
    go_ret
    refine ⟨ret_bool ?_, 0, rfl⟩
    rw [← HR.out]
    simp
    rintro rfl
    exact hlen rfl
end Go.Proofs.Ytjolhdlnjdmbeaa
