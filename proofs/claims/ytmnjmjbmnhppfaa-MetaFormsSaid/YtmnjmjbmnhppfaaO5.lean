/- The reference of layer 1, walked: Get where it reads; Same. -/
import Derived.Test.YtmnjmjbmnhppfaaO4
import Derived.Test.YtmnjmjbmnhppfaaRows
import Derived.WalkKit
import Derived.WalkSpells
import Derived.WalkLawsBesides
import Derived.Handy
import Derived.Deep.QuietTactic
import Derived.BigQuiet
import Derived.Deep.DeepCutAuto
import Derived.Lib.Hide
import Derived.RegionTactic
import Derived.ChangeAlike
namespace Go.Proofs.Ytmnjmjbmnhppfaa
open Go.RowKit

theorem ofLe_take (p : List UInt8) (j : Nat) (h : j < p.length) : ofLe (p.take (j + 1)) = ofLe (p.take j) + 256 ^ j * p[j].toNat := by
  rw [List.take_add_one, List.getElem?_eq_getElem h]
  simp only [Option.toList_some]
  rw [ofLe_app]
  have : (p.take j).length = j := by rw [List.length_take]; omega
  rw [this]
  simp [ofLe]

set_option maxHeartbeats 1000000 in
theorem rget_ok (a : Option Addr) (cap : Nat) (l : List UInt8) (at_ k : Nat) (w : World) (hs : SlB w a cap l) (hk : k = 1 ∨ k = 2 ∨ k = 4 ∨ k = 6) (h : at_ + k ≤ l.length) :
    Calls Try.prog 58 #[.slice a l.length cap, .int .i64 at_, .int .i64 k] w fun e w' => e = .returned (.tuple #[.int .i64 (getN l at_ k), .int .i64 ((at_ : Int) + k), .int .i64 0]) ∧ w = w' := by
  have hw : widthB k = true := by rcases hk with rfl | rfl | rfl | rfl <;> rfl
  have HW := Lib.hid hw
  clear hw
  have hpl : ((l.drop at_).take k).length = k := by rw [List.length_take, List.length_drop]; omega
  have hpe : ∀ j : Nat, (hj : j < k) → ((l.drop at_).take k)[j]'(by omega) = l[at_ + j]'(by omega) := fun j hj => by simp
  have HPE := Lib.hid hpe
  clear hpe
  have hmx := hs.max
  unfold maxLen at hmx
  have hle := hs.le
  have hrow := hs.row
  unfold getN
  go_enter Try.func58, Try.ntmps58
  refine wp_seq_k (fun K hK => ?_)
  have HK := Lib.hid hK
  clear hK
  go_wp2
  refine HK.out _ _ ?_
  clear HK
  refine wp_seq_k (fun K hK => ?_)
  have HK := Lib.hid hK
  clear hK
  go_wp2_with (go_at_call 93; refine (width_any _ _).mono ?_; rintro e w' ⟨rfl, rfl⟩; rw [HW.out])
  refine HK.out _ _ ?_
  clear HK
  refine wp_seq_k (fun K hK => ?_)
  have HK := Lib.hid hK
  clear hK
  go_wp2
  refine HK.out _ _ ?_
  clear HK
  refine wp_seq_k (fun K hK => ?_)
  have HK := Lib.hid hK
  clear hK
  go_wp2
  refine HK.out _ _ ?_
  clear HK
  refine wp_seq_k (fun K hK => ?_)
  go_cut [9] (fun n wx => n = .int .i64 (ofLe ((l.drop at_).take k) : Nat) ∧ wx = w)
  case first =>
    go_wp2_with fail
    go_loopw [9, 10, 11] (fun n wo i wr => ∃ j : Nat, j ≤ k ∧ i = .int .i64 j ∧ n = .int .i64 (ofLe (((l.drop at_).take k).take j) : Nat) ∧ wo = .int .i64 ((256 ^ j : Nat) : Int) ∧ wr = w) (fun _ _ i _ => k - (intOf i).toNat)
    case atStart => exact ⟨0, by omega, rfl, rfl, rfl, rfl⟩
    case round =>
      obtain ⟨j, hj, rfl, rfl, rfl, rfl⟩ := hrel
      by_cases hlt : j < k
      · obtain ⟨b, off, rfl, hc⟩ := hrow.byte (i := at_ + j) (by omega)
        have hst := ofLe_take ((l.drop at_).take k) j (by omega)
        rw [HPE.out j hlt] at hst
        have hlt2 : ofLe (((l.drop at_).take k).take j) < 256 ^ j := by
          have := ofLe_lt (((l.drop at_).take k).take j)
          rwa [show (((l.drop at_).take k).take j).length = j by rw [List.length_take]; omega] at this
        have h5 : 256 ^ j ≤ 256 ^ 5 := Nat.pow_le_pow_right (by omega) (by omega)
        have hb := (l[at_ + j]'(by omega)).toNat_lt
        have hpw : 256 ^ (j + 1) = 256 * 256 ^ j := by rw [Nat.pow_succ, Nat.mul_comm]
        generalize (l[at_ + j]'(by omega)).toNat = x at *
        generalize 256 ^ j = wo at *
        have hmul : wo * x ≤ 256 ^ 5 * 256 := Nat.mul_le_mul h5 (by omega)
        have hcast : (wo : Int) * (x : Int) = ((wo * x : Nat) : Int) := by rw [Int.natCast_mul]
        have HST := Lib.hid hst
        have HPW := Lib.hid hpw
        clear hst hpw
        generalize ofLe (((l.drop at_).take k).take j) = n at *
        generalize wo * x = pr at *
        go_wp2
        refine ⟨⟨j + 1, by omega, by go_num, ?_, ?_, by first | trivial | rfl⟩, by simp [intOf]; omega⟩
        · rw [HST.out]; exact int_eq (by omega)
        · rw [HPW.out]; exact int_eq (by omega)
      · obtain rfl : j = k := by omega
        rw [List.take_of_length_le (Nat.le_of_eq hpl)]
        go_wp2
        go_meet
        exact ⟨rfl, by first | trivial | rfl⟩
  obtain ⟨rfl, rfl⟩ := hcut
  refine hK _ _ ?_; clear hK
  generalize ofLe ((l.drop at_).take k) = n at *
  go_wp2
  go_ret3
  exact ⟨rfl, rfl⟩

def sameFromB (l m : List UInt8) (k : Nat) : Prop := ∀ i x y, i < k → l[i]? = some x → m[i]? = some y → x = y
theorem sameB_zero (l m : List UInt8) : sameFromB l m 0 := fun i _ _ h => by omega
theorem sameB_succ {l m : List UInt8} {k : Nat} {x : UInt8} (h : sameFromB l m k) (hx : l[k]? = some x) (hy : m[k]? = some x) : sameFromB l m (k + 1) := by
  intro i a b hi ha hb
  by_cases e : i = k
  · subst e; rw [hx] at ha; rw [hy] at hb; cases ha; cases hb; rfl
  · exact h i a b (by omega) ha hb
theorem sameB_all {l m : List UInt8} (hl : l.length = m.length) (h : sameFromB l m l.length) : l = m := by
  apply List.ext_getElem hl
  intro i h1 h2
  exact h i _ _ h1 (List.getElem?_eq_getElem h1) (List.getElem?_eq_getElem h2)

set_option maxHeartbeats 1000000 in
theorem same_any (a b : Option Addr) (c d : Nat) (l m : List UInt8) (w : World) (ha : Row w a (bys l)) (hb : Row w b (bys m)) (hl : l.length ≤ 1000000) (hm : m.length ≤ 1000000) (r : Bool) (hr : decide (l = m) = r) :
    Calls Try.prog 22 #[.slice a l.length c, .slice b m.length d] w fun e w' => e = .returned (.bool r) ∧ ∃ q, w' = w.drewN q := by
  have HR := Lib.hid hr
  clear hr
  by_cases hlen : l.length = m.length
  · go_enter Try.func22, Try.ntmps22
    rw [← hlen]
    have HL := Lib.hid hlen
    clear hlen hm
    refine wp_seq_k (fun K hK => ?_)
    have HK := Lib.hid hK
    clear hK
    go_wp2
    refine HK.out _ _ ?_
    clear HK
    refine wp_seq_k (fun K hK => ?_)
    have HK := Lib.hid hK
    clear hK
    go_wp2
    refine HK.out _ _ ?_
    clear HK
    refine wp_seq_k (fun K hK => ?_)
    go_cut [] (fun wx => sameFromB l m l.length ∧ ∃ q, wx = w.drewN q)
    case first =>
      go_wp2_with fail
      go_loopw [5] (fun i wr => ∃ k : Nat, k ≤ l.length ∧ i = .int .i64 k ∧ sameFromB l m k ∧ ∃ q, wr = w.drewN q) (fun i _ => l.length - (intOf i).toNat)
      case atStart => exact ⟨0, Nat.zero_le _, rfl, sameB_zero l m, 0, rfl⟩
      case round =>
        obtain ⟨k, hk, rfl, hsame, q, rfl⟩ := hrel
        by_cases hlt : k < l.length
        · have hlt2 : k < m.length := by rw [← HL.out]; exact hlt
          obtain ⟨b1, o1, rfl, hcx⟩ := ha.byte hlt
          obtain ⟨b2, o2, rfl, hcy⟩ := hb.byte hlt2
          have hx : l[k]? = some l[k] := List.getElem?_eq_getElem hlt
          have hy : m[k]? = some m[k] := List.getElem?_eq_getElem hlt2
          generalize l[k] = x at *
          generalize m[k] = y at *
          by_cases hxy : x = y
          · subst hxy
            have hsn := sameB_succ hsame hx hy
            generalize x.toNat = xn at *
            have h1 : (((xn : Int)) != ((xn : Int))) = false := by simp
            clear hx hy
            go_wp2
            go_quiet (fail)
            go_wp2
            refine ⟨⟨k + 1, by omega, by go_num, hsn, q + nq, by first | rfl | exact World.drewN_drewN ..⟩, by simp [intOf]; omega⟩
          · have hne : decide (l = m) = false := by
              simp only [decide_eq_false_iff_not]
              rintro rfl
              rw [hx] at hy
              exact hxy (Option.some.inj hy)
            have hxy2 : x.toNat ≠ y.toNat := fun e => hxy (UInt8.toNat_inj.1 e)
            rw [hne] at HR
            have hr' := HR.out
            subst hr'
            clear hx hy hxy hne
            generalize x.toNat = xn at *
            generalize y.toNat = yn at *
            have h1 : (((xn : Int)) != ((yn : Int))) = true := by rw [bne_iff_ne]; omega
            clear hxy2
            go_wp2
            go_quiet (fail)
            go_wp2
            go_ret
            exact ⟨rfl, q + nq, World.drewN_drewN ..⟩
        · go_wp2
          go_meet
          obtain rfl : k = l.length := by omega
          exact ⟨hsame, q, rfl⟩
    obtain ⟨hs, q, rfl⟩ := hcut
    refine hK _ _ ?_; clear hK
    have he := sameB_all HL.out hs
    have hr' := HR.out
    rw [he] at hr'
    simp only [decide_true] at hr'
    subst hr'
    clear he hs
    go_wp2
    go_ret
    exact ⟨rfl, q, rfl⟩
  · have h1 : ((l.length : Int) != (m.length : Int)) = true := by rw [bne_iff_ne]; omega
    go_enter Try.func22, Try.ntmps22
    go_wp2
    go_ret
    refine ⟨ret_bool ?_, 0, rfl⟩
    rw [← HR.out]
    simp
    rintro rfl
    exact hlen rfl
end Go.Proofs.Ytmnjmjbmnhppfaa
