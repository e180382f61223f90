/- slices.BinarySearchFunc at pairs, find, was. -/
import Derived.Test.YtiipelccmkidbaaK2
import Derived.Test.YtiipelccmkidbaaRows
import Derived.WalkKit
import Derived.WalkSpells
import Derived.WalkLawsBesides
import Derived.Handy
import Derived.Deep.QuietTactic
import Derived.BigQuiet
import Derived.Deep.DeepCutAuto
import Derived.Lib.Hide
import Derived.RegionTactic
import Derived.ChangeAlike
namespace Go.Proofs.Ytiipelccmkidbaa
open Go.RowKit

theorem hasK_at {l : List Pr} {k : Tx} (hr : Rises l) {y : Pr} (hy : l[(lo l k).length]? = some y) : hasK l k = decide (y.1 = k) := by
  unfold hasK
  cases h : look l k with
  | some v =>
    rw [at_yes hr h] at hy
    injection hy with hy
    subst hy
    simp
  | none =>
    have := at_no hr h hy
    simp [this]
theorem hasK_end {l : List Pr} {k : Tx} (hr : Rises l) (hy : l.length ≤ (lo l k).length) : hasK l k = false := by
  unfold hasK
  cases h : look l k with
  | none => rfl
  | some v =>
    have := at_yes hr h
    rw [List.getElem?_eq_none hy] at this
    cases this
theorem lo_le (l : List Pr) (k : Tx) : (lo l k).length ≤ l.length := List.length_filter_le _ _

set_option maxHeartbeats 2000000 in
theorem bsf_any (a : Option Addr) (cap : Nat) (l : List Pr) (k : Tx) (w : World) (hr : Row w a (prs l)) (hl : l.length ≤ 1000000) (hso : Rises l) :
    Calls Try.prog 34 #[.slice a l.length cap, .string k, .func (.func 35) #[] #[]] w fun e w' => e = .returned (.tuple #[.int .i64 (lo l k).length, .bool (hasK l k)]) ∧ Below w.heap.size w w' := by
  go_enter Try.func34, Try.ntmps34
  refine wp_seq_k (fun K hK => ?_)
  have HK := Lib.hid hK
  clear hK
  go_wp2
  refine HK.out _ _ ?_
  clear HK
  refine wp_seq_k (fun K hK => ?_)
  have HK := Lib.hid hK
  clear hK
  go_wp2
  refine HK.out _ _ ?_
  clear HK
  refine wp_seq_k (fun K hK => ?_)
  have HK := Lib.hid hK
  clear hK
  go_wp2
  refine HK.out _ _ ?_
  clear HK
  refine wp_seq_k (fun K hK => ?_)
  go_cut [9] (fun i wx => i = .int .i64 (lo l k).length ∧ Below w.heap.size w wx)
  case first =>
    go_wp2_with fail
    go_loopw [9, 10] (fun i j wr => ∃ a b : Nat, a ≤ b ∧ b ≤ l.length ∧ i = .int .i64 a ∧ j = .int .i64 b ∧ BsK l k a b ∧ Below w.heap.size w wr)
      (fun i j _ => (intOf j).toNat - (intOf i).toNat)
    case atStart => exact ⟨0, l.length, by omega, by omega, rfl, rfl, ⟨fun _ _ _ h => by omega, fun k y h hk => by rw [List.getElem?_eq_none hk] at h; cases h⟩, Below.refl _ _⟩
    case round =>
      obtain ⟨a, b, hab, hb, rfl, rfl, hinv, hbr⟩ := hrel
      by_cases hlt : a < b
      · have hm : (a + b) / 2 < l.length := by omega
        obtain ⟨bb, off, rfl, hblt, hcs⟩ := (hr.below0 hbr).pair (List.getElem?_eq_getElem hm)
        obtain ⟨c0, c1⟩ := hcs ((a + b) / 2) _ (List.getElem?_eq_getElem hm)
        clear hcs
        have hlo := bsK_lo (k := k) hso hinv (List.getElem?_eq_getElem hm)
        have hhi := bsK_hi (k := k) hso hinv (List.getElem?_eq_getElem hm)
        generalize l[(a + b) / 2] = y at *
        obtain ⟨y1, y2⟩ := y
        cases hyx : kl y1 k
        · have hh := hhi hyx
          have hc : ¬ cmpI y1 k < 0 := by
            unfold cmpI
            rw [hyx]
            split
            · rename_i h; cases h
            · split <;> omega
          clear hlo hhi hyx
          go_wp2_with (go_at_call 35; refine (find1_any _ _ _ _).mono ?_; rintro e w1 ⟨rfl, hb1⟩)
          go_roundw
          case rel => exact ⟨a, (a + b) / 2, by omega, by omega, rfl, by go_num, hh, hbr.trans (hb1.mono hbr.size)⟩
          case measure => simp [intOf]; omega
        · have hh := hlo hyx
          have hc : cmpI y1 k < 0 := by rw [cmpI_lt hyx]; decide
          clear hlo hhi hyx
          go_wp2_with (go_at_call 35; refine (find1_any _ _ _ _).mono ?_; rintro e w1 ⟨rfl, hb1⟩)
          go_roundw
          case rel => exact ⟨(a + b) / 2 + 1, b, by omega, hb, by go_num, rfl, hh, hbr.trans (hb1.mono hbr.size)⟩
          case measure => simp [intOf]; omega
      · go_wp2
        go_meet
        have := pos_lo (l := l) (k := k) (i := a) ⟨by omega, hinv.1, by rw [show a = b by omega]; exact hinv.2⟩
        exact ⟨by rw [← this], hbr⟩
  obtain ⟨rfl, hbx⟩ := hcut
  refine hK _ _ ?_; clear hK
  have hle := lo_le l k
  by_cases hlt : (lo l k).length < l.length
  · obtain ⟨bb, off, rfl, hblt, hcs⟩ := (hr.below0 hbx).pair (List.getElem?_eq_getElem hlt)
    obtain ⟨c0, c1⟩ := hcs _ _ (List.getElem?_eq_getElem hlt)
    clear hcs
    have hmem := hasK_at (k := k) hso (List.getElem?_eq_getElem hlt)
    rw [hmem]
    clear hmem
    generalize l[(lo l k).length] = y at *
    obtain ⟨y1, y2⟩ := y
    generalize (lo l k).length = p at *
    have hc : (cmpI y1 k == 0) = decide (y1 = k) := by
      unfold cmpI
      by_cases e : y1 = k
      · subst e; simp [kl_irrefl]
      · simp only [if_neg e, decide_eq_false e]
        split <;> rfl
    rw [← hc]
    clear hc
    go_wp2_with (go_at_call 35; refine (find1_any _ _ _ _).mono ?_; rintro e w1 ⟨rfl, hb1⟩)
    go_returns
    exact ⟨rfl, hbx.trans (hb1.mono hbx.size)⟩
  · have hmem := hasK_end (k := k) hso (by omega)
    rw [hmem]
    clear hmem
    generalize (lo l k).length = p at *
    go_wp2
    go_returns
    exact ⟨rfl, hbx⟩

theorem find_any (a : Option Addr) (cap : Nat) (l : List Pr) (k : Tx) (w : World) (hr : Row w a (prs l)) (hl : l.length ≤ 1000000) (hso : Rises l) :
    Calls Try.prog 31 #[.slice a l.length cap, .string k] w fun e w' => e = .returned (.tuple #[.int .i64 (lo l k).length, .bool (hasK l k)]) ∧ Below w.heap.size w w' := by
  go_enter Try.func31, Try.ntmps31
  go_wp2_with (go_at_call 34; refine (bsf_any _ _ _ _ _ hr hl hso).mono ?_; rintro e w1 ⟨rfl, hb1⟩)
  go_returns
  exact ⟨rfl, hb1⟩

def rpV (r : Rp) : Value := .agg #[.int .i64 r.err, .bool r.found, .string r.val]
end Go.Proofs.Ytiipelccmkidbaa
