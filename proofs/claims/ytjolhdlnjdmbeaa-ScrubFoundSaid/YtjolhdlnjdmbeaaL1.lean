/- Walks of the integer functions of scrub and its reference. -/
import Derived.Test.YtjolhdlnjdmbeaaKit
import Derived.Test.YtjolhdlnjdmbeaaRows
import Derived.WalkKit
import Derived.WalkSpells
import Derived.WalkLawsBesides
import Derived.Handy
import Derived.Deep.QuietTactic
import Derived.BigQuiet
import Derived.Deep.DeepCutAuto
import Derived.Lib.Hide
import Derived.RegionTactic
import Derived.ChangeAlike
namespace Go.Proofs.Ytjolhdlnjdmbeaa
open Go.RowKit

def ptd (n m : Int) : Int := if n < 0 ∨ m ≤ n then 0 else n
set_option maxHeartbeats 400000 in
theorem pointed_any (n m : Int) (w : World) :
    Calls Try.prog 14 #[.int .i64 n, .int .i64 m] w fun e w' => e = .returned (.int .i64 (ptd n m)) ∧ w = w' := by
  go_enter Try.func14, Try.ntmps14
  go_wp2
  all_goals go_ret
  all_goals refine ⟨ret_int ?_, rfl⟩
  all_goals (unfold ptd; split <;> omega)

def wthn (n a b : Int) : Int := min (max n a) b
set_option maxHeartbeats 400000 in
theorem within_any (n a b : Int) (w : World) :
    Calls Try.prog 15 #[.int .i64 n, .int .i64 a, .int .i64 b] w fun e w' => e = .returned (.int .i64 (wthn n a b)) ∧ w = w' := by
  go_enter Try.func15, Try.ntmps15
  go_wp2
  all_goals go_ret
  all_goals refine ⟨ret_int ?_, rfl⟩
  all_goals (unfold wthn; (try split at *) <;> omega)

set_option maxHeartbeats 400000 in
theorem rounds_any (n : Int) (w : World) :
    Calls Try.prog 9 #[.int .i64 n] w fun e w' => e = .returned (.int .i64 24) ∧ w = w' := by
  go_enter Try.func9, Try.ntmps9
  go_wp2_with (go_at_call 15; refine (within_any _ _ _ _).mono ?_; rintro e w' ⟨rfl, rfl⟩)
  all_goals go_ret
  all_goals refine ⟨ret_int ?_, rfl⟩
  all_goals (unfold wthn at *; omega)

set_option maxHeartbeats 400000 in
theorem snap_any (n : Int) (w : World) :
    Calls Try.prog 16 #[.int .i64 n] w fun e w' => e = .returned (.int .i64 (wthn n 0 1099511627752)) ∧ w = w' := by
  go_enter Try.func16, Try.ntmps16
  go_wp2
  all_goals go_ret
  all_goals refine ⟨ret_int ?_, rfl⟩
  all_goals (unfold wthn; omega)

theorem ptd_bd (n m : Int) (h : 0 < m) : 0 ≤ ptd n m ∧ ptd n m < m := by unfold ptd; split <;> omega
theorem wthn_bd (n a b : Int) (h : a ≤ b) : a ≤ wthn n a b ∧ wthn n a b ≤ b := by unfold wthn; omega

def nxI (s snap : Int) : Int := wthn snap 0 1099511627752 + 1 + ptd s 24
def nxK (c count : Int) : Int := if wthn count 0 8 = 0 then -1 else ptd (ptd c 8) (wthn count 0 8)
def nxS (s : Int) : Int := (ptd s 24 + 1) % 24
def nxC (c count : Int) : Int := if wthn count 0 8 = 0 then 0 else (ptd (ptd c 8) (wthn count 0 8) + 1) % wthn count 0 8

set_option maxHeartbeats 400000 in
theorem next_any (s c snap count : Int) (w : World) :
    Calls Try.prog 7 #[.agg #[.int .i64 s, .int .i64 c], .int .i64 snap, .int .i64 count] w fun e w' =>
      e = .returned (.tuple #[.int .i64 (nxI s snap), .int .i64 (nxK c count), .agg #[.int .i64 (nxS s), .int .i64 (nxC c count)]]) ∧ Below w.heap.size w w' := by
  have b1 := ptd_bd s 24 (by omega)
  have b2 := ptd_bd c 8 (by omega)
  have b3 := wthn_bd snap 0 1099511627752 (by omega)
  have b4 := wthn_bd count 0 8 (by omega)
  have b5 := ptd_bd (ptd c 8) (wthn count 0 8)
  unfold nxI nxK nxS nxC
  generalize e1 : ptd s 24 = sl at *
  generalize e2 : ptd c 8 = ch at *
  generalize e3 : wthn snap 0 1099511627752 = sn at *
  generalize e4 : wthn count 0 8 = cn at *
  by_cases h0 : cn = 0
  all_goals
    have E1 := Lib.hid e1
    have E2 := Lib.hid e2
    have E3 := Lib.hid e3
    have E4 := Lib.hid e4
    clear e1 e2 e3 e4
    go_enter Try.func7, Try.ntmps7
    go_wp2
    go_quiet ((first | (go_at_call 15; exact quiet_same (within_any _ _ _ _)) | (go_at_call 14; exact quiet_same (pointed_any _ _ _))))
    rw [E1.out, E2.out]
    go_wp2_with (first | (go_at_call 15; refine (within_any _ _ _ _).mono ?_; rintro e w' ⟨rfl, rfl⟩; first | rw [E3.out] | rw [E4.out]) | (go_at_call 14; refine (pointed_any _ _ _).mono ?_; rintro e w' ⟨rfl, rfl⟩))
    go_region
  all_goals go_wp2
  all_goals go_returns
  all_goals exact ⟨rfl, by (repeat' (first | (with_reducible exact Below.refl _ _) | (with_reducible assumption) | (with_reducible refine Below.alloc ?_ ?_ _) | (with_reducible refine Below.drew ?_) | (with_reducible refine below_drewN ?_ _) | (with_reducible refine Below.setCell ?_ ?_ _) | (with_reducible refine Below.trans ?_ (by assumption)) | go_size))⟩

def ret3 (a b c d : Int) : Ending := .returned (.tuple #[.int .i64 a, .int .i64 b, .agg #[.int .i64 c, .int .i64 d]])
theorem ret_next {a b c d a' b' c' d' : Int} (h1 : a = a') (h2 : b = b') (h3 : c = c') (h4 : d = d') :
    Ending.returned (.tuple #[.int .i64 a, .int .i64 b, .agg #[.int .i64 c, .int .i64 d]]) = Ending.returned (.tuple #[.int .i64 a', .int .i64 b', .agg #[.int .i64 c', .int .i64 d']]) := by
  rw [h1, h2, h3, h4]
theorem ptd_hi {s : Int} (h : 24 ≤ s) : ptd s 24 = 0 := by unfold ptd; rw [if_pos (by omega)]

set_option maxHeartbeats 1000000 in
theorem rnext_any (s c snap count : Int) (w : World) :
    Calls Try.prog 8 #[.agg #[.int .i64 s, .int .i64 c], .int .i64 snap, .int .i64 count] w fun e w' =>
      e = .returned (.tuple #[.int .i64 (nxI s snap), .int .i64 (nxK c count), .agg #[.int .i64 (nxS s), .int .i64 (nxC c count)]]) ∧ Below w.heap.size w w' := by
  have b3 := wthn_bd snap 0 1099511627752 (by omega)
  have b1 := ptd_bd s 24 (by omega)
  have b2 := ptd_bd c 8 (by omega)
  unfold nxI nxK nxS nxC
  generalize e3 : wthn snap 0 1099511627752 = sn at *
  have E3 := Lib.hid e3
  clear e3
  generalize e1 : ptd s 24 = sl at *
  have E1 := Lib.hid e1
  clear e1
  generalize e2 : ptd c 8 = cl at *
  have E2 := Lib.hid e2
  clear e2
  go_enter Try.func8, Try.ntmps8
  refine wp_seq_k (fun K hK => ?_)
  have HK := Lib.hid hK
  clear hK
  go_wp2
  refine HK.out _ _ ?_
  clear HK
  refine wp_seq_k (fun K hK => ?_)
  go_cut [] (fun wx => wx = (w.alloc (Obj.cells #[.int .i64 sl, .int .i64 c] 23)).alloc (Obj.cells #[.int .i64 0, .int .i64 0] 23))
  case first =>
    go_wp2
    all_goals go_meet
    all_goals (rw [← E1.out]; unfold ptd; first | rw [if_pos (by omega)] | rw [if_neg (by omega)])
  subst hcut
  refine hK _ _ ?_; clear hK
  refine wp_seq_k (fun K hK => ?_)
  go_cut [] (fun wx => wx = (w.alloc (Obj.cells #[.int .i64 sl, .int .i64 cl] 23)).alloc (Obj.cells #[.int .i64 0, .int .i64 0] 23))
  case first =>
    go_wp2
    all_goals go_meet
    all_goals (rw [← E2.out]; unfold ptd; first | rw [if_pos (by omega)] | rw [if_neg (by omega)])
  subst hcut
  refine hK _ _ ?_; clear hK
  refine wp_seq_k (fun K hK => ?_)
  go_cut [2] (fun t wx => t = .int .i64 (min count 8) ∧ wx = (w.alloc (Obj.cells #[.int .i64 sl, .int .i64 cl] 23)).alloc (Obj.cells #[.int .i64 0, .int .i64 0] 23))
  case first =>
    go_wp2
    all_goals go_meet
    all_goals (refine ⟨?_, rfl⟩; congr 1; omega)
  obtain ⟨rfl, rfl⟩ := hcut
  refine hK _ _ ?_; clear hK
  refine wp_seq_k (fun K hK => ?_)
  have HK := Lib.hid hK
  clear hK
  go_quiet ((go_at_call 16; exact quiet_same (snap_any _ _))) <;> rw [E3.out] <;> go_wp2 <;> go_unwrap
  refine HK.out _ _ ?_
  clear HK
  refine wp_seq_k (fun K hK => ?_)
  have HK := Lib.hid hK
  clear hK
  go_wp2
  refine HK.out _ _ ?_
  clear HK
  refine wp_seq_k (fun K hK => ?_)
  go_cut [] (fun wx => wx = (((w.alloc (Obj.cells #[.int .i64 sl, .int .i64 cl] 23)).alloc (Obj.cells #[.int .i64 0, .int .i64 0] 23)).drewN nq).alloc (Obj.cells #[.int .i64 ((sl + 1) % 24), .int .i64 0] 23))
  case first =>
    by_cases h24 : sl = 23
    · subst h24
      go_wp2
      go_meet
      rfl
    · go_wp2
      go_meet
      rw [show (sl + 1) % 24 = sl + 1 by omega]
  subst hcut
  refine hK _ _ ?_; clear hK
  have hw : wthn count 0 8 = max 0 (min count 8) := by unfold wthn; omega
  rw [hw]
  clear hw
  by_cases h0 : count ≤ 0
  · rw [show max 0 (min count 8) = 0 by omega]
    go_wp2
    go_region
    all_goals go_wp2
    all_goals go_returns
    all_goals exact ⟨rfl, by (repeat' (first | (with_reducible exact Below.refl _ _) | (with_reducible assumption) | (with_reducible refine Below.alloc ?_ ?_ _) | (with_reducible refine Below.drew ?_) | (with_reducible refine below_drewN ?_ _) | (with_reducible refine Below.setCell ?_ ?_ _) | (with_reducible refine Below.trans ?_ (by assumption)) | go_size))⟩
  · rw [show max 0 (min count 8) = min count 8 by omega, if_neg (by omega), if_neg (by omega)]
    have hm : 0 < min count 8 ∧ min count 8 ≤ 8 := by omega
    have hp := ptd_bd cl (min count 8) hm.1
    generalize min count 8 = cn at *
    generalize e3 : ptd cl cn = pc at *
    have E3 := Lib.hid e3
    clear e3
    refine wp_seq_k (fun K hK => ?_)
    have HK := Lib.hid hK
    clear hK
    go_wp2
    refine HK.out _ _ ?_
    clear HK
    refine wp_seq_k (fun K hK => ?_)
    have HK := Lib.hid hK
    clear hK
    go_wp2
    refine HK.out _ _ ?_
    clear HK
    refine wp_seq_k (fun K hK => ?_)
    go_cut [11] (fun t wx => t = .int .i64 pc ∧ wx = (((w.alloc (Obj.cells #[.int .i64 sl, .int .i64 cl] 23)).alloc (Obj.cells #[.int .i64 0, .int .i64 0] 23)).drewN nq).alloc (Obj.cells #[.int .i64 ((sl + 1) % 24), .int .i64 0] 23))
    case first =>
      go_wp2
      all_goals go_meet
      all_goals refine ⟨?_, rfl⟩
      all_goals (rw [← E3.out]; unfold ptd; first | rw [if_pos (by omega)] | rw [if_neg (by omega)])
    obtain ⟨rfl, rfl⟩ := hcut
    refine hK _ _ ?_; clear hK
    refine wp_seq_k (fun K hK => ?_)
    have HK := Lib.hid hK
    clear hK
    go_wp2
    refine HK.out _ _ ?_
    clear HK
    refine wp_seq_k (fun K hK => ?_)
    go_cut [] (fun wx => wx = (((w.alloc (Obj.cells #[.int .i64 sl, .int .i64 cl] 23)).alloc (Obj.cells #[.int .i64 0, .int .i64 0] 23)).drewN nq).alloc (Obj.cells #[.int .i64 ((sl + 1) % 24), .int .i64 ((pc + 1) % cn)] 23))
    case first =>
      by_cases h24 : pc + 1 = cn
      · have hn : ((pc + 1 == cn) : Bool) = true := by simpa using h24
        go_wp2
        go_meet
        rw [show (pc + 1) % cn = 0 by rw [h24]; simp]
      · have hn : ((pc + 1 == cn) : Bool) = false := by simpa using h24
        go_wp2
        go_meet
        rw [show (pc + 1) % cn = pc + 1 from Int.emod_eq_of_lt (by omega) (by omega)]
    subst hcut
    refine hK _ _ ?_; clear hK
    go_wp2
    go_region
    all_goals go_wp2
    all_goals go_returns
    all_goals exact ⟨rfl, by (repeat' (first | (with_reducible exact Below.refl _ _) | (with_reducible assumption) | (with_reducible refine Below.alloc ?_ ?_ _) | (with_reducible refine Below.drew ?_) | (with_reducible refine below_drewN ?_ _) | (with_reducible refine Below.setCell ?_ ?_ _) | (with_reducible refine Below.trans ?_ (by assumption)) | go_size))⟩

end Go.Proofs.Ytjolhdlnjdmbeaa
