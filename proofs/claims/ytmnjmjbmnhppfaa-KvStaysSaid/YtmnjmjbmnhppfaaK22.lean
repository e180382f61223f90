/- awake. -/
import Derived.Test.YtmnjmjbmnhppfaaK21
import Derived.Test.YtmnjmjbmnhppfaaK5c
import Derived.Test.YtmnjmjbmnhppfaaRows
import Derived.WalkKit
import Derived.WalkSpells
import Derived.WalkLawsBesides
import Derived.Handy
import Derived.Deep.QuietTactic
import Derived.BigQuiet
import Derived.Deep.DeepCutAuto
import Derived.Lib.Hide
import Derived.RegionTactic
import Derived.ChangeAlike
import Derived.Laws.ResultCell
import Derived.Outline
namespace Go.Proofs.Ytmnjmjbmnhppfaa
open Go.RowKit

def abcT : Tx := ⟨#[97, 98, 99, 100, 101, 102, 103, 104]⟩
def fullL (k : Nat) : List Pr := (List.range k).map fun i => (abcT.extract i (i + 1), ⟨#[]⟩)
theorem full_len (k : Nat) : (fullL k).length = k := by simp [fullL]
theorem full_succ (k : Nat) : fullL (k + 1) = fullL k ++ [(abcT.extract k (k + 1), ⟨#[]⟩)] := by simp [fullL, List.range_succ]
theorem full_do : doP (fullL 8) ⟨2, ⟨#[105]⟩, ⟨#[]⟩, ⟨#[57]⟩⟩ = (fullL 8, ⟨211, false, ⟨#[]⟩⟩) := by
  have h1 : mayS (fullL 8) = true := by decide +kernel
  have h2 : mayO ⟨2, ⟨#[105]⟩, ⟨#[]⟩, ⟨#[57]⟩⟩ = true := by decide +kernel
  have h3 : look (fullL 8) ⟨#[105]⟩ = none := by decide +kernel
  rw [doP_ok h1 h2]
  simp [h3, full_len]
def baL : List Pr := [(⟨#[98]⟩, ⟨#[]⟩), (⟨#[97]⟩, ⟨#[]⟩)]
theorem ba_do : doP baL ⟨1, ⟨#[97]⟩, ⟨#[]⟩, ⟨#[]⟩⟩ = ([], ⟨2, false, ⟨#[]⟩⟩) := by
  have h1 : mayS baL = false := by decide +kernel
  unfold doP
  rw [if_pos h1]

theorem do_ba (a : Option Addr) (cap : Nat) (w : World) (hs : SlP w a cap baL) :
    Calls Try.prog 36 #[.slice a 2 cap, .agg #[.int .u8 1, .string ⟨#[97]⟩, .string ⟨#[]⟩, .string ⟨#[]⟩]] w fun e w' => (∃ a' cap', e = .returned (.tuple #[.slice a' 0 cap', .agg #[.int .i64 2, .bool false, .string ⟨#[]⟩]]) ∧ SlP w' a' cap' []) ∧ Below w.heap.size w w' :=
  do_open a cap baL 1 _ _ _ w hs (by decide) [] 2 false _ ba_do
theorem do_full (a : Option Addr) (cap : Nat) (w : World) (hs : SlP w a cap (fullL 8)) :
    Calls Try.prog 36 #[.slice a 8 cap, .agg #[.int .u8 2, .string ⟨#[105]⟩, .string ⟨#[]⟩, .string ⟨#[57]⟩]] w fun e w' => (∃ a' cap', e = .returned (.tuple #[.slice a' 8 cap', .agg #[.int .i64 211, .bool false, .string ⟨#[]⟩]]) ∧ SlP w' a' cap' (fullL 8)) ∧ Below w.heap.size w w' :=
  do_open a cap (fullL 8) 2 _ _ _ w hs (by rw [full_len]; decide) (fullL 8) 211 false _ full_do
theorem same_full (a b : Option Addr) (c d : Nat) (w : World) (ha : SlP w a c (fullL 8)) (hb : SlP w b d (fullL 8)) :
    Calls Try.prog 37 #[.slice a 8 c, .slice b 8 d] w fun e w' => e = .returned (.bool true) ∧ ∃ q, w' = w.drewN q :=
  psame_any a b c d (fullL 8) (fullL 8) w ha.row hb.row (by rw [full_len]; decide) (by rw [full_len]; decide) true (by simp)

set_option maxRecDepth 100000 in
set_option maxHeartbeats 4000000 in
theorem awake_any (w : World) : Calls Try.prog 30 #[] w fun e w' => e = .returned (.bool true) ∧ Below w.heap.size w w' := by
  have hbA : Below w.heap.size w w := Below.refl _ _
  go_enter Try.func30, Try.ntmps30
  refine wp_seq_k (fun K hK => ?_)
  have HK := Lib.hid hK
  clear hK
  go_wp2
  refine HK.out _ _ ?_
  clear HK
  refine wp_seq_k (fun K hK => ?_)
  have HK := Lib.hid hK
  clear hK
  go_wp2_with (first
      | (go_at_call 31; refine (op_any _ _ _ _ _).mono ?_; rintro e wt ⟨rfl, hbt⟩; replace hbA := hbA.trans (hbt.mono hbA.size); clear hbt)
      | (go_at_call 73; refine (told_any _ _ _ _ _ _ _ _ _ ?_).mono ?_; (decide +kernel); rintro e wt ⟨rfl, hbt⟩; replace hbA := hbA.trans (hbt.mono hbA.size); clear hbt))
  refine HK.out _ _ ?_
  clear HK
  refine wp_seq_k (fun K hK => ?_)
  have HK := Lib.hid hK
  clear hK
  go_wp2_with (first
      | (go_at_call 31; refine (op_any _ _ _ _ _).mono ?_; rintro e wt ⟨rfl, hbt⟩; replace hbA := hbA.trans (hbt.mono hbA.size); clear hbt)
      | (go_at_call 73; refine (told_any _ _ _ _ _ _ _ _ _ ?_).mono ?_; (decide +kernel); rintro e wt ⟨rfl, hbt⟩; replace hbA := hbA.trans (hbt.mono hbA.size); clear hbt))
  refine HK.out _ _ ?_
  clear HK
  rename_i wt
  refine wp_seq_k (fun K hK => ?_)
  have HK := Lib.hid hK
  clear hK
  go_wp2
  refine HK.out _ _ ?_
  clear HK
  have hs0 := hbA.size
  have hown0 := owns_mono (owns_empty wt 74 2) hs0
  have hbB : Below w.heap.size w (wt.alloc (Obj.cells #[] 74)) := hbA.alloc hs0 _
  generalize wt.alloc (Obj.cells #[] 74) = wf at *
  refine wp_seq_k (fun K hK => ?_)
  go_cut [1] (fun s wx => PairsOf wx w.heap.size s (fullL 8) ∧ Below w.heap.size w wx)
  case first =>
    go_wp2_with fail
    go_loopw [1, 2] (fun s i wr => ∃ k : Nat, k ≤ 8 ∧ i = .int .i64 k ∧ PairsOf wr w.heap.size s (fullL k) ∧ Below w.heap.size w wr) (fun _ i _ => 8 - (intOf i).toNat)
    case atStart => exact ⟨0, by omega, rfl, hown0, hbB⟩
    case round =>
      obtain ⟨k, hk, rfl, hown, hbr⟩ := hrel
      have hfl := full_len k
      have hbs := hbr.size
      by_cases hlt : k < 8
      · unfold PairsOf at hown
        have HF := Lib.hid (full_succ k)
        have HL := Lib.hid hfl
        have hfl2 : (fullL k).length < 4294967296 := by omega
        clear hfl
        go_wp2_with (at_builtin; refine wpList_append1 rfl _ _ 41 74 elPair rfl w.heap.size _ _ _ rfl hown #[.string (abcT.extract k (k + 1)), .string ⟨#[]⟩] rfl (by simp; exact ⟨rfl, rfl⟩) _ rfl hfl2 (by omega) hbs ?_; intro v5 w5 hown5 hb5 _)
        go_roundw
        case rel => exact ⟨k + 1, by omega, by go_num, by rw [HF.out]; exact PairsOf.snoc (p := (abcT.extract k (k + 1), ⟨#[]⟩)) hown5, hbr.trans hb5⟩
        case measure => simp [intOf]; omega
      · go_wp2
        go_meet
        exact ⟨by rw [show 8 = k by omega]; exact hown, hbr⟩
  obtain ⟨hown, hbx⟩ := hcut
  refine hK _ _ ?_; clear hK
  obtain ⟨a1, cap1, rfl, hsF⟩ := SlP.of_owns hown
  rw [full_len]
  clear hown
  have hs1 := hbx.size
  refine wp_seq_k (fun K hK => ?_)
  have HK := Lib.hid hK
  clear hK
  go_wp2_with (first
      | (go_at_call 31; refine (op_any _ _ _ _ _).mono ?_; rintro e w2 ⟨rfl, hb2⟩; have hsF2 := hsF.below hb2)
      | (go_at_call 36; refine (do_full _ _ _ hsF2).mono ?_; rintro e w3 ⟨⟨a3, cap3, rfl, hs3⟩, hb3⟩))
  refine HK.out _ _ ?_
  clear HK
  have hbx2 := hbx.trans (hb2.mono hs1)
  have hbx3 := hbx2.trans (hb3.mono hbx2.size)
  have hb3' := below1 w3 (Obj.cells #[.int .i64 211, .bool false, .string ⟨#[]⟩] 43)
  have hB4 := heap_alloc_new w3 (Obj.cells #[.int .i64 211, .bool false, .string ⟨#[]⟩] 43)
  have hbx4 := hbx3.trans (hb3'.mono hbx3.size)
  have hsF4 := (hsF2.below hb3).below hb3'
  have hsG4 := hs3.below hb3'
  have hlt4 : w3.heap.size < (w3.alloc (Obj.cells #[.int .i64 211, .bool false, .string ⟨#[]⟩] 43)).heap.size := by simp
  clear hsF hsF2 hs3
  generalize w3.alloc (Obj.cells #[.int .i64 211, .bool false, .string ⟨#[]⟩] 43) = w4 at *
  have hs4 := hbx4.size
  have hb4' := below1 w4 (Obj.cells #[.string ⟨#[98]⟩, .string ⟨#[]⟩, .string ⟨#[97]⟩, .string ⟨#[]⟩] 74)
  have hsB : SlP (w4.alloc (Obj.cells #[.string ⟨#[98]⟩, .string ⟨#[]⟩, .string ⟨#[97]⟩, .string ⟨#[]⟩] 74)) (some ⟨w4.heap.size, 0, none⟩) 2 baL := slP_block (l := baL) (heap_alloc_new w4 _) (by decide)
  refine wp_seq_k (fun K hK => ?_)
  have HK := Lib.hid hK
  clear hK
  go_wp2_with (first
      | (go_at_call 31; refine (op_any _ _ _ _ _).mono ?_; rintro e w5 ⟨rfl, hb5⟩; have hsB5 := hsB.below hb5)
      | (go_at_call 36; refine (do_ba _ _ _ hsB5).mono ?_; rintro e w6 ⟨⟨a6, cap6, rfl, hs6⟩, hb6⟩))
  refine HK.out _ _ ?_
  clear HK
  have hb46 : Below w4.heap.size w4 w6 := hb4'.trans ((hb5.mono hb4'.size).trans (hb6.mono (Nat.le_trans hb4'.size hb5.size)))
  have hb6' := below1 w6 (Obj.cells #[.int .i64 2, .bool false, .string ⟨#[]⟩] 43)
  have hb47 := hb46.trans (hb6'.mono hb46.size)
  have hB6 := heap_alloc_new w6 (Obj.cells #[.int .i64 2, .bool false, .string ⟨#[]⟩] 43)
  have hB4' := (hb47.block w3.heap.size hlt4).trans hB4
  have hsF7 := hsF4.below hb47
  have hsG7 := hsG4.below hb47
  have hbx7 := hbx4.trans (hb47.mono hs4)
  generalize w6.alloc (Obj.cells #[.int .i64 2, .bool false, .string ⟨#[]⟩] 43) = w7 at *
  obtain ⟨p0, p1, p2, _⟩ := trio hB4'
  obtain ⟨q0, q1, q2, _⟩ := trio hB6
  go_wp2_with (go_at_call 37; refine (same_full _ _ _ _ _ hsG7 hsF7).mono ?_; rintro e w8 ⟨rfl, q, rfl⟩)
  go_ret
  exact ⟨rfl, below_drewN hbx7 q⟩
end Go.Proofs.Ytmnjmjbmnhppfaa
