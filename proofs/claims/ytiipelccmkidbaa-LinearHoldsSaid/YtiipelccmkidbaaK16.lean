/- What the four kinds do, each under one contract; Do. -/
import Derived.Test.YtiipelccmkidbaaK15
import Derived.Test.YtiipelccmkidbaaRows
import Derived.WalkKit
import Derived.WalkSpells
import Derived.WalkLawsBesides
import Derived.Handy
import Derived.Deep.QuietTactic
import Derived.BigQuiet
import Derived.Deep.DeepCutAuto
import Derived.Lib.Hide
import Derived.RegionTactic
import Derived.ChangeAlike
import Derived.Deep.RegionHeld3
import Derived.Laws.ResultCell
import Derived.Outline
import Derived.Laws.EntriesVeiled
namespace Go.Proofs.Ytiipelccmkidbaa
open Go.RowKit

def ActRes (base : Nat) (v : Value) (w : World) (lr : List Pr × Rp) (e : Ending) (w' : World) : Prop := StRes base lr.1 lr.2 e w' ∧ w.grownBy w' v.ownBlock

section
variable (base : Nat) (a : Option Addr) (cap : Nat) (l : List Pr) (o : Opn) (w : World) (hown : w.ownsRow base 46 2 (.slice a l.length cap) l.length (prs l)) (hbase : base ≤ w.heap.size) (hl : l.length ≤ 1000) (hso : Rises l)
include hown hl hso
theorem get_own : Calls Try.prog 25 #[.slice a l.length cap, opV o] w (ActRes base (.slice a l.length cap) w (l, wasR l o.key)) := by
  obtain ⟨a0, c0, hv0, hr, hcap, hmx⟩ := Row.of_owns hown
  injection hv0 with hv1 _ hv2
  subst hv1 hv2
  refine (get_any a cap l o w hr (by omega) hso _ rfl).mono ?_
  rintro e w' ⟨rfl, hb⟩
  exact ⟨⟨_, rfl, owns_after hown hb⟩, gb_of_below hb _⟩
include hbase
theorem put_own : Calls Try.prog 26 #[.slice a l.length cap, opV o] w (ActRes base (.slice a l.length cap) w (if look l o.key = none ∧ l.length = 8 then (l, ⟨211, false, ⟨#[]⟩⟩) else (putL l o.key o.val, wasR l o.key))) := by
  cases hlk : look l o.key with
  | none =>
    have hw : wasR l o.key = ⟨0, false, ⟨#[]⟩⟩ := by simp [wasR, hlk]
    by_cases h8 : l.length = 8
    · rw [if_pos ⟨rfl, h8⟩]
      exact put_full_any base a cap l o w hown h8 hso hlk
    · rw [if_neg (fun h => h8 h.2), hw]
      exact put_new_any base a cap l o w hown hbase hl h8 hso hlk
  | some u =>
    have hw : wasR l o.key = ⟨0, true, u⟩ := by simp [wasR, hlk]
    rw [if_neg (fun h => by cases h.1), hw]
    exact put_there_any base _ l o u w hown hl hso hlk
theorem del_own : Calls Try.prog 27 #[.slice a l.length cap, opV o] w (ActRes base (.slice a l.length cap) w (delL l o.key, wasR l o.key)) := by
  cases hlk : look l o.key with
  | none =>
    have hw : wasR l o.key = ⟨0, false, ⟨#[]⟩⟩ := by simp [wasR, hlk]
    rw [hw, del_none hso hlk]
    exact delete_none_any base a cap l o w hown hl hso hlk
  | some u =>
    have hw : wasR l o.key = ⟨0, true, u⟩ := by simp [wasR, hlk]
    rw [hw]
    exact delete_there_any base a cap l o w hown hbase hl hso u hlk
omit hbase
theorem swap_own : Calls Try.prog 28 #[.slice a l.length cap, opV o] w (ActRes base (.slice a l.length cap) w (if look l o.key = some o.old then (putL l o.key o.val, wasR l o.key) else (l, { wasR l o.key with found := false }))) := by
  cases hlk : look l o.key with
  | none =>
    have hw : wasR l o.key = ⟨0, false, ⟨#[]⟩⟩ := by simp [wasR, hlk]
    rw [if_neg (by simp), hw]
    exact swap_none_any base a cap l o w hown hl hso hlk
  | some u =>
    have hw : wasR l o.key = ⟨0, true, u⟩ := by simp [wasR, hlk]
    by_cases hu : u = o.old
    · subst hu
      rw [if_pos rfl, hw]
      exact swap_yes_any base a cap l o w hown hl hso hlk
    · rw [if_neg (fun e => hu (Option.some.inj e)), hw]
      exact swap_other_any base a cap l o w hown hl hso u hlk hu
end

@[go_sem] theorem index_does1 (w : World) : (Instr.index 48 doesV (.int .u8 1)).run Try.prog w = .ok (fnV 25) w := by kernel_rfl
@[go_sem] theorem index_does2 (w : World) : (Instr.index 48 doesV (.int .u8 2)).run Try.prog w = .ok (fnV 26) w := by kernel_rfl
@[go_sem] theorem index_does3 (w : World) : (Instr.index 48 doesV (.int .u8 3)).run Try.prog w = .ok (fnV 27) w := by kernel_rfl
@[go_sem] theorem index_does4 (w : World) : (Instr.index 48 doesV (.int .u8 4)).run Try.prog w = .ok (fnV 28) w := by kernel_rfl
end Go.Proofs.Ytiipelccmkidbaa
