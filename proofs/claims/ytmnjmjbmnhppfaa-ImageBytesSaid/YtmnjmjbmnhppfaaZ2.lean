/- Texts that the claim leans on, part 2: K9, K3, K4, K10, K11. -/
import Derived.Test.YtmnjmjbmnhppfaaZ1
import Derived.Test.YtmnjmjbmnhppfaaRows
import Derived.WalkKit
import Derived.WalkSpells
import Derived.WalkLawsBesides
import Derived.Handy
import Derived.Deep.QuietTactic
import Derived.BigQuiet
import Derived.Deep.DeepCutAuto
import Derived.Lib.Hide
import Derived.RegionTactic
import Derived.ChangeAlike
import Derived.Lib.Overlaps
import Derived.StillTailTactics
import Derived.Deep.RegionHeld3
import Derived.Deep.RegionWith
import Derived.Laws.ResultCell
import Derived.Outline
import Derived.ProofKit
import Derived.OpenShut
import Derived.Laws.Strings
import Derived.Laws.CopyOwn
import Derived.Laws.CopyRow
import Derived.Laws.NewBlocks
import Derived.Deep.RegionLaw
namespace Go.Proofs.Ytmnjmjbmnhppfaa
open Go.RowKit

def opV (o : Opn) : Value := .agg #[.int .u8 o.kind, .string o.key, .string o.old, .string o.val]

theorem tx_nil {s : Tx} (h : s.size = 0) : s = ⟨#[]⟩ := by
  apply tx_ext
  have := tx_len s
  rw [h] at this
  rw [List.eq_nil_of_length_eq_zero this, ByteArray.toList_eq]
theorem tx_some {s : Tx} (h : ¬ s.size = 0) : s.toList.isEmpty = false ∧ (s.toList == []) = false := by
  have := tx_len s
  cases hl : s.toList with
  | nil => rw [hl] at this; exact absurd this.symm h
  | cons a l => exact ⟨rfl, rfl⟩
theorem nil_size : decide ((⟨#[]⟩ : Tx).size = 0) = true := rfl
theorem valOk_nil : valOk ⟨#[]⟩ = true := by decide

def mayV (k : Int) (old val : Tx) : Bool := if k = 1 ∨ k = 3 then decide (old.size = 0) && decide (val.size = 0) else if k = 2 then decide (old.size = 0) else decide (k = 4)
theorem mayO_eq (k : Int) (key old val : Tx) : mayO ⟨k, key, old, val⟩ = (keyOk key && valOk old && valOk val && mayV k old val) := rfl

set_option maxRecDepth 100000 in
set_option maxHeartbeats 4000000 in
theorem pmayO_any (k : Int) (key old val : Tx) (w : World) (r : Bool) (hr : mayO ⟨k, key, old, val⟩ = r) :
    Calls Try.prog 34 #[.agg #[.int .u8 k, .string key, .string old, .string val]] w fun e w' => e = .returned (.bool r) ∧ Below w.heap.size w w' := by
  rw [mayO_eq] at hr
  by_cases k1 : k = 1 ∨ k = 3
  · have hv : mayV k old val = (decide (old.size = 0) && decide (val.size = 0)) := by simp [mayV, k1]
    rw [hv] at hr
    clear hv
    by_cases o1 : old.size = 0
    · have := tx_nil o1
      subst this
      by_cases v1 : val.size = 0
      · have := tx_nil v1
        subst this
        have hr2 : keyOk key = r := by rw [← hr]; simp only [nil_size, valOk_nil, Bool.and_true]
        clear hr o1 v1
        cases hk : keyOk key
        all_goals
          rw [hk] at hr2
          subst hr2
          rcases k1 with rfl | rfl
          all_goals
            go_enter Try.func34, Try.ntmps34
            go_wp2_with (first | (go_at_call 74; refine (key_any _ _).mono ?_; rintro e w' ⟨rfl, rfl⟩) | (go_at_call 75; refine (value_any _ _).mono ?_; rintro e w' ⟨rfl, rfl⟩))
            go_ret
            exact ⟨rfl, by (repeat' (first | (with_reducible exact Below.refl _ _) | (with_reducible assumption) | (with_reducible refine Below.alloc ?_ ?_ _) | (with_reducible refine Below.drew ?_) | (with_reducible refine below_drewN ?_ _) | (with_reducible refine Below.setCell ?_ ?_ _) | (with_reducible refine Below.trans ?_ (by assumption)) | go_size))⟩
      · obtain ⟨n1, n2⟩ := tx_some v1
        have hr2 : r = false := by rw [← hr]; simp [v1]
        subst hr2
        clear hr
        rcases k1 with rfl | rfl
        all_goals
          go_enter Try.func34, Try.ntmps34
          go_wp2
          go_ret
          exact ⟨rfl, by (repeat' (first | (with_reducible exact Below.refl _ _) | (with_reducible assumption) | (with_reducible refine Below.alloc ?_ ?_ _) | (with_reducible refine Below.drew ?_) | (with_reducible refine below_drewN ?_ _) | (with_reducible refine Below.setCell ?_ ?_ _) | (with_reducible refine Below.trans ?_ (by assumption)) | go_size))⟩
    · obtain ⟨n1, n2⟩ := tx_some o1
      have hr2 : r = false := by rw [← hr]; simp [o1]
      subst hr2
      clear hr
      rcases k1 with rfl | rfl
      all_goals
        go_enter Try.func34, Try.ntmps34
        go_wp2
        go_ret
        exact ⟨rfl, by (repeat' (first | (with_reducible exact Below.refl _ _) | (with_reducible assumption) | (with_reducible refine Below.alloc ?_ ?_ _) | (with_reducible refine Below.drew ?_) | (with_reducible refine below_drewN ?_ _) | (with_reducible refine Below.setCell ?_ ?_ _) | (with_reducible refine Below.trans ?_ (by assumption)) | go_size))⟩
  · have k1a : (k == 1) = false := by rw [beq_eq_false_iff_ne]; exact fun e => k1 (.inl e)
    have k1b : (k == 3) = false := by rw [beq_eq_false_iff_ne]; exact fun e => k1 (.inr e)
    by_cases k2 : k = 2
    · have hv : mayV k old val = decide (old.size = 0) := by simp [mayV, k2]
      rw [hv] at hr
      clear hv k1 k1a k1b
      subst k2
      by_cases o1 : old.size = 0
      · have := tx_nil o1
        subst this
        simp only [nil_size, valOk_nil, Bool.and_true] at hr
        clear o1
        cases hk : keyOk key <;> cases hv : valOk val
        all_goals
          rw [hk, hv] at hr
          simp only [Bool.and_true, Bool.and_false, Bool.and_self] at hr
          subst hr
          go_enter Try.func34, Try.ntmps34
          go_wp2_with (first | (go_at_call 74; refine (key_any _ _).mono ?_; rintro e w' ⟨rfl, rfl⟩) | (go_at_call 75; refine (value_any _ _).mono ?_; rintro e w' ⟨rfl, rfl⟩))
          go_ret
          exact ⟨rfl, by (repeat' (first | (with_reducible exact Below.refl _ _) | (with_reducible assumption) | (with_reducible refine Below.alloc ?_ ?_ _) | (with_reducible refine Below.drew ?_) | (with_reducible refine below_drewN ?_ _) | (with_reducible refine Below.setCell ?_ ?_ _) | (with_reducible refine Below.trans ?_ (by assumption)) | go_size))⟩
      · obtain ⟨n1, n2⟩ := tx_some o1
        have hr2 : r = false := by rw [← hr]; simp [o1]
        subst hr2
        clear hr
        go_enter Try.func34, Try.ntmps34
        go_wp2
        go_ret
        exact ⟨rfl, by (repeat' (first | (with_reducible exact Below.refl _ _) | (with_reducible assumption) | (with_reducible refine Below.alloc ?_ ?_ _) | (with_reducible refine Below.drew ?_) | (with_reducible refine below_drewN ?_ _) | (with_reducible refine Below.setCell ?_ ?_ _) | (with_reducible refine Below.trans ?_ (by assumption)) | go_size))⟩
    · have k2a : (k == 2) = false := by rw [beq_eq_false_iff_ne]; exact k2
      by_cases k4 : k = 4
      · have hv : mayV k old val = true := by simp [mayV, k4]
        rw [hv] at hr
        clear hv k1 k1a k1b k2 k2a
        subst k4
        cases hk : keyOk key <;> cases ho : valOk old <;> cases hv : valOk val
        all_goals
          rw [hk, ho, hv] at hr
          simp only [Bool.and_true, Bool.and_false, Bool.and_self] at hr
          subst hr
          go_enter Try.func34, Try.ntmps34
          go_wp2_with (first | (go_at_call 74; refine (key_any _ _).mono ?_; rintro e w' ⟨rfl, rfl⟩) | (go_at_call 75; refine (value_any _ _).mono ?_; rintro e w' ⟨rfl, rfl⟩))
          go_ret
          exact ⟨rfl, by (repeat' (first | (with_reducible exact Below.refl _ _) | (with_reducible assumption) | (with_reducible refine Below.alloc ?_ ?_ _) | (with_reducible refine Below.drew ?_) | (with_reducible refine below_drewN ?_ _) | (with_reducible refine Below.setCell ?_ ?_ _) | (with_reducible refine Below.trans ?_ (by assumption)) | go_size))⟩
      · have k4a : (k == 4) = false := by rw [beq_eq_false_iff_ne]; exact k4
        have hv : mayV k old val = false := by simp [mayV, k1, k2, k4]
        have hr2 : r = false := by rw [← hr, hv]; simp
        subst hr2
        clear hr hv k1 k2 k4
        go_enter Try.func34, Try.ntmps34
        go_wp2
        go_ret
        exact ⟨rfl, by (repeat' (first | (with_reducible exact Below.refl _ _) | (with_reducible assumption) | (with_reducible refine Below.alloc ?_ ?_ _) | (with_reducible refine Below.drew ?_) | (with_reducible refine below_drewN ?_ _) | (with_reducible refine Below.setCell ?_ ?_ _) | (with_reducible refine Below.trans ?_ (by assumption)) | go_size))⟩

theorem preads_any (k : Int) (key old val : Tx) (w : World) (r : Bool) (hr : (k == 1) = r) :
    Calls Try.prog 43 #[.agg #[.int .u8 k, .string key, .string old, .string val]] w fun e w' => e = .returned (.bool r) ∧ Below w.heap.size w w' := by
  go_enter Try.func43, Try.ntmps43
  go_wp2
  go_ret
  exact ⟨rfl, by (repeat' (first | (with_reducible exact Below.refl _ _) | (with_reducible assumption) | (with_reducible refine Below.alloc ?_ ?_ _) | (with_reducible refine Below.drew ?_) | (with_reducible refine below_drewN ?_ _) | (with_reducible refine Below.setCell ?_ ?_ _) | (with_reducible refine Below.trans ?_ (by assumption)) | go_size))⟩

set_option maxRecDepth 100000 in
set_option maxHeartbeats 4000000 in
theorem rmayO_any (k : Int) (key old val : Tx) (w : World) (r : Bool) (hr : mayO ⟨k, key, old, val⟩ = r) :
    Calls Try.prog 42 #[.agg #[.int .u8 k, .string key, .string old, .string val]] w fun e w' => e = .returned (.bool r) ∧ Below w.heap.size w w' := by
  rw [mayO_eq] at hr
  by_cases q0 : key.size = 0
  · have hr2 : r = false := by rw [← hr]; simp [keyOk, q0]
    subst hr2
    have q0a : ((key.size : Int) == 0) = true := by simp [q0]
    clear hr q0
    go_enter Try.func42, Try.ntmps42
    go_wp2
    go_ret
    exact ⟨rfl, by (repeat' (first | (with_reducible exact Below.refl _ _) | (with_reducible assumption) | (with_reducible refine Below.alloc ?_ ?_ _) | (with_reducible refine Below.drew ?_) | (with_reducible refine below_drewN ?_ _) | (with_reducible refine Below.setCell ?_ ?_ _) | (with_reducible refine Below.trans ?_ (by assumption)) | go_size))⟩
  · have q0a : ((key.size : Int) == 0) = false := by rw [beq_eq_false_iff_ne]; omega
    by_cases q8 : key.size ≤ 8
    · by_cases qo : old.size ≤ 16
      · by_cases qv : val.size ≤ 16
        · have hk1 : keyOk key = true := by simp [keyOk, q8]; omega
          have ho1 : valOk old = true := by simp [valOk, qo]
          have hv1 : valOk val = true := by simp [valOk, qv]
          rw [hk1, ho1, hv1] at hr
          simp only [Bool.true_and, Bool.and_self] at hr
          clear hk1 ho1 hv1 q0
          by_cases k1 : k = 1 ∨ k = 3
          · have hv : mayV k old val = (decide (old.size = 0) && decide (val.size = 0)) := by simp [mayV, k1]
            rw [hv] at hr
            clear hv
            by_cases o1 : old.size = 0
            · have := tx_nil o1
              subst this
              by_cases v1 : val.size = 0
              · have := tx_nil v1
                subst this
                simp only [nil_size, Bool.and_self] at hr
                subst hr
                clear o1 v1
                rcases k1 with rfl | rfl
                all_goals
                  go_enter Try.func42, Try.ntmps42
                  go_wp2
                  go_ret
                  exact ⟨rfl, by (repeat' (first | (with_reducible exact Below.refl _ _) | (with_reducible assumption) | (with_reducible refine Below.alloc ?_ ?_ _) | (with_reducible refine Below.drew ?_) | (with_reducible refine below_drewN ?_ _) | (with_reducible refine Below.setCell ?_ ?_ _) | (with_reducible refine Below.trans ?_ (by assumption)) | go_size))⟩
              · obtain ⟨n1, n2⟩ := tx_some v1
                have hr2 : r = false := by rw [← hr]; simp [v1]
                subst hr2
                clear hr
                rcases k1 with rfl | rfl
                all_goals
                  go_enter Try.func42, Try.ntmps42
                  go_wp2
                  go_ret
                  exact ⟨rfl, by (repeat' (first | (with_reducible exact Below.refl _ _) | (with_reducible assumption) | (with_reducible refine Below.alloc ?_ ?_ _) | (with_reducible refine Below.drew ?_) | (with_reducible refine below_drewN ?_ _) | (with_reducible refine Below.setCell ?_ ?_ _) | (with_reducible refine Below.trans ?_ (by assumption)) | go_size))⟩
            · obtain ⟨n1, n2⟩ := tx_some o1
              have hr2 : r = false := by rw [← hr]; simp [o1]
              subst hr2
              clear hr
              rcases k1 with rfl | rfl
              all_goals
                go_enter Try.func42, Try.ntmps42
                go_wp2
                go_ret
                exact ⟨rfl, by (repeat' (first | (with_reducible exact Below.refl _ _) | (with_reducible assumption) | (with_reducible refine Below.alloc ?_ ?_ _) | (with_reducible refine Below.drew ?_) | (with_reducible refine below_drewN ?_ _) | (with_reducible refine Below.setCell ?_ ?_ _) | (with_reducible refine Below.trans ?_ (by assumption)) | go_size))⟩
          · have k1a : (k == 1) = false := by rw [beq_eq_false_iff_ne]; exact fun e => k1 (.inl e)
            have k1b : (k == 3) = false := by rw [beq_eq_false_iff_ne]; exact fun e => k1 (.inr e)
            by_cases k2 : k = 2
            · have hv : mayV k old val = decide (old.size = 0) := by simp [mayV, k2]
              rw [hv] at hr
              clear hv k1 k1a k1b
              subst k2
              by_cases o1 : old.size = 0
              · have := tx_nil o1
                subst this
                simp only [nil_size] at hr
                subst hr
                clear o1
                go_enter Try.func42, Try.ntmps42
                go_wp2
                go_ret
                exact ⟨rfl, by (repeat' (first | (with_reducible exact Below.refl _ _) | (with_reducible assumption) | (with_reducible refine Below.alloc ?_ ?_ _) | (with_reducible refine Below.drew ?_) | (with_reducible refine below_drewN ?_ _) | (with_reducible refine Below.setCell ?_ ?_ _) | (with_reducible refine Below.trans ?_ (by assumption)) | go_size))⟩
              · obtain ⟨n1, n2⟩ := tx_some o1
                have hr2 : r = false := by rw [← hr]; simp [o1]
                subst hr2
                clear hr
                go_enter Try.func42, Try.ntmps42
                go_wp2
                go_ret
                exact ⟨rfl, by (repeat' (first | (with_reducible exact Below.refl _ _) | (with_reducible assumption) | (with_reducible refine Below.alloc ?_ ?_ _) | (with_reducible refine Below.drew ?_) | (with_reducible refine below_drewN ?_ _) | (with_reducible refine Below.setCell ?_ ?_ _) | (with_reducible refine Below.trans ?_ (by assumption)) | go_size))⟩
            · have k2a : (k == 2) = false := by rw [beq_eq_false_iff_ne]; exact k2
              have hv : mayV k old val = decide (k = 4) := by simp [mayV, k1, k2]
              rw [hv] at hr
              clear hv
              by_cases k4 : k = 4
              · subst k4
                simp only [decide_true] at hr
                subst hr
                clear k1 k1a k1b k2 k2a
                go_enter Try.func42, Try.ntmps42
                go_wp2
                go_ret
                exact ⟨rfl, by (repeat' (first | (with_reducible exact Below.refl _ _) | (with_reducible assumption) | (with_reducible refine Below.alloc ?_ ?_ _) | (with_reducible refine Below.drew ?_) | (with_reducible refine below_drewN ?_ _) | (with_reducible refine Below.setCell ?_ ?_ _) | (with_reducible refine Below.trans ?_ (by assumption)) | go_size))⟩
              · have k4a : (k == 4) = false := by rw [beq_eq_false_iff_ne]; exact k4
                have hr2 : r = false := by rw [← hr]; simp [k4]
                subst hr2
                clear hr k1 k2 k4
                go_enter Try.func42, Try.ntmps42
                go_wp2
                go_ret
                exact ⟨rfl, by (repeat' (first | (with_reducible exact Below.refl _ _) | (with_reducible assumption) | (with_reducible refine Below.alloc ?_ ?_ _) | (with_reducible refine Below.drew ?_) | (with_reducible refine below_drewN ?_ _) | (with_reducible refine Below.setCell ?_ ?_ _) | (with_reducible refine Below.trans ?_ (by assumption)) | go_size))⟩
        · have hr2 : r = false := by rw [← hr]; simp [valOk, qv]
          subst hr2
          clear hr q0
          go_enter Try.func42, Try.ntmps42
          go_wp2
          go_ret
          exact ⟨rfl, by (repeat' (first | (with_reducible exact Below.refl _ _) | (with_reducible assumption) | (with_reducible refine Below.alloc ?_ ?_ _) | (with_reducible refine Below.drew ?_) | (with_reducible refine below_drewN ?_ _) | (with_reducible refine Below.setCell ?_ ?_ _) | (with_reducible refine Below.trans ?_ (by assumption)) | go_size))⟩
      · have hr2 : r = false := by rw [← hr]; simp [valOk, qo]
        subst hr2
        clear hr q0
        go_enter Try.func42, Try.ntmps42
        go_wp2
        go_ret
        exact ⟨rfl, by (repeat' (first | (with_reducible exact Below.refl _ _) | (with_reducible assumption) | (with_reducible refine Below.alloc ?_ ?_ _) | (with_reducible refine Below.drew ?_) | (with_reducible refine below_drewN ?_ _) | (with_reducible refine Below.setCell ?_ ?_ _) | (with_reducible refine Below.trans ?_ (by assumption)) | go_size))⟩
    · have hr2 : r = false := by rw [← hr]; simp [keyOk, q8]
      subst hr2
      clear hr q0
      go_enter Try.func42, Try.ntmps42
      go_wp2
      go_ret
      exact ⟨rfl, by (repeat' (first | (with_reducible exact Below.refl _ _) | (with_reducible assumption) | (with_reducible refine Below.alloc ?_ ?_ _) | (with_reducible refine Below.drew ?_) | (with_reducible refine below_drewN ?_ _) | (with_reducible refine Below.setCell ?_ ?_ _) | (with_reducible refine Below.trans ?_ (by assumption)) | go_size))⟩
end Go.Proofs.Ytmnjmjbmnhppfaa

namespace Go.Proofs.Ytmnjmjbmnhppfaa
open Go.RowKit

theorem sizePair : (Try.prog.info? 74).map (·.size) = some 2 := by kernel_rfl
theorem elPair' : ElemT Try.prog 40 74 2 32 := ElemT.of (.agg #[.string ⟨#[]⟩, .string ⟨#[]⟩]) Try.underlying40 (by kernel_rfl) rfl (by decide)
theorem gb_drew {a w : World} {r : Option Nat} (h : a.grownBy w r) : a.grownBy w.drew r := ⟨h.os, h.tape, h.output, h.size, h.block⟩
theorem gb_drewN {a w : World} {r : Option Nat} (h : a.grownBy w r) (n : Nat) : a.grownBy (w.drewN n) r := ⟨h.os, h.tape, h.output, h.size, h.block⟩
theorem gb_trans {a w w' : World} {r r' : Option Nat} (h : a.grownBy w r) (h' : w.grownBy w' r') (hr : ∀ k, r' = some k → a.heap.size ≤ k ∨ r = some k) : a.grownBy w' r :=
  ⟨h'.os.trans h.os, h'.tape.trans h.tape, h'.output.trans h.output, Nat.le_trans h.size h'.size, fun i hi hne => (h'.block i (Nat.lt_of_lt_of_le hi h.size) (fun e => by
    rcases hr i e.symm with h1 | h1
    · omega
    · exact hne h1.symm)).trans (h.block i hi hne)⟩
theorem gb_of_below {a w : World} (h : Below a.heap.size a w) (r : Option Nat) : a.grownBy w r := ⟨h.os, h.tape, h.output, h.size, fun i hi _ => h.block i hi⟩
theorem gb_below {a w w' : World} {r : Option Nat} (h : a.grownBy w r) (h' : Below w.heap.size w w') : a.grownBy w' r := gb_trans h (gb_of_below h' none) (fun _ e => by cases e)
theorem gb_setCell {a w : World} {r : Option Nat} (h : a.grownBy w r) {p : Addr} (hp : r = some p.block ∨ a.heap.size ≤ p.block) (u : Value) : a.grownBy (w.setCell p u) r :=
  gb_trans (r' := some p.block) h ⟨rfl, rfl, rfl, by simp, fun k _ hk => heap_setCell_other w p k u (fun e => hk (by simp [e]))⟩ (fun k e => by cases e; exact hp.symm)
theorem gb_alloc {a w : World} {r : Option Nat} (h : a.grownBy w r) (o : Obj) : a.grownBy (w.alloc o) r := gb_trans h (World.grownBy_alloc w o none) (fun _ e => by cases e)
theorem gb_to_below {w w' : World} {r : Option Nat} (h : w.grownBy w' r) {B : Nat} (hB : B ≤ w.heap.size) (hr : ∀ k, r = some k → B ≤ k) : Below B w w' := (Below.refl _ _).grown h hB hr

theorem run_append_mixed {P : Program} {w : World} {t t' ty e e' : TypeId} (ht : P.underlying t = some (.slice e)) (ht' : P.underlying t' = some (.slice e')) (b b' : Option Addr) (n n' c c' : Nat) :
    (Builtin.append_ #[t, t'] ty #[.slice b n c, .slice b' n' c']).run P w = (Builtin.append_ #[t, t] ty #[.slice b n c, .slice b' n' c']).run P w := by
  simp [Builtin.append_, run_underlying ht, run_underlying ht']
theorem exec_append_mixed {P : Program} {w : World} {o : Oper} {a : Act} {s x : Operand} {t t' e e' : TypeId} (ht : P.underlying t = some (.slice e)) (ht' : P.underlying t' = some (.slice e'))
    (ho : o.op = .call { callee := .builtin .append, args := #[s, x], argTypes := #[t, t'] }) {b b' : Option Addr} {n n' c c' : Nat} (hs : a.eval s = .slice b n c) (hx : a.eval x = .slice b' n' c') :
    (execOp a.eval o).run P w = (execOp a.eval { o with op := .call { callee := .builtin .append, args := #[s, x], argTypes := #[t, t] } }).run P w := by
  simp [execOp, ho, resolve, invoke, builtin, hs, hx, run_append_mixed ht ht']
theorem wpList_appendN' {P : Program} {w : World} {ops : Array Oper} {rest : List Oper} {o : Oper} {a : Act} {Q : Exit → Act → World → Prop} (hgd : o.guard = none) (s x : Operand) (t t' e e' : TypeId) {size bytes : Nat} (hT : ElemT P t e size bytes) (ht' : P.underlying t' = some (.slice e'))
    (ho : o.op = .call { callee := .builtin .append, args := #[s, x], argTypes := #[t, t'] })
    (base : Nat) (v : Value) (n : Nat) (xs : List Value) (hs : a.eval s = v) (hown : w.ownsRow base e size v n xs)
    (ad : Addr) (m c : Nat) (news : List Value) (hx : a.eval x = .slice (some ad) m c) (hl : news.length = m * size) (hnews : ∀ j u, news[j]? = some u → w.cell? (ad.add j) = some u) (h1 : ∀ u ∈ news, u.oneCell' = true)
    (hn : n + m ≤ 4294967296) (hby : bytes ≤ 4096) (hbase : base ≤ w.heap.size)
    (h : ∀ v' w', w'.ownsRow base e size v' (n + m) (xs ++ news) → w.grownBy w' v.ownBlock → wpList P ops Q rest (a.put o.dst v') w') : wpList P ops Q (o :: rest) a w := by
  obtain ⟨i, z, ht, hi, hz, hsize, hbytes, hzs, hsz⟩ := hT.ex
  obtain ⟨b0, c0, hv0, _⟩ := Row.of_owns hown
  have hb1 : (n + m) * bytes ≤ 4294967296 * 4096 := Nat.mul_le_mul hn hby
  obtain ⟨v', w', hr, h2, h3, _⟩ := run_append_own (P := P) (w := w) base t o.type e i z size bytes ht hi hz hsize hbytes hzs hsz v n xs hown ad m c news hl hnews h1 (by unfold maxLen; omega) (by omega) hbase
  have he : (execOp a.eval { o with op := .call { callee := .builtin .append, args := #[s, x], argTypes := #[t, t] } }).run P w = .ok (.value v') w' := exec_append (o := { o with op := .call { callee := .builtin .append, args := #[s, x], argTypes := #[t, t] } }) s x t t rfl _ _ hs hx hr
  exact wpList_run hgd ((exec_append_mixed ht ht' ho (hs.trans hv0) hx).trans he) (h v' w' h2 h3)

def OwnRes2 (base : Nat) (n : Nat) (xs : List Value) (e : Ending) (w' : World) : Prop := ∃ v, e = .returned v ∧ w'.ownsRow base 74 2 v n xs

set_option maxRecDepth 100000 in
set_option maxHeartbeats 1000000 in
theorem insert_end (base n : Nat) (v : Value) (xs : List Value) (w : World) (hown : w.ownsRow base 74 2 v n xs) (vb : Nat) (x y : Value) (e' : TypeId) (hx : w.heap[vb]? = some (.cells #[x, y] e' (0, 0)))
    (h1 : x.oneCell' = true) (h2 : y.oneCell' = true) (hn : n ≤ 1000000) (hbase : base ≤ w.heap.size) :
    Calls Try.prog 110 #[v, .int .i64 n, .slice (some ⟨vb, 0, none⟩) 1 1] w fun e w' => OwnRes2 base (n + 1) (xs ++ [x, y]) e w' ∧ w.grownBy w' v.ownBlock := by
  have hnw : ∀ j u, [x, y][j]? = some u → w.cell? ((⟨vb, 0, none⟩ : Addr).add j) = some u := by
    intro j u hj
    rw [addr_add, Nat.zero_add]
    simpa [World.cell?, hx] using hj
  have HN := Lib.hid hnw
  clear hnw hx
  have hown' := hown
  have HO := Lib.hid hown
  obtain ⟨hl, ⟨rfl, rfl⟩ | ⟨g, cap, cur, rfl, hg, hgc, hnc, hm, hs, ht⟩⟩ := hown
  · clear hl
    go_enter Try.func110, Try.ntmps110
    go_wp2_with (at_builtin; refine wpList_appendN' rfl _ _ 41 40 74 74 elPair Try.underlying40 rfl base _ _ _ rfl hown' ⟨vb, 0, none⟩ 1 1 [x, y] rfl rfl HN.out (by simp [h1, h2]) (by omega) (by omega) hbase ?_)
    intro v' w' ho hb
    go_wp2
    go_ret
    exact ⟨⟨_, rfl, ho⟩, hb⟩
  · unfold maxLen at hm
    clear hgc hs ht hl
    by_cases hcn : cap = n
    · subst hcn
      go_enter Try.func110, Try.ntmps110
      go_wp2_with (at_builtin; refine wpList_appendN' rfl _ _ 41 40 74 74 elPair Try.underlying40 rfl base _ _ _ rfl hown' ⟨vb, 0, none⟩ 1 1 [x, y] rfl rfl HN.out (by simp [h1, h2]) (by omega) (by omega) hbase ?_)
      intro v' w' ho hb
      go_wp2
      go_ret
      exact ⟨⟨_, rfl, ho⟩, hb⟩
    · go_enter Try.func110, Try.ntmps110
      go_wp2_with (at_builtin; refine wpList_appendN' rfl _ _ 41 40 74 74 elPair Try.underlying40 rfl base _ _ _ rfl hown' ⟨vb, 0, none⟩ 1 1 [x, y] rfl rfl HN.out (by simp [h1, h2]) (by omega) (by omega) hbase ?_)
      intro v' w' ho hb
      go_wp2
      go_ret
      exact ⟨⟨_, rfl, ho⟩, hb⟩

set_option maxRecDepth 100000 in
set_option maxHeartbeats 1000000 in
theorem insert_grow (base n i cap g : Nat) (xs : List Value) (w : World) (hl : xs.length = n * 2) (hcur : w.heap[g]? = some (.cells xs.toArray 74 (0, 0))) (_ : base ≤ g) (vb : Nat) (x y : Value) (e' : TypeId) (hx : w.heap[vb]? = some (.cells #[x, y] e' (0, 0)))
    (h1 : x.oneCell' = true) (h1' : y.oneCell' = true) (h2 : ∀ u ∈ xs, u.oneCell' = true) (hn : n ≤ 1000000) (hi : i < n) (hcap : cap = n) (hbase : base ≤ w.heap.size) :
    Calls Try.prog 110 #[.slice (some ⟨g, 0, none⟩) n cap, .int .i64 i, .slice (some ⟨vb, 0, none⟩) 1 1] w fun e w' => OwnRes2 base (n + 1) (xs.take (i * 2) ++ x :: y :: xs.drop (i * 2)) e w' ∧ w.grownBy w' (some g) := by
  have hgs : g < w.heap.size := by
    have := (Array.getElem?_eq_some_iff.1 hcur).1
    exact this
  have hvs : vb < w.heap.size := (Array.getElem?_eq_some_iff.1 hx).1
  have hold : ∀ j u, (xs.take (i * 2))[j]? = some u → w.cell? ((⟨g, 0, none⟩ : Addr).add j) = some u := by
    intro j u hj
    rw [addr_add, Nat.zero_add]
    have : j < i * 2 := by
      have := (List.getElem?_eq_some_iff.1 hj).1
      rw [List.length_take] at this
      omega
    rw [List.getElem?_take_of_lt this] at hj
    simpa [World.cell?, hcur] using hj
  have HC := Lib.hid hcur
  have HX := Lib.hid hx
  have HO := Lib.hid hold
  clear hcur hx hold
  subst hcap
  go_enter Try.func110, Try.ntmps110
  go_wp2_with (at_builtin; refine wpList_append_zeros rfl _ _ 41 3 74 elPair .i64 Try.underlying3 rfl ⟨g, 0, none⟩ i cap (xs.take (i * 2)) (by simp; omega) HO.out (cap + 1 - i) (by omega) (by omega) (by omega) (by omega) rfl ?_ ?_)
  · exact int_eq (by omega)
  intro w1 C zs hC1 hC2 hlen HC1 hg1
  have hx1 := grown_same hg1 HX.out (by simp)
  have hc1 := grown_same hg1 HC.out (by simp)
  have hb1 : w.grownBy w1 (some g) := gb_trans (World.grownBy.refl _ _) hg1 (fun _ e => by cases e)
  have hsz1 := hg1.size
  have hnw : ∀ j u, [x, y][j]? = some u → w1.cell? ((⟨vb, 0, none⟩ : Addr).add j) = some u := cells_row (A := []) (C := []) (by simpa using hx1) rfl
  have HNW := Lib.hid hnw
  have HCX := Lib.hid hc1
  clear hnw hx1 hc1
  unfold maxLen at hC2
  generalize hG : w.heap.size = G at *
  have HG := Lib.hid hG
  clear hG
  have hil : (xs.take (i * 2)).length = i * 2 := by rw [List.length_take]; omega
  have hlz : zs.length = C * 2 - i * 2 := by omega
  go_wp2_with (first | (at_builtin; fail) | (refine wpList_copyK rfl _ _ 41 40 74 2 Try.underlying41 sizePair rfl G (i * 2) (cap + 1 - i) (C - i) ⟨vb, 0, none⟩ 1 1 rfl rfl (xs.take (i * 2) ++ zs) 74 [x, y] HC1.out ?_ HNW.out ?_ (by simp [h1, h1']) ?_))
  · show 2 = min 1 (cap + 1 - i) * 2
    omega
  · simp only [List.length_append, List.length_cons, List.length_nil, hil, hlz]; omega
  intro w2 HC2 hg2
  have hcx := grown_same hg2 HCX.out (by simp; omega)
  have hb2 := gb_trans hb1 hg2 (fun k hk => by cases hk; exact .inl (Nat.le_of_eq HG.out))
  rw [splice_at hil.symm] at HC2
  have hdr : ∀ j u, (xs.drop (i * 2))[j]? = some u → w2.cell? ((⟨g, i * 2, none⟩ : Addr).add j) = some u := cells_row (A := xs.take (i * 2)) (C := []) (by simpa using hcx) hil.symm
  have HDR := Lib.hid hdr
  have hdl : (xs.drop (i * 2)).length = cap * 2 - i * 2 := by rw [List.length_drop, hl]
  have hd1 : ∀ u ∈ xs.drop (i * 2), u.oneCell' = true := fun u hu => h2 u (List.mem_of_mem_drop hu)
  have HD1 := Lib.hid hd1
  have H1 := Lib.hid h1
  have H1' := Lib.hid h1'
  have H2 := Lib.hid h2
  have HDL := Lib.hid hdl
  have HIL := Lib.hid hil
  have HLZ := Lib.hid hlz
  clear hdr hcx hd1 hdl h1 h1' h2 hil hlz
  go_wp2_with fail
  have hw5 : (i : Int) + 1 ≤ (i : Int) + ((cap + 1 - i : Nat) : Int) := by omega
  have hw4 : ¬ C = i + 1 := by omega
  have hw6 : i ≤ cap := by omega
  have hw7 : ¬ cap = i := by omega
  have hw2 : 0 ≤ (i : Int) + 1 := by omega
  have hw3 : ((i : Int) + 1).toNat = i + 1 := by omega
  have hw1 : IntKind.i64.wrap ((i : Int) + 1) = (i : Int) + 1 := IntWalk.i64_in _ (by omega)
  have HC2d : Hid (w2.drew.heap[G]? = some (.cells (xs.take (i * 2) ++ [x, y] ++ zs.drop [x, y].length).toArray 74 (0, 0))) := HC2
  have HDRd : Hid (∀ j u, (xs.drop (i * 2))[j]? = some u → w2.drew.cell? ((⟨g, i * 2, none⟩ : Addr).add j) = some u) := HDR
  have HS1 : Hid ((xs.drop (i * 2)).length = Nat.min (cap - i) (i + (cap + 1 - i) - (i + 1)) * 2) := Lib.hid (by rw [HDL.out]; show cap * 2 - i * 2 = min (cap - i) _ * 2; omega)
  have HS2 : Hid ((i + 1) * 2 + (xs.drop (i * 2)).length ≤ (xs.take (i * 2) ++ [x, y] ++ zs.drop [x, y].length).length) := Lib.hid (by rw [HDL.out]; simp only [List.length_append, List.length_cons, List.length_nil, List.length_drop, HIL.out, HLZ.out]; omega)
  go_still_tail 8, (by kernel_rfl)
  refine wpList_copyK rfl _ _ 41 41 74 2 Try.underlying41 sizePair rfl G ((i + 1) * 2) (i + (cap + 1 - i) - (i + 1)) (C - (i + 1)) ⟨g, i * 2, none⟩ (cap - i) (cap - i) rfl rfl (xs.take (i * 2) ++ [x, y] ++ zs.drop [x, y].length) 74 (xs.drop (i * 2)) HC2d.out HS1.out HDRd.out HS2.out HD1.out ?_
  intro w3 HC3 hg3
  clear hw1 hw2 hw3 hw5 hw6 hw7
  go_wp2
  go_ret
  have hC3 := HC3.out
  rw [splice_at (by simp [HIL.out]; omega)] at hC3
  have hsz2 := hg2.size
  have hb3 := gb_trans (gb_drew hb2) hg3 (fun k hk => by cases hk; exact .inl (Nat.le_of_eq HG.out))
  refine ⟨⟨_, rfl, ?_⟩, hb3⟩
  rw [show i + (cap + 1 - i) = cap + 1 by omega]
  refine owns_of_cur hC3 hbase (by omega) (by unfold maxLen; omega) ?_ ?_
  · simp only [List.length_append, List.length_drop, List.length_cons, List.length_nil, HIL.out, HDL.out, HLZ.out]; omega
  · rw [take_len (by simp only [List.length_append, List.length_cons, List.length_nil, HIL.out, HDL.out]; omega)]
    simp

theorem overlaps_no (w : World) (vb g o lb cb m vc : Nat) (hne : vb ≠ g) (cx cy : Array Value) (tx ty : TypeId) (hx : w.heap[vb]? = some (.cells cx tx (0, 0))) (hy : w.heap[g]? = some (.cells cy ty (0, 0))) (hc : cy.size ≠ 0) :
    (callFunc 116 #[.slice (some ⟨vb, 0, none⟩) m vc, .slice (some ⟨g, o, none⟩) lb cb]).run Try.prog w = .ok (.value (.bool false)) w := by
  rw [run_callFunc_extern Try.func116 (by kernel_rfl) (by kernel_rfl) (by kernel_rfl) (e := Extern.SlicesOverlaps.overlaps #[40, 40] #[4]) (by kernel_rfl),
    Lib.run_overlaps_apart w 40 4 74 Try.underlying40 2 (fun w => by kernel_rfl) ⟨vb, 0, none⟩ ⟨g, o, none⟩ m vc lb cb hne tx ty cx.size cy.size (by simp [World.shape?, hx]) (by simp [World.shape?, hy]) hc (by simp [World.frozen?, hx]) (by simp [World.frozen?, hx])]
  rfl

set_option maxRecDepth 100000 in
set_option maxHeartbeats 1000000 in
theorem insert_shift (base n i cap g : Nat) (A D Z : List Value) (w : World) (hA : A.length = i * 2) (hD : D.length = n * 2 - i * 2) (hZ : Z.length = cap * 2 - n * 2) (hcur : w.heap[g]? = some (.cells (A ++ D ++ Z).toArray 74 (0, 0))) (hbg : base ≤ g) (vb : Nat) (x y : Value) (e' : TypeId) (hx : w.heap[vb]? = some (.cells #[x, y] e' (0, 0)))
    (hne : vb ≠ g) (h1 : x.oneCell' = true) (h1' : y.oneCell' = true) (h2 : ∀ u ∈ D, u.oneCell' = true) (hn : n ≤ 1000000) (hi : i < n) (hcap : n + 1 ≤ cap) (hm : cap ≤ maxLen) (_ : base ≤ w.heap.size) :
    Calls Try.prog 110 #[.slice (some ⟨g, 0, none⟩) n cap, .int .i64 i, .slice (some ⟨vb, 0, none⟩) 1 1] w fun e w' => OwnRes2 base (n + 1) (A ++ x :: y :: D) e w' ∧ w.grownBy w' (some g) := by
  have hgs : g < w.heap.size := (Array.getElem?_eq_some_iff.1 hcur).1
  have hdr : ∀ j u, D[j]? = some u → w.drew.cell? ((⟨g, i * 2, none⟩ : Addr).add j) = some u := cells_row (w := w.drew) (A := A) (C := Z) hcur hA.symm
  have hov : ∀ lb cb, (callFunc 116 #[.slice (some ⟨vb, 0, none⟩) 1 1, .slice (some ⟨g, (i + 1) * 2, none⟩) lb cb]).run Try.prog w = .ok (.value (.bool false)) w := fun lb cb => overlaps_no w vb g ((i + 1) * 2) lb cb 1 1 hne _ _ _ _ hx hcur (by simp [hA, hD, hZ]; omega)
  have HC := Lib.hid hcur
  have HX := Lib.hid hx
  have HDR := Lib.hid hdr
  have HA := Lib.hid hA
  have HD := Lib.hid hD
  have HZ := Lib.hid hZ
  have H1 := Lib.hid h1
  have H1' := Lib.hid h1'
  have H2 := Lib.hid h2
  clear hcur hx hdr hA hD hZ h1 h1' h2
  unfold maxLen at hm
  have hw5 : (i : Int) + 1 ≤ (n : Int) + 1 := by omega
  have hw4 : ¬ cap = i + 1 := by omega
  have hw6 : i ≤ n + 1 := by omega
  have hw8 : i ≤ n := by omega
  have hw9 : (i : Int) ≤ (n : Int) + 1 := by omega
  have hw7 : ¬ cap = i := by omega
  have hw2 : 0 ≤ (i : Int) + 1 := by omega
  have hw3 : ((i : Int) + 1).toNat = i + 1 := by omega
  have hw1 : IntKind.i64.wrap ((i : Int) + 1) = (i : Int) + 1 := IntWalk.i64_in _ (by omega)
  go_enter Try.func110, Try.ntmps110
  go_wp2_with fail
  have HS1 : Hid (D.length = Nat.min (n + 1 - i) (n - i) * 2) := Lib.hid (by rw [HD.out]; show n * 2 - i * 2 = min _ _ * 2; omega)
  have HS2 : Hid ((i + 1) * 2 + D.length ≤ (A ++ D ++ Z).length) := Lib.hid (by simp only [List.length_append, HA.out, HD.out, HZ.out]; omega)
  go_still_tail 8, (by kernel_rfl)
  refine wpList_copyK rfl _ _ 41 41 74 2 Try.underlying41 sizePair rfl g ((i + 1) * 2) (n - i) (cap - (i + 1)) ⟨g, i * 2, none⟩ (n + 1 - i) (cap - i) rfl rfl (A ++ D ++ Z) 74 D HC.out HS1.out HDR.out HS2.out H2.out ?_
  intro w1 HC1 hg1
  have hbA : w.grownBy w1 (some g) := gb_trans (gb_drew (World.grownBy.refl _ _)) hg1 (fun k hk => .inr hk)
  have hx1 := grown_same hg1 (show w.drew.heap[vb]? = _ from HX.out) (by simp; exact hne)
  have hnw : ∀ j u, [x, y][j]? = some u → w1.cell? ((⟨vb, 0, none⟩ : Addr).add j) = some u := cells_row (A := []) (C := []) (by simpa using hx1) rfl
  have HNW := Lib.hid hnw
  have hsz1 : w.heap.size ≤ w1.heap.size := hg1.size
  clear hnw hx1
  have HS3 : Hid (i * 2 + [x, y].length ≤ (splice (A ++ D ++ Z) ((i + 1) * 2) D).length) := Lib.hid (by rw [length_splice _ _ _ HS2.out]; simp only [List.length_append, List.length_cons, List.length_nil, HA.out, HD.out, HZ.out]; omega)
  go_wp2_with (first | (at_builtin; fail) | (refine wpList_copyK rfl _ _ 41 40 74 2 Try.underlying41 sizePair rfl g (i * 2) (n + 1 - i) (cap - i) ⟨vb, 0, none⟩ 1 1 rfl rfl (splice (A ++ D ++ Z) ((i + 1) * 2) D) 74 [x, y] HC1.out ?_ HNW.out HS3.out (by simp [H1.out, H1'.out]) ?_))
  · show 2 = min 1 (n + 1 - i) * 2
    omega
  intro w2 HC2 hg2
  have hb2 := gb_trans hbA hg2 (fun k hk => .inr hk)
  go_wp2
  go_ret
  refine ⟨⟨_, rfl, ?_⟩, hb2⟩
  have hC2 := HC2.out
  have ha := HA.out
  rw [show i * 2 = A.length from ha.symm, show (i + 1) * 2 = A.length + [x, y].length by simp [ha]; omega, ← List.append_assoc, splice_shift (by rw [HZ.out]; simp; omega)] at hC2
  refine owns_of_cur hC2 hbg hcap (by unfold maxLen; omega) ?_ ?_
  · simp only [List.length_append, List.length_drop, List.length_cons, List.length_nil, ha, HD.out, HZ.out]; omega
  · rw [take_len (by simp only [List.length_append, List.length_cons, List.length_nil, ha, HD.out]; omega)]
    simp
end Go.Proofs.Ytmnjmjbmnhppfaa

namespace Go.Proofs.Ytmnjmjbmnhppfaa
open Go.RowKit

theorem zeroPair : ∃ z : Value, (∀ w, (zeroValue 74).run Try.prog w = .ok z w) ∧ z.cells.size = 2 ∧ ∀ u ∈ z.cells.toList, u.oneCell' = true :=
  ⟨.agg #[.string ⟨#[]⟩, .string ⟨#[]⟩], fun w => by kernel_rfl, rfl, by simp [Value.cells]; rfl⟩

set_option maxRecDepth 100000 in
set_option maxHeartbeats 1000000 in
theorem delete_one (base n i cap g : Nat) (A D Z : List Value) (x y : Value) (w : World) (hA : A.length = i * 2) (hD : D.length = n * 2 - i * 2 - 2) (hZ : Z.length = cap * 2 - n * 2) (hcur : w.heap[g]? = some (.cells (A ++ [x, y] ++ D ++ Z).toArray 74 (0, 0))) (hbg : base ≤ g)
    (h2 : ∀ u ∈ D, u.oneCell' = true) (hn : n ≤ 1000000) (hi : i < n) (hcap : n ≤ cap) (hm : cap ≤ maxLen) (_ : base ≤ w.heap.size) :
    Calls Try.prog 111 #[.slice (some ⟨g, 0, none⟩) n cap, .int .i64 i, .int .i64 ((i : Int) + 1)] w fun e w' => OwnRes2 base (n - 1) (A ++ D) e w' ∧ w.grownBy w' (some g) := by
  have hgs : g < w.heap.size := (Array.getElem?_eq_some_iff.1 hcur).1
  have hdr : ∀ j u, D[j]? = some u → w.drew.cell? ((⟨g, (i + 1) * 2, none⟩ : Addr).add j) = some u := cells_row (w := w.drew) (A := A ++ [x, y]) (C := Z) hcur (by simp [hA]; omega)
  have HC := Lib.hid hcur
  have HDR := Lib.hid hdr
  have HA := Lib.hid hA
  have HD := Lib.hid hD
  have HZ := Lib.hid hZ
  have H2 := Lib.hid h2
  clear hcur hdr hA hD hZ h2
  unfold maxLen at hm
  have hne : ((i : Int) == (i : Int) + 1) = false := by rw [beq_eq_false_iff_ne]; omega
  have hw0 : (i : Int) + 1 ≤ (n : Int) := by omega
  have hw10 : (i : Int) < (n : Int) := by omega
  have hw2 : 0 ≤ (i : Int) + 1 := by omega
  have hw3 : ((i : Int) + 1).toNat = i + 1 := by omega
  have hw6 : (i : Int) ≤ (n : Int) := by omega
  have hw7 : ¬ cap = i := by omega
  have hw8 : i ≤ n := by omega
  have hw11 : i ≤ cap := by omega
  have hw9 : i + 1 ≤ n := by omega
  have HS2 : Hid (i * 2 + D.length ≤ (A ++ [x, y] ++ D ++ Z).length) := Lib.hid (by simp only [List.length_append, List.length_cons, List.length_nil, HA.out, HD.out, HZ.out]; omega)
  by_cases hce : cap = i + 1
  · obtain rfl : n = i + 1 := by omega
    obtain rfl : cap = i + 1 := by omega
    have hv1 : (i : Int) ≤ (i : Int) + 1 := by omega
    have hd0 : D = [] := List.eq_nil_of_length_eq_zero (by rw [HD.out]; omega)
    have hz0 : Z = [] := List.eq_nil_of_length_eq_zero (by rw [HZ.out]; omega)
    subst hd0 hz0
    have HC0 : Hid (w.heap[g]? = some (.cells (A ++ [x, y]).toArray 74 (0, 0))) := by
      have := HC.out
      exact Lib.hid (by simpa using this)
    go_enter Try.func111, Try.ntmps111
    go_wp2_with fail
    go_still_tail 6, (by kernel_rfl)
    refine wpList_append_room rfl _ _ 41 74 elPair rfl g i (i + 1) rfl (A ++ [x, y]) HC0.out ⟨g, 0, none⟩ 0 0 [] rfl (by simp) (by simp) (by simp) (by omega) (by simp [HA.out]) ?_
    intro w1 HC1 hg1
    have hbA : w.grownBy w1 (some g) := gb_trans (gb_drew (World.grownBy.refl _ _)) hg1 (fun k hk => .inr hk)
    have hsz1 : w.heap.size ≤ w1.heap.size := hg1.size
    have HV : Hid (∃ z : Value, (∀ w, (zeroValue 74).run Try.prog w = .ok z w) ∧ z.cells.size = 2 ∧ ∀ u ∈ (Builtin.zeroCells z.cells 1).toList, u.oneCell' = true) := by
      obtain ⟨z, h1, h2, h3⟩ := zeroPair
      exact Lib.hid ⟨z, h1, h2, zeroCells_mem h3⟩
    have hC1 := HC1.out
    have e1 : splice (A ++ [x, y]) (i * 2) [] = A ++ [x, y] := by simp [splice]
    rw [e1] at hC1
    have HC2 := Lib.hid hC1
    clear hC1 HC1 e1
    have HS3 : Hid (i * 2 + 1 * 2 ≤ (A ++ [x, y]).length) := Lib.hid (by simp [HA.out])
    go_wp2_with (first | (at_builtin; fail) | (refine wpList_clearK rfl _ 41 74 elPair rfl g (i * 2) 1 1 rfl (by omega) (A ++ [x, y]) HC2.out HS3.out HV.out ?_))
    intro w2 zs hzl HC3 hg2
    have hb2 := gb_trans hbA hg2 (fun k hk => .inr hk)
    go_wp2
    go_ret
    refine ⟨⟨_, rfl, ?_⟩, hb2⟩
    have ha := HA.out
    have hC3 := HC3.out
    rw [show i * 2 = A.length from ha.symm, splice_at rfl] at hC3
    refine owns_of_cur hC3 hbg (by omega) (by unfold maxLen; omega) ?_ ?_
    · simp [hzl, ha]; omega
    · rw [show i * 2 = A.length from ha.symm]
      simp
  · go_enter Try.func111, Try.ntmps111
    go_wp2_with fail
    go_still_tail 6, (by kernel_rfl)
    refine wpList_append_room rfl _ _ 41 74 elPair rfl g i cap rfl (A ++ [x, y] ++ D ++ Z) HC.out ⟨g, (i + 1) * 2, none⟩ (n - (i + 1)) (cap - (i + 1)) D rfl (by rw [HD.out]; omega) HDR.out H2.out (by omega) (by simpa using HS2.out) ?_
    intro w1 HC1 hg1
    rw [show i + (n - (i + 1)) = n - 1 by omega]
    have hw12 : ((n - 1 : Nat) : Int) ≤ (n : Int) := by omega
    have hw13 : n - 1 ≤ n := by omega
    have hw14 : ¬ cap = n - 1 := by omega
    have hw15 : n - (n - 1) = 1 := by omega
    have hbA : w.grownBy w1 (some g) := gb_trans (gb_drew (World.grownBy.refl _ _)) hg1 (fun k hk => .inr hk)
    have hsz1 : w.heap.size ≤ w1.heap.size := hg1.size
    have HS3 : Hid ((n - 1) * 2 + 1 * 2 ≤ (splice (A ++ [x, y] ++ D ++ Z) (i * 2) D).length) := Lib.hid (by rw [length_splice _ _ _ (by simpa using HS2.out)]; simp only [List.length_append, List.length_cons, List.length_nil, HA.out, HD.out, HZ.out]; omega)
    have HV : Hid (∃ z : Value, (∀ w, (zeroValue 74).run Try.prog w = .ok z w) ∧ z.cells.size = 2 ∧ ∀ u ∈ (Builtin.zeroCells z.cells 1).toList, u.oneCell' = true) := by
      obtain ⟨z, h1, h2, h3⟩ := zeroPair
      exact Lib.hid ⟨z, h1, h2, zeroCells_mem h3⟩
    go_wp2_with (first | (at_builtin; fail) | (refine wpList_clearK rfl _ 41 74 elPair rfl g ((n - 1) * 2) 1 (cap - (n - 1)) rfl (by omega) (splice (A ++ [x, y] ++ D ++ Z) (i * 2) D) HC1.out HS3.out HV.out ?_))
    intro w2 zs hzl HC2 hg2
    have hb2 := gb_trans hbA hg2 (fun k hk => .inr hk)
    go_wp2
    go_ret
    refine ⟨⟨_, rfl, ?_⟩, hb2⟩
    have ha := HA.out
    have hC2 := HC2.out
    have h1 := HS3.out
    have h2 := HS2.out
    have e2 : (n - 1) * 2 = (A ++ D).length := by simp only [List.length_append, HD.out, ha]; omega
    simp only [List.append_assoc, List.cons_append, List.nil_append, show i * 2 = A.length from ha.symm] at hC2 h1 h2
    rw [length_splice _ _ _ h2] at h1
    refine owns_of_cur hC2 hbg (by omega) (by unfold maxLen; omega) ?_ ?_
    · rw [length_splice _ _ _ (by rw [hzl, length_splice _ _ _ h2]; omega), length_splice _ _ _ h2]
      simp only [List.length_append, List.length_cons, HA.out, HD.out, HZ.out]; omega
    · rw [splice_at rfl, e2, splice_at rfl, List.append_assoc, take_len rfl]

theorem insert_own (base n i : Nat) (v : Value) (xs : List Value) (w : World) (hown : w.ownsRow base 74 2 v n xs) (vb : Nat) (x y : Value) (e' : TypeId) (hx : w.heap[vb]? = some (.cells #[x, y] e' (0, 0))) (hne : v.ownBlock ≠ some vb)
    (h1 : x.oneCell' = true) (h1' : y.oneCell' = true) (h2 : ∀ u ∈ xs, u.oneCell' = true) (hn : n ≤ 1000000) (hi : i ≤ n) (hbase : base ≤ w.heap.size) :
    Calls Try.prog 110 #[v, .int .i64 i, .slice (some ⟨vb, 0, none⟩) 1 1] w fun e w' => OwnRes2 base (n + 1) (xs.take (i * 2) ++ x :: y :: xs.drop (i * 2)) e w' ∧ w.grownBy w' v.ownBlock := by
  have hxl : xs.length = n * 2 := by simpa using hown.1
  by_cases hin : i = n
  · subst hin
    rw [List.take_of_length_le (by omega), List.drop_of_length_le (by omega)]
    exact insert_end base i v xs w hown vb x y e' hx h1 h1' hn hbase
  · obtain ⟨hl, ⟨rfl, rfl⟩ | ⟨g, cap, cur, rfl, hg, hgc, hnc, hm, hs, ht⟩⟩ := hown
    · omega
    · by_cases hc : n = cap
      · subst hc
        have hcur : cur = xs.toArray := by
          apply Array.ext'
          rw [← ht, List.take_of_length_le (by simp; omega)]
        rw [hcur] at hgc
        exact insert_grow base n i n g xs w hxl hgc hg vb x y e' hx h1 h1' h2 hn (by omega) rfl hbase
      · have hcur : cur = (xs.take (i * 2) ++ xs.drop (i * 2) ++ cur.toList.drop (n * 2)).toArray := by
          apply Array.ext'
          rw [List.take_append_drop]
          simp only
          conv => lhs; rw [← List.take_append_drop (n * 2) cur.toList, ht]
        rw [hcur] at hgc
        exact insert_shift base n i cap g (xs.take (i * 2)) (xs.drop (i * 2)) (cur.toList.drop (n * 2)) w (by rw [List.length_take]; omega) (by rw [List.length_drop]; omega) (by simp; omega) hgc hg vb x y e' hx
          (fun e => hne (by simp [Value.ownBlock, e])) h1 h1' (fun u hu => h2 u (List.mem_of_mem_drop hu)) hn (by omega) (by omega) hm hbase

theorem delete_own (base n i : Nat) (v : Value) (xs : List Value) (w : World) (hown : w.ownsRow base 74 2 v n xs)
    (h2 : ∀ u ∈ xs, u.oneCell' = true) (hn : n ≤ 1000000) (hi : i < n) (hbase : base ≤ w.heap.size) :
    Calls Try.prog 111 #[v, .int .i64 i, .int .i64 ((i : Int) + 1)] w fun e w' => OwnRes2 base (n - 1) (xs.take (i * 2) ++ xs.drop ((i + 1) * 2)) e w' ∧ w.grownBy w' v.ownBlock := by
  have hxl : xs.length = n * 2 := by simpa using hown.1
  obtain ⟨hl, ⟨rfl, rfl⟩ | ⟨g, cap, cur, rfl, hg, hgc, hnc, hm, hs, ht⟩⟩ := hown
  · omega
  · have hcur : cur = (xs.take (i * 2) ++ [xs[i * 2], xs[i * 2 + 1]] ++ xs.drop ((i + 1) * 2) ++ cur.toList.drop (n * 2)).toArray := by
      apply Array.ext'
      have e : xs.take (i * 2) ++ [xs[i * 2], xs[i * 2 + 1]] ++ xs.drop ((i + 1) * 2) = xs := by
        rw [show (i + 1) * 2 = i * 2 + 1 + 1 by omega]
        have h3 : xs.drop (i * 2) = xs[i * 2] :: xs[i * 2 + 1] :: xs.drop (i * 2 + 1 + 1) := by
          rw [List.drop_eq_getElem_cons (show i * 2 < xs.length by omega), List.drop_eq_getElem_cons (show i * 2 + 1 < xs.length by omega)]
        conv => rhs; rw [← List.take_append_drop (i * 2) xs, h3]
        simp
      rw [e]
      simp only
      conv => lhs; rw [← List.take_append_drop (n * 2) cur.toList, ht]
    rw [hcur] at hgc
    exact delete_one base n i cap g (xs.take (i * 2)) (xs.drop ((i + 1) * 2)) (cur.toList.drop (n * 2)) xs[i * 2] xs[i * 2 + 1] w (by rw [List.length_take]; omega) (by rw [List.length_drop]; omega) (by simp; omega) hgc hg
      (fun u hu => h2 u (List.mem_of_mem_drop hu)) hn hi hnc hm hbase
end Go.Proofs.Ytmnjmjbmnhppfaa

namespace Go.Proofs.Ytmnjmjbmnhppfaa
open Go.RowKit

theorem trio {w : World} {g : Nat} {x y z : Value} {T : TypeId} (h : w.heap[g]? = some (.cells #[x, y, z] T (0, 0))) :
    w.cell? ⟨g, 0, none⟩ = some x ∧ w.cell? ⟨g, 1, none⟩ = some y ∧ w.cell? ⟨g, 2, none⟩ = some z ∧ w.frozen? ⟨g, 0, none⟩ = false ∧ w.frozen? ⟨g, 1, none⟩ = false ∧ w.frozen? ⟨g, 2, none⟩ = false := by
  refine ⟨?_, ?_, ?_, ?_, ?_, ?_⟩
  all_goals simp [World.cell?, World.frozen?, h]
theorem four {w : World} {g : Nat} {x y z u : Value} {T : TypeId} (h : w.heap[g]? = some (.cells #[x, y, z, u] T (0, 0))) :
    w.cell? ⟨g, 0, none⟩ = some x ∧ w.cell? ⟨g, 1, none⟩ = some y ∧ w.cell? ⟨g, 2, none⟩ = some z ∧ w.cell? ⟨g, 3, none⟩ = some u := by
  refine ⟨?_, ?_, ?_, ?_⟩
  all_goals simp [World.cell?, h]

set_option maxRecDepth 100000 in
set_option maxHeartbeats 1000000 in
theorem was_any (a : Option Addr) (cap : Nat) (l : List Pr) (k : Tx) (w : World) (hr : Row w a (prs l)) (hl : l.length ≤ 1000000) (hso : Rises l) (r : Rp) (hres : wasR l k = r) :
    Calls Try.prog 108 #[.slice a l.length cap, .string k] w fun e w' => e = .returned (rpV r) ∧ Below w.heap.size w w' := by
  have hb0 : Below w.heap.size w (w.alloc (Obj.cells #[.int .i64 0, .bool false, .string ⟨#[]⟩] 43)) := (Below.refl _ _).alloc (Nat.le_refl _) _
  have hr0 := hr.below0 hb0
  subst hres
  cases hlk : look l k with
  | none =>
    have hh : hasK l k = false := by simp [hasK, hlk]
    have hw : wasR l k = ⟨0, false, ⟨#[]⟩⟩ := by simp [wasR, hlk]
    rw [hw]
    have HH := Lib.hid hh
    clear hh hw hlk
    go_enter Try.func108, Try.ntmps108
    go_wp2_with (go_at_call 109; refine (find_any _ _ _ _ _ hr0 hl hso).mono ?_; rintro e w1 ⟨rfl, hb1⟩; rw [HH.out]; obtain ⟨c0, c1, c2, f0, f1, f2⟩ := trio ((hb1.block w.heap.size (by simp)).trans (heap_alloc_new _ _)); have hbw1 := hb0.trans (hb1.mono (by simp)))
    (try simp only [Exit.inBlock, Exit.then])
    refine bodyPost_ret ?hr rfl ⟨rfl, ?_⟩
    case hr =>
      simp only [results, Try.results108]
      go_simp
      try rfl
    (repeat' (first | (with_reducible exact Below.refl _ _) | (with_reducible assumption) | (with_reducible refine Below.alloc ?_ ?_ _) | (with_reducible refine Below.drew ?_) | (with_reducible refine below_drewN ?_ _) | (with_reducible refine Below.setCell ?_ ?_ _) | (with_reducible refine Below.trans ?_ (by assumption)) | go_size))
  | some v =>
    have hh : hasK l k = true := by simp [hasK, hlk]
    have hw : wasR l k = ⟨0, true, v⟩ := by simp [wasR, hlk]
    have hat := at_yes hso hlk
    obtain ⟨bb, off, rfl, hblt, hcs⟩ := hr.pair hat
    obtain ⟨d0, d1⟩ := hcs _ _ hat
    have hlo := (List.getElem?_eq_some_iff.1 hat).1
    rw [hw]
    have HH := Lib.hid hh
    clear hh hw hlk hat hcs
    go_enter Try.func108, Try.ntmps108
    go_wp2_with (go_at_call 109; refine (find_any _ _ _ _ _ hr0 hl hso).mono ?_; rintro e w1 ⟨rfl, hb1⟩; rw [HH.out]; obtain ⟨c0, c1, c2, f0, f1, f2⟩ := trio ((hb1.block w.heap.size (by simp)).trans (heap_alloc_new _ _)); have hbw1 := hb0.trans (hb1.mono (by simp)); have e1 := (hbw1.cell (p := ⟨bb, off + (lo l k).length * 2 + 1, none⟩) hblt).trans d1)
    (try simp only [Exit.inBlock, Exit.then])
    refine bodyPost_ret ?hr rfl ⟨rfl, ?_⟩
    case hr =>
      simp only [results, Try.results108]
      go_simp
      try rfl
    (repeat' (first | (with_reducible exact Below.refl _ _) | (with_reducible assumption) | (with_reducible refine Below.alloc ?_ ?_ _) | (with_reducible refine Below.drew ?_) | (with_reducible refine below_drewN ?_ _) | (with_reducible refine Below.setCell ?_ ?_ _) | (with_reducible refine Below.trans ?_ (by assumption)) | go_size))

set_option maxRecDepth 100000 in
set_option maxHeartbeats 1000000 in
theorem get_any (a : Option Addr) (cap : Nat) (l : List Pr) (o : Opn) (w : World) (hr : Row w a (prs l)) (hl : l.length ≤ 1000000) (hso : Rises l) (r : Rp) (hres : wasR l o.key = r) :
    Calls Try.prog 98 #[.slice a l.length cap, opV o] w fun e w' => e = .returned (.tuple #[.slice a l.length cap, rpV r]) ∧ Below w.heap.size w w' := by
  obtain ⟨kd, key, old, val⟩ := o
  unfold opV
  have hb0 : Below w.heap.size w ((w.alloc (Obj.cells #[.int .u8 kd, .string key, .string old, .string val] 61)).alloc (Obj.cells #[.int .i64 0, .bool false, .string ⟨#[]⟩] 43)) := ((Below.refl _ _).alloc (Nat.le_refl _) _).alloc (by simp) _
  have hr0 := hr.below0 hb0
  go_enter Try.func98, Try.ntmps98
  go_wp2_with (go_at_call 108; refine (was_any _ _ _ _ _ hr0 hl hso r hres).mono ?_; rintro e w1 ⟨rfl, hb1⟩; obtain ⟨c0, c1, c2, f0, f1, f2⟩ := trio ((hb1.block (w.heap.size + 1) (by simp)).trans (heap_alloc2_new _ _ _)); have hbw1 := hb0.trans (hb1.mono (by simp; omega)); unfold rpV)
  (try simp only [Exit.inBlock, Exit.then])
  refine bodyPost_ret ?hr rfl ⟨rfl, ?_⟩
  case hr =>
    simp only [results, Try.results98]
    go_simp
    try rfl
  (repeat' (first | (with_reducible exact Below.refl _ _) | (with_reducible assumption) | (with_reducible refine Below.alloc ?_ ?_ _) | (with_reducible refine Below.drew ?_) | (with_reducible refine below_drewN ?_ _) | (with_reducible refine Below.setCell ?_ ?_ _) | (with_reducible refine Below.trans ?_ (by assumption)) | go_size))
end Go.Proofs.Ytmnjmjbmnhppfaa

namespace Go.Proofs.Ytmnjmjbmnhppfaa
open Go.RowKit

def StRes (base : Nat) (l : List Pr) (r : Rp) (e : Ending) (w' : World) : Prop := ∃ v', e = .returned (.tuple #[v', rpV r]) ∧ w'.ownsRow base 74 2 v' l.length (prs l)

theorem owns_far {w : World} {base n size : Nat} {e : TypeId} {v : Value} {xs : List Value} (h : w.ownsRow base e size v n xs) {b j : Nat} (hne : v.ownBlock ≠ some b) (u : Value) : (w.setCell ⟨b, j, none⟩ u).ownsRow base e size v n xs :=
  h.kept (row := some b) ⟨rfl, rfl, rfl, by simp, fun k _ hk => heap_setCell_other w ⟨b, j, none⟩ k u (fun e => hk (by simp [e]))⟩ (.inr hne)

theorem prs_set {l : List Pr} {i : Nat} {k v u : Tx} (h : l[i]? = some (k, v)) : prs (l.set i (k, u)) = (prs l).set (i * 2 + 1) (.string u) := by
  induction l generalizing i with
  | nil => simp at h
  | cons p l ih =>
    cases i with
    | zero =>
      simp at h
      subst h
      rfl
    | succ i =>
      simp only [List.getElem?_cons_succ] at h
      have := ih h
      rw [show (i + 1) * 2 + 1 = i * 2 + 1 + 1 + 1 by omega]
      simp only [prs, List.set_cons_succ, List.flatMap_cons, List.cons_append, List.nil_append] at this ⊢
      rw [this]

set_option maxRecDepth 100000 in
set_option maxHeartbeats 2000000 in
theorem put_there_any (base : Nat) (v : Value) (l : List Pr) (o : Opn) (u : Tx) (w : World) (hown : w.ownsRow base 74 2 v l.length (prs l)) (hl : l.length ≤ 1000) (hso : Rises l) (hlk : look l o.key = some u) :
    Calls Try.prog 99 #[v, opV o] w fun e w' => StRes base (putL l o.key o.val) ⟨0, true, u⟩ e w' ∧ w.grownBy w' v.ownBlock := by
  obtain ⟨kd, key, old, val⟩ := o
  unfold opV
  simp only at hlk ⊢
  have hb0 : Below w.heap.size w ((w.alloc (Obj.cells #[.int .u8 kd, .string key, .string old, .string val] 61)).alloc (Obj.cells #[.int .i64 0, .bool false, .string ⟨#[]⟩] 43)) := ((Below.refl _ _).alloc (Nat.le_refl _) _).alloc (by simp) _
  have hat := at_yes hso hlk
  have hlo := (List.getElem?_eq_some_iff.1 hat).1
  obtain ⟨g, cap, rfl, _⟩ := owns_some hown (by omega)
  obtain ⟨a0, c0, hv0, hr, hcap, hmx⟩ := Row.of_owns hown
  injection hv0 with hv1 _ hv2
  subst hv1 hv2
  have hr0 := hr.below0 hb0
  have hh : hasK l key = true := by simp [hasK, hlk]
  have hw : wasR l key = ⟨0, true, u⟩ := by simp [wasR, hlk]
  have hset := prs_set (u := val) hat
  rw [put_there hso hlk] at hset
  have hlen : (putL l key val).length = l.length := by rw [← put_there hso hlk, List.length_set]
  have HH := Lib.hid hh
  have HS := Lib.hid hset
  have HL := Lib.hid hlen
  clear hh hset hat hlen
  go_enter Try.func99, Try.ntmps99
  refine wp_seq_k (fun K hK => ?_)
  have HK := Lib.hid hK
  clear hK
  go_wp2
  refine HK.out _ _ ?_
  clear HK
  refine wp_seq_k (fun K hK => ?_)
  have HK := Lib.hid hK
  clear hK
  go_wp2_with (go_at_call 109; refine (find_any _ _ _ _ _ hr0 (by omega) hso).mono ?_; rintro e w1 ⟨rfl, hb1⟩; rw [HH.out])
  refine HK.out _ _ ?_
  clear HK
  have hbw1 := hb0.trans (hb1.mono (by simp; omega))
  obtain ⟨d0, d1, d2, d3⟩ := four ((hb1.block w.heap.size (by simp; omega)).trans ((heap_alloc_old _ _ (by simp)).trans (heap_alloc_new _ _)))
  have hr1 := hr.below0 hbw1
  refine wp_seq_k (fun K hK => ?_)
  have HK := Lib.hid hK
  clear hK
  go_wp2_with (go_at_call 108; refine (was_any _ _ _ _ _ hr1 (by omega) hso _ hw).mono ?_; rintro e w2 ⟨rfl, hb2⟩; unfold rpV)
  refine HK.out _ _ ?_
  clear HK
  have hs1 := hb1.size
  simp at hs1
  have hs2 := hb2.size
  have hbw2 := hbw1.trans (hb2.mono (by omega))
  have hgs : g < w.heap.size := by
    have := hown.lt g rfl
    omega
  have hb23 : Below w2.heap.size w2 (w2.alloc (Obj.cells #[.int .i64 0, .bool true, .string u] 43)) := (Below.refl _ _).alloc (Nat.le_refl _) _
  have hbw3 := hbw2.trans (hb23.mono (by omega))
  have b3 := (hb23.block w.heap.size (by omega)).trans ((hb2.block w.heap.size (by omega)).trans ((hb1.block w.heap.size (by simp; omega)).trans ((heap_alloc_old _ _ (by simp)).trans (heap_alloc_new w (Obj.cells #[.int .u8 kd, .string key, .string old, .string val] 61)))))
  have b5 := (hb23.block (w.heap.size + 1) (by omega)).trans ((hb2.block (w.heap.size + 1) (by omega)).trans ((hb1.block (w.heap.size + 1) (by simp)).trans (heap_alloc2_new w _ (Obj.cells #[.int .i64 0, .bool false, .string ⟨#[]⟩] 43))))
  have b8 := heap_alloc_new w2 (Obj.cells #[.int .i64 0, .bool true, .string u] 43)
  have hown3 := owns_after hown hbw3
  have hs3 := hbw3.size
  clear d0 d1 d2 d3
  generalize w2.alloc (Obj.cells #[.int .i64 0, .bool true, .string u] 43) = w3 at *
  obtain ⟨d0, d1, d2, d3⟩ := four b3
  have ex : w3.cell? ⟨g, (lo l key).length * 2 + 1, none⟩ = some (.string u) := by
    rw [hown3.cellAt _ (by omega)]
    exact (prs_at (at_yes hso hlk)).2
  have fx : w3.frozen? ⟨g, (lo l key).length * 2 + 1, none⟩ = false := hown3.frozenAt _
  obtain ⟨hown4, hg4⟩ := hown3.stored ((lo l key).length * 2 + 1) (.string val)
  rw [← HS.out] at hown4
  have b5' := (heap_setCell_other w3 ⟨g, (lo l key).length * 2 + 1, none⟩ (w.heap.size + 1) (.string val) (by simp; omega)).trans b5
  have b8' := (heap_setCell_other w3 ⟨g, (lo l key).length * 2 + 1, none⟩ w2.heap.size (.string val) (by simp; omega)).trans b8
  have hbw4 : w.grownBy (w3.setCell ⟨g, (lo l key).length * 2 + 1, none⟩ (.string val)) (some g) := gb_setCell (gb_of_below hbw3 _) (.inl rfl) _
  have HL4 := Lib.hid hown4
  clear hown4 hown3 hlk hw
  go_wp2_with fail
  generalize w3.setCell ⟨g, (lo l key).length * 2 + 1, none⟩ (.string val) = w4 at *
  obtain ⟨p0, p1, p2, q0, q1, q2⟩ := trio b5'
  obtain ⟨r0, r1, r2, s0, s1, s2⟩ := trio b8'
  go_region
  go_wp2
  (try simp only [Exit.inBlock, Exit.then])
  refine bodyPost_ret (v := .tuple #[.slice (some ⟨g, 0, none⟩) l.length cap, rpV ⟨0, true, u⟩]) ?hr rfl ⟨⟨_, rfl, ?_⟩, ?_⟩
  case hr =>
    simp only [results, Try.results99]
    go_simp
    try rfl
  · rw [HL.out]
    repeat (first | exact HL4.out | refine World.ownsRow.drew ?_ | refine owns_far ?_ (by simp [Value.ownBlock]; omega) _)
  · show World.grownBy w _ (some g)
    (repeat' (first | (with_reducible exact World.grownBy.refl _ _) | (with_reducible assumption) | (with_reducible refine gb_alloc ?_ _) | (with_reducible refine gb_drew ?_) | (with_reducible refine gb_drewN ?_ _) | (with_reducible refine gb_setCell ?_ ?_ _) | (with_reducible refine gb_below ?_ (by assumption)) | exact .inl rfl | exact .inr (by first | (simp; done) | (simp; omega) | omega)))
end Go.Proofs.Ytmnjmjbmnhppfaa

