/- A list of operations; great of it. -/
import Derived.Test.YtmnjmjbmnhppfaaK24
import Derived.Test.YtmnjmjbmnhppfaaK9
import Derived.Test.YtmnjmjbmnhppfaaRows
import Derived.WalkKit
import Derived.WalkSpells
import Derived.WalkLawsBesides
import Derived.Handy
import Derived.Deep.QuietTactic
import Derived.BigQuiet
import Derived.Deep.DeepCutAuto
import Derived.Lib.Hide
import Derived.RegionTactic
import Derived.ChangeAlike
namespace Go.Proofs.Ytmnjmjbmnhppfaa
open Go.RowKit

def ops (l : List Opn) : List Value := l.flatMap fun o => [.int .u8 o.kind, .string o.key, .string o.old, .string o.val]
theorem ops_len : ∀ (l : List Opn), (ops l).length = 4 * l.length
  | [] => rfl
  | p :: l => by
    have := ops_len l
    simp only [ops, List.flatMap_cons, List.length_append, List.length_cons, List.length_nil] at this ⊢
    omega
theorem ops_at : ∀ {l : List Opn} {i : Nat} {o : Opn}, l[i]? = some o → (ops l)[i * 4]? = some (.int .u8 o.kind) ∧ (ops l)[i * 4 + 1]? = some (.string o.key) ∧ (ops l)[i * 4 + 2]? = some (.string o.old) ∧ (ops l)[i * 4 + 3]? = some (.string o.val)
  | [], i, o, h => by simp at h
  | q :: l, 0, o, h => by
    simp at h
    subst h
    exact ⟨rfl, rfl, rfl, rfl⟩
  | q :: l, i + 1, o, h => by
    simp only [List.getElem?_cons_succ] at h
    have := ops_at h
    have e1 : (i + 1) * 4 = i * 4 + 1 + 1 + 1 + 1 := by omega
    rw [e1]
    simp only [ops, List.flatMap_cons, List.cons_append, List.nil_append] at this ⊢
    exact this
structure SlO (w : World) (a : Option Addr) (cap : Nat) (l : List Opn) : Prop where
  row : Row w a (ops l)
  le : l.length ≤ cap
  max : cap ≤ maxLen
theorem SlO.below {w w' : World} {a : Option Addr} {cap : Nat} {l : List Opn} (h : SlO w a cap l) (hb : Below w.heap.size w w') : SlO w' a cap l := ⟨h.row.below0 hb, h.le, h.max⟩
theorem Row.opn {w : World} {a : Option Addr} {l : List Opn} (h : Row w a (ops l)) {i : Nat} {o : Opn} (hp : l[i]? = some o) :
    ∃ b off, a = some ⟨b, off, none⟩ ∧ b < w.heap.size ∧ w.cell? ⟨b, off + i * 4, none⟩ = some (.int .u8 o.kind) ∧ w.cell? ⟨b, off + i * 4 + 1, none⟩ = some (.string o.key) ∧ w.cell? ⟨b, off + i * 4 + 2, none⟩ = some (.string o.old) ∧ w.cell? ⟨b, off + i * 4 + 3, none⟩ = some (.string o.val) := by
  have hi := (List.getElem?_eq_some_iff.1 hp).1
  obtain ⟨b, off, ha, hc⟩ := h.at (k := i) (by rw [ops_len]; omega)
  obtain ⟨h0, h1, h2, h3⟩ := ops_at hp
  refine ⟨b, off, ha, World.block_lt_of_cell? _ _ (hc _ _ h0), hc _ _ h0, ?_, ?_, ?_⟩
  · rw [Nat.add_assoc]; exact hc _ _ h1
  · rw [Nat.add_assoc]; exact hc _ _ h2
  · rw [Nat.add_assoc]; exact hc _ _ h3

def bigO (o : Opn) : Bool := decide (100 < o.key.size) || decide (100 < o.old.size) || decide (100 < o.val.size)
def greatO (l : List Opn) : Bool := decide (100 < l.length) || l.any bigO
theorem greatO_no {l : List Opn} (h : greatO l = false) : l.length ≤ 100 := by
  unfold greatO at h
  rw [Bool.or_eq_false_iff, decide_eq_false_iff_not] at h
  omega
def anyO (l : List Opn) (k : Nat) : Bool := (l.take k).any bigO
theorem anyO_succ {l : List Opn} {k : Nat} (hk : k < l.length) : anyO l (k + 1) = (anyO l k || bigO l[k]) := by
  unfold anyO
  rw [List.take_add_one, List.getElem?_eq_getElem hk, List.any_append]
  simp only [Option.toList, List.any_cons, List.any_nil, Bool.or_false]
theorem greatO_yes {l : List Opn} {k : Nat} (hk : k < l.length) (h : bigO l[k] = true) : greatO l = true := by
  unfold greatO
  rw [Bool.or_eq_true]
  right
  rw [List.any_eq_true]
  exact ⟨l[k], List.getElem_mem hk, h⟩

set_option maxHeartbeats 1000000 in
theorem greatO_any (a : Option Addr) (cap : Nat) (l : List Opn) (w : World) (hs : SlO w a cap l) :
    Calls Try.prog 44 #[.slice a l.length cap] w fun e w' => e = .returned (.bool (greatO l)) ∧ w = w' := by
  have hr := hs.row
  have hmx := hs.max
  have hle := hs.le
  unfold maxLen at hmx
  by_cases h40 : 100 < l.length
  · have HG : Hid (greatO l = true) := Lib.hid (by simp [greatO, h40])
    go_enter Try.func44, Try.ntmps44
    go_wp2
    go_ret
    exact ⟨ret_bool HG.out.symm, rfl⟩
  · go_enter Try.func44, Try.ntmps44
    refine wp_seq_k (fun K hK => ?_)
    have HK := Lib.hid hK
    clear hK
    go_wp2
    refine HK.out _ _ ?_
    clear HK
    refine wp_seq_k (fun K hK => ?_)
    have HK := Lib.hid hK
    clear hK
    go_wp2
    refine HK.out _ _ ?_
    clear HK
    go_wp2_with fail
    go_loop [3] (fun i => ∃ k : Nat, k ≤ l.length ∧ i = .int .i64 k ∧ anyO l k = false) (fun i => l.length - (intOf i).toNat)
    case atStart => exact ⟨0, by omega, rfl, by simp [anyO]⟩
    case round =>
      obtain ⟨k, hk, rfl, hg⟩ := hrel
      by_cases hlt : k < l.length
      · obtain ⟨bb, off, rfl, hblt, c0, c1, c2, c3⟩ := hr.opn (List.getElem?_eq_getElem hlt)
        have hgs := anyO_succ hlt
        have hy := Lib.hid (greatO_yes hlt)
        rw [hg] at hgs
        clear hg
        generalize l[k] = y at *
        obtain ⟨yk, y1, y2, y3⟩ := y
        simp only at c0 c1 c2 c3
        by_cases q1 : y1.size ≤ 100
        · by_cases q2 : y2.size ≤ 100
          · by_cases q3 : y3.size ≤ 100
            · have hb : bigO ⟨yk, y1, y2, y3⟩ = false := by (simp only [bigO, Bool.or_eq_false_iff, decide_eq_false_iff_not]; omega)
              have HS : Hid (anyO l (k + 1) = false) := Lib.hid (by rw [hgs, hb]; rfl)
              clear hgs hb
              go_wp2
              go_round
              case rel => exact ⟨k + 1, by omega, by go_num, HS.out⟩
              case measure => simp [intOf]; omega
            · have hb : bigO ⟨yk, y1, y2, y3⟩ = true := by (simp only [bigO, Bool.or_eq_true, decide_eq_true_eq]; omega)
              have HS := Lib.hid (hy.out hb)
              clear hgs hb
              go_wp2
              go_ret
              exact ⟨ret_bool HS.out.symm, rfl⟩
          · have hb : bigO ⟨yk, y1, y2, y3⟩ = true := by (simp only [bigO, Bool.or_eq_true, decide_eq_true_eq]; omega)
            have HS := Lib.hid (hy.out hb)
            clear hgs hb
            go_wp2
            go_ret
            exact ⟨ret_bool HS.out.symm, rfl⟩
        · have hb : bigO ⟨yk, y1, y2, y3⟩ = true := by (simp only [bigO, Bool.or_eq_true, decide_eq_true_eq]; omega)
          have HS := Lib.hid (hy.out hb)
          clear hgs hb
          go_wp2
          go_ret
          exact ⟨ret_bool HS.out.symm, rfl⟩
      · have hg2 : greatO l = false := by
          unfold greatO
          rw [decide_eq_false h40, Bool.false_or]
          have := hg
          unfold anyO at this
          rw [show k = l.length by omega, List.take_length] at this
          exact this
        have HS := Lib.hid hg2
        clear hg hg2
        go_wp2
        go_ret
        exact ⟨ret_bool HS.out.symm, rfl⟩
end Go.Proofs.Ytmnjmjbmnhppfaa
