/- Calls in memory; may of both sides; how many are on. -/
import Derived.Test.YtiipelccmkidbaaH0
import Derived.Test.YtiipelccmkidbaaK10
import Derived.Test.YtiipelccmkidbaaK9
import Derived.Test.YtiipelccmkidbaaUnder
import Derived.Test.YtiipelccmkidbaaRows
import Derived.WalkKit
import Derived.WalkSpells
import Derived.WalkLawsBesides
import Derived.Handy
import Derived.Deep.QuietTactic
import Derived.BigQuiet
import Derived.Deep.DeepCutAuto
import Derived.Lib.Hide
import Derived.RegionTactic
import Derived.ChangeAlike
import Derived.Laws.ResultCell
import Derived.Outline
namespace Go.Proofs.Ytiipelccmkidbaa
open Go.RowKit

def callC (c : Cl) : List Value := [.int .i64 c.cli, .int .u8 c.op.kind, .string c.op.key, .string c.op.old, .string c.op.val, .int .i64 c.rep.err, .bool c.rep.found, .string c.rep.val, .int .i64 c.st, .int .i64 c.en]
def calls (l : List Cl) : List Value := l.flatMap callC
theorem calls_len : ∀ (l : List Cl), (calls l).length = 10 * l.length
  | [] => rfl
  | p :: l => by
    have := calls_len l
    simp only [calls, List.flatMap_cons, List.length_append, List.length_cons, callC, List.length_nil] at this ⊢
    omega
theorem calls_at : ∀ {l : List Cl} {i : Nat} {c : Cl}, l[i]? = some c → ∀ j u, (callC c)[j]? = some u → (calls l)[i * 10 + j]? = some u
  | [], i, c, h => by simp at h
  | q :: l, 0, c, h => by
    simp at h
    subst h
    intro j u hj
    have hlt := (List.getElem?_eq_some_iff.1 hj).1
    simp only [calls, List.flatMap_cons, Nat.zero_mul, Nat.zero_add]
    rw [List.getElem?_append_left hlt]
    exact hj
  | q :: l, i + 1, c, h => by
    simp only [List.getElem?_cons_succ] at h
    intro j u hj
    have := calls_at h j u hj
    simp only [calls, List.flatMap_cons] at this ⊢
    rw [List.getElem?_append_right (by simp [callC]; omega)]
    simp only [callC, List.length_cons, List.length_nil] at *
    rw [show (i + 1) * 10 + j - (0 + 1 + 1 + 1 + 1 + 1 + 1 + 1 + 1 + 1 + 1) = i * 10 + j by omega]
    exact this
structure SlC (w : World) (a : Option Addr) (cap : Nat) (l : List Cl) : Prop where
  row : Row w a (calls l)
  le : l.length ≤ cap
  max : cap ≤ maxLen
theorem SlC.below {w w' : World} {a : Option Addr} {cap : Nat} {l : List Cl} (h : SlC w a cap l) (hb : Below w.heap.size w w') : SlC w' a cap l := ⟨h.row.below0 hb, h.le, h.max⟩
/-- The ten cells of a call at an address. -/
structure TenC (w : World) (b o : Nat) (c : Cl) : Prop where
  c0 : w.cell? ⟨b, o, none⟩ = some (.int .i64 c.cli)
  c1 : w.cell? ⟨b, o + 1, none⟩ = some (.int .u8 c.op.kind)
  c2 : w.cell? ⟨b, o + 2, none⟩ = some (.string c.op.key)
  c3 : w.cell? ⟨b, o + 3, none⟩ = some (.string c.op.old)
  c4 : w.cell? ⟨b, o + 4, none⟩ = some (.string c.op.val)
  c5 : w.cell? ⟨b, o + 5, none⟩ = some (.int .i64 c.rep.err)
  c6 : w.cell? ⟨b, o + 6, none⟩ = some (.bool c.rep.found)
  c7 : w.cell? ⟨b, o + 7, none⟩ = some (.string c.rep.val)
  c8 : w.cell? ⟨b, o + 8, none⟩ = some (.int .i64 c.st)
  c9 : w.cell? ⟨b, o + 9, none⟩ = some (.int .i64 c.en)
theorem Row.call {w : World} {a : Option Addr} {l : List Cl} (h : Row w a (calls l)) {i : Nat} {c : Cl} (hp : l[i]? = some c) :
    ∃ b off, a = some ⟨b, off, none⟩ ∧ b < w.heap.size ∧ TenC w b (off + i * 10) c := by
  have hi := (List.getElem?_eq_some_iff.1 hp).1
  obtain ⟨b, off, ha, hc⟩ := h.at (k := i) (by rw [calls_len]; omega)
  have hat := calls_at hp
  have H : ∀ j u, (callC c)[j]? = some u → w.cell? ⟨b, off + i * 10 + j, none⟩ = some u := fun j u hj => by
    rw [Nat.add_assoc]
    exact hc _ _ (hat j u hj)
  have h0 := H 0 _ rfl
  exact ⟨b, off, ha, World.block_lt_of_cell? _ _ h0, h0, H 1 _ rfl, H 2 _ rfl, H 3 _ rfl, H 4 _ rfl, H 5 _ rfl, H 6 _ rfl, H 7 _ rfl, H 8 _ rfl, H 9 _ rfl⟩
theorem TenC.below {w w' : World} {B b o : Nat} {c : Cl} (h : TenC w b o c) (hb : Below B w w') (hB : b < B) : TenC w' b o c :=
  ⟨(hb.cell hB).trans h.c0, (hb.cell hB).trans h.c1, (hb.cell hB).trans h.c2, (hb.cell hB).trans h.c3, (hb.cell hB).trans h.c4, (hb.cell hB).trans h.c5, (hb.cell hB).trans h.c6, (hb.cell hB).trans h.c7, (hb.cell hB).trans h.c8, (hb.cell hB).trans h.c9⟩
def callV (c : Cl) : Value := .agg #[.int .i64 c.cli, .int .u8 c.op.kind, .string c.op.key, .string c.op.old, .string c.op.val, .int .i64 c.rep.err, .bool c.rep.found, .string c.rep.val, .int .i64 c.st, .int .i64 c.en]
def callO (c : Cl) : Obj := .cells #[.int .i64 c.cli, .int .u8 c.op.kind, .string c.op.key, .string c.op.old, .string c.op.val, .int .i64 c.rep.err, .bool c.rep.found, .string c.rep.val, .int .i64 c.st, .int .i64 c.en] 32 (0, 0)
theorem TenC.of_box {w : World} {g : Nat} {c : Cl} (h : w.heap[g]? = some (callO c)) : TenC w g 0 c := by
  unfold callO at h
  constructor
  all_goals simp [World.cell?, h]

set_option maxRecDepth 100000 in
set_option maxHeartbeats 2000000 in
theorem wide_any (a : Option Addr) (cap : Nat) (l : List Cl) (t : Int) (w : World) (hs : SlC w a cap l) :
    Calls Try.prog 12 #[.slice a l.length cap, .int .i64 t] w fun e w' => e = .returned (.int .i64 (wideP l t)) ∧ Below w.heap.size w w' := by
  have hr := hs.row
  have hle := hs.le
  have hmx := hs.max
  unfold maxLen at hmx
  go_enter Try.func12, Try.ntmps12
  refine wp_seq_k (fun K hK => ?_)
  have HK := Lib.hid hK
  clear hK
  go_wp2
  refine HK.out _ _ ?_
  clear HK
  refine wp_seq_k (fun K hK => ?_)
  have HK := Lib.hid hK
  clear hK
  go_wp2
  refine HK.out _ _ ?_
  clear HK
  go_wp2_with fail
  go_loopw [5, 10] (fun n i wr => ∃ k : Nat, k ≤ l.length ∧ i = .int .i64 k ∧ n = .int .i64 (wideP (l.take k) t) ∧ Below w.heap.size w wr) (fun _ i _ => l.length - (intOf i).toNat)
  case atStart => exact ⟨0, by omega, rfl, rfl, Below.refl _ _⟩
  case round =>
    obtain ⟨k, hk, rfl, rfl, hbr⟩ := hrel
    have hwl := wideP_le (l.take k) t
    rw [List.length_take] at hwl
    by_cases hlt : k < l.length
    · obtain ⟨bb, off, rfl, hblt, ht0⟩ := hr.call (List.getElem?_eq_getElem hlt)
      obtain ⟨c0, c1, c2, c3, c4, c5, c6, c7, c8, c9⟩ := ht0.below hbr hblt
      have hsn : wideP (l.take (k + 1)) t = wideP (l.take k) t + if onB t l[k] then 1 else 0 := by
        rw [take_snoc' (List.getElem?_eq_getElem hlt)]
        unfold wideP
        rw [List.countP_append, List.countP_singleton]
      have hbs := hbr.size
      clear ht0
      generalize l[k] = c at *
      obtain ⟨cli, ⟨kd, key, old, val⟩, ⟨er, fo, va⟩, st, en⟩ := c
      simp only at c0 c1 c2 c3 c4 c5 c6 c7 c8 c9
      generalize wideP (l.take k) t = n at *
      by_cases q1 : st ≤ t
      · by_cases q2 : en = 0
        · have hb : onB t ⟨cli, ⟨kd, key, old, val⟩, ⟨er, fo, va⟩, st, en⟩ = true := by simp [onB, q1, q2]
          have HS : Hid (wideP (l.take (k + 1)) t = n + 1) := Lib.hid (by rw [hsn, hb]; rfl)
          have q2b : (en == 0) = true := by simpa using q2
          clear hsn hb q2
          go_wp2
          go_roundw
          case rel => exact ⟨k + 1, by omega, by go_num, by rw [HS.out]; go_num, by (repeat' (first | (with_reducible exact Below.refl _ _) | (with_reducible assumption) | (with_reducible refine Below.alloc ?_ ?_ _) | (with_reducible refine Below.drew ?_) | (with_reducible refine below_drewN ?_ _) | (with_reducible refine Below.setCell ?_ ?_ _) | (with_reducible refine Below.trans ?_ (by assumption)) | go_size))⟩
          case measure => simp [intOf]; omega
        · have q2b : (en == 0) = false := by simpa using q2
          by_cases q3 : t ≤ en
          · have hb : onB t ⟨cli, ⟨kd, key, old, val⟩, ⟨er, fo, va⟩, st, en⟩ = true := by simp [onB, q1, q3]
            have HS : Hid (wideP (l.take (k + 1)) t = n + 1) := Lib.hid (by rw [hsn, hb]; rfl)
            clear hsn hb q2
            go_wp2
            go_roundw
            case rel => exact ⟨k + 1, by omega, by go_num, by rw [HS.out]; go_num, by (repeat' (first | (with_reducible exact Below.refl _ _) | (with_reducible assumption) | (with_reducible refine Below.alloc ?_ ?_ _) | (with_reducible refine Below.drew ?_) | (with_reducible refine below_drewN ?_ _) | (with_reducible refine Below.setCell ?_ ?_ _) | (with_reducible refine Below.trans ?_ (by assumption)) | go_size))⟩
            case measure => simp [intOf]; omega
          · have hb : onB t ⟨cli, ⟨kd, key, old, val⟩, ⟨er, fo, va⟩, st, en⟩ = false := by simp [onB, q2, q3]
            have HS : Hid (wideP (l.take (k + 1)) t = n) := Lib.hid (by rw [hsn, hb]; rfl)
            clear hsn hb q2
            go_wp2
            go_roundw
            case rel => exact ⟨k + 1, by omega, by go_num, by rw [HS.out], by (repeat' (first | (with_reducible exact Below.refl _ _) | (with_reducible assumption) | (with_reducible refine Below.alloc ?_ ?_ _) | (with_reducible refine Below.drew ?_) | (with_reducible refine below_drewN ?_ _) | (with_reducible refine Below.setCell ?_ ?_ _) | (with_reducible refine Below.trans ?_ (by assumption)) | go_size))⟩
            case measure => simp [intOf]; omega
      · have hb : onB t ⟨cli, ⟨kd, key, old, val⟩, ⟨er, fo, va⟩, st, en⟩ = false := by simp [onB, q1]
        have HS : Hid (wideP (l.take (k + 1)) t = n) := Lib.hid (by rw [hsn, hb]; rfl)
        clear hsn hb
        go_wp2
        go_roundw
        case rel => exact ⟨k + 1, by omega, by go_num, by rw [HS.out], by (repeat' (first | (with_reducible exact Below.refl _ _) | (with_reducible assumption) | (with_reducible refine Below.alloc ?_ ?_ _) | (with_reducible refine Below.drew ?_) | (with_reducible refine below_drewN ?_ _) | (with_reducible refine Below.setCell ?_ ?_ _) | (with_reducible refine Below.trans ?_ (by assumption)) | go_size))⟩
        case measure => simp [intOf]; omega
    · have HE : Hid (wideP (l.take k) t = wideP l t) := Lib.hid (by rw [List.take_of_length_le (by omega)])
      go_wp2
      go_ret
      exact ⟨ret_int (by rw [HE.out]), hbr⟩
end Go.Proofs.Ytiipelccmkidbaa
