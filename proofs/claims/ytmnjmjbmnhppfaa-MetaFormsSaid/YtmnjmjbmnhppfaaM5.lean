/- The reference's Parse, walked. -/
import Derived.Test.YtmnjmjbmnhppfaaM4
import Derived.Test.YtmnjmjbmnhppfaaRows
import Derived.WalkKit
import Derived.WalkSpells
import Derived.WalkLawsBesides
import Derived.Handy
import Derived.Deep.QuietTactic
import Derived.BigQuiet
import Derived.Deep.DeepCutAuto
import Derived.Lib.Hide
import Derived.RegionTactic
import Derived.ChangeAlike
import Derived.Laws.ResultCell
namespace Go.Proofs.Ytmnjmjbmnhppfaa
open Go.RowKit

def parM (l : List UInt8) : Bool := decide (l.length = 13) && mayM (getN l 0 6) (getN l 6 1) (getN l 7 6)
def parV (l : List UInt8) : Value := if parM l = true then .agg #[.int .i64 (getN l 0 6), .int .i64 (getN l 6 1), .int .i64 (getN l 7 6)] else .agg #[.int .i64 0, .int .i64 0, .int .i64 0]
def parE (l : List UInt8) : Int := if parM l = true then 0 else 80
theorem getN_one (l : List UInt8) (i : Nat) (h : i < l.length) : getN l i 1 = l[i].toNat := by
  unfold getN
  rw [List.drop_eq_getElem_cons h, List.take_succ_cons]
  simp [ofLe]

theorem rget_w (a : Option Addr) (cap : Nat) (l : List UInt8) (at_ k : Nat) (w : World) (hs : SlB w a cap l) (hk : k = 1 ∨ k = 2 ∨ k = 4 ∨ k = 6) (h : at_ + k ≤ l.length) (n : Nat) (hn : l.length = n) (at' k' s : Int) (hat : at' = at_) (hk' : k' = k) (hs' : s = at' + k') :
    Calls Try.prog 58 #[.slice a n cap, .int .i64 at', .int .i64 k'] w fun e w' => e = .returned (.tuple #[.int .i64 (getN l at_ k), .int .i64 s, .int .i64 0]) ∧ w = w' := by
  subst hn hat hk' hs'
  exact rget_ok a cap l at_ k w hs hk h

theorem tri_cells {w : World} {g : Nat} {x y z : Value} {T : TypeId} (h : w.heap[g]? = some (.cells #[x, y, z] T (0, 0))) :
    w.cell? ⟨g, 0, none⟩ = some x ∧ w.cell? ⟨g, 1, none⟩ = some y ∧ w.cell? ⟨g, 2, none⟩ = some z ∧ w.frozen? ⟨g, 0, none⟩ = false ∧ w.frozen? ⟨g, 1, none⟩ = false ∧ w.frozen? ⟨g, 2, none⟩ = false := by
  refine ⟨?_, ?_, ?_, ?_, ?_, ?_⟩
  all_goals simp [World.cell?, World.frozen?, h]
theorem two_metas {w w1 : World} {x y z x' y' z' : Value} {T T' : TypeId} (hb : Below ((w.alloc (.cells #[x, y, z] T)).alloc (.cells #[x', y', z'] T')).heap.size ((w.alloc (.cells #[x, y, z] T)).alloc (.cells #[x', y', z'] T')) w1) :
    w1.cell? ⟨w.heap.size, 0, none⟩ = some x ∧ w1.cell? ⟨w.heap.size, 1, none⟩ = some y ∧ w1.cell? ⟨w.heap.size, 2, none⟩ = some z ∧ w1.frozen? ⟨w.heap.size, 0, none⟩ = false ∧ w1.frozen? ⟨w.heap.size, 1, none⟩ = false ∧ w1.frozen? ⟨w.heap.size, 2, none⟩ = false ∧
    w1.cell? ⟨w.heap.size + 1, 0, none⟩ = some x' ∧ w1.cell? ⟨w.heap.size + 1, 1, none⟩ = some y' ∧ w1.cell? ⟨w.heap.size + 1, 2, none⟩ = some z' ∧ w1.frozen? ⟨w.heap.size + 1, 0, none⟩ = false ∧ w1.frozen? ⟨w.heap.size + 1, 1, none⟩ = false ∧ w1.frozen? ⟨w.heap.size + 1, 2, none⟩ = false := by
  have h1 : w1.heap[w.heap.size]? = some (.cells #[x, y, z] T (0, 0)) := by
    rw [hb.block _ (by simp; omega), heap_alloc_old _ _ (by simp), heap_alloc_new]
  have h2 : w1.heap[w.heap.size + 1]? = some (.cells #[x', y', z'] T' (0, 0)) := by
    rw [hb.block _ (by simp), heap_alloc2_new]
  obtain ⟨a1, a2, a3, a4, a5, a6⟩ := tri_cells h1
  obtain ⟨b1, b2, b3, b4, b5, b6⟩ := tri_cells h2
  exact ⟨a1, a2, a3, a4, a5, a6, b1, b2, b3, b4, b5, b6⟩

theorem below_two {w w1 : World} {A B : Obj} (hb : Below ((w.alloc A).alloc B).heap.size ((w.alloc A).alloc B) w1) : Below w.heap.size w w1 :=
  (((Below.refl _ _).alloc (Nat.le_refl _) A).alloc (by simp) B).trans (hb.mono (by simp; omega))

set_option maxRecDepth 20000 in
set_option maxHeartbeats 400000 in
theorem rparse_any (a : Option Addr) (cap : Nat) (l : List UInt8) (w : World) (hs : SlB w a cap l) :
    Calls Try.prog 19 #[.slice a l.length cap] w fun e w' => e = .returned (.tuple #[parV l, .int .i64 (parE l)]) ∧ Below w.heap.size w w' := by
  have hmx := hs.max
  unfold maxLen at hmx
  have hle := hs.le
  by_cases h13 : l.length = 13
  · have hs0 : SlB (w.alloc (Obj.cells #[.int .i64 0, .int .i64 0, .int .i64 0] 25)) a cap l := hs.below ((Below.refl _ _).alloc (Nat.le_refl _) _)
    have h0 := getN_one l 6 (by omega)
    obtain ⟨b, off, rfl, hc⟩ := hs0.row.byte (i := 6) (by omega)
    have hx := (l[6]'(by omega)).toNat_lt
    generalize (l[6]'(by omega)).toNat = x at *
    subst h0
    have hpe : parM l = mayM (getN l 0 6) (getN l 6 1) (getN l 7 6) := by simp [parM, h13]
    unfold parV parE
    rw [hpe]
    clear hpe
    cases hm : mayM (getN l 0 6) (getN l 6 1) (getN l 7 6)
    all_goals
      have HM := Lib.hid hm
      clear hm
      first | rw [if_pos rfl, if_pos rfl] | rw [if_neg (by simp), if_neg (by simp)]
      go_enter Try.func19, Try.ntmps19
      refine wp_seq_k (fun K hK => ?_)
      have HK := Lib.hid hK
      clear hK
      go_wp2
      refine HK.out _ _ ?_
      clear HK
      refine wp_seq_k (fun K hK => ?_)
      have HK := Lib.hid hK
      clear hK
      go_wp2
      refine HK.out _ _ ?_
      clear HK
      refine wp_seq_k (fun K hK => ?_)
      have HK := Lib.hid hK
      clear hK
      go_wp2_with (go_at_call 58; refine (rget_w _ cap l 0 6 _ hs0 (by omega) (by omega) 13 h13 0 6 6 rfl rfl rfl).mono ?_; rintro e w1 ⟨rfl, rfl⟩)
      refine HK.out _ _ ?_
      clear HK
      refine wp_seq_k (fun K hK => ?_)
      have HK := Lib.hid hK
      clear hK
      go_wp2_with (go_at_call 58; refine (rget_w _ cap l 7 6 _ hs0 (by omega) (by omega) 13 h13 7 6 13 rfl rfl rfl).mono ?_; rintro e w1 ⟨rfl, rfl⟩)
      refine HK.out _ _ ?_
      clear HK
      refine wp_seq_k (fun K hK => ?_)
      have HK := Lib.hid hK
      clear hK
      go_wp2
      refine HK.out _ _ ?_
      clear HK
      go_wp2_with (go_at_call 21; refine (rmay_any _ _ _ _).mono ?_; rintro e w1 ⟨rfl, hb1⟩; rw [HM.out]; obtain ⟨q0, q1, q2, f0, f1, f2, p0, p1, p2, -, -, -⟩ := two_metas hb1; have hbw := below_two hb1)
      (try simp only [Exit.inBlock, Exit.then])
      refine bodyPost_ret ?hr rfl ⟨rfl, ?_⟩
      case hr =>
        simp only [results, Try.results19]
        go_simp
      (repeat' (first | (with_reducible exact Below.refl _ _) | (with_reducible assumption) | (with_reducible refine Below.alloc ?_ ?_ _) | (with_reducible refine Below.drew ?_) | (with_reducible refine below_drewN ?_ _) | (with_reducible refine Below.setCell ?_ ?_ _) | (with_reducible refine Below.trans ?_ (by assumption)) | go_size))
  · have hpe : parM l = false := by simp [parM, h13]
    unfold parV parE
    rw [if_neg (by simp [hpe]), if_neg (by simp [hpe])]
    have h1 : ((l.length : Int) != 13) = true := by rw [bne_iff_ne]; omega
    go_enter Try.func19, Try.ntmps19
    go_wp2
    (try simp only [Exit.inBlock, Exit.then])
    refine bodyPost_ret (v := .tuple #[.agg #[.int .i64 0, .int .i64 0, .int .i64 0], .int .i64 80]) ?hr rfl ?_
    case hr =>
      simp only [results, Try.results19]
      go_simp
    · exact ⟨rfl, by (repeat' (first | (with_reducible exact Below.refl _ _) | (with_reducible assumption) | (with_reducible refine Below.alloc ?_ ?_ _) | (with_reducible refine Below.drew ?_) | (with_reducible refine below_drewN ?_ _) | (with_reducible refine Below.setCell ?_ ?_ _) | (with_reducible refine Below.trans ?_ (by assumption)) | go_size))⟩
end Go.Proofs.Ytmnjmjbmnhppfaa
