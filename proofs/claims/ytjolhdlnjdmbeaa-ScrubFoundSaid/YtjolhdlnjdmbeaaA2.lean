/- ScrubAll, walked. -/
import Derived.Test.YtjolhdlnjdmbeaaA1
import Derived.Test.YtjolhdlnjdmbeaaRows
import Derived.WalkKit
import Derived.WalkSpells
import Derived.WalkLawsBesides
import Derived.Handy
import Derived.Deep.QuietTactic
import Derived.BigQuiet
import Derived.Deep.DeepCutAuto
import Derived.Lib.Hide
import Derived.RegionTactic
import Derived.ChangeAlike
namespace Go.Proofs.Ytjolhdlnjdmbeaa
open Go.RowKit

/-- Has one of the first k looks, from p on, modulo m, been at j? -/
def seenF (m p k j : Nat) : Bool := (List.range k).any (fun i => (p + i) % m == j)
theorem seen_succ (m p k j : Nat) : seenF m p (k + 1) j = (seenF m p k j || ((p + k) % m == j)) := by simp [seenF, List.range_succ]
def seenL (m len p k : Nat) : List Bool := (List.range len).map (seenF m p k)
theorem seenL_len (m len p k : Nat) : (seenL m len p k).length = len := by simp [seenL]
theorem seenL_set (m len p k : Nat) : (seenL m len p k).set ((p + k) % m) true = seenL m len p (k + 1) := by
  apply List.ext_getElem
  · simp [seenL]
  · intro i h1 h2
    simp only [seenL, List.length_set, List.length_map, List.length_range] at h1
    simp only [seenL, List.getElem_set, List.getElem_map, List.getElem_range, seen_succ]
    by_cases h : (p + k) % m = i <;> simp [h]
theorem seen_new (p k : Nat) (hk : k < 24) : seenF 24 p k ((p + k) % 24) = false := by
  simp only [seenF, List.any_eq_false, List.mem_range, beq_iff_eq]
  intro i hi
  omega
theorem seen_all (p j : Nat) (hj : j < 24) : seenF 24 p 24 j = true := by
  simp only [seenF, List.any_eq_true, List.mem_range, beq_iff_eq]
  exact ⟨(j + 24 - p % 24) % 24, by omega, by omega⟩
theorem seen_chunk (m q j : Nat) (hm : m ≤ 8) (hq : q < m) (hj : j < m) : seenF m q 24 j = true := by
  simp only [seenF, List.any_eq_true, List.mem_range, beq_iff_eq]
  by_cases h : q ≤ j
  · exact ⟨j - q, by omega, by rw [show q + (j - q) = j by omega, Nat.mod_eq_of_lt hj]⟩
  · exact ⟨j + m - q, by omega, by rw [show q + (j + m - q) = j + m by omega, Nat.add_mod_right, Nat.mod_eq_of_lt hj]⟩

/-- A block of bools. -/
def Bools (w : World) (b : Nat) (T : TypeId) (l : List Bool) : Prop := w.heap[b]? = some (.cells (l.map Value.bool).toArray T (0, 0))
theorem Bools.below {w w' : World} {b : Nat} {T : TypeId} {l : List Bool} (h : Bools w b T l) {B : Nat} (hb : Below B w w') (hB : b < B) : Bools w' b T l := (hb.block b hB).trans h
theorem Bools.cell {w : World} {b : Nat} {T : TypeId} {l : List Bool} (h : Bools w b T l) {j : Nat} {x : Bool} (hx : l[j]? = some x) : w.cell? ⟨b, j, none⟩ = some (.bool x) := by
  unfold Bools at h
  simp [World.cell?, h, hx]
theorem Bools.frozen {w : World} {b : Nat} {T : TypeId} {l : List Bool} (h : Bools w b T l) (j : Nat) : w.frozen? ⟨b, j, none⟩ = false := by
  unfold Bools at h
  simp [World.frozen?, h]
theorem Bools.set {w : World} {b : Nat} {T : TypeId} {l : List Bool} (h : Bools w b T l) (j : Nat) (x : Bool) : Bools (w.setCell ⟨b, j, none⟩ (.bool x)) b T (l.set j x) := by
  unfold Bools at *
  rw [heap_setCell_same w b j _ _ _ h]
  congr 2
  apply Array.ext'
  simp [List.map_set]
theorem Bools.other {w : World} {b : Nat} {T : TypeId} {l : List Bool} (h : Bools w b T l) {a : Addr} (ha : a.block ≠ b) (v : Value) : Bools (w.setCell a v) b T l := by
  unfold Bools at *
  rw [heap_setCell_other w a b v (fun e => ha e.symm)]
  exact h

theorem rounds_q (n : Int) (w : World) : Calls Try.prog 9 #[.int .i64 n] w fun e w' => e = .returned (.int .i64 24) ∧ w = w' := rounds_any n w

structure AllR (B0 B1 : Nat) (count : Int) (p q k : Nat) (wr : World) : Prop where
  ex : ∃ sk ck : Int, wr.heap[B0]? = some (.cells #[.int .i64 sk, .int .i64 ck] 23 (0, 0)) ∧ ptd sk 24 = ((p + k) % 24 : Nat) ∧ (count ≠ 0 → ptd (ptd ck 8) count = ((q + k) % count.toNat : Nat)) ∧
    Bools wr B1 34 (seenL 24 24 p k) ∧ Bools wr (B1 + 1) 38 (if count = 0 then seenL 1 8 0 0 else seenL count.toNat 8 q k)

theorem pair_set {w : World} {B0 : Nat} {T : TypeId} {a b a' b' : Value} (h : w.heap[B0]? = some (.cells #[a, b] T (0, 0))) : ((w.setCell ⟨B0, 0, none⟩ a').setCell ⟨B0, 1, none⟩ b').heap[B0]? = some (.cells #[a', b'] T (0, 0)) := by
  have h1 := heap_setCell_same w B0 0 _ _ a' h
  have h2 := heap_setCell_same _ B0 1 _ _ b' h1
  rw [h2]
  rfl
theorem below_sets {B : Nat} {w0 w : World} (hb : Below B w0 w) {b : Nat} (hB : B ≤ b) (j : Nat) (v : Value) : Below B w0 (w.setCell ⟨b, j, none⟩ v) := hb.setCell hB v

theorem allR_zero {w4 : World} {B0 B1 : Nat} {p q k r : Nat} {sk ck : Int} {o : Obj} (h01 : B0 < B1) (hsz : B1 + 2 ≤ w4.heap.size) (hx : w4.heap[B0]? = some (.cells #[.int .i64 sk, .int .i64 ck] 23 (0, 0)))
    (hS : ptd (nxS sk) 24 = ((p + (k + 1)) % 24 : Nat)) (hs : Bools w4 B1 34 (seenL 24 24 p k)) (hset : (seenL 24 24 p k).set r true = seenL 24 24 p (k + 1)) (hc : Bools w4 (B1 + 1) 38 (seenL 1 8 0 0)) (cn : Int) :
    AllR B0 B1 0 p q (k + 1) ((((w4.setCell ⟨B0, 0, none⟩ (.int .i64 (nxS sk))).setCell ⟨B0, 1, none⟩ (.int .i64 cn)).setCell ⟨B1, r, none⟩ (.bool true)).alloc o) := by
  refine ⟨nxS sk, cn, ?_, hS, fun h => absurd rfl h, ?_, ?_⟩
  · rw [heap_alloc_old _ _ (by simp; omega), heap_setCell_other _ ⟨B1, r, none⟩ _ _ (by simp; omega)]
    exact pair_set hx
  · unfold Bools
    rw [heap_alloc_old _ _ (by simp; omega), ← hset]
    exact ((hs.other (by simp; omega) _).other (by simp; omega) _).set r true
  · unfold Bools
    rw [heap_alloc_old _ _ (by simp; omega), if_pos rfl]
    exact ((hc.other (by simp; omega) _).other (by simp; omega) _).other (by simp) _

theorem allR_more {w4 : World} {B0 B1 : Nat} {count : Int} {p q k r kk : Nat} {sk ck : Int} {o : Obj} (h01 : B0 < B1) (hsz : B1 + 2 ≤ w4.heap.size) (hx : w4.heap[B0]? = some (.cells #[.int .i64 sk, .int .i64 ck] 23 (0, 0)))
    (hS : ptd (nxS sk) 24 = ((p + (k + 1)) % 24 : Nat)) (hs : Bools w4 B1 34 (seenL 24 24 p k)) (hset : (seenL 24 24 p k).set r true = seenL 24 24 p (k + 1)) (hc : Bools w4 (B1 + 1) 38 (seenL count.toNat 8 q k))
    (h0 : count ≠ 0) (hcs : (seenL count.toNat 8 q k).set kk true = seenL count.toNat 8 q (k + 1)) (cn : Int) (hcn : ptd (ptd cn 8) count = ((q + (k + 1)) % count.toNat : Nat)) :
    AllR B0 B1 count p q (k + 1) (((((w4.setCell ⟨B0, 0, none⟩ (.int .i64 (nxS sk))).setCell ⟨B0, 1, none⟩ (.int .i64 cn)).setCell ⟨B1, r, none⟩ (.bool true)).setCell ⟨B1 + 1, kk, none⟩ (.bool true)).alloc o) := by
  refine ⟨nxS sk, cn, ?_, hS, fun _ => hcn, ?_, ?_⟩
  · rw [heap_alloc_old _ _ (by simp; omega), heap_setCell_other _ ⟨B1 + 1, kk, none⟩ _ _ (by simp; omega), heap_setCell_other _ ⟨B1, r, none⟩ _ _ (by simp; omega)]
    exact pair_set hx
  · unfold Bools
    rw [heap_alloc_old _ _ (by simp; omega), ← hset]
    exact (((hs.other (by simp; omega) _).other (by simp; omega) _).set r true).other (by simp) _
  · unfold Bools
    rw [heap_alloc_old _ _ (by simp; omega), if_neg h0, ← hcs]
    exact (((hc.other (by simp; omega) _).other (by simp; omega) _).other (by simp) _).set kk true

theorem ptd_self {n m : Int} (h0 : 0 ≤ n) (h1 : n < m) : ptd n m = n := by unfold ptd; rw [if_neg (by omega)]
theorem chunk_next {ck count : Int} {q k : Nat} (h0 : count ≠ 0) (h3 : 0 ≤ count) (h4 : count ≤ 8) (hw : wthn count 0 8 = count) (h : ptd (ptd ck 8) count = ((q + k) % count.toNat : Nat)) :
    ptd (ptd (nxC ck count) 8) count = ((q + (k + 1)) % count.toNat : Nat) := by
  unfold nxC
  rw [hw, if_neg h0, h]
  obtain ⟨m, rfl⟩ : ∃ m : Nat, count = m := ⟨count.toNat, by omega⟩
  simp only [Int.toNat_natCast]
  have e2 : (((q + k) % m : Nat) + 1 : Int) % (m : Int) = ((q + (k + 1)) % m : Nat) := by
    rw [show (((q + k) % m : Nat) + 1 : Int) = (((q + k) % m + 1 : Nat) : Int) by omega, ← Int.natCast_emod]
    congr 1
    rw [← Nat.add_assoc, Nat.add_mod (q + k) 1, Nat.add_mod ((q + k) % m) 1, Nat.mod_mod]
  have hl : (q + (k + 1)) % m < m := Nat.mod_lt _ (by omega)
  have a1 : ptd (((q + (k + 1)) % m : Nat) : Int) 8 = ((q + (k + 1)) % m : Nat) := ptd_self (by omega) (by omega)
  rw [e2, a1]
  exact ptd_self (by omega) (by omega)

set_option maxRecDepth 100000 in
set_option maxHeartbeats 2000000 in
theorem all_ok (s c snap count : Int) (w : World) (h1 : 0 ≤ snap) (h2 : snap ≤ 1099511627752) (h3 : 0 ≤ count) (h4 : count ≤ 8) :
    Calls Try.prog 6 #[.agg #[.int .i64 s, .int .i64 c], .int .i64 snap, .int .i64 count] w fun e w' => e = .returned (.bool true) ∧ Below w.heap.size w w' := by
  have hbox : Below w.heap.size w (w.alloc (Obj.cells #[.int .i64 s, .int .i64 c] 23)) := (Below.refl _ _).alloc (Nat.le_refl _) _
  go_enter Try.func6, Try.ntmps6
  refine wp_seq_k (fun K hK => ?_)
  have HK := Lib.hid hK
  clear hK
  go_wp2
  refine HK.out _ _ ?_
  clear HK
  refine wp_seq_k (fun K hK => ?_)
  have HK := Lib.hid hK
  clear hK
  go_wp2_with (go_at_call 13; refine (awake_true _).mono ?_; rintro e w1 ⟨rfl, hb1⟩)
  refine HK.out _ _ ?_
  clear HK
  have hx1 : w1.heap[w.heap.size]? = some (.cells #[.int .i64 s, .int .i64 c] 23 (0, 0)) := (hb1.block _ (by simp)).trans (heap_alloc_new w _)
  have hb2 := hbox.trans (hb1.mono (by simp))
  have hz1 := hb1.size
  simp only [World.size_alloc] at hz1
  clear hbox hb1
  have HX := Lib.hid hx1
  clear hx1
  refine wp_seq_k (fun K hK => ?_)
  have HK := Lib.hid hK
  clear hK
  go_wp2
  refine HK.out _ _ ?_
  clear HK
  refine wp_seq_k (fun K hK => ?_)
  have HK := Lib.hid hK
  clear hK
  go_wp2
  refine HK.out _ _ ?_
  clear HK
  refine wp_seq_k (fun K hK => ?_)
  have HK := Lib.hid hK
  clear hK
  go_wp2
  refine HK.out _ _ ?_
  clear HK
  have hp := ptd_bd s 24 (by omega)
  have hp2 := ptd_bd c 8 (by omega)
  have hq := ptd_bd (ptd c 8) count
  have hwn : wthn snap 0 1099511627752 = snap := by unfold wthn; omega
  have hwc : wthn count 0 8 = count := by unfold wthn; omega
  obtain ⟨p, hpe⟩ : ∃ p : Nat, ptd s 24 = p := ⟨(ptd s 24).toNat, by omega⟩
  obtain ⟨q, hqe⟩ : ∃ q : Nat, count ≠ 0 → ptd (ptd c 8) count = q := ⟨(ptd (ptd c 8) count).toNat, by omega⟩
  have hbs : Below w.heap.size w ((w1.alloc (Obj.cells #[.bool false, .bool false, .bool false, .bool false, .bool false, .bool false, .bool false, .bool false, .bool false, .bool false, .bool false, .bool false, .bool false, .bool false, .bool false, .bool false, .bool false, .bool false, .bool false, .bool false, .bool false, .bool false, .bool false, .bool false] 34)).alloc (Obj.cells #[.bool false, .bool false, .bool false, .bool false, .bool false, .bool false, .bool false, .bool false] 38)) := (hb2.alloc (by omega) _).alloc (by simp; omega) _
  have hR : AllR w.heap.size w1.heap.size count p q 0 ((w1.alloc (Obj.cells #[.bool false, .bool false, .bool false, .bool false, .bool false, .bool false, .bool false, .bool false, .bool false, .bool false, .bool false, .bool false, .bool false, .bool false, .bool false, .bool false, .bool false, .bool false, .bool false, .bool false, .bool false, .bool false, .bool false, .bool false] 34)).alloc (Obj.cells #[.bool false, .bool false, .bool false, .bool false, .bool false, .bool false, .bool false, .bool false] 38)) := by
    refine ⟨s, c, ?_, by rw [hpe]; omega, fun h => ?_, ?_, ?_⟩
    · rw [heap_alloc_old _ _ (by simp; omega), heap_alloc_old _ _ (by omega)]; exact HX.out
    · rw [hqe h]
      have := hqe h
      have := hq (by omega)
      rw [Nat.add_zero, Nat.mod_eq_of_lt (by omega)]
    · unfold Bools
      rw [heap_alloc_old _ _ (by simp)]
      exact heap_alloc_new _ _
    · have e : (w1.alloc (Obj.cells #[.bool false, .bool false, .bool false, .bool false, .bool false, .bool false, .bool false, .bool false, .bool false, .bool false, .bool false, .bool false, .bool false, .bool false, .bool false, .bool false, .bool false, .bool false, .bool false, .bool false, .bool false, .bool false, .bool false, .bool false] 34)).heap.size = w1.heap.size + 1 := by simp
      unfold Bools
      rw [← e]
      split <;> exact heap_alloc_new _ _
  have hsz : w1.heap.size + 2 ≤ ((w1.alloc (Obj.cells #[.bool false, .bool false, .bool false, .bool false, .bool false, .bool false, .bool false, .bool false, .bool false, .bool false, .bool false, .bool false, .bool false, .bool false, .bool false, .bool false, .bool false, .bool false, .bool false, .bool false, .bool false, .bool false, .bool false, .bool false] 34)).alloc (Obj.cells #[.bool false, .bool false, .bool false, .bool false, .bool false, .bool false, .bool false, .bool false] 38)).heap.size := by simp
  generalize ((w1.alloc (Obj.cells #[.bool false, .bool false, .bool false, .bool false, .bool false, .bool false, .bool false, .bool false, .bool false, .bool false, .bool false, .bool false, .bool false, .bool false, .bool false, .bool false, .bool false, .bool false, .bool false, .bool false, .bool false, .bool false, .bool false, .bool false] 34)).alloc (Obj.cells #[.bool false, .bool false, .bool false, .bool false, .bool false, .bool false, .bool false, .bool false] 38)) = w3 at *
  have HPE := Lib.hid hpe
  have HQE := Lib.hid hqe
  have HWN := Lib.hid hwn
  have HWC := Lib.hid hwc
  have HQ := Lib.hid hq
  have hpb : p < 24 := by omega
  clear hpe hqe hwn hwc hq hp hp2
  generalize hB0 : w.heap.size = B0 at *
  generalize hB1 : w1.heap.size = B1 at *
  clear hB1
  have HB0 := Lib.hid hB0
  clear hB0
  refine wp_seq_k (fun K hK => ?_)
  go_cut [] (fun wx => AllR B0 B1 count p q 24 wx ∧ Below B0 w wx ∧ B1 + 2 ≤ wx.heap.size)
  case first =>
    go_wp2_with fail
    go_loopw [9] (fun n wr => ∃ k : Nat, k ≤ 24 ∧ n = .int .i64 k ∧ AllR B0 B1 count p q k wr ∧ Below B0 w wr ∧ B1 + 2 ≤ wr.heap.size) (fun n _ => 24 - (intOf n).toNat)
    case atStart => exact ⟨0, by omega, rfl, hR, hbs, hsz⟩
    case round =>
      obtain ⟨k, hk, rfl, hA, hb, hsz2⟩ := hrel
      obtain ⟨sk, ck, hx, hps, hpc, hBs, hBc⟩ := hA.ex
      by_cases hlt : k < 24
      · have hI : nxI sk snap = snap + 1 + ((p + k) % 24 : Nat) := by unfold nxI; rw [HWN.out, hps]
        have hS : ptd (nxS sk) 24 = ((p + (k + 1)) % 24 : Nat) := by
          unfold nxS
          rw [hps, ptd_self (by omega) (by omega)]
          omega
        have hnew := seen_new p k hlt
        have hset := seenL_set 24 24 p k
        have hr24 : (p + k) % 24 < 24 := by omega
        generalize hr : (p + k) % 24 = r at *
        have hat : (seenL 24 24 p k)[r]? = some false := by simp [seenL, hr24, hnew]
        have hcell := hBs.cell hat
        clear hr hps hA hnew
        have HI := Lib.hid hI
        have HS := Lib.hid hS
        have HSET := Lib.hid hset
        have HAT := Lib.hid hat
        clear hI hS hset
        have hcx0 : wr.cell? ⟨B0, 0, none⟩ = some (.int .i64 sk) := by simp [World.cell?, hx]
        have hcx1 : wr.cell? ⟨B0, 1, none⟩ = some (.int .i64 ck) := by simp [World.cell?, hx]
        go_wp2_with (go_at_call 9; refine (rounds_any _ _).mono ?_; rintro e w' ⟨rfl, rfl⟩)
        refine (next_any _ _ _ _ _).mono ?_
        rintro e w4 ⟨rfl, hb4⟩
        rw [HI.out]
        have hx4 : w4.heap[B0]? = some (.cells #[.int .i64 sk, .int .i64 ck] 23 (0, 0)) := (hb4.block _ (by omega)).trans hx
        have hBs4 := hBs.below hb4 (by omega)
        have hBc4 := hBc.below hb4 (by omega)
        have hbw4 := hb.trans (hb4.mono (by omega))
        have hz4 := hb4.size
        clear hb4 hBs hBc hb hx hcx0 hcx1 hcell hat
        have f0 : w4.cell? ⟨B0, 0, none⟩ = some (.int .i64 sk) := by simp [World.cell?, hx4]
        have f1 : w4.cell? ⟨B0, 1, none⟩ = some (.int .i64 ck) := by simp [World.cell?, hx4]
        have g0 : w4.frozen? ⟨B0, 0, none⟩ = false := by simp [World.frozen?, hx4]
        have g1 : w4.frozen? ⟨B0, 1, none⟩ = false := by simp [World.frozen?, hx4]
        have e0 : w4.cell? ⟨B1, r, none⟩ = some (.bool false) := hBs4.cell HAT.out
        have e1 : w4.frozen? ⟨B1, r, none⟩ = false := hBs4.frozen r
        have HBS := Lib.hid hBs4
        have HBC := Lib.hid hBc4
        have HX4 := Lib.hid hx4
        have HPC := Lib.hid hpc
        clear hBs4 hBc4 hx4 hpc
        have hidx : (snap + 1 + (r : Int) - snap).toNat - 1 = r := by omega
        have hn0 : B0 < w4.heap.size := by omega
        have hn1 : B1 < w4.heap.size := by omega
        have hn2 : B1 + 1 < w4.heap.size := by omega
        have hn3 : B0 < B1 := by omega
        by_cases hc0 : count = 0
        · have hK : nxK ck count = -1 := by unfold nxK; rw [HWC.out, if_pos hc0]
          rw [hK]
          have hk2 : ((count == 0) : Bool) = true := by simpa using hc0
          have hk3 : -1 < count := by omega
          have HC0 := Lib.hid hc0
          clear hK hc0
          go_wp2
          have hbc := HBC.out
          rw [if_pos HC0.out] at hbc
          refine ⟨⟨k + 1, by omega, by go_num, ?_, ?_, by simp; omega⟩, by simp [intOf]; omega⟩
          · have e := HC0.out
            subst e
            exact allR_zero hn3 (by omega) HX4.out HS.out HBS.out HSET.out hbc _
          · exact (below_sets (below_sets (below_sets hbw4 (Nat.le_refl _) _ _) (Nat.le_refl _) _ _) (by omega) _ _).alloc (by simp; omega) _
        · have hm := HQ.out
          have HCN := Lib.hid (chunk_next hc0 h3 h4 HWC.out (HPC.out hc0))
          have hpc := HPC.out hc0
          have hkk : nxK ck count = ((q + k) % count.toNat : Nat) := by unfold nxK; rw [HWC.out, if_neg hc0, hpc]
          have hml : (q + k) % count.toNat < count.toNat := Nat.mod_lt _ (by omega)
          have hcset := seenL_set count.toNat 8 q k
          have hBc := HBC.out
          rw [if_neg hc0] at hBc
          have hcl : (seenL count.toNat 8 q k).length = 8 := seenL_len ..
          rw [hkk]
          generalize hkr : (q + k) % count.toNat = kk at *
          have hk1 : ((kk : Int) == -1) = false := by rw [beq_eq_false_iff_ne]; omega
          have hk2 : ((count == 0) : Bool) = false := by rw [beq_eq_false_iff_ne]; omega
          have hk3 : (kk : Int) < count := by omega
          have hk4 : kk < 8 := by omega
          have c0 : ∃ x, w4.cell? ⟨B1 + 1, kk, none⟩ = some (.bool x) := ⟨(seenL count.toNat 8 q k)[kk]'(by omega), hBc.cell (List.getElem?_eq_getElem _)⟩
          obtain ⟨cx, c0⟩ := c0
          have c1 : w4.frozen? ⟨B1 + 1, kk, none⟩ = false := hBc.frozen kk
          have HCS := Lib.hid hcset
          have HBC2 := Lib.hid hBc
          have HKR := Lib.hid hkr
          have HC0 := Lib.hid hc0
          clear hm hpc hkk hml hcset hBc hcl hkr hc0
          go_wp2
          refine ⟨⟨k + 1, by omega, by go_num, ?_, ?_, by simp; omega⟩, by simp [intOf]; omega⟩
          · exact allR_more hn3 (by omega) HX4.out HS.out HBS.out HSET.out HBC2.out HC0.out HCS.out _ HCN.out
          · exact (below_sets (below_sets (below_sets (below_sets hbw4 (Nat.le_refl _) _ _) (Nat.le_refl _) _ _) (by omega) _ _) (by omega) _ _).alloc (by simp; omega) _
      · go_wp2_with (go_at_call 9; refine (rounds_any _ _).mono ?_; rintro e w' ⟨rfl, rfl⟩)
        go_meet
        obtain rfl : k = 24 := by omega
        exact ⟨hA, hb, hsz2⟩
  obtain ⟨hA, hb, hsz2⟩ := hcut
  refine hK _ _ ?_; clear hK
  obtain ⟨sk, ck, hx, hps, hpc, hBs, hBc⟩ := hA.ex
  clear hA hx hps hpc hR hbs
  have hall : ∀ j : Nat, j < 24 → wc.cell? ⟨B1, j, none⟩ = some (.bool true) := fun j hj => hBs.cell (by simp [seenL, hj, seen_all p j hj])
  have HALL := Lib.hid hall
  have hallc : ∀ j : Nat, (j : Int) < count → wc.cell? ⟨B1 + 1, j, none⟩ = some (.bool true) := fun j hj => by
    have h0 : count ≠ 0 := by omega
    rw [if_neg h0] at hBc
    have hq := HQ.out (by omega)
    have hqe := HQE.out h0
    exact hBc.cell (by
      have hj8 : j < 8 := by omega
      have := seen_chunk count.toNat q j (by omega) (by omega) (by omega)
      simp [seenL, hj8, this])
  have HALLC := Lib.hid hallc
  clear hall hallc hBs hBc
  refine wp_seq_k (fun K hK => ?_)
  go_cut [] (fun wx => wx = wc)
  case first =>
    go_wp2_with fail
    go_loopw [13] (fun n wr => ∃ k : Nat, k ≤ 24 ∧ n = .int .i64 k ∧ wr = wc) (fun n _ => 24 - (intOf n).toNat)
    case atStart => exact ⟨0, by omega, rfl, rfl⟩
    case round =>
      obtain ⟨k, hk, rfl, rfl⟩ := hrel
      by_cases hlt : k < 24
      · have hc := HALL.out k hlt
        go_wp2
        exact ⟨⟨k + 1, by omega, by go_num, by first | trivial | rfl⟩, by simp [intOf]; omega⟩
      · go_wp2
        go_meet
        first | trivial | rfl
  subst hcut
  refine hK _ _ ?_; clear hK
  refine wp_seq_k (fun K hK => ?_)
  go_cut [] (fun wx => wx = wc)
  case first =>
    go_wp2_with fail
    go_loopw [14] (fun n wr => ∃ k : Nat, (k : Int) ≤ count ∧ n = .int .i64 k ∧ wr = wc) (fun n _ => count.toNat - (intOf n).toNat)
    case atStart => exact ⟨0, by omega, rfl, rfl⟩
    case round =>
      obtain ⟨k, hk, rfl, rfl⟩ := hrel
      by_cases hlt : (k : Int) < count
      · have hc := HALLC.out k hlt
        have hk8 : k < 8 := by omega
        go_wp2
        exact ⟨⟨k + 1, by omega, by go_num, by first | trivial | rfl⟩, by simp [intOf]; omega⟩
      · go_wp2
        go_meet
        first | trivial | rfl
  subst hcut
  refine hK _ _ ?_; clear hK
  go_wp2
  go_ret
  exact ⟨rfl, hb⟩
end Go.Proofs.Ytjolhdlnjdmbeaa
