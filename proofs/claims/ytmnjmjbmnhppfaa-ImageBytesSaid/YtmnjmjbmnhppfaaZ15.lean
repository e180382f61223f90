/- ImageBytes: any image has the bytes that the chapter says, any bytes are the image that it says, or none's; they stay. No condition. -/
import Derived.Test.YtmnjmjbmnhppfaaZ1
import Derived.Test.YtmnjmjbmnhppfaaZ2
import Derived.Test.YtmnjmjbmnhppfaaZ3
import Derived.Test.YtmnjmjbmnhppfaaZ4
import Derived.Test.YtmnjmjbmnhppfaaZ5
import Derived.Test.YtmnjmjbmnhppfaaZ6
import Derived.Test.YtmnjmjbmnhppfaaZ7
import Derived.Test.YtmnjmjbmnhppfaaZ8
import Derived.Test.YtmnjmjbmnhppfaaZ9
import Derived.Test.YtmnjmjbmnhppfaaZ10
import Derived.Test.YtmnjmjbmnhppfaaZ11
import Derived.Test.YtmnjmjbmnhppfaaZ12
import Derived.Test.YtmnjmjbmnhppfaaZ13
import Derived.Test.YtmnjmjbmnhppfaaZ14
import Derived.Test.YtmnjmjbmnhppfaaRows
import Derived.WalkKit
import Derived.WalkSpells
import Derived.WalkLawsBesides
import Derived.Handy
import Derived.Deep.QuietTactic
import Derived.BigQuiet
import Derived.Deep.DeepCutAuto
import Derived.Lib.Hide
import Derived.RegionTactic
import Derived.ChangeAlike
import Derived.Lib.AppendStr
import Derived.Laws.IdiomStrings
import Derived.Laws.BytesArg
import Derived.Laws.ResultCell
import Derived.Outline
import Derived.ProofKit
import Derived.ChangeMaps5
import Derived.Deep.Slices
import Derived.Deep.Strs
import Derived.OpenShut
import Derived.Lib.SmallJoins
import Derived.Recover
import Derived.Defers
import Derived.Deep.RegionHeld3
import Derived.Deep.Quiet
import Derived.ChangeKeysEq
import Derived.ChangeSlices
import Derived.Laws.EntriesVeiled
import Derived.StillTailTactics
import Derived.Laws.Rows
import Derived.Lib.Overlaps
import Derived.Deep.RegionWith
import Derived.Laws.Strings
import Derived.Laws.CopyOwn
import Derived.Laws.CopyRow
import Derived.Laws.NewBlocks
import Derived.Deep.RegionLaw
namespace Go.Proofs.Ytmnjmjbmnhppfaa
open Go.RowKit

/-- Bytes of one's own, beyond a base. -/
def FreshB (base : Nat) (l : List UInt8) (e : Ending) (w' : World) : Prop := ∃ v, e = .returned v ∧ w'.ownsRow base 5 1 v l.length (bys l)

set_option maxRecDepth 100000 in
set_option maxHeartbeats 2000000 in
theorem rnumber_any (kk nn : Nat) (w : World) (hk6 : kk ≤ 6) (hn : nn ≤ 9007199254740992) : Calls Try.prog 64 #[.int .i64 nn, .int .i64 kk] w fun e w' => FreshB w.heap.size (le kk nn) e w' ∧ Below w.heap.size w w' := by
  go_enter Try.func64, Try.ntmps64
  refine wp_seq_k (fun K hK => ?_)
  have HK := Lib.hid hK
  clear hK
  go_wp2
  refine HK.out _ _ ?_
  clear HK
  refine wp_seq_k (fun K hK => ?_)
  have HK := Lib.hid hK
  clear hK
  go_wp2
  refine HK.out _ _ ?_
  clear HK
  refine wp_seq_k (fun K hK => ?_)
  go_cut [5] (fun out wx => wx.ownsRow w.heap.size 5 1 out kk (bys (le kk nn)) ∧ Below w.heap.size w wx)
  case first =>
    go_wp2_with fail
    go_loopw [0, 5, 6] (fun n out i wr => ∃ j : Nat, j ≤ kk ∧ i = .int .i64 j ∧ n = .int .i64 ((nn / 256 ^ j : Nat) : Int) ∧ wr.ownsRow w.heap.size 5 1 out j (bys (le j nn)) ∧ Below w.heap.size w wr) (fun _ _ i _ => kk - (intOf i).toNat)
    case atStart => exact ⟨0, by omega, rfl, by simp, World.ownsRow_nil _ _ _ _, Below.refl _ _⟩
    case round =>
      obtain ⟨j, hj, rfl, rfl, hown, hb⟩ := hrel
      have hq : nn / 256 ^ (j + 1) = nn / 256 ^ j / 256 := by rw [Nat.pow_succ, Nat.div_div_eq_div_mul]
      have hqn : nn / 256 ^ j ≤ nn := Nat.div_le_self _ _
      have hsn := le_snoc j nn
      have hbs := hb.size
      by_cases hlt : j < kk
      · generalize nn / 256 ^ j = q at *
        have HQ := Lib.hid hq
        have HS := Lib.hid hsn
        clear hq hsn
        go_wp2_with (at_builtin; refine wpList_append1 rfl _ _ 26 5 elByte rfl w.heap.size _ _ _ rfl hown #[.int .u8 ((q : Int) % 256)] rfl (by simp; rfl) _ rfl (by omega) (by omega) (by omega) ?_)
        intro v' w' hown' hb' _
        have hb2 := hb.trans hb'
        go_wp2
        refine ⟨⟨j + 1, by omega, by go_num, ?_, ?_, hb2⟩, by simp [intOf]; omega⟩
        · rw [HQ.out]
          exact int_eq (by omega)
        · rw [HS.out, bys_app]
          have e1 : bys [UInt8.ofNat (q % 256)] = [.int .u8 ((q : Int) % 256)] := by simp only [bys, List.map_cons, List.map_nil, byv_low]
          rw [e1]
          simpa using hown'
      · obtain rfl : j = kk := by omega
        clear hq hsn
        generalize nn / 256 ^ j = q at *
        go_wp2
        go_meet
        exact ⟨hown, hb⟩
  obtain ⟨hown2, hb3⟩ := hcut
  refine hK _ _ ?_; clear hK
  go_wp2
  go_ret
  refine ⟨⟨_, rfl, ?_⟩, hb3⟩
  rw [le_len]
  exact hown2

set_option maxRecDepth 100000 in
set_option maxHeartbeats 1000000 in
theorem rtext_any (s : Tx) (w : World) (hs : s.size ≤ 255) : Calls Try.prog 65 #[.string s] w fun e w' => FreshB w.heap.size (txt s) e w' ∧ Below w.heap.size w w' := by
  obtain ⟨i0, hi, hz0, hz1, hz2⟩ := info_parts (show (Try.prog.info? 5).map (fun i => (i.zero, i.size, i.bytes)) = some (some (.int .u8 0), 1, 1) by kernel_rfl)
  go_enter Try.func65, Try.ntmps65
  refine wp_seq_k (fun K hK => ?_)
  have HK := Lib.hid hK
  clear hK
  go_wp2
  refine HK.out _ _ ?_
  clear HK
  refine wp_seq_k (fun K hK => ?_)
  have HK := Lib.hid hK
  clear hK
  have hown : (w.alloc (Obj.cells #[.int .u8 (s.size : Int)] 5)).ownsRow w.heap.size 5 1 (.slice (some ⟨w.heap.size, 0, none⟩) 1 1) 1 [.int .u8 (s.size : Int)] :=
    owns_of_cur (cur := [.int .u8 (s.size : Int)]) (heap_alloc_new w _) (Nat.le_refl _) (Nat.le_refl _) (by simp [maxLen]) (by simp) (by simp)
  have hb0 := blw w (Obj.cells #[.int .u8 (s.size : Int)] 5)
  go_wp2_with (at_builtin; refine Lib.wpList_append_own_string _ rfl _ _ 26 9 rfl w.heap.size 5 i0 Try.underlying26 Try.underlying9 hi hz0 hz1 hz2 _ _ _ rfl hown s rfl (by unfold maxLen; omega) (by omega) (by simp) ?_; intro v1 w1 hown1 hgr1 _)
  refine HK.out _ _ ?_
  clear HK
  go_wp2
  go_ret
  have hbw : Below w.heap.size w w1 := hb0.grown hgr1 hb0.size (fun k e => (hown.lt k e).1)
  refine ⟨⟨_, rfl, ?_⟩, hbw⟩
  have e : txt s = UInt8.ofNat (s.size % 256) :: s.toList := rfl
  rw [e, List.length_cons, tx_len, Nat.add_comm]
  have e2 : bys (UInt8.ofNat (s.size % 256) :: s.toList) = [.int .u8 (s.size : Int)] ++ Lib.strCells s := by
    rw [strCells_bys]
    have := byv_low s.size
    simp only [bys, List.map_cons, List.singleton_append, this]
    congr 2
    omega
  rw [e2]
  exact hown1
end Go.Proofs.Ytmnjmjbmnhppfaa

namespace Go.Proofs.Ytmnjmjbmnhppfaa
open Go.RowKit

def RPrintRes (base : Nat) (m : Im) (e : Ending) (w' : World) : Prop :=
  if mayI m = true then ∃ v, e = .returned (.tuple #[v, .int .i64 0]) ∧ w'.ownsRow base 5 1 v (imB m).length (bys (imB m)) else e = .returned (.tuple #[.slice none 0 0, .int .i64 2])

theorem rnum6I (x : Int) (w : World) (h0 : 0 ≤ x) (h1 : x ≤ 1099511627776) : Calls Try.prog 64 #[.int .i64 x, .int .i64 6] w fun e w' => FreshB w.heap.size (le 6 x.toNat) e w' ∧ Below w.heap.size w w' := by
  obtain ⟨n, rfl⟩ : ∃ n : Nat, x = n := ⟨x.toNat, by omega⟩
  exact rnumber_any 6 n w (by decide) (by omega)
theorem rnum2I (x : Int) (w : World) (h0 : 0 ≤ x) (h1 : x ≤ 1099511627776) : Calls Try.prog 64 #[.int .i64 x, .int .i64 2] w fun e w' => FreshB w.heap.size (le 2 x.toNat) e w' ∧ Below w.heap.size w w' := by
  obtain ⟨n, rfl⟩ : ∃ n : Nat, x = n := ⟨x.toNat, by omega⟩
  exact rnumber_any 2 n w (by decide) (by omega)
theorem bys_low {n : Nat} (h : n ≤ 255) : bys (le 1 n) = [.int .u8 (n : Int)] := by
  have : le 1 n = [UInt8.ofNat (n % 256)] := rfl
  rw [this]
  simp only [bys, List.map_cons, List.map_nil, byv_low]
  congr 2
  omega
theorem bys_head (m : Im) (h : m.st.length ≤ 255) : bys (le 6 m.idx.toNat) ++ [.int .u8 (m.st.length : Int)] = bys (headB m) := by rw [headB, bys_app, bys_low h]

theorem bys_false : bys (le 1 (flagN false)) = [.int .u8 0] := by simp [bys, le, flagN, byv]
theorem bys_true : bys (le 1 (flagN true)) = [.int .u8 1] := by simp [bys, le, flagN, byv]
theorem imA_rowq (i : Int) (s : Value) {t : Tb} {c : Nat} {r : Rw} (h : c < 4) (hr : t.at c = r) : 2 + c * 4 + 4 ≤ (imA i s t).size ∧ (imA i s t).extract (2 + c * 4) (2 + c * 4 + 4) = rowA r := by
  subst hr
  exact imA_row i s t h

set_option maxRecDepth 100000 in
set_option maxHeartbeats 1500000 in
theorem rprint_any (m : Im) (a : Option Addr) (cap : Nat) (w : World) (hs : SlP w a cap m.st) (hl : m.st.length ≤ 1000) (hsm : ∀ p ∈ m.st, p.1.size ≤ 100000) :
    Calls Try.prog 25 #[.agg (imA m.idx (.slice a m.st.length cap) m.tb)] w fun e w' => RPrintRes w.heap.size m e w' ∧ Below w.heap.size w w' := by
  obtain ⟨N, hN⟩ : ∃ N, w.heap.size = N := ⟨_, rfl⟩
  have HN := Lib.hid hN
  clear hN
  have hb0 := blw w (Obj.cells (imA m.idx (.slice a m.st.length cap) m.tb) 49)
  have B1 := heap_alloc_new w (Obj.cells (imA m.idx (.slice a m.st.length cap) m.tb) 49)
  have hs0 := hs.below hb0
  have hsz0 : w.heap.size + 1 ≤ (w.alloc (Obj.cells (imA m.idx (.slice a m.st.length cap) m.tb) 49)).heap.size := by simp
  unfold RPrintRes
  obtain ⟨r, hr⟩ : ∃ r, mayI m = r := ⟨_, rfl⟩
  have HR := Lib.hid hr
  rw [hr]
  clear hr
  have HSMM := Lib.hid hsm
  clear hsm
  go_enter Try.func25, Try.ntmps25
  refine wp_seq_k (fun K hK => ?_)
  have HK := Lib.hid hK
  clear hK
  go_wp2
  refine HK.out _ _ ?_
  clear HK
  change Code.wp _ _ _ _ (w.alloc (Obj.cells (imA m.idx (.slice a m.st.length cap) m.tb) 49))
  generalize w.alloc (Obj.cells (imA m.idx (.slice a m.st.length cap) m.tb) 49) = w0 at *
  cases r
  case false =>
    simp only [Bool.false_eq_true, reduceIte]
    go_wp2_with (first
      | ((with_reducible refine wpList_ldB 49 _ ?_); refine ⟨rfl, _, ⟨_, _, _, _, _, Try.isAgg49, Try.sizeOf49, rfl, ‹_›, imA_all _ _ _⟩, ?_⟩)
      | (go_at_call 50; refine (rimay_any _ _ _ _ _ _ hs0.row hl HSMM.out _ HR.out).mono ?_; rintro en w1 ⟨rfl, hb1⟩))
    go_ret2
    exact ⟨rfl, hb0.trans (hb1.mono (by omega))⟩
  case true =>
    simp only [reduceIte]
    obtain ⟨hi0, hi1, hms, hmt⟩ := mayI_parts HR.out
    have h8 := (may_spec hms).1
    have HPO := Lib.hid (pairs_ok hms)
    have HRO := Lib.hid (rows_ok hmt)
    clear hms hmt
    refine wp_seq_k (fun K hK => ?_)
    have HK := Lib.hid hK
    clear hK
    go_wp2_with (first
          | ((with_reducible refine wpList_ldB 49 _ ?_); refine ⟨rfl, _, ⟨_, _, _, _, _, Try.isAgg49, Try.sizeOf49, rfl, ‹_›, imA_all _ _ _⟩, ?_⟩)
          | (go_at_call 50; refine (rimay_any _ _ _ _ _ _ hs0.row hl HSMM.out _ HR.out).mono ?_; rintro en w1 ⟨rfl, hb1⟩))
    refine HK.out _ _ ?_
    clear HK
    have C1 := tr_bl hb1 B1
    have hbw := hb0.trans (hb1.mono (by omega))
    have hz1 : N + 1 ≤ w1.heap.size := by have := hb1.size; have := HN.out; omega
    rw [HN.out] at C1 hbw
    have HC : Hid (∀ w', Below (N + 1) w1 w' → w'.heap[N]? = some (.cells (imA m.idx (.slice a m.st.length cap) m.tb) 49 (0, 0))) := Lib.hid (fun w' h => tr_be h C1 (by omega))
    have HW : Hid (∀ w', Below (N + 1) w1 w' → Below N w w') := Lib.hid (fun w' h => hbw.trans (h.mono (by omega)))
    clear B1 hs0 hb0 hb1 C1 hbw hsz0
    rw [HN.out]
    refine wp_seq_k (fun K hK => ?_)
    go_cut [4] from 11 to 19 (fun v wx => wx.ownsRow (N + 1) 5 1 v 7 (bys (headB m)) ∧ Below (N + 1) w1 wx)
    case first =>
      go_wp2_with fail
      obtain ⟨B, hB⟩ : ∃ B, w1.heap.size = B := ⟨_, rfl⟩
      have HB1 : ∀ w', Below B w1 w' → w'.heap[N]? = some (.cells (imA m.idx (.slice a m.st.length cap) m.tb) 49 (0, 0)) := fun w' h => HC.out w' (h.mono (by omega))
      have hb := (Below.refl w1.heap.size w1).drew
      have hz : w1.heap.size ≤ w1.drew.heap.size := Nat.le_refl _
      rw [hB] at hb hz hz1
      have HBB := Lib.hid hB
      clear hB
      refine wp_region_held_drew (S := fun w' => Below B w1 w') (by kernel_rfl) hb (fun hS0 => ?_)
      generalize w1.drew = x0 at *
      refine wpAnyH_take (i := 0) (oi := ⟨_, _, _, _, _, _⟩) (v := ?_) rfl (by kernel_rfl) (by kernel_rfl) (by kernel_rfl) (fun _ _ _ h => h) (Or.inl ⟨by rfl, ?_⟩) (by assumption) ?_
      rotate_left
      · intro wS hSw
        go_simp; (try with_reducible rfl)
      (try simp only [Act.put])
      (try simp only [List.setIfInBounds_toArray])
      (try simp only [List.set_cons_succ])
      (try simp only [List.set_cons_zero])
      refine wpAnyH_take (i := 1) (oi := ⟨_, _, _, _, _, _⟩) (v := ?_) rfl (by kernel_rfl) (by kernel_rfl) (by kernel_rfl) (fun _ _ _ h => h) (Or.inl ⟨by rfl, ?_⟩) (by assumption) ?_
      rotate_left
      · intro wS hSw
        have c := imA_c0 (HB1 _ hSw); go_simp; (try with_reducible rfl)
      (try simp only [Act.put])
      (try simp only [List.setIfInBounds_toArray])
      (try simp only [List.set_cons_succ])
      (try simp only [List.set_cons_zero])
      refine wpAnyH_take (i := 3) (oi := ⟨_, _, _, _, _, _⟩) (v := ?_) rfl (by kernel_rfl) (by kernel_rfl) (by kernel_rfl) (fun _ _ _ h => h) (Or.inl ⟨by rfl, ?_⟩) (by assumption) ?_
      rotate_left
      · intro wS hSw
        go_simp; (try with_reducible rfl)
      (try simp only [Act.put])
      (try simp only [List.setIfInBounds_toArray])
      (try simp only [List.set_cons_succ])
      (try simp only [List.set_cons_zero])
      refine wpAnyH_take (i := 4) (oi := ⟨_, _, _, _, _, _⟩) (v := ?_) rfl (by kernel_rfl) (by kernel_rfl) (by kernel_rfl) (fun _ _ _ h => h) (Or.inl ⟨by rfl, ?_⟩) (by assumption) ?_
      rotate_left
      · intro wS hSw
        have c := imA_c1 (HB1 _ hSw); go_simp; (try with_reducible rfl)
      (try simp only [Act.put])
      (try simp only [List.setIfInBounds_toArray])
      (try simp only [List.set_cons_succ])
      (try simp only [List.set_cons_zero])
      refine wpAnyH_take (i := 5) (oi := ⟨_, _, _, _, _, _⟩) (v := ?_) rfl (by kernel_rfl) (by kernel_rfl) (by kernel_rfl) (fun _ _ _ h => h) (Or.inl ⟨by rfl, ?_⟩) (by assumption) ?_
      rotate_left
      · intro wS hSw
        go_simp; (try with_reducible rfl)
      (try simp only [Act.put])
      (try simp only [List.setIfInBounds_toArray])
      (try simp only [List.set_cons_succ])
      (try simp only [List.set_cons_zero])
      refine wpAnyH_take (i := 6) (oi := ⟨_, _, _, _, _, _⟩) (v := .int .u8 (m.st.length : Int)) rfl (by kernel_rfl) (by kernel_rfl) (by kernel_rfl) (fun _ _ _ h => h) (Or.inl ⟨by rfl, fun wS hSw => ?_⟩) (by assumption) ?_
      · have e := IntWalk.u8_in (m.st.length : Int) (by omega); go_simp; (first | done | rw [e] | simp only [e])
      (try simp only [Act.put])
      (try simp only [List.setIfInBounds_toArray])
      (try simp only [List.set_cons_succ])
      (try simp only [List.set_cons_zero])
      refine wpAnyH_ready (rs := [2, 7]) (by kernel_rfl) (by simp) ?_
      refine AllReadyH.cons (o := ⟨_, _, _, _, _, _⟩) rfl (fun K' hK' => ?_) (AllReadyH.cons (o := ⟨_, _, _, _, _, _⟩) rfl (fun K' hK' => ?_) (AllReadyH.nil))
      · refine (if_pos (by rfl)).mpr ?_
        go_simp
        refine (rnum6I m.idx _ hi0 hi1).mono ?_
        rintro en x1 ⟨⟨v, rfl, hv⟩, hbk⟩
        have hv := owns_mono hv hz
        have hb := hb.trans (hbk.mono hz)
        have hz := Nat.le_trans hz hbk.size
        refine hK'.out _ _ hb (fun _ => ?_)
        refine wpAnyH_ready (rs := [7]) (by kernel_rfl) (by simp) ?_
        refine AllReadyH.cons (o := ⟨_, _, _, _, _, _⟩) rfl (fun K' hK' => ?_) (AllReadyH.nil)
        refine (if_pos (by rfl)).mpr ?_
        go_simp
        change K' _ (World.alloc _ (Obj.cells #[.int .u8 (m.st.length : Int)] 5))
        have D := heap_alloc_new x1 (Obj.cells #[.int .u8 (m.st.length : Int)] 5)
        have hv := owns_bl hv (blw _ (Obj.cells #[.int .u8 (m.st.length : Int)] 5))
        have hb := hb.trans ((blw _ (Obj.cells #[.int .u8 (m.st.length : Int)] 5)).mono hz)
        have hz := Nat.le_trans hz (blw x1 (Obj.cells #[.int .u8 (m.st.length : Int)] 5)).size
        refine hK'.out _ _ hb (fun _ => ?_)
        generalize x1.alloc (Obj.cells #[.int .u8 (m.st.length : Int)] 5) = x2 at *
        obtain ⟨p, hp⟩ : ∃ g, x1.heap.size = g := ⟨_, rfl⟩
        simp only [hp] at D ⊢
        clear hp
        refine wpAnyH_ready (rs := [8]) (by kernel_rfl) (by simp) ?_
        refine AllReadyH.cons (o := ⟨_, _, _, _, _, _⟩) rfl (fun K' hK' => ?_) (AllReadyH.nil)
        refine (if_pos (by rfl)).mpr ?_
        refine wp_appN _ _ 26 26 5 5 elByte Try.underlying26 rfl B _ _ _ rfl hv ⟨p, 0, none⟩ 1 1 [.int .u8 (m.st.length : Int)] rfl rfl (fun j u hu => ?_) (by simp [Value.oneCell']) (by rw [le_len]; omega) (by decide) hz ?_
        · rw [addr_add]
          exact blk_cell D _ u (by rw [Nat.zero_add]; simpa using hu)
        intro v8 x8 hv8 hg8
        have hb8 := hb.grown hg8 hz (fun k e => (hv.lt k e).1)
        refine hK'.out _ _ hb8 (fun _ => ?_)
        refine wpAnyH_take (i := 9) (oi := ⟨_, _, _, _, _, _⟩) (v := ?_) rfl (by kernel_rfl) (by kernel_rfl) (by kernel_rfl) (fun _ _ _ h => h) (Or.inl ⟨by rfl, ?_⟩) (by assumption) ?_
        rotate_left
        · intro wS hSw
          go_simp; (try with_reducible rfl)
        (try simp only [Act.put])
        (try simp only [List.setIfInBounds_toArray])
        (try simp only [List.set_cons_succ])
        (try simp only [List.set_cons_zero])
        refine wpAnyH_done (by kernel_rfl) ?_ _
        go_wp2
        go_meet
        rw [bys_head m (by omega)] at hv8
        exact ⟨owns_mono hv8 hz1, hb8.mono hz1⟩
      · refine (if_pos (by rfl)).mpr ?_
        go_simp
        change K' _ (World.alloc _ (Obj.cells #[.int .u8 (m.st.length : Int)] 5))
        have D := heap_alloc_new x0 (Obj.cells #[.int .u8 (m.st.length : Int)] 5)
        have hb := hb.trans ((blw _ (Obj.cells #[.int .u8 (m.st.length : Int)] 5)).mono hz)
        have hz := Nat.le_trans hz (blw x0 (Obj.cells #[.int .u8 (m.st.length : Int)] 5)).size
        refine hK'.out _ _ hb (fun _ => ?_)
        generalize x0.alloc (Obj.cells #[.int .u8 (m.st.length : Int)] 5) = x1 at *
        obtain ⟨p, hp⟩ : ∃ g, x0.heap.size = g := ⟨_, rfl⟩
        simp only [hp] at D ⊢
        clear hp
        refine wpAnyH_ready (rs := [2]) (by kernel_rfl) (by simp) ?_
        refine AllReadyH.cons (o := ⟨_, _, _, _, _, _⟩) rfl (fun K' hK' => ?_) (AllReadyH.nil)
        refine (if_pos (by rfl)).mpr ?_
        go_simp
        refine (rnum6I m.idx _ hi0 hi1).mono ?_
        rintro en x2 ⟨⟨v, rfl, hv⟩, hbk⟩
        have hv := owns_mono hv hz
        have D := tr_bl hbk D
        have hb := hb.trans (hbk.mono hz)
        have hz := Nat.le_trans hz hbk.size
        refine hK'.out _ _ hb (fun _ => ?_)
        refine wpAnyH_ready (rs := [8]) (by kernel_rfl) (by simp) ?_
        refine AllReadyH.cons (o := ⟨_, _, _, _, _, _⟩) rfl (fun K' hK' => ?_) (AllReadyH.nil)
        refine (if_pos (by rfl)).mpr ?_
        refine wp_appN _ _ 26 26 5 5 elByte Try.underlying26 rfl B _ _ _ rfl hv ⟨p, 0, none⟩ 1 1 [.int .u8 (m.st.length : Int)] rfl rfl (fun j u hu => ?_) (by simp [Value.oneCell']) (by rw [le_len]; omega) (by decide) hz ?_
        · rw [addr_add]
          exact blk_cell D _ u (by rw [Nat.zero_add]; simpa using hu)
        intro v8 x8 hv8 hg8
        have hb8 := hb.grown hg8 hz (fun k e => (hv.lt k e).1)
        refine hK'.out _ _ hb8 (fun _ => ?_)
        refine wpAnyH_take (i := 9) (oi := ⟨_, _, _, _, _, _⟩) (v := ?_) rfl (by kernel_rfl) (by kernel_rfl) (by kernel_rfl) (fun _ _ _ h => h) (Or.inl ⟨by rfl, ?_⟩) (by assumption) ?_
        rotate_left
        · intro wS hSw
          go_simp; (try with_reducible rfl)
        (try simp only [Act.put])
        (try simp only [List.setIfInBounds_toArray])
        (try simp only [List.set_cons_succ])
        (try simp only [List.set_cons_zero])
        refine wpAnyH_done (by kernel_rfl) ?_ _
        go_wp2
        go_meet
        rw [bys_head m (by omega)] at hv8
        exact ⟨owns_mono hv8 hz1, hb8.mono hz1⟩
    obtain ⟨hown0, hbc⟩ := hcut
    refine hK _ _ ?_; clear hK
    have c1 := imA_c1 (HC.out _ hbc)
    refine wp_seq_k (fun K hK => ?_)
    go_cut [4] (fun v wx => wx.ownsRow (N + 1) 5 1 v (headB m ++ pairsB m.st).length (bys (headB m ++ pairsB m.st)) ∧ Below (N + 1) w1 wx)
    case first =>
      go_wp2_with fail
      go_loopw [5, 4] (fun i v wr => ∃ q : Nat, q ≤ m.st.length ∧ i = .int .i64 q ∧ wr.ownsRow (N + 1) 5 1 v (headB m ++ pairsB (m.st.take q)).length (bys (headB m ++ pairsB (m.st.take q))) ∧ Below (N + 1) w1 wr) (fun i _ _ => m.st.length - (intOf i).toNat)
      case atStart => exact ⟨0, by omega, rfl, by simpa [pairsB, headB_len] using hown0, hbc⟩
      case round =>
        obtain ⟨q, hq, rfl, hown, hbr⟩ := hrel
        have hzr : N + 1 ≤ wr.heap.size := Nat.le_trans hz1 hbr.size
        have c1 := imA_c1 (HC.out _ hbr)
        by_cases hlt : q < m.st.length
        · have hat : m.st[q]? = some m.st[q] := List.getElem?_eq_getElem hlt
          obtain ⟨bb, off, rfl, hblt, hcs⟩ := hs.row.pair hat
          obtain ⟨d0, d1⟩ := hcs _ _ hat
          rw [HN.out] at hblt
          have HD1 : Hid (∀ w', Below (N + 1) w1 w' → w'.cell? ⟨bb, off + q * 2 + 1, none⟩ = some (.string m.st[q].2)) := Lib.hid (fun w' h => ((HW.out w' h).cell hblt).trans d1)
          replace d0 := ((HW.out _ hbr).cell hblt).trans d0
          have hpq := HPO.out _ (List.getElem_mem hlt)
          have hsn : pairsB (m.st.take (q + 1)) = pairsB (m.st.take q) ++ txt m.st[q].1 ++ txt m.st[q].2 := by
            rw [List.take_add_one, hat]
            exact pairsB_snoc _ _
          have hlen : (pairsB (m.st.take q)).length ≤ 4096 := by
            have := pairsB_le (l := m.st.take q) (fun p hp => HPO.out p (List.mem_of_mem_take hp))
            rw [List.length_take] at this
            omega
          have HSN := Lib.hid hsn
          clear hsn hcs hat d1
          generalize m.st[q] = pr at *
          obtain ⟨pk, pv⟩ := pr
          simp only at hpq d0
          have hlen2 : (headB m ++ pairsB (m.st.take q)).length ≤ 5000 := by rw [List.length_append, headB_len]; omega
          have htk : (txt pk).length ≤ 256 := by rw [txt_len]; omega
          have htv : (txt pv).length ≤ 256 := by rw [txt_len]; omega
          obtain ⟨L, hL⟩ : ∃ L, headB m ++ pairsB (m.st.take q) = L := ⟨_, rfl⟩
          rw [hL] at hown hlen2
          have HL := Lib.hid hL
          clear hL
          go_wp2_with (first
            | (go_at_call 65; (with_reducible refine (rtext_any pk _ (by omega)).mono ?_); rintro en w5 ⟨⟨t5, rfl, ht5⟩, hb5⟩; obtain ⟨ta5, tc5, rfl, htr5, _⟩ := Row.of_owns ht5; have hown5 := owns_bl hown hb5; have hbr5 := hbr.trans (hb5.mono hzr); have hz5 := Nat.le_trans hzr hb5.size)
            | (at_builtin; refine wpList_append_row rfl _ _ 26 5 elByte rfl (N + 1) _ _ _ rfl hown5 ta5 _ tc5 (bys (txt pk)) rfl (by simp [bys_len]) htr5 bys_one (by omega) (by decide) hz5 ?_; intro v6 w6 hown6 hb6; have hbr6 := hbr5.trans hb6; have c1 := imA_c1 (HC.out _ hbr6); have d1 := HD1.out _ hbr6; have hz6 := Nat.le_trans hz5 hb6.size)
            | (go_at_call 65; (with_reducible refine (rtext_any pv _ (by omega)).mono ?_); rintro en w7 ⟨⟨t7, rfl, ht7⟩, hb7⟩; obtain ⟨ta7, tc7, rfl, htr7, _⟩ := Row.of_owns ht7; have hown7 := owns_bl hown6 hb7; have hbr7 := hbr6.trans (hb7.mono hz6); have hz7 := Nat.le_trans hz6 hb7.size)
            | (at_builtin; refine wpList_append_row rfl _ _ 26 5 elByte rfl (N + 1) _ _ _ rfl hown7 ta7 _ tc7 (bys (txt pv)) rfl (by simp [bys_len]) htr7 bys_one (by omega) (by decide) hz7 ?_; intro v8 w8 hown8 hb8; have hbr8 := hbr7.trans hb8))
          go_roundw
          case rel =>
            refine ⟨q + 1, by omega, by go_num, ?_, hbr8⟩
            rw [HSN.out, ← List.append_assoc, ← List.append_assoc, HL.out, List.length_append, List.length_append, bys_app, bys_app]
            exact hown8
          case measure => simp [intOf]; omega
        · go_wp2
          go_meet
          obtain rfl : q = m.st.length := by omega
          rw [List.take_length] at hown
          exact ⟨hown, hbr⟩
    obtain ⟨hown1, hbd⟩ := hcut
    refine hK _ _ ?_; clear hK
    have hplen : (pairsB m.st).length ≤ 4096 := by have := pairsB_le HPO.out; omega
    refine wp_seq_k (fun K hK => ?_)
    go_cut [4] (fun v wx => wx.ownsRow (N + 1) 5 1 v (imB m).length (bys (imB m)) ∧ Below (N + 1) w1 wx)
    case first =>
      go_wp2_with fail
      go_loopw [6, 4] (fun i v wr => ∃ q : Nat, q ≤ 4 ∧ i = .int .i64 q ∧ wr.ownsRow (N + 1) 5 1 v (headB m ++ pairsB m.st ++ rowsB (m.tb.list.take q)).length (bys (headB m ++ pairsB m.st ++ rowsB (m.tb.list.take q))) ∧ Below (N + 1) w1 wr) (fun i _ _ => 4 - (intOf i).toNat)
      case atStart => exact ⟨0, by omega, rfl, by simpa [rowsB] using hown1, hbd⟩
      case round =>
        obtain ⟨q, hq, rfl, hown, hbr⟩ := hrel
        have hzr : N + 1 ≤ wr.heap.size := Nat.le_trans hz1 hbr.size
        have B1 := HC.out _ hbr
        by_cases hlt : q < 4
        · obtain ⟨h1, h2, h3, h4, h5⟩ := HRO.out _ (List.mem_of_getElem? (row_at (t := m.tb) hlt))
          have hsn := congrArg rowsB (List.take_add_one (l := m.tb.list) (i := q))
          rw [row_at hlt] at hsn
          replace hsn := hsn.trans (rowsB_snoc _ _)
          have hlen : (rowsB (m.tb.list.take q)).length ≤ 104 := by
            have := rowsB_le (l := m.tb.list.take q) (fun r hr => (HRO.out r (List.mem_of_mem_take hr)).2.2.2.2)
            rw [List.length_take] at this
            omega
          have HSN := Lib.hid hsn
          clear hsn
          have hlen2 : (headB m ++ pairsB m.st ++ rowsB (m.tb.list.take q)).length ≤ 5000 := by simp only [List.length_append, headB_len]; omega
          obtain ⟨L, hL⟩ : ∃ L, headB m ++ pairsB m.st ++ rowsB (m.tb.list.take q) = L := ⟨_, rfl⟩
          rw [hL] at hown hlen2
          have HL := Lib.hid hL
          clear hL
          obtain ⟨r, hrq⟩ : ∃ r, m.tb.at q = r := ⟨_, rfl⟩
          have HRQ := Lib.hid hrq
          have hsn2 := HSN.out
          rw [hrq] at hsn2
          simp only [hrq] at h1 h2 h3 h4 h5
          have HSN := Lib.hid hsn2
          clear hrq hsn2
          have hownA := owns_bl hown (blw wr (Obj.cells (rowA r) 45))
          have bx := heap_alloc_new wr (Obj.cells (rowA r) 45)
          have hbA := hbr.trans ((blw wr (Obj.cells (rowA r) 45)).mono hzr)
          have hzA : N + 1 ≤ (wr.alloc (Obj.cells (rowA r) 45)).heap.size := Nat.le_trans hzr (blw wr (Obj.cells (rowA r) 45)).size
          obtain ⟨sq, er, fo, va⟩ := r
          simp only at h1 h2 h3 h4 h5
          have e0 : (wr.alloc (Obj.cells (rowA ⟨sq, ⟨er, fo, va⟩⟩) 45)).cell? ⟨wr.heap.size, 0, none⟩ = some (.int .i64 sq) := blk_cell bx 0 _ rfl
          have htv : (txt va).length ≤ 256 := by rw [txt_len]; omega
          have hl6 : (le 6 sq.toNat).length ≤ 6 := Nat.le_of_eq (le_len _ _)
          have hl2 : (le 2 er.toNat).length ≤ 2 := Nat.le_of_eq (le_len _ _)
          cases fo
          all_goals
            go_wp2_with (first
              | ((with_reducible refine wpList_ldB 45 _ ?_); refine ⟨rfl, _, ⟨_, _, _, _, _, Try.isAgg45, Try.sizeOf45, rfl, ‹_›, imA_rowq _ _ hlt HRQ.out⟩, ?_⟩)
              | ((first | (with_reducible refine wpList_stNew 45 _ _ ?_) | (with_reducible refine wp_stNew 45 _ _ ?_)); refine ⟨_, _, ⟨Try.sizeOf45, rfl, rowA_nw _⟩, rfl, ?_⟩)
              | (go_at_call 64; (with_reducible refine (rnum6I sq _ h1 h2).mono ?_); rintro en w5 ⟨⟨t5, rfl, ht5⟩, hb5⟩; obtain ⟨ta5, tc5, rfl, htr5, _⟩ := Row.of_owns ht5; have hown5 := owns_bl hownA hb5; have hbr5 := hbA.trans (hb5.mono hzA); have hz5 := Nat.le_trans hzA hb5.size; have bx5 := tr_bl hb5 bx; clear ht5 hb5 e0)
              | (at_builtin; refine wpList_app_gb rfl _ _ 26 5 elByte rfl (N + 1) _ _ _ rfl hown5 ta5 _ tc5 (bys (le 6 sq.toNat)) rfl (by simp [bys_len]) (by simp [bys_len, le_len]) htr5 bys_one (by omega) (by decide) hz5 ?_; intro v6 w6 hown6 hg6; have bx6 := tr_gb hg6 bx5 (own_ne hown5 bx5 (by decide)); have hbr6 := hbr5.grown hg6 hz5 (fun k e => (hown5.lt k e).1); have hz6 := Nat.le_trans hz5 hg6.size; have e1 : w6.cell? ⟨wr.heap.size, 1, none⟩ = some (.int .i64 er) := blk_cell bx6 1 _ rfl; clear hg6)
              | (go_at_call 64; (with_reducible refine (rnum2I er _ h3 (by omega)).mono ?_); rintro en w7 ⟨⟨t7, rfl, ht7⟩, hb7⟩; obtain ⟨ta7, tc7, rfl, htr7, _⟩ := Row.of_owns ht7; have hown7 := owns_bl hown6 hb7; have hbr7 := hbr6.trans (hb7.mono hz6); have hz7 := Nat.le_trans hz6 hb7.size; have bx7 := tr_bl hb7 bx6; clear ht7 hb7 e1)
              | (at_builtin; refine wpList_app_gb rfl _ _ 26 5 elByte rfl (N + 1) _ _ _ rfl hown7 ta7 _ tc7 (bys (le 2 er.toNat)) rfl (by simp [bys_len]) (by simp [bys_len, le_len]) htr7 bys_one (by omega) (by decide) hz7 ?_; intro v8 w8 hown8 hg8; have bx8 := tr_gb hg8 bx7 (own_ne hown7 bx7 (by decide)); have hbr8 := hbr7.grown hg8 hz7 (fun k e => (hown7.lt k e).1); have hz8 := Nat.le_trans hz7 hg8.size; have e2 : w8.cell? ⟨wr.heap.size, 2, none⟩ = some (.bool _) := blk_cell bx8 2 _ rfl; clear hg8)
              | (at_builtin; refine wpList_appendN' rfl _ _ 26 26 5 5 elByte Try.underlying26 rfl (N + 1) _ _ _ rfl (owns_bl hown8 (blw w8 (Obj.cells #[.int .u8 0] 5))) ⟨w8.heap.size, 0, none⟩ 1 1 (bys (le 1 (flagN false))) rfl rfl (fun j u hu => ?_) bys_one (by omega) (by decide) (by simp; omega) ?_; (rw [addr_add]; exact blk_cell (heap_alloc_new w8 _) _ u (by rw [Nat.zero_add, ← Array.getElem?_toList]; rw [bys_false] at hu; exact hu)); intro v9 w9 hown9 hg9; have bx9 := tr_gb hg9 (tr_al (Obj.cells #[.int .u8 0] 5) bx8) (own_ne (owns_bl hown8 (blw w8 (Obj.cells #[.int .u8 0] 5))) (tr_al (Obj.cells #[.int .u8 0] 5) bx8) (by decide)); have hz8A := Nat.le_trans hz8 (blw w8 (Obj.cells #[.int .u8 0] 5)).size; have hbr9 := (hbr8.trans ((blw w8 (Obj.cells #[.int .u8 0] 5)).mono hz8)).grown hg9 hz8A (fun k e => (hown8.lt k e).1); have hz9 := Nat.le_trans hz8A hg9.size; have e3 : w9.cell? ⟨wr.heap.size, 3, none⟩ = some (.string va) := blk_cell bx9 3 _ rfl)
              | (at_builtin; refine wpList_appendN' rfl _ _ 26 26 5 5 elByte Try.underlying26 rfl (N + 1) _ _ _ rfl (owns_bl hown8 (blw w8 (Obj.cells #[.int .u8 1] 5))) ⟨w8.heap.size, 0, none⟩ 1 1 (bys (le 1 (flagN true))) rfl rfl (fun j u hu => ?_) bys_one (by omega) (by decide) (by simp; omega) ?_; (rw [addr_add]; exact blk_cell (heap_alloc_new w8 _) _ u (by rw [Nat.zero_add, ← Array.getElem?_toList]; rw [bys_true] at hu; exact hu)); intro v9 w9 hown9 hg9; have bx9 := tr_gb hg9 (tr_al (Obj.cells #[.int .u8 1] 5) bx8) (own_ne (owns_bl hown8 (blw w8 (Obj.cells #[.int .u8 1] 5))) (tr_al (Obj.cells #[.int .u8 1] 5) bx8) (by decide)); have hz8A := Nat.le_trans hz8 (blw w8 (Obj.cells #[.int .u8 1] 5)).size; have hbr9 := (hbr8.trans ((blw w8 (Obj.cells #[.int .u8 1] 5)).mono hz8)).grown hg9 hz8A (fun k e => (hown8.lt k e).1); have hz9 := Nat.le_trans hz8A hg9.size; have e3 : w9.cell? ⟨wr.heap.size, 3, none⟩ = some (.string va) := blk_cell bx9 3 _ rfl)
              | (go_at_call 65; (with_reducible refine (rtext_any va _ (by omega)).mono ?_); rintro en w10 ⟨⟨t10, rfl, ht10⟩, hb10⟩; obtain ⟨ta10, tc10, rfl, htr10, _⟩ := Row.of_owns ht10; have hown10 := owns_bl hown9 hb10; have hbr10 := hbr9.trans (hb10.mono hz9); have hz10 := Nat.le_trans hz9 hb10.size)
              | (at_builtin; refine wpList_append_row rfl _ _ 26 5 elByte rfl (N + 1) _ _ _ rfl hown10 ta10 _ tc10 (bys (txt va)) rfl (by simp [bys_len]) htr10 bys_one (by omega) (by decide) hz10 ?_; intro v11 w11 hown11 hb11))
            go_roundw
            case rel =>
              refine ⟨q + 1, by omega, by go_num, ?_, hbr10.trans hb11⟩
              rw [HSN.out]
              simp only [← List.append_assoc]
              rw [HL.out]
              simp only [List.length_append, bys_app]
              exact hown11
            case measure => simp [intOf]; omega
        · go_wp2
          go_meet
          obtain rfl : q = 4 := by omega
          have hIB : headB m ++ pairsB m.st ++ rowsB (m.tb.list.take 4) = imB m := by rw [List.take_of_length_le (show m.tb.list.length ≤ 4 from Nat.le_refl _)]; simp [imB, headB]
          rw [hIB] at hown
          exact ⟨hown, hbr⟩
    obtain ⟨hown2, hbe⟩ := hcut
    refine hK _ _ ?_; clear hK
    go_wp2
    go_ret2
    exact ⟨⟨_, rfl, owns_mono hown2 (by omega)⟩, HW.out _ hbe⟩
end Go.Proofs.Ytmnjmjbmnhppfaa

namespace Go.Proofs.Ytmnjmjbmnhppfaa
open Go.RowKit

def rgA (a : Option Addr) (n cap p : Nat) (bad : Bool) : Array Value := #[.slice a n cap, .int .i64 p, .bool bad]
structure RgB (g : Nat) (a : Option Addr) (cap : Nat) (l : List UInt8) (p : Nat) (bad : Bool) (w : World) : Prop where
  blk : w.heap[g]? = some (.cells (rgA a l.length cap p bad) 127 (0, 0))
  sl : SlB w a cap l
  le : p ≤ l.length
  len : l.length ≤ 1000000
theorem rg_at (a : Option Addr) (n cap p : Nat) (bad : Bool) (q : Nat) : 1 + 1 ≤ (rgA a n cap p bad).size ∧ (Value.int .i64 (q : Int)).cells.size = 1 ∧ (∀ u ∈ (Value.int .i64 (q : Int)).cells.toList, u.oneCell' = true) ∧ ((rgA a n cap p bad).toList.take 1 ++ (Value.int .i64 (q : Int)).cells.toList ++ (rgA a n cap p bad).toList.drop (1 + 1)).toArray = rgA a n cap q bad :=
  ⟨by show _ ≤ 3; omega, rfl, by simp [Value.cells, Value.oneCell'], rfl⟩
theorem rg_bad (a : Option Addr) (n cap p : Nat) (bad : Bool) : 2 + 1 ≤ (rgA a n cap p bad).size ∧ (Value.bool true).cells.size = 1 ∧ (∀ u ∈ (Value.bool true).cells.toList, u.oneCell' = true) ∧ ((rgA a n cap p bad).toList.take 2 ++ (Value.bool true).cells.toList ++ (rgA a n cap p bad).toList.drop (2 + 1)).toArray = rgA a n cap p true :=
  ⟨by show _ ≤ 3; omega, rfl, by simp [Value.cells, Value.oneCell'], rfl⟩

theorem rgA_c0 {w : World} {g : Nat} {a : Option Addr} {n cap p : Nat} {bad : Bool} {T : TypeId} (h : w.heap[g]? = some (.cells (rgA a n cap p bad) T (0, 0))) : w.cell? ⟨g, 0, none⟩ = some (.slice a n cap) := blk_cell h 0 _ rfl
theorem rgA_c1 {w : World} {g : Nat} {a : Option Addr} {n cap p : Nat} {bad : Bool} {T : TypeId} (h : w.heap[g]? = some (.cells (rgA a n cap p bad) T (0, 0))) : w.cell? ⟨g, 1, none⟩ = some (.int .i64 p) := blk_cell h 1 _ rfl
theorem rgA_c2 {w : World} {g : Nat} {a : Option Addr} {n cap p : Nat} {bad : Bool} {T : TypeId} (h : w.heap[g]? = some (.cells (rgA a n cap p bad) T (0, 0))) : w.cell? ⟨g, 2, none⟩ = some (.bool bad) := blk_cell h 2 _ rfl
/-- Bytes do not lie in the reading's block. -/
theorem Row.gbB {w w' : World} {g : Nat} {x : Option Addr} {xs : List UInt8} {a : Option Addr} {n cap p : Nat} {bad : Bool} {T : TypeId} (h : Row w x (bys xs)) (hB : w.heap[g]? = some (.cells (rgA a n cap p bad) T (0, 0))) (hg : w.grownBy w' (some g)) : Row w' x (bys xs) := by
  rcases h with h | ⟨b, off, hx, hc⟩
  · exact .inl h
  · refine .inr ⟨b, off, hx, fun i u hu => hg.cell (hc i u hu) (fun e => ?_)⟩
    injection e with e
    simp only at e
    subst e
    obtain ⟨y, rfl⟩ : ∃ y, u = .int .u8 y := by
      rw [bys, List.getElem?_map, Option.map_eq_some_iff] at hu
      obtain ⟨y, _, rfl⟩ := hu
      exact ⟨_, rfl⟩
    have h1 := hc i _ hu
    simp only [World.cell?, hB] at h1
    generalize off + i = j at *
    match j with
    | 0 => simp [rgA] at h1
    | 1 => simp [rgA] at h1
    | 2 => simp [rgA] at h1
    | j + 3 => simp [rgA] at h1
theorem SlB.gbB {w w' : World} {g : Nat} {x : Option Addr} {c : Nat} {xs : List UInt8} {a : Option Addr} {n cap p : Nat} {bad : Bool} {T : TypeId} (h : SlB w x c xs) (hB : w.heap[g]? = some (.cells (rgA a n cap p bad) T (0, 0))) (hg : w.grownBy w' (some g)) : SlB w' x c xs := ⟨h.row.gbB hB hg, h.le, h.max, h.nil⟩

set_option maxRecDepth 100000 in
set_option maxHeartbeats 1000000 in
theorem next_ok (g : Nat) (a : Option Addr) (cap : Nat) (l : List UInt8) (p n : Nat) (bad : Bool) (w : World) (hr : RgB g a cap l p bad w) (h : p + n ≤ l.length) :
    Calls Try.prog 96 #[.pointer (some ⟨g, 0, none⟩), .int .i64 n] w fun e w' => e = .returned (.slice (pieceA a cap p) n (cap - p)) ∧ w'.heap[g]? = some (.cells (rgA a l.length cap (p + n) bad) 127 (0, 0)) ∧ w.grownBy w' (some g) := by
  have B := hr.blk
  have hlc := hr.sl.le
  have hmx := hr.sl.max
  have hnil := hr.sl.nil
  have hlen := hr.len
  unfold maxLen at hmx
  clear hr
  go_enter Try.func96, Try.ntmps96
  refine wp_seq_k (fun K hK => ?_)
  have HK := Lib.hid hK
  clear hK
  go_wp2
  refine HK.out _ _ ?_
  clear HK
  refine wp_seq_k (fun K hK => ?_)
  have HK := Lib.hid hK
  clear hK
  refine wp_seq_k (fun K hK => ?_)
  have HK2 := Lib.hid hK
  clear hK
  refine wp_region_cls (C := fun w' => Below w.heap.size w w') (by kernel_rfl) (by kernel_rfl) (Below.refl _ _).drew ?_
  refine wpQuiet_val (by rfl) ?_ ?_ ?_
  rotate_left
  · intro wS hSw
    go_simp
    (try with_reducible rfl)
  (try simp only [Act.put])
  (try simp only [List.setIfInBounds_toArray])
  (try simp only [List.set_cons_succ])
  (try simp only [List.set_cons_zero])
  refine wpQuiet_val (by rfl) ?_ ?_ ?_
  rotate_left
  · intro wS hSw
    go_simp
    (try with_reducible rfl)
  (try simp only [Act.put])
  (try simp only [List.setIfInBounds_toArray])
  (try simp only [List.set_cons_succ])
  (try simp only [List.set_cons_zero])
  refine wpQuiet_val (by rfl) ?_ ?_ ?_
  rotate_left
  · intro wS hSw
    go_simp
    (try with_reducible rfl)
  (try simp only [Act.put])
  (try simp only [List.setIfInBounds_toArray])
  (try simp only [List.set_cons_succ])
  (try simp only [List.set_cons_zero])
  refine wpQuiet_val (by rfl) ?_ ?_ ?_
  rotate_left
  · intro wS hSw
    go_simp
    (try with_reducible rfl)
  (try simp only [Act.put])
  (try simp only [List.setIfInBounds_toArray])
  (try simp only [List.set_cons_succ])
  (try simp only [List.set_cons_zero])
  refine wpQuiet_val (by rfl) ?_ ?_ ?_
  rotate_left
  · intro wS hSw
    have c := rgA_c0 (tr_bl hSw B)
    go_simp
    (try with_reducible rfl)
  (try simp only [Act.put])
  (try simp only [List.setIfInBounds_toArray])
  (try simp only [List.set_cons_succ])
  (try simp only [List.set_cons_zero])
  refine wpQuiet_val (by rfl) ?_ ?_ ?_
  rotate_left
  · intro wS hSw
    go_simp
    (try with_reducible rfl)
  (try simp only [Act.put])
  (try simp only [List.setIfInBounds_toArray])
  (try simp only [List.set_cons_succ])
  (try simp only [List.set_cons_zero])
  refine wpQuiet_val (by rfl) ?_ ?_ ?_
  rotate_left
  · intro wS hSw
    go_simp
    (try with_reducible rfl)
  (try simp only [Act.put])
  (try simp only [List.setIfInBounds_toArray])
  (try simp only [List.set_cons_succ])
  (try simp only [List.set_cons_zero])
  refine wpQuiet_val (by rfl) ?_ ?_ ?_
  rotate_left
  · intro wS hSw
    go_simp
    (try with_reducible rfl)
  (try simp only [Act.put])
  (try simp only [List.setIfInBounds_toArray])
  (try simp only [List.set_cons_succ])
  (try simp only [List.set_cons_zero])
  refine wpQuiet_val (by rfl) ?_ ?_ ?_
  rotate_left
  · intro wS hSw
    go_simp
    (try with_reducible rfl)
  (try simp only [Act.put])
  (try simp only [List.setIfInBounds_toArray])
  (try simp only [List.set_cons_succ])
  (try simp only [List.set_cons_zero])
  refine wpQuiet_val (by rfl) ?_ ?_ ?_
  rotate_left
  · intro wS hSw
    have c := rgA_c1 (tr_bl hSw B)
    go_simp
    (try with_reducible rfl)
  (try simp only [Act.put])
  (try simp only [List.setIfInBounds_toArray])
  (try simp only [List.set_cons_succ])
  (try simp only [List.set_cons_zero])
  refine wpQuiet_val (by rfl) (.int .i64 ((l.length : Int) - p)) (fun wS hSw => ?_) ?_
  · have e := IntWalk.i64_in ((l.length : Int) - p) (by omega); go_simp; (first | done | rw [e])
  (try simp only [Act.put])
  (try simp only [List.setIfInBounds_toArray])
  (try simp only [List.set_cons_succ])
  (try simp only [List.set_cons_zero])
  refine wpQuiet_val (by rfl) (.bool false) (fun wS hSw => ?_) ?_
  · go_simp; (first | done | omega | (simp; omega))
  (try simp only [Act.put])
  (try simp only [List.setIfInBounds_toArray])
  (try simp only [List.set_cons_succ])
  (try simp only [List.set_cons_zero])
  refine wpQuiet_nil ?_
  intro wE hE
  refine HK2.out _ _ ?_
  go_wp2
  refine HK.out _ _ ?_
  clear HK
  have BE := tr_bl hE B
  refine wp_seq_k (fun K hK => ?_)
  have HK := Lib.hid hK
  clear hK
  refine wp_region_cls (C := fun w' => Below wE.heap.size wE w') (by kernel_rfl) (by kernel_rfl) (Below.refl _ _).drew ?_
  refine wpQuiet_val (by rfl) ?_ ?_ ?_
  rotate_left
  · intro wS hSw
    go_simp
    (try with_reducible rfl)
  (try simp only [Act.put])
  (try simp only [List.setIfInBounds_toArray])
  (try simp only [List.set_cons_succ])
  (try simp only [List.set_cons_zero])
  refine wpQuiet_val (by rfl) ?_ ?_ ?_
  rotate_left
  · intro wS hSw
    go_simp
    (try with_reducible rfl)
  (try simp only [Act.put])
  (try simp only [List.setIfInBounds_toArray])
  (try simp only [List.set_cons_succ])
  (try simp only [List.set_cons_zero])
  refine wpQuiet_val (by rfl) ?_ ?_ ?_
  rotate_left
  · intro wS hSw
    go_simp
    (try with_reducible rfl)
  (try simp only [Act.put])
  (try simp only [List.setIfInBounds_toArray])
  (try simp only [List.set_cons_succ])
  (try simp only [List.set_cons_zero])
  refine wpQuiet_val (by rfl) ?_ ?_ ?_
  rotate_left
  · intro wS hSw
    have c := rgA_c0 (tr_bl hSw BE)
    go_simp
    (try with_reducible rfl)
  (try simp only [Act.put])
  (try simp only [List.setIfInBounds_toArray])
  (try simp only [List.set_cons_succ])
  (try simp only [List.set_cons_zero])
  refine wpQuiet_val (by rfl) ?_ ?_ ?_
  rotate_left
  · intro wS hSw
    go_simp
    (try with_reducible rfl)
  (try simp only [Act.put])
  (try simp only [List.setIfInBounds_toArray])
  (try simp only [List.set_cons_succ])
  (try simp only [List.set_cons_zero])
  refine wpQuiet_val (by rfl) ?_ ?_ ?_
  rotate_left
  · intro wS hSw
    go_simp
    (try with_reducible rfl)
  (try simp only [Act.put])
  (try simp only [List.setIfInBounds_toArray])
  (try simp only [List.set_cons_succ])
  (try simp only [List.set_cons_zero])
  refine wpQuiet_val (by rfl) ?_ ?_ ?_
  rotate_left
  · intro wS hSw
    go_simp
    (try with_reducible rfl)
  (try simp only [Act.put])
  (try simp only [List.setIfInBounds_toArray])
  (try simp only [List.set_cons_succ])
  (try simp only [List.set_cons_zero])
  refine wpQuiet_val (by rfl) ?_ ?_ ?_
  rotate_left
  · intro wS hSw
    have c := rgA_c1 (tr_bl hSw BE)
    go_simp
    (try with_reducible rfl)
  (try simp only [Act.put])
  (try simp only [List.setIfInBounds_toArray])
  (try simp only [List.set_cons_succ])
  (try simp only [List.set_cons_zero])
  refine wpQuiet_val (by rfl) ?_ ?_ ?_
  rotate_left
  · intro wS hSw
    go_simp
    (try with_reducible rfl)
  (try simp only [Act.put])
  (try simp only [List.setIfInBounds_toArray])
  (try simp only [List.set_cons_succ])
  (try simp only [List.set_cons_zero])
  refine wpQuiet_val (by rfl) ?_ ?_ ?_
  rotate_left
  · intro wS hSw
    go_simp
    (try with_reducible rfl)
  (try simp only [Act.put])
  (try simp only [List.setIfInBounds_toArray])
  (try simp only [List.set_cons_succ])
  (try simp only [List.set_cons_zero])
  refine wpQuiet_val (by rfl) ?_ ?_ ?_
  rotate_left
  · intro wS hSw
    go_simp
    (try with_reducible rfl)
  (try simp only [Act.put])
  (try simp only [List.setIfInBounds_toArray])
  (try simp only [List.set_cons_succ])
  (try simp only [List.set_cons_zero])
  refine wpQuiet_val (by rfl) ?_ ?_ ?_
  rotate_left
  · intro wS hSw
    have c := rgA_c1 (tr_bl hSw BE)
    go_simp
    (try with_reducible rfl)
  (try simp only [Act.put])
  (try simp only [List.setIfInBounds_toArray])
  (try simp only [List.set_cons_succ])
  (try simp only [List.set_cons_zero])
  refine wpQuiet_val (by rfl) ?_ ?_ ?_
  rotate_left
  · intro wS hSw
    go_simp
    (try with_reducible rfl)
  (try simp only [Act.put])
  (try simp only [List.setIfInBounds_toArray])
  (try simp only [List.set_cons_succ])
  (try simp only [List.set_cons_zero])
  refine wpQuiet_val (by rfl) (.int .i64 ((p + n : Nat) : Int)) (fun wS hSw => ?_) ?_
  · have e := IntWalk.i64_in ((p : Int) + n) (by omega); go_simp; (first | done | rw [e] | simp only [e])
  (try simp only [Act.put])
  (try simp only [List.setIfInBounds_toArray])
  (try simp only [List.set_cons_succ])
  (try simp only [List.set_cons_zero])
  refine wpQuiet_val (by rfl) (.slice (pieceA a cap p) n (cap - p)) (fun wS hSw => ?_) ?_
  · go_simp; rw [if_pos ⟨by omega, by omega⟩, if_pos (by omega), show ((p : Int) + n).toNat = p + n by omega, Nat.add_sub_cancel_left]; rfl
  (try simp only [Act.put])
  (try simp only [List.setIfInBounds_toArray])
  (try simp only [List.set_cons_succ])
  (try simp only [List.set_cons_zero])
  refine wpQuiet_val (by rfl) ?_ ?_ ?_
  rotate_left
  · intro wS hSw
    go_simp
    (try with_reducible rfl)
  (try simp only [Act.put])
  (try simp only [List.setIfInBounds_toArray])
  (try simp only [List.set_cons_succ])
  (try simp only [List.set_cons_zero])
  refine wpQuiet_nil ?_
  intro wF hF
  refine HK.out _ _ ?_
  clear HK
  have BF := tr_bl hF BE
  have c1 : wF.cell? ⟨g, 1, none⟩ = some (.int .i64 p) := blk_cell BF 1 _ rfl
  go_wp2_with ((first | (with_reducible refine wpList_stB 3 _ _ ?_) | (with_reducible refine wp_stB 3 _ _ ?_)); refine ⟨_, _, _, ⟨_, _, _, Try.sizeOf3, rfl, ‹_›, rg_at _ _ _ _ _ (p + n)⟩, ?_⟩; intro w3 B3 g3)
  go_ret
  exact ⟨rfl, B3, gb_trans (gb_trans (gb_of_below hE _) (gb_of_below hF (some g)) (fun _ e => .inr e)) g3 (fun _ e => .inr e)⟩

set_option maxRecDepth 100000 in
set_option maxHeartbeats 1000000 in
theorem next_no (g : Nat) (a : Option Addr) (cap : Nat) (l : List UInt8) (p n : Nat) (bad : Bool) (w : World) (hr : RgB g a cap l p bad w) (h : ¬ p + n ≤ l.length) :
    Calls Try.prog 96 #[.pointer (some ⟨g, 0, none⟩), .int .i64 n] w fun e w' => e = .returned (.slice none 0 0) ∧ w'.heap[g]? = some (.cells (rgA a l.length cap p true) 127 (0, 0)) ∧ w.grownBy w' (some g) := by
  have B := hr.blk
  have hlen := hr.len
  have hle := hr.le
  clear hr
  go_enter Try.func96, Try.ntmps96
  refine wp_seq_k (fun K hK => ?_)
  have HK := Lib.hid hK
  clear hK
  go_wp2
  refine HK.out _ _ ?_
  clear HK
  refine wp_seq_k (fun K hK => ?_)
  have HK := Lib.hid hK
  clear hK
  refine wp_seq_k (fun K hK => ?_)
  have HK2 := Lib.hid hK
  clear hK
  refine wp_region_cls (C := fun w' => Below w.heap.size w w') (by kernel_rfl) (by kernel_rfl) (Below.refl _ _).drew ?_
  refine wpQuiet_val (by rfl) ?_ ?_ ?_
  rotate_left
  · intro wS hSw
    go_simp
    (try with_reducible rfl)
  (try simp only [Act.put])
  (try simp only [List.setIfInBounds_toArray])
  (try simp only [List.set_cons_succ])
  (try simp only [List.set_cons_zero])
  refine wpQuiet_val (by rfl) ?_ ?_ ?_
  rotate_left
  · intro wS hSw
    go_simp
    (try with_reducible rfl)
  (try simp only [Act.put])
  (try simp only [List.setIfInBounds_toArray])
  (try simp only [List.set_cons_succ])
  (try simp only [List.set_cons_zero])
  refine wpQuiet_val (by rfl) ?_ ?_ ?_
  rotate_left
  · intro wS hSw
    go_simp
    (try with_reducible rfl)
  (try simp only [Act.put])
  (try simp only [List.setIfInBounds_toArray])
  (try simp only [List.set_cons_succ])
  (try simp only [List.set_cons_zero])
  refine wpQuiet_val (by rfl) ?_ ?_ ?_
  rotate_left
  · intro wS hSw
    go_simp
    (try with_reducible rfl)
  (try simp only [Act.put])
  (try simp only [List.setIfInBounds_toArray])
  (try simp only [List.set_cons_succ])
  (try simp only [List.set_cons_zero])
  refine wpQuiet_val (by rfl) ?_ ?_ ?_
  rotate_left
  · intro wS hSw
    have c := rgA_c0 (tr_bl hSw B)
    go_simp
    (try with_reducible rfl)
  (try simp only [Act.put])
  (try simp only [List.setIfInBounds_toArray])
  (try simp only [List.set_cons_succ])
  (try simp only [List.set_cons_zero])
  refine wpQuiet_val (by rfl) ?_ ?_ ?_
  rotate_left
  · intro wS hSw
    go_simp
    (try with_reducible rfl)
  (try simp only [Act.put])
  (try simp only [List.setIfInBounds_toArray])
  (try simp only [List.set_cons_succ])
  (try simp only [List.set_cons_zero])
  refine wpQuiet_val (by rfl) ?_ ?_ ?_
  rotate_left
  · intro wS hSw
    go_simp
    (try with_reducible rfl)
  (try simp only [Act.put])
  (try simp only [List.setIfInBounds_toArray])
  (try simp only [List.set_cons_succ])
  (try simp only [List.set_cons_zero])
  refine wpQuiet_val (by rfl) ?_ ?_ ?_
  rotate_left
  · intro wS hSw
    go_simp
    (try with_reducible rfl)
  (try simp only [Act.put])
  (try simp only [List.setIfInBounds_toArray])
  (try simp only [List.set_cons_succ])
  (try simp only [List.set_cons_zero])
  refine wpQuiet_val (by rfl) ?_ ?_ ?_
  rotate_left
  · intro wS hSw
    go_simp
    (try with_reducible rfl)
  (try simp only [Act.put])
  (try simp only [List.setIfInBounds_toArray])
  (try simp only [List.set_cons_succ])
  (try simp only [List.set_cons_zero])
  refine wpQuiet_val (by rfl) ?_ ?_ ?_
  rotate_left
  · intro wS hSw
    have c := rgA_c1 (tr_bl hSw B)
    go_simp
    (try with_reducible rfl)
  (try simp only [Act.put])
  (try simp only [List.setIfInBounds_toArray])
  (try simp only [List.set_cons_succ])
  (try simp only [List.set_cons_zero])
  refine wpQuiet_val (by rfl) (.int .i64 ((l.length : Int) - p)) (fun wS hSw => ?_) ?_
  · have e := IntWalk.i64_in ((l.length : Int) - p) (by omega); go_simp; (first | done | rw [e])
  (try simp only [Act.put])
  (try simp only [List.setIfInBounds_toArray])
  (try simp only [List.set_cons_succ])
  (try simp only [List.set_cons_zero])
  refine wpQuiet_val (by rfl) (.bool true) (fun wS hSw => ?_) ?_
  · go_simp; (first | done | omega | (simp; omega))
  (try simp only [Act.put])
  (try simp only [List.setIfInBounds_toArray])
  (try simp only [List.set_cons_succ])
  (try simp only [List.set_cons_zero])
  refine wpQuiet_nil ?_
  intro wE hE
  refine HK2.out _ _ ?_
  have BE := tr_bl hE B
  go_wp2_with ((first | (with_reducible refine wpList_stB 4 _ _ ?_) | (with_reducible refine wp_stB 4 _ _ ?_)); refine ⟨_, _, _, ⟨_, _, _, Try.sizeOf4, rfl, ‹_›, rg_bad _ _ _ _ _⟩, ?_⟩; intro w3 B3 g3)
  go_ret
  exact ⟨rfl, B3, gb_trans (gb_of_below hE _) g3 (fun _ e => .inr e)⟩

/-! What the reading comes to: a number, a text; where it stands then, and whether it ended too soon. -/
def rgN (l : List UInt8) (p : Nat) (bad : Bool) (k : Nat) : Nat × Nat × Bool := if p + k ≤ l.length then (getN l p k, p + k, bad) else (0, p, true)
def rgT (l : List UInt8) (p : Nat) (bad : Bool) : Tx × Nat × Bool :=
  if (rgN l p bad 1).2.1 + (rgN l p bad 1).1 ≤ l.length then (txOf ((l.drop (rgN l p bad 1).2.1).take (rgN l p bad 1).1), (rgN l p bad 1).2.1 + (rgN l p bad 1).1, (rgN l p bad 1).2.2)
  else (⟨#[]⟩, (rgN l p bad 1).2.1, true)
theorem getN_lt (l : List UInt8) (p k : Nat) : getN l p k < 256 ^ k := by
  have h := ofLe_lt ((l.drop p).take k)
  have : ((l.drop p).take k).length ≤ k := by rw [List.length_take]; omega
  exact Nat.lt_of_lt_of_le h (Nat.pow_le_pow_right (by decide) this)
theorem rgN_lt (l : List UInt8) (p : Nat) (bad : Bool) (k : Nat) : (rgN l p bad k).1 < 256 ^ k := by
  unfold rgN
  split
  · exact getN_lt l p k
  · exact Nat.pow_pos (by decide)
theorem rgN_le {l : List UInt8} {p : Nat} (h : p ≤ l.length) (bad : Bool) (k : Nat) : (rgN l p bad k).2.1 ≤ l.length := by
  unfold rgN
  split
  · assumption
  · exact h
theorem rgT_le {l : List UInt8} {p : Nat} (h : p ≤ l.length) (bad : Bool) : (rgT l p bad).2.1 ≤ l.length := by
  unfold rgT
  split
  · assumption
  · exact rgN_le h bad 1

theorem ofLe_step (q : List UInt8) (j : Nat) (h : j < q.length) : ofLe (q.drop j) = 256 * ofLe (q.drop (j + 1)) + q[j].toNat := by
  rw [List.drop_eq_getElem_cons h]
  simp only [ofLe]
  omega

set_option maxRecDepth 100000 in
set_option maxHeartbeats 1000000 in
theorem rgnum_any (g : Nat) (a : Option Addr) (cap : Nat) (l : List UInt8) (p k : Nat) (bad : Bool) (w : World) (hr : RgB g a cap l p bad w) (hk : k ≤ 6) :
    Calls Try.prog 71 #[.pointer (some ⟨g, 0, none⟩), .int .i64 k] w fun e w' => e = .returned (.int .i64 (rgN l p bad k).1) ∧ w'.heap[g]? = some (.cells (rgA a l.length cap (rgN l p bad k).2.1 (rgN l p bad k).2.2) 127 (0, 0)) ∧ w.grownBy w' (some g) := by
  by_cases h : p + k ≤ l.length
  case neg =>
    have hv : rgN l p bad k = (0, p, true) := by unfold rgN; rw [if_neg h]
    rw [hv]
    clear hv
    go_enter Try.func71, Try.ntmps71
    refine wp_seq_k (fun K hK => ?_)
    have HK := Lib.hid hK
    clear hK
    go_wp2
    refine HK.out _ _ ?_
    clear HK
    refine wp_seq_k (fun K hK => ?_)
    have HK := Lib.hid hK
    clear hK
    go_wp2_with (go_at_call 96; refine (next_no g a cap l p k bad _ hr h).mono ?_; rintro en w1 ⟨rfl, B1, g1⟩)
    refine HK.out _ _ ?_
    clear HK
    refine wp_seq_k (fun K hK => ?_)
    have HK := Lib.hid hK
    clear hK
    go_wp2
    refine HK.out _ _ ?_
    clear HK
    refine wp_seq_k (fun K hK => ?_)
    have HK := Lib.hid hK
    clear hK
    go_wp2_with fail
    go_loopw [7, 6] (fun i v wr => i = .int .i64 (-1) ∧ v = .int .i64 0 ∧ wr = w1) (fun _ _ _ => 0)
    case atStart => exact ⟨rfl, rfl, rfl⟩
    case round =>
      obtain ⟨rfl, rfl, rfl⟩ := hrel
      go_wp2
      refine HK.out _ _ ?_
      clear HK
      go_wp2
      go_ret
      exact ⟨rfl, B1, g1⟩
  case pos =>
    have hv : rgN l p bad k = (getN l p k, p + k, bad) := by unfold rgN; rw [if_pos h]
    rw [hv]
    clear hv
    have hlen : ((l.drop p).take k).length = k := by rw [List.length_take, List.length_drop]; omega
    have hq : Row w (pieceA a cap p) (bys ((l.drop p).take k)) := by
      have h1 := (hr.sl.row.drop (cap := cap) (by rw [bys_len]; exact hr.sl.le) p (by rw [bys_len]; exact hr.le)).take k
      have e : (bys l).drop p = bys (l.drop p) := by simp [bys, List.map_drop]
      have e2 : (bys (l.drop p)).take k = bys ((l.drop p).take k) := by simp [bys, List.map_take]
      rw [e, e2] at h1
      exact h1
    unfold getN
    generalize (l.drop p).take k = q at *
    have HQL := Lib.hid hlen
    obtain ⟨pa, hpa⟩ : ∃ x, pieceA a cap p = x := ⟨_, rfl⟩
    rw [hpa] at hq
    have HPA := Lib.hid hpa
    have Bg := hr.blk
    clear hpa hlen
    go_enter Try.func71, Try.ntmps71
    refine wp_seq_k (fun K hK => ?_)
    have HK := Lib.hid hK
    clear hK
    go_wp2
    refine HK.out _ _ ?_
    clear HK
    refine wp_seq_k (fun K hK => ?_)
    have HK := Lib.hid hK
    clear hK
    go_wp2_with (go_at_call 96; refine (next_ok g a cap l p k bad _ hr h).mono ?_; rintro en w1 ⟨rfl, B1, g1⟩)
    refine HK.out _ _ ?_
    clear HK
    refine wp_seq_k (fun K hK => ?_)
    have HK := Lib.hid hK
    clear hK
    go_wp2
    refine HK.out _ _ ?_
    clear HK
    rw [HPA.out]
    have hq1 := hq.gbB Bg g1
    clear hq
    refine wp_seq_k (fun K hK => ?_)
    have HK := Lib.hid hK
    clear hK
    go_wp2_with fail
    go_loopw [7, 6] (fun i v wr => ∃ j : Nat, j ≤ k ∧ i = .int .i64 ((j : Int) - 1) ∧ v = .int .i64 ((ofLe (q.drop j) : Nat) : Int) ∧ wr = w1) (fun i _ _ => ((intOf i) + 1).toNat)
    case atStart => exact ⟨k, Nat.le_refl _, rfl, by rw [List.drop_of_length_le (by rw [HQL.out]; omega)]; rfl, rfl⟩
    case round =>
      obtain ⟨j, hj, rfl, rfl, rfl⟩ := hrel
      cases j with
      | zero =>
        rw [show (((0 : Nat) : Int) - 1) = -1 by omega]
        go_wp2
        refine HK.out _ _ ?_
        clear HK
        go_wp2
        go_ret
        exact ⟨by simp, B1, g1⟩
      | succ j =>
        rw [show (((j + 1 : Nat) : Int) - 1) = (j : Int) by omega]
        have hjq : j < q.length := by rw [HQL.out]; omega
        have hst := ofLe_step q j hjq
        have hbd : ofLe (q.drop (j + 1)) < 1099511627776 := by
          have h1 := ofLe_lt (q.drop (j + 1))
          have h2 : (q.drop (j + 1)).length ≤ 5 := by rw [List.length_drop, HQL.out]; omega
          exact Nat.lt_of_lt_of_le h1 (Nat.le_trans (Nat.pow_le_pow_right (by decide) h2) (by decide))
        obtain ⟨b, off, rfl, hc⟩ := hq1.at (k := j) (by rw [bys_len]; exact hjq)
        have hcj := hc j (.int .u8 (q[j].toNat : Int)) (by rw [bys, List.getElem?_map, List.getElem?_eq_getElem hjq]; rfl)
        have hx : q[j].toNat < 256 := q[j].toNat_lt
        have HST := Lib.hid hst
        clear hc hst
        generalize q[j].toNat = x at *
        generalize ofLe (q.drop (j + 1)) = N1 at *
        go_wp2
        go_roundw
        case rel => exact ⟨j, by omega, by go_num, by rw [HST.out]; exact int_eq (by omega), by first | trivial | rfl⟩
        case measure => first | (simp [intOf]; done) | (simp [intOf]; omega)

set_option maxRecDepth 100000 in
set_option maxHeartbeats 1000000 in
theorem rgtxt_any (g : Nat) (a : Option Addr) (cap : Nat) (l : List UInt8) (p : Nat) (bad : Bool) (w : World) (hr : RgB g a cap l p bad w) :
    Calls Try.prog 72 #[.pointer (some ⟨g, 0, none⟩)] w fun e w' => e = .returned (.string (rgT l p bad).1) ∧ w'.heap[g]? = some (.cells (rgA a l.length cap (rgT l p bad).2.1 (rgT l p bad).2.2) 127 (0, 0)) ∧ w.grownBy w' (some g) := by
  obtain ⟨⟨n, p1, b1⟩, h1⟩ : ∃ x, rgN l p bad 1 = x := ⟨_, rfl⟩
  have hn : n < 256 := by have := rgN_lt l p bad 1; rw [h1] at this; simpa using this
  have hp1 : p1 ≤ l.length := by have := rgN_le hr.le bad 1; rw [h1] at this; exact this
  have hnum := rgnum_any g a cap l p 1 bad w hr (by decide)
  rw [h1] at hnum
  have HNUM := Lib.hid hnum
  have Bg := hr.blk
  by_cases h : p1 + n ≤ l.length
  case neg =>
    have hv : rgT l p bad = (⟨#[]⟩, p1, true) := by unfold rgT; rw [h1]; simp only; rw [if_neg h]
    rw [hv]
    clear hv hnum h1
    go_enter Try.func72, Try.ntmps72
    refine wp_seq_k (fun K hK => ?_)
    have HK := Lib.hid hK
    clear hK
    go_wp2
    refine HK.out _ _ ?_
    clear HK
    refine wp_seq_k (fun K hK => ?_)
    have HK := Lib.hid hK
    clear hK
    go_wp2_with (go_at_call 71; refine HNUM.out.mono ?_; rintro en w1 ⟨rfl, B1, g1⟩)
    refine HK.out _ _ ?_
    clear HK
    have hr1 : RgB g a cap l p1 b1 w1 := ⟨B1, hr.sl.gbB Bg g1, hp1, hr.len⟩
    have hcv := fun w' : World => conv_bytes none 0 [] w' (.inl rfl)
    simp only [List.length_nil] at hcv
    go_wp2_with (go_at_call 96; refine (next_no g a cap l p1 n b1 _ hr1 h).mono ?_; rintro en w2 ⟨rfl, B2, g2⟩)
    go_ret
    exact ⟨rfl, B2, gb_trans g1 g2 (fun _ e => .inr e)⟩
  case pos =>
    have hv : rgT l p bad = (txOf ((l.drop p1).take n), p1 + n, b1) := by unfold rgT; rw [h1]; simp only; rw [if_pos h]
    rw [hv]
    clear hv hnum h1
    have hlen : ((l.drop p1).take n).length = n := by rw [List.length_take, List.length_drop]; omega
    have hq : Row w (pieceA a cap p1) (bys ((l.drop p1).take n)) := by
      have h1 := (hr.sl.row.drop (cap := cap) (by rw [bys_len]; exact hr.sl.le) p1 (by rw [bys_len]; exact hp1)).take n
      have e : (bys l).drop p1 = bys (l.drop p1) := by simp [bys, List.map_drop]
      have e2 : (bys (l.drop p1)).take n = bys ((l.drop p1).take n) := by simp [bys, List.map_take]
      rw [e, e2] at h1
      exact h1
    generalize (l.drop p1).take n = q at *
    subst hlen
    go_enter Try.func72, Try.ntmps72
    refine wp_seq_k (fun K hK => ?_)
    have HK := Lib.hid hK
    clear hK
    go_wp2
    refine HK.out _ _ ?_
    clear HK
    refine wp_seq_k (fun K hK => ?_)
    have HK := Lib.hid hK
    clear hK
    go_wp2_with (go_at_call 71; refine HNUM.out.mono ?_; rintro en w1 ⟨rfl, B1, g1⟩)
    refine HK.out _ _ ?_
    clear HK
    have hr1 : RgB g a cap l p1 b1 w1 := ⟨B1, hr.sl.gbB Bg g1, hp1, hr.len⟩
    have hq1 := hq.gbB Bg g1
    go_wp2_with (go_at_call 96; refine (next_ok g a cap l p1 q.length b1 _ hr1 h).mono ?_; rintro en w2 ⟨rfl, B2, g2⟩; have hcv := conv_bytes (pieceA a cap p1) (cap - p1) q w2 (hq1.gbB B1 g2))
    go_ret
    exact ⟨rfl, B2, gb_trans g1 g2 (fun _ e => .inr e)⟩
end Go.Proofs.Ytmnjmjbmnhppfaa

namespace Go.Proofs.Ytmnjmjbmnhppfaa

def rgPairs (l : List UInt8) : Nat → Nat → Bool → List Pr → List Pr × Nat × Bool
  | 0, p, bad, acc => (acc, p, bad)
  | n + 1, p, bad, acc => if bad = true then (acc, p, true) else
    rgPairs l n (rgT l (rgT l p bad).2.1 (rgT l p bad).2.2).2.1 (rgT l (rgT l p bad).2.1 (rgT l p bad).2.2).2.2 (acc ++ [((rgT l p bad).1, (rgT l (rgT l p bad).2.1 (rgT l p bad).2.2).1)])
def rgRow (l : List UInt8) (p : Nat) (bad : Bool) : Rw × Nat × Bool :=
  let s := rgN l p bad 6
  let e := rgN l s.2.1 s.2.2 2
  let f := rgN l e.2.1 e.2.2 1
  let v := rgT l f.2.1 f.2.2
  (⟨s.1, ⟨e.1, decide (0 < f.1), v.1⟩⟩, v.2.1, v.2.2)
def rgRows (l : List UInt8) : Nat → Nat → Bool → List Rw → List Rw × Nat × Bool
  | 0, p, bad, acc => (acc, p, bad)
  | n + 1, p, bad, acc => rgRows l n (rgRow l p bad).2.1 (rgRow l p bad).2.2 (acc ++ [(rgRow l p bad).1])
def rgTail (l : List UInt8) (i : Int) (st : List Pr) (n p : Nat) (bad : Bool) (rs : List Rw) : Im × Bool :=
  (⟨i, st, tbOf (rgRows l n p bad rs).1⟩, (rgRows l n p bad rs).2.2)
def rgRest (l : List UInt8) (i : Int) (n p : Nat) (bad : Bool) (st : List Pr) : Im × Bool :=
  rgTail l i (rgPairs l n p bad st).1 4 (rgPairs l n p bad st).2.1 (rgPairs l n p bad st).2.2 []
def rgAll (l : List UInt8) : Im × Bool :=
  rgRest l (rgN l 0 false 6).1 (rgN l (rgN l 0 false 6).2.1 (rgN l 0 false 6).2.2 1).1 (rgN l (rgN l 0 false 6).2.1 (rgN l 0 false 6).2.2 1).2.1 (rgN l (rgN l 0 false 6).2.1 (rgN l 0 false 6).2.2 1).2.2 []

theorem rgN_of {l : List UInt8} {a k n a1 : Nat} (h : rdN l a k = some (n, a1)) : rgN l a false k = (n, a1, false) := by
  unfold rdN at h
  unfold rgN
  split at h
  · rename_i hle
    rw [if_pos hle]
    injection h with h
    injection h with h1 h2
    rw [h1, h2]
  · cases h
theorem rgT_of {l : List UInt8} {a a1 : Nat} {s : Tx} (h : rdT l a = some (s, a1)) : rgT l a false = (s, a1, false) := by
  unfold rdT at h
  unfold rgT
  split at h
  · cases h
  · rename_i n b hn
    rw [rgN_of hn]
    simp only
    split at h
    · rename_i hle
      rw [if_pos hle]
      injection h with h
      injection h with h1 h2
      rw [h1, h2]
    · cases h
theorem rgRow_of {l : List UInt8} {a a1 : Nat} {r : Rw} (h : rdRow l a = some (r, a1)) : rgRow l a false = (r, a1, false) := by
  unfold rdRow at h
  unfold rgRow
  split at h
  · cases h
  · rename_i s b1 h1
    split at h
    · cases h
    · rename_i e b2 h2
      split at h
      · cases h
      · rename_i f b3 h3
        split at h
        · cases h
        · rename_i v b4 h4
          injection h with h
          injection h with e1 e2
          subst e1 e2
          unfold rdF at h3
          split at h3
          · cases h3
          · rename_i n b5 h5
            split at h3
            · cases h3
            · rename_i hn
              injection h3 with h3
              injection h3 with e3 e4
              subst e3 e4
              simp only [rgN_of h1, rgN_of h2, rgN_of h5, rgT_of h4]
              have : decide (0 < n) = (n == 1) := by
                rcases (show n = 0 ∨ n = 1 by omega) with rfl | rfl <;> rfl
              rw [this]
theorem rgPairs_of {l : List UInt8} : ∀ {n a a1 : Nat} {acc st : List Pr}, rdPairs l n a acc = some (st, a1) → rgPairs l n a false acc = (st, a1, false)
  | 0, a, a1, acc, st, h => by
    simp only [rdPairs] at h
    injection h with h
    injection h with h1 h2
    simp [rgPairs, h1, h2]
  | n + 1, a, a1, acc, st, h => by
    simp only [rdPairs] at h
    split at h
    · cases h
    · rename_i k b1 h1
      split at h
      · cases h
      · rename_i v b2 h2
        simp only [rgPairs, rgT_of h1, rgT_of h2]
        exact rgPairs_of h
theorem rgRows_of {l : List UInt8} : ∀ {n a a1 : Nat} {acc rs : List Rw}, rdRows l n a acc = some (rs, a1) → rgRows l n a false acc = (rs, a1, false)
  | 0, a, a1, acc, rs, h => by
    simp only [rdRows] at h
    injection h with h
    injection h with h1 h2
    simp [rgRows, h1, h2]
  | n + 1, a, a1, acc, rs, h => by
    simp only [rdRows] at h
    split at h
    · cases h
    · rename_i r b1 h1
      simp only [rgRows, rgRow_of h1]
      exact rgRows_of h
theorem rgAll_of {l : List UInt8} {m : Im} {a : Nat} (h : rdAll l = some (m, a)) : rgAll l = (m, false) := by
  unfold rdAll at h
  unfold rgAll
  split at h
  · cases h
  · rename_i i a1 h1
    split at h
    · cases h
    · rename_i n a2 h2
      simp only [rgN_of h1, rgN_of h2]
      unfold rdRest at h
      unfold rgRest
      split at h
      · cases h
      · rename_i st a3 h3
        rw [rgPairs_of h3]
        simp only
        unfold rgTail
        split at h
        · cases h
        · rename_i rs a4 h4
          rw [rgRows_of h4]
          simp only
          injection h with h
          injection h with h5 h6
          rw [h5]
theorem parse_rg (l : List UInt8) {m : Im} {bad : Bool} (h : rgAll l = (m, bad)) : parseI l = if bad = false ∧ mayI m = true ∧ imB m = l then some m else none := by
  cases hp : parseI l with
  | none =>
    rw [if_neg]
    rintro ⟨_, h1, h2⟩
    rw [(parse_iff l m).2 ⟨h1, h2⟩] at hp
    cases hp
  | some q =>
    obtain ⟨h1, h2⟩ := (parse_iff l q).1 hp
    have h3 := rdAll_at h1 []
    rw [List.append_nil, h2] at h3
    have h4 := rgAll_of h3
    rw [h] at h4
    injection h4 with e1 e2
    subst e1 e2
    rw [if_pos ⟨rfl, h1, h2⟩]
theorem rgPairs_stop {l : List UInt8} (n p : Nat) (acc : List Pr) : rgPairs l n p true acc = (acc, p, true) := by
  cases n <;> simp [rgPairs]
theorem rgPairs_go {l : List UInt8} {n p p1 p2 : Nat} {b1 b2 : Bool} {acc : List Pr} {k v : Tx} (h1 : rgT l p false = (k, p1, b1)) (h2 : rgT l p1 b1 = (v, p2, b2)) : rgPairs l (n + 1) p false acc = rgPairs l n p2 b2 (acc ++ [(k, v)]) := by
  simp only [rgPairs, h1, h2]
  rfl
theorem rgTail_go {l : List UInt8} {i : Int} {st : List Pr} {n p p1 : Nat} {bad b1 : Bool} {rs : List Rw} {r : Rw} (h : rgRow l p bad = (r, p1, b1)) : rgTail l i st (n + 1) p bad rs = rgTail l i st n p1 b1 (rs ++ [r]) := by
  unfold rgTail
  simp only [rgRows, h]
theorem rgT_size (l : List UInt8) (p : Nat) (bad : Bool) : (rgT l p bad).1.size ≤ 255 := by
  unfold rgT
  split
  · have := rgN_lt l p bad 1
    show ((List.take _ _).length) ≤ 255
    rw [List.length_take]
    omega
  · show (0 : Nat) ≤ 255
    omega
end Go.Proofs.Ytmnjmjbmnhppfaa

namespace Go.Proofs.Ytmnjmjbmnhppfaa
open Go.RowKit

/-- The blocks that the reference's Parse holds: what it hands back, the reading, the image so far. -/
structure RaB (N M : Nat) (a : Option Addr) (cap : Nat) (l : List UInt8) (p : Nat) (bad : Bool) (i : Int) (a' : Option Addr) (cap' : Nat) (st : List Pr) (t : Tb) (w0 w : World) : Prop where
  res : w.heap[N]? = some (.cells (imA 0 (.slice none 0 0) zeroT) 49 (0, 0))
  rd : w.heap[N + 1]? = some (.cells (rgA a l.length cap p bad) 127 (0, 0))
  im : w.heap[M]? = some (.cells (imA i (.slice a' st.length cap') t) 49 (0, 0))
  own : w.ownsRow (N + 2) 74 2 (.slice a' st.length cap') st.length (prs st)
  ge : N + 2 ≤ M
  le : p ≤ l.length
  bl : Below N w0 w
section
variable {N M : Nat} {a : Option Addr} {cap : Nat} {l : List UInt8} {p p1 : Nat} {bad b1 : Bool} {i j : Int} {a' : Option Addr} {cap' : Nat} {st : List Pr} {t u : Tb} {w0 w w' : World}
theorem RaB.size (h : RaB N M a cap l p bad i a' cap' st t w0 w) : N + 2 ≤ w.heap.size := lt_blk h.rd
theorem RaB.rgB (h : RaB N M a cap l p bad i a' cap' st t w0 w) (hs : Hid (∀ w', Below N w0 w' → SlB w' a cap l)) (hl : l.length ≤ 1000000) : RgB (N + 1) a cap l p bad w := ⟨h.rd, hs.out _ h.bl, h.le, hl⟩
theorem RaB.read (h : RaB N M a cap l p bad i a' cap' st t w0 w) (B : w'.heap[N + 1]? = some (.cells (rgA a l.length cap p1 b1) 127 (0, 0))) (hg : w.grownBy w' (some (N + 1))) (hp : p1 ≤ l.length) : RaB N M a cap l p1 b1 i a' cap' st t w0 w' :=
  ⟨tr_st hg h.res (by omega), B, tr_st hg h.im (by have := h.ge; omega), owns_st h.own hg (by omega), h.ge, hp, bl_st h.bl hg (by have := h.size; omega) (by omega)⟩
theorem RaB.turn (h : RaB N M a cap l p bad i a' cap' st t w0 w) (B : w'.heap[M]? = some (.cells (imA j (.slice a' st.length cap') u) 49 (0, 0))) (hg : w.grownBy w' (some M)) : RaB N M a cap l p bad j a' cap' st u w0 w' :=
  ⟨tr_st hg h.res (by have := h.ge; omega), tr_st hg h.rd (by have := h.ge; omega), B, owns_ne h.own hg h.im (by decide), h.ge, h.le, bl_st h.bl hg (by have := h.size; omega) (by have := h.ge; omega)⟩
theorem RaB.alloc (o : Obj) (h : RaB N M a cap l p bad i a' cap' st t w0 w) : RaB N M a cap l p bad i a' cap' st t w0 (w.alloc o) :=
  ⟨tr_al o h.res, tr_al o h.rd, tr_al o h.im, owns_bl h.own (blw w o), h.ge, h.le, h.bl.trans ((blw w o).mono (by have := h.size; omega))⟩
theorem RaB.below (h : RaB N M a cap l p bad i a' cap' st t w0 w) (hb : Below w.heap.size w w') : RaB N M a cap l p bad i a' cap' st t w0 w' :=
  ⟨tr_bl hb h.res, tr_bl hb h.rd, tr_bl hb h.im, owns_bl h.own hb, h.ge, h.le, h.bl.trans (hb.mono (by have := h.size; omega))⟩
theorem RaB.sl (h : RaB N M a cap l p bad i a' cap' st t w0 w) : SlP w a' cap' st := SlP.of_own1 h.own
/-- Behind an append and the store of what it told. -/
theorem RaB.app {w7 w8 : World} {a7 : Option Addr} {c7 : Nat} {st7 : List Pr} (h : RaB N M a cap l p bad i a' cap' st t w0 w) (ho : w7.ownsRow (N + 2) 74 2 (.slice a7 st7.length c7) st7.length (prs st7)) (hg : w.grownBy w7 (Value.slice a' st.length cap').ownBlock)
    (B : w8.heap[M]? = some (.cells (imA i (.slice a7 st7.length c7) t) 49 (0, 0))) (hg8 : w7.grownBy w8 (some M)) : RaB N M a cap l p bad i a7 c7 st7 t w0 w8 := by
  have r7 := tr_gb hg h.res (own_ne h.own h.res (by decide))
  have d7 := tr_gb hg h.rd (own_ne h.own h.rd (by decide))
  have i7 := tr_gb hg h.im (own_ne h.own h.im (by decide))
  have b7 : Below N w0 w7 := h.bl.grown hg (by have := h.size; omega) (fun k e => by have := (h.own.lt k e).1; omega)
  exact ⟨tr_st hg8 r7 (by have := h.ge; omega), tr_st hg8 d7 (by have := h.ge; omega), B, owns_ne ho hg8 i7 (by decide), h.ge, h.le, bl_st b7 hg8 (by have := lt_blk d7; omega) (by have := h.ge; omega)⟩
theorem rgnum_v {k n : Nat} (hr : RgB (N + 1) a cap l p bad w) (h : rgN l p bad k = (n, p1, b1)) (hk : k ≤ 6) :
    Calls Try.prog 71 #[.pointer (some ⟨N + 1, 0, none⟩), .int .i64 k] w fun e w' => e = .returned (.int .i64 n) ∧ w'.heap[N + 1]? = some (.cells (rgA a l.length cap p1 b1) 127 (0, 0)) ∧ w.grownBy w' (some (N + 1)) := by
  refine (rgnum_any (N + 1) a cap l p k bad w hr hk).mono ?_
  intro e w' h2
  rw [h] at h2
  exact h2
theorem rgn6 {n : Nat} (hr : RgB (N + 1) a cap l p bad w) (h : rgN l p bad 6 = (n, p1, b1)) : Calls Try.prog 71 #[.pointer (some ⟨N + 1, 0, none⟩), .int .i64 6] w fun e w' => e = .returned (.int .i64 n) ∧ w'.heap[N + 1]? = some (.cells (rgA a l.length cap p1 b1) 127 (0, 0)) ∧ w.grownBy w' (some (N + 1)) := rgnum_v hr h (by decide)
theorem rgn2 {n : Nat} (hr : RgB (N + 1) a cap l p bad w) (h : rgN l p bad 2 = (n, p1, b1)) : Calls Try.prog 71 #[.pointer (some ⟨N + 1, 0, none⟩), .int .i64 2] w fun e w' => e = .returned (.int .i64 n) ∧ w'.heap[N + 1]? = some (.cells (rgA a l.length cap p1 b1) 127 (0, 0)) ∧ w.grownBy w' (some (N + 1)) := rgnum_v hr h (by decide)
theorem rgn1 {n : Nat} (hr : RgB (N + 1) a cap l p bad w) (h : rgN l p bad 1 = (n, p1, b1)) : Calls Try.prog 71 #[.pointer (some ⟨N + 1, 0, none⟩), .int .i64 1] w fun e w' => e = .returned (.int .i64 n) ∧ w'.heap[N + 1]? = some (.cells (rgA a l.length cap p1 b1) 127 (0, 0)) ∧ w.grownBy w' (some (N + 1)) := rgnum_v hr h (by decide)
theorem rgt {s : Tx} (hr : RgB (N + 1) a cap l p bad w) (h : rgT l p bad = (s, p1, b1)) : Calls Try.prog 72 #[.pointer (some ⟨N + 1, 0, none⟩)] w fun e w' => e = .returned (.string s) ∧ w'.heap[N + 1]? = some (.cells (rgA a l.length cap p1 b1) 127 (0, 0)) ∧ w.grownBy w' (some (N + 1)) := by
  refine (rgtxt_any (N + 1) a cap l p bad w hr).mono ?_
  intro e w' h2
  rw [h] at h2
  exact h2
theorem rgN_p {k n : Nat} (hp : p ≤ l.length) (h : rgN l p bad k = (n, p1, b1)) : p1 ≤ l.length := by have := rgN_le hp bad k; rw [h] at this; exact this
theorem rgT_p {s : Tx} (hp : p ≤ l.length) (h : rgT l p bad = (s, p1, b1)) : p1 ≤ l.length := by have := rgT_le hp bad; rw [h] at this; exact this
end

theorem rprint_yes (m : Im) (a : Option Addr) (cap : Nat) (l : List UInt8) (hm : mayI m = true) (hl : imB m = l) (w : World) (hs : SlP w a cap m.st) (h8 : m.st.length ≤ 1000) (hsm : ∀ p ∈ m.st, p.1.size ≤ 100000) :
    Calls Try.prog 25 #[.agg (imA m.idx (.slice a m.st.length cap) m.tb)] w fun e w' => (∃ ax cx, e = .returned (.tuple #[.slice ax l.length cx, .int .i64 0]) ∧ SlB w' ax cx l) ∧ Below w.heap.size w w' := by
  refine (rprint_any m a cap w hs h8 hsm).mono ?_
  rintro e w' ⟨h, hb⟩
  unfold RPrintRes at h
  rw [if_pos hm, hl] at h
  obtain ⟨v, rfl, ho⟩ := h
  obtain ⟨ax, cx, rfl, hx⟩ := SlB.of_owns ho
  exact ⟨⟨ax, cx, rfl, hx⟩, hb⟩
theorem rprint_no (m : Im) (a : Option Addr) (cap : Nat) (hm : mayI m = false) (w : World) (hs : SlP w a cap m.st) (h8 : m.st.length ≤ 1000) (hsm : ∀ p ∈ m.st, p.1.size ≤ 100000) :
    Calls Try.prog 25 #[.agg (imA m.idx (.slice a m.st.length cap) m.tb)] w fun e w' => e = .returned (.tuple #[.slice none 0 0, .int .i64 2]) ∧ Below w.heap.size w w' := by
  refine (rprint_any m a cap w hs h8 hsm).mono ?_
  rintro e w' ⟨h, hb⟩
  unfold RPrintRes at h
  rw [hm] at h
  exact ⟨h, hb⟩

set_option maxRecDepth 100000 in
set_option maxHeartbeats 2000000 in
theorem rparse_any (a : Option Addr) (cap : Nat) (l : List UInt8) (w : World) (hs : SlB w a cap l) (hl : l.length ≤ 1000000) :
    Calls Try.prog 27 #[.slice a l.length cap] w fun e w' => ParseRes w.heap.size l e w' ∧ Below w.heap.size w w' := by
  obtain ⟨N, hN⟩ : ∃ N, w.heap.size = N := ⟨_, rfl⟩
  have hb0 : Below w.heap.size w ((w.alloc (Obj.cells (imA 0 (.slice none 0 0) zeroT) 49)).alloc (Obj.cells (rgA a l.length cap 0 false) 127)) := ((Below.refl _ _).alloc (Nat.le_refl _) _).alloc (by simp) _
  have B2 := tr_al (Obj.cells (rgA a l.length cap 0 false) 127) (heap_alloc_new w (Obj.cells (imA 0 (.slice none 0 0) zeroT) 49))
  have B3 := heap_alloc2_new w (Obj.cells (imA 0 (.slice none 0 0) zeroT) 49) (Obj.cells (rgA a l.length cap 0 false) 127)
  have HSL : Hid (∀ w', Below N w w' → SlB w' a cap l) := Lib.hid (fun w' h => hs.below (by rw [hN]; exact h))
  clear hs
  go_enter Try.func27, Try.ntmps27
  refine wp_seq_k (fun K hK => ?_)
  have HK := Lib.hid hK
  clear hK
  go_wp2
  refine HK.out _ _ ?_
  clear HK
  refine wp_seq_k (fun K hK => ?_)
  have HK := Lib.hid hK
  clear hK
  go_wp2
  refine HK.out _ _ ?_
  clear HK
  change Code.wp _ _ _ _ ((w.alloc (Obj.cells (imA 0 (.slice none 0 0) zeroT) 49)).alloc (Obj.cells (rgA a l.length cap 0 false) 127))
  generalize (w.alloc (Obj.cells (imA 0 (.slice none 0 0) zeroT) 49)).alloc (Obj.cells (rgA a l.length cap 0 false) 127) = w0 at *
  simp only [hN] at *
  clear hN
  obtain ⟨⟨ix, p1, b1⟩, h6⟩ : ∃ x, rgN l 0 false 6 = x := ⟨_, rfl⟩
  obtain ⟨⟨n, p2, b2⟩, h7⟩ : ∃ x, rgN l p1 b1 1 = x := ⟨_, rfl⟩
  have hp1 := rgN_p (Nat.zero_le _) h6
  have hp2 := rgN_p hp1 h7
  have hn : n < 256 := by have := rgN_lt l p1 b1 1; rw [h7] at this; simpa using this
  obtain ⟨R, hR⟩ : ∃ R, rgAll l = R := ⟨_, rfl⟩
  have hR1 : rgRest l ix n p2 b2 [] = R := by rw [← hR]; unfold rgAll; rw [h6]; simp only; rw [h7]
  have H6 := Lib.hid h6
  have H7 := Lib.hid h7
  have HR := Lib.hid hR
  have HR1 := Lib.hid hR1
  clear h6 h7 hR hR1
  refine wp_seq_k (fun K hK => ?_)
  have HK := Lib.hid hK
  clear hK
  go_wp2_with (first
      | (go_at_call 71; (with_reducible refine (rgn6 ⟨B3, HSL.out _ hb0, Nat.zero_le _, hl⟩ H6.out).mono ?_); rintro en w1 ⟨rfl, C3, hg1⟩)
      | ((first | (with_reducible refine wpList_stNew 49 _ _ ?_) | (with_reducible refine wp_stNew 49 _ _ ?_)); refine ⟨_, _, ⟨Try.sizeOf49, rfl, imA_new _ none 0 0 zeroT⟩, rfl, ?_⟩))
  refine HK.out _ _ ?_
  clear HK
  have hsz0 := lt_blk B3
  have hra1 : RaB N w1.heap.size a cap l p1 b1 ix none 0 [] zeroT w (w1.alloc (Obj.cells (imA ix (.slice none 0 0) zeroT) 49)) :=
    ⟨tr_al _ (tr_st hg1 B2 (by omega)), tr_al _ C3, heap_alloc_new w1 (Obj.cells (imA ix (.slice none 0 0) zeroT) 49), World.ownsRow_nil _ _ _ _, lt_blk C3, hp1, (bl_st hb0 hg1 (by omega) (by omega)).trans ((blw w1 (Obj.cells (imA ix (.slice none 0 0) zeroT) 49)).mono (by have := lt_blk C3; omega))⟩
  generalize w1.alloc (Obj.cells (imA ix (.slice none 0 0) zeroT) 49) = w2 at *
  obtain ⟨M, hM⟩ : ∃ M, w1.heap.size = M := ⟨_, rfl⟩
  simp only [hM] at hra1 ⊢
  clear hM hsz0 C3 hg1 B2 B3 hb0
  have HRB : ∀ {p bad i a' cap' st t w'}, RaB N M a cap l p bad i a' cap' st t w w' → RgB (N + 1) a cap l p bad w' := fun h => h.rgB HSL hl
  refine wp_seq_k (fun K hK => ?_)
  have HK := Lib.hid hK
  clear hK
  go_wp2_with (go_at_call 71; (with_reducible refine (rgn1 (HRB hra1) H7.out).mono ?_); rintro en w3 ⟨rfl, C3, hg3⟩)
  refine HK.out _ _ ?_
  clear HK
  have hra3 := hra1.read C3 hg3 hp2
  clear hra1 C3 hg3 H6 H7
  refine wp_seq_k (fun K hK => ?_)
  go_cut [7] (fun _ wx => ∃ p bad st a' cap', RaB N M a cap l p bad ix a' cap' st zeroT w wx ∧ st.length ≤ 255 ∧ (∀ q ∈ st, q.1.size ≤ 255) ∧ Hid (rgTail l ix st 4 p bad [] = R))
  case first =>
    go_wp2_with fail
    go_loopw [7, 8, 9] (fun k _ _ wr => ∃ q p bad st a' cap', q ≤ n ∧ Hid (st.length = q) ∧ k = .int .i64 (q : Nat) ∧ RaB N M a cap l p bad ix a' cap' st zeroT w wr ∧ Hid (∀ q ∈ st, q.1.size ≤ 255) ∧ Hid (rgRest l ix (n - q) p bad st = R)) (fun k _ _ _ => n - (intOf k).toNat)
    case atStart => exact ⟨0, p2, b2, [], none, 0, by omega, Lib.hid rfl, rfl, hra3, Lib.hid (by simp), HR1⟩
    case round =>
      obtain ⟨q, p, bad, st, a', cap', hq, hsl, rfl, hra, hke, hre⟩ := hrel
      have c2 : wr.cell? ⟨N + 1, 2, none⟩ = some (.bool bad) := blk_cell hra.rd 2 _ rfl
      by_cases hlt : q < n
      case neg =>
        go_wp2
        go_meet
        obtain rfl : q = n := by omega
        refine ⟨p, bad, st, a', cap', hra, by have := hsl.out; omega, hke.out, Lib.hid ?_⟩
        have := hre.out
        rw [Nat.sub_self] at this
        exact this
      case pos =>
        cases bad
        case true =>
          go_wp2
          go_meet
          refine ⟨p, true, st, a', cap', hra, by have := hsl.out; omega, hke.out, Lib.hid ?_⟩
          have := hre.out
          unfold rgRest at this
          rw [rgPairs_stop] at this
          exact this
        case false =>
          obtain ⟨m, hm⟩ : ∃ m, n - q = m + 1 := ⟨n - q - 1, by omega⟩
          obtain ⟨⟨ke, p3, b3⟩, hk1⟩ : ∃ x, rgT l p false = x := ⟨_, rfl⟩
          obtain ⟨⟨va, p4, b4⟩, hv1⟩ : ∃ x, rgT l p3 b3 = x := ⟨_, rfl⟩
          have hp3 := rgT_p hra.le hk1
          have hp4 := rgT_p hp3 hv1
          have hkey : ke.size ≤ 255 := by have := rgT_size l p false; rw [hk1] at this; exact this
          have hre2 : rgRest l ix (n - (q + 1)) p4 b4 (st ++ [(ke, va)]) = R := by
            have h := hre.out
            rw [hm] at h
            unfold rgRest at h ⊢
            rw [rgPairs_go hk1 hv1] at h
            rw [show n - (q + 1) = m by omega]
            exact h
          have HK1 := Lib.hid hk1
          have HV1 := Lib.hid hv1
          have HRE := Lib.hid hre2
          have HKEY := Lib.hid hkey
          clear hk1 hv1 hre hre2 hm hkey
          go_wp2_with (first
            | (go_at_call 72; (with_reducible refine (rgt (HRB hra) HK1.out).mono ?_); rintro en w4 ⟨rfl, C4, hg4⟩; have hra4 := hra.read C4 hg4 hp3)
            | (go_at_call 72; (with_reducible refine (rgt (HRB hra4) HV1.out).mono ?_); rintro en w5 ⟨rfl, C5, hg5⟩; have hra5 := hra4.read C5 hg5 hp4; have c1 := imA_c1 hra5.im)
            | (at_builtin; refine wpList_appendN' rfl _ _ 41 41 74 74 elPair Try.underlying41 rfl (N + 2) _ _ _ rfl (hra5.alloc (Obj.cells #[.string ke, .string va] 74)).own ⟨w5.heap.size, 0, none⟩ 1 1 [.string ke, .string va] rfl rfl (fun j u hu => ?_) (by simp [Value.oneCell']) (by have := hsl.out; omega) (by decide) (by have := (hra5.alloc (Obj.cells #[.string ke, .string va] 74)).size; omega) ?_; (rw [addr_add]; exact blk_cell (heap_alloc_new w5 (Obj.cells #[.string ke, .string va] 74)) _ u (by rw [Nat.zero_add]; simpa using hu)); intro v7 w7 ho7 hg7; obtain ⟨a7, cap7, rfl, _⟩ := Row.of_owns ho7; have B7 := tr_gb hg7 (hra5.alloc (Obj.cells #[.string ke, .string va] 74)).im (own_ne (hra5.alloc (Obj.cells #[.string ke, .string va] 74)).own (hra5.alloc (Obj.cells #[.string ke, .string va] 74)).im (by decide)))
            | ((first | (with_reducible refine wpList_stB 41 _ _ ?_) | (with_reducible refine wp_stB 41 _ _ ?_)); refine ⟨_, _, _, ⟨_, _, _, Try.sizeOf41, rfl, ‹_›, imA_sv _ _ _ _ _ _⟩, ?_⟩; intro w8 B8 hg8))
          have hlen : (st ++ [(ke, va)]).length = st.length + 1 := by simp
          have hra8 := RaB.app (st7 := st ++ [(ke, va)]) (c7 := cap7) (a7 := a7) (hra5.alloc (Obj.cells #[.string ke, .string va] 74)) (by rw [hlen, prs_app]; exact ho7) hg7 (by rw [hlen]; exact B8) hg8
          go_roundw
          case rel =>
            refine ⟨q + 1, p4, b4, st ++ [(ke, va)], a7, cap7, by omega, Lib.hid (by rw [hlen, hsl.out]), by go_num, hra8, Lib.hid ?_, HRE⟩
            intro x hx
            rcases List.mem_append.1 hx with hx | hx
            · exact hke.out x hx
            · rw [List.mem_singleton.1 hx]; exact HKEY.out
          case measure => simp [intOf]; omega
  obtain ⟨p, bad, st, a', cap', hra, hst, hks, hre⟩ := hcut
  refine hK _ _ ?_; clear hK
  clear hra3 HR1
  refine wp_seq_k (fun K hK => ?_)
  go_cut [10] (fun _ wx => ∃ p bad rs, RaB N M a cap l p bad ix a' cap' st (tbOf rs) w wx ∧ Hid (rgTail l ix st 0 p bad rs = R))
  case first =>
    go_wp2_with fail
    go_loopw [10] (fun k wr => ∃ q p bad rs, q ≤ 4 ∧ Hid (rs.length = q) ∧ k = .int .i64 (q : Nat) ∧ RaB N M a cap l p bad ix a' cap' st (tbOf rs) w wr ∧ Hid (rgTail l ix st (4 - q) p bad rs = R)) (fun k _ => 4 - (intOf k).toNat)
    case atStart => exact ⟨0, p, bad, [], by omega, Lib.hid rfl, rfl, hra, hre⟩
    case round =>
      obtain ⟨q, p, bad, rs, hq, HSQ, rfl, hra, hre⟩ := hrel
      by_cases hlt : q < 4
      case neg =>
        go_wp2
        go_meet
        obtain rfl : q = 4 := by omega
        exact ⟨p, bad, rs, hra, hre⟩
      case pos =>
        obtain ⟨m, hm⟩ : ∃ m, 4 - q = m + 1 := ⟨4 - q - 1, by omega⟩
        have HT : Hid (∀ r, (tbOf rs).put q r = tbOf (rs ++ [r])) := Lib.hid (fun r => (tbOf_snoc HSQ.out hlt r).symm)
        obtain ⟨⟨s, q1, y1⟩, r1⟩ : ∃ x, rgN l p bad 6 = x := ⟨_, rfl⟩
        obtain ⟨⟨ev, q2, y2⟩, r2⟩ : ∃ x, rgN l q1 y1 2 = x := ⟨_, rfl⟩
        obtain ⟨⟨f, q3, y3⟩, r3⟩ : ∃ x, rgN l q2 y2 1 = x := ⟨_, rfl⟩
        obtain ⟨⟨va, q4, y4⟩, r4⟩ : ∃ x, rgT l q3 y3 = x := ⟨_, rfl⟩
        have hq1 := rgN_p hra.le r1
        have hq2 := rgN_p hq1 r2
        have hq3 := rgN_p hq2 r3
        have hq4 := rgT_p hq3 r4
        have hre2 : rgTail l ix st (4 - (q + 1)) q4 y4 (rs ++ [⟨s, ⟨ev, decide (0 < f), va⟩⟩]) = R := by
          have h := hre.out
          rw [hm, rgTail_go (r := ⟨s, ⟨ev, decide (0 < f), va⟩⟩) (p1 := q4) (b1 := y4) (by unfold rgRow; simp only [r1, r2, r3, r4])] at h
          rw [show 4 - (q + 1) = m by omega]
          exact h
        have R1 := Lib.hid r1
        have R2 := Lib.hid r2
        have R3 := Lib.hid r3
        have R4 := Lib.hid r4
        have HRE := Lib.hid hre2
        clear r1 r2 r3 r4 hre hre2 hm
        obtain ⟨t, ht⟩ : ∃ t, tbOf rs = t := ⟨_, rfl⟩
        rw [ht] at hra
        have HT2 : Hid (∀ r, t.put q r = tbOf (rs ++ [r])) := Lib.hid (fun r => by rw [← ht]; exact HT.out r)
        clear ht
        go_wp2_with (first
          | (go_at_call 71; (with_reducible refine (rgn6 (HRB hra) R1.out).mono ?_); rintro en w5 ⟨rfl, C5, hg5⟩; have hra5 := hra.read C5 hg5 hq1; have B5 := hra5.im)
          | ((first | (with_reducible refine wpList_stB 3 _ _ ?_) | (with_reducible refine wp_stB 3 _ _ ?_)); refine ⟨_, _, _, ⟨_, _, _, Try.sizeOf3, rfl, ‹_›, fld_seq _ _ _ _ hlt⟩, ?_⟩; intro w6 C6 hg6; have hra6 := hra5.turn C6 hg6)
          | (go_at_call 71; (with_reducible refine (rgn2 (HRB hra6) R2.out).mono ?_); rintro en w7 ⟨rfl, C7, hg7⟩; have hra7 := hra6.read C7 hg7 hq2; have B7 := hra7.im)
          | ((first | (with_reducible refine wpList_stB 28 _ _ ?_) | (with_reducible refine wp_stB 28 _ _ ?_)); refine ⟨_, _, _, ⟨_, _, _, Try.sizeOf28, rfl, ‹_›, fld_err _ _ _ _ hlt⟩, ?_⟩; intro w8 C8 hg8; have hra8 := hra7.turn C8 hg8)
          | (go_at_call 71; (with_reducible refine (rgn1 (HRB hra8) R3.out).mono ?_); rintro en w9 ⟨rfl, C9, hg9⟩; have hra9 := hra8.read C9 hg9 hq3; have B9 := hra9.im)
          | ((first | (with_reducible refine wpList_stB 4 _ _ ?_) | (with_reducible refine wp_stB 4 _ _ ?_)); refine ⟨_, _, _, ⟨_, _, _, Try.sizeOf4, rfl, ‹_›, fld_found _ _ _ _ hlt⟩, ?_⟩; intro w10 C10 hg10; have hra10 := hra9.turn C10 hg10)
          | (go_at_call 72; (with_reducible refine (rgt (HRB hra10) R4.out).mono ?_); rintro en w11 ⟨rfl, C11, hg11⟩; have hra11 := hra10.read C11 hg11 hq4; have B11 := hra11.im)
          | ((first | (with_reducible refine wpList_stB 9 _ _ ?_) | (with_reducible refine wp_stB 9 _ _ ?_)); refine ⟨_, _, _, ⟨_, _, _, Try.sizeOf9, rfl, ‹_›, fld_val _ _ _ _ hlt⟩, ?_⟩; intro w12 C12 hg12; have hra12 := hra11.turn C12 hg12))
        rw [st_four _ hlt, HT2.out] at hra12
        go_roundw
        case rel => exact ⟨q + 1, q4, y4, _, by omega, Lib.hid (by rw [List.length_append, HSQ.out]; rfl), by go_num, hra12, HRE⟩
        case measure => simp [intOf]; omega
  clear hra hre
  obtain ⟨p, bad, rs, hra, hre⟩ := hcut
  refine hK _ _ ?_; clear hK
  have hR2 : rgAll l = (⟨ix, st, tbOf rs⟩, bad) := HR.out.trans hre.out.symm
  have hpg := parse_rg l hR2
  clear hre hR2
  generalize tbOf rs = t at *
  have c2 := blk_cell hra.rd 2 (.bool bad) rfl
  cases bad
  case true =>
    rw [if_neg (fun h => by cases h.1)] at hpg
    have HP := Lib.hid hpg
    clear hpg
    have B2 := hra.res
    go_wp2_with ((first | (with_reducible refine wpList_stB 49 _ _ ?_) | (with_reducible refine wp_stB 49 _ _ ?_)); refine ⟨_, _, _, ⟨_, _, _, Try.sizeOf49, rfl, ‹_›, imA_over 0 none 0 0 zeroT 0 (.slice none 0 0) zeroT⟩, ?_⟩; intro w5 B5 hg5)
    refine bodyPost_ret (results_c1t1 rfl rfl (run_loadVar_all Try.isAgg49 Try.sizeOf49 B5 rfl)) rfl ?_
    refine ⟨?_, bl_st hra.bl hg5 (by have := hra.size; omega) (Nat.le_refl _)⟩
    unfold ParseRes
    rw [HP.out]
    rfl
  case false =>
    cases hm : mayI ⟨ix, st, t⟩
    case false =>
      rw [if_neg (fun h => by have := h.2.1; rw [hm] at this; cases this)] at hpg
      have HP := Lib.hid hpg
      have HM := Lib.hid hm
      clear hpg hm
      have B3 := hra.im
      go_wp2_with (first
        | ((with_reducible refine wpList_ldB 49 _ ?_); refine ⟨rfl, _, ⟨_, _, _, _, _, Try.isAgg49, Try.sizeOf49, rfl, ‹_›, imA_all _ _ _⟩, ?_⟩)
        | (go_at_call 25; refine (rprint_no ⟨ix, st, t⟩ a' cap' HM.out _ hra.sl (by simp only; omega) (fun q hq => by have := hks q hq; omega)).mono ?_; rintro en w5 ⟨rfl, hb5⟩; have B2 := (hra.below hb5).res)
        | ((first | (with_reducible refine wpList_stB 49 _ _ ?_) | (with_reducible refine wp_stB 49 _ _ ?_)); refine ⟨_, _, _, ⟨_, _, _, Try.sizeOf49, rfl, ‹_›, imA_over 0 none 0 0 zeroT 0 (.slice none 0 0) zeroT⟩, ?_⟩; intro w6 B6 hg6))
      refine bodyPost_ret (results_c1t1 rfl rfl (run_loadVar_all Try.isAgg49 Try.sizeOf49 B6 rfl)) rfl ?_
      refine ⟨?_, bl_st (hra.below hb5).bl hg6 (by have := (hra.below hb5).size; omega) (Nat.le_refl _)⟩
      unfold ParseRes
      rw [HP.out]
      rfl
    case true =>
      have HM := Lib.hid hm
      obtain ⟨lm, hlm⟩ : ∃ lm, imB ⟨ix, st, t⟩ = lm := ⟨_, rfl⟩
      rw [hlm] at hpg
      have HLM := Lib.hid hlm
      clear hm hlm
      have B3 := hra.im
      refine wp_seq_k (fun K hK => ?_)
      have HK := Lib.hid hK
      clear hK
      go_wp2
      refine HK.out _ _ ?_
      clear HK
      refine wp_seq_k (fun K hK => ?_)
      have HK := Lib.hid hK
      clear hK
      go_wp2_with (first
              | ((with_reducible refine wpList_ldB 49 _ ?_); refine ⟨rfl, _, ⟨_, _, _, _, _, Try.isAgg49, Try.sizeOf49, rfl, ‹_›, imA_all _ _ _⟩, ?_⟩)
              | (go_at_call 25; refine (rprint_yes ⟨ix, st, t⟩ a' cap' lm HM.out HLM.out _ hra.sl (by simp only; omega) (fun q hq => by have := hks q hq; omega)).mono ?_; rintro en w5 ⟨⟨ax, cx, rfl, sx⟩, hb5⟩))
      refine HK.out _ _ ?_
      clear HK
      have hra5 := hra.below hb5
      have hc1 := conv_bytes ax cx lm w5 sx.row
      have hc2 := conv_bytes a cap l w5 (HSL.out _ hra5.bl).row
      by_cases he : lm = l
      case pos =>
        subst he
        rw [if_pos ⟨by first | trivial | rfl, HM.out, by first | trivial | rfl⟩] at hpg
        have HP := Lib.hid hpg
        clear hpg
        have B2 := hra5.res
        have B3 := hra5.im
        go_wp2_with (first
          | ((with_reducible refine wpList_ldB 49 _ ?_); refine ⟨rfl, _, ⟨_, _, _, _, _, Try.isAgg49, Try.sizeOf49, rfl, ‹_›, imA_all _ _ _⟩, ?_⟩)
          | ((first | (with_reducible refine wpList_stB 49 _ _ ?_) | (with_reducible refine wp_stB 49 _ _ ?_)); refine ⟨_, _, _, ⟨_, _, _, Try.sizeOf49, rfl, ‹_›, imA_over _ _ _ _ _ 0 (.slice none 0 0) zeroT⟩, ?_⟩; intro w6 B6 hg6))
        refine bodyPost_ret (results_c1t1 rfl rfl (run_loadVar_all Try.isAgg49 Try.sizeOf49 B6 rfl)) rfl ?_
        refine ⟨?_, bl_st hra5.bl hg6 (by have := hra5.size; omega) (Nat.le_refl _)⟩
        unfold ParseRes
        rw [HP.out]
        exact ⟨a', cap', rfl, owns_mono (owns_ne hra5.own hg6 hra5.res (by decide)) (by omega)⟩
      case neg =>
        rw [if_neg (fun h => he h.2.2)] at hpg
        have HP := Lib.hid hpg
        clear hpg
        have hne : ((txOf lm).toList == (txOf l).toList) = false := by rw [txOf_list, txOf_list]; simpa using he
        have B2 := hra5.res
        go_wp2_with (first
          | ((first | (with_reducible refine wpList_stB 49 _ _ ?_) | (with_reducible refine wp_stB 49 _ _ ?_)); refine ⟨_, _, _, ⟨_, _, _, Try.sizeOf49, rfl, ‹_›, imA_over 0 none 0 0 zeroT 0 (.slice none 0 0) zeroT⟩, ?_⟩; intro w6 B6 hg6))
        refine bodyPost_ret (results_c1t1 rfl rfl (run_loadVar_all Try.isAgg49 Try.sizeOf49 B6 rfl)) rfl ?_
        refine ⟨?_, bl_st hra5.bl hg6 (by have := hra5.size; omega) (Nat.le_refl _)⟩
        unfold ParseRes
        rw [HP.out]
        rfl
end Go.Proofs.Ytmnjmjbmnhppfaa

namespace Go.Proofs.Ytmnjmjbmnhppfaa
open Go.RowKit

/-! Both ways of a call as one. -/
def prOf (m : Im) : List UInt8 × Int := if mayI m = true then (imB m, 0) else ([], 2)
theorem prOf_le {m : Im} {lx : List UInt8} {er : Int} (h : prOf m = (lx, er)) : lx.length ≤ 319 := by
  unfold prOf at h
  split at h
  · rename_i hm
    injection h with h1 h2
    rw [← h1]
    exact (imB_len hm).2
  · injection h with h1 h2
    rw [← h1]
    simp
/-- A block of bytes, whatever they are. -/
def AnyC (w : World) (g n : Nat) : Prop := ∃ cs, w.heap[g]? = some (.cells cs 5 (0, 0)) ∧ n ≤ cs.size ∧ ∀ j, j < n → ∃ z, cs[j]? = some (.int .u8 z)
theorem u8_at (cs : Array Value) (z : Int) (k : Nat) (h : k + 1 ≤ cs.size) : k + 1 ≤ cs.size ∧ (Value.int .u8 z).cells.size = 1 ∧ (∀ u ∈ (Value.int .u8 z).cells.toList, u.oneCell' = true) ∧ (cs.toList.take k ++ (Value.int .u8 z).cells.toList ++ cs.toList.drop (k + 1)).toArray = (cs.toList.take k ++ (Value.int .u8 z).cells.toList ++ cs.toList.drop (k + 1)).toArray :=
  ⟨h, rfl, by simp [Value.cells, Value.oneCell'], rfl⟩
theorem any_set {cs : Array Value} {n k : Nat} {z : Int} (hn : n ≤ cs.size) (h : ∀ j, j < n → ∃ z, cs[j]? = some (.int .u8 z)) (hk : k < n) :
    n ≤ (cs.toList.take k ++ (Value.int .u8 z).cells.toList ++ cs.toList.drop (k + 1)).toArray.size ∧ ∀ j, j < n → ∃ z', (cs.toList.take k ++ (Value.int .u8 z).cells.toList ++ cs.toList.drop (k + 1)).toArray[j]? = some (.int .u8 z') := by
  have hl : (cs.toList.take k).length = k := by rw [List.length_take, Array.length_toList]; omega
  have hc : (Value.int .u8 z).cells.toList = [Value.int .u8 z] := rfl
  rw [hc]
  refine ⟨by simp; omega, fun j hj => ?_⟩
  rw [List.getElem?_toArray, List.append_assoc]
  rcases Nat.lt_trichotomy j k with hjk | rfl | hjk
  · rw [List.getElem?_append_left (by rw [hl]; exact hjk), List.getElem?_take_of_lt hjk, Array.getElem?_toList]
    exact h j hj
  · rw [List.getElem?_append_right (by rw [hl]; omega), hl, Nat.sub_self]
    exact ⟨z, rfl⟩
  · rw [List.getElem?_append_right (by rw [hl]; omega), hl, List.singleton_append, show j - k = (j - k - 1) + 1 by omega, List.getElem?_cons_succ, List.getElem?_drop, Array.getElem?_toList, show k + 1 + (j - k - 1) = j by omega]
    exact h j hj
theorem print_v (m : Im) (a : Option Addr) (cap : Nat) (lx : List UInt8) (er : Int) (h : prOf m = (lx, er)) (w : World) (hs : SlP w a cap m.st) (h8 : m.st.length ≤ 1000) :
    Calls Try.prog 24 #[.agg (imA m.idx (.slice a m.st.length cap) m.tb)] w fun e w' => (∃ ax cx, e = .returned (.tuple #[.slice ax lx.length cx, .int .i64 er]) ∧ SlB w' ax cx lx ∧ (lx = [] ∨ ∃ g, ax = some ⟨g, 0, none⟩ ∧ w.heap.size ≤ g ∧ AnyC w' g lx.length)) ∧ Below w.heap.size w w' := by
  refine (print_any m a cap w hs h8).mono ?_
  rintro e w' ⟨h2, hb⟩
  refine ⟨?_, hb⟩
  unfold PrintRes at h2
  unfold prOf at h
  split at h
  · rename_i hm
    injection h with e1 e2
    subst e1 e2
    rw [if_pos hm] at h2
    obtain ⟨v, rfl, ho⟩ := h2
    obtain ⟨g, cx, cur, rfl, hb, hg, h1, h2, h3, h4⟩ := ho.ex
    obtain ⟨ax, cx2, hv, hx⟩ := ho.open
    injection hv with e1 _ e3
    subst e1 e3
    refine ⟨_, _, rfl, hx, .inr ⟨g, rfl, hb, cur, hg, by omega, fun j hj => ?_⟩⟩
    have h5 : (cur.toList.take (imB m).length)[j]? = (bys (imB m))[j]? := by rw [h4]
    rw [List.getElem?_take_of_lt hj, Array.getElem?_toList] at h5
    rw [h5, bys, List.getElem?_map, List.getElem?_eq_getElem hj]
    exact ⟨_, rfl⟩
  · rename_i hm
    injection h with e1 e2
    subst e1 e2
    rw [if_neg hm] at h2
    exact ⟨none, 0, h2, ⟨.inl rfl, by simp, by simp [maxLen], fun _ => rfl⟩, .inl rfl⟩
theorem rprint_v (m : Im) (a : Option Addr) (cap : Nat) (lx : List UInt8) (er : Int) (h : prOf m = (lx, er)) (w : World) (hs : SlP w a cap m.st) (h8 : m.st.length ≤ 1000) (hsm : ∀ p ∈ m.st, p.1.size ≤ 100000) :
    Calls Try.prog 25 #[.agg (imA m.idx (.slice a m.st.length cap) m.tb)] w fun e w' => (∃ ax cx, e = .returned (.tuple #[.slice ax lx.length cx, .int .i64 er]) ∧ w'.ownsRow w.heap.size 5 1 (.slice ax lx.length cx) lx.length (bys lx)) ∧ Below w.heap.size w w' := by
  refine (rprint_any m a cap w hs h8 hsm).mono ?_
  rintro e w' ⟨h2, hb⟩
  refine ⟨?_, hb⟩
  unfold RPrintRes at h2
  unfold prOf at h
  split at h
  · rename_i hm
    injection h with e1 e2
    subst e1 e2
    rw [if_pos hm] at h2
    obtain ⟨v, rfl, ho⟩ := h2
    obtain ⟨ax, cx, rfl, hx⟩ := SlB.of_owns ho
    exact ⟨ax, cx, rfl, ho⟩
  · rename_i hm
    injection h with e1 e2
    subst e1 e2
    rw [if_neg hm] at h2
    exact ⟨none, 0, h2, World.ownsRow_nil _ _ _ _⟩
def paOf (l : List UInt8) : Im × Int := match parseI l with | none => (zeroI, 230) | some m => (m, 0)
theorem parse_w {base : Nat} {l : List UInt8} {q : Im} {er : Int} (h : paOf l = (q, er)) {e : Ending} {w' : World} (h2 : ParseRes base l e w') : ∃ ap cp, e = .returned (.tuple #[.agg (imA q.idx (.slice ap q.st.length cp) q.tb), .int .i64 er]) ∧ SlP w' ap cp q.st := by
  unfold ParseRes at h2
  unfold paOf at h
  cases hp : parseI l with
  | none =>
    rw [hp] at h h2
    simp only at h h2
    injection h with e1 e2
    subst e1 e2
    exact ⟨none, 0, h2, nilP _⟩
  | some m =>
    rw [hp] at h h2
    simp only at h h2
    injection h with e1 e2
    subst e1 e2
    obtain ⟨ap, cp, rfl, ho⟩ := h2
    exact ⟨ap, cp, rfl, SlP.of_own1 ho⟩
theorem paOf_len {l : List UInt8} {q : Im} {er : Int} (h : paOf l = (q, er)) : q.st.length ≤ 8 := by
  unfold paOf at h
  split at h
  · injection h with e1 e2
    subst e1
    exact Nat.zero_le _
  · rename_i m hp
    injection h with e1 e2
    subst e1
    exact (may_spec (mayI_parts ((parse_iff _ _).1 hp).1).2.2.1).1
theorem parse_v (a : Option Addr) (cap n : Nat) (l : List UInt8) (q : Im) (er : Int) (h : paOf l = (q, er)) (hn : l.length = n) (hl : n ≤ 1000000) (w : World) (hs : SlB w a cap l) :
    Calls Try.prog 26 #[.slice a n cap] w fun e w' => (∃ ap cp, e = .returned (.tuple #[.agg (imA q.idx (.slice ap q.st.length cp) q.tb), .int .i64 er]) ∧ SlP w' ap cp q.st) ∧ Below w.heap.size w w' := by
  subst hn
  exact (parse_any a cap l w hs hl).mono fun e w' h2 => ⟨parse_w h h2.1, h2.2⟩
theorem rparse_v (a : Option Addr) (cap n : Nat) (l : List UInt8) (q : Im) (er : Int) (h : paOf l = (q, er)) (hn : l.length = n) (hl : n ≤ 1000000) (w : World) (hs : SlB w a cap l) :
    Calls Try.prog 27 #[.slice a n cap] w fun e w' => (∃ ap cp, e = .returned (.tuple #[.agg (imA q.idx (.slice ap q.st.length cp) q.tb), .int .i64 er]) ∧ SlP w' ap cp q.st) ∧ Below w.heap.size w w' := by
  subst hn
  exact (rparse_any a cap l w hs hl).mono fun e w' h2 => ⟨parse_w h h2.1, h2.2⟩

set_option maxRecDepth 100000 in
set_option maxHeartbeats 2000000 in
theorem bytes_law (m : Im) (a : Option Addr) (cap : Nat) (l : List UInt8) (ab : Option Addr) (cb : Nat) (w : World) (hs : SlP w a cap m.st) (hsb : SlB w ab cb l) :
    Calls Try.prog 4 #[.agg (imA m.idx (.slice a m.st.length cap) m.tb), .slice ab l.length cb] w fun en w' => en = .returned (.bool true) ∧ Below w.heap.size w w' := by
  have hb0 := blw w (Obj.cells (imA m.idx (.slice a m.st.length cap) m.tb) 49)
  have B2 := heap_alloc_new w (Obj.cells (imA m.idx (.slice a m.st.length cap) m.tb) 49)
  have hs0 := hs.below hb0
  have hsb0 := hsb.below hb0
  have hmx := hsb.max
  have hlc := hsb.le
  unfold maxLen at hmx
  go_enter Try.func4, Try.ntmps4
  refine wp_seq_k (fun K hK => ?_)
  have HK := Lib.hid hK
  clear hK
  go_wp2
  refine HK.out _ _ ?_
  clear HK
  change Code.wp _ _ _ _ (w.alloc (Obj.cells (imA m.idx (.slice a m.st.length cap) m.tb) 49))
  generalize w.alloc (Obj.cells (imA m.idx (.slice a m.st.length cap) m.tb) 49) = w0 at *
  cases hg : greatI m
  case true =>
    have HG := Lib.hid hg
    clear hg
    go_wp2_with (first
      | ((with_reducible refine wpList_ldB 49 _ ?_); refine ⟨rfl, _, ⟨_, _, _, _, _, Try.isAgg49, Try.sizeOf49, rfl, ‹_›, imA_all _ _ _⟩, ?_⟩)
      | (go_at_call 23; refine (greatI_any _ _ _ _ hs0 _ HG.out).mono ?_; rintro en w1 ⟨rfl, hb1⟩))
    go_ret
    exact ⟨rfl, step_b hb0 hb1⟩
  case false =>
    have HG := Lib.hid hg
    have hgs : greatB m.st = false := by
      unfold greatI at hg
      rw [Bool.or_eq_false_iff] at hg
      exact hg.2
    have hl40 := (great_no hgs).1
    have HSM : Hid (∀ p ∈ m.st, p.1.size ≤ 100000) := Lib.hid (great_no hgs).2
    clear hg hgs
    by_cases hlong : 1000 < l.length
    · go_wp2_with (first
        | ((with_reducible refine wpList_ldB 49 _ ?_); refine ⟨rfl, _, ⟨_, _, _, _, _, Try.isAgg49, Try.sizeOf49, rfl, ‹_›, imA_all _ _ _⟩, ?_⟩)
        | (go_at_call 23; refine (greatI_any _ _ _ _ hs0 _ HG.out).mono ?_; rintro en w1 ⟨rfl, hb1⟩))
      go_ret
      exact ⟨rfl, step_b hb0 hb1⟩
    refine wp_seq_k (fun K hK => ?_)
    have HK := Lib.hid hK
    clear hK
    go_wp2_with (first
          | ((with_reducible refine wpList_ldB 49 _ ?_); refine ⟨rfl, _, ⟨_, _, _, _, _, Try.isAgg49, Try.sizeOf49, rfl, ‹_›, imA_all _ _ _⟩, ?_⟩)
          | (go_at_call 23; refine (greatI_any _ _ _ _ hs0 _ HG.out).mono ?_; rintro en w1 ⟨rfl, hb1⟩))
    refine HK.out _ _ ?_
    clear HK
    have B2 := tr_bl hb1 B2
    have B2w := B2
    have hs1 := hs0.below hb1
    have hsb1 := hsb0.below hb1
    have hb1 := step_b hb0 hb1
    clear hb0 hs0 hsb0
    obtain ⟨⟨lx, er⟩, hpr⟩ : ∃ x, prOf m = x := ⟨_, rfl⟩
    obtain ⟨⟨q, eq⟩, hpa⟩ : ∃ x, paOf l = x := ⟨_, rfl⟩
    have hlx := prOf_le hpr
    have hq8 := paOf_len hpa
    have HPR := Lib.hid hpr
    have HPA := Lib.hid hpa
    clear hpr hpa
    refine wp_seq_k (fun K hK => ?_)
    have HK := Lib.hid hK
    clear hK
    go_wp2_with (first
          | ((with_reducible refine wpList_ldB 49 _ ?_); refine ⟨rfl, _, ⟨_, _, _, _, _, Try.isAgg49, Try.sizeOf49, rfl, ‹_›, imA_all _ _ _⟩, ?_⟩)
          | (go_at_call 24; refine (print_v m a cap lx er HPR.out _ hs1 (by omega)).mono ?_; rintro en w2 ⟨⟨ax, cx, rfl, sx, ox⟩, hb2⟩))
    refine HK.out _ _ ?_
    clear HK
    have B2 := tr_bl hb2 B2
    have hs2 := hs1.below hb2
    have hsb2 := hsb1.below hb2
    have hbx := step_b hb1 hb2
    refine wp_seq_k (fun K hK => ?_)
    have HK := Lib.hid hK
    clear hK
    go_wp2_with (first
          | ((with_reducible refine wpList_ldB 49 _ ?_); refine ⟨rfl, _, ⟨_, _, _, _, _, Try.isAgg49, Try.sizeOf49, rfl, ‹_›, imA_all _ _ _⟩, ?_⟩)
          | (go_at_call 25; refine (rprint_v m a cap lx er HPR.out _ hs2 (by omega) HSM.out).mono ?_; rintro en w3 ⟨⟨ay, cy, rfl, oy⟩, hb3⟩))
    refine HK.out _ _ ?_
    clear HK
    have B2 := tr_bl hb3 B2
    have hs3 := hs2.below hb3
    have hsb3 := hsb2.below hb3
    have hby := step_b hbx hb3
    have ry : Row w3 ay (bys lx) := by
      obtain ⟨a', c', hv, hr, _⟩ := Row.of_owns oy
      injection hv with e1 _ _
      subst e1
      exact hr
    have hc1 := conv_bytes ax cx lx w3 (sx.below hb3).row
    have hc2 := conv_bytes ay cy lx w3 ry
    refine wp_seq_k (fun K hK => ?_)
    have HK := Lib.hid hK
    clear hK
    go_wp2
    refine HK.out _ _ ?_
    clear HK
    clear hc1 hc2 sx
    have HS0 : Hid (∀ w', Below w.heap.size w w' → SlP w' a cap m.st) := Lib.hid (fun w' h => hs.below h)
    have HSB0 : Hid (∀ w', Below w.heap.size w w' → SlB w' ab cb l) := Lib.hid (fun w' h => hsb.below h)
    have hz1 : w.heap.size + 1 ≤ w1.heap.size := lt_blk B2w
    have hz3 := hby.size
    refine wp_seq_k (fun K hK => ?_)
    go_cut [9] (fun _ wx => wx.heap[w.heap.size]? = some (.cells (imA m.idx (.slice a m.st.length cap) m.tb) 49 (0, 0)) ∧ Row wx ay (bys lx) ∧ Below w.heap.size w wx)
    case first =>
      rcases ox with rfl | ⟨g, rfl, hg1, cs0, hC, hn0, hC0⟩
      case inl =>
        go_wp2_with fail
        go_loopw [9] (fun i wr => i = .int .i64 0 ∧ wr = w3) (fun _ _ => 0)
        case atStart => exact ⟨rfl, rfl⟩
        case round =>
          obtain ⟨rfl, rfl⟩ := hrel
          go_wp2
          go_meet
          exact ⟨B2, ry, hby⟩
      case inr =>
        have hg2 := lt_blk hC
        have hC3 := tr_bl hb3 hC
        go_wp2_with fail
        go_loopw [9] (fun i wr => ∃ k : Nat, k ≤ lx.length ∧ i = .int .i64 (k : Nat) ∧ AnyC wr g lx.length ∧ w3.grownBy wr (some g)) (fun i _ => lx.length - (intOf i).toNat)
        case atStart => exact ⟨0, by omega, rfl, ⟨cs0, hC3, hn0, hC0⟩, World.grownBy.refl _ _⟩
        case round =>
          obtain ⟨k, hk, rfl, ⟨cs, hB, hn, hz⟩, hgr⟩ := hrel
          by_cases hlt : k < lx.length
          case neg =>
            go_wp2
            go_meet
            refine ⟨tr_st hgr B2 (by omega), ?_, bl_st hby hgr (by omega) (by omega)⟩
            have o2 := owns_st oy hgr (by omega)
            obtain ⟨a', c', hv, hr, _⟩ := Row.of_owns o2
            injection hv with e1 _ _
            subst e1
            exact hr
          case pos =>
            obtain ⟨z, hzk⟩ := hz k hlt
            have c := blk_cell hB k _ hzk
            go_wp2_with ((first | (with_reducible refine wpList_stB 5 _ _ ?_) | (with_reducible refine wp_stB 5 _ _ ?_)); refine ⟨_, _, _, ⟨_, _, _, Try.sizeOf5, rfl, ‹_›, u8_at _ _ _ (by omega)⟩, ?_⟩; intro w5 B5 g5)
            go_roundw
            case rel => exact ⟨k + 1, by omega, by go_num, ⟨_, B5, any_set hn hz hlt⟩, gb_trans hgr g5 (fun _ e => .inr e)⟩
            case measure => simp [intOf]; omega
    clear hs1 hs2 hs3 hsb1 hsb2 hsb3 B2 ry oy ox hbx hby hb1 hb2 hb3
    obtain ⟨B2, ry, hbL⟩ := hcut
    refine hK _ _ ?_; clear hK
    refine wp_seq_k (fun K hK => ?_)
    have HK := Lib.hid hK
    clear hK
    go_wp2_with (first
          | ((with_reducible refine wpList_ldB 49 _ ?_); refine ⟨rfl, _, ⟨_, _, _, _, _, Try.isAgg49, Try.sizeOf49, rfl, ‹_›, imA_all _ _ _⟩, ?_⟩)
          | (go_at_call 24; refine (print_v m a cap lx er HPR.out _ (HS0.out _ hbL) (by omega)).mono ?_; rintro en w5 ⟨⟨az, cz, rfl, sz, _⟩, hb5⟩))
    refine HK.out _ _ ?_
    clear HK
    have B2 := tr_bl hb5 B2
    have ry := ry.below0 hb5
    have hb5 := step_b hbL hb5
    clear hbL
    refine wp_seq_k (fun K hK => ?_)
    have HK := Lib.hid hK
    clear hK
    go_wp2_with (at_builtin; refine wpList_append_row rfl _ _ 26 5 elByte rfl w5.heap.size _ 0 [] rfl (owns_empty w5 5 1) ab l.length cb (bys l) rfl (by simp [bys_len]) ((HSB0.out _ hb5).below (blw w5 _)).row bys_one (by omega) (by decide) (by simp) ?_; intro v6 w6 ho6 hb6)
    refine HK.out _ _ ?_
    clear HK
    have hb6 := (blw w5 (Obj.cells #[] 5)).trans hb6
    have ho6 : w6.ownsRow w5.heap.size 5 1 v6 l.length (bys l) := by rw [Nat.zero_add, List.nil_append] at ho6; exact ho6
    obtain ⟨am, cm, rfl, sm⟩ := SlB.of_owns ho6
    have B2 := tr_bl hb6 B2
    have ry := ry.below0 hb6
    have sz := sz.below hb6
    have hb6 := step_b hb5 hb6
    clear ho6 hb5
    refine wp_seq_k (fun K hK => ?_)
    have HK := Lib.hid hK
    clear hK
    go_wp2_with (first
          | (go_at_call 26; refine (parse_v am cm l.length l q eq HPA.out rfl (by omega) _ sm).mono ?_; rintro en w7 ⟨⟨ap, cp, rfl, sp⟩, hb7⟩)
          | ((first | (with_reducible refine wpList_stNew 49 _ _ ?_) | (with_reducible refine wp_stNew 49 _ _ ?_)); refine ⟨_, _, ⟨Try.sizeOf49, rfl, imA_new _ _ _ _ _⟩, rfl, ?_⟩))
    refine HK.out _ _ ?_
    clear HK
    have B13 := heap_alloc_new w7 (Obj.cells (imA q.idx (.slice ap q.st.length cp) q.tb) 49)
    have hb7 := hb7.trans ((blw w7 (Obj.cells (imA q.idx (.slice ap q.st.length cp) q.tb) 49)).mono hb7.size)
    have sp := sp.below (blw w7 (Obj.cells (imA q.idx (.slice ap q.st.length cp) q.tb) 49))
    have B2 := tr_bl hb7 B2
    have ry := ry.below0 hb7
    have sz := sz.below hb7
    have sm := sm.below hb7
    have hb7 := step_b hb6 hb7
    clear hb6
    generalize w7.alloc (Obj.cells (imA q.idx (.slice ap q.st.length cp) q.tb) 49) = w8 at *
    obtain ⟨g13, hg13⟩ : ∃ g, w7.heap.size = g := ⟨_, rfl⟩
    simp only [hg13] at B13 ⊢
    clear hg13
    refine wp_seq_k (fun K hK => ?_)
    have HK := Lib.hid hK
    clear hK
    go_wp2_with (first
          | (go_at_call 27; refine (rparse_v ab cb l.length l q eq HPA.out rfl (by omega) _ (HSB0.out _ hb7)).mono ?_; rintro en w9 ⟨⟨aq, cq, rfl, sq⟩, hb9⟩)
          | ((first | (with_reducible refine wpList_stNew 49 _ _ ?_) | (with_reducible refine wp_stNew 49 _ _ ?_)); refine ⟨_, _, ⟨Try.sizeOf49, rfl, imA_new _ _ _ _ _⟩, rfl, ?_⟩))
    refine HK.out _ _ ?_
    clear HK
    have B15 := heap_alloc_new w9 (Obj.cells (imA q.idx (.slice aq q.st.length cq) q.tb) 49)
    have hb9 := hb9.trans ((blw w9 (Obj.cells (imA q.idx (.slice aq q.st.length cq) q.tb) 49)).mono hb9.size)
    have sq := sq.below (blw w9 (Obj.cells (imA q.idx (.slice aq q.st.length cq) q.tb) 49))
    have B2 := tr_bl hb9 B2
    have B13 := tr_bl hb9 B13
    have ry := ry.below0 hb9
    have sz := sz.below hb9
    have sm := sm.below hb9
    have sp := sp.below hb9
    have hb9 := step_b hb7 hb9
    clear hb7
    generalize w9.alloc (Obj.cells (imA q.idx (.slice aq q.st.length cq) q.tb) 49) = w10 at *
    obtain ⟨g15, hg15⟩ : ∃ g, w9.heap.size = g := ⟨_, rfl⟩
    simp only [hg15] at B15 ⊢
    clear hg15
    obtain ⟨r, hr⟩ : ∃ r, sameI m q = r := ⟨_, rfl⟩
    have HR := Lib.hid hr
    clear hr
    go_wp2_with fail
    refine wp_region_cls (C := fun w' => Below w10.heap.size w10 w') (by kernel_rfl) (by kernel_rfl) (Below.refl _ _).drew ?_
    refine wpQuiet_val (by rfl) ?_ ?_ ?_
    rotate_left
    · intro wS hSw
      go_simp
      (try with_reducible rfl)
    (try simp only [Act.put])
    (try simp only [List.setIfInBounds_toArray])
    (try simp only [List.set_cons_succ])
    (try simp only [List.set_cons_zero])
    refine wpQuiet_val (by rfl) (.string (txOf lx)) (fun wS hSw => ?_) ?_
    · exact exec_conv _ az cz lx.length lx rfl rfl (sz.below hSw).row
    (try simp only [Act.put])
    (try simp only [List.setIfInBounds_toArray])
    (try simp only [List.set_cons_succ])
    (try simp only [List.set_cons_zero])
    refine wpQuiet_val (by rfl) ?_ ?_ ?_
    rotate_left
    · intro wS hSw
      go_simp
      (try with_reducible rfl)
    (try simp only [Act.put])
    (try simp only [List.setIfInBounds_toArray])
    (try simp only [List.set_cons_succ])
    (try simp only [List.set_cons_zero])
    refine wpQuiet_val (by rfl) (.string (txOf lx)) (fun wS hSw => ?_) ?_
    · exact exec_conv _ ay cy lx.length lx rfl rfl (ry.below0 hSw)
    (try simp only [Act.put])
    (try simp only [List.setIfInBounds_toArray])
    (try simp only [List.set_cons_succ])
    (try simp only [List.set_cons_zero])
    refine wpQuiet_val (by rfl) (.bool true) (fun wS hSw => ?_) ?_
    · go_simp
    (try simp only [Act.put])
    (try simp only [List.setIfInBounds_toArray])
    (try simp only [List.set_cons_succ])
    (try simp only [List.set_cons_zero])
    refine wpQuiet_val (by rfl) ?_ ?_ ?_
    rotate_left
    · intro wS hSw
      go_simp
      (try with_reducible rfl)
    (try simp only [Act.put])
    (try simp only [List.setIfInBounds_toArray])
    (try simp only [List.set_cons_succ])
    (try simp only [List.set_cons_zero])
    refine wpQuiet_val (by rfl) ?_ ?_ ?_
    rotate_left
    · intro wS hSw
      go_simp
      (try with_reducible rfl)
    (try simp only [Act.put])
    (try simp only [List.setIfInBounds_toArray])
    (try simp only [List.set_cons_succ])
    (try simp only [List.set_cons_zero])
    refine wpQuiet_val (by rfl) (.string (txOf l)) (fun wS hSw => ?_) ?_
    · exact exec_conv _ am cm l.length l rfl rfl (sm.below hSw).row
    (try simp only [Act.put])
    (try simp only [List.setIfInBounds_toArray])
    (try simp only [List.set_cons_succ])
    (try simp only [List.set_cons_zero])
    refine wpQuiet_val (by rfl) ?_ ?_ ?_
    rotate_left
    · intro wS hSw
      go_simp
      (try with_reducible rfl)
    (try simp only [Act.put])
    (try simp only [List.setIfInBounds_toArray])
    (try simp only [List.set_cons_succ])
    (try simp only [List.set_cons_zero])
    refine wpQuiet_val (by rfl) (.string (txOf l)) (fun wS hSw => ?_) ?_
    · exact exec_conv _ ab cb l.length l rfl rfl ((HSB0.out _ hb9).below hSw).row
    (try simp only [Act.put])
    (try simp only [List.setIfInBounds_toArray])
    (try simp only [List.set_cons_succ])
    (try simp only [List.set_cons_zero])
    refine wpQuiet_val (by rfl) (.bool true) (fun wS hSw => ?_) ?_
    · go_simp
    (try simp only [Act.put])
    (try simp only [List.setIfInBounds_toArray])
    (try simp only [List.set_cons_succ])
    (try simp only [List.set_cons_zero])
    refine wpQuiet_val (by rfl) ?_ ?_ ?_
    rotate_left
    · intro wS hSw
      go_simp
      (try with_reducible rfl)
    (try simp only [Act.put])
    (try simp only [List.setIfInBounds_toArray])
    (try simp only [List.set_cons_succ])
    (try simp only [List.set_cons_zero])
    refine wpQuiet_val (by rfl) ?_ ?_ ?_
    rotate_left
    · intro wS hSw
      go_simp
      (try with_reducible rfl)
    (try simp only [Act.put])
    (try simp only [List.setIfInBounds_toArray])
    (try simp only [List.set_cons_succ])
    (try simp only [List.set_cons_zero])
    refine wpQuiet_val (by rfl) ?_ ?_ ?_
    rotate_left
    · intro wS hSw
      go_simp
      (try with_reducible rfl)
    (try simp only [Act.put])
    (try simp only [List.setIfInBounds_toArray])
    (try simp only [List.set_cons_succ])
    (try simp only [List.set_cons_zero])
    refine wpQuiet_val (by rfl) ?_ ?_ ?_
    rotate_left
    · intro wS hSw
      go_simp
      (try with_reducible rfl)
    (try simp only [Act.put])
    (try simp only [List.setIfInBounds_toArray])
    (try simp only [List.set_cons_succ])
    (try simp only [List.set_cons_zero])
    refine wpQuiet_val (by rfl) (.bool true) (fun wS hSw => ?_) ?_
    · go_simp
    (try simp only [Act.put])
    (try simp only [List.setIfInBounds_toArray])
    (try simp only [List.set_cons_succ])
    (try simp only [List.set_cons_zero])
    refine wpQuiet_val (by rfl) ?_ ?_ ?_
    rotate_left
    · intro wS hSw
      go_simp
      (try with_reducible rfl)
    (try simp only [Act.put])
    (try simp only [List.setIfInBounds_toArray])
    (try simp only [List.set_cons_succ])
    (try simp only [List.set_cons_zero])
    refine wpQuiet_val (by rfl) ?_ ?_ ?_
    rotate_left
    · intro wS hSw
      go_simp
      (try with_reducible rfl)
    (try simp only [Act.put])
    (try simp only [List.setIfInBounds_toArray])
    (try simp only [List.set_cons_succ])
    (try simp only [List.set_cons_zero])
    refine wpQuiet_val (by rfl) (.agg (imA q.idx (.slice ap q.st.length cp) q.tb)) (fun wS hSw => exec_ldB 49 _ ⟨_, _, _, _, _, Try.isAgg49, Try.sizeOf49, rfl, tr_bl hSw B13, imA_all _ _ _⟩) ?_
    (try simp only [Act.put])
    (try simp only [List.setIfInBounds_toArray])
    (try simp only [List.set_cons_succ])
    (try simp only [List.set_cons_zero])
    refine wpQuiet_val (by rfl) (.agg (imA q.idx (.slice aq q.st.length cq) q.tb)) (fun wS hSw => exec_ldB 49 _ ⟨_, _, _, _, _, Try.isAgg49, Try.sizeOf49, rfl, tr_bl hSw B15, imA_all _ _ _⟩) ?_
    (try simp only [Act.put])
    (try simp only [List.setIfInBounds_toArray])
    (try simp only [List.set_cons_succ])
    (try simp only [List.set_cons_zero])
    refine wpQuiet_gen (by rfl) (.bool true) (fun wS hSw => ?_) ?_
    · unfold Oper.quietAt
      go_simp
      (try refine ⟨rfl, ?_⟩)
      exact (risame_any q q ap aq cp cq _ (sp.below hSw).row (sq.below hSw).row (by omega) (by omega) true (sameI_refl q)).mono fun _ _ h => ⟨h.1, step_b hSw h.2⟩
    (try simp only [Act.put])
    (try simp only [List.setIfInBounds_toArray])
    (try simp only [List.set_cons_succ])
    (try simp only [List.set_cons_zero])
    refine wpQuiet_val (by rfl) ?_ ?_ ?_
    rotate_left
    · intro wS hSw
      go_simp
      (try with_reducible rfl)
    (try simp only [Act.put])
    (try simp only [List.setIfInBounds_toArray])
    (try simp only [List.set_cons_succ])
    (try simp only [List.set_cons_zero])
    refine wpQuiet_val (by rfl) ?_ ?_ ?_
    rotate_left
    · intro wS hSw
      go_simp
      (try with_reducible rfl)
    (try simp only [Act.put])
    (try simp only [List.setIfInBounds_toArray])
    (try simp only [List.set_cons_succ])
    (try simp only [List.set_cons_zero])
    refine wpQuiet_val (by rfl) (.agg (imA m.idx (.slice a m.st.length cap) m.tb)) (fun wS hSw => exec_ldB 49 _ ⟨_, _, _, _, _, Try.isAgg49, Try.sizeOf49, rfl, tr_bl hSw B2, imA_all _ _ _⟩) ?_
    (try simp only [Act.put])
    (try simp only [List.setIfInBounds_toArray])
    (try simp only [List.set_cons_succ])
    (try simp only [List.set_cons_zero])
    refine wpQuiet_val (by rfl) (.agg (imA q.idx (.slice ap q.st.length cp) q.tb)) (fun wS hSw => exec_ldB 49 _ ⟨_, _, _, _, _, Try.isAgg49, Try.sizeOf49, rfl, tr_bl hSw B13, imA_all _ _ _⟩) ?_
    (try simp only [Act.put])
    (try simp only [List.setIfInBounds_toArray])
    (try simp only [List.set_cons_succ])
    (try simp only [List.set_cons_zero])
    refine wpQuiet_gen (by rfl) (.bool r) (fun wS hSw => ?_) ?_
    · unfold Oper.quietAt
      go_simp
      (try refine ⟨rfl, ?_⟩)
      exact (isame_any m q a ap cap cp _ ((HS0.out _ hb9).below hSw).row (sp.below hSw).row (by omega) (by omega) r HR.out).mono fun _ _ h => ⟨h.1, step_b hSw h.2⟩
    (try simp only [Act.put])
    (try simp only [List.setIfInBounds_toArray])
    (try simp only [List.set_cons_succ])
    (try simp only [List.set_cons_zero])
    refine wpQuiet_val (by rfl) (.agg (imA m.idx (.slice a m.st.length cap) m.tb)) (fun wS hSw => exec_ldB 49 _ ⟨_, _, _, _, _, Try.isAgg49, Try.sizeOf49, rfl, tr_bl hSw B2, imA_all _ _ _⟩) ?_
    (try simp only [Act.put])
    (try simp only [List.setIfInBounds_toArray])
    (try simp only [List.set_cons_succ])
    (try simp only [List.set_cons_zero])
    refine wpQuiet_val (by rfl) (.agg (imA q.idx (.slice ap q.st.length cp) q.tb)) (fun wS hSw => exec_ldB 49 _ ⟨_, _, _, _, _, Try.isAgg49, Try.sizeOf49, rfl, tr_bl hSw B13, imA_all _ _ _⟩) ?_
    (try simp only [Act.put])
    (try simp only [List.setIfInBounds_toArray])
    (try simp only [List.set_cons_succ])
    (try simp only [List.set_cons_zero])
    refine wpQuiet_gen (by rfl) (.bool r) (fun wS hSw => ?_) ?_
    · unfold Oper.quietAt
      go_simp
      (try refine ⟨rfl, ?_⟩)
      exact (risame_any m q a ap cap cp _ ((HS0.out _ hb9).below hSw).row (sp.below hSw).row (by omega) (by omega) r HR.out).mono fun _ _ h => ⟨h.1, step_b hSw h.2⟩
    (try simp only [Act.put])
    (try simp only [List.setIfInBounds_toArray])
    (try simp only [List.set_cons_succ])
    (try simp only [List.set_cons_zero])
    refine wpQuiet_val (by rfl) (.bool true) (fun wS hSw => ?_) ?_
    · cases r <;> go_simp
    (try simp only [Act.put])
    (try simp only [List.setIfInBounds_toArray])
    (try simp only [List.set_cons_succ])
    (try simp only [List.set_cons_zero])
    refine wpQuiet_val (by rfl) ?_ ?_ ?_
    rotate_left
    · intro wS hSw
      go_simp
      (try with_reducible rfl)
    (try simp only [Act.put])
    (try simp only [List.setIfInBounds_toArray])
    (try simp only [List.set_cons_succ])
    (try simp only [List.set_cons_zero])
    refine wpQuiet_val (by rfl) ?_ ?_ ?_
    rotate_left
    · intro wS hSw
      go_simp
      (try with_reducible rfl)
    (try simp only [Act.put])
    (try simp only [List.setIfInBounds_toArray])
    (try simp only [List.set_cons_succ])
    (try simp only [List.set_cons_zero])
    refine wpQuiet_nil ?_
    intro wE hE
    go_wp2
    go_ret
    exact ⟨rfl, step_b hb9 hE⟩
end Go.Proofs.Ytmnjmjbmnhppfaa

namespace Go.Proofs.Ytmnjmjbmnhppfaa
open Go.ChangeShapes Go.WideShapes Go.ChangeAt Go.RowKit

theorem Tryown : ownKnob Try.prog.godebug = none := by kernel_rfl
theorem Trylaid : laidOutB Try.prog = true := by kernel_rfl

set_option maxRecDepth 100000 in
theorem bytes_lifted (os : Os) (started : os.Started) (H : Type) (enc : TypeId × Value → H) :
    ReturnsInHanded {} Try.checked os 4 .any (Rows.imageBytesSpec.pre6 enc Try.prog Try.f4 Rows.imageBytesRow.domain false) (Rows.imageBytesSpec.post enc Try.prog Try.f4 false true false false) := by
  refine returnsInHanded_of_change (C := Try.checked) Tryown started (by kernel_rfl) Try.func4
    (ChangeSpec.witness6 (enc := enc) (C := Try.checked) false ⟨#[], #[.agg (imA 0 (.slice none 0 0) zeroT), .slice none 0 0], []⟩ 8 (by kernel_rfl) (by kernel_rfl) (by kernel_rfl) (by kernel_rfl)) ?_
  intro W base args ds gs before hval0 hW hcnd _
  have hval : ∀ (j : Nat) t v, Try.f4.params[j]? = some t → args[j]? = some v → Value.okWide Try.prog W .any base t v := hval0
  have hW' := hW
  obtain ⟨p, q, hA0, hV, rfl, hfz, hnd⟩ := hW
  have hA : DataW.TrodAll enc Try.prog W 0 (fun _ => true) true Try.f4.params.toList args.toList ds p := hA0
  rw [Try.params4] at hA hval
  obtain ⟨v0, v1, d0, d1, p0, p1, rfl, rfl, rfl, h0, h1⟩ := trodAll_two hA
  obtain ⟨rfl, rfl⟩ := trodVars_none hV
  obtain ⟨m, a, cap, rfl, hs⟩ := open_image (hval 0 49 v0 rfl rfl) h0
  obtain ⟨ab, l, cb, rfl, hsb⟩ := open_bytes (hval 1 26 v1 rfl rfl) h1
  clear hA0 hval0
  refine (bytes_law m a cap l ab cb W hs hsb).mono fun en W' ⟨he, hb⟩ => ?_
  subst he
  exact ⟨_, rfl, law_post Trylaid (by kernel_rfl) rfl Try.underlying4 rfl ⟨rfl, rfl, rfl⟩ hW' hb⟩

theorem bytes_holds : Rows.ImageBytesSaid :=
  OpenClaim.holds_of_wide 4 Try.f4 rfl rfl rfl rfl rfl rfl rfl ⟨rfl, rfl, rfl, rfl, rfl⟩ rfl rfl rfl rfl rfl (by kernel_rfl) Try.func4 (by kernel_rfl)
    (of_decide_eq_true (by kernel_rfl)) (by unfold Func.isWrapper; first | (rw [if_pos (by decide +kernel)]; kernel_rfl) | (rw [if_neg (by decide +kernel)]; exact ⟨rfl, rfl⟩))
    (fun os started H enc _ => bytes_lifted os started H enc)
end Go.Proofs.Ytmnjmjbmnhppfaa

