/- Do of an operation that may be. -/
import Derived.Test.YtiipelccmkidbaaK17
import Derived.Test.YtiipelccmkidbaaRows
import Derived.WalkKit
import Derived.WalkSpells
import Derived.WalkLawsBesides
import Derived.Handy
import Derived.Deep.QuietTactic
import Derived.BigQuiet
import Derived.Deep.DeepCutAuto
import Derived.Lib.Hide
import Derived.RegionTactic
import Derived.ChangeAlike
import Derived.Deep.RegionHeld3
import Derived.Laws.ResultCell
import Derived.Outline
import Derived.Laws.EntriesVeiled
namespace Go.Proofs.Ytiipelccmkidbaa
open Go.RowKit

theorem act_cast {P : Program} {f : FuncId} {args : Array Value} {w : World} {base : Nat} {v : Value} {x y : List Pr × Rp} (h : Calls P f args w (ActRes base v w x)) (e : x = y) : Calls P f args w (ActRes base v w y) := by
  subst e
  exact h

set_option maxRecDepth 100000 in
set_option maxHeartbeats 8000000 in
theorem do_kind1 (a : Option Addr) (cap : Nat) (l : List Pr) (key old val : Tx) (w : World) (hs : SlP w a cap l) (hl : l.length ≤ 1000) (hm : mayS l = true) (ho : mayO ⟨1, key, old, val⟩ = true) (lr : List Pr × Rp) (hlr : (l, wasR l key) = lr) :
    Calls Try.prog 8 #[.slice a l.length cap, .agg #[.int .u8 1, .string key, .string old, .string val]] w fun e w' => StRes w.heap.size lr.1 lr.2 e w' ∧ Below w.heap.size w w' := by
  have hb0 : Below w.heap.size w ((w.alloc (Obj.cells #[.int .u8 1, .string key, .string old, .string val] 27)).alloc (Obj.cells #[.int .i64 0, .bool false, .string ⟨#[]⟩] 30)) := ((Below.refl _ _).alloc (Nat.le_refl _) _).alloc (by simp) _
  have hso := may_rises hm
  have hr0 := hs.row.below0 hb0
  have HM := Lib.hid hm
  have HOP := Lib.hid ho
  have HLR := Lib.hid hlr
  clear hm ho hlr
  go_enter Try.func8, Try.ntmps8
  refine wp_seq_k (fun K hK => ?_)
  have HK := Lib.hid hK
  clear hK
  go_wp2
  refine HK.out _ _ ?_
  clear HK
  refine wp_seq_k (fun K hK => ?_)
  have HK := Lib.hid hK
  clear hK
  go_wp2_with (go_at_call 13; refine (may_any _ _ _ _ hr0 hl).mono ?_; rintro e w1 ⟨rfl, hb1⟩; rw [HM.out])
  refine HK.out _ _ ?_
  clear HK
  have hbw1 := hb0.trans (hb1.mono (by simp; omega))
  have hs1 := hb1.size
  simp at hs1
  have b3 := (hb1.block w.heap.size (by simp; omega)).trans ((heap_alloc_old _ _ (by simp)).trans (heap_alloc_new w (Obj.cells #[.int .u8 1, .string key, .string old, .string val] 27)))
  have b5 := (hb1.block (w.heap.size + 1) (by simp)).trans (heap_alloc2_new w _ (Obj.cells #[.int .i64 0, .bool false, .string ⟨#[]⟩] 30))
  have hs1' := hs.below hbw1
  refine wp_seq_k (fun K hK => ?_)
  have HK := Lib.hid hK
  clear hK
  go_wp2_with (go_at_call 14; refine (clone_any _ _ _ _ hs1' hl).mono ?_; rintro e w2 ⟨⟨v2, rfl, hown2⟩, hb2⟩)
  refine HK.out _ _ ?_
  clear HK
  have b3' := (hb2.block w.heap.size (by omega)).trans b3
  have b5' := (hb2.block (w.heap.size + 1) (by omega)).trans b5
  have hs2 := hb2.size
  have hbw2 := hbw1.trans (hb2.mono (by omega))
  obtain ⟨d0, d1, d2, d3⟩ := four b3'
  obtain ⟨a2, cap2, hv2, _⟩ := Row.of_owns hown2
  subst hv2
  have HO2 := Lib.hid hown2
  clear hown2
  refine wp_seq_k (fun K hK => ?_)
  have HK := Lib.hid hK
  clear hK
  go_wp2_with (go_at_call 15; refine (pmayO_any _ _ _ _ _ _ HOP.out).mono ?_; rintro e w3 ⟨rfl, hb3⟩)
  refine HK.out _ _ ?_
  clear HK
  have b3'' := (hb3.block w.heap.size (by omega)).trans b3'
  have b5'' := (hb3.block (w.heap.size + 1) (by omega)).trans b5'
  have hs3 := hb3.size
  have hbw3 := hbw2.trans (hb3.mono (by omega))
  have HO3 := Lib.hid (owns_after HO2.out hb3)
  have hne : (Value.slice a2 l.length cap2).ownBlock ≠ some (w.heap.size + 1) := by
    intro e
    have := (HO2.out.lt _ e).1
    omega
  have hne3 : (Value.slice a2 l.length cap2).ownBlock ≠ some w.heap.size := by
    intro e
    have := (HO2.out.lt _ e).1
    omega
  clear d0 d1 d2 d3
  obtain ⟨d0, d1, d2, d3⟩ := four b3''
  obtain ⟨p0, p1, p2, q0, q1, q2⟩ := trio b5''
  have hbase : w1.heap.size ≤ w3.heap.size := by omega
  go_wp2_with fail
  go_region_held3 (fun w' => w'.cell? ⟨w.heap.size, 0, none⟩ = some (.int .u8 1) ∧ w'.cell? ⟨w.heap.size, 1, none⟩ = some (.string key) ∧ w'.cell? ⟨w.heap.size, 2, none⟩ = some (.string old) ∧ w'.cell? ⟨w.heap.size, 3, none⟩ = some (.string val))
    (first
      | exact ⟨d0, d1, d2, d3⟩
      | (go_split_ands; refine ⟨?_, ?_, ?_, ?_⟩ <;> first | exact gb_keep hgx (by assumption) hne3 | exact keep_b hbd (by assumption))
      | go_keep)
    ((first
      | (go_at_call 16; refine (does_any _).mono ?_; rintro e wd ⟨rfl, hbd0⟩; have hbd : Below w3.heap.size w3 wd := ((Below.refl _ _).drew).trans hbd0; clear hbd0)
      | (go_at_call 25; refine (act_cast (get_own w1.heap.size a2 cap2 l ⟨1, key, old, val⟩ _ (owns_after HO3.out hbd) hl hso) HLR.out).mono ?_; rintro e wx ⟨⟨vx, rfl, hownx⟩, hgx⟩; unfold rpV; have P0 := gb_keep hgx (keep_b hbd p0) hne; have P1 := gb_keep hgx (keep_b hbd p1) hne; have P2 := gb_keep hgx (keep_b hbd p2) hne; have Q0 := gb_keepf hgx (keep_b hbd p0) (keep_bf hbd p0 q0) hne; have Q1 := gb_keepf hgx (keep_b hbd p1) (keep_bf hbd p1 q1) hne; have Q2 := gb_keepf hgx (keep_b hbd p2) (keep_bf hbd p2 q2) hne)))
  go_wp2
  (try simp only [Exit.inBlock, Exit.then])
  refine bodyPost_ret (v := .tuple #[vx, rpV lr.2]) ?hr rfl ⟨⟨_, rfl, ?_⟩, ?_⟩
  case hr =>
    simp only [results, Try.results8]
    go_simp
    try rfl
  · have hB : wx.heap[w.heap.size + 1]? = some (Obj.cells #[.int .i64 0, .bool false, .string ⟨#[]⟩] 30 (0, 0)) := (hgx.block (w.heap.size + 1) (by have := hbd.size; omega) (fun e => hne e.symm)).trans ((hbd.block (w.heap.size + 1) (by omega)).trans b5'')
    have hne4 := own_ne hownx hB (by decide)
    refine owns_mono ?_ (show w.heap.size ≤ w1.heap.size by omega)
    repeat (first | exact hownx | refine World.ownsRow.drew ?_ | refine owns_far ?_ hne4 _)
  · have hbd2 : Below w.heap.size w wd := hbw3.trans (hbd.mono (by omega))
    have hbx : Below w.heap.size w wx := hbd2.trans (gb_to_below hgx hbd2.size (fun k e => by have := (HO2.out.lt _ e).1; omega))
    (repeat' (first | (with_reducible exact Below.refl _ _) | (with_reducible assumption) | (with_reducible refine Below.alloc ?_ ?_ _) | (with_reducible refine Below.drew ?_) | (with_reducible refine below_drewN ?_ _) | (with_reducible refine Below.setCell ?_ ?_ _) | (with_reducible refine Below.trans ?_ (by assumption)) | go_size))

set_option maxRecDepth 100000 in
set_option maxHeartbeats 8000000 in
theorem do_kind2 (a : Option Addr) (cap : Nat) (l : List Pr) (key old val : Tx) (w : World) (hs : SlP w a cap l) (hl : l.length ≤ 1000) (hm : mayS l = true) (ho : mayO ⟨2, key, old, val⟩ = true) (lr : List Pr × Rp) (hlr : (if look l key = none ∧ l.length = 8 then (l, (⟨211, false, ⟨#[]⟩⟩ : Rp)) else (putL l key val, wasR l key)) = lr) :
    Calls Try.prog 8 #[.slice a l.length cap, .agg #[.int .u8 2, .string key, .string old, .string val]] w fun e w' => StRes w.heap.size lr.1 lr.2 e w' ∧ Below w.heap.size w w' := by
  have hb0 : Below w.heap.size w ((w.alloc (Obj.cells #[.int .u8 2, .string key, .string old, .string val] 27)).alloc (Obj.cells #[.int .i64 0, .bool false, .string ⟨#[]⟩] 30)) := ((Below.refl _ _).alloc (Nat.le_refl _) _).alloc (by simp) _
  have hso := may_rises hm
  have hr0 := hs.row.below0 hb0
  have HM := Lib.hid hm
  have HOP := Lib.hid ho
  have HLR := Lib.hid hlr
  clear hm ho hlr
  go_enter Try.func8, Try.ntmps8
  refine wp_seq_k (fun K hK => ?_)
  have HK := Lib.hid hK
  clear hK
  go_wp2
  refine HK.out _ _ ?_
  clear HK
  refine wp_seq_k (fun K hK => ?_)
  have HK := Lib.hid hK
  clear hK
  go_wp2_with (go_at_call 13; refine (may_any _ _ _ _ hr0 hl).mono ?_; rintro e w1 ⟨rfl, hb1⟩; rw [HM.out])
  refine HK.out _ _ ?_
  clear HK
  have hbw1 := hb0.trans (hb1.mono (by simp; omega))
  have hs1 := hb1.size
  simp at hs1
  have b3 := (hb1.block w.heap.size (by simp; omega)).trans ((heap_alloc_old _ _ (by simp)).trans (heap_alloc_new w (Obj.cells #[.int .u8 2, .string key, .string old, .string val] 27)))
  have b5 := (hb1.block (w.heap.size + 1) (by simp)).trans (heap_alloc2_new w _ (Obj.cells #[.int .i64 0, .bool false, .string ⟨#[]⟩] 30))
  have hs1' := hs.below hbw1
  refine wp_seq_k (fun K hK => ?_)
  have HK := Lib.hid hK
  clear hK
  go_wp2_with (go_at_call 14; refine (clone_any _ _ _ _ hs1' hl).mono ?_; rintro e w2 ⟨⟨v2, rfl, hown2⟩, hb2⟩)
  refine HK.out _ _ ?_
  clear HK
  have b3' := (hb2.block w.heap.size (by omega)).trans b3
  have b5' := (hb2.block (w.heap.size + 1) (by omega)).trans b5
  have hs2 := hb2.size
  have hbw2 := hbw1.trans (hb2.mono (by omega))
  obtain ⟨d0, d1, d2, d3⟩ := four b3'
  obtain ⟨a2, cap2, hv2, _⟩ := Row.of_owns hown2
  subst hv2
  have HO2 := Lib.hid hown2
  clear hown2
  refine wp_seq_k (fun K hK => ?_)
  have HK := Lib.hid hK
  clear hK
  go_wp2_with (go_at_call 15; refine (pmayO_any _ _ _ _ _ _ HOP.out).mono ?_; rintro e w3 ⟨rfl, hb3⟩)
  refine HK.out _ _ ?_
  clear HK
  have b3'' := (hb3.block w.heap.size (by omega)).trans b3'
  have b5'' := (hb3.block (w.heap.size + 1) (by omega)).trans b5'
  have hs3 := hb3.size
  have hbw3 := hbw2.trans (hb3.mono (by omega))
  have HO3 := Lib.hid (owns_after HO2.out hb3)
  have hne : (Value.slice a2 l.length cap2).ownBlock ≠ some (w.heap.size + 1) := by
    intro e
    have := (HO2.out.lt _ e).1
    omega
  have hne3 : (Value.slice a2 l.length cap2).ownBlock ≠ some w.heap.size := by
    intro e
    have := (HO2.out.lt _ e).1
    omega
  clear d0 d1 d2 d3
  obtain ⟨d0, d1, d2, d3⟩ := four b3''
  obtain ⟨p0, p1, p2, q0, q1, q2⟩ := trio b5''
  have hbase : w1.heap.size ≤ w3.heap.size := by omega
  go_wp2_with fail
  go_region_held3 (fun w' => w'.cell? ⟨w.heap.size, 0, none⟩ = some (.int .u8 2) ∧ w'.cell? ⟨w.heap.size, 1, none⟩ = some (.string key) ∧ w'.cell? ⟨w.heap.size, 2, none⟩ = some (.string old) ∧ w'.cell? ⟨w.heap.size, 3, none⟩ = some (.string val))
    (first
      | exact ⟨d0, d1, d2, d3⟩
      | (go_split_ands; refine ⟨?_, ?_, ?_, ?_⟩ <;> first | exact gb_keep hgx (by assumption) hne3 | exact keep_b hbd (by assumption))
      | go_keep)
    ((first
      | (go_at_call 16; refine (does_any _).mono ?_; rintro e wd ⟨rfl, hbd0⟩; have hbd : Below w3.heap.size w3 wd := ((Below.refl _ _).drew).trans hbd0; clear hbd0)
      | (go_at_call 26; refine (act_cast (put_own w1.heap.size a2 cap2 l ⟨2, key, old, val⟩ _ (owns_after HO3.out hbd) (Nat.le_trans hbase hbd.size) hl hso) HLR.out).mono ?_; rintro e wx ⟨⟨vx, rfl, hownx⟩, hgx⟩; unfold rpV; have P0 := gb_keep hgx (keep_b hbd p0) hne; have P1 := gb_keep hgx (keep_b hbd p1) hne; have P2 := gb_keep hgx (keep_b hbd p2) hne; have Q0 := gb_keepf hgx (keep_b hbd p0) (keep_bf hbd p0 q0) hne; have Q1 := gb_keepf hgx (keep_b hbd p1) (keep_bf hbd p1 q1) hne; have Q2 := gb_keepf hgx (keep_b hbd p2) (keep_bf hbd p2 q2) hne)))
  go_wp2
  (try simp only [Exit.inBlock, Exit.then])
  refine bodyPost_ret (v := .tuple #[vx, rpV lr.2]) ?hr rfl ⟨⟨_, rfl, ?_⟩, ?_⟩
  case hr =>
    simp only [results, Try.results8]
    go_simp
    try rfl
  · have hB : wx.heap[w.heap.size + 1]? = some (Obj.cells #[.int .i64 0, .bool false, .string ⟨#[]⟩] 30 (0, 0)) := (hgx.block (w.heap.size + 1) (by have := hbd.size; omega) (fun e => hne e.symm)).trans ((hbd.block (w.heap.size + 1) (by omega)).trans b5'')
    have hne4 := own_ne hownx hB (by decide)
    refine owns_mono ?_ (show w.heap.size ≤ w1.heap.size by omega)
    repeat (first | exact hownx | refine World.ownsRow.drew ?_ | refine owns_far ?_ hne4 _)
  · have hbd2 : Below w.heap.size w wd := hbw3.trans (hbd.mono (by omega))
    have hbx : Below w.heap.size w wx := hbd2.trans (gb_to_below hgx hbd2.size (fun k e => by have := (HO2.out.lt _ e).1; omega))
    (repeat' (first | (with_reducible exact Below.refl _ _) | (with_reducible assumption) | (with_reducible refine Below.alloc ?_ ?_ _) | (with_reducible refine Below.drew ?_) | (with_reducible refine below_drewN ?_ _) | (with_reducible refine Below.setCell ?_ ?_ _) | (with_reducible refine Below.trans ?_ (by assumption)) | go_size))

set_option maxRecDepth 100000 in
set_option maxHeartbeats 8000000 in
theorem do_kind3 (a : Option Addr) (cap : Nat) (l : List Pr) (key old val : Tx) (w : World) (hs : SlP w a cap l) (hl : l.length ≤ 1000) (hm : mayS l = true) (ho : mayO ⟨3, key, old, val⟩ = true) (lr : List Pr × Rp) (hlr : (delL l key, wasR l key) = lr) :
    Calls Try.prog 8 #[.slice a l.length cap, .agg #[.int .u8 3, .string key, .string old, .string val]] w fun e w' => StRes w.heap.size lr.1 lr.2 e w' ∧ Below w.heap.size w w' := by
  have hb0 : Below w.heap.size w ((w.alloc (Obj.cells #[.int .u8 3, .string key, .string old, .string val] 27)).alloc (Obj.cells #[.int .i64 0, .bool false, .string ⟨#[]⟩] 30)) := ((Below.refl _ _).alloc (Nat.le_refl _) _).alloc (by simp) _
  have hso := may_rises hm
  have hr0 := hs.row.below0 hb0
  have HM := Lib.hid hm
  have HOP := Lib.hid ho
  have HLR := Lib.hid hlr
  clear hm ho hlr
  go_enter Try.func8, Try.ntmps8
  refine wp_seq_k (fun K hK => ?_)
  have HK := Lib.hid hK
  clear hK
  go_wp2
  refine HK.out _ _ ?_
  clear HK
  refine wp_seq_k (fun K hK => ?_)
  have HK := Lib.hid hK
  clear hK
  go_wp2_with (go_at_call 13; refine (may_any _ _ _ _ hr0 hl).mono ?_; rintro e w1 ⟨rfl, hb1⟩; rw [HM.out])
  refine HK.out _ _ ?_
  clear HK
  have hbw1 := hb0.trans (hb1.mono (by simp; omega))
  have hs1 := hb1.size
  simp at hs1
  have b3 := (hb1.block w.heap.size (by simp; omega)).trans ((heap_alloc_old _ _ (by simp)).trans (heap_alloc_new w (Obj.cells #[.int .u8 3, .string key, .string old, .string val] 27)))
  have b5 := (hb1.block (w.heap.size + 1) (by simp)).trans (heap_alloc2_new w _ (Obj.cells #[.int .i64 0, .bool false, .string ⟨#[]⟩] 30))
  have hs1' := hs.below hbw1
  refine wp_seq_k (fun K hK => ?_)
  have HK := Lib.hid hK
  clear hK
  go_wp2_with (go_at_call 14; refine (clone_any _ _ _ _ hs1' hl).mono ?_; rintro e w2 ⟨⟨v2, rfl, hown2⟩, hb2⟩)
  refine HK.out _ _ ?_
  clear HK
  have b3' := (hb2.block w.heap.size (by omega)).trans b3
  have b5' := (hb2.block (w.heap.size + 1) (by omega)).trans b5
  have hs2 := hb2.size
  have hbw2 := hbw1.trans (hb2.mono (by omega))
  obtain ⟨d0, d1, d2, d3⟩ := four b3'
  obtain ⟨a2, cap2, hv2, _⟩ := Row.of_owns hown2
  subst hv2
  have HO2 := Lib.hid hown2
  clear hown2
  refine wp_seq_k (fun K hK => ?_)
  have HK := Lib.hid hK
  clear hK
  go_wp2_with (go_at_call 15; refine (pmayO_any _ _ _ _ _ _ HOP.out).mono ?_; rintro e w3 ⟨rfl, hb3⟩)
  refine HK.out _ _ ?_
  clear HK
  have b3'' := (hb3.block w.heap.size (by omega)).trans b3'
  have b5'' := (hb3.block (w.heap.size + 1) (by omega)).trans b5'
  have hs3 := hb3.size
  have hbw3 := hbw2.trans (hb3.mono (by omega))
  have HO3 := Lib.hid (owns_after HO2.out hb3)
  have hne : (Value.slice a2 l.length cap2).ownBlock ≠ some (w.heap.size + 1) := by
    intro e
    have := (HO2.out.lt _ e).1
    omega
  have hne3 : (Value.slice a2 l.length cap2).ownBlock ≠ some w.heap.size := by
    intro e
    have := (HO2.out.lt _ e).1
    omega
  clear d0 d1 d2 d3
  obtain ⟨d0, d1, d2, d3⟩ := four b3''
  obtain ⟨p0, p1, p2, q0, q1, q2⟩ := trio b5''
  have hbase : w1.heap.size ≤ w3.heap.size := by omega
  go_wp2_with fail
  go_region_held3 (fun w' => w'.cell? ⟨w.heap.size, 0, none⟩ = some (.int .u8 3) ∧ w'.cell? ⟨w.heap.size, 1, none⟩ = some (.string key) ∧ w'.cell? ⟨w.heap.size, 2, none⟩ = some (.string old) ∧ w'.cell? ⟨w.heap.size, 3, none⟩ = some (.string val))
    (first
      | exact ⟨d0, d1, d2, d3⟩
      | (go_split_ands; refine ⟨?_, ?_, ?_, ?_⟩ <;> first | exact gb_keep hgx (by assumption) hne3 | exact keep_b hbd (by assumption))
      | go_keep)
    ((first
      | (go_at_call 16; refine (does_any _).mono ?_; rintro e wd ⟨rfl, hbd0⟩; have hbd : Below w3.heap.size w3 wd := ((Below.refl _ _).drew).trans hbd0; clear hbd0)
      | (go_at_call 27; refine (act_cast (del_own w1.heap.size a2 cap2 l ⟨3, key, old, val⟩ _ (owns_after HO3.out hbd) (Nat.le_trans hbase hbd.size) hl hso) HLR.out).mono ?_; rintro e wx ⟨⟨vx, rfl, hownx⟩, hgx⟩; unfold rpV; have P0 := gb_keep hgx (keep_b hbd p0) hne; have P1 := gb_keep hgx (keep_b hbd p1) hne; have P2 := gb_keep hgx (keep_b hbd p2) hne; have Q0 := gb_keepf hgx (keep_b hbd p0) (keep_bf hbd p0 q0) hne; have Q1 := gb_keepf hgx (keep_b hbd p1) (keep_bf hbd p1 q1) hne; have Q2 := gb_keepf hgx (keep_b hbd p2) (keep_bf hbd p2 q2) hne)))
  go_wp2
  (try simp only [Exit.inBlock, Exit.then])
  refine bodyPost_ret (v := .tuple #[vx, rpV lr.2]) ?hr rfl ⟨⟨_, rfl, ?_⟩, ?_⟩
  case hr =>
    simp only [results, Try.results8]
    go_simp
    try rfl
  · have hB : wx.heap[w.heap.size + 1]? = some (Obj.cells #[.int .i64 0, .bool false, .string ⟨#[]⟩] 30 (0, 0)) := (hgx.block (w.heap.size + 1) (by have := hbd.size; omega) (fun e => hne e.symm)).trans ((hbd.block (w.heap.size + 1) (by omega)).trans b5'')
    have hne4 := own_ne hownx hB (by decide)
    refine owns_mono ?_ (show w.heap.size ≤ w1.heap.size by omega)
    repeat (first | exact hownx | refine World.ownsRow.drew ?_ | refine owns_far ?_ hne4 _)
  · have hbd2 : Below w.heap.size w wd := hbw3.trans (hbd.mono (by omega))
    have hbx : Below w.heap.size w wx := hbd2.trans (gb_to_below hgx hbd2.size (fun k e => by have := (HO2.out.lt _ e).1; omega))
    (repeat' (first | (with_reducible exact Below.refl _ _) | (with_reducible assumption) | (with_reducible refine Below.alloc ?_ ?_ _) | (with_reducible refine Below.drew ?_) | (with_reducible refine below_drewN ?_ _) | (with_reducible refine Below.setCell ?_ ?_ _) | (with_reducible refine Below.trans ?_ (by assumption)) | go_size))

set_option maxRecDepth 100000 in
set_option maxHeartbeats 8000000 in
theorem do_kind4 (a : Option Addr) (cap : Nat) (l : List Pr) (key old val : Tx) (w : World) (hs : SlP w a cap l) (hl : l.length ≤ 1000) (hm : mayS l = true) (ho : mayO ⟨4, key, old, val⟩ = true) (lr : List Pr × Rp) (hlr : (if look l key = some old then (putL l key val, wasR l key) else (l, { wasR l key with found := false })) = lr) :
    Calls Try.prog 8 #[.slice a l.length cap, .agg #[.int .u8 4, .string key, .string old, .string val]] w fun e w' => StRes w.heap.size lr.1 lr.2 e w' ∧ Below w.heap.size w w' := by
  have hb0 : Below w.heap.size w ((w.alloc (Obj.cells #[.int .u8 4, .string key, .string old, .string val] 27)).alloc (Obj.cells #[.int .i64 0, .bool false, .string ⟨#[]⟩] 30)) := ((Below.refl _ _).alloc (Nat.le_refl _) _).alloc (by simp) _
  have hso := may_rises hm
  have hr0 := hs.row.below0 hb0
  have HM := Lib.hid hm
  have HOP := Lib.hid ho
  have HLR := Lib.hid hlr
  clear hm ho hlr
  go_enter Try.func8, Try.ntmps8
  refine wp_seq_k (fun K hK => ?_)
  have HK := Lib.hid hK
  clear hK
  go_wp2
  refine HK.out _ _ ?_
  clear HK
  refine wp_seq_k (fun K hK => ?_)
  have HK := Lib.hid hK
  clear hK
  go_wp2_with (go_at_call 13; refine (may_any _ _ _ _ hr0 hl).mono ?_; rintro e w1 ⟨rfl, hb1⟩; rw [HM.out])
  refine HK.out _ _ ?_
  clear HK
  have hbw1 := hb0.trans (hb1.mono (by simp; omega))
  have hs1 := hb1.size
  simp at hs1
  have b3 := (hb1.block w.heap.size (by simp; omega)).trans ((heap_alloc_old _ _ (by simp)).trans (heap_alloc_new w (Obj.cells #[.int .u8 4, .string key, .string old, .string val] 27)))
  have b5 := (hb1.block (w.heap.size + 1) (by simp)).trans (heap_alloc2_new w _ (Obj.cells #[.int .i64 0, .bool false, .string ⟨#[]⟩] 30))
  have hs1' := hs.below hbw1
  refine wp_seq_k (fun K hK => ?_)
  have HK := Lib.hid hK
  clear hK
  go_wp2_with (go_at_call 14; refine (clone_any _ _ _ _ hs1' hl).mono ?_; rintro e w2 ⟨⟨v2, rfl, hown2⟩, hb2⟩)
  refine HK.out _ _ ?_
  clear HK
  have b3' := (hb2.block w.heap.size (by omega)).trans b3
  have b5' := (hb2.block (w.heap.size + 1) (by omega)).trans b5
  have hs2 := hb2.size
  have hbw2 := hbw1.trans (hb2.mono (by omega))
  obtain ⟨d0, d1, d2, d3⟩ := four b3'
  obtain ⟨a2, cap2, hv2, _⟩ := Row.of_owns hown2
  subst hv2
  have HO2 := Lib.hid hown2
  clear hown2
  refine wp_seq_k (fun K hK => ?_)
  have HK := Lib.hid hK
  clear hK
  go_wp2_with (go_at_call 15; refine (pmayO_any _ _ _ _ _ _ HOP.out).mono ?_; rintro e w3 ⟨rfl, hb3⟩)
  refine HK.out _ _ ?_
  clear HK
  have b3'' := (hb3.block w.heap.size (by omega)).trans b3'
  have b5'' := (hb3.block (w.heap.size + 1) (by omega)).trans b5'
  have hs3 := hb3.size
  have hbw3 := hbw2.trans (hb3.mono (by omega))
  have HO3 := Lib.hid (owns_after HO2.out hb3)
  have hne : (Value.slice a2 l.length cap2).ownBlock ≠ some (w.heap.size + 1) := by
    intro e
    have := (HO2.out.lt _ e).1
    omega
  have hne3 : (Value.slice a2 l.length cap2).ownBlock ≠ some w.heap.size := by
    intro e
    have := (HO2.out.lt _ e).1
    omega
  clear d0 d1 d2 d3
  obtain ⟨d0, d1, d2, d3⟩ := four b3''
  obtain ⟨p0, p1, p2, q0, q1, q2⟩ := trio b5''
  have hbase : w1.heap.size ≤ w3.heap.size := by omega
  go_wp2_with fail
  go_region_held3 (fun w' => w'.cell? ⟨w.heap.size, 0, none⟩ = some (.int .u8 4) ∧ w'.cell? ⟨w.heap.size, 1, none⟩ = some (.string key) ∧ w'.cell? ⟨w.heap.size, 2, none⟩ = some (.string old) ∧ w'.cell? ⟨w.heap.size, 3, none⟩ = some (.string val))
    (first
      | exact ⟨d0, d1, d2, d3⟩
      | (go_split_ands; refine ⟨?_, ?_, ?_, ?_⟩ <;> first | exact gb_keep hgx (by assumption) hne3 | exact keep_b hbd (by assumption))
      | go_keep)
    ((first
      | (go_at_call 16; refine (does_any _).mono ?_; rintro e wd ⟨rfl, hbd0⟩; have hbd : Below w3.heap.size w3 wd := ((Below.refl _ _).drew).trans hbd0; clear hbd0)
      | (go_at_call 28; refine (act_cast (swap_own w1.heap.size a2 cap2 l ⟨4, key, old, val⟩ _ (owns_after HO3.out hbd) hl hso) HLR.out).mono ?_; rintro e wx ⟨⟨vx, rfl, hownx⟩, hgx⟩; unfold rpV; have P0 := gb_keep hgx (keep_b hbd p0) hne; have P1 := gb_keep hgx (keep_b hbd p1) hne; have P2 := gb_keep hgx (keep_b hbd p2) hne; have Q0 := gb_keepf hgx (keep_b hbd p0) (keep_bf hbd p0 q0) hne; have Q1 := gb_keepf hgx (keep_b hbd p1) (keep_bf hbd p1 q1) hne; have Q2 := gb_keepf hgx (keep_b hbd p2) (keep_bf hbd p2 q2) hne)))
  go_wp2
  (try simp only [Exit.inBlock, Exit.then])
  refine bodyPost_ret (v := .tuple #[vx, rpV lr.2]) ?hr rfl ⟨⟨_, rfl, ?_⟩, ?_⟩
  case hr =>
    simp only [results, Try.results8]
    go_simp
    try rfl
  · have hB : wx.heap[w.heap.size + 1]? = some (Obj.cells #[.int .i64 0, .bool false, .string ⟨#[]⟩] 30 (0, 0)) := (hgx.block (w.heap.size + 1) (by have := hbd.size; omega) (fun e => hne e.symm)).trans ((hbd.block (w.heap.size + 1) (by omega)).trans b5'')
    have hne4 := own_ne hownx hB (by decide)
    refine owns_mono ?_ (show w.heap.size ≤ w1.heap.size by omega)
    repeat (first | exact hownx | refine World.ownsRow.drew ?_ | refine owns_far ?_ hne4 _)
  · have hbd2 : Below w.heap.size w wd := hbw3.trans (hbd.mono (by omega))
    have hbx : Below w.heap.size w wx := hbd2.trans (gb_to_below hgx hbd2.size (fun k e => by have := (HO2.out.lt _ e).1; omega))
    (repeat' (first | (with_reducible exact Below.refl _ _) | (with_reducible assumption) | (with_reducible refine Below.alloc ?_ ?_ _) | (with_reducible refine Below.drew ?_) | (with_reducible refine below_drewN ?_ _) | (with_reducible refine Below.setCell ?_ ?_ _) | (with_reducible refine Below.trans ?_ (by assumption)) | go_size))

theorem do_any (a : Option Addr) (cap : Nat) (l : List Pr) (o : Opn) (w : World) (hs : SlP w a cap l) (hl : l.length ≤ 1000) (lr : List Pr × Rp) (hlr : doP l o = lr) :
    Calls Try.prog 8 #[.slice a l.length cap, opV o] w fun e w' => StRes w.heap.size lr.1 lr.2 e w' ∧ Below w.heap.size w w' := by
  obtain ⟨k, key, old, val⟩ := o
  cases hm : mayS l with
  | false =>
    have : doP l ⟨k, key, old, val⟩ = ([], ⟨2, false, ⟨#[]⟩⟩) := by unfold doP; rw [if_pos hm]
    rw [this] at hlr
    subst hlr
    exact do_nomay a cap l k key old val w hs hl hm
  | true =>
    cases ho : mayO ⟨k, key, old, val⟩ with
    | false =>
      rw [doP_bad hm ho] at hlr
      subst hlr
      exact do_badop a cap l k key old val w hs hl hm ho
    | true =>
      have hk := (mayO_spec ho).2.2.2
      rw [doP_ok hm ho] at hlr
      simp only at hlr hk
      rcases hk with rfl | rfl | rfl | rfl
      · exact do_kind1 a cap l key old val w hs hl hm ho lr (by simpa using hlr)
      · exact do_kind2 a cap l key old val w hs hl hm ho lr (by simpa using hlr)
      · exact do_kind3 a cap l key old val w hs hl hm ho lr (by simpa using hlr)
      · exact do_kind4 a cap l key old val w hs hl hm ho lr (by simpa using hlr)
end Go.Proofs.Ytiipelccmkidbaa
