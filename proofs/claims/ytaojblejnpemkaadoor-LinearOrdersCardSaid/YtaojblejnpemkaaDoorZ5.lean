/- Texts that the claim leans on, part 5: K18, K5b, K5c, K5d, K19, K19a, K19b, K19c. -/
import Derived.Test.YtaojblejnpemkaaDoorZ1
import Derived.Test.YtaojblejnpemkaaDoorZ2
import Derived.Test.YtaojblejnpemkaaDoorZ3
import Derived.Test.YtaojblejnpemkaaDoorZ4
import Derived.Test.YtaojblejnpemkaaDoorRows
import Derived.WalkKit
import Derived.WalkSpells
import Derived.WalkLawsBesides
import Derived.Handy
import Derived.Deep.QuietTactic
import Derived.BigQuiet
import Derived.Deep.DeepCutAuto
import Derived.Lib.Hide
import Derived.RegionTactic
import Derived.ChangeAlike
import Derived.Deep.RegionHeld3
import Derived.Laws.ResultCell
import Derived.Outline
import Derived.Laws.EntriesVeiled
import Derived.StillTailTactics
import Derived.Deep.RegionWith
import Derived.Laws.BitsAllLaws
import Derived.Laws.Shifts
import Derived.IntWalk
import Derived.Lib.Overlaps
import Derived.ProofKit
import Derived.OpenShut
import Derived.Laws.Strings
import Derived.Laws.CopyOwn
import Derived.Laws.CopyRow
import Derived.Laws.NewBlocks
import Derived.Deep.RegionLaw
namespace Go.Proofs.YtaojblejnpemkaaDoor
open Go.RowKit
theorem act_cast {P : Program} {f : FuncId} {args : Array Value} {w : World} {base : Nat} {v : Value} {x y : List Pr × Rp} (h : Calls P f args w (ActRes base v w x)) (e : x = y) : Calls P f args w (ActRes base v w y) := by
  subst e
  exact h
set_option maxRecDepth 100000 in
set_option maxHeartbeats 8000000 in
theorem do_kind1 (a : Option Addr) (cap : Nat) (l : List Pr) (key old val : Tx) (w : World) (hs : SlP w a cap l) (hl : l.length ≤ 1000) (hm : mayS l = true) (ho : mayO ⟨1, key, old, val⟩ = true) (lr : List Pr × Rp) (hlr : (l, wasR l key) = lr) :
    Calls Tryd.prog 17 #[.slice a l.length cap, .agg #[.int .u8 1, .string key, .string old, .string val]] w fun e w' => StRes w.heap.size lr.1 lr.2 e w' ∧ Below w.heap.size w w' := by
  have hb0 : Below w.heap.size w ((w.alloc (Obj.cells #[.int .u8 1, .string key, .string old, .string val] 34)).alloc (Obj.cells #[.int .i64 0, .bool false, .string ⟨#[]⟩] 36)) := ((Below.refl _ _).alloc (Nat.le_refl _) _).alloc (by simp) _
  have hso := may_rises hm
  have hr0 := hs.row.below0 hb0
  have HM := Lib.hid hm
  have HOP := Lib.hid ho
  have HLR := Lib.hid hlr
  clear hm ho hlr
  go_enter Tryd.func17, Tryd.ntmps17
  refine wp_seq_k (fun K hK => ?_)
  have HK := Lib.hid hK
  clear hK
  go_wp2
  refine HK.out _ _ ?_
  clear HK
  refine wp_seq_k (fun K hK => ?_)
  have HK := Lib.hid hK
  clear hK
  go_wp2_with (go_at_call 28; refine (may_any _ _ _ _ hr0 hl).mono ?_; rintro e w1 ⟨rfl, hb1⟩; rw [HM.out])
  refine HK.out _ _ ?_
  clear HK
  have hbw1 := hb0.trans (hb1.mono (by simp; omega))
  have hs1 := hb1.size
  simp at hs1
  have b3 := (hb1.block w.heap.size (by simp; omega)).trans ((heap_alloc_old _ _ (by simp)).trans (heap_alloc_new w (Obj.cells #[.int .u8 1, .string key, .string old, .string val] 34)))
  have b5 := (hb1.block (w.heap.size + 1) (by simp)).trans (heap_alloc2_new w _ (Obj.cells #[.int .i64 0, .bool false, .string ⟨#[]⟩] 36))
  have hs1' := hs.below hbw1
  refine wp_seq_k (fun K hK => ?_)
  have HK := Lib.hid hK
  clear hK
  go_wp2_with (go_at_call 29; refine (clone_any _ _ _ _ hs1' hl).mono ?_; rintro e w2 ⟨⟨v2, rfl, hown2⟩, hb2⟩)
  refine HK.out _ _ ?_
  clear HK
  have b3' := (hb2.block w.heap.size (by omega)).trans b3
  have b5' := (hb2.block (w.heap.size + 1) (by omega)).trans b5
  have hs2 := hb2.size
  have hbw2 := hbw1.trans (hb2.mono (by omega))
  obtain ⟨d0, d1, d2, d3⟩ := four b3'
  obtain ⟨a2, cap2, hv2, _⟩ := Row.of_owns hown2
  subst hv2
  have HO2 := Lib.hid hown2
  clear hown2
  refine wp_seq_k (fun K hK => ?_)
  have HK := Lib.hid hK
  clear hK
  go_wp2_with (go_at_call 27; refine (pmayO_any _ _ _ _ _ _ HOP.out).mono ?_; rintro e w3 ⟨rfl, hb3⟩)
  refine HK.out _ _ ?_
  clear HK
  have b3'' := (hb3.block w.heap.size (by omega)).trans b3'
  have b5'' := (hb3.block (w.heap.size + 1) (by omega)).trans b5'
  have hs3 := hb3.size
  have hbw3 := hbw2.trans (hb3.mono (by omega))
  have HO3 := Lib.hid (owns_after HO2.out hb3)
  have hne : (Value.slice a2 l.length cap2).ownBlock ≠ some (w.heap.size + 1) := by
    intro e
    have := (HO2.out.lt _ e).1
    omega
  have hne3 : (Value.slice a2 l.length cap2).ownBlock ≠ some w.heap.size := by
    intro e
    have := (HO2.out.lt _ e).1
    omega
  clear d0 d1 d2 d3
  obtain ⟨d0, d1, d2, d3⟩ := four b3''
  obtain ⟨p0, p1, p2, q0, q1, q2⟩ := trio b5''
  have hbase : w1.heap.size ≤ w3.heap.size := by omega
  go_wp2_with fail
  go_region_held3 (fun w' => w'.cell? ⟨w.heap.size, 0, none⟩ = some (.int .u8 1) ∧ w'.cell? ⟨w.heap.size, 1, none⟩ = some (.string key) ∧ w'.cell? ⟨w.heap.size, 2, none⟩ = some (.string old) ∧ w'.cell? ⟨w.heap.size, 3, none⟩ = some (.string val))
    (first
      | exact ⟨d0, d1, d2, d3⟩
      | (go_split_ands; refine ⟨?_, ?_, ?_, ?_⟩ <;> first | exact gb_keep hgx (by assumption) hne3 | exact keep_b hbd (by assumption))
      | go_keep)
    ((first
      | (go_at_call 30; refine (does_any _).mono ?_; rintro e wd ⟨rfl, hbd0⟩; have hbd : Below w3.heap.size w3 wd := ((Below.refl _ _).drew).trans hbd0; clear hbd0)
      | (go_at_call 42; refine (act_cast (get_own w1.heap.size a2 cap2 l ⟨1, key, old, val⟩ _ (owns_after HO3.out hbd) hl hso) HLR.out).mono ?_; rintro e wx ⟨⟨vx, rfl, hownx⟩, hgx⟩; unfold rpV; have P0 := gb_keep hgx (keep_b hbd p0) hne; have P1 := gb_keep hgx (keep_b hbd p1) hne; have P2 := gb_keep hgx (keep_b hbd p2) hne; have Q0 := gb_keepf hgx (keep_b hbd p0) (keep_bf hbd p0 q0) hne; have Q1 := gb_keepf hgx (keep_b hbd p1) (keep_bf hbd p1 q1) hne; have Q2 := gb_keepf hgx (keep_b hbd p2) (keep_bf hbd p2 q2) hne)))
  go_wp2
  (try simp only [Exit.inBlock, Exit.then])
  refine bodyPost_ret (v := .tuple #[vx, rpV lr.2]) ?hr rfl ⟨⟨_, rfl, ?_⟩, ?_⟩
  case hr =>
    simp only [results, Tryd.results17]
    go_simp
    try rfl
  · have hB : wx.heap[w.heap.size + 1]? = some (Obj.cells #[.int .i64 0, .bool false, .string ⟨#[]⟩] 36 (0, 0)) := (hgx.block (w.heap.size + 1) (by have := hbd.size; omega) (fun e => hne e.symm)).trans ((hbd.block (w.heap.size + 1) (by omega)).trans b5'')
    have hne4 := own_ne hownx hB (by decide)
    refine owns_mono ?_ (show w.heap.size ≤ w1.heap.size by omega)
    repeat (first | exact hownx | refine World.ownsRow.drew ?_ | refine owns_far ?_ hne4 _)
  · have hbd2 : Below w.heap.size w wd := hbw3.trans (hbd.mono (by omega))
    have hbx : Below w.heap.size w wx := hbd2.trans (gb_to_below hgx hbd2.size (fun k e => by have := (HO2.out.lt _ e).1; omega))
    (repeat' (first | (with_reducible exact Below.refl _ _) | (with_reducible assumption) | (with_reducible refine Below.alloc ?_ ?_ _) | (with_reducible refine Below.drew ?_) | (with_reducible refine below_drewN ?_ _) | (with_reducible refine Below.setCell ?_ ?_ _) | (with_reducible refine Below.trans ?_ (by assumption)) | go_size))
set_option maxRecDepth 100000 in
set_option maxHeartbeats 8000000 in
theorem do_kind2 (a : Option Addr) (cap : Nat) (l : List Pr) (key old val : Tx) (w : World) (hs : SlP w a cap l) (hl : l.length ≤ 1000) (hm : mayS l = true) (ho : mayO ⟨2, key, old, val⟩ = true) (lr : List Pr × Rp) (hlr : (if look l key = none ∧ l.length = 8 then (l, (⟨211, false, ⟨#[]⟩⟩ : Rp)) else (putL l key val, wasR l key)) = lr) :
    Calls Tryd.prog 17 #[.slice a l.length cap, .agg #[.int .u8 2, .string key, .string old, .string val]] w fun e w' => StRes w.heap.size lr.1 lr.2 e w' ∧ Below w.heap.size w w' := by
  have hb0 : Below w.heap.size w ((w.alloc (Obj.cells #[.int .u8 2, .string key, .string old, .string val] 34)).alloc (Obj.cells #[.int .i64 0, .bool false, .string ⟨#[]⟩] 36)) := ((Below.refl _ _).alloc (Nat.le_refl _) _).alloc (by simp) _
  have hso := may_rises hm
  have hr0 := hs.row.below0 hb0
  have HM := Lib.hid hm
  have HOP := Lib.hid ho
  have HLR := Lib.hid hlr
  clear hm ho hlr
  go_enter Tryd.func17, Tryd.ntmps17
  refine wp_seq_k (fun K hK => ?_)
  have HK := Lib.hid hK
  clear hK
  go_wp2
  refine HK.out _ _ ?_
  clear HK
  refine wp_seq_k (fun K hK => ?_)
  have HK := Lib.hid hK
  clear hK
  go_wp2_with (go_at_call 28; refine (may_any _ _ _ _ hr0 hl).mono ?_; rintro e w1 ⟨rfl, hb1⟩; rw [HM.out])
  refine HK.out _ _ ?_
  clear HK
  have hbw1 := hb0.trans (hb1.mono (by simp; omega))
  have hs1 := hb1.size
  simp at hs1
  have b3 := (hb1.block w.heap.size (by simp; omega)).trans ((heap_alloc_old _ _ (by simp)).trans (heap_alloc_new w (Obj.cells #[.int .u8 2, .string key, .string old, .string val] 34)))
  have b5 := (hb1.block (w.heap.size + 1) (by simp)).trans (heap_alloc2_new w _ (Obj.cells #[.int .i64 0, .bool false, .string ⟨#[]⟩] 36))
  have hs1' := hs.below hbw1
  refine wp_seq_k (fun K hK => ?_)
  have HK := Lib.hid hK
  clear hK
  go_wp2_with (go_at_call 29; refine (clone_any _ _ _ _ hs1' hl).mono ?_; rintro e w2 ⟨⟨v2, rfl, hown2⟩, hb2⟩)
  refine HK.out _ _ ?_
  clear HK
  have b3' := (hb2.block w.heap.size (by omega)).trans b3
  have b5' := (hb2.block (w.heap.size + 1) (by omega)).trans b5
  have hs2 := hb2.size
  have hbw2 := hbw1.trans (hb2.mono (by omega))
  obtain ⟨d0, d1, d2, d3⟩ := four b3'
  obtain ⟨a2, cap2, hv2, _⟩ := Row.of_owns hown2
  subst hv2
  have HO2 := Lib.hid hown2
  clear hown2
  refine wp_seq_k (fun K hK => ?_)
  have HK := Lib.hid hK
  clear hK
  go_wp2_with (go_at_call 27; refine (pmayO_any _ _ _ _ _ _ HOP.out).mono ?_; rintro e w3 ⟨rfl, hb3⟩)
  refine HK.out _ _ ?_
  clear HK
  have b3'' := (hb3.block w.heap.size (by omega)).trans b3'
  have b5'' := (hb3.block (w.heap.size + 1) (by omega)).trans b5'
  have hs3 := hb3.size
  have hbw3 := hbw2.trans (hb3.mono (by omega))
  have HO3 := Lib.hid (owns_after HO2.out hb3)
  have hne : (Value.slice a2 l.length cap2).ownBlock ≠ some (w.heap.size + 1) := by
    intro e
    have := (HO2.out.lt _ e).1
    omega
  have hne3 : (Value.slice a2 l.length cap2).ownBlock ≠ some w.heap.size := by
    intro e
    have := (HO2.out.lt _ e).1
    omega
  clear d0 d1 d2 d3
  obtain ⟨d0, d1, d2, d3⟩ := four b3''
  obtain ⟨p0, p1, p2, q0, q1, q2⟩ := trio b5''
  have hbase : w1.heap.size ≤ w3.heap.size := by omega
  go_wp2_with fail
  go_region_held3 (fun w' => w'.cell? ⟨w.heap.size, 0, none⟩ = some (.int .u8 2) ∧ w'.cell? ⟨w.heap.size, 1, none⟩ = some (.string key) ∧ w'.cell? ⟨w.heap.size, 2, none⟩ = some (.string old) ∧ w'.cell? ⟨w.heap.size, 3, none⟩ = some (.string val))
    (first
      | exact ⟨d0, d1, d2, d3⟩
      | (go_split_ands; refine ⟨?_, ?_, ?_, ?_⟩ <;> first | exact gb_keep hgx (by assumption) hne3 | exact keep_b hbd (by assumption))
      | go_keep)
    ((first
      | (go_at_call 30; refine (does_any _).mono ?_; rintro e wd ⟨rfl, hbd0⟩; have hbd : Below w3.heap.size w3 wd := ((Below.refl _ _).drew).trans hbd0; clear hbd0)
      | (go_at_call 43; refine (act_cast (put_own w1.heap.size a2 cap2 l ⟨2, key, old, val⟩ _ (owns_after HO3.out hbd) (Nat.le_trans hbase hbd.size) hl hso) HLR.out).mono ?_; rintro e wx ⟨⟨vx, rfl, hownx⟩, hgx⟩; unfold rpV; have P0 := gb_keep hgx (keep_b hbd p0) hne; have P1 := gb_keep hgx (keep_b hbd p1) hne; have P2 := gb_keep hgx (keep_b hbd p2) hne; have Q0 := gb_keepf hgx (keep_b hbd p0) (keep_bf hbd p0 q0) hne; have Q1 := gb_keepf hgx (keep_b hbd p1) (keep_bf hbd p1 q1) hne; have Q2 := gb_keepf hgx (keep_b hbd p2) (keep_bf hbd p2 q2) hne)))
  go_wp2
  (try simp only [Exit.inBlock, Exit.then])
  refine bodyPost_ret (v := .tuple #[vx, rpV lr.2]) ?hr rfl ⟨⟨_, rfl, ?_⟩, ?_⟩
  case hr =>
    simp only [results, Tryd.results17]
    go_simp
    try rfl
  · have hB : wx.heap[w.heap.size + 1]? = some (Obj.cells #[.int .i64 0, .bool false, .string ⟨#[]⟩] 36 (0, 0)) := (hgx.block (w.heap.size + 1) (by have := hbd.size; omega) (fun e => hne e.symm)).trans ((hbd.block (w.heap.size + 1) (by omega)).trans b5'')
    have hne4 := own_ne hownx hB (by decide)
    refine owns_mono ?_ (show w.heap.size ≤ w1.heap.size by omega)
    repeat (first | exact hownx | refine World.ownsRow.drew ?_ | refine owns_far ?_ hne4 _)
  · have hbd2 : Below w.heap.size w wd := hbw3.trans (hbd.mono (by omega))
    have hbx : Below w.heap.size w wx := hbd2.trans (gb_to_below hgx hbd2.size (fun k e => by have := (HO2.out.lt _ e).1; omega))
    (repeat' (first | (with_reducible exact Below.refl _ _) | (with_reducible assumption) | (with_reducible refine Below.alloc ?_ ?_ _) | (with_reducible refine Below.drew ?_) | (with_reducible refine below_drewN ?_ _) | (with_reducible refine Below.setCell ?_ ?_ _) | (with_reducible refine Below.trans ?_ (by assumption)) | go_size))
set_option maxRecDepth 100000 in
set_option maxHeartbeats 8000000 in
theorem do_kind3 (a : Option Addr) (cap : Nat) (l : List Pr) (key old val : Tx) (w : World) (hs : SlP w a cap l) (hl : l.length ≤ 1000) (hm : mayS l = true) (ho : mayO ⟨3, key, old, val⟩ = true) (lr : List Pr × Rp) (hlr : (delL l key, wasR l key) = lr) :
    Calls Tryd.prog 17 #[.slice a l.length cap, .agg #[.int .u8 3, .string key, .string old, .string val]] w fun e w' => StRes w.heap.size lr.1 lr.2 e w' ∧ Below w.heap.size w w' := by
  have hb0 : Below w.heap.size w ((w.alloc (Obj.cells #[.int .u8 3, .string key, .string old, .string val] 34)).alloc (Obj.cells #[.int .i64 0, .bool false, .string ⟨#[]⟩] 36)) := ((Below.refl _ _).alloc (Nat.le_refl _) _).alloc (by simp) _
  have hso := may_rises hm
  have hr0 := hs.row.below0 hb0
  have HM := Lib.hid hm
  have HOP := Lib.hid ho
  have HLR := Lib.hid hlr
  clear hm ho hlr
  go_enter Tryd.func17, Tryd.ntmps17
  refine wp_seq_k (fun K hK => ?_)
  have HK := Lib.hid hK
  clear hK
  go_wp2
  refine HK.out _ _ ?_
  clear HK
  refine wp_seq_k (fun K hK => ?_)
  have HK := Lib.hid hK
  clear hK
  go_wp2_with (go_at_call 28; refine (may_any _ _ _ _ hr0 hl).mono ?_; rintro e w1 ⟨rfl, hb1⟩; rw [HM.out])
  refine HK.out _ _ ?_
  clear HK
  have hbw1 := hb0.trans (hb1.mono (by simp; omega))
  have hs1 := hb1.size
  simp at hs1
  have b3 := (hb1.block w.heap.size (by simp; omega)).trans ((heap_alloc_old _ _ (by simp)).trans (heap_alloc_new w (Obj.cells #[.int .u8 3, .string key, .string old, .string val] 34)))
  have b5 := (hb1.block (w.heap.size + 1) (by simp)).trans (heap_alloc2_new w _ (Obj.cells #[.int .i64 0, .bool false, .string ⟨#[]⟩] 36))
  have hs1' := hs.below hbw1
  refine wp_seq_k (fun K hK => ?_)
  have HK := Lib.hid hK
  clear hK
  go_wp2_with (go_at_call 29; refine (clone_any _ _ _ _ hs1' hl).mono ?_; rintro e w2 ⟨⟨v2, rfl, hown2⟩, hb2⟩)
  refine HK.out _ _ ?_
  clear HK
  have b3' := (hb2.block w.heap.size (by omega)).trans b3
  have b5' := (hb2.block (w.heap.size + 1) (by omega)).trans b5
  have hs2 := hb2.size
  have hbw2 := hbw1.trans (hb2.mono (by omega))
  obtain ⟨d0, d1, d2, d3⟩ := four b3'
  obtain ⟨a2, cap2, hv2, _⟩ := Row.of_owns hown2
  subst hv2
  have HO2 := Lib.hid hown2
  clear hown2
  refine wp_seq_k (fun K hK => ?_)
  have HK := Lib.hid hK
  clear hK
  go_wp2_with (go_at_call 27; refine (pmayO_any _ _ _ _ _ _ HOP.out).mono ?_; rintro e w3 ⟨rfl, hb3⟩)
  refine HK.out _ _ ?_
  clear HK
  have b3'' := (hb3.block w.heap.size (by omega)).trans b3'
  have b5'' := (hb3.block (w.heap.size + 1) (by omega)).trans b5'
  have hs3 := hb3.size
  have hbw3 := hbw2.trans (hb3.mono (by omega))
  have HO3 := Lib.hid (owns_after HO2.out hb3)
  have hne : (Value.slice a2 l.length cap2).ownBlock ≠ some (w.heap.size + 1) := by
    intro e
    have := (HO2.out.lt _ e).1
    omega
  have hne3 : (Value.slice a2 l.length cap2).ownBlock ≠ some w.heap.size := by
    intro e
    have := (HO2.out.lt _ e).1
    omega
  clear d0 d1 d2 d3
  obtain ⟨d0, d1, d2, d3⟩ := four b3''
  obtain ⟨p0, p1, p2, q0, q1, q2⟩ := trio b5''
  have hbase : w1.heap.size ≤ w3.heap.size := by omega
  go_wp2_with fail
  go_region_held3 (fun w' => w'.cell? ⟨w.heap.size, 0, none⟩ = some (.int .u8 3) ∧ w'.cell? ⟨w.heap.size, 1, none⟩ = some (.string key) ∧ w'.cell? ⟨w.heap.size, 2, none⟩ = some (.string old) ∧ w'.cell? ⟨w.heap.size, 3, none⟩ = some (.string val))
    (first
      | exact ⟨d0, d1, d2, d3⟩
      | (go_split_ands; refine ⟨?_, ?_, ?_, ?_⟩ <;> first | exact gb_keep hgx (by assumption) hne3 | exact keep_b hbd (by assumption))
      | go_keep)
    ((first
      | (go_at_call 30; refine (does_any _).mono ?_; rintro e wd ⟨rfl, hbd0⟩; have hbd : Below w3.heap.size w3 wd := ((Below.refl _ _).drew).trans hbd0; clear hbd0)
      | (go_at_call 44; refine (act_cast (del_own w1.heap.size a2 cap2 l ⟨3, key, old, val⟩ _ (owns_after HO3.out hbd) (Nat.le_trans hbase hbd.size) hl hso) HLR.out).mono ?_; rintro e wx ⟨⟨vx, rfl, hownx⟩, hgx⟩; unfold rpV; have P0 := gb_keep hgx (keep_b hbd p0) hne; have P1 := gb_keep hgx (keep_b hbd p1) hne; have P2 := gb_keep hgx (keep_b hbd p2) hne; have Q0 := gb_keepf hgx (keep_b hbd p0) (keep_bf hbd p0 q0) hne; have Q1 := gb_keepf hgx (keep_b hbd p1) (keep_bf hbd p1 q1) hne; have Q2 := gb_keepf hgx (keep_b hbd p2) (keep_bf hbd p2 q2) hne)))
  go_wp2
  (try simp only [Exit.inBlock, Exit.then])
  refine bodyPost_ret (v := .tuple #[vx, rpV lr.2]) ?hr rfl ⟨⟨_, rfl, ?_⟩, ?_⟩
  case hr =>
    simp only [results, Tryd.results17]
    go_simp
    try rfl
  · have hB : wx.heap[w.heap.size + 1]? = some (Obj.cells #[.int .i64 0, .bool false, .string ⟨#[]⟩] 36 (0, 0)) := (hgx.block (w.heap.size + 1) (by have := hbd.size; omega) (fun e => hne e.symm)).trans ((hbd.block (w.heap.size + 1) (by omega)).trans b5'')
    have hne4 := own_ne hownx hB (by decide)
    refine owns_mono ?_ (show w.heap.size ≤ w1.heap.size by omega)
    repeat (first | exact hownx | refine World.ownsRow.drew ?_ | refine owns_far ?_ hne4 _)
  · have hbd2 : Below w.heap.size w wd := hbw3.trans (hbd.mono (by omega))
    have hbx : Below w.heap.size w wx := hbd2.trans (gb_to_below hgx hbd2.size (fun k e => by have := (HO2.out.lt _ e).1; omega))
    (repeat' (first | (with_reducible exact Below.refl _ _) | (with_reducible assumption) | (with_reducible refine Below.alloc ?_ ?_ _) | (with_reducible refine Below.drew ?_) | (with_reducible refine below_drewN ?_ _) | (with_reducible refine Below.setCell ?_ ?_ _) | (with_reducible refine Below.trans ?_ (by assumption)) | go_size))
set_option maxRecDepth 100000 in
set_option maxHeartbeats 8000000 in
theorem do_kind4 (a : Option Addr) (cap : Nat) (l : List Pr) (key old val : Tx) (w : World) (hs : SlP w a cap l) (hl : l.length ≤ 1000) (hm : mayS l = true) (ho : mayO ⟨4, key, old, val⟩ = true) (lr : List Pr × Rp) (hlr : (if look l key = some old then (putL l key val, wasR l key) else (l, { wasR l key with found := false })) = lr) :
    Calls Tryd.prog 17 #[.slice a l.length cap, .agg #[.int .u8 4, .string key, .string old, .string val]] w fun e w' => StRes w.heap.size lr.1 lr.2 e w' ∧ Below w.heap.size w w' := by
  have hb0 : Below w.heap.size w ((w.alloc (Obj.cells #[.int .u8 4, .string key, .string old, .string val] 34)).alloc (Obj.cells #[.int .i64 0, .bool false, .string ⟨#[]⟩] 36)) := ((Below.refl _ _).alloc (Nat.le_refl _) _).alloc (by simp) _
  have hso := may_rises hm
  have hr0 := hs.row.below0 hb0
  have HM := Lib.hid hm
  have HOP := Lib.hid ho
  have HLR := Lib.hid hlr
  clear hm ho hlr
  go_enter Tryd.func17, Tryd.ntmps17
  refine wp_seq_k (fun K hK => ?_)
  have HK := Lib.hid hK
  clear hK
  go_wp2
  refine HK.out _ _ ?_
  clear HK
  refine wp_seq_k (fun K hK => ?_)
  have HK := Lib.hid hK
  clear hK
  go_wp2_with (go_at_call 28; refine (may_any _ _ _ _ hr0 hl).mono ?_; rintro e w1 ⟨rfl, hb1⟩; rw [HM.out])
  refine HK.out _ _ ?_
  clear HK
  have hbw1 := hb0.trans (hb1.mono (by simp; omega))
  have hs1 := hb1.size
  simp at hs1
  have b3 := (hb1.block w.heap.size (by simp; omega)).trans ((heap_alloc_old _ _ (by simp)).trans (heap_alloc_new w (Obj.cells #[.int .u8 4, .string key, .string old, .string val] 34)))
  have b5 := (hb1.block (w.heap.size + 1) (by simp)).trans (heap_alloc2_new w _ (Obj.cells #[.int .i64 0, .bool false, .string ⟨#[]⟩] 36))
  have hs1' := hs.below hbw1
  refine wp_seq_k (fun K hK => ?_)
  have HK := Lib.hid hK
  clear hK
  go_wp2_with (go_at_call 29; refine (clone_any _ _ _ _ hs1' hl).mono ?_; rintro e w2 ⟨⟨v2, rfl, hown2⟩, hb2⟩)
  refine HK.out _ _ ?_
  clear HK
  have b3' := (hb2.block w.heap.size (by omega)).trans b3
  have b5' := (hb2.block (w.heap.size + 1) (by omega)).trans b5
  have hs2 := hb2.size
  have hbw2 := hbw1.trans (hb2.mono (by omega))
  obtain ⟨d0, d1, d2, d3⟩ := four b3'
  obtain ⟨a2, cap2, hv2, _⟩ := Row.of_owns hown2
  subst hv2
  have HO2 := Lib.hid hown2
  clear hown2
  refine wp_seq_k (fun K hK => ?_)
  have HK := Lib.hid hK
  clear hK
  go_wp2_with (go_at_call 27; refine (pmayO_any _ _ _ _ _ _ HOP.out).mono ?_; rintro e w3 ⟨rfl, hb3⟩)
  refine HK.out _ _ ?_
  clear HK
  have b3'' := (hb3.block w.heap.size (by omega)).trans b3'
  have b5'' := (hb3.block (w.heap.size + 1) (by omega)).trans b5'
  have hs3 := hb3.size
  have hbw3 := hbw2.trans (hb3.mono (by omega))
  have HO3 := Lib.hid (owns_after HO2.out hb3)
  have hne : (Value.slice a2 l.length cap2).ownBlock ≠ some (w.heap.size + 1) := by
    intro e
    have := (HO2.out.lt _ e).1
    omega
  have hne3 : (Value.slice a2 l.length cap2).ownBlock ≠ some w.heap.size := by
    intro e
    have := (HO2.out.lt _ e).1
    omega
  clear d0 d1 d2 d3
  obtain ⟨d0, d1, d2, d3⟩ := four b3''
  obtain ⟨p0, p1, p2, q0, q1, q2⟩ := trio b5''
  have hbase : w1.heap.size ≤ w3.heap.size := by omega
  go_wp2_with fail
  go_region_held3 (fun w' => w'.cell? ⟨w.heap.size, 0, none⟩ = some (.int .u8 4) ∧ w'.cell? ⟨w.heap.size, 1, none⟩ = some (.string key) ∧ w'.cell? ⟨w.heap.size, 2, none⟩ = some (.string old) ∧ w'.cell? ⟨w.heap.size, 3, none⟩ = some (.string val))
    (first
      | exact ⟨d0, d1, d2, d3⟩
      | (go_split_ands; refine ⟨?_, ?_, ?_, ?_⟩ <;> first | exact gb_keep hgx (by assumption) hne3 | exact keep_b hbd (by assumption))
      | go_keep)
    ((first
      | (go_at_call 30; refine (does_any _).mono ?_; rintro e wd ⟨rfl, hbd0⟩; have hbd : Below w3.heap.size w3 wd := ((Below.refl _ _).drew).trans hbd0; clear hbd0)
      | (go_at_call 45; refine (act_cast (swap_own w1.heap.size a2 cap2 l ⟨4, key, old, val⟩ _ (owns_after HO3.out hbd) hl hso) HLR.out).mono ?_; rintro e wx ⟨⟨vx, rfl, hownx⟩, hgx⟩; unfold rpV; have P0 := gb_keep hgx (keep_b hbd p0) hne; have P1 := gb_keep hgx (keep_b hbd p1) hne; have P2 := gb_keep hgx (keep_b hbd p2) hne; have Q0 := gb_keepf hgx (keep_b hbd p0) (keep_bf hbd p0 q0) hne; have Q1 := gb_keepf hgx (keep_b hbd p1) (keep_bf hbd p1 q1) hne; have Q2 := gb_keepf hgx (keep_b hbd p2) (keep_bf hbd p2 q2) hne)))
  go_wp2
  (try simp only [Exit.inBlock, Exit.then])
  refine bodyPost_ret (v := .tuple #[vx, rpV lr.2]) ?hr rfl ⟨⟨_, rfl, ?_⟩, ?_⟩
  case hr =>
    simp only [results, Tryd.results17]
    go_simp
    try rfl
  · have hB : wx.heap[w.heap.size + 1]? = some (Obj.cells #[.int .i64 0, .bool false, .string ⟨#[]⟩] 36 (0, 0)) := (hgx.block (w.heap.size + 1) (by have := hbd.size; omega) (fun e => hne e.symm)).trans ((hbd.block (w.heap.size + 1) (by omega)).trans b5'')
    have hne4 := own_ne hownx hB (by decide)
    refine owns_mono ?_ (show w.heap.size ≤ w1.heap.size by omega)
    repeat (first | exact hownx | refine World.ownsRow.drew ?_ | refine owns_far ?_ hne4 _)
  · have hbd2 : Below w.heap.size w wd := hbw3.trans (hbd.mono (by omega))
    have hbx : Below w.heap.size w wx := hbd2.trans (gb_to_below hgx hbd2.size (fun k e => by have := (HO2.out.lt _ e).1; omega))
    (repeat' (first | (with_reducible exact Below.refl _ _) | (with_reducible assumption) | (with_reducible refine Below.alloc ?_ ?_ _) | (with_reducible refine Below.drew ?_) | (with_reducible refine below_drewN ?_ _) | (with_reducible refine Below.setCell ?_ ?_ _) | (with_reducible refine Below.trans ?_ (by assumption)) | go_size))
theorem do_any (a : Option Addr) (cap : Nat) (l : List Pr) (o : Opn) (w : World) (hs : SlP w a cap l) (hl : l.length ≤ 1000) (lr : List Pr × Rp) (hlr : doP l o = lr) :
    Calls Tryd.prog 17 #[.slice a l.length cap, opV o] w fun e w' => StRes w.heap.size lr.1 lr.2 e w' ∧ Below w.heap.size w w' := by
  obtain ⟨k, key, old, val⟩ := o
  cases hm : mayS l with
  | false =>
    have : doP l ⟨k, key, old, val⟩ = ([], ⟨2, false, ⟨#[]⟩⟩) := by unfold doP; rw [if_pos hm]
    rw [this] at hlr
    subst hlr
    exact do_nomay a cap l k key old val w hs hl hm
  | true =>
    cases ho : mayO ⟨k, key, old, val⟩ with
    | false =>
      rw [doP_bad hm ho] at hlr
      subst hlr
      exact do_badop a cap l k key old val w hs hl hm ho
    | true =>
      have hk := (mayO_spec ho).2.2.2
      rw [doP_ok hm ho] at hlr
      simp only at hlr hk
      rcases hk with rfl | rfl | rfl | rfl
      · exact do_kind1 a cap l key old val w hs hl hm ho lr (by simpa using hlr)
      · exact do_kind2 a cap l key old val w hs hl hm ho lr (by simpa using hlr)
      · exact do_kind3 a cap l key old val w hs hl hm ho lr (by simpa using hlr)
      · exact do_kind4 a cap l key old val w hs hl hm ho lr (by simpa using hlr)
end Go.Proofs.YtaojblejnpemkaaDoor
namespace Go.Proofs.YtaojblejnpemkaaDoor
open Go.RowKit
theorem quiet_add {P : Program} {f : FuncId} {args : Array Value} {w : World} {a n : Nat} {v : Value}
    (h : Calls P f args (w.drewN (a + n)) fun e w' => e = .returned v ∧ ∃ m, w' = (w.drewN (a + n)).drewN m) :
    Calls P f args (w.drewN (a + n)) fun e w'' => e = .returned v ∧ ∃ m, w'' = w.drewN (a + m) :=
  h.mono fun _ _ ⟨he, m, hm⟩ => ⟨he, n + m, by rw [hm, World.drewN_drewN, Nat.add_assoc]⟩
theorem pr_small {l : List Pr} (h : ∀ p ∈ l, p.1.size ≤ 100000) {i : Nat} {y : Pr} (hy : l[i]? = some y) : y.1.size ≤ 100000 := h y (List.mem_of_getElem? hy)
theorem mayS_long {l : List Pr} (h : ¬ l.length ≤ 8) : mayS l = false := by simp [mayS, h]
theorem good_key0 {l : List Pr} {k : Nat} {y : Pr} (hy : l[k]? = some y) (h : y.1.size = 0) : goodAt l k = false := by
  unfold goodAt
  rw [hy]
  simp [keyOk, h]
theorem good_key9 {l : List Pr} {k : Nat} {y : Pr} (hy : l[k]? = some y) (h : ¬ y.1.size ≤ 8) : goodAt l k = false := by
  unfold goodAt
  rw [hy]
  simp [keyOk, h]
theorem good_val {l : List Pr} {k : Nat} {y : Pr} (hy : l[k]? = some y) (h : ¬ y.2.size ≤ 16) : goodAt l k = false := by
  unfold goodAt
  rw [hy]
  simp [valOk, h]
set_option maxHeartbeats 4000000 in
theorem rmay_any (a : Option Addr) (cap : Nat) (l : List Pr) (w : World) (hr : Row w a (prs l)) (hl : l.length ≤ 1000) (hsm : ∀ p ∈ l, p.1.size ≤ 100000) :
    Calls Tryd.prog 35 #[.slice a l.length cap] w fun e w' => e = .returned (.bool (mayS l)) ∧ ∃ m, w' = w.drewN m := by
  by_cases h8 : l.length ≤ 8
  · go_enter Tryd.func35, Tryd.ntmps35
    refine wp_seq_k (fun K hK => ?_)
    have HK := Lib.hid hK
    clear hK
    go_wp2
    refine HK.out _ _ ?_
    clear HK
    refine wp_seq_k (fun K hK => ?_)
    have HK := Lib.hid hK
    clear hK
    go_wp2
    refine HK.out _ _ ?_
    clear HK
    refine wp_seq_k (fun K hK => ?_)
    go_cut [] (fun wx => goods l l.length = true ∧ ∃ m, wx = w.drewN m)
    case first =>
      go_wp2_with fail
      go_loopw [3] (fun i wr => ∃ k m : Nat, k ≤ l.length ∧ i = .int .i64 k ∧ goods l k = true ∧ wr = w.drewN m) (fun i _ => l.length - (intOf i).toNat)
      case atStart => exact ⟨0, 0, by omega, rfl, goods_zero l, rfl⟩
      case round =>
        obtain ⟨k, m, hk, rfl, hg, rfl⟩ := hrel
        by_cases hlt : k < l.length
        · obtain ⟨bb, off, rfl, hblt, hcs⟩ := hr.pair (List.getElem?_eq_getElem hlt)
          obtain ⟨c0, c1⟩ := hcs _ _ (List.getElem?_eq_getElem hlt)
          have hgs := goods_succ l k
          have hbad := Lib.hid (mayS_bad hlt)
          have g1 := Lib.hid (good_key0 (List.getElem?_eq_getElem hlt))
          have g2 := Lib.hid (good_key9 (List.getElem?_eq_getElem hlt))
          have g3 := Lib.hid (good_val (List.getElem?_eq_getElem hlt))
          have hys := pr_small hsm (List.getElem?_eq_getElem hlt)
          cases k with
          | zero =>
            have hgo := good_zero (List.getElem?_eq_getElem hlt)
            clear hcs
            generalize l[0] = y at *
            obtain ⟨y1, y2⟩ := y
            simp only [Nat.zero_mul, Nat.add_zero] at c0 c1
            simp only [keyOk, valOk] at hgo
            by_cases q1 : y1.size = 0
            · have q1' : ((y1.size : Int) == 0) = true := by simp [q1]
              have HB := Lib.hid (hbad.out (g1.out q1))
              clear q1 hgo hgs
              go_wp2
              go_ret
              exact ⟨ret_bool HB.out.symm, _, rfl⟩
            · have q1' : ((y1.size : Int) == 0) = false := by rw [beq_eq_false_iff_ne]; omega
              by_cases q2 : y1.size ≤ 8
              · by_cases q3 : y2.size ≤ 16
                · rw [decide_eq_true (show 1 ≤ y1.size by omega), decide_eq_true q2, decide_eq_true q3] at hgo
                  rw [hgo, hg] at hgs
                  clear hgo q1
                  go_wp2_with fail
                  go_quiet (fail)
                  go_wp2
                  go_roundw
                  case rel => exact ⟨1, _, by omega, rfl, hgs, rfl⟩
                  case measure => simp [intOf]; omega
                · have HB := Lib.hid (hbad.out (g3.out q3))
                  clear q1 hgo hgs
                  go_wp2
                  go_ret
                  exact ⟨ret_bool HB.out.symm, _, rfl⟩
              · have HB := Lib.hid (hbad.out (g2.out q2))
                clear q1 hgo hgs
                go_wp2
                go_ret
                exact ⟨ret_bool HB.out.symm, _, rfl⟩
          | succ j =>
            have hjl : j < l.length := by omega
            have hgo := good_succ (List.getElem?_eq_getElem hjl) (List.getElem?_eq_getElem hlt)
            have hxs := pr_small hsm (List.getElem?_eq_getElem hjl)
            obtain ⟨d0, d1⟩ := hcs _ _ (List.getElem?_eq_getElem hjl)
            clear hcs
            generalize l[j + 1] = y at *
            generalize l[j] = x at *
            obtain ⟨y1, y2⟩ := y
            obtain ⟨x1, x2⟩ := x
            simp only [keyOk, valOk] at hgo
            by_cases q1 : y1.size = 0
            · have q1' : ((y1.size : Int) == 0) = true := by simp [q1]
              have HB := Lib.hid (hbad.out (g1.out q1))
              clear q1 hgo hgs
              go_wp2
              go_ret
              exact ⟨ret_bool HB.out.symm, _, rfl⟩
            · have q1' : ((y1.size : Int) == 0) = false := by rw [beq_eq_false_iff_ne]; omega
              by_cases q2 : y1.size ≤ 8
              · by_cases q3 : y2.size ≤ 16
                · have hw1 : (0 : Int) ≤ (j : Int) := by omega
                  have hw2 : (j : Int) < (l.length : Int) := by omega
                  have hw3 : (0 : Int) ≤ (j : Int) + 1 := by omega
                  have hw4 : (j : Int) + 1 < (l.length : Int) := by omega
                  have hw5 : ((j : Int) + 1).toNat = j + 1 := by omega
                  have hw0 : IntKind.i64.wrap (j : Int) = (j : Int) := IntWalk.i64_in _ (by omega)
                  rw [decide_eq_true (show 1 ≤ y1.size by omega), decide_eq_true q2, decide_eq_true q3] at hgo
                  simp only [Bool.and_self, Bool.true_and] at hgo
                  cases h3 : kl x1 y1
                  · have HB := Lib.hid (hbad.out (hgo.trans h3))
                    clear q1 hgo hgs
                    go_wp2_with fail
                    go_quiet ((go_at_call 49; first | exact quiet_add (rless_any _ _ _ hxs hys) | exact Calls.quiet_of (rless_any _ _ _ hxs hys)))
                    go_wp2
                    go_ret
                    exact ⟨ret_bool HB.out.symm, m + nq, by rw [World.drewN_drewN]⟩
                  · rw [hgo, h3, hg] at hgs
                    clear hgo q1
                    go_wp2_with fail
                    go_quiet ((go_at_call 49; first | exact quiet_add (rless_any _ _ _ hxs hys) | exact Calls.quiet_of (rless_any _ _ _ hxs hys)))
                    go_wp2
                    go_roundw
                    case rel => exact ⟨j + 1 + 1, _, by omega, by go_num, hgs, rfl⟩
                    case measure => simp [intOf]; omega
                · have HB := Lib.hid (hbad.out (g3.out q3))
                  clear q1 hgo hgs
                  go_wp2
                  go_ret
                  exact ⟨ret_bool HB.out.symm, _, rfl⟩
              · have HB := Lib.hid (hbad.out (g2.out q2))
                clear q1 hgo hgs
                go_wp2
                go_ret
                exact ⟨ret_bool HB.out.symm, _, rfl⟩
        · go_wp2
          go_meet
          exact ⟨by rw [show l.length = k by omega]; exact hg, _, rfl⟩
    obtain ⟨hg, m, rfl⟩ := hcut
    have HB : Hid (mayS l = true) := Lib.hid (by rw [mayS_len hg]; exact decide_eq_true h8)
    clear hg
    refine hK _ _ ?_; clear hK
    go_wp2
    go_ret
    exact ⟨ret_bool HB.out.symm, _, rfl⟩
  · have HB := Lib.hid (mayS_long h8)
    go_enter Tryd.func35, Tryd.ntmps35
    go_wp2
    go_ret
    exact ⟨ret_bool HB.out.symm, 0, rfl⟩
set_option maxRecDepth 100000 in
theorem rcopy_any (a : Option Addr) (cap : Nat) (l : List Pr) (w : World) (hs : SlP w a cap l) (hl : l.length ≤ 1000) :
    Calls Tryd.prog 37 #[.slice a l.length cap] w fun e w' => OwnPrs w.heap.size l e w' ∧ Below w.heap.size w w' := by
  have hr := hs.row
  have hmx := hs.max
  have hle := hs.le
  unfold maxLen at hmx
  go_enter Tryd.func37, Tryd.ntmps37
  go_wp2_with (at_builtin; refine wpList_append_row rfl _ _ 46 72 elPair rfl w.heap.size _ _ _ rfl (World.ownsRow_nil _ _ _ _) _ _ _ _ rfl (by rw [prs_len]; omega) hr prs_one (by omega) (by omega) (by omega) ?_; intro v5 w5 hown5 hb5)
  go_ret
  exact ⟨⟨_, rfl, by simpa using hown5⟩, hb5⟩
end Go.Proofs.YtaojblejnpemkaaDoor
namespace Go.Proofs.YtaojblejnpemkaaDoor
open Go.RowKit
def nek (key : Tx) (p : Pr) : Bool := decide (p.1 ≠ key)
def wstep (key v : Tx) (s : List Pr × Bool) (p : Pr) : List Pr × Bool :=
  if s.2 = false ∧ kl p.1 key = false then (s.1 ++ [(key, v)] ++ (if nek key p then [p] else []), true) else (s.1 ++ (if nek key p then [p] else []), s.2)
def wst (key v : Tx) (l : List Pr) (k : Nat) : List Pr × Bool := (l.take k).foldl (wstep key v) ([], false)
theorem wst_zero (key v : Tx) (l : List Pr) : wst key v l 0 = ([], false) := by simp [wst]
theorem wst_succ (key v : Tx) (l : List Pr) (k : Nat) (x : Pr) (h : l[k]? = some x) : wst key v l (k + 1) = wstep key v (wst key v l k) x := by
  unfold wst
  rw [List.take_add_one, h]
  simp
theorem wst_len (key v : Tx) (l : List Pr) (k : Nat) : (wst key v l k).1.length ≤ 2 * k := by
  induction k with
  | zero => rw [wst_zero]; simp
  | succ k ih =>
    cases h : l[k]? with
    | none =>
      have e : l.take (k + 1) = l.take k := by rw [List.take_add_one, h]; simp
      have e2 : wst key v l (k + 1) = wst key v l k := by unfold wst; rw [e]
      rw [e2]
      omega
    | some x =>
      rw [wst_succ key v l k x h]
      unfold wstep
      split
      · simp only [List.length_append, List.length_singleton]
        split <;> simp <;> omega
      · simp only [List.length_append]
        split <;> simp <;> omega
theorem filter_nek (key : Tx) {l : List Pr} (hr : Rises l) : l.filter (nek key) = delL l key := by
  have e : l.filter (nek key) = (lo l key ++ mid l key ++ hi l key).filter (nek key) := by rw [← split3 key hr]
  rw [e, List.filter_append, List.filter_append]
  have e1 : (lo l key).filter (nek key) = lo l key := List.filter_eq_self.2 fun q hq => decide_eq_true (kl_ne (mem_lo hq).2)
  have e2 : (mid l key).filter (nek key) = [] := filter_none fun q hq => by
    unfold mid at hq
    rw [List.mem_filter, decide_eq_true_eq] at hq
    simp [nek, hq.2]
  have e3 : (hi l key).filter (nek key) = hi l key := List.filter_eq_self.2 fun q hq => decide_eq_true (fun e => kl_ne (mem_hi hq).2 e.symm)
  rw [e1, e2, e3, List.append_nil]
  rfl
theorem wfold_true (key v : Tx) : ∀ (m acc : List Pr), m.foldl (wstep key v) (acc, true) = (acc ++ m.filter (nek key), true)
  | [], acc => by simp
  | p :: m, acc => by
    rw [List.foldl_cons]
    have : wstep key v (acc, true) p = (acc ++ (if nek key p then [p] else []), true) := by simp [wstep]
    rw [this, wfold_true key v m]
    cases h : nek key p <;> simp [h]
def wend (key v : Tx) (s : List Pr × Bool) : List Pr := if s.2 then s.1 else s.1 ++ [(key, v)]
theorem wfold_false (key v : Tx) : ∀ (m acc : List Pr), Rises m → wend key v (m.foldl (wstep key v) (acc, false)) = acc ++ lo m key ++ (key, v) :: hi m key
  | [], acc, _ => by simp [wend, lo, hi]
  | p :: m, acc, h => by
    have h2 := List.pairwise_cons.1 h
    rw [List.foldl_cons]
    cases h1 : kl p.1 key with
    | true =>
      have hn : nek key p = true := decide_eq_true (kl_ne h1)
      have : wstep key v (acc, false) p = (acc ++ [p], false) := by simp [wstep, h1, hn]
      rw [this, wfold_false key v m _ h2.2]
      simp [lo, hi, h1, kl_asymm h1]
    | false =>
      have : wstep key v (acc, false) p = (acc ++ [(key, v)] ++ (if nek key p then [p] else []), true) := by simp [wstep, h1]
      rw [this, wfold_true]
      have hl : ∀ q ∈ p :: m, kl q.1 key = false := fun q hq => by
        rw [List.mem_cons] at hq
        rcases hq with rfl | hq
        · exact h1
        · cases h3 : kl q.1 key with
          | false => rfl
          | true => rw [kl_trans (h2.1 q hq) h3] at h1; cases h1
      have e1 : lo (p :: m) key = [] := filter_none hl
      have e2 : hi (p :: m) key = (p :: m).filter (nek key) := by
        unfold hi
        refine List.filter_congr fun q hq => ?_
        have := hl q hq
        cases h3 : kl key q.1 with
        | true => (simp [nek]; exact fun e => kl_ne h3 e.symm)
        | false => simp [nek, kl_tri this h3]
      rw [e1, e2]
      cases h4 : nek key p <;> simp [wend, h4]
theorem wst_all (key v : Tx) {l : List Pr} (h : Rises l) : wend key v (wst key v l l.length) = putL l key v := by
  unfold wst
  rw [List.take_length, wfold_false key v l [] h]
  simp [putL]
theorem wstep_put {key v : Tx} {o : List Pr} {p : Pr} (h : kl p.1 key = false) (hn : p.1 ≠ key) : wstep key v (o, false) p = (o ++ [(key, v)] ++ [p], true) := by simp [wstep, h, nek, hn]
theorem wstep_eq {key v : Tx} {o : List Pr} {p : Pr} (h : p.1 = key) : wstep key v (o, false) p = (o ++ [(key, v)], true) := by simp [wstep, nek, h, kl_irrefl]
theorem wstep_lt {key v : Tx} {o : List Pr} {p : Pr} (h : kl p.1 key = true) : wstep key v (o, false) p = (o ++ [p], false) := by simp [wstep, h, nek, kl_ne h]
theorem wstep_on {key v : Tx} {o : List Pr} {p : Pr} (hn : p.1 ≠ key) : wstep key v (o, true) p = (o ++ [p], true) := by simp [wstep, nek, hn]
theorem wstep_no {key v : Tx} {o : List Pr} {p : Pr} (hn : p.1 = key) : wstep key v (o, true) p = (o, true) := by simp [wstep, nek, hn]
def PairsOf (w : World) (base : Nat) (v : Value) (l : List Pr) : Prop := w.ownsRow base 72 2 v l.length (prs l)
theorem PairsOf.snoc {w : World} {base : Nat} {v : Value} {l : List Pr} {p : Pr} (h : w.ownsRow base 72 2 v (l.length + 1) (prs l ++ [.string p.1, .string p.2])) : PairsOf w base v (l ++ [p]) := by
  unfold PairsOf
  rw [prs_app, List.length_append]
  exact h
set_option maxRecDepth 100000 in
set_option maxHeartbeats 4000000 in
theorem without_any (a : Option Addr) (cap : Nat) (l : List Pr) (key : Tx) (w : World) (hr : Row w a (prs l)) (hl : l.length ≤ 1000) (hso : Rises l) :
    Calls Tryd.prog 39 #[.slice a l.length cap, .string key] w fun e w' => OwnPrs w.heap.size (delL l key) e w' ∧ Below w.heap.size w w' := by
  go_enter Tryd.func39, Tryd.ntmps39
  refine wp_seq_k (fun K hK => ?_)
  have HK := Lib.hid hK
  clear hK
  go_wp2
  refine HK.out _ _ ?_
  clear HK
  refine wp_seq_k (fun K hK => ?_)
  have HK := Lib.hid hK
  clear hK
  go_wp2
  refine HK.out _ _ ?_
  clear HK
  refine wp_seq_k (fun K hK => ?_)
  go_cut [5] (fun o wx => PairsOf wx w.heap.size o (delL l key) ∧ Below w.heap.size w wx)
  case first =>
    go_wp2_with fail
    go_loopw [5, 6] (fun o i wr => ∃ k : Nat, k ≤ l.length ∧ i = .int .i64 k ∧ PairsOf wr w.heap.size o ((l.take k).filter (nek key)) ∧ Below w.heap.size w wr) (fun _ i _ => l.length - (intOf i).toNat)
    case atStart => exact ⟨0, by omega, rfl, World.ownsRow_nil _ _ _ _, Below.refl _ _⟩
    case round =>
      obtain ⟨k, hk, rfl, hown, hbr⟩ := hrel
      by_cases hlt : k < l.length
      · obtain ⟨bb, off, rfl, hblt, hcs⟩ := (hr.below0 hbr).pair (List.getElem?_eq_getElem hlt)
        obtain ⟨c0, c1⟩ := hcs _ _ (List.getElem?_eq_getElem hlt)
        have hstep : (l.take (k + 1)).filter (nek key) = (l.take k).filter (nek key) ++ (if nek key l[k] then [l[k]] else []) := by
          rw [List.take_add_one, List.getElem?_eq_getElem hlt, List.filter_append]
          cases h : nek key l[k] <;> simp [h]
        have hln : ((l.take k).filter (nek key)).length ≤ 1000 := Nat.le_trans (List.length_filter_le _ _) (by rw [List.length_take]; omega)
        clear hcs
        have HS := Lib.hid hstep
        clear hstep
        generalize l[k] = y at *
        obtain ⟨y1, y2⟩ := y
        generalize (l.take k).filter (nek key) = o1 at *
        by_cases hy : y1 = key
        · have hyb : (y1.toList == key.toList) = true := by rw [tx_eq]; exact decide_eq_true hy
          have HY := Lib.hid hy
          clear hy
          go_wp2
          go_roundw
          case rel => exact ⟨k + 1, by omega, by go_num, by rw [HS.out]; simpa [nek, HY.out] using hown, hbr⟩
          case measure => simp [intOf]; omega
        · have hyb : (y1.toList == key.toList) = false := by rw [tx_eq]; exact decide_eq_false hy
          have HY := Lib.hid hy
          have hbs := hbr.size
          unfold PairsOf at hown
          clear hy
          go_wp2_with (at_builtin; refine wpList_append1 rfl _ _ 46 72 elPair rfl w.heap.size _ _ _ rfl hown #[.string y1, .string y2] rfl (by simp; exact ⟨rfl, rfl⟩) _ rfl (by omega) (by omega) hbs ?_; intro v5 w5 hown5 hb5 _)
          go_roundw
          case rel => exact ⟨k + 1, by omega, by go_num, by rw [HS.out]; simp only [nek, HY.out, ne_eq, not_false_eq_true, decide_true, if_true]; exact PairsOf.snoc (p := (y1, y2)) hown5, hbr.trans hb5⟩
          case measure => simp [intOf]; omega
      · go_wp2
        go_meet
        exact ⟨by rw [← filter_nek key hso]; rw [show k = l.length by omega, List.take_length] at hown; exact hown, hbr⟩
  obtain ⟨hown, hbx⟩ := hcut
  refine hK _ _ ?_; clear hK
  go_wp2
  go_ret
  exact ⟨⟨_, rfl, hown⟩, hbx⟩
end Go.Proofs.YtaojblejnpemkaaDoor
namespace Go.Proofs.YtaojblejnpemkaaDoor
open Go.RowKit
set_option maxRecDepth 100000 in
set_option maxHeartbeats 8000000 in
theorem with_any (a : Option Addr) (cap : Nat) (l : List Pr) (key v : Tx) (w : World) (hr : Row w a (prs l)) (hl : l.length ≤ 1000) (hso : Rises l) (hsm : ∀ p ∈ l, p.1.size ≤ 100000) (hks : key.size ≤ 100000) :
    Calls Tryd.prog 38 #[.slice a l.length cap, .string key, .string v] w fun e w' => OwnPrs w.heap.size (putL l key v) e w' ∧ Below w.heap.size w w' := by
  go_enter Tryd.func38, Tryd.ntmps38
  refine wp_seq_k (fun K hK => ?_)
  have HK := Lib.hid hK
  clear hK
  go_wp2
  refine HK.out _ _ ?_
  clear HK
  refine wp_seq_k (fun K hK => ?_)
  have HK := Lib.hid hK
  clear hK
  go_wp2
  refine HK.out _ _ ?_
  clear HK
  refine wp_seq_k (fun K hK => ?_)
  have HK := Lib.hid hK
  clear hK
  go_wp2
  refine HK.out _ _ ?_
  clear HK
  refine wp_seq_k (fun K hK => ?_)
  go_cut [7, 8] (fun o b wx => ∃ s : List Pr × Bool, wend key v s = putL l key v ∧ s.1.length ≤ 2000 ∧ b = .bool s.2 ∧ PairsOf wx w.heap.size o s.1 ∧ Below w.heap.size w wx)
  case first =>
    go_wp2_with fail
    go_loopw [7, 8, 9] (fun o b i wr => ∃ k : Nat, k ≤ l.length ∧ i = .int .i64 k ∧ b = .bool (wst key v l k).2 ∧ PairsOf wr w.heap.size o (wst key v l k).1 ∧ Below w.heap.size w wr) (fun _ _ i _ => l.length - (intOf i).toNat)
    case atStart => exact ⟨0, by omega, rfl, rfl, World.ownsRow_nil _ _ _ _, Below.refl _ _⟩
    case round =>
      obtain ⟨k, hk, rfl, rfl, hown, hbr⟩ := hrel
      have hwl := wst_len key v l k
      by_cases hlt : k < l.length
      · obtain ⟨bb, off, rfl, hblt, hcs⟩ := hr.pair (List.getElem?_eq_getElem hlt)
        obtain ⟨cw0, cw1⟩ := hcs _ _ (List.getElem?_eq_getElem hlt)
        have c0 := (hbr.cell (p := ⟨bb, off + k * 2, none⟩) hblt).trans cw0
        have c1 := (hbr.cell (p := ⟨bb, off + k * 2 + 1, none⟩) hblt).trans cw1
        have hstep := wst_succ key v l k _ (List.getElem?_eq_getElem hlt)
        have hys := pr_small hsm (List.getElem?_eq_getElem hlt)
        clear hcs
        generalize l[k] = y at *
        obtain ⟨y1, y2⟩ := y
        have hbs := hbr.size
        cases hb : (wst key v l k).2
        all_goals
          generalize hst : wst key v l k = st at *
          obtain ⟨o1, b1⟩ := st
          simp only at hb hown hwl
          subst hb
          have HST := Lib.hid hst
          clear hst
          unfold PairsOf at hown
        · cases hkl : kl y1 key
          · by_cases hy : y1 = key
            · have hyb : (y1.toList == key.toList) = true := by rw [tx_eq]; exact decide_eq_true hy
              rw [wstep_eq hy] at hstep
              have HS := Lib.hid hstep
              clear hy hstep
              go_wp2_with (first
                | (go_at_call 49; refine (rless_any _ _ _ hys hks).mono ?_; rintro e w1 ⟨rfl, m, rfl⟩)
                | (at_builtin; refine wpList_append1 rfl (.tmp 28) (.tmp 32) 46 72 elPair rfl w.heap.size _ _ _ rfl hown #[.string key, .string v] rfl (by simp; exact ⟨rfl, rfl⟩) _ rfl (by omega) (by omega) (by simpa using hbs) ?_; intro v5 w5 hown5 hb5 _; have hbw5 := (below_drewN hbr m).trans hb5; have e0 := (hbw5.cell (p := ⟨bb, off + k * 2, none⟩) hblt).trans cw0; have e1 := (hbw5.cell (p := ⟨bb, off + k * 2 + 1, none⟩) hblt).trans cw1))
              go_roundw
              case rel => exact ⟨k + 1, by omega, by go_num, by rw [HS.out], by rw [HS.out]; exact PairsOf.snoc (p := (key, v)) hown5, (below_drewN hbr m).trans hb5⟩
              case measure => simp [intOf]; omega
            · have hyb : (y1.toList == key.toList) = false := by rw [tx_eq]; exact decide_eq_false hy
              rw [wstep_put hkl hy] at hstep
              have HS := Lib.hid hstep
              clear hy hstep
              go_wp2_with (first
                | (go_at_call 49; refine (rless_any _ _ _ hys hks).mono ?_; rintro e w1 ⟨rfl, m, rfl⟩)
                | (at_builtin; refine wpList_append1 rfl (.tmp 28) (.tmp 32) 46 72 elPair rfl w.heap.size _ _ _ rfl hown #[.string key, .string v] rfl (by simp; exact ⟨rfl, rfl⟩) _ rfl (by omega) (by omega) (by simpa using hbs) ?_; intro v5 w5 hown5 hb5 _; have hbw5 := (below_drewN hbr m).trans hb5; have e0 := (hbw5.cell (p := ⟨bb, off + k * 2, none⟩) hblt).trans cw0; have e1 := (hbw5.cell (p := ⟨bb, off + k * 2 + 1, none⟩) hblt).trans cw1; have hbs5 := hbw5.size)
                | (at_builtin; refine wpList_append1 rfl (.tmp 41) (.tmp 46) 46 72 elPair rfl w.heap.size _ _ _ rfl hown5 #[.string y1, .string y2] rfl (by simp; exact ⟨rfl, rfl⟩) _ rfl (by omega) (by omega) (by simpa using hbs5) ?_; intro v6 w6 hown6 hb6 _))
              go_roundw
              case rel => exact ⟨k + 1, by omega, by go_num, by rw [HS.out], by rw [HS.out]; exact PairsOf.snoc (p := (y1, y2)) (by simp only [List.length_append, List.length_singleton, prs_app]; exact hown6), hbw5.trans hb6⟩
              case measure => simp [intOf]; omega
          · have hy : y1 ≠ key := kl_ne hkl
            have hyb : (y1.toList == key.toList) = false := by rw [tx_eq]; exact decide_eq_false hy
            rw [wstep_lt hkl] at hstep
            have HS := Lib.hid hstep
            clear hy hstep
            go_wp2_with (first
              | (go_at_call 49; refine (rless_any _ _ _ hys hks).mono ?_; rintro e w1 ⟨rfl, m, rfl⟩)
              | (at_builtin; refine wpList_append1 rfl _ _ 46 72 elPair rfl w.heap.size _ _ _ rfl hown #[.string y1, .string y2] rfl (by simp; exact ⟨rfl, rfl⟩) _ rfl (by omega) (by omega) (by simpa using hbs) ?_; intro v5 w5 hown5 hb5 _))
            go_roundw
            case rel => exact ⟨k + 1, by omega, by go_num, by rw [HS.out], by rw [HS.out]; exact PairsOf.snoc (p := (y1, y2)) hown5, (below_drewN hbr m).trans hb5⟩
            case measure => simp [intOf]; omega
        · by_cases hy : y1 = key
          · have hyb : (y1.toList == key.toList) = true := by rw [tx_eq]; exact decide_eq_true hy
            rw [wstep_no hy] at hstep
            have HS := Lib.hid hstep
            clear hy hstep
            go_wp2
            go_roundw
            case rel => exact ⟨k + 1, by omega, by go_num, by rw [HS.out], by rw [HS.out]; exact hown, hbr⟩
            case measure => simp [intOf]; omega
          · have hyb : (y1.toList == key.toList) = false := by rw [tx_eq]; exact decide_eq_false hy
            rw [wstep_on hy] at hstep
            have HS := Lib.hid hstep
            clear hy hstep
            go_wp2_with (at_builtin; refine wpList_append1 rfl _ _ 46 72 elPair rfl w.heap.size _ _ _ rfl hown #[.string y1, .string y2] rfl (by simp; exact ⟨rfl, rfl⟩) _ rfl (by omega) (by omega) (by simpa using hbs) ?_; intro v5 w5 hown5 hb5 _)
            go_roundw
            case rel => exact ⟨k + 1, by omega, by go_num, by rw [HS.out], by rw [HS.out]; exact PairsOf.snoc (p := (y1, y2)) hown5, hbr.trans hb5⟩
            case measure => simp [intOf]; omega
      · go_wp2
        go_meet
        exact ⟨wst key v l k, by rw [show k = l.length by omega]; exact wst_all key v hso, by omega, rfl, hown, hbr⟩
  obtain ⟨s, hend, hsl, rfl, hown, hbx⟩ := hcut
  obtain ⟨o1, b1⟩ := s
  unfold PairsOf at hown
  refine hK _ _ ?_; clear hK
  have hbs := hbx.size
  cases b1
  · have HE := Lib.hid hend
    clear hend
    go_wp2_with (at_builtin; refine wpList_append1 rfl _ _ 46 72 elPair rfl w.heap.size _ _ _ rfl hown #[.string key, .string v] rfl (by simp; exact ⟨rfl, rfl⟩) _ rfl (by omega) (by omega) (by simpa using hbs) ?_; intro v5 w5 hown5 hb5 _)
    go_ret
    refine ⟨⟨_, rfl, ?_⟩, hbx.trans hb5⟩
    rw [← HE.out]
    exact PairsOf.snoc (p := (key, v)) hown5
  · have HE := Lib.hid hend
    clear hend
    go_wp2
    go_ret
    refine ⟨⟨_, rfl, ?_⟩, hbx⟩
    rw [← HE.out]
    exact hown
end Go.Proofs.YtaojblejnpemkaaDoor
namespace Go.Proofs.YtaojblejnpemkaaDoor
open Go.RowKit
theorem blk_drewN {w : World} {i : Nat} {o : Obj} (m : Nat) (h : w.heap[i]? = some o) : (w.drewN m).heap[i]? = some o := h
theorem blw1 (w : World) (o : Obj) : Below w.heap.size w (w.alloc o) := (Below.refl _ _).alloc (Nat.le_refl _) _
def SeenK (l : List Pr) (key : Tx) (k : Nat) (x : Option Tx) : Prop := x = look l key ∨ (x = none ∧ ∀ p ∈ l.take k, p.1 ≠ key)
theorem seen_zero (l : List Pr) (key : Tx) : SeenK l key 0 none := .inr ⟨rfl, by simp⟩
theorem seen_hit {l : List Pr} (hr : Rises l) {k : Nat} {p : Pr} (h : l[k]? = some p) {key : Tx} (he : p.1 = key) : SeenK l key (k + 1) (some p.2) := by
  left
  subst he
  exact (look_mem hr (List.mem_of_getElem? h)).symm
theorem seen_miss {l : List Pr} {k : Nat} {p : Pr} (h : l[k]? = some p) {key : Tx} (he : p.1 ≠ key) {x : Option Tx} (hx : SeenK l key k x) : SeenK l key (k + 1) x := by
  rcases hx with hx | ⟨rfl, hx⟩
  · exact .inl hx
  · refine .inr ⟨rfl, fun q hq => ?_⟩
    rw [List.take_add_one, h] at hq
    simp only [Option.toList, List.mem_append, List.mem_singleton] at hq
    rcases hq with hq | rfl
    · exact hx q hq
    · exact he
theorem seen_end {l : List Pr} {key : Tx} {x : Option Tx} (hx : SeenK l key l.length x) : x = look l key := by
  rcases hx with hx | ⟨rfl, hx⟩
  · exact hx
  · rw [List.take_length] at hx
    unfold look
    have : mid l key = [] := by
      unfold mid
      exact filter_none fun q hq => decide_eq_false (hx q hq)
    rw [this]
    rfl
def rpC (x : Option Tx) : Array Value := #[.int .i64 0, .bool x.isSome, .string (x.getD ⟨#[]⟩)]
def wasBox (w : World) (g : Nat) (x : Option Tx) : Prop := w.heap[g]? = some (.cells (rpC x) 36 (0, 0))
theorem wasBox_set {w : World} {g : Nat} {x : Option Tx} (h : wasBox w g x) (u : Tx) : wasBox (((w.setCell ⟨g, 0, none⟩ (.int .i64 0)).setCell ⟨g, 1, none⟩ (.bool true)).setCell ⟨g, 2, none⟩ (.string u)) g (some u) := by
  unfold wasBox at *
  have h1 := heap_setCell_same w g 0 _ _ (.int .i64 0) h
  have h2 := heap_setCell_same _ g 1 _ _ (.bool true) h1
  have h3 := heap_setCell_same _ g 2 _ _ (.string u) h2
  exact h3
set_option maxRecDepth 100000 in
set_option maxHeartbeats 4000000 in
theorem rdo_nomay (a : Option Addr) (cap : Nat) (l : List Pr) (k : Int) (key old val : Tx) (w : World) (hs : SlP w a cap l) (hl : l.length ≤ 1000) (hsm : ∀ p ∈ l, p.1.size ≤ 100000) (hm : mayS l = false) :
    Calls Tryd.prog 24 #[.slice a l.length cap, .agg #[.int .u8 k, .string key, .string old, .string val]] w fun e w' => StRes w.heap.size [] ⟨2, false, ⟨#[]⟩⟩ e w' ∧ Below w.heap.size w w' := by
  have hb0 : Below w.heap.size w ((w.alloc (Obj.cells #[.int .u8 k, .string key, .string old, .string val] 34)).alloc (Obj.cells #[.int .i64 0, .bool false, .string ⟨#[]⟩] 36)) := ((Below.refl _ _).alloc (Nat.le_refl _) _).alloc (by simp) _
  have hr0 := hs.row.below0 hb0
  have b5 := heap_alloc2_new w (Obj.cells #[.int .u8 k, .string key, .string old, .string val] 34) (Obj.cells #[.int .i64 0, .bool false, .string ⟨#[]⟩] 36)
  have HM := Lib.hid hm
  clear hm
  go_enter Tryd.func24, Tryd.ntmps24
  refine wp_seq_k (fun K hK => ?_)
  have HK := Lib.hid hK
  clear hK
  go_wp2
  refine HK.out _ _ ?_
  clear HK
  go_wp2_with (go_at_call 35; refine (rmay_any _ _ _ _ hr0 hl hsm).mono ?_; rintro e w1 ⟨rfl, m, rfl⟩; rw [HM.out]; obtain ⟨p0, p1, p2, q0, q1, q2⟩ := trio (blk_drewN m b5))
  (try simp only [Exit.inBlock, Exit.then])
  refine bodyPost_ret (v := .tuple #[.slice none 0 0, rpV ⟨2, false, ⟨#[]⟩⟩]) ?hr rfl ⟨⟨_, rfl, World.ownsRow_nil _ _ _ _⟩, ?_⟩
  case hr =>
    simp only [results, Tryd.results24]
    go_simp
    try rfl
  (repeat' (first | (with_reducible exact Below.refl _ _) | (with_reducible assumption) | (with_reducible refine Below.alloc ?_ ?_ _) | (with_reducible refine Below.drew ?_) | (with_reducible refine below_drewN ?_ _) | (with_reducible refine Below.setCell ?_ ?_ _) | (with_reducible refine Below.trans ?_ (by assumption)) | go_size))
set_option maxRecDepth 100000 in
set_option maxHeartbeats 4000000 in
theorem rdo_badop (a : Option Addr) (cap : Nat) (l : List Pr) (k : Int) (key old val : Tx) (w : World) (hs : SlP w a cap l) (hl : l.length ≤ 1000) (hsm : ∀ p ∈ l, p.1.size ≤ 100000) (hm : mayS l = true) (ho : mayO ⟨k, key, old, val⟩ = false) :
    Calls Tryd.prog 24 #[.slice a l.length cap, .agg #[.int .u8 k, .string key, .string old, .string val]] w fun e w' => StRes w.heap.size l ⟨210, false, ⟨#[]⟩⟩ e w' ∧ Below w.heap.size w w' := by
  have hb0 : Below w.heap.size w ((w.alloc (Obj.cells #[.int .u8 k, .string key, .string old, .string val] 34)).alloc (Obj.cells #[.int .i64 0, .bool false, .string ⟨#[]⟩] 36)) := ((Below.refl _ _).alloc (Nat.le_refl _) _).alloc (by simp) _
  have hr0 := hs.row.below0 hb0
  have b3 : ((w.alloc (Obj.cells #[.int .u8 k, .string key, .string old, .string val] 34)).alloc (Obj.cells #[.int .i64 0, .bool false, .string ⟨#[]⟩] 36)).heap[w.heap.size]? = _ := ((heap_alloc_old _ _ (by simp)).trans (heap_alloc_new w (Obj.cells #[.int .u8 k, .string key, .string old, .string val] 34)))
  have b5 := heap_alloc2_new w (Obj.cells #[.int .u8 k, .string key, .string old, .string val] 34) (Obj.cells #[.int .i64 0, .bool false, .string ⟨#[]⟩] 36)
  have HM := Lib.hid hm
  have HOP := Lib.hid ho
  clear hm ho
  go_enter Tryd.func24, Tryd.ntmps24
  refine wp_seq_k (fun K hK => ?_)
  have HK := Lib.hid hK
  clear hK
  go_wp2
  refine HK.out _ _ ?_
  clear HK
  refine wp_seq_k (fun K hK => ?_)
  have HK := Lib.hid hK
  clear hK
  go_wp2_with (go_at_call 35; refine (rmay_any _ _ _ _ hr0 hl hsm).mono ?_; rintro e w1 ⟨rfl, m, rfl⟩; rw [HM.out])
  refine HK.out _ _ ?_
  clear HK
  have hb1 := below_drewN hb0 m
  have b3 := blk_drewN m b3
  have b5 := blk_drewN m b5
  have hs1 : w.heap.size + 2 ≤ (World.drewN ((w.alloc (Obj.cells #[.int .u8 k, .string key, .string old, .string val] 34)).alloc (Obj.cells #[.int .i64 0, .bool false, .string ⟨#[]⟩] 36)) m).heap.size := by simp
  generalize World.drewN ((w.alloc (Obj.cells #[.int .u8 k, .string key, .string old, .string val] 34)).alloc (Obj.cells #[.int .i64 0, .bool false, .string ⟨#[]⟩] 36)) m = w1 at *
  have hsl1 := hs.below hb1
  obtain ⟨d0, d1, d2, d3⟩ := four b3
  go_wp2_with (first
    | (go_at_call 36; refine (rmayO_any _ _ _ _ _ _ HOP.out).mono ?_; rintro e w2 ⟨rfl, hb2⟩)
    | (go_at_call 37; refine (rcopy_any _ _ _ _ (hsl1.below hb2) hl).mono ?_; rintro e w3 ⟨⟨v3, rfl, hown3⟩, hb3⟩; have hb13 := hb2.trans (hb3.mono hb2.size); obtain ⟨p0, p1, p2, q0, q1, q2⟩ := trio ((hb13.block (w.heap.size + 1) (by omega)).trans b5)))
  have hne := own_ne hown3 ((hb13.block (w.heap.size + 1) (by omega)).trans b5) (by decide)
  (try simp only [Exit.inBlock, Exit.then])
  refine bodyPost_ret (v := .tuple #[v3, rpV ⟨210, false, ⟨#[]⟩⟩]) ?hr rfl ⟨⟨_, rfl, ?_⟩, ?_⟩
  case hr =>
    simp only [results, Tryd.results24]
    go_simp
    try rfl
  · refine owns_mono ?_ (show w.heap.size ≤ w2.heap.size by have := hb2.size; omega)
    repeat (first | exact hown3 | refine World.ownsRow.drew ?_ | refine owns_far ?_ hne _)
  · have hbw3 : Below w.heap.size w w3 := hb1.trans (hb13.mono (by omega))
    (repeat' (first | (with_reducible exact Below.refl _ _) | (with_reducible assumption) | (with_reducible refine Below.alloc ?_ ?_ _) | (with_reducible refine Below.drew ?_) | (with_reducible refine below_drewN ?_ _) | (with_reducible refine Below.setCell ?_ ?_ _) | (with_reducible refine Below.trans ?_ (by assumption)) | go_size))
end Go.Proofs.YtaojblejnpemkaaDoor
namespace Go.Proofs.YtaojblejnpemkaaDoor
open Go.RowKit
set_option maxRecDepth 100000 in
set_option maxHeartbeats 16000000 in
theorem rdo_1n (a : Option Addr) (cap : Nat) (l : List Pr) (key old val : Tx) (w : World) (hs : SlP w a cap l) (hl : l.length ≤ 1000) (hm : mayS l = true) (ho : mayO ⟨1, key, old, val⟩ = true) (hlk : look l key = none) :
    Calls Tryd.prog 24 #[.slice a l.length cap, .agg #[.int .u8 1, .string key, .string old, .string val]] w fun e w' => StRes w.heap.size (l) ⟨0, false, ⟨#[]⟩⟩ e w' ∧ Below w.heap.size w w' := by
  have hsm : ∀ p ∈ l, p.1.size ≤ 100000 := fun p hp => by
    have := ((may_spec hm).2.2 p hp).1
    unfold keyOk at this
    simp at this
    omega
  have hks : key.size ≤ 100000 := by
    have := (mayO_spec ho).1
    unfold keyOk at this
    simp at this
    omega
  have hso := may_rises hm
  have hb0 : Below w.heap.size w ((w.alloc (Obj.cells #[.int .u8 1, .string key, .string old, .string val] 34)).alloc (Obj.cells #[.int .i64 0, .bool false, .string ⟨#[]⟩] 36)) := ((Below.refl _ _).alloc (Nat.le_refl _) _).alloc (by simp) _
  have hr0 := hs.row.below0 hb0
  have b3 : ((w.alloc (Obj.cells #[.int .u8 1, .string key, .string old, .string val] 34)).alloc (Obj.cells #[.int .i64 0, .bool false, .string ⟨#[]⟩] 36)).heap[w.heap.size]? = _ := ((heap_alloc_old _ _ (by simp)).trans (heap_alloc_new w (Obj.cells #[.int .u8 1, .string key, .string old, .string val] 34)))
  have b5 := heap_alloc2_new w (Obj.cells #[.int .u8 1, .string key, .string old, .string val] 34) (Obj.cells #[.int .i64 0, .bool false, .string ⟨#[]⟩] 36)
  have HM := Lib.hid hm
  have HOP := Lib.hid ho
  have HLK := Lib.hid hlk
  clear hm ho hlk
  go_enter Tryd.func24, Tryd.ntmps24
  refine wp_seq_k (fun K hK => ?_)
  have HK := Lib.hid hK
  clear hK
  go_wp2
  refine HK.out _ _ ?_
  clear HK
  refine wp_seq_k (fun K hK => ?_)
  have HK := Lib.hid hK
  clear hK
  go_wp2_with (go_at_call 35; refine (rmay_any _ _ _ _ hr0 hl hsm).mono ?_; rintro e w1 ⟨rfl, m, rfl⟩; rw [HM.out])
  refine HK.out _ _ ?_
  clear HK
  have hb1 := below_drewN hb0 m
  have b3 := blk_drewN m b3
  have b5 := blk_drewN m b5
  have hs1 : w.heap.size + 2 ≤ (World.drewN ((w.alloc (Obj.cells #[.int .u8 1, .string key, .string old, .string val] 34)).alloc (Obj.cells #[.int .i64 0, .bool false, .string ⟨#[]⟩] 36)) m).heap.size := by simp
  generalize World.drewN ((w.alloc (Obj.cells #[.int .u8 1, .string key, .string old, .string val] 34)).alloc (Obj.cells #[.int .i64 0, .bool false, .string ⟨#[]⟩] 36)) m = w1 at *
  clear hr0
  obtain ⟨d0, d1, d2, d3⟩ := four b3
  refine wp_seq_k (fun K hK => ?_)
  have HK := Lib.hid hK
  clear hK
  go_wp2_with (go_at_call 36; refine (rmayO_any _ _ _ _ _ _ HOP.out).mono ?_; rintro e w2 ⟨rfl, hb2⟩)
  refine HK.out _ _ ?_
  clear HK
  refine wp_seq_k (fun K hK => ?_)
  have HK := Lib.hid hK
  clear hK
  go_wp2
  refine HK.out _ _ ?_
  clear HK
  have b3 := ((blw1 w2 (Obj.cells #[.int .i64 0, .bool false, .string ⟨#[]⟩] 36)).block w.heap.size (by have := hb2.size; omega)).trans ((hb2.block w.heap.size (by omega)).trans b3)
  have b5 := ((blw1 w2 (Obj.cells #[.int .i64 0, .bool false, .string ⟨#[]⟩] 36)).block (w.heap.size + 1) (by have := hb2.size; omega)).trans ((hb2.block (w.heap.size + 1) (by omega)).trans b5)
  have b6 : wasBox (w2.alloc (Obj.cells #[.int .i64 0, .bool false, .string ⟨#[]⟩] 36)) w2.heap.size none := heap_alloc_new w2 _
  have hb3 := (hb1.trans (hb2.mono (by omega))).trans ((blw1 w2 (Obj.cells #[.int .i64 0, .bool false, .string ⟨#[]⟩] 36)).mono (by have := hb2.size; omega))
  have hs2 : w.heap.size + 2 ≤ w2.heap.size := by have := hb2.size; omega
  have hs3 : w2.heap.size < (w2.alloc (Obj.cells #[.int .i64 0, .bool false, .string ⟨#[]⟩] 36)).heap.size := by simp
  clear d0 d1 d2 d3 hb1 hb2
  generalize w2.alloc (Obj.cells #[.int .i64 0, .bool false, .string ⟨#[]⟩] 36) = w3 at *
  have hsl3 := hs.below hb3
  refine wp_seq_k (fun K hK => ?_)
  go_cut [] (fun wx => Below w2.heap.size w3 wx ∧ wasBox wx w2.heap.size (look l key))
  case first =>
    go_wp2_with fail
    go_loopw [7] (fun i wr => ∃ (q : Nat) (x : Option Tx), q ≤ l.length ∧ i = .int .i64 q ∧ SeenK l key q x ∧ wasBox wr w2.heap.size x ∧ Below w2.heap.size w3 wr) (fun i _ => l.length - (intOf i).toNat)
    case atStart => exact ⟨0, none, by omega, rfl, seen_zero l key, b6, Below.refl _ _⟩
    case round =>
      obtain ⟨q, x, hq, rfl, hsx, hbx, hbr⟩ := hrel
      by_cases hlt : q < l.length
      · obtain ⟨bb, off, rfl, hblt, hcs⟩ := hs.row.pair (List.getElem?_eq_getElem hlt)
        obtain ⟨cw0, cw1⟩ := hcs _ _ (List.getElem?_eq_getElem hlt)
        have hbwr : Below w.heap.size w wr := hb3.trans (hbr.mono (by omega))
        have c0 := (hbwr.cell (p := ⟨bb, off + q * 2, none⟩) hblt).trans cw0
        have c1 := (hbwr.cell (p := ⟨bb, off + q * 2 + 1, none⟩) hblt).trans cw1
        obtain ⟨d0, d1, d2, d3⟩ := four ((hbr.block w.heap.size (by omega)).trans b3)
        have hgt := List.getElem?_eq_getElem hlt
        have hszr := hbr.size
        have hbx0 := hbx
        unfold wasBox rpC at hbx0
        obtain ⟨e0, e1, e2, f0, f1, f2⟩ := trio hbx0
        clear hbx0
        clear hcs cw0 cw1
        generalize l[q] = y at *
        obtain ⟨y1, y2⟩ := y
        simp only at c0 c1
        by_cases hy : y1 = key
        · have hyb : (y1.toList == key.toList) = true := by rw [tx_eq]; exact decide_eq_true hy
          have HS := Lib.hid (seen_hit hso hgt hy)
          clear hy hgt
          go_wp2_with fail
          go_quiet (fail)
          go_wp2
          go_roundw
          case rel => exact ⟨q + 1, some y2, by omega, by go_num, HS.out, wasBox_set (w := World.drewN wr _) hbx y2, (((below_drewN hbr _).setCell (Nat.le_refl _) _).setCell (Nat.le_refl _) _).setCell (Nat.le_refl _) _⟩
          case measure => simp [intOf]; omega
        · have hyb : (y1.toList == key.toList) = false := by rw [tx_eq]; exact decide_eq_false hy
          have HS := Lib.hid (seen_miss hgt hy hsx)
          clear hy hgt
          go_wp2_with fail
          go_quiet (fail)
          go_wp2
          go_roundw
          case rel => exact ⟨q + 1, x, by omega, by go_num, HS.out, hbx, below_drewN hbr _⟩
          case measure => simp [intOf]; omega
      · go_wp2
        go_meet
        exact ⟨hbr, by rw [← seen_end (by rw [show l.length = q by omega]; exact hsx)]; exact hbx⟩
  obtain ⟨hbc, hbox⟩ := hcut
  refine hK _ _ ?_; clear hK
  have hbwc := hb3.trans (hbc.mono (by omega))
  have hszc := hbc.size
  have z3 := (hbc.block w.heap.size (by omega)).trans b3
  have z5 := (hbc.block (w.heap.size + 1) (by omega)).trans b5
  have hn25 : w2.heap.size ≠ w.heap.size + 1 := by omega
  have hn25' : ¬ w.heap.size + 1 = w2.heap.size := by omega
  have hslc := hs.below hbwc
  clear hb3 hbc hsl3 b3 b5
  obtain ⟨d0, d1, d2, d3⟩ := four z3
  obtain ⟨p0, p1, p2, q0, q1, q2⟩ := trio z5
  rw [HLK.out] at hbox
  obtain ⟨e0, e1, e2, f0, f1, f2⟩ := trio hbox
  simp only [Option.isSome, Option.getD] at e0 e1 e2
  go_wp2_with fail
  go_region_held3 (fun w' => w'.cell? ⟨w.heap.size, 0, none⟩ = some (.int .u8 1) ∧ w'.cell? ⟨w.heap.size, 1, none⟩ = some (.string key) ∧ w'.cell? ⟨w.heap.size, 2, none⟩ = some (.string old) ∧ w'.cell? ⟨w.heap.size, 3, none⟩ = some (.string val) ∧ w'.cell? ⟨w2.heap.size, 0, none⟩ = some (.int .i64 0) ∧ w'.cell? ⟨w2.heap.size, 1, none⟩ = some (.bool false) ∧ w'.cell? ⟨w2.heap.size, 2, none⟩ = some (.string ⟨#[]⟩))
    (first
      | exact ⟨d0, d1, d2, d3, e0, e1, e2⟩
      | (go_split_ands; refine ⟨?_, ?_, ?_, ?_, ?_, ?_, ?_⟩ <;> exact keep_b hbx (by assumption))
      | go_keep)
    ((go_at_call 37; refine (rcopy_any _ _ _ _ (hslc.below ((Below.refl _ _).drew)) hl).mono ?_; rintro e wx ⟨⟨vx, rfl, hownx⟩, hbx⟩; have P0 := keep_b hbx p0; have P1 := keep_b hbx p1; have P2 := keep_b hbx p2; have Q0 := keep_bf hbx p0 q0; have Q1 := keep_bf hbx p1 q1; have Q2 := keep_bf hbx p2 q2))
  go_wp2
  (try simp only [Exit.inBlock, Exit.then])
  refine bodyPost_ret (v := .tuple #[vx, rpV ⟨0, false, ⟨#[]⟩⟩]) ?hr rfl ⟨⟨_, rfl, ?_⟩, ?_⟩
  case hr =>
    simp only [results, Tryd.results24]
    go_simp
    try rfl
  · have hB := (hbx.block (w.heap.size + 1) (by have := hbx.size; simp; omega)).trans z5
    have hne := own_ne hownx hB (by decide)
    refine owns_mono ?_ (show w.heap.size ≤ wc.heap.size from hbwc.size)
    repeat (first | exact hownx | refine World.ownsRow.drew ?_ | refine owns_far ?_ hne _)
  · have hbwx : Below w.heap.size w wx := hbwc.trans (((Below.refl _ _).drew.trans hbx).mono hbwc.size)
    (repeat' (first | (with_reducible exact Below.refl _ _) | (with_reducible assumption) | (with_reducible refine Below.alloc ?_ ?_ _) | (with_reducible refine Below.drew ?_) | (with_reducible refine below_drewN ?_ _) | (with_reducible refine Below.setCell ?_ ?_ _) | (with_reducible refine Below.trans ?_ (by assumption)) | go_size))
set_option maxRecDepth 100000 in
set_option maxHeartbeats 16000000 in
theorem rdo_1s (a : Option Addr) (cap : Nat) (l : List Pr) (key old val : Tx) (w : World) (hs : SlP w a cap l) (hl : l.length ≤ 1000) (hm : mayS l = true) (ho : mayO ⟨1, key, old, val⟩ = true) (u : Tx) (hlk : look l key = some u) :
    Calls Tryd.prog 24 #[.slice a l.length cap, .agg #[.int .u8 1, .string key, .string old, .string val]] w fun e w' => StRes w.heap.size (l) ⟨0, true, u⟩ e w' ∧ Below w.heap.size w w' := by
  have hsm : ∀ p ∈ l, p.1.size ≤ 100000 := fun p hp => by
    have := ((may_spec hm).2.2 p hp).1
    unfold keyOk at this
    simp at this
    omega
  have hks : key.size ≤ 100000 := by
    have := (mayO_spec ho).1
    unfold keyOk at this
    simp at this
    omega
  have hso := may_rises hm
  have hb0 : Below w.heap.size w ((w.alloc (Obj.cells #[.int .u8 1, .string key, .string old, .string val] 34)).alloc (Obj.cells #[.int .i64 0, .bool false, .string ⟨#[]⟩] 36)) := ((Below.refl _ _).alloc (Nat.le_refl _) _).alloc (by simp) _
  have hr0 := hs.row.below0 hb0
  have b3 : ((w.alloc (Obj.cells #[.int .u8 1, .string key, .string old, .string val] 34)).alloc (Obj.cells #[.int .i64 0, .bool false, .string ⟨#[]⟩] 36)).heap[w.heap.size]? = _ := ((heap_alloc_old _ _ (by simp)).trans (heap_alloc_new w (Obj.cells #[.int .u8 1, .string key, .string old, .string val] 34)))
  have b5 := heap_alloc2_new w (Obj.cells #[.int .u8 1, .string key, .string old, .string val] 34) (Obj.cells #[.int .i64 0, .bool false, .string ⟨#[]⟩] 36)
  have HM := Lib.hid hm
  have HOP := Lib.hid ho
  have HLK := Lib.hid hlk
  clear hm ho hlk
  go_enter Tryd.func24, Tryd.ntmps24
  refine wp_seq_k (fun K hK => ?_)
  have HK := Lib.hid hK
  clear hK
  go_wp2
  refine HK.out _ _ ?_
  clear HK
  refine wp_seq_k (fun K hK => ?_)
  have HK := Lib.hid hK
  clear hK
  go_wp2_with (go_at_call 35; refine (rmay_any _ _ _ _ hr0 hl hsm).mono ?_; rintro e w1 ⟨rfl, m, rfl⟩; rw [HM.out])
  refine HK.out _ _ ?_
  clear HK
  have hb1 := below_drewN hb0 m
  have b3 := blk_drewN m b3
  have b5 := blk_drewN m b5
  have hs1 : w.heap.size + 2 ≤ (World.drewN ((w.alloc (Obj.cells #[.int .u8 1, .string key, .string old, .string val] 34)).alloc (Obj.cells #[.int .i64 0, .bool false, .string ⟨#[]⟩] 36)) m).heap.size := by simp
  generalize World.drewN ((w.alloc (Obj.cells #[.int .u8 1, .string key, .string old, .string val] 34)).alloc (Obj.cells #[.int .i64 0, .bool false, .string ⟨#[]⟩] 36)) m = w1 at *
  clear hr0
  obtain ⟨d0, d1, d2, d3⟩ := four b3
  refine wp_seq_k (fun K hK => ?_)
  have HK := Lib.hid hK
  clear hK
  go_wp2_with (go_at_call 36; refine (rmayO_any _ _ _ _ _ _ HOP.out).mono ?_; rintro e w2 ⟨rfl, hb2⟩)
  refine HK.out _ _ ?_
  clear HK
  refine wp_seq_k (fun K hK => ?_)
  have HK := Lib.hid hK
  clear hK
  go_wp2
  refine HK.out _ _ ?_
  clear HK
  have b3 := ((blw1 w2 (Obj.cells #[.int .i64 0, .bool false, .string ⟨#[]⟩] 36)).block w.heap.size (by have := hb2.size; omega)).trans ((hb2.block w.heap.size (by omega)).trans b3)
  have b5 := ((blw1 w2 (Obj.cells #[.int .i64 0, .bool false, .string ⟨#[]⟩] 36)).block (w.heap.size + 1) (by have := hb2.size; omega)).trans ((hb2.block (w.heap.size + 1) (by omega)).trans b5)
  have b6 : wasBox (w2.alloc (Obj.cells #[.int .i64 0, .bool false, .string ⟨#[]⟩] 36)) w2.heap.size none := heap_alloc_new w2 _
  have hb3 := (hb1.trans (hb2.mono (by omega))).trans ((blw1 w2 (Obj.cells #[.int .i64 0, .bool false, .string ⟨#[]⟩] 36)).mono (by have := hb2.size; omega))
  have hs2 : w.heap.size + 2 ≤ w2.heap.size := by have := hb2.size; omega
  have hs3 : w2.heap.size < (w2.alloc (Obj.cells #[.int .i64 0, .bool false, .string ⟨#[]⟩] 36)).heap.size := by simp
  clear d0 d1 d2 d3 hb1 hb2
  generalize w2.alloc (Obj.cells #[.int .i64 0, .bool false, .string ⟨#[]⟩] 36) = w3 at *
  have hsl3 := hs.below hb3
  refine wp_seq_k (fun K hK => ?_)
  go_cut [] (fun wx => Below w2.heap.size w3 wx ∧ wasBox wx w2.heap.size (look l key))
  case first =>
    go_wp2_with fail
    go_loopw [7] (fun i wr => ∃ (q : Nat) (x : Option Tx), q ≤ l.length ∧ i = .int .i64 q ∧ SeenK l key q x ∧ wasBox wr w2.heap.size x ∧ Below w2.heap.size w3 wr) (fun i _ => l.length - (intOf i).toNat)
    case atStart => exact ⟨0, none, by omega, rfl, seen_zero l key, b6, Below.refl _ _⟩
    case round =>
      obtain ⟨q, x, hq, rfl, hsx, hbx, hbr⟩ := hrel
      by_cases hlt : q < l.length
      · obtain ⟨bb, off, rfl, hblt, hcs⟩ := hs.row.pair (List.getElem?_eq_getElem hlt)
        obtain ⟨cw0, cw1⟩ := hcs _ _ (List.getElem?_eq_getElem hlt)
        have hbwr : Below w.heap.size w wr := hb3.trans (hbr.mono (by omega))
        have c0 := (hbwr.cell (p := ⟨bb, off + q * 2, none⟩) hblt).trans cw0
        have c1 := (hbwr.cell (p := ⟨bb, off + q * 2 + 1, none⟩) hblt).trans cw1
        obtain ⟨d0, d1, d2, d3⟩ := four ((hbr.block w.heap.size (by omega)).trans b3)
        have hgt := List.getElem?_eq_getElem hlt
        have hszr := hbr.size
        have hbx0 := hbx
        unfold wasBox rpC at hbx0
        obtain ⟨e0, e1, e2, f0, f1, f2⟩ := trio hbx0
        clear hbx0
        clear hcs cw0 cw1
        generalize l[q] = y at *
        obtain ⟨y1, y2⟩ := y
        simp only at c0 c1
        by_cases hy : y1 = key
        · have hyb : (y1.toList == key.toList) = true := by rw [tx_eq]; exact decide_eq_true hy
          have HS := Lib.hid (seen_hit hso hgt hy)
          clear hy hgt
          go_wp2_with fail
          go_quiet (fail)
          go_wp2
          go_roundw
          case rel => exact ⟨q + 1, some y2, by omega, by go_num, HS.out, wasBox_set (w := World.drewN wr _) hbx y2, (((below_drewN hbr _).setCell (Nat.le_refl _) _).setCell (Nat.le_refl _) _).setCell (Nat.le_refl _) _⟩
          case measure => simp [intOf]; omega
        · have hyb : (y1.toList == key.toList) = false := by rw [tx_eq]; exact decide_eq_false hy
          have HS := Lib.hid (seen_miss hgt hy hsx)
          clear hy hgt
          go_wp2_with fail
          go_quiet (fail)
          go_wp2
          go_roundw
          case rel => exact ⟨q + 1, x, by omega, by go_num, HS.out, hbx, below_drewN hbr _⟩
          case measure => simp [intOf]; omega
      · go_wp2
        go_meet
        exact ⟨hbr, by rw [← seen_end (by rw [show l.length = q by omega]; exact hsx)]; exact hbx⟩
  obtain ⟨hbc, hbox⟩ := hcut
  refine hK _ _ ?_; clear hK
  have hbwc := hb3.trans (hbc.mono (by omega))
  have hszc := hbc.size
  have z3 := (hbc.block w.heap.size (by omega)).trans b3
  have z5 := (hbc.block (w.heap.size + 1) (by omega)).trans b5
  have hn25 : w2.heap.size ≠ w.heap.size + 1 := by omega
  have hn25' : ¬ w.heap.size + 1 = w2.heap.size := by omega
  have hslc := hs.below hbwc
  clear hb3 hbc hsl3 b3 b5
  obtain ⟨d0, d1, d2, d3⟩ := four z3
  obtain ⟨p0, p1, p2, q0, q1, q2⟩ := trio z5
  rw [HLK.out] at hbox
  obtain ⟨e0, e1, e2, f0, f1, f2⟩ := trio hbox
  simp only [Option.isSome, Option.getD] at e0 e1 e2
  go_wp2_with fail
  go_region_held3 (fun w' => w'.cell? ⟨w.heap.size, 0, none⟩ = some (.int .u8 1) ∧ w'.cell? ⟨w.heap.size, 1, none⟩ = some (.string key) ∧ w'.cell? ⟨w.heap.size, 2, none⟩ = some (.string old) ∧ w'.cell? ⟨w.heap.size, 3, none⟩ = some (.string val) ∧ w'.cell? ⟨w2.heap.size, 0, none⟩ = some (.int .i64 0) ∧ w'.cell? ⟨w2.heap.size, 1, none⟩ = some (.bool true) ∧ w'.cell? ⟨w2.heap.size, 2, none⟩ = some (.string u))
    (first
      | exact ⟨d0, d1, d2, d3, e0, e1, e2⟩
      | (go_split_ands; refine ⟨?_, ?_, ?_, ?_, ?_, ?_, ?_⟩ <;> exact keep_b hbx (by assumption))
      | go_keep)
    ((go_at_call 37; refine (rcopy_any _ _ _ _ (hslc.below ((Below.refl _ _).drew)) hl).mono ?_; rintro e wx ⟨⟨vx, rfl, hownx⟩, hbx⟩; have P0 := keep_b hbx p0; have P1 := keep_b hbx p1; have P2 := keep_b hbx p2; have Q0 := keep_bf hbx p0 q0; have Q1 := keep_bf hbx p1 q1; have Q2 := keep_bf hbx p2 q2))
  go_wp2
  (try simp only [Exit.inBlock, Exit.then])
  refine bodyPost_ret (v := .tuple #[vx, rpV ⟨0, true, u⟩]) ?hr rfl ⟨⟨_, rfl, ?_⟩, ?_⟩
  case hr =>
    simp only [results, Tryd.results24]
    go_simp
    try rfl
  · have hB := (hbx.block (w.heap.size + 1) (by have := hbx.size; simp; omega)).trans z5
    have hne := own_ne hownx hB (by decide)
    refine owns_mono ?_ (show w.heap.size ≤ wc.heap.size from hbwc.size)
    repeat (first | exact hownx | refine World.ownsRow.drew ?_ | refine owns_far ?_ hne _)
  · have hbwx : Below w.heap.size w wx := hbwc.trans (((Below.refl _ _).drew.trans hbx).mono hbwc.size)
    (repeat' (first | (with_reducible exact Below.refl _ _) | (with_reducible assumption) | (with_reducible refine Below.alloc ?_ ?_ _) | (with_reducible refine Below.drew ?_) | (with_reducible refine below_drewN ?_ _) | (with_reducible refine Below.setCell ?_ ?_ _) | (with_reducible refine Below.trans ?_ (by assumption)) | go_size))
set_option maxRecDepth 100000 in
set_option maxHeartbeats 16000000 in
theorem rdo_3n (a : Option Addr) (cap : Nat) (l : List Pr) (key old val : Tx) (w : World) (hs : SlP w a cap l) (hl : l.length ≤ 1000) (hm : mayS l = true) (ho : mayO ⟨3, key, old, val⟩ = true) (hlk : look l key = none) :
    Calls Tryd.prog 24 #[.slice a l.length cap, .agg #[.int .u8 3, .string key, .string old, .string val]] w fun e w' => StRes w.heap.size (delL l key) ⟨0, false, ⟨#[]⟩⟩ e w' ∧ Below w.heap.size w w' := by
  have hsm : ∀ p ∈ l, p.1.size ≤ 100000 := fun p hp => by
    have := ((may_spec hm).2.2 p hp).1
    unfold keyOk at this
    simp at this
    omega
  have hks : key.size ≤ 100000 := by
    have := (mayO_spec ho).1
    unfold keyOk at this
    simp at this
    omega
  have hso := may_rises hm
  have hb0 : Below w.heap.size w ((w.alloc (Obj.cells #[.int .u8 3, .string key, .string old, .string val] 34)).alloc (Obj.cells #[.int .i64 0, .bool false, .string ⟨#[]⟩] 36)) := ((Below.refl _ _).alloc (Nat.le_refl _) _).alloc (by simp) _
  have hr0 := hs.row.below0 hb0
  have b3 : ((w.alloc (Obj.cells #[.int .u8 3, .string key, .string old, .string val] 34)).alloc (Obj.cells #[.int .i64 0, .bool false, .string ⟨#[]⟩] 36)).heap[w.heap.size]? = _ := ((heap_alloc_old _ _ (by simp)).trans (heap_alloc_new w (Obj.cells #[.int .u8 3, .string key, .string old, .string val] 34)))
  have b5 := heap_alloc2_new w (Obj.cells #[.int .u8 3, .string key, .string old, .string val] 34) (Obj.cells #[.int .i64 0, .bool false, .string ⟨#[]⟩] 36)
  have HM := Lib.hid hm
  have HOP := Lib.hid ho
  have HLK := Lib.hid hlk
  clear hm ho hlk
  go_enter Tryd.func24, Tryd.ntmps24
  refine wp_seq_k (fun K hK => ?_)
  have HK := Lib.hid hK
  clear hK
  go_wp2
  refine HK.out _ _ ?_
  clear HK
  refine wp_seq_k (fun K hK => ?_)
  have HK := Lib.hid hK
  clear hK
  go_wp2_with (go_at_call 35; refine (rmay_any _ _ _ _ hr0 hl hsm).mono ?_; rintro e w1 ⟨rfl, m, rfl⟩; rw [HM.out])
  refine HK.out _ _ ?_
  clear HK
  have hb1 := below_drewN hb0 m
  have b3 := blk_drewN m b3
  have b5 := blk_drewN m b5
  have hs1 : w.heap.size + 2 ≤ (World.drewN ((w.alloc (Obj.cells #[.int .u8 3, .string key, .string old, .string val] 34)).alloc (Obj.cells #[.int .i64 0, .bool false, .string ⟨#[]⟩] 36)) m).heap.size := by simp
  generalize World.drewN ((w.alloc (Obj.cells #[.int .u8 3, .string key, .string old, .string val] 34)).alloc (Obj.cells #[.int .i64 0, .bool false, .string ⟨#[]⟩] 36)) m = w1 at *
  clear hr0
  obtain ⟨d0, d1, d2, d3⟩ := four b3
  refine wp_seq_k (fun K hK => ?_)
  have HK := Lib.hid hK
  clear hK
  go_wp2_with (go_at_call 36; refine (rmayO_any _ _ _ _ _ _ HOP.out).mono ?_; rintro e w2 ⟨rfl, hb2⟩)
  refine HK.out _ _ ?_
  clear HK
  refine wp_seq_k (fun K hK => ?_)
  have HK := Lib.hid hK
  clear hK
  go_wp2
  refine HK.out _ _ ?_
  clear HK
  have b3 := ((blw1 w2 (Obj.cells #[.int .i64 0, .bool false, .string ⟨#[]⟩] 36)).block w.heap.size (by have := hb2.size; omega)).trans ((hb2.block w.heap.size (by omega)).trans b3)
  have b5 := ((blw1 w2 (Obj.cells #[.int .i64 0, .bool false, .string ⟨#[]⟩] 36)).block (w.heap.size + 1) (by have := hb2.size; omega)).trans ((hb2.block (w.heap.size + 1) (by omega)).trans b5)
  have b6 : wasBox (w2.alloc (Obj.cells #[.int .i64 0, .bool false, .string ⟨#[]⟩] 36)) w2.heap.size none := heap_alloc_new w2 _
  have hb3 := (hb1.trans (hb2.mono (by omega))).trans ((blw1 w2 (Obj.cells #[.int .i64 0, .bool false, .string ⟨#[]⟩] 36)).mono (by have := hb2.size; omega))
  have hs2 : w.heap.size + 2 ≤ w2.heap.size := by have := hb2.size; omega
  have hs3 : w2.heap.size < (w2.alloc (Obj.cells #[.int .i64 0, .bool false, .string ⟨#[]⟩] 36)).heap.size := by simp
  clear d0 d1 d2 d3 hb1 hb2
  generalize w2.alloc (Obj.cells #[.int .i64 0, .bool false, .string ⟨#[]⟩] 36) = w3 at *
  have hsl3 := hs.below hb3
  refine wp_seq_k (fun K hK => ?_)
  go_cut [] (fun wx => Below w2.heap.size w3 wx ∧ wasBox wx w2.heap.size (look l key))
  case first =>
    go_wp2_with fail
    go_loopw [7] (fun i wr => ∃ (q : Nat) (x : Option Tx), q ≤ l.length ∧ i = .int .i64 q ∧ SeenK l key q x ∧ wasBox wr w2.heap.size x ∧ Below w2.heap.size w3 wr) (fun i _ => l.length - (intOf i).toNat)
    case atStart => exact ⟨0, none, by omega, rfl, seen_zero l key, b6, Below.refl _ _⟩
    case round =>
      obtain ⟨q, x, hq, rfl, hsx, hbx, hbr⟩ := hrel
      by_cases hlt : q < l.length
      · obtain ⟨bb, off, rfl, hblt, hcs⟩ := hs.row.pair (List.getElem?_eq_getElem hlt)
        obtain ⟨cw0, cw1⟩ := hcs _ _ (List.getElem?_eq_getElem hlt)
        have hbwr : Below w.heap.size w wr := hb3.trans (hbr.mono (by omega))
        have c0 := (hbwr.cell (p := ⟨bb, off + q * 2, none⟩) hblt).trans cw0
        have c1 := (hbwr.cell (p := ⟨bb, off + q * 2 + 1, none⟩) hblt).trans cw1
        obtain ⟨d0, d1, d2, d3⟩ := four ((hbr.block w.heap.size (by omega)).trans b3)
        have hgt := List.getElem?_eq_getElem hlt
        have hszr := hbr.size
        have hbx0 := hbx
        unfold wasBox rpC at hbx0
        obtain ⟨e0, e1, e2, f0, f1, f2⟩ := trio hbx0
        clear hbx0
        clear hcs cw0 cw1
        generalize l[q] = y at *
        obtain ⟨y1, y2⟩ := y
        simp only at c0 c1
        by_cases hy : y1 = key
        · have hyb : (y1.toList == key.toList) = true := by rw [tx_eq]; exact decide_eq_true hy
          have HS := Lib.hid (seen_hit hso hgt hy)
          clear hy hgt
          go_wp2_with fail
          go_quiet (fail)
          go_wp2
          go_roundw
          case rel => exact ⟨q + 1, some y2, by omega, by go_num, HS.out, wasBox_set (w := World.drewN wr _) hbx y2, (((below_drewN hbr _).setCell (Nat.le_refl _) _).setCell (Nat.le_refl _) _).setCell (Nat.le_refl _) _⟩
          case measure => simp [intOf]; omega
        · have hyb : (y1.toList == key.toList) = false := by rw [tx_eq]; exact decide_eq_false hy
          have HS := Lib.hid (seen_miss hgt hy hsx)
          clear hy hgt
          go_wp2_with fail
          go_quiet (fail)
          go_wp2
          go_roundw
          case rel => exact ⟨q + 1, x, by omega, by go_num, HS.out, hbx, below_drewN hbr _⟩
          case measure => simp [intOf]; omega
      · go_wp2
        go_meet
        exact ⟨hbr, by rw [← seen_end (by rw [show l.length = q by omega]; exact hsx)]; exact hbx⟩
  obtain ⟨hbc, hbox⟩ := hcut
  refine hK _ _ ?_; clear hK
  have hbwc := hb3.trans (hbc.mono (by omega))
  have hszc := hbc.size
  have z3 := (hbc.block w.heap.size (by omega)).trans b3
  have z5 := (hbc.block (w.heap.size + 1) (by omega)).trans b5
  have hn25 : w2.heap.size ≠ w.heap.size + 1 := by omega
  have hn25' : ¬ w.heap.size + 1 = w2.heap.size := by omega
  have hslc := hs.below hbwc
  clear hb3 hbc hsl3 b3 b5
  obtain ⟨d0, d1, d2, d3⟩ := four z3
  obtain ⟨p0, p1, p2, q0, q1, q2⟩ := trio z5
  rw [HLK.out] at hbox
  obtain ⟨e0, e1, e2, f0, f1, f2⟩ := trio hbox
  simp only [Option.isSome, Option.getD] at e0 e1 e2
  go_wp2_with fail
  go_region_held3 (fun w' => w'.cell? ⟨w.heap.size, 0, none⟩ = some (.int .u8 3) ∧ w'.cell? ⟨w.heap.size, 1, none⟩ = some (.string key) ∧ w'.cell? ⟨w.heap.size, 2, none⟩ = some (.string old) ∧ w'.cell? ⟨w.heap.size, 3, none⟩ = some (.string val) ∧ w'.cell? ⟨w2.heap.size, 0, none⟩ = some (.int .i64 0) ∧ w'.cell? ⟨w2.heap.size, 1, none⟩ = some (.bool false) ∧ w'.cell? ⟨w2.heap.size, 2, none⟩ = some (.string ⟨#[]⟩))
    (first
      | exact ⟨d0, d1, d2, d3, e0, e1, e2⟩
      | (go_split_ands; refine ⟨?_, ?_, ?_, ?_, ?_, ?_, ?_⟩ <;> exact keep_b hbx (by assumption))
      | go_keep)
    ((go_at_call 39; refine (without_any _ _ _ _ _ (hslc.below ((Below.refl _ _).drew)).row hl hso).mono ?_; rintro e wx ⟨⟨vx, rfl, hownx⟩, hbx⟩; have P0 := keep_b hbx p0; have P1 := keep_b hbx p1; have P2 := keep_b hbx p2; have Q0 := keep_bf hbx p0 q0; have Q1 := keep_bf hbx p1 q1; have Q2 := keep_bf hbx p2 q2))
  go_wp2
  (try simp only [Exit.inBlock, Exit.then])
  refine bodyPost_ret (v := .tuple #[vx, rpV ⟨0, false, ⟨#[]⟩⟩]) ?hr rfl ⟨⟨_, rfl, ?_⟩, ?_⟩
  case hr =>
    simp only [results, Tryd.results24]
    go_simp
    try rfl
  · have hB := (hbx.block (w.heap.size + 1) (by have := hbx.size; simp; omega)).trans z5
    have hne := own_ne hownx hB (by decide)
    refine owns_mono ?_ (show w.heap.size ≤ wc.heap.size from hbwc.size)
    repeat (first | exact hownx | refine World.ownsRow.drew ?_ | refine owns_far ?_ hne _)
  · have hbwx : Below w.heap.size w wx := hbwc.trans (((Below.refl _ _).drew.trans hbx).mono hbwc.size)
    (repeat' (first | (with_reducible exact Below.refl _ _) | (with_reducible assumption) | (with_reducible refine Below.alloc ?_ ?_ _) | (with_reducible refine Below.drew ?_) | (with_reducible refine below_drewN ?_ _) | (with_reducible refine Below.setCell ?_ ?_ _) | (with_reducible refine Below.trans ?_ (by assumption)) | go_size))
set_option maxRecDepth 100000 in
set_option maxHeartbeats 16000000 in
theorem rdo_3s (a : Option Addr) (cap : Nat) (l : List Pr) (key old val : Tx) (w : World) (hs : SlP w a cap l) (hl : l.length ≤ 1000) (hm : mayS l = true) (ho : mayO ⟨3, key, old, val⟩ = true) (u : Tx) (hlk : look l key = some u) :
    Calls Tryd.prog 24 #[.slice a l.length cap, .agg #[.int .u8 3, .string key, .string old, .string val]] w fun e w' => StRes w.heap.size (delL l key) ⟨0, true, u⟩ e w' ∧ Below w.heap.size w w' := by
  have hsm : ∀ p ∈ l, p.1.size ≤ 100000 := fun p hp => by
    have := ((may_spec hm).2.2 p hp).1
    unfold keyOk at this
    simp at this
    omega
  have hks : key.size ≤ 100000 := by
    have := (mayO_spec ho).1
    unfold keyOk at this
    simp at this
    omega
  have hso := may_rises hm
  have hb0 : Below w.heap.size w ((w.alloc (Obj.cells #[.int .u8 3, .string key, .string old, .string val] 34)).alloc (Obj.cells #[.int .i64 0, .bool false, .string ⟨#[]⟩] 36)) := ((Below.refl _ _).alloc (Nat.le_refl _) _).alloc (by simp) _
  have hr0 := hs.row.below0 hb0
  have b3 : ((w.alloc (Obj.cells #[.int .u8 3, .string key, .string old, .string val] 34)).alloc (Obj.cells #[.int .i64 0, .bool false, .string ⟨#[]⟩] 36)).heap[w.heap.size]? = _ := ((heap_alloc_old _ _ (by simp)).trans (heap_alloc_new w (Obj.cells #[.int .u8 3, .string key, .string old, .string val] 34)))
  have b5 := heap_alloc2_new w (Obj.cells #[.int .u8 3, .string key, .string old, .string val] 34) (Obj.cells #[.int .i64 0, .bool false, .string ⟨#[]⟩] 36)
  have HM := Lib.hid hm
  have HOP := Lib.hid ho
  have HLK := Lib.hid hlk
  clear hm ho hlk
  go_enter Tryd.func24, Tryd.ntmps24
  refine wp_seq_k (fun K hK => ?_)
  have HK := Lib.hid hK
  clear hK
  go_wp2
  refine HK.out _ _ ?_
  clear HK
  refine wp_seq_k (fun K hK => ?_)
  have HK := Lib.hid hK
  clear hK
  go_wp2_with (go_at_call 35; refine (rmay_any _ _ _ _ hr0 hl hsm).mono ?_; rintro e w1 ⟨rfl, m, rfl⟩; rw [HM.out])
  refine HK.out _ _ ?_
  clear HK
  have hb1 := below_drewN hb0 m
  have b3 := blk_drewN m b3
  have b5 := blk_drewN m b5
  have hs1 : w.heap.size + 2 ≤ (World.drewN ((w.alloc (Obj.cells #[.int .u8 3, .string key, .string old, .string val] 34)).alloc (Obj.cells #[.int .i64 0, .bool false, .string ⟨#[]⟩] 36)) m).heap.size := by simp
  generalize World.drewN ((w.alloc (Obj.cells #[.int .u8 3, .string key, .string old, .string val] 34)).alloc (Obj.cells #[.int .i64 0, .bool false, .string ⟨#[]⟩] 36)) m = w1 at *
  clear hr0
  obtain ⟨d0, d1, d2, d3⟩ := four b3
  refine wp_seq_k (fun K hK => ?_)
  have HK := Lib.hid hK
  clear hK
  go_wp2_with (go_at_call 36; refine (rmayO_any _ _ _ _ _ _ HOP.out).mono ?_; rintro e w2 ⟨rfl, hb2⟩)
  refine HK.out _ _ ?_
  clear HK
  refine wp_seq_k (fun K hK => ?_)
  have HK := Lib.hid hK
  clear hK
  go_wp2
  refine HK.out _ _ ?_
  clear HK
  have b3 := ((blw1 w2 (Obj.cells #[.int .i64 0, .bool false, .string ⟨#[]⟩] 36)).block w.heap.size (by have := hb2.size; omega)).trans ((hb2.block w.heap.size (by omega)).trans b3)
  have b5 := ((blw1 w2 (Obj.cells #[.int .i64 0, .bool false, .string ⟨#[]⟩] 36)).block (w.heap.size + 1) (by have := hb2.size; omega)).trans ((hb2.block (w.heap.size + 1) (by omega)).trans b5)
  have b6 : wasBox (w2.alloc (Obj.cells #[.int .i64 0, .bool false, .string ⟨#[]⟩] 36)) w2.heap.size none := heap_alloc_new w2 _
  have hb3 := (hb1.trans (hb2.mono (by omega))).trans ((blw1 w2 (Obj.cells #[.int .i64 0, .bool false, .string ⟨#[]⟩] 36)).mono (by have := hb2.size; omega))
  have hs2 : w.heap.size + 2 ≤ w2.heap.size := by have := hb2.size; omega
  have hs3 : w2.heap.size < (w2.alloc (Obj.cells #[.int .i64 0, .bool false, .string ⟨#[]⟩] 36)).heap.size := by simp
  clear d0 d1 d2 d3 hb1 hb2
  generalize w2.alloc (Obj.cells #[.int .i64 0, .bool false, .string ⟨#[]⟩] 36) = w3 at *
  have hsl3 := hs.below hb3
  refine wp_seq_k (fun K hK => ?_)
  go_cut [] (fun wx => Below w2.heap.size w3 wx ∧ wasBox wx w2.heap.size (look l key))
  case first =>
    go_wp2_with fail
    go_loopw [7] (fun i wr => ∃ (q : Nat) (x : Option Tx), q ≤ l.length ∧ i = .int .i64 q ∧ SeenK l key q x ∧ wasBox wr w2.heap.size x ∧ Below w2.heap.size w3 wr) (fun i _ => l.length - (intOf i).toNat)
    case atStart => exact ⟨0, none, by omega, rfl, seen_zero l key, b6, Below.refl _ _⟩
    case round =>
      obtain ⟨q, x, hq, rfl, hsx, hbx, hbr⟩ := hrel
      by_cases hlt : q < l.length
      · obtain ⟨bb, off, rfl, hblt, hcs⟩ := hs.row.pair (List.getElem?_eq_getElem hlt)
        obtain ⟨cw0, cw1⟩ := hcs _ _ (List.getElem?_eq_getElem hlt)
        have hbwr : Below w.heap.size w wr := hb3.trans (hbr.mono (by omega))
        have c0 := (hbwr.cell (p := ⟨bb, off + q * 2, none⟩) hblt).trans cw0
        have c1 := (hbwr.cell (p := ⟨bb, off + q * 2 + 1, none⟩) hblt).trans cw1
        obtain ⟨d0, d1, d2, d3⟩ := four ((hbr.block w.heap.size (by omega)).trans b3)
        have hgt := List.getElem?_eq_getElem hlt
        have hszr := hbr.size
        have hbx0 := hbx
        unfold wasBox rpC at hbx0
        obtain ⟨e0, e1, e2, f0, f1, f2⟩ := trio hbx0
        clear hbx0
        clear hcs cw0 cw1
        generalize l[q] = y at *
        obtain ⟨y1, y2⟩ := y
        simp only at c0 c1
        by_cases hy : y1 = key
        · have hyb : (y1.toList == key.toList) = true := by rw [tx_eq]; exact decide_eq_true hy
          have HS := Lib.hid (seen_hit hso hgt hy)
          clear hy hgt
          go_wp2_with fail
          go_quiet (fail)
          go_wp2
          go_roundw
          case rel => exact ⟨q + 1, some y2, by omega, by go_num, HS.out, wasBox_set (w := World.drewN wr _) hbx y2, (((below_drewN hbr _).setCell (Nat.le_refl _) _).setCell (Nat.le_refl _) _).setCell (Nat.le_refl _) _⟩
          case measure => simp [intOf]; omega
        · have hyb : (y1.toList == key.toList) = false := by rw [tx_eq]; exact decide_eq_false hy
          have HS := Lib.hid (seen_miss hgt hy hsx)
          clear hy hgt
          go_wp2_with fail
          go_quiet (fail)
          go_wp2
          go_roundw
          case rel => exact ⟨q + 1, x, by omega, by go_num, HS.out, hbx, below_drewN hbr _⟩
          case measure => simp [intOf]; omega
      · go_wp2
        go_meet
        exact ⟨hbr, by rw [← seen_end (by rw [show l.length = q by omega]; exact hsx)]; exact hbx⟩
  obtain ⟨hbc, hbox⟩ := hcut
  refine hK _ _ ?_; clear hK
  have hbwc := hb3.trans (hbc.mono (by omega))
  have hszc := hbc.size
  have z3 := (hbc.block w.heap.size (by omega)).trans b3
  have z5 := (hbc.block (w.heap.size + 1) (by omega)).trans b5
  have hn25 : w2.heap.size ≠ w.heap.size + 1 := by omega
  have hn25' : ¬ w.heap.size + 1 = w2.heap.size := by omega
  have hslc := hs.below hbwc
  clear hb3 hbc hsl3 b3 b5
  obtain ⟨d0, d1, d2, d3⟩ := four z3
  obtain ⟨p0, p1, p2, q0, q1, q2⟩ := trio z5
  rw [HLK.out] at hbox
  obtain ⟨e0, e1, e2, f0, f1, f2⟩ := trio hbox
  simp only [Option.isSome, Option.getD] at e0 e1 e2
  go_wp2_with fail
  go_region_held3 (fun w' => w'.cell? ⟨w.heap.size, 0, none⟩ = some (.int .u8 3) ∧ w'.cell? ⟨w.heap.size, 1, none⟩ = some (.string key) ∧ w'.cell? ⟨w.heap.size, 2, none⟩ = some (.string old) ∧ w'.cell? ⟨w.heap.size, 3, none⟩ = some (.string val) ∧ w'.cell? ⟨w2.heap.size, 0, none⟩ = some (.int .i64 0) ∧ w'.cell? ⟨w2.heap.size, 1, none⟩ = some (.bool true) ∧ w'.cell? ⟨w2.heap.size, 2, none⟩ = some (.string u))
    (first
      | exact ⟨d0, d1, d2, d3, e0, e1, e2⟩
      | (go_split_ands; refine ⟨?_, ?_, ?_, ?_, ?_, ?_, ?_⟩ <;> exact keep_b hbx (by assumption))
      | go_keep)
    ((go_at_call 39; refine (without_any _ _ _ _ _ (hslc.below ((Below.refl _ _).drew)).row hl hso).mono ?_; rintro e wx ⟨⟨vx, rfl, hownx⟩, hbx⟩; have P0 := keep_b hbx p0; have P1 := keep_b hbx p1; have P2 := keep_b hbx p2; have Q0 := keep_bf hbx p0 q0; have Q1 := keep_bf hbx p1 q1; have Q2 := keep_bf hbx p2 q2))
  go_wp2
  (try simp only [Exit.inBlock, Exit.then])
  refine bodyPost_ret (v := .tuple #[vx, rpV ⟨0, true, u⟩]) ?hr rfl ⟨⟨_, rfl, ?_⟩, ?_⟩
  case hr =>
    simp only [results, Tryd.results24]
    go_simp
    try rfl
  · have hB := (hbx.block (w.heap.size + 1) (by have := hbx.size; simp; omega)).trans z5
    have hne := own_ne hownx hB (by decide)
    refine owns_mono ?_ (show w.heap.size ≤ wc.heap.size from hbwc.size)
    repeat (first | exact hownx | refine World.ownsRow.drew ?_ | refine owns_far ?_ hne _)
  · have hbwx : Below w.heap.size w wx := hbwc.trans (((Below.refl _ _).drew.trans hbx).mono hbwc.size)
    (repeat' (first | (with_reducible exact Below.refl _ _) | (with_reducible assumption) | (with_reducible refine Below.alloc ?_ ?_ _) | (with_reducible refine Below.drew ?_) | (with_reducible refine below_drewN ?_ _) | (with_reducible refine Below.setCell ?_ ?_ _) | (with_reducible refine Below.trans ?_ (by assumption)) | go_size))
end Go.Proofs.YtaojblejnpemkaaDoor
namespace Go.Proofs.YtaojblejnpemkaaDoor
open Go.RowKit
set_option maxRecDepth 100000 in
set_option maxHeartbeats 16000000 in
theorem rdo_2f (a : Option Addr) (cap : Nat) (l : List Pr) (key old val : Tx) (w : World) (hs : SlP w a cap l) (hl : l.length ≤ 1000) (hm : mayS l = true) (ho : mayO ⟨2, key, old, val⟩ = true) (hlk : look l key = none) (h8 : Hid (l.length = 8)) :
    Calls Tryd.prog 24 #[.slice a l.length cap, .agg #[.int .u8 2, .string key, .string old, .string val]] w fun e w' => StRes w.heap.size (l) ⟨211, false, ⟨#[]⟩⟩ e w' ∧ Below w.heap.size w w' := by
  have hsm : ∀ p ∈ l, p.1.size ≤ 100000 := fun p hp => by
    have := ((may_spec hm).2.2 p hp).1
    unfold keyOk at this
    simp at this
    omega
  have hks : key.size ≤ 100000 := by
    have := (mayO_spec ho).1
    unfold keyOk at this
    simp at this
    omega
  have hso := may_rises hm
  have hb0 : Below w.heap.size w ((w.alloc (Obj.cells #[.int .u8 2, .string key, .string old, .string val] 34)).alloc (Obj.cells #[.int .i64 0, .bool false, .string ⟨#[]⟩] 36)) := ((Below.refl _ _).alloc (Nat.le_refl _) _).alloc (by simp) _
  have hr0 := hs.row.below0 hb0
  have b3 : ((w.alloc (Obj.cells #[.int .u8 2, .string key, .string old, .string val] 34)).alloc (Obj.cells #[.int .i64 0, .bool false, .string ⟨#[]⟩] 36)).heap[w.heap.size]? = _ := ((heap_alloc_old _ _ (by simp)).trans (heap_alloc_new w (Obj.cells #[.int .u8 2, .string key, .string old, .string val] 34)))
  have b5 := heap_alloc2_new w (Obj.cells #[.int .u8 2, .string key, .string old, .string val] 34) (Obj.cells #[.int .i64 0, .bool false, .string ⟨#[]⟩] 36)
  have HM := Lib.hid hm
  have HOP := Lib.hid ho
  have HLK := Lib.hid hlk
  clear hm ho hlk
  go_enter Tryd.func24, Tryd.ntmps24
  refine wp_seq_k (fun K hK => ?_)
  have HK := Lib.hid hK
  clear hK
  go_wp2
  refine HK.out _ _ ?_
  clear HK
  refine wp_seq_k (fun K hK => ?_)
  have HK := Lib.hid hK
  clear hK
  go_wp2_with (go_at_call 35; refine (rmay_any _ _ _ _ hr0 hl hsm).mono ?_; rintro e w1 ⟨rfl, m, rfl⟩; rw [HM.out])
  refine HK.out _ _ ?_
  clear HK
  have hb1 := below_drewN hb0 m
  have b3 := blk_drewN m b3
  have b5 := blk_drewN m b5
  have hs1 : w.heap.size + 2 ≤ (World.drewN ((w.alloc (Obj.cells #[.int .u8 2, .string key, .string old, .string val] 34)).alloc (Obj.cells #[.int .i64 0, .bool false, .string ⟨#[]⟩] 36)) m).heap.size := by simp
  generalize World.drewN ((w.alloc (Obj.cells #[.int .u8 2, .string key, .string old, .string val] 34)).alloc (Obj.cells #[.int .i64 0, .bool false, .string ⟨#[]⟩] 36)) m = w1 at *
  clear hr0
  obtain ⟨d0, d1, d2, d3⟩ := four b3
  refine wp_seq_k (fun K hK => ?_)
  have HK := Lib.hid hK
  clear hK
  go_wp2_with (go_at_call 36; refine (rmayO_any _ _ _ _ _ _ HOP.out).mono ?_; rintro e w2 ⟨rfl, hb2⟩)
  refine HK.out _ _ ?_
  clear HK
  refine wp_seq_k (fun K hK => ?_)
  have HK := Lib.hid hK
  clear hK
  go_wp2
  refine HK.out _ _ ?_
  clear HK
  have b3 := ((blw1 w2 (Obj.cells #[.int .i64 0, .bool false, .string ⟨#[]⟩] 36)).block w.heap.size (by have := hb2.size; omega)).trans ((hb2.block w.heap.size (by omega)).trans b3)
  have b5 := ((blw1 w2 (Obj.cells #[.int .i64 0, .bool false, .string ⟨#[]⟩] 36)).block (w.heap.size + 1) (by have := hb2.size; omega)).trans ((hb2.block (w.heap.size + 1) (by omega)).trans b5)
  have b6 : wasBox (w2.alloc (Obj.cells #[.int .i64 0, .bool false, .string ⟨#[]⟩] 36)) w2.heap.size none := heap_alloc_new w2 _
  have hb3 := (hb1.trans (hb2.mono (by omega))).trans ((blw1 w2 (Obj.cells #[.int .i64 0, .bool false, .string ⟨#[]⟩] 36)).mono (by have := hb2.size; omega))
  have hs2 : w.heap.size + 2 ≤ w2.heap.size := by have := hb2.size; omega
  have hs3 : w2.heap.size < (w2.alloc (Obj.cells #[.int .i64 0, .bool false, .string ⟨#[]⟩] 36)).heap.size := by simp
  clear d0 d1 d2 d3 hb1 hb2
  generalize w2.alloc (Obj.cells #[.int .i64 0, .bool false, .string ⟨#[]⟩] 36) = w3 at *
  have hsl3 := hs.below hb3
  refine wp_seq_k (fun K hK => ?_)
  go_cut [] (fun wx => Below w2.heap.size w3 wx ∧ wasBox wx w2.heap.size (look l key))
  case first =>
    go_wp2_with fail
    go_loopw [7] (fun i wr => ∃ (q : Nat) (x : Option Tx), q ≤ l.length ∧ i = .int .i64 q ∧ SeenK l key q x ∧ wasBox wr w2.heap.size x ∧ Below w2.heap.size w3 wr) (fun i _ => l.length - (intOf i).toNat)
    case atStart => exact ⟨0, none, by omega, rfl, seen_zero l key, b6, Below.refl _ _⟩
    case round =>
      obtain ⟨q, x, hq, rfl, hsx, hbx, hbr⟩ := hrel
      by_cases hlt : q < l.length
      · obtain ⟨bb, off, rfl, hblt, hcs⟩ := hs.row.pair (List.getElem?_eq_getElem hlt)
        obtain ⟨cw0, cw1⟩ := hcs _ _ (List.getElem?_eq_getElem hlt)
        have hbwr : Below w.heap.size w wr := hb3.trans (hbr.mono (by omega))
        have c0 := (hbwr.cell (p := ⟨bb, off + q * 2, none⟩) hblt).trans cw0
        have c1 := (hbwr.cell (p := ⟨bb, off + q * 2 + 1, none⟩) hblt).trans cw1
        obtain ⟨d0, d1, d2, d3⟩ := four ((hbr.block w.heap.size (by omega)).trans b3)
        have hgt := List.getElem?_eq_getElem hlt
        have hszr := hbr.size
        have hbx0 := hbx
        unfold wasBox rpC at hbx0
        obtain ⟨e0, e1, e2, f0, f1, f2⟩ := trio hbx0
        clear hbx0
        clear hcs cw0 cw1
        generalize l[q] = y at *
        obtain ⟨y1, y2⟩ := y
        simp only at c0 c1
        by_cases hy : y1 = key
        · have hyb : (y1.toList == key.toList) = true := by rw [tx_eq]; exact decide_eq_true hy
          have HS := Lib.hid (seen_hit hso hgt hy)
          clear hy hgt
          go_wp2_with fail
          go_quiet (fail)
          go_wp2
          go_roundw
          case rel => exact ⟨q + 1, some y2, by omega, by go_num, HS.out, wasBox_set (w := World.drewN wr _) hbx y2, (((below_drewN hbr _).setCell (Nat.le_refl _) _).setCell (Nat.le_refl _) _).setCell (Nat.le_refl _) _⟩
          case measure => simp [intOf]; omega
        · have hyb : (y1.toList == key.toList) = false := by rw [tx_eq]; exact decide_eq_false hy
          have HS := Lib.hid (seen_miss hgt hy hsx)
          clear hy hgt
          go_wp2_with fail
          go_quiet (fail)
          go_wp2
          go_roundw
          case rel => exact ⟨q + 1, x, by omega, by go_num, HS.out, hbx, below_drewN hbr _⟩
          case measure => simp [intOf]; omega
      · go_wp2
        go_meet
        exact ⟨hbr, by rw [← seen_end (by rw [show l.length = q by omega]; exact hsx)]; exact hbx⟩
  obtain ⟨hbc, hbox⟩ := hcut
  refine hK _ _ ?_; clear hK
  have hbwc := hb3.trans (hbc.mono (by omega))
  have hszc := hbc.size
  have z3 := (hbc.block w.heap.size (by omega)).trans b3
  have z5 := (hbc.block (w.heap.size + 1) (by omega)).trans b5
  have hn25 : w2.heap.size ≠ w.heap.size + 1 := by omega
  have hn25' : ¬ w.heap.size + 1 = w2.heap.size := by omega
  have hslc := hs.below hbwc
  clear hb3 hbc hsl3 b3 b5
  obtain ⟨d0, d1, d2, d3⟩ := four z3
  obtain ⟨p0, p1, p2, q0, q1, q2⟩ := trio z5
  rw [HLK.out] at hbox
  obtain ⟨e0, e1, e2, f0, f1, f2⟩ := trio hbox
  simp only [Option.isSome, Option.getD] at e0 e1 e2
  have h8b : ((l.length : Int) == 8) = true := by rw [h8.out]; rfl
  clear h8
  go_wp2_with (go_at_call 37; refine (rcopy_any _ _ _ _ hslc hl).mono ?_; rintro e wx ⟨⟨vx, rfl, hownx⟩, hbx⟩; obtain ⟨P0, P1, P2, Q0, Q1, Q2⟩ := trio ((hbx.block (w.heap.size + 1) (by omega)).trans z5))
  (try simp only [Exit.inBlock, Exit.then])
  refine bodyPost_ret (v := .tuple #[vx, rpV ⟨211, false, ⟨#[]⟩⟩]) ?hr rfl ⟨⟨_, rfl, ?_⟩, ?_⟩
  case hr =>
    simp only [results, Tryd.results24]
    go_simp
    try rfl
  · have hB := (hbx.block (w.heap.size + 1) (by omega)).trans z5
    have hne := own_ne hownx hB (by decide)
    refine owns_mono ?_ (show w.heap.size ≤ wc.heap.size from hbwc.size)
    repeat (first | exact hownx | refine World.ownsRow.drew ?_ | refine owns_far ?_ hne _)
  · have hbwx : Below w.heap.size w wx := hbwc.trans (hbx.mono (by omega))
    (repeat' (first | (with_reducible exact Below.refl _ _) | (with_reducible assumption) | (with_reducible refine Below.alloc ?_ ?_ _) | (with_reducible refine Below.drew ?_) | (with_reducible refine below_drewN ?_ _) | (with_reducible refine Below.setCell ?_ ?_ _) | (with_reducible refine Below.trans ?_ (by assumption)) | go_size))
set_option maxRecDepth 100000 in
set_option maxHeartbeats 16000000 in
theorem rdo_2n (a : Option Addr) (cap : Nat) (l : List Pr) (key old val : Tx) (w : World) (hs : SlP w a cap l) (hl : l.length ≤ 1000) (hm : mayS l = true) (ho : mayO ⟨2, key, old, val⟩ = true) (hlk : look l key = none) (h8 : l.length ≠ 8) :
    Calls Tryd.prog 24 #[.slice a l.length cap, .agg #[.int .u8 2, .string key, .string old, .string val]] w fun e w' => StRes w.heap.size (putL l key val) ⟨0, false, ⟨#[]⟩⟩ e w' ∧ Below w.heap.size w w' := by
  have hsm : ∀ p ∈ l, p.1.size ≤ 100000 := fun p hp => by
    have := ((may_spec hm).2.2 p hp).1
    unfold keyOk at this
    simp at this
    omega
  have hks : key.size ≤ 100000 := by
    have := (mayO_spec ho).1
    unfold keyOk at this
    simp at this
    omega
  have hso := may_rises hm
  have hb0 : Below w.heap.size w ((w.alloc (Obj.cells #[.int .u8 2, .string key, .string old, .string val] 34)).alloc (Obj.cells #[.int .i64 0, .bool false, .string ⟨#[]⟩] 36)) := ((Below.refl _ _).alloc (Nat.le_refl _) _).alloc (by simp) _
  have hr0 := hs.row.below0 hb0
  have b3 : ((w.alloc (Obj.cells #[.int .u8 2, .string key, .string old, .string val] 34)).alloc (Obj.cells #[.int .i64 0, .bool false, .string ⟨#[]⟩] 36)).heap[w.heap.size]? = _ := ((heap_alloc_old _ _ (by simp)).trans (heap_alloc_new w (Obj.cells #[.int .u8 2, .string key, .string old, .string val] 34)))
  have b5 := heap_alloc2_new w (Obj.cells #[.int .u8 2, .string key, .string old, .string val] 34) (Obj.cells #[.int .i64 0, .bool false, .string ⟨#[]⟩] 36)
  have HM := Lib.hid hm
  have HOP := Lib.hid ho
  have HLK := Lib.hid hlk
  clear hm ho hlk
  go_enter Tryd.func24, Tryd.ntmps24
  refine wp_seq_k (fun K hK => ?_)
  have HK := Lib.hid hK
  clear hK
  go_wp2
  refine HK.out _ _ ?_
  clear HK
  refine wp_seq_k (fun K hK => ?_)
  have HK := Lib.hid hK
  clear hK
  go_wp2_with (go_at_call 35; refine (rmay_any _ _ _ _ hr0 hl hsm).mono ?_; rintro e w1 ⟨rfl, m, rfl⟩; rw [HM.out])
  refine HK.out _ _ ?_
  clear HK
  have hb1 := below_drewN hb0 m
  have b3 := blk_drewN m b3
  have b5 := blk_drewN m b5
  have hs1 : w.heap.size + 2 ≤ (World.drewN ((w.alloc (Obj.cells #[.int .u8 2, .string key, .string old, .string val] 34)).alloc (Obj.cells #[.int .i64 0, .bool false, .string ⟨#[]⟩] 36)) m).heap.size := by simp
  generalize World.drewN ((w.alloc (Obj.cells #[.int .u8 2, .string key, .string old, .string val] 34)).alloc (Obj.cells #[.int .i64 0, .bool false, .string ⟨#[]⟩] 36)) m = w1 at *
  clear hr0
  obtain ⟨d0, d1, d2, d3⟩ := four b3
  refine wp_seq_k (fun K hK => ?_)
  have HK := Lib.hid hK
  clear hK
  go_wp2_with (go_at_call 36; refine (rmayO_any _ _ _ _ _ _ HOP.out).mono ?_; rintro e w2 ⟨rfl, hb2⟩)
  refine HK.out _ _ ?_
  clear HK
  refine wp_seq_k (fun K hK => ?_)
  have HK := Lib.hid hK
  clear hK
  go_wp2
  refine HK.out _ _ ?_
  clear HK
  have b3 := ((blw1 w2 (Obj.cells #[.int .i64 0, .bool false, .string ⟨#[]⟩] 36)).block w.heap.size (by have := hb2.size; omega)).trans ((hb2.block w.heap.size (by omega)).trans b3)
  have b5 := ((blw1 w2 (Obj.cells #[.int .i64 0, .bool false, .string ⟨#[]⟩] 36)).block (w.heap.size + 1) (by have := hb2.size; omega)).trans ((hb2.block (w.heap.size + 1) (by omega)).trans b5)
  have b6 : wasBox (w2.alloc (Obj.cells #[.int .i64 0, .bool false, .string ⟨#[]⟩] 36)) w2.heap.size none := heap_alloc_new w2 _
  have hb3 := (hb1.trans (hb2.mono (by omega))).trans ((blw1 w2 (Obj.cells #[.int .i64 0, .bool false, .string ⟨#[]⟩] 36)).mono (by have := hb2.size; omega))
  have hs2 : w.heap.size + 2 ≤ w2.heap.size := by have := hb2.size; omega
  have hs3 : w2.heap.size < (w2.alloc (Obj.cells #[.int .i64 0, .bool false, .string ⟨#[]⟩] 36)).heap.size := by simp
  clear d0 d1 d2 d3 hb1 hb2
  generalize w2.alloc (Obj.cells #[.int .i64 0, .bool false, .string ⟨#[]⟩] 36) = w3 at *
  have hsl3 := hs.below hb3
  refine wp_seq_k (fun K hK => ?_)
  go_cut [] (fun wx => Below w2.heap.size w3 wx ∧ wasBox wx w2.heap.size (look l key))
  case first =>
    go_wp2_with fail
    go_loopw [7] (fun i wr => ∃ (q : Nat) (x : Option Tx), q ≤ l.length ∧ i = .int .i64 q ∧ SeenK l key q x ∧ wasBox wr w2.heap.size x ∧ Below w2.heap.size w3 wr) (fun i _ => l.length - (intOf i).toNat)
    case atStart => exact ⟨0, none, by omega, rfl, seen_zero l key, b6, Below.refl _ _⟩
    case round =>
      obtain ⟨q, x, hq, rfl, hsx, hbx, hbr⟩ := hrel
      by_cases hlt : q < l.length
      · obtain ⟨bb, off, rfl, hblt, hcs⟩ := hs.row.pair (List.getElem?_eq_getElem hlt)
        obtain ⟨cw0, cw1⟩ := hcs _ _ (List.getElem?_eq_getElem hlt)
        have hbwr : Below w.heap.size w wr := hb3.trans (hbr.mono (by omega))
        have c0 := (hbwr.cell (p := ⟨bb, off + q * 2, none⟩) hblt).trans cw0
        have c1 := (hbwr.cell (p := ⟨bb, off + q * 2 + 1, none⟩) hblt).trans cw1
        obtain ⟨d0, d1, d2, d3⟩ := four ((hbr.block w.heap.size (by omega)).trans b3)
        have hgt := List.getElem?_eq_getElem hlt
        have hszr := hbr.size
        have hbx0 := hbx
        unfold wasBox rpC at hbx0
        obtain ⟨e0, e1, e2, f0, f1, f2⟩ := trio hbx0
        clear hbx0
        clear hcs cw0 cw1
        generalize l[q] = y at *
        obtain ⟨y1, y2⟩ := y
        simp only at c0 c1
        by_cases hy : y1 = key
        · have hyb : (y1.toList == key.toList) = true := by rw [tx_eq]; exact decide_eq_true hy
          have HS := Lib.hid (seen_hit hso hgt hy)
          clear hy hgt
          go_wp2_with fail
          go_quiet (fail)
          go_wp2
          go_roundw
          case rel => exact ⟨q + 1, some y2, by omega, by go_num, HS.out, wasBox_set (w := World.drewN wr _) hbx y2, (((below_drewN hbr _).setCell (Nat.le_refl _) _).setCell (Nat.le_refl _) _).setCell (Nat.le_refl _) _⟩
          case measure => simp [intOf]; omega
        · have hyb : (y1.toList == key.toList) = false := by rw [tx_eq]; exact decide_eq_false hy
          have HS := Lib.hid (seen_miss hgt hy hsx)
          clear hy hgt
          go_wp2_with fail
          go_quiet (fail)
          go_wp2
          go_roundw
          case rel => exact ⟨q + 1, x, by omega, by go_num, HS.out, hbx, below_drewN hbr _⟩
          case measure => simp [intOf]; omega
      · go_wp2
        go_meet
        exact ⟨hbr, by rw [← seen_end (by rw [show l.length = q by omega]; exact hsx)]; exact hbx⟩
  obtain ⟨hbc, hbox⟩ := hcut
  refine hK _ _ ?_; clear hK
  have hbwc := hb3.trans (hbc.mono (by omega))
  have hszc := hbc.size
  have z3 := (hbc.block w.heap.size (by omega)).trans b3
  have z5 := (hbc.block (w.heap.size + 1) (by omega)).trans b5
  have hn25 : w2.heap.size ≠ w.heap.size + 1 := by omega
  have hn25' : ¬ w.heap.size + 1 = w2.heap.size := by omega
  have hslc := hs.below hbwc
  clear hb3 hbc hsl3 b3 b5
  obtain ⟨d0, d1, d2, d3⟩ := four z3
  obtain ⟨p0, p1, p2, q0, q1, q2⟩ := trio z5
  rw [HLK.out] at hbox
  obtain ⟨e0, e1, e2, f0, f1, f2⟩ := trio hbox
  simp only [Option.isSome, Option.getD] at e0 e1 e2
  have h8b : ((l.length : Int) == 8) = false := by rw [beq_eq_false_iff_ne]; omega
  clear h8
  go_wp2_with fail
  go_region_held3 (fun w' => w'.cell? ⟨w.heap.size, 0, none⟩ = some (.int .u8 2) ∧ w'.cell? ⟨w.heap.size, 1, none⟩ = some (.string key) ∧ w'.cell? ⟨w.heap.size, 2, none⟩ = some (.string old) ∧ w'.cell? ⟨w.heap.size, 3, none⟩ = some (.string val) ∧ w'.cell? ⟨w2.heap.size, 0, none⟩ = some (.int .i64 0) ∧ w'.cell? ⟨w2.heap.size, 1, none⟩ = some (.bool false) ∧ w'.cell? ⟨w2.heap.size, 2, none⟩ = some (.string ⟨#[]⟩))
    (first
      | exact ⟨d0, d1, d2, d3, e0, e1, e2⟩
      | (go_split_ands; refine ⟨?_, ?_, ?_, ?_, ?_, ?_, ?_⟩ <;> exact keep_b hbx (by assumption))
      | go_keep)
    ((go_at_call 38; refine (with_any _ _ _ _ _ _ (hslc.below ((Below.refl _ _).drew)).row hl hso hsm hks).mono ?_; rintro e wx ⟨⟨vx, rfl, hownx⟩, hbx⟩; have P0 := keep_b hbx p0; have P1 := keep_b hbx p1; have P2 := keep_b hbx p2; have Q0 := keep_bf hbx p0 q0; have Q1 := keep_bf hbx p1 q1; have Q2 := keep_bf hbx p2 q2))
  go_wp2
  (try simp only [Exit.inBlock, Exit.then])
  refine bodyPost_ret (v := .tuple #[vx, rpV ⟨0, false, ⟨#[]⟩⟩]) ?hr rfl ⟨⟨_, rfl, ?_⟩, ?_⟩
  case hr =>
    simp only [results, Tryd.results24]
    go_simp
    try rfl
  · have hB := (hbx.block (w.heap.size + 1) (by have := hbx.size; simp; omega)).trans z5
    have hne := own_ne hownx hB (by decide)
    refine owns_mono ?_ (show w.heap.size ≤ wc.heap.size from hbwc.size)
    repeat (first | exact hownx | refine World.ownsRow.drew ?_ | refine owns_far ?_ hne _)
  · have hbwx : Below w.heap.size w wx := hbwc.trans (((Below.refl _ _).drew.trans hbx).mono hbwc.size)
    (repeat' (first | (with_reducible exact Below.refl _ _) | (with_reducible assumption) | (with_reducible refine Below.alloc ?_ ?_ _) | (with_reducible refine Below.drew ?_) | (with_reducible refine below_drewN ?_ _) | (with_reducible refine Below.setCell ?_ ?_ _) | (with_reducible refine Below.trans ?_ (by assumption)) | go_size))
set_option maxRecDepth 100000 in
set_option maxHeartbeats 16000000 in
theorem rdo_2s (a : Option Addr) (cap : Nat) (l : List Pr) (key old val : Tx) (w : World) (hs : SlP w a cap l) (hl : l.length ≤ 1000) (hm : mayS l = true) (ho : mayO ⟨2, key, old, val⟩ = true) (u : Tx) (hlk : look l key = some u) :
    Calls Tryd.prog 24 #[.slice a l.length cap, .agg #[.int .u8 2, .string key, .string old, .string val]] w fun e w' => StRes w.heap.size (putL l key val) ⟨0, true, u⟩ e w' ∧ Below w.heap.size w w' := by
  have hsm : ∀ p ∈ l, p.1.size ≤ 100000 := fun p hp => by
    have := ((may_spec hm).2.2 p hp).1
    unfold keyOk at this
    simp at this
    omega
  have hks : key.size ≤ 100000 := by
    have := (mayO_spec ho).1
    unfold keyOk at this
    simp at this
    omega
  have hso := may_rises hm
  have hb0 : Below w.heap.size w ((w.alloc (Obj.cells #[.int .u8 2, .string key, .string old, .string val] 34)).alloc (Obj.cells #[.int .i64 0, .bool false, .string ⟨#[]⟩] 36)) := ((Below.refl _ _).alloc (Nat.le_refl _) _).alloc (by simp) _
  have hr0 := hs.row.below0 hb0
  have b3 : ((w.alloc (Obj.cells #[.int .u8 2, .string key, .string old, .string val] 34)).alloc (Obj.cells #[.int .i64 0, .bool false, .string ⟨#[]⟩] 36)).heap[w.heap.size]? = _ := ((heap_alloc_old _ _ (by simp)).trans (heap_alloc_new w (Obj.cells #[.int .u8 2, .string key, .string old, .string val] 34)))
  have b5 := heap_alloc2_new w (Obj.cells #[.int .u8 2, .string key, .string old, .string val] 34) (Obj.cells #[.int .i64 0, .bool false, .string ⟨#[]⟩] 36)
  have HM := Lib.hid hm
  have HOP := Lib.hid ho
  have HLK := Lib.hid hlk
  clear hm ho hlk
  go_enter Tryd.func24, Tryd.ntmps24
  refine wp_seq_k (fun K hK => ?_)
  have HK := Lib.hid hK
  clear hK
  go_wp2
  refine HK.out _ _ ?_
  clear HK
  refine wp_seq_k (fun K hK => ?_)
  have HK := Lib.hid hK
  clear hK
  go_wp2_with (go_at_call 35; refine (rmay_any _ _ _ _ hr0 hl hsm).mono ?_; rintro e w1 ⟨rfl, m, rfl⟩; rw [HM.out])
  refine HK.out _ _ ?_
  clear HK
  have hb1 := below_drewN hb0 m
  have b3 := blk_drewN m b3
  have b5 := blk_drewN m b5
  have hs1 : w.heap.size + 2 ≤ (World.drewN ((w.alloc (Obj.cells #[.int .u8 2, .string key, .string old, .string val] 34)).alloc (Obj.cells #[.int .i64 0, .bool false, .string ⟨#[]⟩] 36)) m).heap.size := by simp
  generalize World.drewN ((w.alloc (Obj.cells #[.int .u8 2, .string key, .string old, .string val] 34)).alloc (Obj.cells #[.int .i64 0, .bool false, .string ⟨#[]⟩] 36)) m = w1 at *
  clear hr0
  obtain ⟨d0, d1, d2, d3⟩ := four b3
  refine wp_seq_k (fun K hK => ?_)
  have HK := Lib.hid hK
  clear hK
  go_wp2_with (go_at_call 36; refine (rmayO_any _ _ _ _ _ _ HOP.out).mono ?_; rintro e w2 ⟨rfl, hb2⟩)
  refine HK.out _ _ ?_
  clear HK
  refine wp_seq_k (fun K hK => ?_)
  have HK := Lib.hid hK
  clear hK
  go_wp2
  refine HK.out _ _ ?_
  clear HK
  have b3 := ((blw1 w2 (Obj.cells #[.int .i64 0, .bool false, .string ⟨#[]⟩] 36)).block w.heap.size (by have := hb2.size; omega)).trans ((hb2.block w.heap.size (by omega)).trans b3)
  have b5 := ((blw1 w2 (Obj.cells #[.int .i64 0, .bool false, .string ⟨#[]⟩] 36)).block (w.heap.size + 1) (by have := hb2.size; omega)).trans ((hb2.block (w.heap.size + 1) (by omega)).trans b5)
  have b6 : wasBox (w2.alloc (Obj.cells #[.int .i64 0, .bool false, .string ⟨#[]⟩] 36)) w2.heap.size none := heap_alloc_new w2 _
  have hb3 := (hb1.trans (hb2.mono (by omega))).trans ((blw1 w2 (Obj.cells #[.int .i64 0, .bool false, .string ⟨#[]⟩] 36)).mono (by have := hb2.size; omega))
  have hs2 : w.heap.size + 2 ≤ w2.heap.size := by have := hb2.size; omega
  have hs3 : w2.heap.size < (w2.alloc (Obj.cells #[.int .i64 0, .bool false, .string ⟨#[]⟩] 36)).heap.size := by simp
  clear d0 d1 d2 d3 hb1 hb2
  generalize w2.alloc (Obj.cells #[.int .i64 0, .bool false, .string ⟨#[]⟩] 36) = w3 at *
  have hsl3 := hs.below hb3
  refine wp_seq_k (fun K hK => ?_)
  go_cut [] (fun wx => Below w2.heap.size w3 wx ∧ wasBox wx w2.heap.size (look l key))
  case first =>
    go_wp2_with fail
    go_loopw [7] (fun i wr => ∃ (q : Nat) (x : Option Tx), q ≤ l.length ∧ i = .int .i64 q ∧ SeenK l key q x ∧ wasBox wr w2.heap.size x ∧ Below w2.heap.size w3 wr) (fun i _ => l.length - (intOf i).toNat)
    case atStart => exact ⟨0, none, by omega, rfl, seen_zero l key, b6, Below.refl _ _⟩
    case round =>
      obtain ⟨q, x, hq, rfl, hsx, hbx, hbr⟩ := hrel
      by_cases hlt : q < l.length
      · obtain ⟨bb, off, rfl, hblt, hcs⟩ := hs.row.pair (List.getElem?_eq_getElem hlt)
        obtain ⟨cw0, cw1⟩ := hcs _ _ (List.getElem?_eq_getElem hlt)
        have hbwr : Below w.heap.size w wr := hb3.trans (hbr.mono (by omega))
        have c0 := (hbwr.cell (p := ⟨bb, off + q * 2, none⟩) hblt).trans cw0
        have c1 := (hbwr.cell (p := ⟨bb, off + q * 2 + 1, none⟩) hblt).trans cw1
        obtain ⟨d0, d1, d2, d3⟩ := four ((hbr.block w.heap.size (by omega)).trans b3)
        have hgt := List.getElem?_eq_getElem hlt
        have hszr := hbr.size
        have hbx0 := hbx
        unfold wasBox rpC at hbx0
        obtain ⟨e0, e1, e2, f0, f1, f2⟩ := trio hbx0
        clear hbx0
        clear hcs cw0 cw1
        generalize l[q] = y at *
        obtain ⟨y1, y2⟩ := y
        simp only at c0 c1
        by_cases hy : y1 = key
        · have hyb : (y1.toList == key.toList) = true := by rw [tx_eq]; exact decide_eq_true hy
          have HS := Lib.hid (seen_hit hso hgt hy)
          clear hy hgt
          go_wp2_with fail
          go_quiet (fail)
          go_wp2
          go_roundw
          case rel => exact ⟨q + 1, some y2, by omega, by go_num, HS.out, wasBox_set (w := World.drewN wr _) hbx y2, (((below_drewN hbr _).setCell (Nat.le_refl _) _).setCell (Nat.le_refl _) _).setCell (Nat.le_refl _) _⟩
          case measure => simp [intOf]; omega
        · have hyb : (y1.toList == key.toList) = false := by rw [tx_eq]; exact decide_eq_false hy
          have HS := Lib.hid (seen_miss hgt hy hsx)
          clear hy hgt
          go_wp2_with fail
          go_quiet (fail)
          go_wp2
          go_roundw
          case rel => exact ⟨q + 1, x, by omega, by go_num, HS.out, hbx, below_drewN hbr _⟩
          case measure => simp [intOf]; omega
      · go_wp2
        go_meet
        exact ⟨hbr, by rw [← seen_end (by rw [show l.length = q by omega]; exact hsx)]; exact hbx⟩
  obtain ⟨hbc, hbox⟩ := hcut
  refine hK _ _ ?_; clear hK
  have hbwc := hb3.trans (hbc.mono (by omega))
  have hszc := hbc.size
  have z3 := (hbc.block w.heap.size (by omega)).trans b3
  have z5 := (hbc.block (w.heap.size + 1) (by omega)).trans b5
  have hn25 : w2.heap.size ≠ w.heap.size + 1 := by omega
  have hn25' : ¬ w.heap.size + 1 = w2.heap.size := by omega
  have hslc := hs.below hbwc
  clear hb3 hbc hsl3 b3 b5
  obtain ⟨d0, d1, d2, d3⟩ := four z3
  obtain ⟨p0, p1, p2, q0, q1, q2⟩ := trio z5
  rw [HLK.out] at hbox
  obtain ⟨e0, e1, e2, f0, f1, f2⟩ := trio hbox
  simp only [Option.isSome, Option.getD] at e0 e1 e2
  go_wp2_with fail
  go_region_held3 (fun w' => w'.cell? ⟨w.heap.size, 0, none⟩ = some (.int .u8 2) ∧ w'.cell? ⟨w.heap.size, 1, none⟩ = some (.string key) ∧ w'.cell? ⟨w.heap.size, 2, none⟩ = some (.string old) ∧ w'.cell? ⟨w.heap.size, 3, none⟩ = some (.string val) ∧ w'.cell? ⟨w2.heap.size, 0, none⟩ = some (.int .i64 0) ∧ w'.cell? ⟨w2.heap.size, 1, none⟩ = some (.bool true) ∧ w'.cell? ⟨w2.heap.size, 2, none⟩ = some (.string u))
    (first
      | exact ⟨d0, d1, d2, d3, e0, e1, e2⟩
      | (go_split_ands; refine ⟨?_, ?_, ?_, ?_, ?_, ?_, ?_⟩ <;> exact keep_b hbx (by assumption))
      | go_keep)
    ((go_at_call 38; refine (with_any _ _ _ _ _ _ (hslc.below ((Below.refl _ _).drew)).row hl hso hsm hks).mono ?_; rintro e wx ⟨⟨vx, rfl, hownx⟩, hbx⟩; have P0 := keep_b hbx p0; have P1 := keep_b hbx p1; have P2 := keep_b hbx p2; have Q0 := keep_bf hbx p0 q0; have Q1 := keep_bf hbx p1 q1; have Q2 := keep_bf hbx p2 q2))
  go_wp2
  (try simp only [Exit.inBlock, Exit.then])
  refine bodyPost_ret (v := .tuple #[vx, rpV ⟨0, true, u⟩]) ?hr rfl ⟨⟨_, rfl, ?_⟩, ?_⟩
  case hr =>
    simp only [results, Tryd.results24]
    go_simp
    try rfl
  · have hB := (hbx.block (w.heap.size + 1) (by have := hbx.size; simp; omega)).trans z5
    have hne := own_ne hownx hB (by decide)
    refine owns_mono ?_ (show w.heap.size ≤ wc.heap.size from hbwc.size)
    repeat (first | exact hownx | refine World.ownsRow.drew ?_ | refine owns_far ?_ hne _)
  · have hbwx : Below w.heap.size w wx := hbwc.trans (((Below.refl _ _).drew.trans hbx).mono hbwc.size)
    (repeat' (first | (with_reducible exact Below.refl _ _) | (with_reducible assumption) | (with_reducible refine Below.alloc ?_ ?_ _) | (with_reducible refine Below.drew ?_) | (with_reducible refine below_drewN ?_ _) | (with_reducible refine Below.setCell ?_ ?_ _) | (with_reducible refine Below.trans ?_ (by assumption)) | go_size))
end Go.Proofs.YtaojblejnpemkaaDoor
namespace Go.Proofs.YtaojblejnpemkaaDoor
open Go.RowKit
set_option maxRecDepth 100000 in
set_option maxHeartbeats 16000000 in
theorem rdo_4n (a : Option Addr) (cap : Nat) (l : List Pr) (key old val : Tx) (w : World) (hs : SlP w a cap l) (hl : l.length ≤ 1000) (hm : mayS l = true) (ho : mayO ⟨4, key, old, val⟩ = true) (hlk : look l key = none) :
    Calls Tryd.prog 24 #[.slice a l.length cap, .agg #[.int .u8 4, .string key, .string old, .string val]] w fun e w' => StRes w.heap.size (l) ⟨0, false, ⟨#[]⟩⟩ e w' ∧ Below w.heap.size w w' := by
  have hsm : ∀ p ∈ l, p.1.size ≤ 100000 := fun p hp => by
    have := ((may_spec hm).2.2 p hp).1
    unfold keyOk at this
    simp at this
    omega
  have hks : key.size ≤ 100000 := by
    have := (mayO_spec ho).1
    unfold keyOk at this
    simp at this
    omega
  have hso := may_rises hm
  have hb0 : Below w.heap.size w ((w.alloc (Obj.cells #[.int .u8 4, .string key, .string old, .string val] 34)).alloc (Obj.cells #[.int .i64 0, .bool false, .string ⟨#[]⟩] 36)) := ((Below.refl _ _).alloc (Nat.le_refl _) _).alloc (by simp) _
  have hr0 := hs.row.below0 hb0
  have b3 : ((w.alloc (Obj.cells #[.int .u8 4, .string key, .string old, .string val] 34)).alloc (Obj.cells #[.int .i64 0, .bool false, .string ⟨#[]⟩] 36)).heap[w.heap.size]? = _ := ((heap_alloc_old _ _ (by simp)).trans (heap_alloc_new w (Obj.cells #[.int .u8 4, .string key, .string old, .string val] 34)))
  have b5 := heap_alloc2_new w (Obj.cells #[.int .u8 4, .string key, .string old, .string val] 34) (Obj.cells #[.int .i64 0, .bool false, .string ⟨#[]⟩] 36)
  have HM := Lib.hid hm
  have HOP := Lib.hid ho
  have HLK := Lib.hid hlk
  clear hm ho hlk
  go_enter Tryd.func24, Tryd.ntmps24
  refine wp_seq_k (fun K hK => ?_)
  have HK := Lib.hid hK
  clear hK
  go_wp2
  refine HK.out _ _ ?_
  clear HK
  refine wp_seq_k (fun K hK => ?_)
  have HK := Lib.hid hK
  clear hK
  go_wp2_with (go_at_call 35; refine (rmay_any _ _ _ _ hr0 hl hsm).mono ?_; rintro e w1 ⟨rfl, m, rfl⟩; rw [HM.out])
  refine HK.out _ _ ?_
  clear HK
  have hb1 := below_drewN hb0 m
  have b3 := blk_drewN m b3
  have b5 := blk_drewN m b5
  have hs1 : w.heap.size + 2 ≤ (World.drewN ((w.alloc (Obj.cells #[.int .u8 4, .string key, .string old, .string val] 34)).alloc (Obj.cells #[.int .i64 0, .bool false, .string ⟨#[]⟩] 36)) m).heap.size := by simp
  generalize World.drewN ((w.alloc (Obj.cells #[.int .u8 4, .string key, .string old, .string val] 34)).alloc (Obj.cells #[.int .i64 0, .bool false, .string ⟨#[]⟩] 36)) m = w1 at *
  clear hr0
  obtain ⟨d0, d1, d2, d3⟩ := four b3
  refine wp_seq_k (fun K hK => ?_)
  have HK := Lib.hid hK
  clear hK
  go_wp2_with (go_at_call 36; refine (rmayO_any _ _ _ _ _ _ HOP.out).mono ?_; rintro e w2 ⟨rfl, hb2⟩)
  refine HK.out _ _ ?_
  clear HK
  refine wp_seq_k (fun K hK => ?_)
  have HK := Lib.hid hK
  clear hK
  go_wp2
  refine HK.out _ _ ?_
  clear HK
  have b3 := ((blw1 w2 (Obj.cells #[.int .i64 0, .bool false, .string ⟨#[]⟩] 36)).block w.heap.size (by have := hb2.size; omega)).trans ((hb2.block w.heap.size (by omega)).trans b3)
  have b5 := ((blw1 w2 (Obj.cells #[.int .i64 0, .bool false, .string ⟨#[]⟩] 36)).block (w.heap.size + 1) (by have := hb2.size; omega)).trans ((hb2.block (w.heap.size + 1) (by omega)).trans b5)
  have b6 : wasBox (w2.alloc (Obj.cells #[.int .i64 0, .bool false, .string ⟨#[]⟩] 36)) w2.heap.size none := heap_alloc_new w2 _
  have hb3 := (hb1.trans (hb2.mono (by omega))).trans ((blw1 w2 (Obj.cells #[.int .i64 0, .bool false, .string ⟨#[]⟩] 36)).mono (by have := hb2.size; omega))
  have hs2 : w.heap.size + 2 ≤ w2.heap.size := by have := hb2.size; omega
  have hs3 : w2.heap.size < (w2.alloc (Obj.cells #[.int .i64 0, .bool false, .string ⟨#[]⟩] 36)).heap.size := by simp
  clear d0 d1 d2 d3 hb1 hb2
  generalize w2.alloc (Obj.cells #[.int .i64 0, .bool false, .string ⟨#[]⟩] 36) = w3 at *
  have hsl3 := hs.below hb3
  refine wp_seq_k (fun K hK => ?_)
  go_cut [] (fun wx => Below w2.heap.size w3 wx ∧ wasBox wx w2.heap.size (look l key))
  case first =>
    go_wp2_with fail
    go_loopw [7] (fun i wr => ∃ (q : Nat) (x : Option Tx), q ≤ l.length ∧ i = .int .i64 q ∧ SeenK l key q x ∧ wasBox wr w2.heap.size x ∧ Below w2.heap.size w3 wr) (fun i _ => l.length - (intOf i).toNat)
    case atStart => exact ⟨0, none, by omega, rfl, seen_zero l key, b6, Below.refl _ _⟩
    case round =>
      obtain ⟨q, x, hq, rfl, hsx, hbx, hbr⟩ := hrel
      by_cases hlt : q < l.length
      · obtain ⟨bb, off, rfl, hblt, hcs⟩ := hs.row.pair (List.getElem?_eq_getElem hlt)
        obtain ⟨cw0, cw1⟩ := hcs _ _ (List.getElem?_eq_getElem hlt)
        have hbwr : Below w.heap.size w wr := hb3.trans (hbr.mono (by omega))
        have c0 := (hbwr.cell (p := ⟨bb, off + q * 2, none⟩) hblt).trans cw0
        have c1 := (hbwr.cell (p := ⟨bb, off + q * 2 + 1, none⟩) hblt).trans cw1
        obtain ⟨d0, d1, d2, d3⟩ := four ((hbr.block w.heap.size (by omega)).trans b3)
        have hgt := List.getElem?_eq_getElem hlt
        have hszr := hbr.size
        have hbx0 := hbx
        unfold wasBox rpC at hbx0
        obtain ⟨e0, e1, e2, f0, f1, f2⟩ := trio hbx0
        clear hbx0
        clear hcs cw0 cw1
        generalize l[q] = y at *
        obtain ⟨y1, y2⟩ := y
        simp only at c0 c1
        by_cases hy : y1 = key
        · have hyb : (y1.toList == key.toList) = true := by rw [tx_eq]; exact decide_eq_true hy
          have HS := Lib.hid (seen_hit hso hgt hy)
          clear hy hgt
          go_wp2_with fail
          go_quiet (fail)
          go_wp2
          go_roundw
          case rel => exact ⟨q + 1, some y2, by omega, by go_num, HS.out, wasBox_set (w := World.drewN wr _) hbx y2, (((below_drewN hbr _).setCell (Nat.le_refl _) _).setCell (Nat.le_refl _) _).setCell (Nat.le_refl _) _⟩
          case measure => simp [intOf]; omega
        · have hyb : (y1.toList == key.toList) = false := by rw [tx_eq]; exact decide_eq_false hy
          have HS := Lib.hid (seen_miss hgt hy hsx)
          clear hy hgt
          go_wp2_with fail
          go_quiet (fail)
          go_wp2
          go_roundw
          case rel => exact ⟨q + 1, x, by omega, by go_num, HS.out, hbx, below_drewN hbr _⟩
          case measure => simp [intOf]; omega
      · go_wp2
        go_meet
        exact ⟨hbr, by rw [← seen_end (by rw [show l.length = q by omega]; exact hsx)]; exact hbx⟩
  obtain ⟨hbc, hbox⟩ := hcut
  refine hK _ _ ?_; clear hK
  have hbwc := hb3.trans (hbc.mono (by omega))
  have hszc := hbc.size
  have z3 := (hbc.block w.heap.size (by omega)).trans b3
  have z5 := (hbc.block (w.heap.size + 1) (by omega)).trans b5
  have hn25 : w2.heap.size ≠ w.heap.size + 1 := by omega
  have hn25' : ¬ w.heap.size + 1 = w2.heap.size := by omega
  have hslc := hs.below hbwc
  clear hb3 hbc hsl3 b3 b5
  obtain ⟨d0, d1, d2, d3⟩ := four z3
  obtain ⟨p0, p1, p2, q0, q1, q2⟩ := trio z5
  rw [HLK.out] at hbox
  obtain ⟨e0, e1, e2, f0, f1, f2⟩ := trio hbox
  simp only [Option.isSome, Option.getD] at e0 e1 e2
  go_wp2_with fail
  have hbox2 := heap_setCell_same _ w2.heap.size 1 _ _ (.bool false) hbox
  have z3 := (heap_setCell_other wc ⟨w2.heap.size, 1, none⟩ w.heap.size (.bool false) (by simp; omega)).trans z3
  have z5 := (heap_setCell_other wc ⟨w2.heap.size, 1, none⟩ (w.heap.size + 1) (.bool false) (by simp; omega)).trans z5
  have hbwc := hbwc.setCell (p := ⟨w2.heap.size, 1, none⟩) (by simp; omega) (.bool false)
  have hszc : w2.heap.size < (wc.setCell ⟨w2.heap.size, 1, none⟩ (.bool false)).heap.size := by simp; omega
  clear hslc hbox d0 d1 d2 d3 e0 e1 e2 f0 f1 f2 p0 p1 p2 q0 q1 q2
  generalize wc.setCell ⟨w2.heap.size, 1, none⟩ (.bool false) = wd at *
  have hslc := hs.below hbwc
  obtain ⟨d0, d1, d2, d3⟩ := four z3
  obtain ⟨p0, p1, p2, q0, q1, q2⟩ := trio z5
  obtain ⟨e0, e1, e2, _⟩ := trio hbox2
  simp only [Option.getD] at e0 e1 e2
  go_region_held3 (fun w' => w'.cell? ⟨w.heap.size, 0, none⟩ = some (.int .u8 4) ∧ w'.cell? ⟨w.heap.size, 1, none⟩ = some (.string key) ∧ w'.cell? ⟨w.heap.size, 2, none⟩ = some (.string old) ∧ w'.cell? ⟨w.heap.size, 3, none⟩ = some (.string val) ∧ w'.cell? ⟨w2.heap.size, 0, none⟩ = some (.int .i64 0) ∧ w'.cell? ⟨w2.heap.size, 1, none⟩ = some (.bool false) ∧ w'.cell? ⟨w2.heap.size, 2, none⟩ = some (.string ⟨#[]⟩))
    (first
      | exact ⟨d0, d1, d2, d3, e0, e1, e2⟩
      | (go_split_ands; refine ⟨?_, ?_, ?_, ?_, ?_, ?_, ?_⟩ <;> exact keep_b hbx (by assumption))
      | go_keep)
    ((go_at_call 37; refine (rcopy_any _ _ _ _ (hslc.below ((Below.refl _ _).drew)) hl).mono ?_; rintro e wx ⟨⟨vx, rfl, hownx⟩, hbx⟩; have P0 := keep_b hbx p0; have P1 := keep_b hbx p1; have P2 := keep_b hbx p2; have Q0 := keep_bf hbx p0 q0; have Q1 := keep_bf hbx p1 q1; have Q2 := keep_bf hbx p2 q2))
  go_wp2
  (try simp only [Exit.inBlock, Exit.then])
  refine bodyPost_ret (v := .tuple #[vx, rpV ⟨0, false, ⟨#[]⟩⟩]) ?hr rfl ⟨⟨_, rfl, ?_⟩, ?_⟩
  case hr =>
    simp only [results, Tryd.results24]
    go_simp
    try rfl
  · have hB := (hbx.block (w.heap.size + 1) (by have := hbx.size; simp; omega)).trans z5
    have hne := own_ne hownx hB (by decide)
    refine owns_mono ?_ (show w.heap.size ≤ wd.heap.size from hbwc.size)
    repeat (first | exact hownx | refine World.ownsRow.drew ?_ | refine owns_far ?_ hne _)
  · have hbwx : Below w.heap.size w wx := hbwc.trans (((Below.refl _ _).drew.trans hbx).mono hbwc.size)
    (repeat' (first | (with_reducible exact Below.refl _ _) | (with_reducible assumption) | (with_reducible refine Below.alloc ?_ ?_ _) | (with_reducible refine Below.drew ?_) | (with_reducible refine below_drewN ?_ _) | (with_reducible refine Below.setCell ?_ ?_ _) | (with_reducible refine Below.trans ?_ (by assumption)) | go_size))
set_option maxRecDepth 100000 in
set_option maxHeartbeats 16000000 in
theorem rdo_4e (a : Option Addr) (cap : Nat) (l : List Pr) (key old val : Tx) (w : World) (hs : SlP w a cap l) (hl : l.length ≤ 1000) (hm : mayS l = true) (ho : mayO ⟨4, key, old, val⟩ = true) (hlk : look l key = some old) :
    Calls Tryd.prog 24 #[.slice a l.length cap, .agg #[.int .u8 4, .string key, .string old, .string val]] w fun e w' => StRes w.heap.size (putL l key val) ⟨0, true, old⟩ e w' ∧ Below w.heap.size w w' := by
  have hsm : ∀ p ∈ l, p.1.size ≤ 100000 := fun p hp => by
    have := ((may_spec hm).2.2 p hp).1
    unfold keyOk at this
    simp at this
    omega
  have hks : key.size ≤ 100000 := by
    have := (mayO_spec ho).1
    unfold keyOk at this
    simp at this
    omega
  have hso := may_rises hm
  have hb0 : Below w.heap.size w ((w.alloc (Obj.cells #[.int .u8 4, .string key, .string old, .string val] 34)).alloc (Obj.cells #[.int .i64 0, .bool false, .string ⟨#[]⟩] 36)) := ((Below.refl _ _).alloc (Nat.le_refl _) _).alloc (by simp) _
  have hr0 := hs.row.below0 hb0
  have b3 : ((w.alloc (Obj.cells #[.int .u8 4, .string key, .string old, .string val] 34)).alloc (Obj.cells #[.int .i64 0, .bool false, .string ⟨#[]⟩] 36)).heap[w.heap.size]? = _ := ((heap_alloc_old _ _ (by simp)).trans (heap_alloc_new w (Obj.cells #[.int .u8 4, .string key, .string old, .string val] 34)))
  have b5 := heap_alloc2_new w (Obj.cells #[.int .u8 4, .string key, .string old, .string val] 34) (Obj.cells #[.int .i64 0, .bool false, .string ⟨#[]⟩] 36)
  have HM := Lib.hid hm
  have HOP := Lib.hid ho
  have HLK := Lib.hid hlk
  clear hm ho hlk
  go_enter Tryd.func24, Tryd.ntmps24
  refine wp_seq_k (fun K hK => ?_)
  have HK := Lib.hid hK
  clear hK
  go_wp2
  refine HK.out _ _ ?_
  clear HK
  refine wp_seq_k (fun K hK => ?_)
  have HK := Lib.hid hK
  clear hK
  go_wp2_with (go_at_call 35; refine (rmay_any _ _ _ _ hr0 hl hsm).mono ?_; rintro e w1 ⟨rfl, m, rfl⟩; rw [HM.out])
  refine HK.out _ _ ?_
  clear HK
  have hb1 := below_drewN hb0 m
  have b3 := blk_drewN m b3
  have b5 := blk_drewN m b5
  have hs1 : w.heap.size + 2 ≤ (World.drewN ((w.alloc (Obj.cells #[.int .u8 4, .string key, .string old, .string val] 34)).alloc (Obj.cells #[.int .i64 0, .bool false, .string ⟨#[]⟩] 36)) m).heap.size := by simp
  generalize World.drewN ((w.alloc (Obj.cells #[.int .u8 4, .string key, .string old, .string val] 34)).alloc (Obj.cells #[.int .i64 0, .bool false, .string ⟨#[]⟩] 36)) m = w1 at *
  clear hr0
  obtain ⟨d0, d1, d2, d3⟩ := four b3
  refine wp_seq_k (fun K hK => ?_)
  have HK := Lib.hid hK
  clear hK
  go_wp2_with (go_at_call 36; refine (rmayO_any _ _ _ _ _ _ HOP.out).mono ?_; rintro e w2 ⟨rfl, hb2⟩)
  refine HK.out _ _ ?_
  clear HK
  refine wp_seq_k (fun K hK => ?_)
  have HK := Lib.hid hK
  clear hK
  go_wp2
  refine HK.out _ _ ?_
  clear HK
  have b3 := ((blw1 w2 (Obj.cells #[.int .i64 0, .bool false, .string ⟨#[]⟩] 36)).block w.heap.size (by have := hb2.size; omega)).trans ((hb2.block w.heap.size (by omega)).trans b3)
  have b5 := ((blw1 w2 (Obj.cells #[.int .i64 0, .bool false, .string ⟨#[]⟩] 36)).block (w.heap.size + 1) (by have := hb2.size; omega)).trans ((hb2.block (w.heap.size + 1) (by omega)).trans b5)
  have b6 : wasBox (w2.alloc (Obj.cells #[.int .i64 0, .bool false, .string ⟨#[]⟩] 36)) w2.heap.size none := heap_alloc_new w2 _
  have hb3 := (hb1.trans (hb2.mono (by omega))).trans ((blw1 w2 (Obj.cells #[.int .i64 0, .bool false, .string ⟨#[]⟩] 36)).mono (by have := hb2.size; omega))
  have hs2 : w.heap.size + 2 ≤ w2.heap.size := by have := hb2.size; omega
  have hs3 : w2.heap.size < (w2.alloc (Obj.cells #[.int .i64 0, .bool false, .string ⟨#[]⟩] 36)).heap.size := by simp
  clear d0 d1 d2 d3 hb1 hb2
  generalize w2.alloc (Obj.cells #[.int .i64 0, .bool false, .string ⟨#[]⟩] 36) = w3 at *
  have hsl3 := hs.below hb3
  refine wp_seq_k (fun K hK => ?_)
  go_cut [] (fun wx => Below w2.heap.size w3 wx ∧ wasBox wx w2.heap.size (look l key))
  case first =>
    go_wp2_with fail
    go_loopw [7] (fun i wr => ∃ (q : Nat) (x : Option Tx), q ≤ l.length ∧ i = .int .i64 q ∧ SeenK l key q x ∧ wasBox wr w2.heap.size x ∧ Below w2.heap.size w3 wr) (fun i _ => l.length - (intOf i).toNat)
    case atStart => exact ⟨0, none, by omega, rfl, seen_zero l key, b6, Below.refl _ _⟩
    case round =>
      obtain ⟨q, x, hq, rfl, hsx, hbx, hbr⟩ := hrel
      by_cases hlt : q < l.length
      · obtain ⟨bb, off, rfl, hblt, hcs⟩ := hs.row.pair (List.getElem?_eq_getElem hlt)
        obtain ⟨cw0, cw1⟩ := hcs _ _ (List.getElem?_eq_getElem hlt)
        have hbwr : Below w.heap.size w wr := hb3.trans (hbr.mono (by omega))
        have c0 := (hbwr.cell (p := ⟨bb, off + q * 2, none⟩) hblt).trans cw0
        have c1 := (hbwr.cell (p := ⟨bb, off + q * 2 + 1, none⟩) hblt).trans cw1
        obtain ⟨d0, d1, d2, d3⟩ := four ((hbr.block w.heap.size (by omega)).trans b3)
        have hgt := List.getElem?_eq_getElem hlt
        have hszr := hbr.size
        have hbx0 := hbx
        unfold wasBox rpC at hbx0
        obtain ⟨e0, e1, e2, f0, f1, f2⟩ := trio hbx0
        clear hbx0
        clear hcs cw0 cw1
        generalize l[q] = y at *
        obtain ⟨y1, y2⟩ := y
        simp only at c0 c1
        by_cases hy : y1 = key
        · have hyb : (y1.toList == key.toList) = true := by rw [tx_eq]; exact decide_eq_true hy
          have HS := Lib.hid (seen_hit hso hgt hy)
          clear hy hgt
          go_wp2_with fail
          go_quiet (fail)
          go_wp2
          go_roundw
          case rel => exact ⟨q + 1, some y2, by omega, by go_num, HS.out, wasBox_set (w := World.drewN wr _) hbx y2, (((below_drewN hbr _).setCell (Nat.le_refl _) _).setCell (Nat.le_refl _) _).setCell (Nat.le_refl _) _⟩
          case measure => simp [intOf]; omega
        · have hyb : (y1.toList == key.toList) = false := by rw [tx_eq]; exact decide_eq_false hy
          have HS := Lib.hid (seen_miss hgt hy hsx)
          clear hy hgt
          go_wp2_with fail
          go_quiet (fail)
          go_wp2
          go_roundw
          case rel => exact ⟨q + 1, x, by omega, by go_num, HS.out, hbx, below_drewN hbr _⟩
          case measure => simp [intOf]; omega
      · go_wp2
        go_meet
        exact ⟨hbr, by rw [← seen_end (by rw [show l.length = q by omega]; exact hsx)]; exact hbx⟩
  obtain ⟨hbc, hbox⟩ := hcut
  refine hK _ _ ?_; clear hK
  have hbwc := hb3.trans (hbc.mono (by omega))
  have hszc := hbc.size
  have z3 := (hbc.block w.heap.size (by omega)).trans b3
  have z5 := (hbc.block (w.heap.size + 1) (by omega)).trans b5
  have hn25 : w2.heap.size ≠ w.heap.size + 1 := by omega
  have hn25' : ¬ w.heap.size + 1 = w2.heap.size := by omega
  have hslc := hs.below hbwc
  clear hb3 hbc hsl3 b3 b5
  obtain ⟨d0, d1, d2, d3⟩ := four z3
  obtain ⟨p0, p1, p2, q0, q1, q2⟩ := trio z5
  rw [HLK.out] at hbox
  obtain ⟨e0, e1, e2, f0, f1, f2⟩ := trio hbox
  simp only [Option.isSome, Option.getD] at e0 e1 e2
  have hub : (old.toList == old.toList) = true := tx_eq old old ▸ decide_eq_true rfl
  go_wp2_with fail
  go_region_held3 (fun w' => w'.cell? ⟨w.heap.size, 0, none⟩ = some (.int .u8 4) ∧ w'.cell? ⟨w.heap.size, 1, none⟩ = some (.string key) ∧ w'.cell? ⟨w.heap.size, 2, none⟩ = some (.string old) ∧ w'.cell? ⟨w.heap.size, 3, none⟩ = some (.string val) ∧ w'.cell? ⟨w2.heap.size, 0, none⟩ = some (.int .i64 0) ∧ w'.cell? ⟨w2.heap.size, 1, none⟩ = some (.bool true) ∧ w'.cell? ⟨w2.heap.size, 2, none⟩ = some (.string old))
    (first
      | exact ⟨d0, d1, d2, d3, e0, e1, e2⟩
      | (go_split_ands; refine ⟨?_, ?_, ?_, ?_, ?_, ?_, ?_⟩ <;> exact keep_b hbx (by assumption))
      | go_keep)
    ((go_at_call 38; refine (with_any _ _ _ _ _ _ (hslc.below ((Below.refl _ _).drew)).row hl hso hsm hks).mono ?_; rintro e wx ⟨⟨vx, rfl, hownx⟩, hbx⟩; have P0 := keep_b hbx p0; have P1 := keep_b hbx p1; have P2 := keep_b hbx p2; have Q0 := keep_bf hbx p0 q0; have Q1 := keep_bf hbx p1 q1; have Q2 := keep_bf hbx p2 q2))
  go_wp2
  (try simp only [Exit.inBlock, Exit.then])
  refine bodyPost_ret (v := .tuple #[vx, rpV ⟨0, true, old⟩]) ?hr rfl ⟨⟨_, rfl, ?_⟩, ?_⟩
  case hr =>
    simp only [results, Tryd.results24]
    go_simp
    try rfl
  · have hB := (hbx.block (w.heap.size + 1) (by have := hbx.size; simp; omega)).trans z5
    have hne := own_ne hownx hB (by decide)
    refine owns_mono ?_ (show w.heap.size ≤ wc.heap.size from hbwc.size)
    repeat (first | exact hownx | refine World.ownsRow.drew ?_ | refine owns_far ?_ hne _)
  · have hbwx : Below w.heap.size w wx := hbwc.trans (((Below.refl _ _).drew.trans hbx).mono hbwc.size)
    (repeat' (first | (with_reducible exact Below.refl _ _) | (with_reducible assumption) | (with_reducible refine Below.alloc ?_ ?_ _) | (with_reducible refine Below.drew ?_) | (with_reducible refine below_drewN ?_ _) | (with_reducible refine Below.setCell ?_ ?_ _) | (with_reducible refine Below.trans ?_ (by assumption)) | go_size))
set_option maxRecDepth 100000 in
set_option maxHeartbeats 16000000 in
theorem rdo_4o (a : Option Addr) (cap : Nat) (l : List Pr) (key old val : Tx) (w : World) (hs : SlP w a cap l) (hl : l.length ≤ 1000) (hm : mayS l = true) (ho : mayO ⟨4, key, old, val⟩ = true) (u : Tx) (hlk : look l key = some u) (hu : u ≠ old) :
    Calls Tryd.prog 24 #[.slice a l.length cap, .agg #[.int .u8 4, .string key, .string old, .string val]] w fun e w' => StRes w.heap.size (l) ⟨0, false, u⟩ e w' ∧ Below w.heap.size w w' := by
  have hsm : ∀ p ∈ l, p.1.size ≤ 100000 := fun p hp => by
    have := ((may_spec hm).2.2 p hp).1
    unfold keyOk at this
    simp at this
    omega
  have hks : key.size ≤ 100000 := by
    have := (mayO_spec ho).1
    unfold keyOk at this
    simp at this
    omega
  have hso := may_rises hm
  have hb0 : Below w.heap.size w ((w.alloc (Obj.cells #[.int .u8 4, .string key, .string old, .string val] 34)).alloc (Obj.cells #[.int .i64 0, .bool false, .string ⟨#[]⟩] 36)) := ((Below.refl _ _).alloc (Nat.le_refl _) _).alloc (by simp) _
  have hr0 := hs.row.below0 hb0
  have b3 : ((w.alloc (Obj.cells #[.int .u8 4, .string key, .string old, .string val] 34)).alloc (Obj.cells #[.int .i64 0, .bool false, .string ⟨#[]⟩] 36)).heap[w.heap.size]? = _ := ((heap_alloc_old _ _ (by simp)).trans (heap_alloc_new w (Obj.cells #[.int .u8 4, .string key, .string old, .string val] 34)))
  have b5 := heap_alloc2_new w (Obj.cells #[.int .u8 4, .string key, .string old, .string val] 34) (Obj.cells #[.int .i64 0, .bool false, .string ⟨#[]⟩] 36)
  have HM := Lib.hid hm
  have HOP := Lib.hid ho
  have HLK := Lib.hid hlk
  clear hm ho hlk
  go_enter Tryd.func24, Tryd.ntmps24
  refine wp_seq_k (fun K hK => ?_)
  have HK := Lib.hid hK
  clear hK
  go_wp2
  refine HK.out _ _ ?_
  clear HK
  refine wp_seq_k (fun K hK => ?_)
  have HK := Lib.hid hK
  clear hK
  go_wp2_with (go_at_call 35; refine (rmay_any _ _ _ _ hr0 hl hsm).mono ?_; rintro e w1 ⟨rfl, m, rfl⟩; rw [HM.out])
  refine HK.out _ _ ?_
  clear HK
  have hb1 := below_drewN hb0 m
  have b3 := blk_drewN m b3
  have b5 := blk_drewN m b5
  have hs1 : w.heap.size + 2 ≤ (World.drewN ((w.alloc (Obj.cells #[.int .u8 4, .string key, .string old, .string val] 34)).alloc (Obj.cells #[.int .i64 0, .bool false, .string ⟨#[]⟩] 36)) m).heap.size := by simp
  generalize World.drewN ((w.alloc (Obj.cells #[.int .u8 4, .string key, .string old, .string val] 34)).alloc (Obj.cells #[.int .i64 0, .bool false, .string ⟨#[]⟩] 36)) m = w1 at *
  clear hr0
  obtain ⟨d0, d1, d2, d3⟩ := four b3
  refine wp_seq_k (fun K hK => ?_)
  have HK := Lib.hid hK
  clear hK
  go_wp2_with (go_at_call 36; refine (rmayO_any _ _ _ _ _ _ HOP.out).mono ?_; rintro e w2 ⟨rfl, hb2⟩)
  refine HK.out _ _ ?_
  clear HK
  refine wp_seq_k (fun K hK => ?_)
  have HK := Lib.hid hK
  clear hK
  go_wp2
  refine HK.out _ _ ?_
  clear HK
  have b3 := ((blw1 w2 (Obj.cells #[.int .i64 0, .bool false, .string ⟨#[]⟩] 36)).block w.heap.size (by have := hb2.size; omega)).trans ((hb2.block w.heap.size (by omega)).trans b3)
  have b5 := ((blw1 w2 (Obj.cells #[.int .i64 0, .bool false, .string ⟨#[]⟩] 36)).block (w.heap.size + 1) (by have := hb2.size; omega)).trans ((hb2.block (w.heap.size + 1) (by omega)).trans b5)
  have b6 : wasBox (w2.alloc (Obj.cells #[.int .i64 0, .bool false, .string ⟨#[]⟩] 36)) w2.heap.size none := heap_alloc_new w2 _
  have hb3 := (hb1.trans (hb2.mono (by omega))).trans ((blw1 w2 (Obj.cells #[.int .i64 0, .bool false, .string ⟨#[]⟩] 36)).mono (by have := hb2.size; omega))
  have hs2 : w.heap.size + 2 ≤ w2.heap.size := by have := hb2.size; omega
  have hs3 : w2.heap.size < (w2.alloc (Obj.cells #[.int .i64 0, .bool false, .string ⟨#[]⟩] 36)).heap.size := by simp
  clear d0 d1 d2 d3 hb1 hb2
  generalize w2.alloc (Obj.cells #[.int .i64 0, .bool false, .string ⟨#[]⟩] 36) = w3 at *
  have hsl3 := hs.below hb3
  refine wp_seq_k (fun K hK => ?_)
  go_cut [] (fun wx => Below w2.heap.size w3 wx ∧ wasBox wx w2.heap.size (look l key))
  case first =>
    go_wp2_with fail
    go_loopw [7] (fun i wr => ∃ (q : Nat) (x : Option Tx), q ≤ l.length ∧ i = .int .i64 q ∧ SeenK l key q x ∧ wasBox wr w2.heap.size x ∧ Below w2.heap.size w3 wr) (fun i _ => l.length - (intOf i).toNat)
    case atStart => exact ⟨0, none, by omega, rfl, seen_zero l key, b6, Below.refl _ _⟩
    case round =>
      obtain ⟨q, x, hq, rfl, hsx, hbx, hbr⟩ := hrel
      by_cases hlt : q < l.length
      · obtain ⟨bb, off, rfl, hblt, hcs⟩ := hs.row.pair (List.getElem?_eq_getElem hlt)
        obtain ⟨cw0, cw1⟩ := hcs _ _ (List.getElem?_eq_getElem hlt)
        have hbwr : Below w.heap.size w wr := hb3.trans (hbr.mono (by omega))
        have c0 := (hbwr.cell (p := ⟨bb, off + q * 2, none⟩) hblt).trans cw0
        have c1 := (hbwr.cell (p := ⟨bb, off + q * 2 + 1, none⟩) hblt).trans cw1
        obtain ⟨d0, d1, d2, d3⟩ := four ((hbr.block w.heap.size (by omega)).trans b3)
        have hgt := List.getElem?_eq_getElem hlt
        have hszr := hbr.size
        have hbx0 := hbx
        unfold wasBox rpC at hbx0
        obtain ⟨e0, e1, e2, f0, f1, f2⟩ := trio hbx0
        clear hbx0
        clear hcs cw0 cw1
        generalize l[q] = y at *
        obtain ⟨y1, y2⟩ := y
        simp only at c0 c1
        by_cases hy : y1 = key
        · have hyb : (y1.toList == key.toList) = true := by rw [tx_eq]; exact decide_eq_true hy
          have HS := Lib.hid (seen_hit hso hgt hy)
          clear hy hgt
          go_wp2_with fail
          go_quiet (fail)
          go_wp2
          go_roundw
          case rel => exact ⟨q + 1, some y2, by omega, by go_num, HS.out, wasBox_set (w := World.drewN wr _) hbx y2, (((below_drewN hbr _).setCell (Nat.le_refl _) _).setCell (Nat.le_refl _) _).setCell (Nat.le_refl _) _⟩
          case measure => simp [intOf]; omega
        · have hyb : (y1.toList == key.toList) = false := by rw [tx_eq]; exact decide_eq_false hy
          have HS := Lib.hid (seen_miss hgt hy hsx)
          clear hy hgt
          go_wp2_with fail
          go_quiet (fail)
          go_wp2
          go_roundw
          case rel => exact ⟨q + 1, x, by omega, by go_num, HS.out, hbx, below_drewN hbr _⟩
          case measure => simp [intOf]; omega
      · go_wp2
        go_meet
        exact ⟨hbr, by rw [← seen_end (by rw [show l.length = q by omega]; exact hsx)]; exact hbx⟩
  obtain ⟨hbc, hbox⟩ := hcut
  refine hK _ _ ?_; clear hK
  have hbwc := hb3.trans (hbc.mono (by omega))
  have hszc := hbc.size
  have z3 := (hbc.block w.heap.size (by omega)).trans b3
  have z5 := (hbc.block (w.heap.size + 1) (by omega)).trans b5
  have hn25 : w2.heap.size ≠ w.heap.size + 1 := by omega
  have hn25' : ¬ w.heap.size + 1 = w2.heap.size := by omega
  have hslc := hs.below hbwc
  clear hb3 hbc hsl3 b3 b5
  obtain ⟨d0, d1, d2, d3⟩ := four z3
  obtain ⟨p0, p1, p2, q0, q1, q2⟩ := trio z5
  rw [HLK.out] at hbox
  obtain ⟨e0, e1, e2, f0, f1, f2⟩ := trio hbox
  simp only [Option.isSome, Option.getD] at e0 e1 e2
  have hub : (u.toList == old.toList) = false := by rw [tx_eq]; exact decide_eq_false hu
  clear hu
  go_wp2_with fail
  have hbox2 := heap_setCell_same _ w2.heap.size 1 _ _ (.bool false) hbox
  have z3 := (heap_setCell_other wc ⟨w2.heap.size, 1, none⟩ w.heap.size (.bool false) (by simp; omega)).trans z3
  have z5 := (heap_setCell_other wc ⟨w2.heap.size, 1, none⟩ (w.heap.size + 1) (.bool false) (by simp; omega)).trans z5
  have hbwc := hbwc.setCell (p := ⟨w2.heap.size, 1, none⟩) (by simp; omega) (.bool false)
  have hszc : w2.heap.size < (wc.setCell ⟨w2.heap.size, 1, none⟩ (.bool false)).heap.size := by simp; omega
  clear hslc hbox d0 d1 d2 d3 e0 e1 e2 f0 f1 f2 p0 p1 p2 q0 q1 q2
  generalize wc.setCell ⟨w2.heap.size, 1, none⟩ (.bool false) = wd at *
  have hslc := hs.below hbwc
  obtain ⟨d0, d1, d2, d3⟩ := four z3
  obtain ⟨p0, p1, p2, q0, q1, q2⟩ := trio z5
  obtain ⟨e0, e1, e2, _⟩ := trio hbox2
  simp only [Option.getD] at e0 e1 e2
  go_region_held3 (fun w' => w'.cell? ⟨w.heap.size, 0, none⟩ = some (.int .u8 4) ∧ w'.cell? ⟨w.heap.size, 1, none⟩ = some (.string key) ∧ w'.cell? ⟨w.heap.size, 2, none⟩ = some (.string old) ∧ w'.cell? ⟨w.heap.size, 3, none⟩ = some (.string val) ∧ w'.cell? ⟨w2.heap.size, 0, none⟩ = some (.int .i64 0) ∧ w'.cell? ⟨w2.heap.size, 1, none⟩ = some (.bool false) ∧ w'.cell? ⟨w2.heap.size, 2, none⟩ = some (.string u))
    (first
      | exact ⟨d0, d1, d2, d3, e0, e1, e2⟩
      | (go_split_ands; refine ⟨?_, ?_, ?_, ?_, ?_, ?_, ?_⟩ <;> exact keep_b hbx (by assumption))
      | go_keep)
    ((go_at_call 37; refine (rcopy_any _ _ _ _ (hslc.below ((Below.refl _ _).drew)) hl).mono ?_; rintro e wx ⟨⟨vx, rfl, hownx⟩, hbx⟩; have P0 := keep_b hbx p0; have P1 := keep_b hbx p1; have P2 := keep_b hbx p2; have Q0 := keep_bf hbx p0 q0; have Q1 := keep_bf hbx p1 q1; have Q2 := keep_bf hbx p2 q2))
  go_wp2
  (try simp only [Exit.inBlock, Exit.then])
  refine bodyPost_ret (v := .tuple #[vx, rpV ⟨0, false, u⟩]) ?hr rfl ⟨⟨_, rfl, ?_⟩, ?_⟩
  case hr =>
    simp only [results, Tryd.results24]
    go_simp
    try rfl
  · have hB := (hbx.block (w.heap.size + 1) (by have := hbx.size; simp; omega)).trans z5
    have hne := own_ne hownx hB (by decide)
    refine owns_mono ?_ (show w.heap.size ≤ wd.heap.size from hbwc.size)
    repeat (first | exact hownx | refine World.ownsRow.drew ?_ | refine owns_far ?_ hne _)
  · have hbwx : Below w.heap.size w wx := hbwc.trans (((Below.refl _ _).drew.trans hbx).mono hbwc.size)
    (repeat' (first | (with_reducible exact Below.refl _ _) | (with_reducible assumption) | (with_reducible refine Below.alloc ?_ ?_ _) | (with_reducible refine Below.drew ?_) | (with_reducible refine below_drewN ?_ _) | (with_reducible refine Below.setCell ?_ ?_ _) | (with_reducible refine Below.trans ?_ (by assumption)) | go_size))
end Go.Proofs.YtaojblejnpemkaaDoor
