/- Texts that the claim leans on, part 7: K19b, K19c, K19d. -/
import Derived.Test.YtmnjmjbmnhppfaaZ1
import Derived.Test.YtmnjmjbmnhppfaaZ2
import Derived.Test.YtmnjmjbmnhppfaaZ3
import Derived.Test.YtmnjmjbmnhppfaaZ4
import Derived.Test.YtmnjmjbmnhppfaaZ5
import Derived.Test.YtmnjmjbmnhppfaaZ6
import Derived.Test.YtmnjmjbmnhppfaaRows
import Derived.WalkKit
import Derived.WalkSpells
import Derived.WalkLawsBesides
import Derived.Handy
import Derived.Deep.QuietTactic
import Derived.BigQuiet
import Derived.Deep.DeepCutAuto
import Derived.Lib.Hide
import Derived.RegionTactic
import Derived.ChangeAlike
import Derived.Deep.RegionHeld3
import Derived.Laws.ResultCell
import Derived.Outline
import Derived.Laws.EntriesVeiled
import Derived.StillTailTactics
import Derived.Laws.Rows
import Derived.Lib.Overlaps
import Derived.Deep.RegionWith
import Derived.ProofKit
import Derived.OpenShut
import Derived.Laws.Strings
import Derived.Laws.CopyOwn
import Derived.Laws.CopyRow
import Derived.Laws.NewBlocks
import Derived.Deep.RegionLaw
namespace Go.Proofs.Ytmnjmjbmnhppfaa
open Go.RowKit

set_option maxRecDepth 100000 in
set_option maxHeartbeats 16000000 in
theorem rdo_2f (a : Option Addr) (cap : Nat) (l : List Pr) (key old val : Tx) (w : World) (hs : SlP w a cap l) (hl : l.length ≤ 1000) (hm : mayS l = true) (ho : mayO ⟨2, key, old, val⟩ = true) (hlk : look l key = none) (h8 : Hid (l.length = 8)) :
    Calls Try.prog 39 #[.slice a l.length cap, .agg #[.int .u8 2, .string key, .string old, .string val]] w fun e w' => StRes w.heap.size (l) ⟨211, false, ⟨#[]⟩⟩ e w' ∧ Below w.heap.size w w' := by
  have hsm : ∀ p ∈ l, p.1.size ≤ 100000 := fun p hp => by
    have := ((may_spec hm).2.2 p hp).1
    unfold keyOk at this
    simp at this
    omega
  have hks : key.size ≤ 100000 := by
    have := (mayO_spec ho).1
    unfold keyOk at this
    simp at this
    omega
  have hso := may_rises hm
  have hb0 : Below w.heap.size w ((w.alloc (Obj.cells #[.int .u8 2, .string key, .string old, .string val] 61)).alloc (Obj.cells #[.int .i64 0, .bool false, .string ⟨#[]⟩] 43)) := ((Below.refl _ _).alloc (Nat.le_refl _) _).alloc (by simp) _
  have hr0 := hs.row.below0 hb0
  have b3 : ((w.alloc (Obj.cells #[.int .u8 2, .string key, .string old, .string val] 61)).alloc (Obj.cells #[.int .i64 0, .bool false, .string ⟨#[]⟩] 43)).heap[w.heap.size]? = _ := ((heap_alloc_old _ _ (by simp)).trans (heap_alloc_new w (Obj.cells #[.int .u8 2, .string key, .string old, .string val] 61)))
  have b5 := heap_alloc2_new w (Obj.cells #[.int .u8 2, .string key, .string old, .string val] 61) (Obj.cells #[.int .i64 0, .bool false, .string ⟨#[]⟩] 43)
  have HM := Lib.hid hm
  have HOP := Lib.hid ho
  have HLK := Lib.hid hlk
  clear hm ho hlk
  go_enter Try.func39, Try.ntmps39
  refine wp_seq_k (fun K hK => ?_)
  have HK := Lib.hid hK
  clear hK
  go_wp2
  refine HK.out _ _ ?_
  clear HK
  refine wp_seq_k (fun K hK => ?_)
  have HK := Lib.hid hK
  clear hK
  go_wp2_with (go_at_call 41; refine (rmay_any _ _ _ _ hr0 hl hsm).mono ?_; rintro e w1 ⟨rfl, m, rfl⟩; rw [HM.out])
  refine HK.out _ _ ?_
  clear HK
  have hb1 := below_drewN hb0 m
  have b3 := blk_drewN m b3
  have b5 := blk_drewN m b5
  have hs1 : w.heap.size + 2 ≤ (World.drewN ((w.alloc (Obj.cells #[.int .u8 2, .string key, .string old, .string val] 61)).alloc (Obj.cells #[.int .i64 0, .bool false, .string ⟨#[]⟩] 43)) m).heap.size := by simp
  generalize World.drewN ((w.alloc (Obj.cells #[.int .u8 2, .string key, .string old, .string val] 61)).alloc (Obj.cells #[.int .i64 0, .bool false, .string ⟨#[]⟩] 43)) m = w1 at *
  clear hr0
  obtain ⟨d0, d1, d2, d3⟩ := four b3
  refine wp_seq_k (fun K hK => ?_)
  have HK := Lib.hid hK
  clear hK
  go_wp2_with (go_at_call 42; refine (rmayO_any _ _ _ _ _ _ HOP.out).mono ?_; rintro e w2 ⟨rfl, hb2⟩)
  refine HK.out _ _ ?_
  clear HK
  refine wp_seq_k (fun K hK => ?_)
  have HK := Lib.hid hK
  clear hK
  go_wp2
  refine HK.out _ _ ?_
  clear HK
  have b3 := ((blw1 w2 (Obj.cells #[.int .i64 0, .bool false, .string ⟨#[]⟩] 43)).block w.heap.size (by have := hb2.size; omega)).trans ((hb2.block w.heap.size (by omega)).trans b3)
  have b5 := ((blw1 w2 (Obj.cells #[.int .i64 0, .bool false, .string ⟨#[]⟩] 43)).block (w.heap.size + 1) (by have := hb2.size; omega)).trans ((hb2.block (w.heap.size + 1) (by omega)).trans b5)
  have b6 : wasBox (w2.alloc (Obj.cells #[.int .i64 0, .bool false, .string ⟨#[]⟩] 43)) w2.heap.size none := heap_alloc_new w2 _
  have hb3 := (hb1.trans (hb2.mono (by omega))).trans ((blw1 w2 (Obj.cells #[.int .i64 0, .bool false, .string ⟨#[]⟩] 43)).mono (by have := hb2.size; omega))
  have hs2 : w.heap.size + 2 ≤ w2.heap.size := by have := hb2.size; omega
  have hs3 : w2.heap.size < (w2.alloc (Obj.cells #[.int .i64 0, .bool false, .string ⟨#[]⟩] 43)).heap.size := by simp
  clear d0 d1 d2 d3 hb1 hb2
  generalize w2.alloc (Obj.cells #[.int .i64 0, .bool false, .string ⟨#[]⟩] 43) = w3 at *
  have hsl3 := hs.below hb3
  refine wp_seq_k (fun K hK => ?_)
  go_cut [] (fun wx => Below w2.heap.size w3 wx ∧ wasBox wx w2.heap.size (look l key))
  case first =>
    go_wp2_with fail
    go_loopw [7] (fun i wr => ∃ (q : Nat) (x : Option Tx), q ≤ l.length ∧ i = .int .i64 q ∧ SeenK l key q x ∧ wasBox wr w2.heap.size x ∧ Below w2.heap.size w3 wr) (fun i _ => l.length - (intOf i).toNat)
    case atStart => exact ⟨0, none, by omega, rfl, seen_zero l key, b6, Below.refl _ _⟩
    case round =>
      obtain ⟨q, x, hq, rfl, hsx, hbx, hbr⟩ := hrel
      by_cases hlt : q < l.length
      · obtain ⟨bb, off, rfl, hblt, hcs⟩ := hs.row.pair (List.getElem?_eq_getElem hlt)
        obtain ⟨cw0, cw1⟩ := hcs _ _ (List.getElem?_eq_getElem hlt)
        have hbwr : Below w.heap.size w wr := hb3.trans (hbr.mono (by omega))
        have c0 := (hbwr.cell (p := ⟨bb, off + q * 2, none⟩) hblt).trans cw0
        have c1 := (hbwr.cell (p := ⟨bb, off + q * 2 + 1, none⟩) hblt).trans cw1
        obtain ⟨d0, d1, d2, d3⟩ := four ((hbr.block w.heap.size (by omega)).trans b3)
        have hgt := List.getElem?_eq_getElem hlt
        have hszr := hbr.size
        have hbx0 := hbx
        unfold wasBox rpC at hbx0
        obtain ⟨e0, e1, e2, f0, f1, f2⟩ := trio hbx0
        clear hbx0
        clear hcs cw0 cw1
        generalize l[q] = y at *
        obtain ⟨y1, y2⟩ := y
        simp only at c0 c1
        by_cases hy : y1 = key
        · have hyb : (y1.toList == key.toList) = true := by rw [tx_eq]; exact decide_eq_true hy
          have HS := Lib.hid (seen_hit hso hgt hy)
          clear hy hgt
          go_wp2_with fail
          go_quiet (fail)
          go_wp2
          go_roundw
          case rel => exact ⟨q + 1, some y2, by omega, by go_num, HS.out, wasBox_set (w := World.drewN wr _) hbx y2, (((below_drewN hbr _).setCell (Nat.le_refl _) _).setCell (Nat.le_refl _) _).setCell (Nat.le_refl _) _⟩
          case measure => simp [intOf]; omega
        · have hyb : (y1.toList == key.toList) = false := by rw [tx_eq]; exact decide_eq_false hy
          have HS := Lib.hid (seen_miss hgt hy hsx)
          clear hy hgt
          go_wp2_with fail
          go_quiet (fail)
          go_wp2
          go_roundw
          case rel => exact ⟨q + 1, x, by omega, by go_num, HS.out, hbx, below_drewN hbr _⟩
          case measure => simp [intOf]; omega
      · go_wp2
        go_meet
        exact ⟨hbr, by rw [← seen_end (by rw [show l.length = q by omega]; exact hsx)]; exact hbx⟩
  obtain ⟨hbc, hbox⟩ := hcut
  refine hK _ _ ?_; clear hK
  have hbwc := hb3.trans (hbc.mono (by omega))
  have hszc := hbc.size
  have z3 := (hbc.block w.heap.size (by omega)).trans b3
  have z5 := (hbc.block (w.heap.size + 1) (by omega)).trans b5
  have hn25 : w2.heap.size ≠ w.heap.size + 1 := by omega
  have hn25' : ¬ w.heap.size + 1 = w2.heap.size := by omega
  have hslc := hs.below hbwc
  clear hb3 hbc hsl3 b3 b5
  obtain ⟨d0, d1, d2, d3⟩ := four z3
  obtain ⟨p0, p1, p2, q0, q1, q2⟩ := trio z5
  rw [HLK.out] at hbox
  obtain ⟨e0, e1, e2, f0, f1, f2⟩ := trio hbox
  simp only [Option.isSome, Option.getD] at e0 e1 e2
  have h8b : ((l.length : Int) == 8) = true := by rw [h8.out]; rfl
  clear h8
  go_wp2_with (go_at_call 38; refine (rcopy_any _ _ _ _ hslc hl).mono ?_; rintro e wx ⟨⟨vx, rfl, hownx⟩, hbx⟩; obtain ⟨P0, P1, P2, Q0, Q1, Q2⟩ := trio ((hbx.block (w.heap.size + 1) (by omega)).trans z5))
  (try simp only [Exit.inBlock, Exit.then])
  refine bodyPost_ret (v := .tuple #[vx, rpV ⟨211, false, ⟨#[]⟩⟩]) ?hr rfl ⟨⟨_, rfl, ?_⟩, ?_⟩
  case hr =>
    simp only [results, Try.results39]
    go_simp
    try rfl
  · have hB := (hbx.block (w.heap.size + 1) (by omega)).trans z5
    have hne := own_ne hownx hB (by decide)
    refine owns_mono ?_ (show w.heap.size ≤ wc.heap.size from hbwc.size)
    repeat (first | exact hownx | refine World.ownsRow.drew ?_ | refine owns_far ?_ hne _)
  · have hbwx : Below w.heap.size w wx := hbwc.trans (hbx.mono (by omega))
    (repeat' (first | (with_reducible exact Below.refl _ _) | (with_reducible assumption) | (with_reducible refine Below.alloc ?_ ?_ _) | (with_reducible refine Below.drew ?_) | (with_reducible refine below_drewN ?_ _) | (with_reducible refine Below.setCell ?_ ?_ _) | (with_reducible refine Below.trans ?_ (by assumption)) | go_size))

set_option maxRecDepth 100000 in
set_option maxHeartbeats 16000000 in
theorem rdo_2n (a : Option Addr) (cap : Nat) (l : List Pr) (key old val : Tx) (w : World) (hs : SlP w a cap l) (hl : l.length ≤ 1000) (hm : mayS l = true) (ho : mayO ⟨2, key, old, val⟩ = true) (hlk : look l key = none) (h8 : l.length ≠ 8) :
    Calls Try.prog 39 #[.slice a l.length cap, .agg #[.int .u8 2, .string key, .string old, .string val]] w fun e w' => StRes w.heap.size (putL l key val) ⟨0, false, ⟨#[]⟩⟩ e w' ∧ Below w.heap.size w w' := by
  have hsm : ∀ p ∈ l, p.1.size ≤ 100000 := fun p hp => by
    have := ((may_spec hm).2.2 p hp).1
    unfold keyOk at this
    simp at this
    omega
  have hks : key.size ≤ 100000 := by
    have := (mayO_spec ho).1
    unfold keyOk at this
    simp at this
    omega
  have hso := may_rises hm
  have hb0 : Below w.heap.size w ((w.alloc (Obj.cells #[.int .u8 2, .string key, .string old, .string val] 61)).alloc (Obj.cells #[.int .i64 0, .bool false, .string ⟨#[]⟩] 43)) := ((Below.refl _ _).alloc (Nat.le_refl _) _).alloc (by simp) _
  have hr0 := hs.row.below0 hb0
  have b3 : ((w.alloc (Obj.cells #[.int .u8 2, .string key, .string old, .string val] 61)).alloc (Obj.cells #[.int .i64 0, .bool false, .string ⟨#[]⟩] 43)).heap[w.heap.size]? = _ := ((heap_alloc_old _ _ (by simp)).trans (heap_alloc_new w (Obj.cells #[.int .u8 2, .string key, .string old, .string val] 61)))
  have b5 := heap_alloc2_new w (Obj.cells #[.int .u8 2, .string key, .string old, .string val] 61) (Obj.cells #[.int .i64 0, .bool false, .string ⟨#[]⟩] 43)
  have HM := Lib.hid hm
  have HOP := Lib.hid ho
  have HLK := Lib.hid hlk
  clear hm ho hlk
  go_enter Try.func39, Try.ntmps39
  refine wp_seq_k (fun K hK => ?_)
  have HK := Lib.hid hK
  clear hK
  go_wp2
  refine HK.out _ _ ?_
  clear HK
  refine wp_seq_k (fun K hK => ?_)
  have HK := Lib.hid hK
  clear hK
  go_wp2_with (go_at_call 41; refine (rmay_any _ _ _ _ hr0 hl hsm).mono ?_; rintro e w1 ⟨rfl, m, rfl⟩; rw [HM.out])
  refine HK.out _ _ ?_
  clear HK
  have hb1 := below_drewN hb0 m
  have b3 := blk_drewN m b3
  have b5 := blk_drewN m b5
  have hs1 : w.heap.size + 2 ≤ (World.drewN ((w.alloc (Obj.cells #[.int .u8 2, .string key, .string old, .string val] 61)).alloc (Obj.cells #[.int .i64 0, .bool false, .string ⟨#[]⟩] 43)) m).heap.size := by simp
  generalize World.drewN ((w.alloc (Obj.cells #[.int .u8 2, .string key, .string old, .string val] 61)).alloc (Obj.cells #[.int .i64 0, .bool false, .string ⟨#[]⟩] 43)) m = w1 at *
  clear hr0
  obtain ⟨d0, d1, d2, d3⟩ := four b3
  refine wp_seq_k (fun K hK => ?_)
  have HK := Lib.hid hK
  clear hK
  go_wp2_with (go_at_call 42; refine (rmayO_any _ _ _ _ _ _ HOP.out).mono ?_; rintro e w2 ⟨rfl, hb2⟩)
  refine HK.out _ _ ?_
  clear HK
  refine wp_seq_k (fun K hK => ?_)
  have HK := Lib.hid hK
  clear hK
  go_wp2
  refine HK.out _ _ ?_
  clear HK
  have b3 := ((blw1 w2 (Obj.cells #[.int .i64 0, .bool false, .string ⟨#[]⟩] 43)).block w.heap.size (by have := hb2.size; omega)).trans ((hb2.block w.heap.size (by omega)).trans b3)
  have b5 := ((blw1 w2 (Obj.cells #[.int .i64 0, .bool false, .string ⟨#[]⟩] 43)).block (w.heap.size + 1) (by have := hb2.size; omega)).trans ((hb2.block (w.heap.size + 1) (by omega)).trans b5)
  have b6 : wasBox (w2.alloc (Obj.cells #[.int .i64 0, .bool false, .string ⟨#[]⟩] 43)) w2.heap.size none := heap_alloc_new w2 _
  have hb3 := (hb1.trans (hb2.mono (by omega))).trans ((blw1 w2 (Obj.cells #[.int .i64 0, .bool false, .string ⟨#[]⟩] 43)).mono (by have := hb2.size; omega))
  have hs2 : w.heap.size + 2 ≤ w2.heap.size := by have := hb2.size; omega
  have hs3 : w2.heap.size < (w2.alloc (Obj.cells #[.int .i64 0, .bool false, .string ⟨#[]⟩] 43)).heap.size := by simp
  clear d0 d1 d2 d3 hb1 hb2
  generalize w2.alloc (Obj.cells #[.int .i64 0, .bool false, .string ⟨#[]⟩] 43) = w3 at *
  have hsl3 := hs.below hb3
  refine wp_seq_k (fun K hK => ?_)
  go_cut [] (fun wx => Below w2.heap.size w3 wx ∧ wasBox wx w2.heap.size (look l key))
  case first =>
    go_wp2_with fail
    go_loopw [7] (fun i wr => ∃ (q : Nat) (x : Option Tx), q ≤ l.length ∧ i = .int .i64 q ∧ SeenK l key q x ∧ wasBox wr w2.heap.size x ∧ Below w2.heap.size w3 wr) (fun i _ => l.length - (intOf i).toNat)
    case atStart => exact ⟨0, none, by omega, rfl, seen_zero l key, b6, Below.refl _ _⟩
    case round =>
      obtain ⟨q, x, hq, rfl, hsx, hbx, hbr⟩ := hrel
      by_cases hlt : q < l.length
      · obtain ⟨bb, off, rfl, hblt, hcs⟩ := hs.row.pair (List.getElem?_eq_getElem hlt)
        obtain ⟨cw0, cw1⟩ := hcs _ _ (List.getElem?_eq_getElem hlt)
        have hbwr : Below w.heap.size w wr := hb3.trans (hbr.mono (by omega))
        have c0 := (hbwr.cell (p := ⟨bb, off + q * 2, none⟩) hblt).trans cw0
        have c1 := (hbwr.cell (p := ⟨bb, off + q * 2 + 1, none⟩) hblt).trans cw1
        obtain ⟨d0, d1, d2, d3⟩ := four ((hbr.block w.heap.size (by omega)).trans b3)
        have hgt := List.getElem?_eq_getElem hlt
        have hszr := hbr.size
        have hbx0 := hbx
        unfold wasBox rpC at hbx0
        obtain ⟨e0, e1, e2, f0, f1, f2⟩ := trio hbx0
        clear hbx0
        clear hcs cw0 cw1
        generalize l[q] = y at *
        obtain ⟨y1, y2⟩ := y
        simp only at c0 c1
        by_cases hy : y1 = key
        · have hyb : (y1.toList == key.toList) = true := by rw [tx_eq]; exact decide_eq_true hy
          have HS := Lib.hid (seen_hit hso hgt hy)
          clear hy hgt
          go_wp2_with fail
          go_quiet (fail)
          go_wp2
          go_roundw
          case rel => exact ⟨q + 1, some y2, by omega, by go_num, HS.out, wasBox_set (w := World.drewN wr _) hbx y2, (((below_drewN hbr _).setCell (Nat.le_refl _) _).setCell (Nat.le_refl _) _).setCell (Nat.le_refl _) _⟩
          case measure => simp [intOf]; omega
        · have hyb : (y1.toList == key.toList) = false := by rw [tx_eq]; exact decide_eq_false hy
          have HS := Lib.hid (seen_miss hgt hy hsx)
          clear hy hgt
          go_wp2_with fail
          go_quiet (fail)
          go_wp2
          go_roundw
          case rel => exact ⟨q + 1, x, by omega, by go_num, HS.out, hbx, below_drewN hbr _⟩
          case measure => simp [intOf]; omega
      · go_wp2
        go_meet
        exact ⟨hbr, by rw [← seen_end (by rw [show l.length = q by omega]; exact hsx)]; exact hbx⟩
  obtain ⟨hbc, hbox⟩ := hcut
  refine hK _ _ ?_; clear hK
  have hbwc := hb3.trans (hbc.mono (by omega))
  have hszc := hbc.size
  have z3 := (hbc.block w.heap.size (by omega)).trans b3
  have z5 := (hbc.block (w.heap.size + 1) (by omega)).trans b5
  have hn25 : w2.heap.size ≠ w.heap.size + 1 := by omega
  have hn25' : ¬ w.heap.size + 1 = w2.heap.size := by omega
  have hslc := hs.below hbwc
  clear hb3 hbc hsl3 b3 b5
  obtain ⟨d0, d1, d2, d3⟩ := four z3
  obtain ⟨p0, p1, p2, q0, q1, q2⟩ := trio z5
  rw [HLK.out] at hbox
  obtain ⟨e0, e1, e2, f0, f1, f2⟩ := trio hbox
  simp only [Option.isSome, Option.getD] at e0 e1 e2
  have h8b : ((l.length : Int) == 8) = false := by rw [beq_eq_false_iff_ne]; omega
  clear h8
  go_wp2_with fail
  go_region_held3 (fun w' => w'.cell? ⟨w.heap.size, 0, none⟩ = some (.int .u8 2) ∧ w'.cell? ⟨w.heap.size, 1, none⟩ = some (.string key) ∧ w'.cell? ⟨w.heap.size, 2, none⟩ = some (.string old) ∧ w'.cell? ⟨w.heap.size, 3, none⟩ = some (.string val) ∧ w'.cell? ⟨w2.heap.size, 0, none⟩ = some (.int .i64 0) ∧ w'.cell? ⟨w2.heap.size, 1, none⟩ = some (.bool false) ∧ w'.cell? ⟨w2.heap.size, 2, none⟩ = some (.string ⟨#[]⟩))
    (first
      | exact ⟨d0, d1, d2, d3, e0, e1, e2⟩
      | (go_split_ands; refine ⟨?_, ?_, ?_, ?_, ?_, ?_, ?_⟩ <;> exact keep_b hbx (by assumption))
      | go_keep)
    ((go_at_call 79; refine (with_any _ _ _ _ _ _ (hslc.below ((Below.refl _ _).drew)).row hl hso hsm hks).mono ?_; rintro e wx ⟨⟨vx, rfl, hownx⟩, hbx⟩; have P0 := keep_b hbx p0; have P1 := keep_b hbx p1; have P2 := keep_b hbx p2; have Q0 := keep_bf hbx p0 q0; have Q1 := keep_bf hbx p1 q1; have Q2 := keep_bf hbx p2 q2))
  go_wp2
  (try simp only [Exit.inBlock, Exit.then])
  refine bodyPost_ret (v := .tuple #[vx, rpV ⟨0, false, ⟨#[]⟩⟩]) ?hr rfl ⟨⟨_, rfl, ?_⟩, ?_⟩
  case hr =>
    simp only [results, Try.results39]
    go_simp
    try rfl
  · have hB := (hbx.block (w.heap.size + 1) (by have := hbx.size; simp; omega)).trans z5
    have hne := own_ne hownx hB (by decide)
    refine owns_mono ?_ (show w.heap.size ≤ wc.heap.size from hbwc.size)
    repeat (first | exact hownx | refine World.ownsRow.drew ?_ | refine owns_far ?_ hne _)
  · have hbwx : Below w.heap.size w wx := hbwc.trans (((Below.refl _ _).drew.trans hbx).mono hbwc.size)
    (repeat' (first | (with_reducible exact Below.refl _ _) | (with_reducible assumption) | (with_reducible refine Below.alloc ?_ ?_ _) | (with_reducible refine Below.drew ?_) | (with_reducible refine below_drewN ?_ _) | (with_reducible refine Below.setCell ?_ ?_ _) | (with_reducible refine Below.trans ?_ (by assumption)) | go_size))

set_option maxRecDepth 100000 in
set_option maxHeartbeats 16000000 in
theorem rdo_2s (a : Option Addr) (cap : Nat) (l : List Pr) (key old val : Tx) (w : World) (hs : SlP w a cap l) (hl : l.length ≤ 1000) (hm : mayS l = true) (ho : mayO ⟨2, key, old, val⟩ = true) (u : Tx) (hlk : look l key = some u) :
    Calls Try.prog 39 #[.slice a l.length cap, .agg #[.int .u8 2, .string key, .string old, .string val]] w fun e w' => StRes w.heap.size (putL l key val) ⟨0, true, u⟩ e w' ∧ Below w.heap.size w w' := by
  have hsm : ∀ p ∈ l, p.1.size ≤ 100000 := fun p hp => by
    have := ((may_spec hm).2.2 p hp).1
    unfold keyOk at this
    simp at this
    omega
  have hks : key.size ≤ 100000 := by
    have := (mayO_spec ho).1
    unfold keyOk at this
    simp at this
    omega
  have hso := may_rises hm
  have hb0 : Below w.heap.size w ((w.alloc (Obj.cells #[.int .u8 2, .string key, .string old, .string val] 61)).alloc (Obj.cells #[.int .i64 0, .bool false, .string ⟨#[]⟩] 43)) := ((Below.refl _ _).alloc (Nat.le_refl _) _).alloc (by simp) _
  have hr0 := hs.row.below0 hb0
  have b3 : ((w.alloc (Obj.cells #[.int .u8 2, .string key, .string old, .string val] 61)).alloc (Obj.cells #[.int .i64 0, .bool false, .string ⟨#[]⟩] 43)).heap[w.heap.size]? = _ := ((heap_alloc_old _ _ (by simp)).trans (heap_alloc_new w (Obj.cells #[.int .u8 2, .string key, .string old, .string val] 61)))
  have b5 := heap_alloc2_new w (Obj.cells #[.int .u8 2, .string key, .string old, .string val] 61) (Obj.cells #[.int .i64 0, .bool false, .string ⟨#[]⟩] 43)
  have HM := Lib.hid hm
  have HOP := Lib.hid ho
  have HLK := Lib.hid hlk
  clear hm ho hlk
  go_enter Try.func39, Try.ntmps39
  refine wp_seq_k (fun K hK => ?_)
  have HK := Lib.hid hK
  clear hK
  go_wp2
  refine HK.out _ _ ?_
  clear HK
  refine wp_seq_k (fun K hK => ?_)
  have HK := Lib.hid hK
  clear hK
  go_wp2_with (go_at_call 41; refine (rmay_any _ _ _ _ hr0 hl hsm).mono ?_; rintro e w1 ⟨rfl, m, rfl⟩; rw [HM.out])
  refine HK.out _ _ ?_
  clear HK
  have hb1 := below_drewN hb0 m
  have b3 := blk_drewN m b3
  have b5 := blk_drewN m b5
  have hs1 : w.heap.size + 2 ≤ (World.drewN ((w.alloc (Obj.cells #[.int .u8 2, .string key, .string old, .string val] 61)).alloc (Obj.cells #[.int .i64 0, .bool false, .string ⟨#[]⟩] 43)) m).heap.size := by simp
  generalize World.drewN ((w.alloc (Obj.cells #[.int .u8 2, .string key, .string old, .string val] 61)).alloc (Obj.cells #[.int .i64 0, .bool false, .string ⟨#[]⟩] 43)) m = w1 at *
  clear hr0
  obtain ⟨d0, d1, d2, d3⟩ := four b3
  refine wp_seq_k (fun K hK => ?_)
  have HK := Lib.hid hK
  clear hK
  go_wp2_with (go_at_call 42; refine (rmayO_any _ _ _ _ _ _ HOP.out).mono ?_; rintro e w2 ⟨rfl, hb2⟩)
  refine HK.out _ _ ?_
  clear HK
  refine wp_seq_k (fun K hK => ?_)
  have HK := Lib.hid hK
  clear hK
  go_wp2
  refine HK.out _ _ ?_
  clear HK
  have b3 := ((blw1 w2 (Obj.cells #[.int .i64 0, .bool false, .string ⟨#[]⟩] 43)).block w.heap.size (by have := hb2.size; omega)).trans ((hb2.block w.heap.size (by omega)).trans b3)
  have b5 := ((blw1 w2 (Obj.cells #[.int .i64 0, .bool false, .string ⟨#[]⟩] 43)).block (w.heap.size + 1) (by have := hb2.size; omega)).trans ((hb2.block (w.heap.size + 1) (by omega)).trans b5)
  have b6 : wasBox (w2.alloc (Obj.cells #[.int .i64 0, .bool false, .string ⟨#[]⟩] 43)) w2.heap.size none := heap_alloc_new w2 _
  have hb3 := (hb1.trans (hb2.mono (by omega))).trans ((blw1 w2 (Obj.cells #[.int .i64 0, .bool false, .string ⟨#[]⟩] 43)).mono (by have := hb2.size; omega))
  have hs2 : w.heap.size + 2 ≤ w2.heap.size := by have := hb2.size; omega
  have hs3 : w2.heap.size < (w2.alloc (Obj.cells #[.int .i64 0, .bool false, .string ⟨#[]⟩] 43)).heap.size := by simp
  clear d0 d1 d2 d3 hb1 hb2
  generalize w2.alloc (Obj.cells #[.int .i64 0, .bool false, .string ⟨#[]⟩] 43) = w3 at *
  have hsl3 := hs.below hb3
  refine wp_seq_k (fun K hK => ?_)
  go_cut [] (fun wx => Below w2.heap.size w3 wx ∧ wasBox wx w2.heap.size (look l key))
  case first =>
    go_wp2_with fail
    go_loopw [7] (fun i wr => ∃ (q : Nat) (x : Option Tx), q ≤ l.length ∧ i = .int .i64 q ∧ SeenK l key q x ∧ wasBox wr w2.heap.size x ∧ Below w2.heap.size w3 wr) (fun i _ => l.length - (intOf i).toNat)
    case atStart => exact ⟨0, none, by omega, rfl, seen_zero l key, b6, Below.refl _ _⟩
    case round =>
      obtain ⟨q, x, hq, rfl, hsx, hbx, hbr⟩ := hrel
      by_cases hlt : q < l.length
      · obtain ⟨bb, off, rfl, hblt, hcs⟩ := hs.row.pair (List.getElem?_eq_getElem hlt)
        obtain ⟨cw0, cw1⟩ := hcs _ _ (List.getElem?_eq_getElem hlt)
        have hbwr : Below w.heap.size w wr := hb3.trans (hbr.mono (by omega))
        have c0 := (hbwr.cell (p := ⟨bb, off + q * 2, none⟩) hblt).trans cw0
        have c1 := (hbwr.cell (p := ⟨bb, off + q * 2 + 1, none⟩) hblt).trans cw1
        obtain ⟨d0, d1, d2, d3⟩ := four ((hbr.block w.heap.size (by omega)).trans b3)
        have hgt := List.getElem?_eq_getElem hlt
        have hszr := hbr.size
        have hbx0 := hbx
        unfold wasBox rpC at hbx0
        obtain ⟨e0, e1, e2, f0, f1, f2⟩ := trio hbx0
        clear hbx0
        clear hcs cw0 cw1
        generalize l[q] = y at *
        obtain ⟨y1, y2⟩ := y
        simp only at c0 c1
        by_cases hy : y1 = key
        · have hyb : (y1.toList == key.toList) = true := by rw [tx_eq]; exact decide_eq_true hy
          have HS := Lib.hid (seen_hit hso hgt hy)
          clear hy hgt
          go_wp2_with fail
          go_quiet (fail)
          go_wp2
          go_roundw
          case rel => exact ⟨q + 1, some y2, by omega, by go_num, HS.out, wasBox_set (w := World.drewN wr _) hbx y2, (((below_drewN hbr _).setCell (Nat.le_refl _) _).setCell (Nat.le_refl _) _).setCell (Nat.le_refl _) _⟩
          case measure => simp [intOf]; omega
        · have hyb : (y1.toList == key.toList) = false := by rw [tx_eq]; exact decide_eq_false hy
          have HS := Lib.hid (seen_miss hgt hy hsx)
          clear hy hgt
          go_wp2_with fail
          go_quiet (fail)
          go_wp2
          go_roundw
          case rel => exact ⟨q + 1, x, by omega, by go_num, HS.out, hbx, below_drewN hbr _⟩
          case measure => simp [intOf]; omega
      · go_wp2
        go_meet
        exact ⟨hbr, by rw [← seen_end (by rw [show l.length = q by omega]; exact hsx)]; exact hbx⟩
  obtain ⟨hbc, hbox⟩ := hcut
  refine hK _ _ ?_; clear hK
  have hbwc := hb3.trans (hbc.mono (by omega))
  have hszc := hbc.size
  have z3 := (hbc.block w.heap.size (by omega)).trans b3
  have z5 := (hbc.block (w.heap.size + 1) (by omega)).trans b5
  have hn25 : w2.heap.size ≠ w.heap.size + 1 := by omega
  have hn25' : ¬ w.heap.size + 1 = w2.heap.size := by omega
  have hslc := hs.below hbwc
  clear hb3 hbc hsl3 b3 b5
  obtain ⟨d0, d1, d2, d3⟩ := four z3
  obtain ⟨p0, p1, p2, q0, q1, q2⟩ := trio z5
  rw [HLK.out] at hbox
  obtain ⟨e0, e1, e2, f0, f1, f2⟩ := trio hbox
  simp only [Option.isSome, Option.getD] at e0 e1 e2
  go_wp2_with fail
  go_region_held3 (fun w' => w'.cell? ⟨w.heap.size, 0, none⟩ = some (.int .u8 2) ∧ w'.cell? ⟨w.heap.size, 1, none⟩ = some (.string key) ∧ w'.cell? ⟨w.heap.size, 2, none⟩ = some (.string old) ∧ w'.cell? ⟨w.heap.size, 3, none⟩ = some (.string val) ∧ w'.cell? ⟨w2.heap.size, 0, none⟩ = some (.int .i64 0) ∧ w'.cell? ⟨w2.heap.size, 1, none⟩ = some (.bool true) ∧ w'.cell? ⟨w2.heap.size, 2, none⟩ = some (.string u))
    (first
      | exact ⟨d0, d1, d2, d3, e0, e1, e2⟩
      | (go_split_ands; refine ⟨?_, ?_, ?_, ?_, ?_, ?_, ?_⟩ <;> exact keep_b hbx (by assumption))
      | go_keep)
    ((go_at_call 79; refine (with_any _ _ _ _ _ _ (hslc.below ((Below.refl _ _).drew)).row hl hso hsm hks).mono ?_; rintro e wx ⟨⟨vx, rfl, hownx⟩, hbx⟩; have P0 := keep_b hbx p0; have P1 := keep_b hbx p1; have P2 := keep_b hbx p2; have Q0 := keep_bf hbx p0 q0; have Q1 := keep_bf hbx p1 q1; have Q2 := keep_bf hbx p2 q2))
  go_wp2
  (try simp only [Exit.inBlock, Exit.then])
  refine bodyPost_ret (v := .tuple #[vx, rpV ⟨0, true, u⟩]) ?hr rfl ⟨⟨_, rfl, ?_⟩, ?_⟩
  case hr =>
    simp only [results, Try.results39]
    go_simp
    try rfl
  · have hB := (hbx.block (w.heap.size + 1) (by have := hbx.size; simp; omega)).trans z5
    have hne := own_ne hownx hB (by decide)
    refine owns_mono ?_ (show w.heap.size ≤ wc.heap.size from hbwc.size)
    repeat (first | exact hownx | refine World.ownsRow.drew ?_ | refine owns_far ?_ hne _)
  · have hbwx : Below w.heap.size w wx := hbwc.trans (((Below.refl _ _).drew.trans hbx).mono hbwc.size)
    (repeat' (first | (with_reducible exact Below.refl _ _) | (with_reducible assumption) | (with_reducible refine Below.alloc ?_ ?_ _) | (with_reducible refine Below.drew ?_) | (with_reducible refine below_drewN ?_ _) | (with_reducible refine Below.setCell ?_ ?_ _) | (with_reducible refine Below.trans ?_ (by assumption)) | go_size))

end Go.Proofs.Ytmnjmjbmnhppfaa

namespace Go.Proofs.Ytmnjmjbmnhppfaa
open Go.RowKit

set_option maxRecDepth 100000 in
set_option maxHeartbeats 16000000 in
theorem rdo_4n (a : Option Addr) (cap : Nat) (l : List Pr) (key old val : Tx) (w : World) (hs : SlP w a cap l) (hl : l.length ≤ 1000) (hm : mayS l = true) (ho : mayO ⟨4, key, old, val⟩ = true) (hlk : look l key = none) :
    Calls Try.prog 39 #[.slice a l.length cap, .agg #[.int .u8 4, .string key, .string old, .string val]] w fun e w' => StRes w.heap.size (l) ⟨0, false, ⟨#[]⟩⟩ e w' ∧ Below w.heap.size w w' := by
  have hsm : ∀ p ∈ l, p.1.size ≤ 100000 := fun p hp => by
    have := ((may_spec hm).2.2 p hp).1
    unfold keyOk at this
    simp at this
    omega
  have hks : key.size ≤ 100000 := by
    have := (mayO_spec ho).1
    unfold keyOk at this
    simp at this
    omega
  have hso := may_rises hm
  have hb0 : Below w.heap.size w ((w.alloc (Obj.cells #[.int .u8 4, .string key, .string old, .string val] 61)).alloc (Obj.cells #[.int .i64 0, .bool false, .string ⟨#[]⟩] 43)) := ((Below.refl _ _).alloc (Nat.le_refl _) _).alloc (by simp) _
  have hr0 := hs.row.below0 hb0
  have b3 : ((w.alloc (Obj.cells #[.int .u8 4, .string key, .string old, .string val] 61)).alloc (Obj.cells #[.int .i64 0, .bool false, .string ⟨#[]⟩] 43)).heap[w.heap.size]? = _ := ((heap_alloc_old _ _ (by simp)).trans (heap_alloc_new w (Obj.cells #[.int .u8 4, .string key, .string old, .string val] 61)))
  have b5 := heap_alloc2_new w (Obj.cells #[.int .u8 4, .string key, .string old, .string val] 61) (Obj.cells #[.int .i64 0, .bool false, .string ⟨#[]⟩] 43)
  have HM := Lib.hid hm
  have HOP := Lib.hid ho
  have HLK := Lib.hid hlk
  clear hm ho hlk
  go_enter Try.func39, Try.ntmps39
  refine wp_seq_k (fun K hK => ?_)
  have HK := Lib.hid hK
  clear hK
  go_wp2
  refine HK.out _ _ ?_
  clear HK
  refine wp_seq_k (fun K hK => ?_)
  have HK := Lib.hid hK
  clear hK
  go_wp2_with (go_at_call 41; refine (rmay_any _ _ _ _ hr0 hl hsm).mono ?_; rintro e w1 ⟨rfl, m, rfl⟩; rw [HM.out])
  refine HK.out _ _ ?_
  clear HK
  have hb1 := below_drewN hb0 m
  have b3 := blk_drewN m b3
  have b5 := blk_drewN m b5
  have hs1 : w.heap.size + 2 ≤ (World.drewN ((w.alloc (Obj.cells #[.int .u8 4, .string key, .string old, .string val] 61)).alloc (Obj.cells #[.int .i64 0, .bool false, .string ⟨#[]⟩] 43)) m).heap.size := by simp
  generalize World.drewN ((w.alloc (Obj.cells #[.int .u8 4, .string key, .string old, .string val] 61)).alloc (Obj.cells #[.int .i64 0, .bool false, .string ⟨#[]⟩] 43)) m = w1 at *
  clear hr0
  obtain ⟨d0, d1, d2, d3⟩ := four b3
  refine wp_seq_k (fun K hK => ?_)
  have HK := Lib.hid hK
  clear hK
  go_wp2_with (go_at_call 42; refine (rmayO_any _ _ _ _ _ _ HOP.out).mono ?_; rintro e w2 ⟨rfl, hb2⟩)
  refine HK.out _ _ ?_
  clear HK
  refine wp_seq_k (fun K hK => ?_)
  have HK := Lib.hid hK
  clear hK
  go_wp2
  refine HK.out _ _ ?_
  clear HK
  have b3 := ((blw1 w2 (Obj.cells #[.int .i64 0, .bool false, .string ⟨#[]⟩] 43)).block w.heap.size (by have := hb2.size; omega)).trans ((hb2.block w.heap.size (by omega)).trans b3)
  have b5 := ((blw1 w2 (Obj.cells #[.int .i64 0, .bool false, .string ⟨#[]⟩] 43)).block (w.heap.size + 1) (by have := hb2.size; omega)).trans ((hb2.block (w.heap.size + 1) (by omega)).trans b5)
  have b6 : wasBox (w2.alloc (Obj.cells #[.int .i64 0, .bool false, .string ⟨#[]⟩] 43)) w2.heap.size none := heap_alloc_new w2 _
  have hb3 := (hb1.trans (hb2.mono (by omega))).trans ((blw1 w2 (Obj.cells #[.int .i64 0, .bool false, .string ⟨#[]⟩] 43)).mono (by have := hb2.size; omega))
  have hs2 : w.heap.size + 2 ≤ w2.heap.size := by have := hb2.size; omega
  have hs3 : w2.heap.size < (w2.alloc (Obj.cells #[.int .i64 0, .bool false, .string ⟨#[]⟩] 43)).heap.size := by simp
  clear d0 d1 d2 d3 hb1 hb2
  generalize w2.alloc (Obj.cells #[.int .i64 0, .bool false, .string ⟨#[]⟩] 43) = w3 at *
  have hsl3 := hs.below hb3
  refine wp_seq_k (fun K hK => ?_)
  go_cut [] (fun wx => Below w2.heap.size w3 wx ∧ wasBox wx w2.heap.size (look l key))
  case first =>
    go_wp2_with fail
    go_loopw [7] (fun i wr => ∃ (q : Nat) (x : Option Tx), q ≤ l.length ∧ i = .int .i64 q ∧ SeenK l key q x ∧ wasBox wr w2.heap.size x ∧ Below w2.heap.size w3 wr) (fun i _ => l.length - (intOf i).toNat)
    case atStart => exact ⟨0, none, by omega, rfl, seen_zero l key, b6, Below.refl _ _⟩
    case round =>
      obtain ⟨q, x, hq, rfl, hsx, hbx, hbr⟩ := hrel
      by_cases hlt : q < l.length
      · obtain ⟨bb, off, rfl, hblt, hcs⟩ := hs.row.pair (List.getElem?_eq_getElem hlt)
        obtain ⟨cw0, cw1⟩ := hcs _ _ (List.getElem?_eq_getElem hlt)
        have hbwr : Below w.heap.size w wr := hb3.trans (hbr.mono (by omega))
        have c0 := (hbwr.cell (p := ⟨bb, off + q * 2, none⟩) hblt).trans cw0
        have c1 := (hbwr.cell (p := ⟨bb, off + q * 2 + 1, none⟩) hblt).trans cw1
        obtain ⟨d0, d1, d2, d3⟩ := four ((hbr.block w.heap.size (by omega)).trans b3)
        have hgt := List.getElem?_eq_getElem hlt
        have hszr := hbr.size
        have hbx0 := hbx
        unfold wasBox rpC at hbx0
        obtain ⟨e0, e1, e2, f0, f1, f2⟩ := trio hbx0
        clear hbx0
        clear hcs cw0 cw1
        generalize l[q] = y at *
        obtain ⟨y1, y2⟩ := y
        simp only at c0 c1
        by_cases hy : y1 = key
        · have hyb : (y1.toList == key.toList) = true := by rw [tx_eq]; exact decide_eq_true hy
          have HS := Lib.hid (seen_hit hso hgt hy)
          clear hy hgt
          go_wp2_with fail
          go_quiet (fail)
          go_wp2
          go_roundw
          case rel => exact ⟨q + 1, some y2, by omega, by go_num, HS.out, wasBox_set (w := World.drewN wr _) hbx y2, (((below_drewN hbr _).setCell (Nat.le_refl _) _).setCell (Nat.le_refl _) _).setCell (Nat.le_refl _) _⟩
          case measure => simp [intOf]; omega
        · have hyb : (y1.toList == key.toList) = false := by rw [tx_eq]; exact decide_eq_false hy
          have HS := Lib.hid (seen_miss hgt hy hsx)
          clear hy hgt
          go_wp2_with fail
          go_quiet (fail)
          go_wp2
          go_roundw
          case rel => exact ⟨q + 1, x, by omega, by go_num, HS.out, hbx, below_drewN hbr _⟩
          case measure => simp [intOf]; omega
      · go_wp2
        go_meet
        exact ⟨hbr, by rw [← seen_end (by rw [show l.length = q by omega]; exact hsx)]; exact hbx⟩
  obtain ⟨hbc, hbox⟩ := hcut
  refine hK _ _ ?_; clear hK
  have hbwc := hb3.trans (hbc.mono (by omega))
  have hszc := hbc.size
  have z3 := (hbc.block w.heap.size (by omega)).trans b3
  have z5 := (hbc.block (w.heap.size + 1) (by omega)).trans b5
  have hn25 : w2.heap.size ≠ w.heap.size + 1 := by omega
  have hn25' : ¬ w.heap.size + 1 = w2.heap.size := by omega
  have hslc := hs.below hbwc
  clear hb3 hbc hsl3 b3 b5
  obtain ⟨d0, d1, d2, d3⟩ := four z3
  obtain ⟨p0, p1, p2, q0, q1, q2⟩ := trio z5
  rw [HLK.out] at hbox
  obtain ⟨e0, e1, e2, f0, f1, f2⟩ := trio hbox
  simp only [Option.isSome, Option.getD] at e0 e1 e2
  go_wp2_with fail
  have hbox2 := heap_setCell_same _ w2.heap.size 1 _ _ (.bool false) hbox
  have z3 := (heap_setCell_other wc ⟨w2.heap.size, 1, none⟩ w.heap.size (.bool false) (by simp; omega)).trans z3
  have z5 := (heap_setCell_other wc ⟨w2.heap.size, 1, none⟩ (w.heap.size + 1) (.bool false) (by simp; omega)).trans z5
  have hbwc := hbwc.setCell (p := ⟨w2.heap.size, 1, none⟩) (by simp; omega) (.bool false)
  have hszc : w2.heap.size < (wc.setCell ⟨w2.heap.size, 1, none⟩ (.bool false)).heap.size := by simp; omega
  clear hslc hbox d0 d1 d2 d3 e0 e1 e2 f0 f1 f2 p0 p1 p2 q0 q1 q2
  generalize wc.setCell ⟨w2.heap.size, 1, none⟩ (.bool false) = wd at *
  have hslc := hs.below hbwc
  obtain ⟨d0, d1, d2, d3⟩ := four z3
  obtain ⟨p0, p1, p2, q0, q1, q2⟩ := trio z5
  obtain ⟨e0, e1, e2, _⟩ := trio hbox2
  simp only [Option.getD] at e0 e1 e2
  go_region_held3 (fun w' => w'.cell? ⟨w.heap.size, 0, none⟩ = some (.int .u8 4) ∧ w'.cell? ⟨w.heap.size, 1, none⟩ = some (.string key) ∧ w'.cell? ⟨w.heap.size, 2, none⟩ = some (.string old) ∧ w'.cell? ⟨w.heap.size, 3, none⟩ = some (.string val) ∧ w'.cell? ⟨w2.heap.size, 0, none⟩ = some (.int .i64 0) ∧ w'.cell? ⟨w2.heap.size, 1, none⟩ = some (.bool false) ∧ w'.cell? ⟨w2.heap.size, 2, none⟩ = some (.string ⟨#[]⟩))
    (first
      | exact ⟨d0, d1, d2, d3, e0, e1, e2⟩
      | (go_split_ands; refine ⟨?_, ?_, ?_, ?_, ?_, ?_, ?_⟩ <;> exact keep_b hbx (by assumption))
      | go_keep)
    ((go_at_call 38; refine (rcopy_any _ _ _ _ (hslc.below ((Below.refl _ _).drew)) hl).mono ?_; rintro e wx ⟨⟨vx, rfl, hownx⟩, hbx⟩; have P0 := keep_b hbx p0; have P1 := keep_b hbx p1; have P2 := keep_b hbx p2; have Q0 := keep_bf hbx p0 q0; have Q1 := keep_bf hbx p1 q1; have Q2 := keep_bf hbx p2 q2))
  go_wp2
  (try simp only [Exit.inBlock, Exit.then])
  refine bodyPost_ret (v := .tuple #[vx, rpV ⟨0, false, ⟨#[]⟩⟩]) ?hr rfl ⟨⟨_, rfl, ?_⟩, ?_⟩
  case hr =>
    simp only [results, Try.results39]
    go_simp
    try rfl
  · have hB := (hbx.block (w.heap.size + 1) (by have := hbx.size; simp; omega)).trans z5
    have hne := own_ne hownx hB (by decide)
    refine owns_mono ?_ (show w.heap.size ≤ wd.heap.size from hbwc.size)
    repeat (first | exact hownx | refine World.ownsRow.drew ?_ | refine owns_far ?_ hne _)
  · have hbwx : Below w.heap.size w wx := hbwc.trans (((Below.refl _ _).drew.trans hbx).mono hbwc.size)
    (repeat' (first | (with_reducible exact Below.refl _ _) | (with_reducible assumption) | (with_reducible refine Below.alloc ?_ ?_ _) | (with_reducible refine Below.drew ?_) | (with_reducible refine below_drewN ?_ _) | (with_reducible refine Below.setCell ?_ ?_ _) | (with_reducible refine Below.trans ?_ (by assumption)) | go_size))

set_option maxRecDepth 100000 in
set_option maxHeartbeats 16000000 in
theorem rdo_4e (a : Option Addr) (cap : Nat) (l : List Pr) (key old val : Tx) (w : World) (hs : SlP w a cap l) (hl : l.length ≤ 1000) (hm : mayS l = true) (ho : mayO ⟨4, key, old, val⟩ = true) (hlk : look l key = some old) :
    Calls Try.prog 39 #[.slice a l.length cap, .agg #[.int .u8 4, .string key, .string old, .string val]] w fun e w' => StRes w.heap.size (putL l key val) ⟨0, true, old⟩ e w' ∧ Below w.heap.size w w' := by
  have hsm : ∀ p ∈ l, p.1.size ≤ 100000 := fun p hp => by
    have := ((may_spec hm).2.2 p hp).1
    unfold keyOk at this
    simp at this
    omega
  have hks : key.size ≤ 100000 := by
    have := (mayO_spec ho).1
    unfold keyOk at this
    simp at this
    omega
  have hso := may_rises hm
  have hb0 : Below w.heap.size w ((w.alloc (Obj.cells #[.int .u8 4, .string key, .string old, .string val] 61)).alloc (Obj.cells #[.int .i64 0, .bool false, .string ⟨#[]⟩] 43)) := ((Below.refl _ _).alloc (Nat.le_refl _) _).alloc (by simp) _
  have hr0 := hs.row.below0 hb0
  have b3 : ((w.alloc (Obj.cells #[.int .u8 4, .string key, .string old, .string val] 61)).alloc (Obj.cells #[.int .i64 0, .bool false, .string ⟨#[]⟩] 43)).heap[w.heap.size]? = _ := ((heap_alloc_old _ _ (by simp)).trans (heap_alloc_new w (Obj.cells #[.int .u8 4, .string key, .string old, .string val] 61)))
  have b5 := heap_alloc2_new w (Obj.cells #[.int .u8 4, .string key, .string old, .string val] 61) (Obj.cells #[.int .i64 0, .bool false, .string ⟨#[]⟩] 43)
  have HM := Lib.hid hm
  have HOP := Lib.hid ho
  have HLK := Lib.hid hlk
  clear hm ho hlk
  go_enter Try.func39, Try.ntmps39
  refine wp_seq_k (fun K hK => ?_)
  have HK := Lib.hid hK
  clear hK
  go_wp2
  refine HK.out _ _ ?_
  clear HK
  refine wp_seq_k (fun K hK => ?_)
  have HK := Lib.hid hK
  clear hK
  go_wp2_with (go_at_call 41; refine (rmay_any _ _ _ _ hr0 hl hsm).mono ?_; rintro e w1 ⟨rfl, m, rfl⟩; rw [HM.out])
  refine HK.out _ _ ?_
  clear HK
  have hb1 := below_drewN hb0 m
  have b3 := blk_drewN m b3
  have b5 := blk_drewN m b5
  have hs1 : w.heap.size + 2 ≤ (World.drewN ((w.alloc (Obj.cells #[.int .u8 4, .string key, .string old, .string val] 61)).alloc (Obj.cells #[.int .i64 0, .bool false, .string ⟨#[]⟩] 43)) m).heap.size := by simp
  generalize World.drewN ((w.alloc (Obj.cells #[.int .u8 4, .string key, .string old, .string val] 61)).alloc (Obj.cells #[.int .i64 0, .bool false, .string ⟨#[]⟩] 43)) m = w1 at *
  clear hr0
  obtain ⟨d0, d1, d2, d3⟩ := four b3
  refine wp_seq_k (fun K hK => ?_)
  have HK := Lib.hid hK
  clear hK
  go_wp2_with (go_at_call 42; refine (rmayO_any _ _ _ _ _ _ HOP.out).mono ?_; rintro e w2 ⟨rfl, hb2⟩)
  refine HK.out _ _ ?_
  clear HK
  refine wp_seq_k (fun K hK => ?_)
  have HK := Lib.hid hK
  clear hK
  go_wp2
  refine HK.out _ _ ?_
  clear HK
  have b3 := ((blw1 w2 (Obj.cells #[.int .i64 0, .bool false, .string ⟨#[]⟩] 43)).block w.heap.size (by have := hb2.size; omega)).trans ((hb2.block w.heap.size (by omega)).trans b3)
  have b5 := ((blw1 w2 (Obj.cells #[.int .i64 0, .bool false, .string ⟨#[]⟩] 43)).block (w.heap.size + 1) (by have := hb2.size; omega)).trans ((hb2.block (w.heap.size + 1) (by omega)).trans b5)
  have b6 : wasBox (w2.alloc (Obj.cells #[.int .i64 0, .bool false, .string ⟨#[]⟩] 43)) w2.heap.size none := heap_alloc_new w2 _
  have hb3 := (hb1.trans (hb2.mono (by omega))).trans ((blw1 w2 (Obj.cells #[.int .i64 0, .bool false, .string ⟨#[]⟩] 43)).mono (by have := hb2.size; omega))
  have hs2 : w.heap.size + 2 ≤ w2.heap.size := by have := hb2.size; omega
  have hs3 : w2.heap.size < (w2.alloc (Obj.cells #[.int .i64 0, .bool false, .string ⟨#[]⟩] 43)).heap.size := by simp
  clear d0 d1 d2 d3 hb1 hb2
  generalize w2.alloc (Obj.cells #[.int .i64 0, .bool false, .string ⟨#[]⟩] 43) = w3 at *
  have hsl3 := hs.below hb3
  refine wp_seq_k (fun K hK => ?_)
  go_cut [] (fun wx => Below w2.heap.size w3 wx ∧ wasBox wx w2.heap.size (look l key))
  case first =>
    go_wp2_with fail
    go_loopw [7] (fun i wr => ∃ (q : Nat) (x : Option Tx), q ≤ l.length ∧ i = .int .i64 q ∧ SeenK l key q x ∧ wasBox wr w2.heap.size x ∧ Below w2.heap.size w3 wr) (fun i _ => l.length - (intOf i).toNat)
    case atStart => exact ⟨0, none, by omega, rfl, seen_zero l key, b6, Below.refl _ _⟩
    case round =>
      obtain ⟨q, x, hq, rfl, hsx, hbx, hbr⟩ := hrel
      by_cases hlt : q < l.length
      · obtain ⟨bb, off, rfl, hblt, hcs⟩ := hs.row.pair (List.getElem?_eq_getElem hlt)
        obtain ⟨cw0, cw1⟩ := hcs _ _ (List.getElem?_eq_getElem hlt)
        have hbwr : Below w.heap.size w wr := hb3.trans (hbr.mono (by omega))
        have c0 := (hbwr.cell (p := ⟨bb, off + q * 2, none⟩) hblt).trans cw0
        have c1 := (hbwr.cell (p := ⟨bb, off + q * 2 + 1, none⟩) hblt).trans cw1
        obtain ⟨d0, d1, d2, d3⟩ := four ((hbr.block w.heap.size (by omega)).trans b3)
        have hgt := List.getElem?_eq_getElem hlt
        have hszr := hbr.size
        have hbx0 := hbx
        unfold wasBox rpC at hbx0
        obtain ⟨e0, e1, e2, f0, f1, f2⟩ := trio hbx0
        clear hbx0
        clear hcs cw0 cw1
        generalize l[q] = y at *
        obtain ⟨y1, y2⟩ := y
        simp only at c0 c1
        by_cases hy : y1 = key
        · have hyb : (y1.toList == key.toList) = true := by rw [tx_eq]; exact decide_eq_true hy
          have HS := Lib.hid (seen_hit hso hgt hy)
          clear hy hgt
          go_wp2_with fail
          go_quiet (fail)
          go_wp2
          go_roundw
          case rel => exact ⟨q + 1, some y2, by omega, by go_num, HS.out, wasBox_set (w := World.drewN wr _) hbx y2, (((below_drewN hbr _).setCell (Nat.le_refl _) _).setCell (Nat.le_refl _) _).setCell (Nat.le_refl _) _⟩
          case measure => simp [intOf]; omega
        · have hyb : (y1.toList == key.toList) = false := by rw [tx_eq]; exact decide_eq_false hy
          have HS := Lib.hid (seen_miss hgt hy hsx)
          clear hy hgt
          go_wp2_with fail
          go_quiet (fail)
          go_wp2
          go_roundw
          case rel => exact ⟨q + 1, x, by omega, by go_num, HS.out, hbx, below_drewN hbr _⟩
          case measure => simp [intOf]; omega
      · go_wp2
        go_meet
        exact ⟨hbr, by rw [← seen_end (by rw [show l.length = q by omega]; exact hsx)]; exact hbx⟩
  obtain ⟨hbc, hbox⟩ := hcut
  refine hK _ _ ?_; clear hK
  have hbwc := hb3.trans (hbc.mono (by omega))
  have hszc := hbc.size
  have z3 := (hbc.block w.heap.size (by omega)).trans b3
  have z5 := (hbc.block (w.heap.size + 1) (by omega)).trans b5
  have hn25 : w2.heap.size ≠ w.heap.size + 1 := by omega
  have hn25' : ¬ w.heap.size + 1 = w2.heap.size := by omega
  have hslc := hs.below hbwc
  clear hb3 hbc hsl3 b3 b5
  obtain ⟨d0, d1, d2, d3⟩ := four z3
  obtain ⟨p0, p1, p2, q0, q1, q2⟩ := trio z5
  rw [HLK.out] at hbox
  obtain ⟨e0, e1, e2, f0, f1, f2⟩ := trio hbox
  simp only [Option.isSome, Option.getD] at e0 e1 e2
  have hub : (old.toList == old.toList) = true := tx_eq old old ▸ decide_eq_true rfl
  go_wp2_with fail
  go_region_held3 (fun w' => w'.cell? ⟨w.heap.size, 0, none⟩ = some (.int .u8 4) ∧ w'.cell? ⟨w.heap.size, 1, none⟩ = some (.string key) ∧ w'.cell? ⟨w.heap.size, 2, none⟩ = some (.string old) ∧ w'.cell? ⟨w.heap.size, 3, none⟩ = some (.string val) ∧ w'.cell? ⟨w2.heap.size, 0, none⟩ = some (.int .i64 0) ∧ w'.cell? ⟨w2.heap.size, 1, none⟩ = some (.bool true) ∧ w'.cell? ⟨w2.heap.size, 2, none⟩ = some (.string old))
    (first
      | exact ⟨d0, d1, d2, d3, e0, e1, e2⟩
      | (go_split_ands; refine ⟨?_, ?_, ?_, ?_, ?_, ?_, ?_⟩ <;> exact keep_b hbx (by assumption))
      | go_keep)
    ((go_at_call 79; refine (with_any _ _ _ _ _ _ (hslc.below ((Below.refl _ _).drew)).row hl hso hsm hks).mono ?_; rintro e wx ⟨⟨vx, rfl, hownx⟩, hbx⟩; have P0 := keep_b hbx p0; have P1 := keep_b hbx p1; have P2 := keep_b hbx p2; have Q0 := keep_bf hbx p0 q0; have Q1 := keep_bf hbx p1 q1; have Q2 := keep_bf hbx p2 q2))
  go_wp2
  (try simp only [Exit.inBlock, Exit.then])
  refine bodyPost_ret (v := .tuple #[vx, rpV ⟨0, true, old⟩]) ?hr rfl ⟨⟨_, rfl, ?_⟩, ?_⟩
  case hr =>
    simp only [results, Try.results39]
    go_simp
    try rfl
  · have hB := (hbx.block (w.heap.size + 1) (by have := hbx.size; simp; omega)).trans z5
    have hne := own_ne hownx hB (by decide)
    refine owns_mono ?_ (show w.heap.size ≤ wc.heap.size from hbwc.size)
    repeat (first | exact hownx | refine World.ownsRow.drew ?_ | refine owns_far ?_ hne _)
  · have hbwx : Below w.heap.size w wx := hbwc.trans (((Below.refl _ _).drew.trans hbx).mono hbwc.size)
    (repeat' (first | (with_reducible exact Below.refl _ _) | (with_reducible assumption) | (with_reducible refine Below.alloc ?_ ?_ _) | (with_reducible refine Below.drew ?_) | (with_reducible refine below_drewN ?_ _) | (with_reducible refine Below.setCell ?_ ?_ _) | (with_reducible refine Below.trans ?_ (by assumption)) | go_size))

set_option maxRecDepth 100000 in
set_option maxHeartbeats 16000000 in
theorem rdo_4o (a : Option Addr) (cap : Nat) (l : List Pr) (key old val : Tx) (w : World) (hs : SlP w a cap l) (hl : l.length ≤ 1000) (hm : mayS l = true) (ho : mayO ⟨4, key, old, val⟩ = true) (u : Tx) (hlk : look l key = some u) (hu : u ≠ old) :
    Calls Try.prog 39 #[.slice a l.length cap, .agg #[.int .u8 4, .string key, .string old, .string val]] w fun e w' => StRes w.heap.size (l) ⟨0, false, u⟩ e w' ∧ Below w.heap.size w w' := by
  have hsm : ∀ p ∈ l, p.1.size ≤ 100000 := fun p hp => by
    have := ((may_spec hm).2.2 p hp).1
    unfold keyOk at this
    simp at this
    omega
  have hks : key.size ≤ 100000 := by
    have := (mayO_spec ho).1
    unfold keyOk at this
    simp at this
    omega
  have hso := may_rises hm
  have hb0 : Below w.heap.size w ((w.alloc (Obj.cells #[.int .u8 4, .string key, .string old, .string val] 61)).alloc (Obj.cells #[.int .i64 0, .bool false, .string ⟨#[]⟩] 43)) := ((Below.refl _ _).alloc (Nat.le_refl _) _).alloc (by simp) _
  have hr0 := hs.row.below0 hb0
  have b3 : ((w.alloc (Obj.cells #[.int .u8 4, .string key, .string old, .string val] 61)).alloc (Obj.cells #[.int .i64 0, .bool false, .string ⟨#[]⟩] 43)).heap[w.heap.size]? = _ := ((heap_alloc_old _ _ (by simp)).trans (heap_alloc_new w (Obj.cells #[.int .u8 4, .string key, .string old, .string val] 61)))
  have b5 := heap_alloc2_new w (Obj.cells #[.int .u8 4, .string key, .string old, .string val] 61) (Obj.cells #[.int .i64 0, .bool false, .string ⟨#[]⟩] 43)
  have HM := Lib.hid hm
  have HOP := Lib.hid ho
  have HLK := Lib.hid hlk
  clear hm ho hlk
  go_enter Try.func39, Try.ntmps39
  refine wp_seq_k (fun K hK => ?_)
  have HK := Lib.hid hK
  clear hK
  go_wp2
  refine HK.out _ _ ?_
  clear HK
  refine wp_seq_k (fun K hK => ?_)
  have HK := Lib.hid hK
  clear hK
  go_wp2_with (go_at_call 41; refine (rmay_any _ _ _ _ hr0 hl hsm).mono ?_; rintro e w1 ⟨rfl, m, rfl⟩; rw [HM.out])
  refine HK.out _ _ ?_
  clear HK
  have hb1 := below_drewN hb0 m
  have b3 := blk_drewN m b3
  have b5 := blk_drewN m b5
  have hs1 : w.heap.size + 2 ≤ (World.drewN ((w.alloc (Obj.cells #[.int .u8 4, .string key, .string old, .string val] 61)).alloc (Obj.cells #[.int .i64 0, .bool false, .string ⟨#[]⟩] 43)) m).heap.size := by simp
  generalize World.drewN ((w.alloc (Obj.cells #[.int .u8 4, .string key, .string old, .string val] 61)).alloc (Obj.cells #[.int .i64 0, .bool false, .string ⟨#[]⟩] 43)) m = w1 at *
  clear hr0
  obtain ⟨d0, d1, d2, d3⟩ := four b3
  refine wp_seq_k (fun K hK => ?_)
  have HK := Lib.hid hK
  clear hK
  go_wp2_with (go_at_call 42; refine (rmayO_any _ _ _ _ _ _ HOP.out).mono ?_; rintro e w2 ⟨rfl, hb2⟩)
  refine HK.out _ _ ?_
  clear HK
  refine wp_seq_k (fun K hK => ?_)
  have HK := Lib.hid hK
  clear hK
  go_wp2
  refine HK.out _ _ ?_
  clear HK
  have b3 := ((blw1 w2 (Obj.cells #[.int .i64 0, .bool false, .string ⟨#[]⟩] 43)).block w.heap.size (by have := hb2.size; omega)).trans ((hb2.block w.heap.size (by omega)).trans b3)
  have b5 := ((blw1 w2 (Obj.cells #[.int .i64 0, .bool false, .string ⟨#[]⟩] 43)).block (w.heap.size + 1) (by have := hb2.size; omega)).trans ((hb2.block (w.heap.size + 1) (by omega)).trans b5)
  have b6 : wasBox (w2.alloc (Obj.cells #[.int .i64 0, .bool false, .string ⟨#[]⟩] 43)) w2.heap.size none := heap_alloc_new w2 _
  have hb3 := (hb1.trans (hb2.mono (by omega))).trans ((blw1 w2 (Obj.cells #[.int .i64 0, .bool false, .string ⟨#[]⟩] 43)).mono (by have := hb2.size; omega))
  have hs2 : w.heap.size + 2 ≤ w2.heap.size := by have := hb2.size; omega
  have hs3 : w2.heap.size < (w2.alloc (Obj.cells #[.int .i64 0, .bool false, .string ⟨#[]⟩] 43)).heap.size := by simp
  clear d0 d1 d2 d3 hb1 hb2
  generalize w2.alloc (Obj.cells #[.int .i64 0, .bool false, .string ⟨#[]⟩] 43) = w3 at *
  have hsl3 := hs.below hb3
  refine wp_seq_k (fun K hK => ?_)
  go_cut [] (fun wx => Below w2.heap.size w3 wx ∧ wasBox wx w2.heap.size (look l key))
  case first =>
    go_wp2_with fail
    go_loopw [7] (fun i wr => ∃ (q : Nat) (x : Option Tx), q ≤ l.length ∧ i = .int .i64 q ∧ SeenK l key q x ∧ wasBox wr w2.heap.size x ∧ Below w2.heap.size w3 wr) (fun i _ => l.length - (intOf i).toNat)
    case atStart => exact ⟨0, none, by omega, rfl, seen_zero l key, b6, Below.refl _ _⟩
    case round =>
      obtain ⟨q, x, hq, rfl, hsx, hbx, hbr⟩ := hrel
      by_cases hlt : q < l.length
      · obtain ⟨bb, off, rfl, hblt, hcs⟩ := hs.row.pair (List.getElem?_eq_getElem hlt)
        obtain ⟨cw0, cw1⟩ := hcs _ _ (List.getElem?_eq_getElem hlt)
        have hbwr : Below w.heap.size w wr := hb3.trans (hbr.mono (by omega))
        have c0 := (hbwr.cell (p := ⟨bb, off + q * 2, none⟩) hblt).trans cw0
        have c1 := (hbwr.cell (p := ⟨bb, off + q * 2 + 1, none⟩) hblt).trans cw1
        obtain ⟨d0, d1, d2, d3⟩ := four ((hbr.block w.heap.size (by omega)).trans b3)
        have hgt := List.getElem?_eq_getElem hlt
        have hszr := hbr.size
        have hbx0 := hbx
        unfold wasBox rpC at hbx0
        obtain ⟨e0, e1, e2, f0, f1, f2⟩ := trio hbx0
        clear hbx0
        clear hcs cw0 cw1
        generalize l[q] = y at *
        obtain ⟨y1, y2⟩ := y
        simp only at c0 c1
        by_cases hy : y1 = key
        · have hyb : (y1.toList == key.toList) = true := by rw [tx_eq]; exact decide_eq_true hy
          have HS := Lib.hid (seen_hit hso hgt hy)
          clear hy hgt
          go_wp2_with fail
          go_quiet (fail)
          go_wp2
          go_roundw
          case rel => exact ⟨q + 1, some y2, by omega, by go_num, HS.out, wasBox_set (w := World.drewN wr _) hbx y2, (((below_drewN hbr _).setCell (Nat.le_refl _) _).setCell (Nat.le_refl _) _).setCell (Nat.le_refl _) _⟩
          case measure => simp [intOf]; omega
        · have hyb : (y1.toList == key.toList) = false := by rw [tx_eq]; exact decide_eq_false hy
          have HS := Lib.hid (seen_miss hgt hy hsx)
          clear hy hgt
          go_wp2_with fail
          go_quiet (fail)
          go_wp2
          go_roundw
          case rel => exact ⟨q + 1, x, by omega, by go_num, HS.out, hbx, below_drewN hbr _⟩
          case measure => simp [intOf]; omega
      · go_wp2
        go_meet
        exact ⟨hbr, by rw [← seen_end (by rw [show l.length = q by omega]; exact hsx)]; exact hbx⟩
  obtain ⟨hbc, hbox⟩ := hcut
  refine hK _ _ ?_; clear hK
  have hbwc := hb3.trans (hbc.mono (by omega))
  have hszc := hbc.size
  have z3 := (hbc.block w.heap.size (by omega)).trans b3
  have z5 := (hbc.block (w.heap.size + 1) (by omega)).trans b5
  have hn25 : w2.heap.size ≠ w.heap.size + 1 := by omega
  have hn25' : ¬ w.heap.size + 1 = w2.heap.size := by omega
  have hslc := hs.below hbwc
  clear hb3 hbc hsl3 b3 b5
  obtain ⟨d0, d1, d2, d3⟩ := four z3
  obtain ⟨p0, p1, p2, q0, q1, q2⟩ := trio z5
  rw [HLK.out] at hbox
  obtain ⟨e0, e1, e2, f0, f1, f2⟩ := trio hbox
  simp only [Option.isSome, Option.getD] at e0 e1 e2
  have hub : (u.toList == old.toList) = false := by rw [tx_eq]; exact decide_eq_false hu
  clear hu
  go_wp2_with fail
  have hbox2 := heap_setCell_same _ w2.heap.size 1 _ _ (.bool false) hbox
  have z3 := (heap_setCell_other wc ⟨w2.heap.size, 1, none⟩ w.heap.size (.bool false) (by simp; omega)).trans z3
  have z5 := (heap_setCell_other wc ⟨w2.heap.size, 1, none⟩ (w.heap.size + 1) (.bool false) (by simp; omega)).trans z5
  have hbwc := hbwc.setCell (p := ⟨w2.heap.size, 1, none⟩) (by simp; omega) (.bool false)
  have hszc : w2.heap.size < (wc.setCell ⟨w2.heap.size, 1, none⟩ (.bool false)).heap.size := by simp; omega
  clear hslc hbox d0 d1 d2 d3 e0 e1 e2 f0 f1 f2 p0 p1 p2 q0 q1 q2
  generalize wc.setCell ⟨w2.heap.size, 1, none⟩ (.bool false) = wd at *
  have hslc := hs.below hbwc
  obtain ⟨d0, d1, d2, d3⟩ := four z3
  obtain ⟨p0, p1, p2, q0, q1, q2⟩ := trio z5
  obtain ⟨e0, e1, e2, _⟩ := trio hbox2
  simp only [Option.getD] at e0 e1 e2
  go_region_held3 (fun w' => w'.cell? ⟨w.heap.size, 0, none⟩ = some (.int .u8 4) ∧ w'.cell? ⟨w.heap.size, 1, none⟩ = some (.string key) ∧ w'.cell? ⟨w.heap.size, 2, none⟩ = some (.string old) ∧ w'.cell? ⟨w.heap.size, 3, none⟩ = some (.string val) ∧ w'.cell? ⟨w2.heap.size, 0, none⟩ = some (.int .i64 0) ∧ w'.cell? ⟨w2.heap.size, 1, none⟩ = some (.bool false) ∧ w'.cell? ⟨w2.heap.size, 2, none⟩ = some (.string u))
    (first
      | exact ⟨d0, d1, d2, d3, e0, e1, e2⟩
      | (go_split_ands; refine ⟨?_, ?_, ?_, ?_, ?_, ?_, ?_⟩ <;> exact keep_b hbx (by assumption))
      | go_keep)
    ((go_at_call 38; refine (rcopy_any _ _ _ _ (hslc.below ((Below.refl _ _).drew)) hl).mono ?_; rintro e wx ⟨⟨vx, rfl, hownx⟩, hbx⟩; have P0 := keep_b hbx p0; have P1 := keep_b hbx p1; have P2 := keep_b hbx p2; have Q0 := keep_bf hbx p0 q0; have Q1 := keep_bf hbx p1 q1; have Q2 := keep_bf hbx p2 q2))
  go_wp2
  (try simp only [Exit.inBlock, Exit.then])
  refine bodyPost_ret (v := .tuple #[vx, rpV ⟨0, false, u⟩]) ?hr rfl ⟨⟨_, rfl, ?_⟩, ?_⟩
  case hr =>
    simp only [results, Try.results39]
    go_simp
    try rfl
  · have hB := (hbx.block (w.heap.size + 1) (by have := hbx.size; simp; omega)).trans z5
    have hne := own_ne hownx hB (by decide)
    refine owns_mono ?_ (show w.heap.size ≤ wd.heap.size from hbwc.size)
    repeat (first | exact hownx | refine World.ownsRow.drew ?_ | refine owns_far ?_ hne _)
  · have hbwx : Below w.heap.size w wx := hbwc.trans (((Below.refl _ _).drew.trans hbx).mono hbwc.size)
    (repeat' (first | (with_reducible exact Below.refl _ _) | (with_reducible assumption) | (with_reducible refine Below.alloc ?_ ?_ _) | (with_reducible refine Below.drew ?_) | (with_reducible refine below_drewN ?_ _) | (with_reducible refine Below.setCell ?_ ?_ _) | (with_reducible refine Below.trans ?_ (by assumption)) | go_size))

end Go.Proofs.Ytmnjmjbmnhppfaa

namespace Go.Proofs.Ytmnjmjbmnhppfaa
open Go.RowKit

theorem rdo_any (a : Option Addr) (cap : Nat) (l : List Pr) (o : Opn) (w : World) (hs : SlP w a cap l) (hl : l.length ≤ 1000) (hsm : ∀ p ∈ l, p.1.size ≤ 100000) (lr : List Pr × Rp) (hlr : doP l o = lr) :
    Calls Try.prog 39 #[.slice a l.length cap, opV o] w fun e w' => StRes w.heap.size lr.1 lr.2 e w' ∧ Below w.heap.size w w' := by
  obtain ⟨k, key, old, val⟩ := o
  cases hm : mayS l with
  | false =>
    have : doP l ⟨k, key, old, val⟩ = ([], ⟨2, false, ⟨#[]⟩⟩) := by unfold doP; rw [if_pos hm]
    rw [this] at hlr
    subst hlr
    exact rdo_nomay a cap l k key old val w hs hl hsm hm
  | true =>
    cases ho : mayO ⟨k, key, old, val⟩ with
    | false =>
      rw [doP_bad hm ho] at hlr
      subst hlr
      exact rdo_badop a cap l k key old val w hs hl hsm hm ho
    | true =>
      have hk := (mayO_spec ho).2.2.2
      rw [doP_ok hm ho] at hlr
      simp only at hlr hk
      rcases hk with rfl | rfl | rfl | rfl
      · simp only [if_true] at hlr
        cases hlk : look l key with
        | none =>
          have hw : wasR l key = ⟨0, false, ⟨#[]⟩⟩ := by simp [wasR, hlk]
          rw [hw] at hlr
          subst hlr
          exact rdo_1n a cap l key old val w hs hl hm ho hlk
        | some u =>
          have hw : wasR l key = ⟨0, true, u⟩ := by simp [wasR, hlk]
          rw [hw] at hlr
          subst hlr
          exact rdo_1s a cap l key old val w hs hl hm ho u hlk
      · simp only [show ¬ (2 : Int) = 1 by decide, if_true, if_false] at hlr
        cases hlk : look l key with
        | none =>
          have hw : wasR l key = ⟨0, false, ⟨#[]⟩⟩ := by simp [wasR, hlk]
          rw [hw] at hlr
          by_cases h8 : l.length = 8
          · rw [if_pos ⟨hlk, h8⟩] at hlr
            subst hlr
            exact rdo_2f a cap l key old val w hs hl hm ho hlk h8
          · rw [if_neg (fun h => h8 h.2)] at hlr
            subst hlr
            exact rdo_2n a cap l key old val w hs hl hm ho hlk h8
        | some u =>
          have hw : wasR l key = ⟨0, true, u⟩ := by simp [wasR, hlk]
          rw [hw, if_neg (by rw [hlk]; exact fun h => by cases h.1)] at hlr
          subst hlr
          exact rdo_2s a cap l key old val w hs hl hm ho u hlk
      · simp only [show ¬ (3 : Int) = 1 by decide, show ¬ (3 : Int) = 2 by decide, if_true, if_false] at hlr
        cases hlk : look l key with
        | none =>
          have hw : wasR l key = ⟨0, false, ⟨#[]⟩⟩ := by simp [wasR, hlk]
          rw [hw] at hlr
          subst hlr
          exact rdo_3n a cap l key old val w hs hl hm ho hlk
        | some u =>
          have hw : wasR l key = ⟨0, true, u⟩ := by simp [wasR, hlk]
          rw [hw] at hlr
          subst hlr
          exact rdo_3s a cap l key old val w hs hl hm ho u hlk
      · simp only [show ¬ (4 : Int) = 1 by decide, show ¬ (4 : Int) = 2 by decide, show ¬ (4 : Int) = 3 by decide, if_false] at hlr
        cases hlk : look l key with
        | none =>
          have hw : wasR l key = ⟨0, false, ⟨#[]⟩⟩ := by simp [wasR, hlk]
          rw [hw, if_neg (by rw [hlk]; exact fun h => by cases h)] at hlr
          subst hlr
          exact rdo_4n a cap l key old val w hs hl hm ho hlk
        | some u =>
          have hw : wasR l key = ⟨0, true, u⟩ := by simp [wasR, hlk]
          by_cases hu : u = old
          · subst hu
            rw [hw, if_pos hlk] at hlr
            subst hlr
            exact rdo_4e a cap l key u val w hs hl hm ho hlk
          · rw [hw, if_neg (by rw [hlk]; exact fun h => hu (Option.some.inj h))] at hlr
            subst hlr
            exact rdo_4o a cap l key old val w hs hl hm ho u hlk hu
end Go.Proofs.Ytmnjmjbmnhppfaa

