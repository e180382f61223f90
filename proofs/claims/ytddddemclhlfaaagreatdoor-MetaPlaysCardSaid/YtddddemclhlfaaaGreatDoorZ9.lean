/- Texts that the claim leans on, part 9: D36, D37a, D37, D37b, D38, D39a, G1, C6. -/
import Derived.Test.YtddddemclhlfaaaGreatDoorZ1
import Derived.Test.YtddddemclhlfaaaGreatDoorZ2
import Derived.Test.YtddddemclhlfaaaGreatDoorZ3
import Derived.Test.YtddddemclhlfaaaGreatDoorZ4
import Derived.Test.YtddddemclhlfaaaGreatDoorZ5
import Derived.Test.YtddddemclhlfaaaGreatDoorZ6
import Derived.Test.YtddddemclhlfaaaGreatDoorZ7
import Derived.Test.YtddddemclhlfaaaGreatDoorZ8
import Derived.Test.YtddddemclhlfaaaGreatDoorRows
import Derived.WalkKit
import Derived.WalkSpells
import Derived.WalkLawsBesides
import Derived.Handy
import Derived.Deep.QuietTactic
import Derived.BigQuiet
import Derived.Deep.DeepCutAuto
import Derived.Lib.Hide
import Derived.RegionTactic
import Derived.ChangeAlike
import Derived.Laws.ResultCell
import Derived.Outline
import Derived.Laws.IdiomStrings
import Derived.Laws.BytesArg
import Derived.Laws.BitsAllLaws
import Derived.Lib.SliceRun
import Derived.Laws.MakeOwn
import Derived.Great.BuildSlice
import Derived.Great.FillDense
import Derived.Laws.Rows
import Derived.Deep.Quiet
import Derived.Deep.RegionHeld3
import Derived.ProofKit
import Derived.OpenShut
import Derived.Laws.CopyOwn
import Derived.Laws.CopyRow
import Derived.Laws.NewBlocks
import Derived.Deep.RegionLaw
namespace Go.Proofs.YtddddemclhlfaaaGreatDoor
open Go.RowKit
theorem results_t1c1t1 {P : Program} {fn : Func} {p t q r : Nat} {tmps : Array Value} {w : World} {A : Addr} {v : Value} (hf : fn.results = #[.tmp q, .cell p t, .tmp r]) (hp : tmps.getD p undef = .pointer (some A)) (hl : (loadVar t A).run P w = .ok v w) : (results fn tmps).run P w = .ok (.tuple #[tmps.getD q undef, v, tmps.getD r undef]) w := by
  have hp' : tmps[p]?.getD undef = .pointer (some A) := by simpa using hp
  simp [results, hf, hp', asAddr, hl]
def FrRes (base : Nat) (r : Nat × Tg × List UInt8) (e : Ending) (w' : World) : Prop := ∃ a c, e = .returned (.tuple #[.int .u8 (r.1 : Int), tgV r.2.1, .slice a r.2.2.length c]) ∧ OwnB w' base a c r.2.2
theorem FrRes.none {base st : Nat} {e : Ending} {w' : World} (h : e = .returned (.tuple #[.int .u8 (st : Int), tgV zeroTg, .slice .none 0 0])) : FrRes base (st, zeroTg, []) e w' := ⟨.none, 0, h, OwnB.none _ _⟩
theorem openF_size {l : List UInt8} (h : roomN l.length = 0) : openF l = (2, zeroTg, []) := by unfold openF; rw [if_pos h]
set_option maxRecDepth 100000 in
set_option maxHeartbeats 1000000 in
theorem open_odd (a : Option Addr) (cap : Nat) (l : List UInt8) (w : World) (hl : l.length ≤ 1000) (hr : roomN l.length = 0) : Calls Tryz.prog 109 #[.slice a l.length cap] w fun e w' => FrRes w.heap.size (openF l) e w' ∧ Below w.heap.size w w' := by
  rw [openF_size hr]
  have hbB := blw w (Obj.cells #[.int .i64 0, .int .i64 0, .int .i64 0, .int .i64 0, .int .i64 0] 33)
  have B3 := heap_alloc_new w (Obj.cells #[.int .i64 0, .int .i64 0, .int .i64 0, .int .i64 0, .int .i64 0] 33)
  by_cases hm : l.length % 64 = 0
  · obtain ⟨k, hk⟩ : ∃ k, l.length = 64 * k := ⟨l.length / 64, by omega⟩
    rw [hk] at hr
    have hroom : ∀ w, Calls Tryz.prog 59 #[.int .i64 (k : Int)] w fun e w' => e = .returned (.int .i64 0) ∧ w = w' := fun w => by
      have := room_any k w
      rw [hr] at this
      exact this
    have e1 : (l.length : Int) / 64 = (k : Int) := by omega
    have e2 : ((l.length : Int).tmod 64) = 0 := by rw [Int.tmod_eq_emod_of_nonneg (by omega)]; omega
    have e3 : ((l.length : Int) % 64) = 0 := by omega
    have HK := Lib.hid hk
    clear hk hm hr
    go_enter Tryz.func109, Tryz.ntmps109
    go_wp2_with (first
      | (go_at_call 59; refine (hroom _).mono ?_; rintro e w2 ⟨rfl, rfl⟩)
      | ((with_reducible refine wpList_stB 33 _ _ ?_); refine ⟨_, _, _, ⟨_, _, _, Tryz.sizeOf33, rfl, B3, st5 _ rfl 0 0 0 0 0⟩, ?_⟩; intro w5 B5 g5))
    refine bodyPost_ret (results_t1c1t1 rfl rfl (run_loadVar_all Tryz.isAgg33 Tryz.sizeOf33 B5 rfl)) rfl ⟨FrRes.none rfl, bl_st hbB g5 hbB.size (Nat.le_refl _)⟩
  · have e2 : ((l.length : Int).tmod 64 != 0) = true := by rw [bne_iff_ne, Int.tmod_eq_emod_of_nonneg (by omega)]; omega
    have e3 : ((l.length : Int) % 64 != 0) = true := by rw [bne_iff_ne]; omega
    clear hm hr
    go_enter Tryz.func109, Tryz.ntmps109
    go_wp2_with (first
      | ((with_reducible refine wpList_stB 33 _ _ ?_); refine ⟨_, _, _, ⟨_, _, _, Tryz.sizeOf33, rfl, B3, st5 _ rfl 0 0 0 0 0⟩, ?_⟩; intro w5 B5 g5))
    refine bodyPost_ret (results_t1c1t1 rfl rfl (run_loadVar_all Tryz.isAgg33 Tryz.sizeOf33 B5 rfl)) rfl ⟨FrRes.none rfl, bl_st hbB g5 hbB.size (Nat.le_refl _)⟩
set_option maxRecDepth 100000 in
set_option maxHeartbeats 1000000 in
theorem open_n1 (a : Option Addr) (cap : Nat) (l : List UInt8) (w : World) (hs : SlB w a cap l) (hl : l.length = 64) (hz : noughtsB l = true) : Calls Tryz.prog 109 #[.slice a 64 cap] w fun e w' => FrRes w.heap.size (openF l) e w' ∧ Below w.heap.size w w' := by
  have ho : openF l = (0, zeroTg, []) := by unfold openF; rw [hl, if_neg (by decide), if_pos hz]
  rw [ho]
  have hroom : ∀ w, Calls Tryz.prog 59 #[.int .i64 1] w fun e w' => e = .returned (.int .i64 43) ∧ w = w' := fun w => room_any 1 w
  have hbB := blw w (Obj.cells #[.int .i64 0, .int .i64 0, .int .i64 0, .int .i64 0, .int .i64 0] 33)
  have B3 := heap_alloc_new w (Obj.cells #[.int .i64 0, .int .i64 0, .int .i64 0, .int .i64 0, .int .i64 0] 33)
  have hno := noughts_any a cap l (w.alloc (Obj.cells #[.int .i64 0, .int .i64 0, .int .i64 0, .int .i64 0, .int .i64 0] 33)) (hs.below hbB)
  rw [hl, hz] at hno
  clear ho hz hl
  go_enter Tryz.func109, Tryz.ntmps109
  go_wp2_with (first
    | (go_at_call 59; refine (hroom _).mono ?_; rintro e w2 ⟨rfl, rfl⟩)
    | (go_at_call 131; refine hno.mono ?_; rintro e w2 ⟨rfl, hb2⟩; have C3 := tr_bl hb2 B3; have hb3 := hbB.trans (hb2.mono hbB.size))
    | ((with_reducible refine wpList_stB 33 _ _ ?_); refine ⟨_, _, _, ⟨_, _, _, Tryz.sizeOf33, rfl, C3, st5 _ rfl 0 0 0 0 0⟩, ?_⟩; intro w5 B5 g5))
  refine bodyPost_ret (results_t1c1t1 rfl rfl (run_loadVar_all Tryz.isAgg33 Tryz.sizeOf33 B5 rfl)) rfl ⟨FrRes.none rfl, bl_st hb3 g5 hb3.size (Nat.le_refl _)⟩
set_option maxRecDepth 100000 in
set_option maxHeartbeats 1000000 in
theorem open_n2 (a : Option Addr) (cap : Nat) (l : List UInt8) (w : World) (hs : SlB w a cap l) (hl : l.length = 128) (hz : noughtsB l = true) : Calls Tryz.prog 109 #[.slice a 128 cap] w fun e w' => FrRes w.heap.size (openF l) e w' ∧ Below w.heap.size w w' := by
  have ho : openF l = (0, zeroTg, []) := by unfold openF; rw [hl, if_neg (by decide), if_pos hz]
  rw [ho]
  have hroom : ∀ w, Calls Tryz.prog 59 #[.int .i64 2] w fun e w' => e = .returned (.int .i64 88) ∧ w = w' := fun w => room_any 2 w
  have hbB := blw w (Obj.cells #[.int .i64 0, .int .i64 0, .int .i64 0, .int .i64 0, .int .i64 0] 33)
  have B3 := heap_alloc_new w (Obj.cells #[.int .i64 0, .int .i64 0, .int .i64 0, .int .i64 0, .int .i64 0] 33)
  have hno := noughts_any a cap l (w.alloc (Obj.cells #[.int .i64 0, .int .i64 0, .int .i64 0, .int .i64 0, .int .i64 0] 33)) (hs.below hbB)
  rw [hl, hz] at hno
  clear ho hz hl
  go_enter Tryz.func109, Tryz.ntmps109
  go_wp2_with (first
    | (go_at_call 59; refine (hroom _).mono ?_; rintro e w2 ⟨rfl, rfl⟩)
    | (go_at_call 131; refine hno.mono ?_; rintro e w2 ⟨rfl, hb2⟩; have C3 := tr_bl hb2 B3; have hb3 := hbB.trans (hb2.mono hbB.size))
    | ((with_reducible refine wpList_stB 33 _ _ ?_); refine ⟨_, _, _, ⟨_, _, _, Tryz.sizeOf33, rfl, C3, st5 _ rfl 0 0 0 0 0⟩, ?_⟩; intro w5 B5 g5))
  refine bodyPost_ret (results_t1c1t1 rfl rfl (run_loadVar_all Tryz.isAgg33 Tryz.sizeOf33 B5 rfl)) rfl ⟨FrRes.none rfl, bl_st hb3 g5 hb3.size (Nat.le_refl _)⟩
end Go.Proofs.YtddddemclhlfaaaGreatDoor
namespace Go.Proofs.YtddddemclhlfaaaGreatDoor
open Go.RowKit
theorem getN_lt (l : List UInt8) (p k : Nat) : getN l p k < 256 ^ k := by
  unfold getN
  refine Nat.lt_of_lt_of_le (ofLe_lt _) (Nat.pow_le_pow_right (by decide) ?_)
  rw [List.length_take]
  omega
def okF (l : List UInt8) (N : Nat) : Bool := mayTg (tagAt l 2) && (decide (getN l 0 2 ≤ roomN N) && (decide (getN l (N - 4) 4 = crcS (l.take (N - 4))) && noughtsB ((l.drop (17 + getN l 0 2)).take (N - 21 - getN l 0 2))))
theorem openF_ok {l : List UInt8} {N : Nat} (hl : l.length = N) (hr : 0 < roomN N) (hz : noughtsB l = false) : openF l = if okF l N = true then (1, tagAt l 2, (l.drop 17).take (getN l 0 2)) else (2, zeroTg, []) := by
  unfold openF okF
  rw [hl, if_neg (by omega), hz, if_neg (by simp)]
  congr 1
  simp only [Bool.and_eq_true, decide_eq_true_eq]
end Go.Proofs.YtddddemclhlfaaaGreatDoor
namespace Go.Proofs.YtddddemclhlfaaaGreatDoor
open Go.RowKit
set_option maxRecDepth 100000 in
set_option maxHeartbeats 4000000 in
theorem open_m1 (b off : Nat) (cap : Nat) (l : List UInt8) (w : World) (hs : SlB w (some ⟨b, off, none⟩) cap l) (hl : l.length = 64) (hz : noughtsB l = false) : Calls Tryz.prog 109 #[.slice (some ⟨b, off, none⟩) 64 cap] w fun e w' => FrRes w.heap.size (openF l) e w' ∧ Below w.heap.size w w' := by
  rw [openF_ok (N := 64) hl (by decide) hz]
  have hroom : ∀ w, Calls Tryz.prog 59 #[.int .i64 1] w fun e w' => e = .returned (.int .i64 43) ∧ w = w' := fun w => room_any 1 w
  have hcap : 64 ≤ cap := by have := hs.le; omega
  have hmx := hs.max
  unfold maxLen at hmx
  have k2 : ¬ cap = 2 := by omega
  have k17 : ¬ cap = 17 := by omega
  have hbB := blw w (Obj.cells #[.int .i64 0, .int .i64 0, .int .i64 0, .int .i64 0, .int .i64 0] 33)
  have B3 := heap_alloc_new w (Obj.cells #[.int .i64 0, .int .i64 0, .int .i64 0, .int .i64 0, .int .i64 0] 33)
  have hno := noughts_any _ cap l (w.alloc (Obj.cells #[.int .i64 0, .int .i64 0, .int .i64 0, .int .i64 0, .int .i64 0] 33)) (hs.below hbB)
  rw [hl, hz] at hno
  obtain ⟨n, hn, hnlt⟩ : ∃ n, getN l 0 2 = n ∧ n < 65536 := ⟨_, rfl, getN_lt l 0 2⟩
  obtain ⟨s, hsn, hslt⟩ : ∃ s, getN l 60 4 = s ∧ s < 4294967296 := ⟨_, rfl, getN_lt l 60 4⟩
  have g1 : ∀ w', SlB w' (some ⟨b, off, none⟩) cap l → Calls Tryz.prog 118 #[.slice (some ⟨b, off, none⟩) 64 cap, .int .i64 0, .int .i64 2] w' fun e w'' => e = .returned (.tuple #[.int .i64 (n : Nat), .int .i64 2, .int .i64 0]) ∧ Below w'.heap.size w' w'' := fun w' h => by
    have := get_ok _ cap l 0 2 w' h (by omega) (by omega)
    rw [hl, hn] at this
    exact this
  have g2 : ∀ w', SlB w' (some ⟨b, off, none⟩) cap l → Calls Tryz.prog 118 #[.slice (some ⟨b, off, none⟩) 64 cap, .int .i64 60, .int .i64 4] w' fun e w'' => e = .returned (.tuple #[.int .i64 (s : Nat), .int .i64 64, .int .i64 0]) ∧ Below w'.heap.size w' w'' := fun w' h => by
    have := get_ok _ cap l 60 4 w' h (by omega) (by omega)
    rw [hl, hsn] at this
    exact this
  have hpa : ∀ w', SlB w' (some ⟨b, off, none⟩) cap l → Calls Tryz.prog 132 #[.slice (some ⟨b, off + 2, none⟩) 15 (cap - 2)] w' fun e w'' => e = .returned (.tuple #[tgV (parseT ((l.drop 2).take 15)).1, .int .i64 (parseT ((l.drop 2).take 15)).2]) ∧ Below w'.heap.size w' w'' := fun w' h =>
    tparse_any _ _ _ w' (h.sub 2 15 (by omega)) (by rw [List.length_take, List.length_drop]; omega)
  obtain ⟨tg, pe, hpt, hpe⟩ : ∃ tg pe, parseT ((l.drop 2).take 15) = (tg, pe) ∧ ((pe = 0 ∧ tg = tagAt l 2 ∧ mayTg (tagAt l 2) = true) ∨ (pe = 30 ∧ mayTg (tagAt l 2) = false)) := by
    unfold parseT
    rw [tagAt_sub]
    cases h : mayTg (tagAt l 2)
    · exact ⟨_, _, rfl, .inr ⟨rfl, rfl⟩⟩
    · exact ⟨_, _, rfl, .inl ⟨rfl, rfl, rfl⟩⟩
  rw [hpt] at hpa
  simp only at hpa
  have HPE := Lib.hid hpe
  have HL := Lib.hid hl
  have HN := Lib.hid hn
  have HS := Lib.hid hsn
  clear hpe hpt hz hl hn hsn
  go_enter Tryz.func109, Tryz.ntmps109
  refine wp_seq_k (fun K hK => ?_)
  have HK := Lib.hid hK
  clear hK
  go_wp2
  refine HK.out _ _ ?_
  clear HK
  refine wp_seq_k (fun K hK => ?_)
  have HK := Lib.hid hK
  clear hK
  go_wp2
  refine HK.out _ _ ?_
  clear HK
  refine wp_seq_k (fun K hK => ?_)
  have HK := Lib.hid hK
  clear hK
  go_wp2_with (go_at_call 59; refine (hroom _).mono ?_; rintro e w2 ⟨rfl, rfl⟩)
  refine HK.out _ _ ?_
  clear HK
  refine wp_seq_k (fun K hK => ?_)
  have HK := Lib.hid hK
  clear hK
  go_wp2_with (go_at_call 131; refine hno.mono ?_; rintro e w2 ⟨rfl, hb2⟩)
  refine HK.out _ _ ?_
  clear HK
  have A3 := tr_bl hb2 B3
  have hb3 := hbB.trans (hb2.mono hbB.size)
  have hs3 := hs.below hb3
  clear hno hb2 B3 hbB
  refine wp_seq_k (fun K hK => ?_)
  have HK := Lib.hid hK
  clear hK
  go_wp2_with (go_at_call 118; refine (g1 _ hs3).mono ?_; rintro e w4 ⟨rfl, hb4⟩)
  refine HK.out _ _ ?_
  clear HK
  have A4 := tr_bl hb4 A3
  have hb5 := hb3.trans (hb4.mono hb3.size)
  have hs5 := hs.below hb5
  clear A3 hb3 hs3 hb4
  refine wp_seq_k (fun K hK => ?_)
  have HK := Lib.hid hK
  clear hK
  go_wp2_with (go_at_call 132; refine (hpa _ hs5).mono ?_; rintro e w5 ⟨rfl, hb6⟩)
  refine HK.out _ _ ?_
  clear HK
  have A5 := tr_al (Obj.cells #[.int .i64 tg.rep, .int .i64 tg.reg, .int .i64 tg.pla, .int .i64 tg.idx, .int .i64 tg.inc] 33) (tr_bl hb6 A4)
  have T5 := heap_alloc_new w5 (Obj.cells #[.int .i64 tg.rep, .int .i64 tg.reg, .int .i64 tg.pla, .int .i64 tg.idx, .int .i64 tg.inc] 33)
  have hb50 := hb5.trans (hb6.mono hb5.size)
  have hb7 := hb50.alloc hb50.size (Obj.cells #[.int .i64 tg.rep, .int .i64 tg.reg, .int .i64 tg.pla, .int .i64 tg.idx, .int .i64 tg.inc] 33)
  have hq0 : w.heap.size < w5.heap.size := Nat.lt_of_lt_of_le (lt_blk A4) (hb6.size)
  have hs7 := hs.below hb7
  clear A4 hb5 hs5 hb6 hb50 hpa g1
  generalize w5.alloc (Obj.cells #[.int .i64 tg.rep, .int .i64 tg.reg, .int .i64 tg.pla, .int .i64 tg.idx, .int .i64 tg.inc] 33) = w6 at *
  generalize w5.heap.size = q at *
  refine wp_seq_k (fun K hK => ?_)
  have HK := Lib.hid hK
  clear hK
  go_wp2
  refine HK.out _ _ ?_
  clear HK
  refine wp_seq_k (fun K hK => ?_)
  have HK := Lib.hid hK
  clear hK
  go_wp2_with (go_at_call 118; refine (g2 _ hs7).mono ?_; rintro e w8 ⟨rfl, hb8'⟩)
  refine HK.out _ _ ?_
  clear HK
  have C3 := tr_bl hb8' A5
  have T8 := tr_bl hb8' T5
  have hb8 := hb7.trans (hb8'.mono hb7.size)
  have hs8 := hs.below hb8
  clear g2 hs7 hb7 hb8' A5 T5
  have hsum := sum_any _ cap (l.take 60) w8 (hs8.take 60)
  rw [show (l.take 60).length = 60 by rw [List.length_take, HL.out]; rfl] at hsum
  have hno7 : ∀ w', Below w8.heap.size w8 w' → n ≤ 43 → Calls Tryz.prog 131 #[.slice (some ⟨b, off + (17 + n), none⟩) (60 - (17 + n)) (cap - (17 + n))] w' fun e w'' => e = .returned (.bool (noughtsB ((l.drop (17 + n)).take (64 - 21 - n)))) ∧ Below w'.heap.size w' w'' := fun w' hb hnr => by
    have := noughts_any _ _ ((l.drop (17 + n)).take (64 - 21 - n)) w' ((hs8.below hb).sub (17 + n) (64 - 21 - n) (by rw [HL.out]; omega))
    rw [show ((l.drop (17 + n)).take (64 - 21 - n)).length = 60 - (17 + n) by rw [List.length_take, List.length_drop, HL.out]; omega] at this
    exact this
  have hok : okF l 64 = (mayTg (tagAt l 2) && (decide (n ≤ 43) && (decide (s = crcS (l.take 60)) && noughtsB ((l.drop (17 + n)).take (64 - 21 - n))))) := by
    unfold okF
    rw [HN.out, show 64 - 4 = 60 from rfl, HS.out, show roomN 64 = 43 from rfl]
  rw [hok, HN.out]
  clear hok
  have hz := crcS_lt (l.take 60)
  generalize crcS (l.take 60) = z at *
  generalize hnd : noughtsB ((l.drop (17 + n)).take (64 - 21 - n)) = nd at *
  clear hnd
  rcases HPE.out with ⟨h1, h2, h3⟩ | ⟨h1, h3⟩
  case inr =>
    rw [h3, Bool.false_and, if_neg (by simp)]
    subst h1
    clear h3 HPE
    go_wp2_with (first
      | (go_at_call 59; refine (hroom _).mono ?_; rintro e w2 ⟨rfl, rfl⟩)
      | (go_at_call 133; refine hsum.mono ?_; rintro e w7 ⟨rfl, hb7⟩; have D3 := tr_bl hb7 C3; have hb9 := hb8.trans (hb7.mono hb8.size))
      | (go_at_call 131; refine (hno8 _ hb7).mono ?_; rintro e w8 ⟨rfl, hb10⟩; have E3 := tr_bl hb10 D3; have hb11 := hb9.trans (hb10.mono hb9.size))
      | ((with_reducible refine wpList_stB 33 _ _ ?_); refine ⟨_, _, _, ⟨_, _, _, Tryz.sizeOf33, rfl, C3, st5 _ rfl 0 0 0 0 0⟩, ?_⟩; intro w5 B5 g5))
    refine bodyPost_ret (results_t1c1t1 rfl rfl (run_loadVar_all Tryz.isAgg33 Tryz.sizeOf33 B5 rfl)) rfl ⟨FrRes.none rfl, bl_st hb8 g5 hb8.size (Nat.le_refl _)⟩
  case inl =>
    rw [h3, Bool.true_and]
    subst h1
    have HTG := Lib.hid h2
    clear h3 HPE h2
    by_cases hnr : n ≤ 43
    case neg =>
      rw [decide_eq_false hnr, Bool.false_and, if_neg (by simp)]
      have hI : (43 : Int) < n := by omega
      go_wp2_with (first
        | (go_at_call 59; refine (hroom _).mono ?_; rintro e w2 ⟨rfl, rfl⟩)
        | (go_at_call 133; refine hsum.mono ?_; rintro e w7 ⟨rfl, hb7⟩; have D3 := tr_bl hb7 C3; have hb9 := hb8.trans (hb7.mono hb8.size))
        | (go_at_call 131; refine (hno8 _ hb7).mono ?_; rintro e w8 ⟨rfl, hb10⟩; have E3 := tr_bl hb10 D3; have hb11 := hb9.trans (hb10.mono hb9.size))
        | ((with_reducible refine wpList_stB 33 _ _ ?_); refine ⟨_, _, _, ⟨_, _, _, Tryz.sizeOf33, rfl, C3, st5 _ rfl 0 0 0 0 0⟩, ?_⟩; intro w5 B5 g5))
      refine bodyPost_ret (results_t1c1t1 rfl rfl (run_loadVar_all Tryz.isAgg33 Tryz.sizeOf33 B5 rfl)) rfl ⟨FrRes.none rfl, bl_st hb8 g5 hb8.size (Nat.le_refl _)⟩
    case pos =>
      rw [decide_eq_true hnr, Bool.true_and]
      have hI : (n : Int) ≤ 43 := by omega
      have kn : ¬ cap = 17 + n := by omega
      have hno8 := fun w' h => hno7 w' h hnr
      clear hno7
      by_cases hsz : s = z
      case neg =>
        rw [decide_eq_false hsz, Bool.false_and, if_neg (by simp)]
        have hne : ((s : Int) != (z : Int)) = true := by rw [bne_iff_ne]; omega
        go_wp2_with (first
          | (go_at_call 59; refine (hroom _).mono ?_; rintro e w2 ⟨rfl, rfl⟩)
          | (go_at_call 133; refine hsum.mono ?_; rintro e w7 ⟨rfl, hb7⟩; have D3 := tr_bl hb7 C3; have hb9 := hb8.trans (hb7.mono hb8.size))
          | (go_at_call 131; refine (hno8 _ hb7).mono ?_; rintro e w8 ⟨rfl, hb10⟩; have E3 := tr_bl hb10 D3; have hb11 := hb9.trans (hb10.mono hb9.size))
          | ((with_reducible refine wpList_stB 33 _ _ ?_); refine ⟨_, _, _, ⟨_, _, _, Tryz.sizeOf33, rfl, D3, st5 _ rfl 0 0 0 0 0⟩, ?_⟩; intro w5 B5 g5))
        refine bodyPost_ret (results_t1c1t1 rfl rfl (run_loadVar_all Tryz.isAgg33 Tryz.sizeOf33 B5 rfl)) rfl ⟨FrRes.none rfl, bl_st hb9 g5 hb9.size (Nat.le_refl _)⟩
      case pos =>
        subst hsz
        rw [decide_eq_true rfl, Bool.true_and]
        have hne : ((s : Int) != (s : Int)) = false := by simp
        cases nd
        case false =>
          rw [if_neg (by simp)]
          go_wp2_with (first
            | (go_at_call 59; refine (hroom _).mono ?_; rintro e w2 ⟨rfl, rfl⟩)
            | (go_at_call 133; refine hsum.mono ?_; rintro e w7 ⟨rfl, hb7⟩; have D3 := tr_bl hb7 C3; have hb9 := hb8.trans (hb7.mono hb8.size))
            | (go_at_call 131; refine (hno8 _ hb7).mono ?_; rintro e w8 ⟨rfl, hb10⟩; have E3 := tr_bl hb10 D3; have hb11 := hb9.trans (hb10.mono hb9.size))
            | ((with_reducible refine wpList_stB 33 _ _ ?_); refine ⟨_, _, _, ⟨_, _, _, Tryz.sizeOf33, rfl, E3, st5 _ rfl 0 0 0 0 0⟩, ?_⟩; intro w5 B5 g5))
          refine bodyPost_ret (results_t1c1t1 rfl rfl (run_loadVar_all Tryz.isAgg33 Tryz.sizeOf33 B5 rfl)) rfl ⟨FrRes.none rfl, bl_st hb11 g5 hb11.size (Nat.le_refl _)⟩
        case true =>
          rw [if_pos rfl]
          refine wp_seq_k (fun K hK => ?_)
          have HK := Lib.hid hK
          clear hK
          go_wp2_with (first
                      | (go_at_call 59; refine (hroom _).mono ?_; rintro e w2 ⟨rfl, rfl⟩)
                      | (go_at_call 133; refine hsum.mono ?_; rintro e w7 ⟨rfl, hb7⟩; have D3 := tr_bl hb7 C3; have T7 := tr_bl hb7 T8; have hb9 := hb8.trans (hb7.mono hb8.size))
                      | (go_at_call 131; refine (hno8 _ hb7).mono ?_; rintro e w9 ⟨rfl, hb10⟩; have E3 := tr_bl hb10 D3; have T9 := tr_bl hb10 T7; have hb11 := hb9.trans (hb10.mono hb9.size)))
          refine HK.out _ _ ?_
          clear HK
          have hbl : ((l.drop 17).take n).length = n := by rw [List.length_take, List.length_drop, HL.out]; omega
          have hcl := clone_any ⟨b, off + 17, none⟩ (cap - 17) ((l.drop 17).take n) w9 ((hs.below hb11).sub 17 n (by rw [HL.out]; omega)) (by omega)
          rw [hbl] at hcl
          have HBL := Lib.hid hbl
          clear hbl C3 T8 hs8 hsum hno8 hb7 D3 T7 hb9 hb10 hb8 hz
          refine wp_seq_k (fun K hK => ?_)
          have HK := Lib.hid hK
          clear hK
          go_wp2_with (go_at_call 134; refine hcl.mono ?_; rintro e w10 ⟨⟨g, c, rfl, hc1, hc2, ho⟩, hb12⟩)
          refine HK.out _ _ ?_
          clear HK
          clear hcl
          have F3 := tr_bl hb12 E3
          have T10 := tr_bl hb12 T9
          have hb13 := hb11.trans (hb12.mono hb11.size)
          have ho10 := ho.mono hb11.size
          clear E3 T9 hb11 hb12 ho
          unfold maxLen at hc2
          refine wp_seq_k (fun K hK => ?_)
          have HK := Lib.hid hK
          clear hK
          go_wp2_with fail
          have hbd := (Below.refl w10.heap.size w10).drew
          have F4 := tr_bl hbd F3
          have T11 := tr_bl hbd T10
          have hb14 := hb13.trans (hbd.mono hb13.size)
          have ho11 := ho10.below hbd
          clear F3 T10 hb13 ho10
          refine wp_region_held_drew (S := fun w' => w'.heap[q]? = some (.cells #[.int .i64 tg.rep, .int .i64 tg.reg, .int .i64 tg.pla, .int .i64 tg.idx, .int .i64 tg.inc] 33 (0, 0))) (by kernel_rfl) T11 (fun hS0 => ?_)
          clear hbd
          generalize w10.drew = x0 at *
          refine wpAnyH_take (i := 0) (oi := ⟨_, _, _, _, _, _⟩) (v := .agg (#[.int .i64 tg.rep, .int .i64 tg.reg, .int .i64 tg.pla, .int .i64 tg.idx, .int .i64 tg.inc])) rfl (by kernel_rfl) (by kernel_rfl) (by kernel_rfl) (fun _ _ _ h => h) (Or.inl ⟨by rfl, fun wS hSw => ?_⟩) (by assumption) ?_
          · exact exec_ldB 33 _ ⟨_, _, _, _, _, Tryz.isAgg33, Tryz.sizeOf33, rfl, hSw, ld5 _ _ _ _ _⟩
          (try simp only [Act.put]); (try simp only [List.setIfInBounds_toArray]); (try simp only [List.set_cons_succ]); (try simp only [List.set_cons_zero])
          refine wpAnyH_take (i := 1) (oi := ⟨_, _, _, _, _, _⟩) (v := ?_) rfl (by kernel_rfl) (by kernel_rfl) (by kernel_rfl) (fun _ _ _ h => h) (Or.inl ⟨by rfl, ?_⟩) (by assumption) ?_
          rotate_left
          · intro wS hSw; go_simp; (try with_reducible rfl)
          (try simp only [Act.put]); (try simp only [List.setIfInBounds_toArray]); (try simp only [List.set_cons_succ]); (try simp only [List.set_cons_zero])
          refine wpAnyH_take (i := 2) (oi := ⟨_, _, _, _, _, _⟩) (v := ?_) rfl (by kernel_rfl) (by kernel_rfl) (by kernel_rfl) (fun _ _ _ h => h) (Or.inl ⟨by rfl, ?_⟩) (by assumption) ?_
          rotate_left
          · intro wS hSw; go_simp; (try with_reducible rfl)
          (try simp only [Act.put]); (try simp only [List.setIfInBounds_toArray]); (try simp only [List.set_cons_succ]); (try simp only [List.set_cons_zero])
          refine wpAnyH_take (i := 3) (oi := ⟨_, _, _, _, _, _⟩) (v := ?_) rfl (by kernel_rfl) (by kernel_rfl) (by kernel_rfl) (fun _ _ _ h => h) (Or.inl ⟨by rfl, ?_⟩) (by assumption) ?_
          rotate_left
          · intro wS hSw; go_simp; (try with_reducible rfl)
          (try simp only [Act.put]); (try simp only [List.setIfInBounds_toArray]); (try simp only [List.set_cons_succ]); (try simp only [List.set_cons_zero])
          refine wpAnyH_take (i := 4) (oi := ⟨_, _, _, _, _, _⟩) (v := ?_) rfl (by kernel_rfl) (by kernel_rfl) (by kernel_rfl) (fun _ _ _ h => h) (Or.inl ⟨by rfl, ?_⟩) (by assumption) ?_
          rotate_left
          · intro wS hSw; go_simp; (try with_reducible rfl)
          (try simp only [Act.put]); (try simp only [List.setIfInBounds_toArray]); (try simp only [List.set_cons_succ]); (try simp only [List.set_cons_zero])
          refine wpAnyH_take (i := 5) (oi := ⟨_, _, _, _, _, _⟩) (v := ?_) rfl (by kernel_rfl) (by kernel_rfl) (by kernel_rfl) (fun _ _ _ h => h) (Or.inl ⟨by rfl, ?_⟩) (by assumption) ?_
          rotate_left
          · intro wS hSw; go_simp; (try with_reducible rfl)
          (try simp only [Act.put]); (try simp only [List.setIfInBounds_toArray]); (try simp only [List.set_cons_succ]); (try simp only [List.set_cons_zero])
          refine wpAnyH_ready (rs := [6]) (by kernel_rfl) (by simp) ?_
          refine AllReadyH.cons (o := ⟨_, _, _, _, _, _⟩) rfl (fun K' hK' => ?_) AllReadyH.nil
          refine (if_pos (by rfl)).mpr ?_
          refine wp_stB 33 _ _ ?_
          refine ⟨_, _, _, ⟨_, _, _, Tryz.sizeOf33, rfl, F4, st5 _ rfl tg.rep tg.reg tg.pla tg.idx tg.inc⟩, ?_⟩
          intro w11 B11 g11
          refine hK'.out _ _ (tr_st g11 hS0 (by omega)) (fun _ => ?_)
          clear hK'
          (try simp only [Act.put]); (try simp only [List.setIfInBounds_toArray]); (try simp only [List.set_cons_succ]); (try simp only [List.set_cons_zero])
          refine wpAnyH_take (i := 7) (oi := ⟨_, _, _, _, _, _⟩) (v := ?_) rfl (by kernel_rfl) (by kernel_rfl) (by kernel_rfl) (fun _ _ _ h => h) (Or.inl ⟨by rfl, ?_⟩) (by assumption) ?_
          rotate_left
          · intro wS hSw; go_simp; (try with_reducible rfl)
          (try simp only [Act.put]); (try simp only [List.setIfInBounds_toArray]); (try simp only [List.set_cons_succ]); (try simp only [List.set_cons_zero])
          refine wpAnyH_done (by kernel_rfl) ?_ _
          refine HK.out _ _ ?_
          clear HK
          go_wp2
          refine bodyPost_ret (results_t1c1t1 rfl rfl (run_loadVar_all Tryz.isAgg33 Tryz.sizeOf33 B11 rfl)) rfl ⟨⟨some ⟨g, 0, none⟩, n, ?_, ?_⟩, bl_st hb14 g11 hb14.size (Nat.le_refl _)⟩
          · rw [HBL.out, ← HTG.out]
            rfl
          · exact ho11.st g11 F4 (by decide)
end Go.Proofs.YtddddemclhlfaaaGreatDoor
namespace Go.Proofs.YtddddemclhlfaaaGreatDoor
open Go.RowKit
set_option maxRecDepth 100000 in
set_option maxHeartbeats 4000000 in
theorem open_m2 (b off : Nat) (cap : Nat) (l : List UInt8) (w : World) (hs : SlB w (some ⟨b, off, none⟩) cap l) (hl : l.length = 128) (hz : noughtsB l = false) : Calls Tryz.prog 109 #[.slice (some ⟨b, off, none⟩) 128 cap] w fun e w' => FrRes w.heap.size (openF l) e w' ∧ Below w.heap.size w w' := by
  rw [openF_ok (N := 128) hl (by decide) hz]
  have hroom : ∀ w, Calls Tryz.prog 59 #[.int .i64 2] w fun e w' => e = .returned (.int .i64 88) ∧ w = w' := fun w => room_any 2 w
  have hcap : 128 ≤ cap := by have := hs.le; omega
  have hmx := hs.max
  unfold maxLen at hmx
  have k2 : ¬ cap = 2 := by omega
  have k17 : ¬ cap = 17 := by omega
  have hbB := blw w (Obj.cells #[.int .i64 0, .int .i64 0, .int .i64 0, .int .i64 0, .int .i64 0] 33)
  have B3 := heap_alloc_new w (Obj.cells #[.int .i64 0, .int .i64 0, .int .i64 0, .int .i64 0, .int .i64 0] 33)
  have hno := noughts_any _ cap l (w.alloc (Obj.cells #[.int .i64 0, .int .i64 0, .int .i64 0, .int .i64 0, .int .i64 0] 33)) (hs.below hbB)
  rw [hl, hz] at hno
  obtain ⟨n, hn, hnlt⟩ : ∃ n, getN l 0 2 = n ∧ n < 65536 := ⟨_, rfl, getN_lt l 0 2⟩
  obtain ⟨s, hsn, hslt⟩ : ∃ s, getN l 124 4 = s ∧ s < 4294967296 := ⟨_, rfl, getN_lt l 124 4⟩
  have g1 : ∀ w', SlB w' (some ⟨b, off, none⟩) cap l → Calls Tryz.prog 118 #[.slice (some ⟨b, off, none⟩) 128 cap, .int .i64 0, .int .i64 2] w' fun e w'' => e = .returned (.tuple #[.int .i64 (n : Nat), .int .i64 2, .int .i64 0]) ∧ Below w'.heap.size w' w'' := fun w' h => by
    have := get_ok _ cap l 0 2 w' h (by omega) (by omega)
    rw [hl, hn] at this
    exact this
  have g2 : ∀ w', SlB w' (some ⟨b, off, none⟩) cap l → Calls Tryz.prog 118 #[.slice (some ⟨b, off, none⟩) 128 cap, .int .i64 124, .int .i64 4] w' fun e w'' => e = .returned (.tuple #[.int .i64 (s : Nat), .int .i64 128, .int .i64 0]) ∧ Below w'.heap.size w' w'' := fun w' h => by
    have := get_ok _ cap l 124 4 w' h (by omega) (by omega)
    rw [hl, hsn] at this
    exact this
  have hpa : ∀ w', SlB w' (some ⟨b, off, none⟩) cap l → Calls Tryz.prog 132 #[.slice (some ⟨b, off + 2, none⟩) 15 (cap - 2)] w' fun e w'' => e = .returned (.tuple #[tgV (parseT ((l.drop 2).take 15)).1, .int .i64 (parseT ((l.drop 2).take 15)).2]) ∧ Below w'.heap.size w' w'' := fun w' h =>
    tparse_any _ _ _ w' (h.sub 2 15 (by omega)) (by rw [List.length_take, List.length_drop]; omega)
  obtain ⟨tg, pe, hpt, hpe⟩ : ∃ tg pe, parseT ((l.drop 2).take 15) = (tg, pe) ∧ ((pe = 0 ∧ tg = tagAt l 2 ∧ mayTg (tagAt l 2) = true) ∨ (pe = 30 ∧ mayTg (tagAt l 2) = false)) := by
    unfold parseT
    rw [tagAt_sub]
    cases h : mayTg (tagAt l 2)
    · exact ⟨_, _, rfl, .inr ⟨rfl, rfl⟩⟩
    · exact ⟨_, _, rfl, .inl ⟨rfl, rfl, rfl⟩⟩
  rw [hpt] at hpa
  simp only at hpa
  have HPE := Lib.hid hpe
  have HL := Lib.hid hl
  have HN := Lib.hid hn
  have HS := Lib.hid hsn
  clear hpe hpt hz hl hn hsn
  go_enter Tryz.func109, Tryz.ntmps109
  refine wp_seq_k (fun K hK => ?_)
  have HK := Lib.hid hK
  clear hK
  go_wp2
  refine HK.out _ _ ?_
  clear HK
  refine wp_seq_k (fun K hK => ?_)
  have HK := Lib.hid hK
  clear hK
  go_wp2
  refine HK.out _ _ ?_
  clear HK
  refine wp_seq_k (fun K hK => ?_)
  have HK := Lib.hid hK
  clear hK
  go_wp2_with (go_at_call 59; refine (hroom _).mono ?_; rintro e w2 ⟨rfl, rfl⟩)
  refine HK.out _ _ ?_
  clear HK
  refine wp_seq_k (fun K hK => ?_)
  have HK := Lib.hid hK
  clear hK
  go_wp2_with (go_at_call 131; refine hno.mono ?_; rintro e w2 ⟨rfl, hb2⟩)
  refine HK.out _ _ ?_
  clear HK
  have A3 := tr_bl hb2 B3
  have hb3 := hbB.trans (hb2.mono hbB.size)
  have hs3 := hs.below hb3
  clear hno hb2 B3 hbB
  refine wp_seq_k (fun K hK => ?_)
  have HK := Lib.hid hK
  clear hK
  go_wp2_with (go_at_call 118; refine (g1 _ hs3).mono ?_; rintro e w4 ⟨rfl, hb4⟩)
  refine HK.out _ _ ?_
  clear HK
  have A4 := tr_bl hb4 A3
  have hb5 := hb3.trans (hb4.mono hb3.size)
  have hs5 := hs.below hb5
  clear A3 hb3 hs3 hb4
  refine wp_seq_k (fun K hK => ?_)
  have HK := Lib.hid hK
  clear hK
  go_wp2_with (go_at_call 132; refine (hpa _ hs5).mono ?_; rintro e w5 ⟨rfl, hb6⟩)
  refine HK.out _ _ ?_
  clear HK
  have A5 := tr_al (Obj.cells #[.int .i64 tg.rep, .int .i64 tg.reg, .int .i64 tg.pla, .int .i64 tg.idx, .int .i64 tg.inc] 33) (tr_bl hb6 A4)
  have T5 := heap_alloc_new w5 (Obj.cells #[.int .i64 tg.rep, .int .i64 tg.reg, .int .i64 tg.pla, .int .i64 tg.idx, .int .i64 tg.inc] 33)
  have hb50 := hb5.trans (hb6.mono hb5.size)
  have hb7 := hb50.alloc hb50.size (Obj.cells #[.int .i64 tg.rep, .int .i64 tg.reg, .int .i64 tg.pla, .int .i64 tg.idx, .int .i64 tg.inc] 33)
  have hq0 : w.heap.size < w5.heap.size := Nat.lt_of_lt_of_le (lt_blk A4) (hb6.size)
  have hs7 := hs.below hb7
  clear A4 hb5 hs5 hb6 hb50 hpa g1
  generalize w5.alloc (Obj.cells #[.int .i64 tg.rep, .int .i64 tg.reg, .int .i64 tg.pla, .int .i64 tg.idx, .int .i64 tg.inc] 33) = w6 at *
  generalize w5.heap.size = q at *
  refine wp_seq_k (fun K hK => ?_)
  have HK := Lib.hid hK
  clear hK
  go_wp2
  refine HK.out _ _ ?_
  clear HK
  refine wp_seq_k (fun K hK => ?_)
  have HK := Lib.hid hK
  clear hK
  go_wp2_with (go_at_call 118; refine (g2 _ hs7).mono ?_; rintro e w8 ⟨rfl, hb8'⟩)
  refine HK.out _ _ ?_
  clear HK
  have C3 := tr_bl hb8' A5
  have T8 := tr_bl hb8' T5
  have hb8 := hb7.trans (hb8'.mono hb7.size)
  have hs8 := hs.below hb8
  clear g2 hs7 hb7 hb8' A5 T5
  have hsum := sum_any _ cap (l.take 124) w8 (hs8.take 124)
  rw [show (l.take 124).length = 124 by rw [List.length_take, HL.out]; rfl] at hsum
  have hno7 : ∀ w', Below w8.heap.size w8 w' → n ≤ 88 → Calls Tryz.prog 131 #[.slice (some ⟨b, off + (17 + n), none⟩) (124 - (17 + n)) (cap - (17 + n))] w' fun e w'' => e = .returned (.bool (noughtsB ((l.drop (17 + n)).take (128 - 21 - n)))) ∧ Below w'.heap.size w' w'' := fun w' hb hnr => by
    have := noughts_any _ _ ((l.drop (17 + n)).take (128 - 21 - n)) w' ((hs8.below hb).sub (17 + n) (128 - 21 - n) (by rw [HL.out]; omega))
    rw [show ((l.drop (17 + n)).take (128 - 21 - n)).length = 124 - (17 + n) by rw [List.length_take, List.length_drop, HL.out]; omega] at this
    exact this
  have hok : okF l 128 = (mayTg (tagAt l 2) && (decide (n ≤ 88) && (decide (s = crcS (l.take 124)) && noughtsB ((l.drop (17 + n)).take (128 - 21 - n))))) := by
    unfold okF
    rw [HN.out, show 128 - 4 = 124 from rfl, HS.out, show roomN 128 = 88 from rfl]
  rw [hok, HN.out]
  clear hok
  have hz := crcS_lt (l.take 124)
  generalize crcS (l.take 124) = z at *
  generalize hnd : noughtsB ((l.drop (17 + n)).take (128 - 21 - n)) = nd at *
  clear hnd
  rcases HPE.out with ⟨h1, h2, h3⟩ | ⟨h1, h3⟩
  case inr =>
    rw [h3, Bool.false_and, if_neg (by simp)]
    subst h1
    clear h3 HPE
    go_wp2_with (first
      | (go_at_call 59; refine (hroom _).mono ?_; rintro e w2 ⟨rfl, rfl⟩)
      | (go_at_call 133; refine hsum.mono ?_; rintro e w7 ⟨rfl, hb7⟩; have D3 := tr_bl hb7 C3; have hb9 := hb8.trans (hb7.mono hb8.size))
      | (go_at_call 131; refine (hno8 _ hb7).mono ?_; rintro e w8 ⟨rfl, hb10⟩; have E3 := tr_bl hb10 D3; have hb11 := hb9.trans (hb10.mono hb9.size))
      | ((with_reducible refine wpList_stB 33 _ _ ?_); refine ⟨_, _, _, ⟨_, _, _, Tryz.sizeOf33, rfl, C3, st5 _ rfl 0 0 0 0 0⟩, ?_⟩; intro w5 B5 g5))
    refine bodyPost_ret (results_t1c1t1 rfl rfl (run_loadVar_all Tryz.isAgg33 Tryz.sizeOf33 B5 rfl)) rfl ⟨FrRes.none rfl, bl_st hb8 g5 hb8.size (Nat.le_refl _)⟩
  case inl =>
    rw [h3, Bool.true_and]
    subst h1
    have HTG := Lib.hid h2
    clear h3 HPE h2
    by_cases hnr : n ≤ 88
    case neg =>
      rw [decide_eq_false hnr, Bool.false_and, if_neg (by simp)]
      have hI : (88 : Int) < n := by omega
      go_wp2_with (first
        | (go_at_call 59; refine (hroom _).mono ?_; rintro e w2 ⟨rfl, rfl⟩)
        | (go_at_call 133; refine hsum.mono ?_; rintro e w7 ⟨rfl, hb7⟩; have D3 := tr_bl hb7 C3; have hb9 := hb8.trans (hb7.mono hb8.size))
        | (go_at_call 131; refine (hno8 _ hb7).mono ?_; rintro e w8 ⟨rfl, hb10⟩; have E3 := tr_bl hb10 D3; have hb11 := hb9.trans (hb10.mono hb9.size))
        | ((with_reducible refine wpList_stB 33 _ _ ?_); refine ⟨_, _, _, ⟨_, _, _, Tryz.sizeOf33, rfl, C3, st5 _ rfl 0 0 0 0 0⟩, ?_⟩; intro w5 B5 g5))
      refine bodyPost_ret (results_t1c1t1 rfl rfl (run_loadVar_all Tryz.isAgg33 Tryz.sizeOf33 B5 rfl)) rfl ⟨FrRes.none rfl, bl_st hb8 g5 hb8.size (Nat.le_refl _)⟩
    case pos =>
      rw [decide_eq_true hnr, Bool.true_and]
      have hI : (n : Int) ≤ 88 := by omega
      have kn : ¬ cap = 17 + n := by omega
      have hno8 := fun w' h => hno7 w' h hnr
      clear hno7
      by_cases hsz : s = z
      case neg =>
        rw [decide_eq_false hsz, Bool.false_and, if_neg (by simp)]
        have hne : ((s : Int) != (z : Int)) = true := by rw [bne_iff_ne]; omega
        go_wp2_with (first
          | (go_at_call 59; refine (hroom _).mono ?_; rintro e w2 ⟨rfl, rfl⟩)
          | (go_at_call 133; refine hsum.mono ?_; rintro e w7 ⟨rfl, hb7⟩; have D3 := tr_bl hb7 C3; have hb9 := hb8.trans (hb7.mono hb8.size))
          | (go_at_call 131; refine (hno8 _ hb7).mono ?_; rintro e w8 ⟨rfl, hb10⟩; have E3 := tr_bl hb10 D3; have hb11 := hb9.trans (hb10.mono hb9.size))
          | ((with_reducible refine wpList_stB 33 _ _ ?_); refine ⟨_, _, _, ⟨_, _, _, Tryz.sizeOf33, rfl, D3, st5 _ rfl 0 0 0 0 0⟩, ?_⟩; intro w5 B5 g5))
        refine bodyPost_ret (results_t1c1t1 rfl rfl (run_loadVar_all Tryz.isAgg33 Tryz.sizeOf33 B5 rfl)) rfl ⟨FrRes.none rfl, bl_st hb9 g5 hb9.size (Nat.le_refl _)⟩
      case pos =>
        subst hsz
        rw [decide_eq_true rfl, Bool.true_and]
        have hne : ((s : Int) != (s : Int)) = false := by simp
        cases nd
        case false =>
          rw [if_neg (by simp)]
          go_wp2_with (first
            | (go_at_call 59; refine (hroom _).mono ?_; rintro e w2 ⟨rfl, rfl⟩)
            | (go_at_call 133; refine hsum.mono ?_; rintro e w7 ⟨rfl, hb7⟩; have D3 := tr_bl hb7 C3; have hb9 := hb8.trans (hb7.mono hb8.size))
            | (go_at_call 131; refine (hno8 _ hb7).mono ?_; rintro e w8 ⟨rfl, hb10⟩; have E3 := tr_bl hb10 D3; have hb11 := hb9.trans (hb10.mono hb9.size))
            | ((with_reducible refine wpList_stB 33 _ _ ?_); refine ⟨_, _, _, ⟨_, _, _, Tryz.sizeOf33, rfl, E3, st5 _ rfl 0 0 0 0 0⟩, ?_⟩; intro w5 B5 g5))
          refine bodyPost_ret (results_t1c1t1 rfl rfl (run_loadVar_all Tryz.isAgg33 Tryz.sizeOf33 B5 rfl)) rfl ⟨FrRes.none rfl, bl_st hb11 g5 hb11.size (Nat.le_refl _)⟩
        case true =>
          rw [if_pos rfl]
          refine wp_seq_k (fun K hK => ?_)
          have HK := Lib.hid hK
          clear hK
          go_wp2_with (first
                      | (go_at_call 59; refine (hroom _).mono ?_; rintro e w2 ⟨rfl, rfl⟩)
                      | (go_at_call 133; refine hsum.mono ?_; rintro e w7 ⟨rfl, hb7⟩; have D3 := tr_bl hb7 C3; have T7 := tr_bl hb7 T8; have hb9 := hb8.trans (hb7.mono hb8.size))
                      | (go_at_call 131; refine (hno8 _ hb7).mono ?_; rintro e w9 ⟨rfl, hb10⟩; have E3 := tr_bl hb10 D3; have T9 := tr_bl hb10 T7; have hb11 := hb9.trans (hb10.mono hb9.size)))
          refine HK.out _ _ ?_
          clear HK
          have hbl : ((l.drop 17).take n).length = n := by rw [List.length_take, List.length_drop, HL.out]; omega
          have hcl := clone_any ⟨b, off + 17, none⟩ (cap - 17) ((l.drop 17).take n) w9 ((hs.below hb11).sub 17 n (by rw [HL.out]; omega)) (by omega)
          rw [hbl] at hcl
          have HBL := Lib.hid hbl
          clear hbl C3 T8 hs8 hsum hno8 hb7 D3 T7 hb9 hb10 hb8 hz
          refine wp_seq_k (fun K hK => ?_)
          have HK := Lib.hid hK
          clear hK
          go_wp2_with (go_at_call 134; refine hcl.mono ?_; rintro e w10 ⟨⟨g, c, rfl, hc1, hc2, ho⟩, hb12⟩)
          refine HK.out _ _ ?_
          clear HK
          clear hcl
          have F3 := tr_bl hb12 E3
          have T10 := tr_bl hb12 T9
          have hb13 := hb11.trans (hb12.mono hb11.size)
          have ho10 := ho.mono hb11.size
          clear E3 T9 hb11 hb12 ho
          unfold maxLen at hc2
          refine wp_seq_k (fun K hK => ?_)
          have HK := Lib.hid hK
          clear hK
          go_wp2_with fail
          have hbd := (Below.refl w10.heap.size w10).drew
          have F4 := tr_bl hbd F3
          have T11 := tr_bl hbd T10
          have hb14 := hb13.trans (hbd.mono hb13.size)
          have ho11 := ho10.below hbd
          clear F3 T10 hb13 ho10
          refine wp_region_held_drew (S := fun w' => w'.heap[q]? = some (.cells #[.int .i64 tg.rep, .int .i64 tg.reg, .int .i64 tg.pla, .int .i64 tg.idx, .int .i64 tg.inc] 33 (0, 0))) (by kernel_rfl) T11 (fun hS0 => ?_)
          clear hbd
          generalize w10.drew = x0 at *
          refine wpAnyH_take (i := 0) (oi := ⟨_, _, _, _, _, _⟩) (v := .agg (#[.int .i64 tg.rep, .int .i64 tg.reg, .int .i64 tg.pla, .int .i64 tg.idx, .int .i64 tg.inc])) rfl (by kernel_rfl) (by kernel_rfl) (by kernel_rfl) (fun _ _ _ h => h) (Or.inl ⟨by rfl, fun wS hSw => ?_⟩) (by assumption) ?_
          · exact exec_ldB 33 _ ⟨_, _, _, _, _, Tryz.isAgg33, Tryz.sizeOf33, rfl, hSw, ld5 _ _ _ _ _⟩
          (try simp only [Act.put]); (try simp only [List.setIfInBounds_toArray]); (try simp only [List.set_cons_succ]); (try simp only [List.set_cons_zero])
          refine wpAnyH_take (i := 1) (oi := ⟨_, _, _, _, _, _⟩) (v := ?_) rfl (by kernel_rfl) (by kernel_rfl) (by kernel_rfl) (fun _ _ _ h => h) (Or.inl ⟨by rfl, ?_⟩) (by assumption) ?_
          rotate_left
          · intro wS hSw; go_simp; (try with_reducible rfl)
          (try simp only [Act.put]); (try simp only [List.setIfInBounds_toArray]); (try simp only [List.set_cons_succ]); (try simp only [List.set_cons_zero])
          refine wpAnyH_take (i := 2) (oi := ⟨_, _, _, _, _, _⟩) (v := ?_) rfl (by kernel_rfl) (by kernel_rfl) (by kernel_rfl) (fun _ _ _ h => h) (Or.inl ⟨by rfl, ?_⟩) (by assumption) ?_
          rotate_left
          · intro wS hSw; go_simp; (try with_reducible rfl)
          (try simp only [Act.put]); (try simp only [List.setIfInBounds_toArray]); (try simp only [List.set_cons_succ]); (try simp only [List.set_cons_zero])
          refine wpAnyH_take (i := 3) (oi := ⟨_, _, _, _, _, _⟩) (v := ?_) rfl (by kernel_rfl) (by kernel_rfl) (by kernel_rfl) (fun _ _ _ h => h) (Or.inl ⟨by rfl, ?_⟩) (by assumption) ?_
          rotate_left
          · intro wS hSw; go_simp; (try with_reducible rfl)
          (try simp only [Act.put]); (try simp only [List.setIfInBounds_toArray]); (try simp only [List.set_cons_succ]); (try simp only [List.set_cons_zero])
          refine wpAnyH_take (i := 4) (oi := ⟨_, _, _, _, _, _⟩) (v := ?_) rfl (by kernel_rfl) (by kernel_rfl) (by kernel_rfl) (fun _ _ _ h => h) (Or.inl ⟨by rfl, ?_⟩) (by assumption) ?_
          rotate_left
          · intro wS hSw; go_simp; (try with_reducible rfl)
          (try simp only [Act.put]); (try simp only [List.setIfInBounds_toArray]); (try simp only [List.set_cons_succ]); (try simp only [List.set_cons_zero])
          refine wpAnyH_take (i := 5) (oi := ⟨_, _, _, _, _, _⟩) (v := ?_) rfl (by kernel_rfl) (by kernel_rfl) (by kernel_rfl) (fun _ _ _ h => h) (Or.inl ⟨by rfl, ?_⟩) (by assumption) ?_
          rotate_left
          · intro wS hSw; go_simp; (try with_reducible rfl)
          (try simp only [Act.put]); (try simp only [List.setIfInBounds_toArray]); (try simp only [List.set_cons_succ]); (try simp only [List.set_cons_zero])
          refine wpAnyH_ready (rs := [6]) (by kernel_rfl) (by simp) ?_
          refine AllReadyH.cons (o := ⟨_, _, _, _, _, _⟩) rfl (fun K' hK' => ?_) AllReadyH.nil
          refine (if_pos (by rfl)).mpr ?_
          refine wp_stB 33 _ _ ?_
          refine ⟨_, _, _, ⟨_, _, _, Tryz.sizeOf33, rfl, F4, st5 _ rfl tg.rep tg.reg tg.pla tg.idx tg.inc⟩, ?_⟩
          intro w11 B11 g11
          refine hK'.out _ _ (tr_st g11 hS0 (by omega)) (fun _ => ?_)
          clear hK'
          (try simp only [Act.put]); (try simp only [List.setIfInBounds_toArray]); (try simp only [List.set_cons_succ]); (try simp only [List.set_cons_zero])
          refine wpAnyH_take (i := 7) (oi := ⟨_, _, _, _, _, _⟩) (v := ?_) rfl (by kernel_rfl) (by kernel_rfl) (by kernel_rfl) (fun _ _ _ h => h) (Or.inl ⟨by rfl, ?_⟩) (by assumption) ?_
          rotate_left
          · intro wS hSw; go_simp; (try with_reducible rfl)
          (try simp only [Act.put]); (try simp only [List.setIfInBounds_toArray]); (try simp only [List.set_cons_succ]); (try simp only [List.set_cons_zero])
          refine wpAnyH_done (by kernel_rfl) ?_ _
          refine HK.out _ _ ?_
          clear HK
          go_wp2
          refine bodyPost_ret (results_t1c1t1 rfl rfl (run_loadVar_all Tryz.isAgg33 Tryz.sizeOf33 B11 rfl)) rfl ⟨⟨some ⟨g, 0, none⟩, n, ?_, ?_⟩, bl_st hb14 g11 hb14.size (Nat.le_refl _)⟩
          · rw [HBL.out, ← HTG.out]
            rfl
          · exact ho11.st g11 F4 (by decide)
end Go.Proofs.YtddddemclhlfaaaGreatDoor
namespace Go.Proofs.YtddddemclhlfaaaGreatDoor
open Go.RowKit
theorem open_any (a : Option Addr) (cap : Nat) (l : List UInt8) (w : World) (hs : SlB w a cap l) (hl : l.length ≤ 1000) : Calls Tryz.prog 109 #[.slice a l.length cap] w fun e w' => FrRes w.heap.size (openF l) e w' ∧ Below w.heap.size w w' := by
  by_cases hr : roomN l.length = 0
  · exact open_odd a cap l w hl hr
  · obtain ⟨h64, _⟩ := roomN_of (n := l.length) (by omega)
    rcases h64 with h | h
    · rw [h]
      cases hz : noughtsB l
      · obtain ⟨b, off, rfl⟩ := hs.some_of (by omega)
        exact open_m1 b off cap l w hs h hz
      · exact open_n1 a cap l w hs h hz
    · rw [h]
      cases hz : noughtsB l
      · obtain ⟨b, off, rfl⟩ := hs.some_of (by omega)
        exact open_m2 b off cap l w hs h hz
      · exact open_n2 a cap l w hs h hz
set_option maxRecDepth 100000 in
set_option maxHeartbeats 2000000 in
theorem mine_any (a : Option Addr) (cap : Nat) (l : List UInt8) (rep reg pla : Int) (w : World) (hs : SlB w a cap l) (hl : l.length ≤ 1000) : Calls Tryz.prog 50 #[.slice a l.length cap, .int .i64 rep, .int .i64 reg, .int .i64 pla] w fun e w' => FrRes w.heap.size (mineF l rep reg pla) e w' ∧ Below w.heap.size w w' := by
  obtain ⟨st, tg, body, hr⟩ : ∃ st tg body, openF l = (st, tg, body) := ⟨_, _, _, rfl⟩
  unfold mineF
  rw [hr]
  have HR := Lib.hid hr
  clear hr
  have hbB := blw w (Obj.cells #[.int .i64 0, .int .i64 0, .int .i64 0, .int .i64 0, .int .i64 0] 33)
  have B3 := heap_alloc_new w (Obj.cells #[.int .i64 0, .int .i64 0, .int .i64 0, .int .i64 0, .int .i64 0] 33)
  simp only
  by_cases hst : st = 1
  case neg =>
    rw [if_neg (fun hh => hst hh.1)]
    have h0 : ((st : Int) == 1) = false := by rw [beq_eq_false_iff_ne]; omega
    clear hst
    go_enter Tryz.func50, Tryz.ntmps50
    refine wp_seq_k (fun K hK => ?_)
    have HK := Lib.hid hK
    clear hK
    go_wp2
    refine HK.out _ _ ?_
    clear HK
    refine wp_seq_k (fun K hK => ?_)
    have HK := Lib.hid hK
    clear hK
    go_wp2_with (go_at_call 109; refine (open_any a cap l _ (hs.below hbB) hl).mono ?_; rintro e w2 ⟨⟨a2, c2, rfl, ho2⟩, hb2⟩; rw [HR.out] at ho2; rw [HR.out]; have A3 := tr_bl hb2 B3)
    refine HK.out _ _ ?_
    clear HK
    have C3 := tr_al (Obj.cells #[.int .i64 tg.rep, .int .i64 tg.reg, .int .i64 tg.pla, .int .i64 tg.idx, .int .i64 tg.inc] 33) A3
    have T3 := heap_alloc_new w2 (Obj.cells #[.int .i64 tg.rep, .int .i64 tg.reg, .int .i64 tg.pla, .int .i64 tg.idx, .int .i64 tg.inc] 33)
    have hb3 := hbB.trans (hb2.mono hbB.size)
    have hb4 := hb3.alloc hb3.size (Obj.cells #[.int .i64 tg.rep, .int .i64 tg.reg, .int .i64 tg.pla, .int .i64 tg.idx, .int .i64 tg.inc] 33)
    have hq : w.heap.size < w2.heap.size := lt_blk A3
    have ho3 := (ho2.mono hbB.size).below (blw w2 (Obj.cells #[.int .i64 tg.rep, .int .i64 tg.reg, .int .i64 tg.pla, .int .i64 tg.idx, .int .i64 tg.inc] 33))
    clear A3 hb2 hb3 ho2
    generalize w2.alloc (Obj.cells #[.int .i64 tg.rep, .int .i64 tg.reg, .int .i64 tg.pla, .int .i64 tg.idx, .int .i64 tg.inc] 33) = w3 at *
    generalize w2.heap.size = q at *
    have q0 := blk_cell T3 0 _ rfl
    have q1 := blk_cell T3 1 _ rfl
    have q2 := blk_cell T3 2 _ rfl
    refine wp_seq_k (fun K hK => ?_)
    have HK := Lib.hid hK
    clear hK
    go_wp2
    refine HK.out _ _ ?_
    clear HK
    refine wp_seq_k (fun K hK => ?_)
    have HK := Lib.hid hK
    clear hK
    go_wp2_with fail
    have hbd := (Below.refl w3.heap.size w3).drew
    have F4 := tr_bl hbd C3
    have T11 := tr_bl hbd T3
    have hb14 := hb4.trans (hbd.mono hb4.size)
    have ho11 := ho3.below hbd
    clear C3 T3 hb4 ho3 q0 q1 q2
    refine wp_region_held_drew (S := fun w' => w'.heap[q]? = some (.cells #[.int .i64 tg.rep, .int .i64 tg.reg, .int .i64 tg.pla, .int .i64 tg.idx, .int .i64 tg.inc] 33 (0, 0))) (by kernel_rfl) T11 (fun hS0 => ?_)
    clear hbd
    generalize w3.drew = x0 at *
    refine wpAnyH_take (i := 0) (oi := ⟨_, _, _, _, _, _⟩) (v := ?_) rfl (by kernel_rfl) (by kernel_rfl) (by kernel_rfl) (fun _ _ _ h => h) (Or.inl ⟨by rfl, ?_⟩) (by assumption) ?_
    rotate_left
    · intro wS hSw; go_simp; (try with_reducible rfl)
    (try simp only [Act.put]); (try simp only [List.setIfInBounds_toArray]); (try simp only [List.set_cons_succ]); (try simp only [List.set_cons_zero])
    refine wpAnyH_take (i := 1) (oi := ⟨_, _, _, _, _, _⟩) (v := .agg (#[.int .i64 tg.rep, .int .i64 tg.reg, .int .i64 tg.pla, .int .i64 tg.idx, .int .i64 tg.inc])) rfl (by kernel_rfl) (by kernel_rfl) (by kernel_rfl) (fun _ _ _ h => h) (Or.inl ⟨by rfl, fun wS hSw => ?_⟩) (by assumption) ?_
    · exact exec_ldB 33 _ ⟨_, _, _, _, _, Tryz.isAgg33, Tryz.sizeOf33, rfl, hSw, ld5 _ _ _ _ _⟩
    (try simp only [Act.put]); (try simp only [List.setIfInBounds_toArray]); (try simp only [List.set_cons_succ]); (try simp only [List.set_cons_zero])
    refine wpAnyH_take (i := 2) (oi := ⟨_, _, _, _, _, _⟩) (v := ?_) rfl (by kernel_rfl) (by kernel_rfl) (by kernel_rfl) (fun _ _ _ h => h) (Or.inl ⟨by rfl, ?_⟩) (by assumption) ?_
    rotate_left
    · intro wS hSw; go_simp; (try with_reducible rfl)
    (try simp only [Act.put]); (try simp only [List.setIfInBounds_toArray]); (try simp only [List.set_cons_succ]); (try simp only [List.set_cons_zero])
    refine wpAnyH_take (i := 3) (oi := ⟨_, _, _, _, _, _⟩) (v := ?_) rfl (by kernel_rfl) (by kernel_rfl) (by kernel_rfl) (fun _ _ _ h => h) (Or.inl ⟨by rfl, ?_⟩) (by assumption) ?_
    rotate_left
    · intro wS hSw; go_simp; (try with_reducible rfl)
    (try simp only [Act.put]); (try simp only [List.setIfInBounds_toArray]); (try simp only [List.set_cons_succ]); (try simp only [List.set_cons_zero])
    refine wpAnyH_ready (rs := [4]) (by kernel_rfl) (by simp) ?_
    refine AllReadyH.cons (o := ⟨_, _, _, _, _, _⟩) rfl (fun K' hK' => ?_) AllReadyH.nil
    refine (if_pos (by rfl)).mpr ?_
    refine wp_stB 33 _ _ ?_
    refine ⟨_, _, _, ⟨_, _, _, Tryz.sizeOf33, rfl, F4, st5 _ rfl tg.rep tg.reg tg.pla tg.idx tg.inc⟩, ?_⟩
    intro w11 B11 g11
    refine hK'.out _ _ (tr_st g11 hS0 (by omega)) (fun _ => ?_)
    clear hK'
    (try simp only [Act.put]); (try simp only [List.setIfInBounds_toArray]); (try simp only [List.set_cons_succ]); (try simp only [List.set_cons_zero])
    refine wpAnyH_take (i := 5) (oi := ⟨_, _, _, _, _, _⟩) (v := ?_) rfl (by kernel_rfl) (by kernel_rfl) (by kernel_rfl) (fun _ _ _ h => h) (Or.inl ⟨by rfl, ?_⟩) (by assumption) ?_
    rotate_left
    · intro wS hSw; go_simp; (try with_reducible rfl)
    (try simp only [Act.put]); (try simp only [List.setIfInBounds_toArray]); (try simp only [List.set_cons_succ]); (try simp only [List.set_cons_zero])
    refine wpAnyH_done (by kernel_rfl) ?_ _
    refine HK.out _ _ ?_
    clear HK
    go_wp2
    refine bodyPost_ret (results_t1c1t1 rfl rfl (run_loadVar_all Tryz.isAgg33 Tryz.sizeOf33 B11 rfl)) rfl ⟨⟨a2, c2, rfl, ho11.st g11 F4 (by decide)⟩, bl_st hb14 g11 hb14.size (Nat.le_refl _)⟩
  case pos =>
    subst hst
    have h0 : (((1 : Nat) : Int) == 1) = true := rfl
    by_cases h1 : tg.rep = rep
    case neg =>
      rw [if_pos ⟨rfl, .inl h1⟩]
      have e1 : (tg.rep != rep) = true := by rw [bne_iff_ne]; exact h1
      go_enter Tryz.func50, Tryz.ntmps50
      refine wp_seq_k (fun K hK => ?_)
      have HK := Lib.hid hK
      clear hK
      go_wp2
      refine HK.out _ _ ?_
      clear HK
      refine wp_seq_k (fun K hK => ?_)
      have HK := Lib.hid hK
      clear hK
      go_wp2_with (go_at_call 109; refine (open_any a cap l _ (hs.below hbB) hl).mono ?_; rintro e w2 ⟨⟨a2, c2, rfl, ho2⟩, hb2⟩; rw [HR.out] at ho2; rw [HR.out]; have A3 := tr_bl hb2 B3)
      refine HK.out _ _ ?_
      clear HK
      have C3 := tr_al (Obj.cells #[.int .i64 tg.rep, .int .i64 tg.reg, .int .i64 tg.pla, .int .i64 tg.idx, .int .i64 tg.inc] 33) A3
      have T3 := heap_alloc_new w2 (Obj.cells #[.int .i64 tg.rep, .int .i64 tg.reg, .int .i64 tg.pla, .int .i64 tg.idx, .int .i64 tg.inc] 33)
      have hb3 := hbB.trans (hb2.mono hbB.size)
      have hb4 := hb3.alloc hb3.size (Obj.cells #[.int .i64 tg.rep, .int .i64 tg.reg, .int .i64 tg.pla, .int .i64 tg.idx, .int .i64 tg.inc] 33)
      have hq : w.heap.size < w2.heap.size := lt_blk A3
      have ho3 := (ho2.mono hbB.size).below (blw w2 (Obj.cells #[.int .i64 tg.rep, .int .i64 tg.reg, .int .i64 tg.pla, .int .i64 tg.idx, .int .i64 tg.inc] 33))
      clear A3 hb2 hb3 ho2
      generalize w2.alloc (Obj.cells #[.int .i64 tg.rep, .int .i64 tg.reg, .int .i64 tg.pla, .int .i64 tg.idx, .int .i64 tg.inc] 33) = w3 at *
      generalize w2.heap.size = q at *
      have q0 := blk_cell T3 0 _ rfl
      have q1 := blk_cell T3 1 _ rfl
      have q2 := blk_cell T3 2 _ rfl
      go_wp2_with ((with_reducible refine wpList_stB 33 _ _ ?_); refine ⟨_, _, _, ⟨_, _, _, Tryz.sizeOf33, rfl, C3, st5 _ rfl 0 0 0 0 0⟩, ?_⟩; intro w5 B5 g5)
      refine bodyPost_ret (results_t1c1t1 rfl rfl (run_loadVar_all Tryz.isAgg33 Tryz.sizeOf33 B5 rfl)) rfl ⟨FrRes.none rfl, bl_st hb4 g5 hb4.size (Nat.le_refl _)⟩
    case pos =>
      have e1 : (tg.rep != rep) = false := by simpa using h1
      by_cases h2 : tg.reg = reg
      case neg =>
        rw [if_pos ⟨rfl, .inr (.inl h2)⟩]
        have e2 : (tg.reg != reg) = true := by rw [bne_iff_ne]; exact h2
        clear h1
        go_enter Tryz.func50, Tryz.ntmps50
        refine wp_seq_k (fun K hK => ?_)
        have HK := Lib.hid hK
        clear hK
        go_wp2
        refine HK.out _ _ ?_
        clear HK
        refine wp_seq_k (fun K hK => ?_)
        have HK := Lib.hid hK
        clear hK
        go_wp2_with (go_at_call 109; refine (open_any a cap l _ (hs.below hbB) hl).mono ?_; rintro e w2 ⟨⟨a2, c2, rfl, ho2⟩, hb2⟩; rw [HR.out] at ho2; rw [HR.out]; have A3 := tr_bl hb2 B3)
        refine HK.out _ _ ?_
        clear HK
        have C3 := tr_al (Obj.cells #[.int .i64 tg.rep, .int .i64 tg.reg, .int .i64 tg.pla, .int .i64 tg.idx, .int .i64 tg.inc] 33) A3
        have T3 := heap_alloc_new w2 (Obj.cells #[.int .i64 tg.rep, .int .i64 tg.reg, .int .i64 tg.pla, .int .i64 tg.idx, .int .i64 tg.inc] 33)
        have hb3 := hbB.trans (hb2.mono hbB.size)
        have hb4 := hb3.alloc hb3.size (Obj.cells #[.int .i64 tg.rep, .int .i64 tg.reg, .int .i64 tg.pla, .int .i64 tg.idx, .int .i64 tg.inc] 33)
        have hq : w.heap.size < w2.heap.size := lt_blk A3
        have ho3 := (ho2.mono hbB.size).below (blw w2 (Obj.cells #[.int .i64 tg.rep, .int .i64 tg.reg, .int .i64 tg.pla, .int .i64 tg.idx, .int .i64 tg.inc] 33))
        clear A3 hb2 hb3 ho2
        generalize w2.alloc (Obj.cells #[.int .i64 tg.rep, .int .i64 tg.reg, .int .i64 tg.pla, .int .i64 tg.idx, .int .i64 tg.inc] 33) = w3 at *
        generalize w2.heap.size = q at *
        have q0 := blk_cell T3 0 _ rfl
        have q1 := blk_cell T3 1 _ rfl
        have q2 := blk_cell T3 2 _ rfl
        go_wp2_with ((with_reducible refine wpList_stB 33 _ _ ?_); refine ⟨_, _, _, ⟨_, _, _, Tryz.sizeOf33, rfl, C3, st5 _ rfl 0 0 0 0 0⟩, ?_⟩; intro w5 B5 g5)
        refine bodyPost_ret (results_t1c1t1 rfl rfl (run_loadVar_all Tryz.isAgg33 Tryz.sizeOf33 B5 rfl)) rfl ⟨FrRes.none rfl, bl_st hb4 g5 hb4.size (Nat.le_refl _)⟩
      case pos =>
        have e2 : (tg.reg != reg) = false := by simpa using h2
        by_cases h3 : tg.pla = pla
        case neg =>
          rw [if_pos ⟨rfl, .inr (.inr h3)⟩]
          have e3 : (tg.pla != pla) = true := by rw [bne_iff_ne]; exact h3
          clear h1 h2
          go_enter Tryz.func50, Tryz.ntmps50
          refine wp_seq_k (fun K hK => ?_)
          have HK := Lib.hid hK
          clear hK
          go_wp2
          refine HK.out _ _ ?_
          clear HK
          refine wp_seq_k (fun K hK => ?_)
          have HK := Lib.hid hK
          clear hK
          go_wp2_with (go_at_call 109; refine (open_any a cap l _ (hs.below hbB) hl).mono ?_; rintro e w2 ⟨⟨a2, c2, rfl, ho2⟩, hb2⟩; rw [HR.out] at ho2; rw [HR.out]; have A3 := tr_bl hb2 B3)
          refine HK.out _ _ ?_
          clear HK
          have C3 := tr_al (Obj.cells #[.int .i64 tg.rep, .int .i64 tg.reg, .int .i64 tg.pla, .int .i64 tg.idx, .int .i64 tg.inc] 33) A3
          have T3 := heap_alloc_new w2 (Obj.cells #[.int .i64 tg.rep, .int .i64 tg.reg, .int .i64 tg.pla, .int .i64 tg.idx, .int .i64 tg.inc] 33)
          have hb3 := hbB.trans (hb2.mono hbB.size)
          have hb4 := hb3.alloc hb3.size (Obj.cells #[.int .i64 tg.rep, .int .i64 tg.reg, .int .i64 tg.pla, .int .i64 tg.idx, .int .i64 tg.inc] 33)
          have hq : w.heap.size < w2.heap.size := lt_blk A3
          have ho3 := (ho2.mono hbB.size).below (blw w2 (Obj.cells #[.int .i64 tg.rep, .int .i64 tg.reg, .int .i64 tg.pla, .int .i64 tg.idx, .int .i64 tg.inc] 33))
          clear A3 hb2 hb3 ho2
          generalize w2.alloc (Obj.cells #[.int .i64 tg.rep, .int .i64 tg.reg, .int .i64 tg.pla, .int .i64 tg.idx, .int .i64 tg.inc] 33) = w3 at *
          generalize w2.heap.size = q at *
          have q0 := blk_cell T3 0 _ rfl
          have q1 := blk_cell T3 1 _ rfl
          have q2 := blk_cell T3 2 _ rfl
          go_wp2_with ((with_reducible refine wpList_stB 33 _ _ ?_); refine ⟨_, _, _, ⟨_, _, _, Tryz.sizeOf33, rfl, C3, st5 _ rfl 0 0 0 0 0⟩, ?_⟩; intro w5 B5 g5)
          refine bodyPost_ret (results_t1c1t1 rfl rfl (run_loadVar_all Tryz.isAgg33 Tryz.sizeOf33 B5 rfl)) rfl ⟨FrRes.none rfl, bl_st hb4 g5 hb4.size (Nat.le_refl _)⟩
        case pos =>
          rw [if_neg (by rintro ⟨_, h | h | h⟩ <;> contradiction)]
          have e3 : (tg.pla != pla) = false := by simpa using h3
          clear h1 h2 h3
          go_enter Tryz.func50, Tryz.ntmps50
          refine wp_seq_k (fun K hK => ?_)
          have HK := Lib.hid hK
          clear hK
          go_wp2
          refine HK.out _ _ ?_
          clear HK
          refine wp_seq_k (fun K hK => ?_)
          have HK := Lib.hid hK
          clear hK
          go_wp2_with (go_at_call 109; refine (open_any a cap l _ (hs.below hbB) hl).mono ?_; rintro e w2 ⟨⟨a2, c2, rfl, ho2⟩, hb2⟩; rw [HR.out] at ho2; rw [HR.out]; have A3 := tr_bl hb2 B3)
          refine HK.out _ _ ?_
          clear HK
          have C3 := tr_al (Obj.cells #[.int .i64 tg.rep, .int .i64 tg.reg, .int .i64 tg.pla, .int .i64 tg.idx, .int .i64 tg.inc] 33) A3
          have T3 := heap_alloc_new w2 (Obj.cells #[.int .i64 tg.rep, .int .i64 tg.reg, .int .i64 tg.pla, .int .i64 tg.idx, .int .i64 tg.inc] 33)
          have hb3 := hbB.trans (hb2.mono hbB.size)
          have hb4 := hb3.alloc hb3.size (Obj.cells #[.int .i64 tg.rep, .int .i64 tg.reg, .int .i64 tg.pla, .int .i64 tg.idx, .int .i64 tg.inc] 33)
          have hq : w.heap.size < w2.heap.size := lt_blk A3
          have ho3 := (ho2.mono hbB.size).below (blw w2 (Obj.cells #[.int .i64 tg.rep, .int .i64 tg.reg, .int .i64 tg.pla, .int .i64 tg.idx, .int .i64 tg.inc] 33))
          clear A3 hb2 hb3 ho2
          generalize w2.alloc (Obj.cells #[.int .i64 tg.rep, .int .i64 tg.reg, .int .i64 tg.pla, .int .i64 tg.idx, .int .i64 tg.inc] 33) = w3 at *
          generalize w2.heap.size = q at *
          have q0 := blk_cell T3 0 _ rfl
          have q1 := blk_cell T3 1 _ rfl
          have q2 := blk_cell T3 2 _ rfl
          refine wp_seq_k (fun K hK => ?_)
          have HK := Lib.hid hK
          clear hK
          go_wp2
          refine HK.out _ _ ?_
          clear HK
          refine wp_seq_k (fun K hK => ?_)
          have HK := Lib.hid hK
          clear hK
          go_wp2_with fail
          have hbd := (Below.refl w3.heap.size w3).drew
          have F4 := tr_bl hbd C3
          have T11 := tr_bl hbd T3
          have hb14 := hb4.trans (hbd.mono hb4.size)
          have ho11 := ho3.below hbd
          clear C3 T3 hb4 ho3 q0 q1 q2
          refine wp_region_held_drew (S := fun w' => w'.heap[q]? = some (.cells #[.int .i64 tg.rep, .int .i64 tg.reg, .int .i64 tg.pla, .int .i64 tg.idx, .int .i64 tg.inc] 33 (0, 0))) (by kernel_rfl) T11 (fun hS0 => ?_)
          clear hbd
          generalize w3.drew = x0 at *
          refine wpAnyH_take (i := 0) (oi := ⟨_, _, _, _, _, _⟩) (v := ?_) rfl (by kernel_rfl) (by kernel_rfl) (by kernel_rfl) (fun _ _ _ h => h) (Or.inl ⟨by rfl, ?_⟩) (by assumption) ?_
          rotate_left
          · intro wS hSw; go_simp; (try with_reducible rfl)
          (try simp only [Act.put]); (try simp only [List.setIfInBounds_toArray]); (try simp only [List.set_cons_succ]); (try simp only [List.set_cons_zero])
          refine wpAnyH_take (i := 1) (oi := ⟨_, _, _, _, _, _⟩) (v := .agg (#[.int .i64 tg.rep, .int .i64 tg.reg, .int .i64 tg.pla, .int .i64 tg.idx, .int .i64 tg.inc])) rfl (by kernel_rfl) (by kernel_rfl) (by kernel_rfl) (fun _ _ _ h => h) (Or.inl ⟨by rfl, fun wS hSw => ?_⟩) (by assumption) ?_
          · exact exec_ldB 33 _ ⟨_, _, _, _, _, Tryz.isAgg33, Tryz.sizeOf33, rfl, hSw, ld5 _ _ _ _ _⟩
          (try simp only [Act.put]); (try simp only [List.setIfInBounds_toArray]); (try simp only [List.set_cons_succ]); (try simp only [List.set_cons_zero])
          refine wpAnyH_take (i := 2) (oi := ⟨_, _, _, _, _, _⟩) (v := ?_) rfl (by kernel_rfl) (by kernel_rfl) (by kernel_rfl) (fun _ _ _ h => h) (Or.inl ⟨by rfl, ?_⟩) (by assumption) ?_
          rotate_left
          · intro wS hSw; go_simp; (try with_reducible rfl)
          (try simp only [Act.put]); (try simp only [List.setIfInBounds_toArray]); (try simp only [List.set_cons_succ]); (try simp only [List.set_cons_zero])
          refine wpAnyH_take (i := 3) (oi := ⟨_, _, _, _, _, _⟩) (v := ?_) rfl (by kernel_rfl) (by kernel_rfl) (by kernel_rfl) (fun _ _ _ h => h) (Or.inl ⟨by rfl, ?_⟩) (by assumption) ?_
          rotate_left
          · intro wS hSw; go_simp; (try with_reducible rfl)
          (try simp only [Act.put]); (try simp only [List.setIfInBounds_toArray]); (try simp only [List.set_cons_succ]); (try simp only [List.set_cons_zero])
          refine wpAnyH_ready (rs := [4]) (by kernel_rfl) (by simp) ?_
          refine AllReadyH.cons (o := ⟨_, _, _, _, _, _⟩) rfl (fun K' hK' => ?_) AllReadyH.nil
          refine (if_pos (by rfl)).mpr ?_
          refine wp_stB 33 _ _ ?_
          refine ⟨_, _, _, ⟨_, _, _, Tryz.sizeOf33, rfl, F4, st5 _ rfl tg.rep tg.reg tg.pla tg.idx tg.inc⟩, ?_⟩
          intro w11 B11 g11
          refine hK'.out _ _ (tr_st g11 hS0 (by omega)) (fun _ => ?_)
          clear hK'
          (try simp only [Act.put]); (try simp only [List.setIfInBounds_toArray]); (try simp only [List.set_cons_succ]); (try simp only [List.set_cons_zero])
          refine wpAnyH_take (i := 5) (oi := ⟨_, _, _, _, _, _⟩) (v := ?_) rfl (by kernel_rfl) (by kernel_rfl) (by kernel_rfl) (fun _ _ _ h => h) (Or.inl ⟨by rfl, ?_⟩) (by assumption) ?_
          rotate_left
          · intro wS hSw; go_simp; (try with_reducible rfl)
          (try simp only [Act.put]); (try simp only [List.setIfInBounds_toArray]); (try simp only [List.set_cons_succ]); (try simp only [List.set_cons_zero])
          refine wpAnyH_done (by kernel_rfl) ?_ _
          refine HK.out _ _ ?_
          clear HK
          go_wp2
          refine bodyPost_ret (results_t1c1t1 rfl rfl (run_loadVar_all Tryz.isAgg33 Tryz.sizeOf33 B11 rfl)) rfl ⟨⟨a2, c2, rfl, ho11.st g11 F4 (by decide)⟩, bl_st hb14 g11 hb14.size (Nat.le_refl _)⟩
end Go.Proofs.YtddddemclhlfaaaGreatDoor
namespace Go.Proofs.YtddddemclhlfaaaGreatDoor
open Go.RowKit
def txB (l : List UInt8) : ByteArray := ⟨l.toArray⟩
theorem conv_bys (ad : Option Addr) (c : Nat) (p : List UInt8) (w : World) (h : Row w ad (bys p)) : (convert 34 9 (.slice ad p.length c)).run Tryz.prog w = .ok (.string (txB p)) w := by
  cases ad with
  | none =>
    have hp : p = [] := by
      rcases h with h | ⟨b, off, ha, _⟩
      · have := congrArg List.length h
        rw [bys_len] at this
        exact List.eq_nil_of_length_eq_zero this
      · cases ha
    subst hp
    exact run_convert_bytes_nil w _ _ Tryz.underlying34 Tryz.underlying5 _ _ _ Tryz.underlying9
  | some ad =>
    refine run_convert_bytes_back (P := Tryz.prog) w _ _ 5 ad c p Tryz.underlying34 Tryz.underlying5 Tryz.underlying9 (fun j hj => ?_)
    obtain ⟨b, off, ha, hc⟩ := h.at (k := j) (by rw [bys_len]; exact hj)
    injection ha with ha
    subst ha
    rw [addr_add]
    exact hc j _ (by simp [bys, hj, byv])
set_option maxRecDepth 100000 in
theorem equal_any (a b : Option Addr) (c d : Nat) (l m : List UInt8) (w : World) (hl : Row w a (bys l)) (hm : Row w b (bys m)) : Calls Tryz.prog 106 #[.slice a l.length c, .slice b m.length d] w fun e w' => e = .returned (.bool (decide (l = m))) ∧ w = w' := by
  have h1 := conv_bys a c l w hl
  have h2 := conv_bys b d m w hm
  by_cases h : l = m
  · subst h
    rw [decide_eq_true rfl]
    go_enter Tryz.func106, Tryz.ntmps106
    go_wp2
    go_ret
    exact ⟨rfl, rfl⟩
  · rw [decide_eq_false h]
    have hlst : ∀ l : List UInt8, (txB l).toList = l := fun l => by
      rw [ByteArray.toList_eq]
      rfl
    have hne : ((txB l).toList == (txB m).toList) = false := by
      rw [hlst, hlst, beq_eq_false_iff_ne]
      exact h
    clear hlst
    go_enter Tryz.func106, Tryz.ntmps106
    go_wp2
    go_ret
    exact ⟨rfl, rfl⟩
end Go.Proofs.YtddddemclhlfaaaGreatDoor
namespace Go.Proofs.YtddddemclhlfaaaGreatDoor
open Go.RowKit
theorem rest_nil {d : Dk} {s : Int} (h : ¬ ((restD d s).2.2 = 0 ∧ (restD d s).2.1 = false)) : (restD d s).1 = [] := by
  unfold restD at h ⊢
  split
  · rfl
  · rename_i h0
    rw [if_neg h0] at h
    split
    · rfl
    · rename_i h1
      rw [if_neg h1] at h
      exact absurd ⟨rfl, rfl⟩ h
theorem owns64 {w : World} {base : Nat} {a : Option Addr} {c : Nat} {l : List UInt8} (h : w.ownsRow base 5 1 (.slice a 64 c) 64 (bys l)) : l.length = 64 ∧ SlB w a c l := by
  have hl : l.length = 64 := by
    have := h.1
    rw [bys_len] at this
    omega
  rw [← hl] at h
  obtain ⟨a', c', e, hs⟩ := SlB.of_owns h
  injection e with e1 e2 e3
  subst e1 e3
  exact ⟨hl, hs⟩
theorem slb_nil (w : World) : SlB w none 0 [] := ⟨.inl rfl, Nat.le_refl _, by simp, fun _ => rfl⟩
theorem RestRes.slb {base : Nat} {d : Dk} {s : Int} {e : Ending} {w' : World} (h : RestRes base (restD d s) e w') : ∃ a c, e = .returned (.tuple #[.slice a (restD d s).1.length c, .bool (restD d s).2.1, .int .i64 (restD d s).2.2]) ∧ SlB w' a c (restD d s).1 := by
  have hn := @rest_nil d s
  generalize restD d s = r at *
  unfold RestRes at h
  split at h
  · rename_i h0
    obtain ⟨a, c, he, ho⟩ := h
    obtain ⟨h1, h2⟩ := owns64 ho
    refine ⟨a, c, ?_, h2⟩
    rw [he, h1, h0.1, h0.2]
  · rename_i h0
    have := hn h0
    rw [this]
    exact ⟨none, 0, h, slb_nil w'⟩
theorem ReadRes.slb {base : Nat} {r : List UInt8 × Int} {e : Ending} {w' : World} (h : ReadRes base r e w') (hn : ¬ r.2 = 0 → r.1 = []) : ∃ a c, e = .returned (.tuple #[.slice a r.1.length c, .int .i64 r.2]) ∧ SlB w' a c r.1 := by
  unfold ReadRes at h
  split at h
  · rename_i h0
    obtain ⟨a, c, he, ho⟩ := h
    obtain ⟨h1, h2⟩ := owns64 ho
    refine ⟨a, c, ?_, h2⟩
    rw [he, h1, h0]
  · rename_i h0
    rw [hn h0]
    exact ⟨none, 0, h, slb_nil w'⟩
section
variable {B g gp : Nat} {wv : Value} {d : Dk} {w : World}
theorem rest_sl (h : DiskB B g gp wv d w) (s : Int) : Calls Tryz.prog 34 #[.pointer (some ⟨g, 0, none⟩), .int .i64 s] w fun e w' => (∃ a c, e = .returned (.tuple #[.slice a (restD d s).1.length c, .bool (restD d s).2.1, .int .i64 (restD d s).2.2]) ∧ SlB w' a c (restD d s).1) ∧ Below w.heap.size w w' :=
  (rest_any h s).mono fun _ _ hh => ⟨hh.1.slb, hh.2⟩
end
end Go.Proofs.YtddddemclhlfaaaGreatDoor
namespace Go.Proofs.YtddddemclhlfaaaGreatDoor
open Go.RowKit
theorem getD_pl {d : Dk} {s : Nat} {p : Pl} (h : d.pl[s]? = some p) : d.pl.getD s zeroPl = p := by rw [List.getD_eq_getElem?_getD, h]; rfl
theorem lastW_snoc {b : List UInt8} {k s : Nat} : ∀ (l : List (List UInt8 × Nat)), lastW (l ++ [(b, k)]) s = if k = s then some b else lastW l s
  | [] => by simp [lastW]
  | (c, j) :: l => by
    simp only [List.cons_append, lastW, lastW_snoc l]
    by_cases h : k = s
    · simp [h]
    · simp [h]
theorem take_snocL {α : Type} {l : List α} {k : Nat} {x : α} (h : l[k]? = some x) : l.take (k + 1) = l.take k ++ [x] := by
  rw [List.take_add_one, h]
  rfl
theorem live_isD {d : Dk} (h : 0 < d.pl.length) (s : Int) : liveD d s = if d.down = true ∨ d.dead = true then 5 else thereD d s := by
  unfold liveD
  by_cases hx : d.down = true ∨ d.dead = true
  · rw [if_pos ⟨h, hx⟩, if_pos hx]
  · rw [if_neg (fun hh => hx hh.2), if_neg hx]
section
variable {B g : Nat} {q : RQ} {d : Dk} {w w' : World}
theorem RefB.wait_at (h : RefB B g q d w) {k : Nat} {b : List UInt8} {s : Nat} (hk : d.waits[k]? = some (b, s)) : ∃ gw cw x, q.wv = .slice (some ⟨gw, 0, none⟩) d.waits.length cw ∧ w.cell? ⟨gw, k * 2, none⟩ = some (.int .i64 (s : Int)) ∧ w.cell? ⟨gw, k * 2 + 1, none⟩ = some (slv x) ∧ SecB B w x b ∧ b.length = 64 ∧ s < d.pl.length := by
  have hlt := (List.getElem?_eq_some_iff.1 hk).1
  obtain ⟨gw, cw, hv, _⟩ := owns_some h.wts (by omega)
  have hl : k < q.wa.length := by rw [h.lw]; exact hlt
  have hx := List.getElem?_eq_getElem hl
  have hz : (d.waits.zip q.wa)[k]? = some ((b, s), q.wa[k]) := by rw [List.getElem?_zip_eq_some]; exact ⟨hk, hx⟩
  have hw := h.wts
  rw [hv] at hw
  have hwk := h.wk _ (List.mem_of_getElem? hk)
  refine ⟨gw, cw, q.wa[k], hv, ?_, ?_, h.ws k _ _ hx hk, hwk.1, hwk.2⟩
  · rw [hw.cellAt _ (by omega)]
    have := flat_at rwC_len hz 0 _ rfl
    simpa using this
  · rw [hw.cellAt _ (by omega)]
    exact flat_at rwC_len hz 1 _ rfl
set_option maxRecDepth 100000 in
theorem rat_any (h : RefB B g q d w) (s : Int) : Calls Tryz.prog 35 #[.pointer (some ⟨g, 0, none⟩), .int .i64 s] w fun e w' => (∃ a c, e = .returned (.tuple #[.slice a (restD d s).1.length c, .bool (restD d s).2.1, .int .i64 (restD d s).2.2]) ∧ SlB w' a c (restD d s).1) ∧ Below w.heap.size w w' := by
  have hh := rhas_any h s
  unfold restD
  by_cases h0 : thereD d s = 0
  · rw [if_neg (by simpa using h0)]
    obtain ⟨k, rfl, hk⟩ := there_nat h.n0 h0
    rw [h0] at hh
    simp only [Int.toNat_natCast]
    obtain ⟨p, hp⟩ : ∃ p, d.pl[k]? = some p := ⟨_, List.getElem?_eq_getElem hk⟩
    rw [getD_pl hp]
    have c0 := h.c0
    have c2 := h.c2
    have ex := h.lo_at hp
    obtain ⟨x, hx, cx⟩ := h.ra_at hk
    have hok := (h.ok p (List.mem_of_getElem? hp)).1
    have hsl := (h.rs k x p hx hp).slb hok
    unfold slv at cx
    clear hp hx h0
    rcases two_b p.lost with e1 | e1
    · rw [e1] at ex ⊢
      rw [if_neg (by simp)]
      have hlen : p.rest.length ≤ 1000000 := by omega
      have HO := Lib.hid hok
      have hcp := copy_any _ _ _ w hsl hlen
      rw [hok] at hcp
      clear hok hlen e1
      go_enter Tryz.func35, Tryz.ntmps35
      go_wp2_with (first
        | (go_at_call 79; refine hh.mono ?_; rintro e w1 ⟨rfl, rfl⟩)
        | (go_at_call 21; refine hcp.mono ?_; rintro e w2 ⟨⟨v2, rfl, hO2⟩, hb2⟩))
      go_ret3
      have hO3 : w2.ownsRow w.heap.size 5 1 v2 p.rest.length (bys p.rest) := by rw [HO.out]; exact hO2
      obtain ⟨a, c, rfl, hs2⟩ := SlB.of_owns hO3
      exact ⟨⟨a, c, rfl, hs2⟩, hb2⟩
    · rw [e1] at ex ⊢
      rw [if_pos rfl]
      clear e1
      go_enter Tryz.func35, Tryz.ntmps35
      go_wp2_with (go_at_call 79; refine hh.mono ?_; rintro e w1 ⟨rfl, rfl⟩)
      go_ret3
      exact ⟨⟨none, 0, rfl, slb_nil _⟩, Below.refl _ _⟩
  · rw [if_pos (by simpa using h0)]
    have h2 := there_two h.n0 h0
    rw [h2] at hh ⊢
    clear h2 h0
    go_enter Tryz.func35, Tryz.ntmps35
    go_wp2_with (go_at_call 79; refine hh.mono ?_; rintro e w1 ⟨rfl, rfl⟩)
    go_ret3
    exact ⟨⟨none, 0, rfl, slb_nil _⟩, Below.refl _ _⟩
def FoundR (l : List (List UInt8 × Nat)) (s : Nat) (f : Int) : Prop := (f = -1 ∧ lastW l s = none) ∨ ∃ (j : Nat) (b : List UInt8), f = j ∧ l[j]? = some (b, s) ∧ lastW l s = some b
set_option maxRecDepth 100000 in
set_option maxHeartbeats 1000000 in
theorem rread_any (h : RefB B g q d w) (s : Int) : Calls Tryz.prog 116 #[.pointer (some ⟨g, 0, none⟩), .int .i64 s] w fun e w' => (∃ a c, e = .returned (.tuple #[.slice a (readD d s).1.length c, .int .i64 (readD d s).2]) ∧ SlB w' a c (readD d s).1) ∧ Below w.heap.size w w' := by
  have hh := rhas_any h s
  have hli := live_isD h.n0 s
  have c4 := h.c4
  have c5 := h.c5
  unfold readD
  rcases two_b d.down with e1 | e1
  · rcases two_b d.dead with e2 | e2
    · have hl0 : liveD d s = thereD d s := by rw [hli, if_neg (by rw [e1, e2]; simp)]
      rw [hl0]
      rw [e1] at c4
      rw [e2] at c5
      clear hli hl0 e1 e2
      by_cases h0 : thereD d s = 0
      case neg =>
        rw [if_pos (by simpa using h0)]
        have h2 := there_two h.n0 h0
        rw [h2] at hh ⊢
        clear h2 h0
        go_enter Tryz.func116, Tryz.ntmps116
        go_wp2_with (go_at_call 79; refine hh.mono ?_; rintro e w1 ⟨rfl, rfl⟩)
        go_ret2
        exact ⟨⟨none, 0, rfl, slb_nil _⟩, Below.refl _ _⟩
      case pos =>
        rw [if_neg (by simpa using h0)]
        obtain ⟨k, rfl, hk⟩ := there_nat h.n0 h0
        rw [h0] at hh
        simp only [Int.toNat_natCast]
        obtain ⟨gw, cw, hwv, _, hwc, hwm⟩ := Row.of_owns h.wts
        unfold maxLen at hwm
        have c3 := h.c3
        rw [hwv] at c3
        have HWV := Lib.hid hwv
        have HKL := Lib.hid hk
        clear h0 hwv hk
        go_enter Tryz.func116, Tryz.ntmps116
        refine wp_seq_k (fun K hK => ?_)
        have HK := Lib.hid hK
        clear hK
        go_wp2
        refine HK.out _ _ ?_
        clear HK
        refine wp_seq_k (fun K hK => ?_)
        have HK := Lib.hid hK
        clear hK
        go_wp2
        refine HK.out _ _ ?_
        clear HK
        refine wp_seq_k (fun K hK => ?_)
        have HK := Lib.hid hK
        clear hK
        go_wp2_with (go_at_call 79; refine hh.mono ?_; rintro e w1 ⟨rfl, rfl⟩)
        refine HK.out _ _ ?_
        clear HK
        refine wp_seq_k (fun K hK => ?_)
        have HK := Lib.hid hK
        clear hK
        go_wp2
        refine HK.out _ _ ?_
        clear HK
        refine wp_seq_k (fun K hK => ?_)
        go_cut [6] (fun v wx => ∃ f : Int, v = .int .i64 f ∧ Hid (FoundR d.waits k f) ∧ w = wx)
        case first =>
          go_wp2
          go_loop [6, 7] (fun v i => ∃ (j : Nat) (f : Int), j ≤ d.waits.length ∧ i = .int .i64 j ∧ v = .int .i64 f ∧ Hid (FoundR (d.waits.take j) k f)) (fun _ i => d.waits.length - (intOf i).toNat)
          case atStart => exact ⟨0, -1, by omega, rfl, rfl, Lib.hid (.inl ⟨rfl, rfl⟩)⟩
          case round =>
            obtain ⟨j, f, hj, rfl, rfl, HF⟩ := hrel
            by_cases hlt : j < d.waits.length
            case pos =>
              obtain ⟨⟨b, t⟩, hat⟩ : ∃ z, d.waits[j]? = some z := ⟨_, List.getElem?_eq_getElem hlt⟩
              obtain ⟨gw2, cw2, x, hv2, cs, _, _⟩ := h.wait_at hat
              have hve := HWV.out.symm.trans hv2
              injection hve with hv3 _ hv4
              subst hv3 hv4
              have htk := take_snocL hat
              by_cases hts : t = k
              case pos =>
                have HN : Hid (FoundR (d.waits.take (j + 1)) k j) := Lib.hid (by
                  rw [htk]
                  refine .inr ⟨j, b, rfl, ?_, ?_⟩
                  · rw [List.getElem?_append_right (by rw [List.length_take]; omega), List.length_take, Nat.min_eq_left (by omega), Nat.sub_self, hts]; rfl
                  · rw [lastW_snoc, if_pos hts])
                have hb : ((t : Int) == (k : Int)) = true := by rw [hts]; simp
                clear hat htk hts hv2
                go_wp2
                go_round
                case rel => exact ⟨j + 1, _, by omega, by go_num, rfl, HN⟩
                case measure => simp [intOf]; omega
              case neg =>
                have HN : Hid (FoundR (d.waits.take (j + 1)) k f) := Lib.hid (by
                  rw [htk]
                  rcases HF.out with ⟨h1, h2⟩ | ⟨i, c, h1, h2, h3⟩
                  · exact .inl ⟨h1, by rw [lastW_snoc, if_neg hts]; exact h2⟩
                  · exact .inr ⟨i, c, h1, by rw [List.getElem?_append_left (List.getElem?_eq_some_iff.1 h2).1]; exact h2, by rw [lastW_snoc, if_neg hts]; exact h3⟩)
                have hb : ((t : Int) == (k : Int)) = false := by rw [beq_eq_false_iff_ne]; omega
                clear hat htk hts hv2
                go_wp2
                go_round
                case rel => exact ⟨j + 1, _, by omega, by go_num, rfl, HN⟩
                case measure => simp [intOf]; omega
            case neg =>
              have HN : Hid (FoundR d.waits k f) := Lib.hid (by
                have := HF.out
                rw [List.take_of_length_le (by omega)] at this
                exact this)
              go_wp2
              go_meet
              exact ⟨f, rfl, HN, rfl⟩
        obtain ⟨f, rfl, HF, rfl⟩ := hcut
        refine hK _ _ ?_
        clear hK
        rcases HF.out with ⟨h1, h2⟩ | ⟨j, b, h1, h2, h3⟩
        · rw [h2]
          obtain ⟨p, hp⟩ : ∃ p, d.pl[k]? = some p := ⟨_, List.getElem?_eq_getElem HKL.out⟩
          simp only [hp]
          subst h1
          have c0 := h.c0
          have c2 := h.c2
          have ex := h.lo_at hp
          obtain ⟨x, hx, cx⟩ := h.ra_at HKL.out
          have hok := (h.ok p (List.mem_of_getElem? hp)).1
          have hsl := (h.rs k x p hx hp).slb hok
          have hk := HKL.out
          unfold slv at cx
          clear hp hx HF h2
          rcases two_b p.lost with e1 | e1
          · rw [e1] at ex ⊢
            simp only [Bool.false_eq_true, if_false]
            have hlen : p.rest.length ≤ 1000000 := by omega
            have HO := Lib.hid hok
            have hcp := copy_any _ _ _ w hsl hlen
            rw [hok] at hcp
            clear hok hlen e1
            go_wp2_with (go_at_call 21; refine hcp.mono ?_; rintro e w2 ⟨⟨v2, rfl, hO2⟩, hb2⟩)
            go_ret2
            have hO3 : w2.ownsRow w.heap.size 5 1 v2 p.rest.length (bys p.rest) := by rw [HO.out]; exact hO2
            obtain ⟨a, c, rfl, hs2⟩ := SlB.of_owns hO3
            exact ⟨⟨a, c, rfl, hs2⟩, hb2⟩
          · rw [e1] at ex ⊢
            simp only [if_true]
            clear e1
            go_wp2
            go_ret2
            exact ⟨⟨none, 0, rfl, slb_nil _⟩, Below.refl _ _⟩
        · rw [h3]
          simp only
          subst h1
          have hjl := (List.getElem?_eq_some_iff.1 h2).1
          obtain ⟨gw2, cw2, x, hv2, _, cx, hsec, hok, _⟩ := h.wait_at h2
          have hve := HWV.out.symm.trans hv2
          injection hve with hv3 _ hv4
          subst hv3 hv4
          have hsl := hsec.slb hok
          have hlen : b.length ≤ 1000000 := by omega
          have HO := Lib.hid hok
          have hcp := copy_any _ _ _ w hsl hlen
          rw [hok] at hcp
          unfold slv at cx
          clear hok hlen h2 h3 hv2 HF hsec
          go_wp2_with (go_at_call 21; refine hcp.mono ?_; rintro e w2 ⟨⟨v2, rfl, hO2⟩, hb2⟩)
          go_ret2
          have hO3 : w2.ownsRow w.heap.size 5 1 v2 b.length (bys b) := by rw [HO.out]; exact hO2
          obtain ⟨a, c, rfl, hs2⟩ := SlB.of_owns hO3
          exact ⟨⟨a, c, rfl, hs2⟩, hb2⟩
    · have hl5 : liveD d s = 5 := by rw [hli, if_pos (.inr e2)]
      rw [if_pos (by rw [hl5]; simp), hl5]
      rw [e1] at c4
      rw [e2] at c5
      clear hli hl5 e1 e2
      go_enter Tryz.func116, Tryz.ntmps116
      go_wp2
      go_ret2
      exact ⟨⟨none, 0, rfl, slb_nil _⟩, Below.refl _ _⟩
  · have hl5 : liveD d s = 5 := by rw [hli, if_pos (.inl e1)]
    rw [if_pos (by rw [hl5]; simp), hl5]
    rw [e1] at c4
    clear hli hl5 e1
    go_enter Tryz.func116, Tryz.ntmps116
    go_wp2
    go_ret2
    exact ⟨⟨none, 0, rfl, slb_nil _⟩, Below.refl _ _⟩
end
end Go.Proofs.YtddddemclhlfaaaGreatDoor
