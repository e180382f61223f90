/- Texts that the claim leans on, part 13: N1, N3, N4, N6, N7, N8, N9, N10. -/
import Derived.Test.YtejjneamngkmoaaDoorZ1
import Derived.Test.YtejjneamngkmoaaDoorZ2
import Derived.Test.YtejjneamngkmoaaDoorZ3
import Derived.Test.YtejjneamngkmoaaDoorZ4
import Derived.Test.YtejjneamngkmoaaDoorZ5
import Derived.Test.YtejjneamngkmoaaDoorZ6
import Derived.Test.YtejjneamngkmoaaDoorZ7
import Derived.Test.YtejjneamngkmoaaDoorZ8
import Derived.Test.YtejjneamngkmoaaDoorZ9
import Derived.Test.YtejjneamngkmoaaDoorZ10
import Derived.Test.YtejjneamngkmoaaDoorZ11
import Derived.Test.YtejjneamngkmoaaDoorZ12
import Derived.Test.YtejjneamngkmoaaDoorRows
import Derived.WalkKit
import Derived.WalkSpells
import Derived.WalkLawsBesides
import Derived.Handy
import Derived.Deep.QuietTactic
import Derived.BigQuiet
import Derived.Deep.DeepCutAuto
import Derived.Lib.Hide
import Derived.RegionTactic
import Derived.ChangeAlike
import Derived.Laws.StructEq
import Derived.StillTailTactics
import Derived.Deep.RegionWith
import Derived.Laws.ResultCell
import Derived.Outline
import Derived.OpenShut
import Derived.ChangeSlices
import Derived.ProofKit
import Derived.Lib.SmallJoins
import Derived.Deep.Slices
import Derived.Laws.IdiomStrings
import Derived.Laws.BytesArg
import Derived.Laws.MakeOwn
import Derived.Lib.SliceRun
import Derived.Laws.BitsAllLaws
import Derived.Great.BuildSlice
import Derived.Great.FillDense
import Derived.Laws.Rows
import Derived.Deep.Quiet
import Derived.Deep.RegionHeld3
import Derived.Laws.CopyOwn
import Derived.Laws.CopyRow
import Derived.Laws.NewBlocks
import Derived.Deep.RegionLaw
namespace Go.Proofs.YtejjneamngkmoaaDoor
open Go.RowKit

def balB (r p : Int) : Bool := decide (1 ≤ r) && decide (r ≤ 1099511627776) && decide (0 ≤ p) && decide (p < 7)
theorem balB_yes {r p : Int} (h : 1 ≤ r ∧ r ≤ 1099511627776 ∧ 0 ≤ p ∧ p < 7) : balB r p = true := by simp [balB, h]
theorem balB_no {r p : Int} (h : ¬ (1 ≤ r ∧ r ≤ 1099511627776 ∧ 0 ≤ p ∧ p < 7)) : balB r p = false := by
  cases hb : balB r p
  · rfl
  · simp [balB] at hb; omega
def mayM (r p i : Int) : Bool := (decide (r = 0) && decide (p = 0) || balB r p) && decide (1 ≤ i) && decide (i ≤ 1099511627776)

theorem ballot_any (r p : Int) (w : World) : Calls Tryd.prog 78 #[.agg #[.int .i64 r, .int .i64 p]] w fun e w' => e = .returned (.bool (balB r p)) ∧ w' = w.alloc (Obj.cells #[.int .i64 r, .int .i64 p] 86) := by
  by_cases h1 : 1 ≤ r
  · by_cases h2 : r ≤ 1099511627776
    · by_cases h3 : 0 ≤ p
      · by_cases h4 : p < 7
        all_goals
          go_enter Tryd.func78, Tryd.ntmps78
          go_wp2
          go_ret
          exact ⟨ret_bool (by first | rw [balB_yes (by omega)] | rw [balB_no (by omega)]), rfl⟩
      · go_enter Tryd.func78, Tryd.ntmps78
        go_wp2
        go_ret
        exact ⟨ret_bool (by rw [balB_no (by omega)]), rfl⟩
    · go_enter Tryd.func78, Tryd.ntmps78
      go_wp2
      go_ret
      exact ⟨ret_bool (by rw [balB_no (by omega)]), rfl⟩
  · go_enter Tryd.func78, Tryd.ntmps78
    go_wp2
    go_ret
    exact ⟨ret_bool (by rw [balB_no (by omega)]), rfl⟩

@[go_sem] theorem eqBallot (a b c d : Int) (w : World) : (Op.equalIn 10000 86 (.agg #[.int .i64 a, .int .i64 b]) (.agg #[.int .i64 c, .int .i64 d])).run Tryd.prog w = .ok (a == c && b == d) w := by
  have u3 := Tryd.underlying3
  have a3 := Tryd.isAgg3
  have z3 := Tryd.sizeOf3
  have hS : Tryd.prog.underlying 86 = some (.struct (Tryd.prog.fieldsOf 86)) := by kernel_rfl
  rw [show (10000 : Nat) = 9999 + 1 from rfl, run_equalIn_agg w 9999 86 _ _ hS (by kernel_rfl)]
  simp only [Program.fieldsOf, Tryd.underlying86]
  go_simp
  by_cases h1 : a = c <;> by_cases h2 : b = d <;> simp [h1, h2]

set_option maxRecDepth 20000 in
set_option maxHeartbeats 4000000 in
theorem may_any (r p i : Int) (w : World) : Calls Tryd.prog 45 #[.agg #[.int .i64 r, .int .i64 p, .int .i64 i]] w fun e w' => e = .returned (.bool (mayM r p i)) ∧ Below w.heap.size w w' := by
  unfold mayM
  have hcs : (1 ≤ i ∧ i ≤ 1099511627776) ∨ (1 ≤ i ∧ ¬ i ≤ 1099511627776) ∨ (¬ 1 ≤ i ∧ i ≤ 1099511627776) := by omega
  rcases hcs with ⟨hi, hj⟩ | ⟨hi, hj⟩ | ⟨hi, hj⟩
  all_goals
    by_cases hr : r = 0
    · subst hr
      by_cases hp : p = 0
      · subst hp
        go_enter Tryd.func45, Tryd.ntmps45
        go_wp2
        go_ret
        exact ⟨ret_bool (by simp [hi, hj]), by (repeat' (first | (with_reducible exact Below.refl _ _) | (with_reducible assumption) | (with_reducible refine Below.alloc ?_ ?_ _) | (with_reducible refine Below.drew ?_) | (with_reducible refine below_drewN ?_ _) | (with_reducible refine Below.setCell ?_ ?_ _) | (with_reducible refine Below.trans ?_ (by assumption)) | go_size))⟩
      · have HB := Lib.hid (show balB 0 p = false from balB_no (by omega))
        go_enter Tryd.func45, Tryd.ntmps45
        go_wp2_with (go_at_call 78; refine (ballot_any _ _ _).mono ?_; rintro e w' ⟨rfl, rfl⟩; rw [HB.out])
        go_ret
        exact ⟨ret_bool (by simp [hp, HB.out]), by (repeat' (first | (with_reducible exact Below.refl _ _) | (with_reducible assumption) | (with_reducible refine Below.alloc ?_ ?_ _) | (with_reducible refine Below.drew ?_) | (with_reducible refine below_drewN ?_ _) | (with_reducible refine Below.setCell ?_ ?_ _) | (with_reducible refine Below.trans ?_ (by assumption)) | go_size))⟩
    · cases hb : balB r p
      all_goals
        have HB := Lib.hid hb
        clear hb
        go_enter Tryd.func45, Tryd.ntmps45
        go_wp2_with (go_at_call 78; refine (ballot_any _ _ _).mono ?_; rintro e w' ⟨rfl, rfl⟩; rw [HB.out])
        go_ret
        exact ⟨ret_bool (by simp [hi, hj, hr]), by (repeat' (first | (with_reducible exact Below.refl _ _) | (with_reducible assumption) | (with_reducible refine Below.alloc ?_ ?_ _) | (with_reducible refine Below.drew ?_) | (with_reducible refine below_drewN ?_ _) | (with_reducible refine Below.setCell ?_ ?_ _) | (with_reducible refine Below.trans ?_ (by assumption)) | go_size))⟩
end Go.Proofs.YtejjneamngkmoaaDoor

namespace Go.Proofs.YtejjneamngkmoaaDoor
open Go.RowKit

def metaL (r p i : Int) : List UInt8 := if mayM r p i = true then le 6 r.toNat ++ le 1 p.toNat ++ le 6 i.toNat else []
def metaE (r p i : Int) : Int := if mayM r p i = true then 0 else 2
theorem may_bd {r p i : Int} (h : mayM r p i = true) : 0 ≤ r ∧ r ≤ 1099511627776 ∧ 0 ≤ p ∧ p < 7 ∧ 1 ≤ i ∧ i ≤ 1099511627776 := by
  simp [mayM, balB] at h
  omega
theorem put6 (n : Nat) (h : n ≤ 1099511627776) : oputL 6 n = le 6 n ∧ oputE 6 n = 0 := by
  have hf : fitsB 6 n = true := by simp [fitsB, manyI]; omega
  unfold oputL oputE
  rw [if_pos hf, if_pos hf]
  exact ⟨by simp, rfl⟩
theorem put1 (n : Nat) (h : n < 7) : oputL 1 n = le 1 n ∧ oputE 1 n = 0 := by
  have hf : fitsB 1 n = true := by simp [fitsB, manyI]; omega
  unfold oputL oputE
  rw [if_pos hf, if_pos hf]
  exact ⟨by simp, rfl⟩
theorem bys_le1 (n : Nat) (h : n < 7) : bys (le 1 n) = [.int .u8 (n : Int)] := by
  have : le 1 n = [UInt8.ofNat (n % 256)] := rfl
  rw [this]
  simp only [bys, List.map_cons, List.map_nil, byv_low]
  rw [show (n : Int) % 256 = n by omega]

end Go.Proofs.YtejjneamngkmoaaDoor

namespace Go.Proofs.YtejjneamngkmoaaDoor
open Go.RowKit

def pre (r p i j : Nat) : List UInt8 := if j = 0 then [] else if j = 1 then le 6 r else if j = 2 then le 6 r ++ le 1 p else le 6 r ++ le 1 p ++ le 6 i

def fieldsV (b : Nat) : Value := .agg #[.pointer (some ⟨b, 0, none⟩), .int .i64 6, .pointer (some ⟨b, 1, none⟩), .int .i64 1, .pointer (some ⟨b, 2, none⟩), .int .i64 6]

@[go_sem] theorem indexF0 (a b c d e f : Value) (w : World) : (Instr.index 145 (.agg #[a, b, c, d, e, f]) (.int .i64 0)).run Tryd.prog w = .ok (.agg #[a, b]) w := by
  have u := Tryd.underlying145
  simp [Instr.index, run_underlying u, asIntOf, part, go_sem]
@[go_sem] theorem indexF1 (a b c d e f : Value) (w : World) : (Instr.index 145 (.agg #[a, b, c, d, e, f]) (.int .i64 1)).run Tryd.prog w = .ok (.agg #[c, d]) w := by
  have u := Tryd.underlying145
  simp [Instr.index, run_underlying u, asIntOf, part, go_sem]
@[go_sem] theorem indexF2 (a b c d e f : Value) (w : World) : (Instr.index 145 (.agg #[a, b, c, d, e, f]) (.int .i64 2)).run Tryd.prog w = .ok (.agg #[e, f]) w := by
  have u := Tryd.underlying145
  simp [Instr.index, run_underlying u, asIntOf, part, go_sem]

set_option maxRecDepth 20000 in
set_option maxHeartbeats 4000000 in
theorem fields_any (b : Nat) (w : World) : Calls Tryd.prog 76 #[.pointer (some ⟨b, 0, none⟩)] w fun e w' => e = .returned (fieldsV b) ∧ Below w.heap.size w w' := by
  go_enter Tryd.func76, Tryd.ntmps76
  refine wp_seq_k (fun K hK => ?_)
  have HK := Lib.hid hK
  clear hK
  go_wp2
  refine HK.out _ _ ?_
  clear HK
  go_wp2
  go_still_tail 15, (by kernel_rfl)
  show wpList _ _ _ _ _ (World.alloc w.drew _)
  rw [show w.heap.size = w.drew.heap.size from rfl]
  have hbd : Below w.heap.size w w.drew := (Below.refl _ _).drew
  have hsz : w.heap.size ≤ w.drew.heap.size := Nat.le_refl _
  generalize w.drew = wd at *
  go_wp2
  (try simp only [Exit.inBlock, Exit.then])
  refine bodyPost_ret (v := fieldsV b) ?hr rfl ?_
  case hr =>
    simp only [results, Tryd.results76, fieldsV]
    go_simp
  · exact ⟨rfl, by (repeat' (first | (with_reducible exact Below.refl _ _) | (with_reducible assumption) | (with_reducible refine Below.alloc ?_ ?_ _) | (with_reducible refine Below.drew ?_) | (with_reducible refine below_drewN ?_ _) | (with_reducible refine Below.setCell ?_ ?_ _) | (with_reducible refine Below.trans ?_ (by assumption)) | go_size))⟩

set_option maxRecDepth 20000 in
set_option maxHeartbeats 4000000 in
theorem print_any (r p i : Int) (w : World) : Calls Tryd.prog 44 #[.agg #[.int .i64 r, .int .i64 p, .int .i64 i]] w fun e w' => OwnBytes w.heap.size (metaL r p i) (metaE r p i) e w' ∧ Below w.heap.size w w' := by
  unfold metaL metaE
  cases hm : mayM r p i
  · rw [if_neg (by simp), if_neg (by simp)]
    have HM := Lib.hid hm
    clear hm
    go_enter Tryd.func44, Tryd.ntmps44
    go_wp2_with (go_at_call 45; refine (may_any _ _ _ _).mono ?_; rintro e w1 ⟨rfl, hb1⟩; rw [HM.out])
    go_ret2
    exact ⟨⟨.slice none 0 0, rfl, World.ownsRow_nil _ _ _ _⟩, ((Below.refl _ _).alloc (Nat.le_refl _) _).trans (hb1.mono (by simp))⟩
  · rw [if_pos rfl, if_pos rfl]
    obtain ⟨hr0, hr1, hp0, hp1, hi0, hi1⟩ := may_bd hm
    obtain ⟨r, rfl⟩ : ∃ rn : Nat, r = rn := ⟨r.toNat, by omega⟩
    obtain ⟨p, rfl⟩ : ∃ rn : Nat, p = rn := ⟨p.toNat, by omega⟩
    obtain ⟨i, rfl⟩ : ∃ rn : Nat, i = rn := ⟨i.toNat, by omega⟩
    simp only [Int.toNat_natCast]
    have hl1 := put6 r (by omega)
    have hl3 := put6 i (by omega)
    have hl2 := put1 p (by omega)
    have HM := Lib.hid hm
    have H1 := Lib.hid hl1
    have H2 := Lib.hid hl2
    have H3 := Lib.hid hl3
    clear hm hl1 hl2 hl3
    go_enter Tryd.func44, Tryd.ntmps44
    refine wp_seq_k (fun K hK => ?_)
    have HK := Lib.hid hK
    clear hK
    go_wp2
    refine HK.out _ _ ?_
    clear HK
    refine wp_seq_k (fun K hK => ?_)
    have HK := Lib.hid hK
    clear hK
    go_wp2_with (go_at_call 45; refine (may_any _ _ _ _).mono ?_; rintro e w1 ⟨rfl, hb1⟩; rw [HM.out])
    refine HK.out _ _ ?_
    clear HK
    have c0 := cell_later (a := ⟨w.heap.size, 0, none⟩) hb1 (by simp [go_sem]; rfl)
    have c1 := cell_later (a := ⟨w.heap.size, 1, none⟩) hb1 (by simp [go_sem]; rfl)
    have c2 := cell_later (a := ⟨w.heap.size, 2, none⟩) hb1 (by simp [go_sem]; rfl)
    refine wp_seq_k (fun K hK => ?_)
    have HK := Lib.hid hK
    clear hK
    go_wp2
    refine HK.out _ _ ?_
    clear HK
    refine wp_seq_k (fun K hK => ?_)
    go_cut [4] (fun out wx => ∃ w2, Below w1.heap.size w1 w2 ∧ Below w2.heap.size w2 wx ∧ wx.ownsRow w2.heap.size 5 1 out 13 (bys (le 6 r ++ le 1 p ++ le 6 i)))
    case first =>
      refine wp_seq_k (fun K hK => ?_)
      have HK := Lib.hid hK
      clear hK
      go_wp2_with (go_at_call 76; refine (fields_any _ _).mono ?_; rintro e w2 ⟨rfl, hb2⟩; unfold fieldsV)
      refine HK.out _ _ ?_
      clear HK
      have d0 := cell_later hb2 c0
      have d1 := cell_later hb2 c1
      have d2 := cell_later hb2 c2
      go_wp2_with fail
      go_loopw [4, 13] (fun out k wr => ∃ j : Nat, j ≤ 3 ∧ k = .int .i64 j ∧ wr.ownsRow w2.heap.size 5 1 out (pre r p i j).length (bys (pre r p i j)) ∧ Below w2.heap.size w2 wr) (fun _ k _ => 3 - (intOf k).toNat)
      case atStart => exact ⟨0, by omega, rfl, World.ownsRow_nil _ _ _ _, Below.refl _ _⟩
      case round =>
        obtain ⟨j, hj, rfl, hown, hbr⟩ := hrel
        have e0 := cell_later hbr d0
        have e1 := cell_later hbr d1
        have e2 := cell_later hbr d2
        rcases (show j = 0 ∨ j = 1 ∨ j = 2 ∨ j = 3 by omega) with rfl | rfl | rfl | rfl
        · go_wp2
          rename_i hK10
          have HK := Lib.hid hK10
          clear hK10
          have hza : Below wr.heap.size wr (wr.alloc (Obj.cells #[.pointer (some ⟨w.heap.size, 0, none⟩), .int .i64 6] 144)) := (Below.refl _ _).alloc (Nat.le_refl _) _
          have z0 : (wr.alloc (Obj.cells #[.pointer (some ⟨w.heap.size, 0, none⟩), .int .i64 6] 144)).cell? ⟨wr.heap.size, 0, none⟩ = some (.pointer (some ⟨w.heap.size, 0, none⟩)) := by simp [go_sem]
          have z1 : (wr.alloc (Obj.cells #[.pointer (some ⟨w.heap.size, 0, none⟩), .int .i64 6] 144)).cell? ⟨wr.heap.size, 1, none⟩ = some (.int .i64 6) := by simp [go_sem]
          have z2 := cell_later hza e0
          have ho1 := hown.alloc (Obj.cells #[.pointer (some ⟨w.heap.size, 0, none⟩), .int .i64 6] 144)
          have hzs : wr.heap.size ≤ (wr.alloc (Obj.cells #[.pointer (some ⟨w.heap.size, 0, none⟩), .int .i64 6] 144)).heap.size := by simp
          have hln : (pre r p i 0).length = 0 := by simp [pre]
          have hst : pre r p i (1) = pre r p i 0 ++ le 6 r := by simp [pre]
          have HST := Lib.hid hst
          clear hst
          generalize wr.alloc (Obj.cells #[.pointer (some ⟨w.heap.size, 0, none⟩), .int .i64 6] 144) = wz at *
          go_cut [7, 8] (fun bv ev wx => ev = .int .i64 0 ∧ wx.ownsRow wz.heap.size 5 1 bv 6 (bys (le 6 r)) ∧ Below wz.heap.size wz wx)
          case first =>
            go_region_with (go_at_call 77; refine (put_any _ _ _).mono ?_; rintro e w4 ⟨⟨v4, rfl, hown4⟩, hb4⟩; rw [H1.out.2]; rw [H1.out.1, le_len] at hown4)
            all_goals
              go_wp2_with fail
              go_meet
              exact ⟨rfl, hown4, ((Below.refl _ _).drew).trans hb4⟩
          obtain ⟨rfl, ho7, hb7⟩ := hcut
          obtain ⟨ma, mcap, rfl, hmr, _, _⟩ := Row.of_owns ho7
          have ho1c := owns_after ho1 hb7
          have hs1 := hbr.size
          have hs2 := hb7.size
          refine HK.out _ _ ?_
          clear HK
          go_wp2_with (at_builtin; refine wpList_append_row rfl _ _ 38 5 elByte rfl w2.heap.size _ _ _ rfl ho1c _ _ _ _ rfl (by simp [bys_len, le_len]) hmr bys_one (by omega) (by omega) (by omega) ?_; intro v5 w5 hown5 hb5)
          refine ⟨⟨1, by omega, by go_num, ?_, ?_⟩, by simp [intOf]⟩
          · rw [HST.out, bys_app, List.length_append, le_len]
            exact hown5
          · exact ((hbr.trans (hza.mono hs1)).trans (hb7.mono (by omega))).trans hb5
        · go_wp2
          rename_i hK10
          have HK := Lib.hid hK10
          clear hK10
          have hza : Below wr.heap.size wr (wr.alloc (Obj.cells #[.pointer (some ⟨w.heap.size, 1, none⟩), .int .i64 1] 144)) := (Below.refl _ _).alloc (Nat.le_refl _) _
          have z0 : (wr.alloc (Obj.cells #[.pointer (some ⟨w.heap.size, 1, none⟩), .int .i64 1] 144)).cell? ⟨wr.heap.size, 0, none⟩ = some (.pointer (some ⟨w.heap.size, 1, none⟩)) := by simp [go_sem]
          have z1 : (wr.alloc (Obj.cells #[.pointer (some ⟨w.heap.size, 1, none⟩), .int .i64 1] 144)).cell? ⟨wr.heap.size, 1, none⟩ = some (.int .i64 1) := by simp [go_sem]
          have z2 := cell_later hza e1
          have ho1 := hown.alloc (Obj.cells #[.pointer (some ⟨w.heap.size, 1, none⟩), .int .i64 1] 144)
          have hzs : wr.heap.size ≤ (wr.alloc (Obj.cells #[.pointer (some ⟨w.heap.size, 1, none⟩), .int .i64 1] 144)).heap.size := by simp
          have hln : (pre r p i 1).length = 6 := by simp [pre, le_len]
          have hst : pre r p i (2) = pre r p i 1 ++ le 1 p := by simp [pre]
          have HST := Lib.hid hst
          clear hst
          generalize wr.alloc (Obj.cells #[.pointer (some ⟨w.heap.size, 1, none⟩), .int .i64 1] 144) = wz at *
          go_cut [7, 8] (fun bv ev wx => ev = .int .i64 0 ∧ wx.ownsRow wz.heap.size 5 1 bv 1 (bys (le 1 p)) ∧ Below wz.heap.size wz wx)
          case first =>
            go_region_with (go_at_call 77; refine (put_any _ _ _).mono ?_; rintro e w4 ⟨⟨v4, rfl, hown4⟩, hb4⟩; rw [H2.out.2]; rw [H2.out.1, le_len] at hown4)
            all_goals
              go_wp2_with fail
              go_meet
              exact ⟨rfl, hown4, ((Below.refl _ _).drew).trans hb4⟩
          obtain ⟨rfl, ho7, hb7⟩ := hcut
          obtain ⟨ma, mcap, rfl, hmr, _, _⟩ := Row.of_owns ho7
          have ho1c := owns_after ho1 hb7
          have hs1 := hbr.size
          have hs2 := hb7.size
          refine HK.out _ _ ?_
          clear HK
          go_wp2_with (at_builtin; refine wpList_append_row rfl _ _ 38 5 elByte rfl w2.heap.size _ _ _ rfl ho1c _ _ _ _ rfl (by simp [bys_len, le_len]) hmr bys_one (by omega) (by omega) (by omega) ?_; intro v5 w5 hown5 hb5)
          refine ⟨⟨2, by omega, by go_num, ?_, ?_⟩, by simp [intOf]⟩
          · rw [HST.out, bys_app, List.length_append, le_len]
            exact hown5
          · exact ((hbr.trans (hza.mono hs1)).trans (hb7.mono (by omega))).trans hb5
        · go_wp2
          rename_i hK10
          have HK := Lib.hid hK10
          clear hK10
          have hza : Below wr.heap.size wr (wr.alloc (Obj.cells #[.pointer (some ⟨w.heap.size, 2, none⟩), .int .i64 6] 144)) := (Below.refl _ _).alloc (Nat.le_refl _) _
          have z0 : (wr.alloc (Obj.cells #[.pointer (some ⟨w.heap.size, 2, none⟩), .int .i64 6] 144)).cell? ⟨wr.heap.size, 0, none⟩ = some (.pointer (some ⟨w.heap.size, 2, none⟩)) := by simp [go_sem]
          have z1 : (wr.alloc (Obj.cells #[.pointer (some ⟨w.heap.size, 2, none⟩), .int .i64 6] 144)).cell? ⟨wr.heap.size, 1, none⟩ = some (.int .i64 6) := by simp [go_sem]
          have z2 := cell_later hza e2
          have ho1 := hown.alloc (Obj.cells #[.pointer (some ⟨w.heap.size, 2, none⟩), .int .i64 6] 144)
          have hzs : wr.heap.size ≤ (wr.alloc (Obj.cells #[.pointer (some ⟨w.heap.size, 2, none⟩), .int .i64 6] 144)).heap.size := by simp
          have hln : (pre r p i 2).length = 7 := by simp [pre, le_len]
          have hst : pre r p i (3) = pre r p i 2 ++ le 6 i := by simp [pre]
          have HST := Lib.hid hst
          clear hst
          generalize wr.alloc (Obj.cells #[.pointer (some ⟨w.heap.size, 2, none⟩), .int .i64 6] 144) = wz at *
          go_cut [7, 8] (fun bv ev wx => ev = .int .i64 0 ∧ wx.ownsRow wz.heap.size 5 1 bv 6 (bys (le 6 i)) ∧ Below wz.heap.size wz wx)
          case first =>
            go_region_with (go_at_call 77; refine (put_any _ _ _).mono ?_; rintro e w4 ⟨⟨v4, rfl, hown4⟩, hb4⟩; rw [H3.out.2]; rw [H3.out.1, le_len] at hown4)
            all_goals
              go_wp2_with fail
              go_meet
              exact ⟨rfl, hown4, ((Below.refl _ _).drew).trans hb4⟩
          obtain ⟨rfl, ho7, hb7⟩ := hcut
          obtain ⟨ma, mcap, rfl, hmr, _, _⟩ := Row.of_owns ho7
          have ho1c := owns_after ho1 hb7
          have hs1 := hbr.size
          have hs2 := hb7.size
          refine HK.out _ _ ?_
          clear HK
          go_wp2_with (at_builtin; refine wpList_append_row rfl _ _ 38 5 elByte rfl w2.heap.size _ _ _ rfl ho1c _ _ _ _ rfl (by simp [bys_len, le_len]) hmr bys_one (by omega) (by omega) (by omega) ?_; intro v5 w5 hown5 hb5)
          refine ⟨⟨3, by omega, by go_num, ?_, ?_⟩, by simp [intOf]⟩
          · rw [HST.out, bys_app, List.length_append, le_len]
            exact hown5
          · exact ((hbr.trans (hza.mono hs1)).trans (hb7.mono (by omega))).trans hb5
        · go_wp2
          go_meet
          exact ⟨w2, hb2, hbr, by simpa [pre, le_len] using hown⟩
    obtain ⟨w2, hb2, hbx, hown⟩ := hcut
    refine hK _ _ ?_; clear hK
    have hb01 : Below w.heap.size w w1 := ((Below.refl _ _).alloc (Nat.le_refl _) _).trans (hb1.mono (by simp))
    have hs1 := hb01.size
    have hs2 := hb2.size
    go_wp2
    go_ret2
    refine ⟨⟨_, rfl, ?_⟩, (hb01.trans (hb2.mono hs1)).trans (hbx.mono (by omega))⟩
    have hx := owns_mono hown (show w.heap.size ≤ w2.heap.size by omega)
    simpa [le_len] using hx
end Go.Proofs.YtejjneamngkmoaaDoor

namespace Go.Proofs.YtejjneamngkmoaaDoor
open Go.RowKit

def parM (l : List UInt8) : Bool := decide (l.length = 13) && mayM (getN l 0 6) (getN l 6 1) (getN l 7 6)
def parV (l : List UInt8) : Value := if parM l = true then .agg #[.int .i64 (getN l 0 6), .int .i64 (getN l 6 1), .int .i64 (getN l 7 6)] else .agg #[.int .i64 0, .int .i64 0, .int .i64 0]
def parE (l : List UInt8) : Int := if parM l = true then 0 else 80
theorem getN_one (l : List UInt8) (i : Nat) (h : i < l.length) : getN l i 1 = l[i].toNat := by
  unfold getN
  rw [List.drop_eq_getElem_cons h, List.take_succ_cons]
  simp [ofLe]

theorem tri_cells {w : World} {g : Nat} {x y z : Value} {T : TypeId} (h : w.heap[g]? = some (.cells #[x, y, z] T (0, 0))) :
    w.cell? ⟨g, 0, none⟩ = some x ∧ w.cell? ⟨g, 1, none⟩ = some y ∧ w.cell? ⟨g, 2, none⟩ = some z ∧ w.frozen? ⟨g, 0, none⟩ = false ∧ w.frozen? ⟨g, 1, none⟩ = false ∧ w.frozen? ⟨g, 2, none⟩ = false := by
  refine ⟨?_, ?_, ?_, ?_, ?_, ?_⟩
  all_goals simp [World.cell?, World.frozen?, h]
theorem two_metas {w w1 : World} {x y z x' y' z' : Value} {T T' : TypeId} (hb : Below ((w.alloc (.cells #[x, y, z] T)).alloc (.cells #[x', y', z'] T')).heap.size ((w.alloc (.cells #[x, y, z] T)).alloc (.cells #[x', y', z'] T')) w1) :
    w1.cell? ⟨w.heap.size, 0, none⟩ = some x ∧ w1.cell? ⟨w.heap.size, 1, none⟩ = some y ∧ w1.cell? ⟨w.heap.size, 2, none⟩ = some z ∧ w1.frozen? ⟨w.heap.size, 0, none⟩ = false ∧ w1.frozen? ⟨w.heap.size, 1, none⟩ = false ∧ w1.frozen? ⟨w.heap.size, 2, none⟩ = false ∧
    w1.cell? ⟨w.heap.size + 1, 0, none⟩ = some x' ∧ w1.cell? ⟨w.heap.size + 1, 1, none⟩ = some y' ∧ w1.cell? ⟨w.heap.size + 1, 2, none⟩ = some z' ∧ w1.frozen? ⟨w.heap.size + 1, 0, none⟩ = false ∧ w1.frozen? ⟨w.heap.size + 1, 1, none⟩ = false ∧ w1.frozen? ⟨w.heap.size + 1, 2, none⟩ = false := by
  have h1 : w1.heap[w.heap.size]? = some (.cells #[x, y, z] T (0, 0)) := by
    rw [hb.block _ (by simp; omega), heap_alloc_old _ _ (by simp), heap_alloc_new]
  have h2 : w1.heap[w.heap.size + 1]? = some (.cells #[x', y', z'] T' (0, 0)) := by
    rw [hb.block _ (by simp), heap_alloc2_new]
  obtain ⟨a1, a2, a3, a4, a5, a6⟩ := tri_cells h1
  obtain ⟨b1, b2, b3, b4, b5, b6⟩ := tri_cells h2
  exact ⟨a1, a2, a3, a4, a5, a6, b1, b2, b3, b4, b5, b6⟩

theorem below_two {w w1 : World} {A B : Obj} (hb : Below ((w.alloc A).alloc B).heap.size ((w.alloc A).alloc B) w1) : Below w.heap.size w w1 :=
  (((Below.refl _ _).alloc (Nat.le_refl _) A).alloc (by simp) B).trans (hb.mono (by simp; omega))

theorem get_w (a : Option Addr) (cap : Nat) (l : List UInt8) (at_ k : Nat) (w : World) (hs : SlB w a cap l) (hk : k = 1 ∨ k = 2 ∨ k = 4 ∨ k = 6) (h : at_ + k ≤ l.length) (at' k' s : Int) (hat : at' = at_) (hk' : k' = k) (hs' : s = at' + k') :
    Calls Tryd.prog 79 #[.slice a l.length cap, .int .i64 at', .int .i64 k'] w fun e w' => e = .returned (.tuple #[.int .i64 (getN l at_ k), .int .i64 s, .int .i64 0]) ∧ Below w.heap.size w w' := by
  subst hat hk' hs'
  exact get_ok a cap l at_ k w hs hk h

def pos (j : Nat) : Nat := if j = 0 then 0 else if j = 1 then 6 else if j = 2 then 7 else 13
def pv (l : List UInt8) (j : Nat) : Array Value := #[.int .i64 (if 0 < j then (getN l 0 6 : Int) else 0), .int .i64 (if 1 < j then (getN l 6 1 : Int) else 0), .int .i64 (if 2 < j then (getN l 7 6 : Int) else 0)]

theorem two_cells {w : World} {g : Nat} {x y : Value} {T : TypeId} (h : w.heap[g]? = some (.cells #[x, y] T (0, 0))) : w.cell? ⟨g, 0, none⟩ = some x ∧ w.cell? ⟨g, 1, none⟩ = some y := by
  constructor <;> simp [World.cell?, h]

theorem behind_get {w wr w3 : World} {x y z x' y' z' u v : Value} {T T' : TypeId} (hbr : Below w.heap.size w wr) (hlo : w.heap.size + 1 < wr.heap.size)
    (hB0 : wr.heap[w.heap.size]? = some (.cells #[x, y, z] T (0, 0))) (hB1 : wr.heap[w.heap.size + 1]? = some (.cells #[x', y', z'] T (0, 0)))
    (hb3 : Below (wr.alloc (.cells #[u, v] T')).heap.size (wr.alloc (.cells #[u, v] T')) w3) :
    w3.heap[w.heap.size]? = some (.cells #[x, y, z] T (0, 0)) ∧ w3.heap[w.heap.size + 1]? = some (.cells #[x', y', z'] T (0, 0)) ∧ w3.cell? ⟨wr.heap.size, 0, none⟩ = some u ∧ w3.cell? ⟨wr.heap.size, 1, none⟩ = some v ∧
    w3.cell? ⟨w.heap.size + 1, 0, none⟩ = some x' ∧ w3.cell? ⟨w.heap.size + 1, 1, none⟩ = some y' ∧ w3.cell? ⟨w.heap.size + 1, 2, none⟩ = some z' ∧ w3.frozen? ⟨w.heap.size + 1, 0, none⟩ = false ∧ w3.frozen? ⟨w.heap.size + 1, 1, none⟩ = false ∧ w3.frozen? ⟨w.heap.size + 1, 2, none⟩ = false ∧ Below w.heap.size w w3 := by
  have k1 : w3.heap[w.heap.size]? = some (.cells #[x, y, z] T (0, 0)) := by rw [hb3.block _ (by simp; omega), heap_alloc_old _ _ (by omega)]; exact hB0
  have k2 : w3.heap[w.heap.size + 1]? = some (.cells #[x', y', z'] T (0, 0)) := by rw [hb3.block _ (by simp; omega), heap_alloc_old _ _ (by omega)]; exact hB1
  have k3 : w3.heap[wr.heap.size]? = some (.cells #[u, v] T' (0, 0)) := by rw [hb3.block _ (by simp), heap_alloc_new]
  obtain ⟨b1, b2, b3, b4, b5, b6⟩ := tri_cells k2
  obtain ⟨c0, c1⟩ := two_cells k3
  exact ⟨k1, k2, c0, c1, b1, b2, b3, b4, b5, b6, (hbr.alloc (by omega) _).trans (hb3.mono (by simp; omega))⟩

set_option maxRecDepth 20000 in
set_option maxHeartbeats 800000 in
theorem parse_any (a : Option Addr) (cap : Nat) (l : List UInt8) (w : World) (hs : SlB w a cap l) :
    Calls Tryd.prog 46 #[.slice a l.length cap] w fun e w' => e = .returned (.tuple #[parV l, .int .i64 (parE l)]) ∧ Below w.heap.size w w' := by
  have hmx := hs.max
  unfold maxLen at hmx
  have hle := hs.le
  go_enter Tryd.func46, Tryd.ntmps46
  refine wp_seq_k (fun K hK => ?_)
  have HK := Lib.hid hK
  clear hK
  go_wp2
  refine HK.out _ _ ?_
  clear HK
  refine wp_seq_k (fun K hK => ?_)
  have HK := Lib.hid hK
  clear hK
  go_wp2
  refine HK.out _ _ ?_
  clear HK
  refine wp_seq_k (fun K hK => ?_)
  have HK := Lib.hid hK
  clear hK
  go_wp2
  refine HK.out _ _ ?_
  clear HK
  refine wp_seq_k (fun K hK => ?_)
  go_cut [5] (fun at_ wx => at_ = .int .i64 13 ∧ 13 ≤ l.length ∧ wx.heap[w.heap.size]? = some (.cells (pv l 0) 88 (0, 0)) ∧ wx.heap[w.heap.size + 1]? = some (.cells (pv l 3) 88 (0, 0)) ∧ Below w.heap.size w wx)
  case first =>
    refine wp_seq_k (fun K hK => ?_)
    have HK := Lib.hid hK
    clear hK
    go_wp2_with (go_at_call 76; refine (fields_any _ _).mono ?_; rintro e w2 ⟨rfl, hb2⟩; unfold fieldsV)
    refine HK.out _ _ ?_
    clear HK
    have hbw := below_two hb2
    have h0 : w2.heap[w.heap.size]? = some (.cells (pv l 0) 88 (0, 0)) := by
      rw [hb2.block _ (by simp; omega), heap_alloc_old _ _ (by simp), heap_alloc_new]; rfl
    have h1 : w2.heap[w.heap.size + 1]? = some (.cells (pv l 0) 88 (0, 0)) := by
      rw [hb2.block _ (by simp), heap_alloc2_new]; rfl
    go_wp2_with fail
    go_loopw [5, 12] (fun at_ k wr => ∃ j : Nat, j ≤ 3 ∧ k = .int .i64 j ∧ at_ = .int .i64 (pos j) ∧ pos j ≤ l.length ∧ wr.heap[w.heap.size]? = some (.cells (pv l 0) 88 (0, 0)) ∧ wr.heap[w.heap.size + 1]? = some (.cells (pv l j) 88 (0, 0)) ∧ Below w.heap.size w wr) (fun _ k _ => 3 - (intOf k).toNat)
    case atStart => exact ⟨0, by omega, rfl, rfl, Nat.zero_le _, h0, h1, hbw⟩
    case round =>
      clear h0 h1 hbw hb2
      obtain ⟨j, hj, rfl, rfl, hpl, hB0, hB1, hbr⟩ := hrel
      have hsr := hs.below hbr
      have hlo : w.heap.size + 1 < wr.heap.size := (Array.getElem?_eq_some_iff.1 hB1).1
      rcases (show j = 0 ∨ j = 1 ∨ j = 2 ∨ j = 3 by omega) with rfl | rfl | rfl | rfl
      all_goals simp only [pos, pv] at hpl hB0 hB1 ⊢
      all_goals simp at hpl hB0 hB1
      · by_cases hok : 0 + 6 ≤ l.length
        · go_wp2_with (go_at_call 79; refine (get_w _ cap l 0 6 _ (hsr.below ((Below.refl _ _).alloc (Nat.le_refl _) _)) (by omega) hok 0 6 6 rfl rfl rfl).mono ?_; rintro e w3 ⟨rfl, hb3⟩; obtain ⟨k1, k2, c0, c1, q0, q1, q2, f0, f1, f2, hb4⟩ := behind_get hbr hlo hB0 hB1 hb3)
          refine ⟨⟨1, by omega, by go_num, rfl, by show 6 ≤ l.length; omega, ?_, ?_, ?_⟩, by simp [intOf]⟩
          · rw [heap_setCell_other _ ⟨w.heap.size + 1, 0, none⟩ _ _ (by simp)]; exact k1
          · rw [heap_setCell_same _ _ _ _ _ _ k2]; simp
          · exact hb4.setCell (by simp) _
        · have hpe : parM l = false := by
            unfold parM
            rw [decide_eq_false (by omega)]
            rfl
          have hge : getE l.length 0 6 ≠ 0 := by
            unfold getE pieceE
            rw [if_neg (by simp [manyI])]
            split
            · omega
            · rw [if_pos (by omega)]; omega
          have hne : (getE l.length 0 6 != 0) = true := by rw [bne_iff_ne]; exact hge
          have hgb := fun w => get_bad a l.length cap 0 6 w (by unfold maxLen; omega) hge
          have hpv : parV l = .agg #[.int .i64 0, .int .i64 0, .int .i64 0] := by unfold parV; rw [hpe]; rfl
          have hpr : parE l = 80 := by unfold parE; rw [hpe]; rfl
          clear hpe
          generalize getE l.length 0 6 = er at *
          have HGB := Lib.hid hgb
          clear hgb
          go_wp2_with (go_at_call 79; refine (HGB.out _).mono ?_; rintro e w3 ⟨rfl, hb3⟩; obtain ⟨k1, k2, c0, c1, q0, q1, q2, f0, f1, f2, hb4⟩ := behind_get hbr hlo hB0 hB1 hb3; obtain ⟨z0, z1, z2, g0, g1, g2⟩ := tri_cells k1)
          (try simp only [Exit.inBlock, Exit.then])
          rw [hpv, hpr]
          refine bodyPost_ret ?hr rfl ⟨rfl, ?_⟩
          case hr =>
            simp only [results, Tryd.results46]
            go_simp
          (repeat' (first | (with_reducible exact Below.refl _ _) | (with_reducible assumption) | (with_reducible refine Below.alloc ?_ ?_ _) | (with_reducible refine Below.drew ?_) | (with_reducible refine below_drewN ?_ _) | (with_reducible refine Below.setCell ?_ ?_ _) | (with_reducible refine Below.trans ?_ (by assumption)) | go_size))
      · by_cases hok : 6 + 1 ≤ l.length
        · go_wp2_with (go_at_call 79; refine (get_w _ cap l 6 1 _ (hsr.below ((Below.refl _ _).alloc (Nat.le_refl _) _)) (by omega) hok 6 1 7 rfl rfl rfl).mono ?_; rintro e w3 ⟨rfl, hb3⟩; obtain ⟨k1, k2, c0, c1, q0, q1, q2, f0, f1, f2, hb4⟩ := behind_get hbr hlo hB0 hB1 hb3)
          refine ⟨⟨2, by omega, by go_num, rfl, by show 7 ≤ l.length; omega, ?_, ?_, ?_⟩, by simp [intOf]⟩
          · rw [heap_setCell_other _ ⟨w.heap.size + 1, 1, none⟩ _ _ (by simp)]; exact k1
          · rw [heap_setCell_same _ _ _ _ _ _ k2]; simp
          · exact hb4.setCell (by simp) _
        · have hpe : parM l = false := by
            unfold parM
            rw [decide_eq_false (by omega)]
            rfl
          have hge : getE l.length 6 1 ≠ 0 := by
            unfold getE pieceE
            rw [if_neg (by simp [manyI])]
            split
            · omega
            · rw [if_pos (by omega)]; omega
          have hne : (getE l.length 6 1 != 0) = true := by rw [bne_iff_ne]; exact hge
          have hgb := fun w => get_bad a l.length cap 6 1 w (by unfold maxLen; omega) hge
          have hpv : parV l = .agg #[.int .i64 0, .int .i64 0, .int .i64 0] := by unfold parV; rw [hpe]; rfl
          have hpr : parE l = 80 := by unfold parE; rw [hpe]; rfl
          clear hpe
          generalize getE l.length 6 1 = er at *
          have HGB := Lib.hid hgb
          clear hgb
          go_wp2_with (go_at_call 79; refine (HGB.out _).mono ?_; rintro e w3 ⟨rfl, hb3⟩; obtain ⟨k1, k2, c0, c1, q0, q1, q2, f0, f1, f2, hb4⟩ := behind_get hbr hlo hB0 hB1 hb3; obtain ⟨z0, z1, z2, g0, g1, g2⟩ := tri_cells k1)
          (try simp only [Exit.inBlock, Exit.then])
          rw [hpv, hpr]
          refine bodyPost_ret ?hr rfl ⟨rfl, ?_⟩
          case hr =>
            simp only [results, Tryd.results46]
            go_simp
          (repeat' (first | (with_reducible exact Below.refl _ _) | (with_reducible assumption) | (with_reducible refine Below.alloc ?_ ?_ _) | (with_reducible refine Below.drew ?_) | (with_reducible refine below_drewN ?_ _) | (with_reducible refine Below.setCell ?_ ?_ _) | (with_reducible refine Below.trans ?_ (by assumption)) | go_size))
      · by_cases hok : 7 + 6 ≤ l.length
        · go_wp2_with (go_at_call 79; refine (get_w _ cap l 7 6 _ (hsr.below ((Below.refl _ _).alloc (Nat.le_refl _) _)) (by omega) hok 7 6 13 rfl rfl rfl).mono ?_; rintro e w3 ⟨rfl, hb3⟩; obtain ⟨k1, k2, c0, c1, q0, q1, q2, f0, f1, f2, hb4⟩ := behind_get hbr hlo hB0 hB1 hb3)
          refine ⟨⟨3, by omega, by go_num, rfl, by show 13 ≤ l.length; omega, ?_, ?_, ?_⟩, by simp [intOf]⟩
          · rw [heap_setCell_other _ ⟨w.heap.size + 1, 2, none⟩ _ _ (by simp)]; exact k1
          · rw [heap_setCell_same _ _ _ _ _ _ k2]; simp
          · exact hb4.setCell (by simp) _
        · have hpe : parM l = false := by
            unfold parM
            rw [decide_eq_false (by omega)]
            rfl
          have hge : getE l.length 7 6 ≠ 0 := by
            unfold getE pieceE
            rw [if_neg (by simp [manyI])]
            split
            · omega
            · rw [if_pos (by omega)]; omega
          have hne : (getE l.length 7 6 != 0) = true := by rw [bne_iff_ne]; exact hge
          have hgb := fun w => get_bad a l.length cap 7 6 w (by unfold maxLen; omega) hge
          have hpv : parV l = .agg #[.int .i64 0, .int .i64 0, .int .i64 0] := by unfold parV; rw [hpe]; rfl
          have hpr : parE l = 80 := by unfold parE; rw [hpe]; rfl
          clear hpe
          generalize getE l.length 7 6 = er at *
          have HGB := Lib.hid hgb
          clear hgb
          go_wp2_with (go_at_call 79; refine (HGB.out _).mono ?_; rintro e w3 ⟨rfl, hb3⟩; obtain ⟨k1, k2, c0, c1, q0, q1, q2, f0, f1, f2, hb4⟩ := behind_get hbr hlo hB0 hB1 hb3; obtain ⟨z0, z1, z2, g0, g1, g2⟩ := tri_cells k1)
          (try simp only [Exit.inBlock, Exit.then])
          rw [hpv, hpr]
          refine bodyPost_ret ?hr rfl ⟨rfl, ?_⟩
          case hr =>
            simp only [results, Tryd.results46]
            go_simp
          (repeat' (first | (with_reducible exact Below.refl _ _) | (with_reducible assumption) | (with_reducible refine Below.alloc ?_ ?_ _) | (with_reducible refine Below.drew ?_) | (with_reducible refine below_drewN ?_ _) | (with_reducible refine Below.setCell ?_ ?_ _) | (with_reducible refine Below.trans ?_ (by assumption)) | go_size))
      · go_wp2
        go_meet
        exact ⟨rfl, hpl, hB0, hB1, hbr⟩
  obtain ⟨rfl, h13, hB0, hB1, hbw⟩ := hcut
  refine hK _ _ ?_; clear hK
  simp [pv] at hB0 hB1
  have hlo : w.heap.size + 1 < wc.heap.size := (Array.getElem?_eq_some_iff.1 hB1).1
  by_cases h14 : l.length = 13
  · have hpe : parM l = mayM (getN l 0 6) (getN l 6 1) (getN l 7 6) := by simp [parM, h14]
    unfold parV parE
    rw [hpe]
    clear hpe
    cases hm : mayM (getN l 0 6) (getN l 6 1) (getN l 7 6)
    all_goals
      have HM := Lib.hid hm
      clear hm
      first | rw [if_pos rfl, if_pos rfl] | rw [if_neg (by simp), if_neg (by simp)]
      obtain ⟨x0, x1, x2, -, -, -⟩ := tri_cells hB1
      go_wp2_with (go_at_call 45; refine (may_any _ _ _ _).mono ?_; rintro e w1 ⟨rfl, hb1⟩; rw [HM.out]; obtain ⟨z0, z1, z2, g0, g1, g2⟩ := tri_cells ((hb1.block _ (by omega)).trans hB0); obtain ⟨q0, q1, q2, f0, f1, f2⟩ := tri_cells ((hb1.block _ hlo).trans hB1); have hb4 := hbw.trans (hb1.mono (by omega)))
      (try simp only [Exit.inBlock, Exit.then])
      refine bodyPost_ret ?hr rfl ⟨rfl, ?_⟩
      case hr =>
        simp only [results, Tryd.results46]
        go_simp
      (repeat' (first | (with_reducible exact Below.refl _ _) | (with_reducible assumption) | (with_reducible refine Below.alloc ?_ ?_ _) | (with_reducible refine Below.drew ?_) | (with_reducible refine below_drewN ?_ _) | (with_reducible refine Below.setCell ?_ ?_ _) | (with_reducible refine Below.trans ?_ (by assumption)) | go_size))
  · have hpe : parM l = false := by simp [parM, h14]
    unfold parV parE
    rw [if_neg (by simp [hpe]), if_neg (by simp [hpe])]
    obtain ⟨z0, z1, z2, g0, g1, g2⟩ := tri_cells hB0
    go_wp2
    (try simp only [Exit.inBlock, Exit.then])
    refine bodyPost_ret ?hr rfl ⟨rfl, ?_⟩
    case hr =>
      simp only [results, Tryd.results46]
      go_simp
    (repeat' (first | (with_reducible exact Below.refl _ _) | (with_reducible assumption) | (with_reducible refine Below.alloc ?_ ?_ _) | (with_reducible refine Below.drew ?_) | (with_reducible refine below_drewN ?_ _) | (with_reducible refine Below.setCell ?_ ?_ _) | (with_reducible refine Below.trans ?_ (by assumption)) | go_size))
end Go.Proofs.YtejjneamngkmoaaDoor

namespace Go.Proofs.YtejjneamngkmoaaDoor
open Go.RowKit

/-- What a replica has promised, and how often it has begun. -/
structure Mt where
  r : Int
  p : Int
  i : Int
def zM : Mt := ⟨0, 0, 0⟩
def abvB (r p r' p' : Int) : Bool := decide (r' < r) || (decide (r = r') && decide (p' < p))
def storeM (d : Dk) (rep : Int) (m : Mt) : Dk × Mt × Int :=
  if mayM m.r m.p m.i = false then (d, zM, 2) else
  if (storeC d rep 1 m.i (metaL m.r m.p m.i)).2 ≠ 0 then ((storeC d rep 1 m.i (metaL m.r m.p m.i)).1, zM, (storeC d rep 1 m.i (metaL m.r m.p m.i)).2) else
  ((storeC d rep 1 m.i (metaL m.r m.p m.i)).1, m, 0)
def mV (m : Mt) : Value := .agg #[.int .i64 m.r, .int .i64 m.p, .int .i64 m.i]
/-- What Begin, Promise and store hand back. -/
def MRes (B g gp : Nat) (w : World) (r : Dk × Mt × Int) (e : Ending) (w' : World) : Prop :=
  e = .returned (.tuple #[mV r.2.1, .int .i64 r.2.2]) ∧ (∃ wv', DiskB B g gp wv' r.1 w') ∧ Kt B w w'
theorem metaL_len (r p i : Int) : (metaL r p i).length ≤ 13 := by
  unfold metaL
  split
  · simp [le_len]
  · simp
theorem metaL_one {r p i : Int} (h : mayM r p i = true) : (metaL r p i).length = 13 := by
  unfold metaL
  rw [if_pos h]
  simp [le_len]
theorem Kt.new {B q : Nat} {w w1 w2 : World} (h : Kt B w w1) (hg : w1.grownBy w2 (some q)) (hq : w.heap.size ≤ q) (hB : B ≤ w.heap.size) : Kt B w w2 :=
  ⟨h.bl.grown hg (Nat.le_trans hB h.bl.size) (fun k e => by cases e; omega), fun j cs T a b c e => tr_st hg (h.ty j cs T a b c e) (by have := lt_blk a; omega)⟩
theorem OwnB.cap {w : World} {base : Nat} {v : Value} {l : List UInt8} (h : w.ownsRow base 5 1 v l.length (bys l)) (hv : l ≠ []) : ∃ a c, v = .slice a l.length c ∧ OwnB w base a c l := by
  rcases h.2 with ⟨h1, h2⟩ | ⟨g, cap, cur, h1, h2, h3, h4, h5, h6, h7⟩
  · cases l with
    | nil => exact absurd rfl hv
    | cons x l => simp at h2
  · refine ⟨_, cap, h1, .inr ⟨g, cur.toList.drop (bys l).length, rfl, h2, h4, h5, ?_⟩⟩
    rw [Nat.mul_one] at h7
    have e : bys l ++ cur.toList.drop (bys l).length = cur.toList := by
      rw [bys_len, ← h7, List.take_append_drop]
    rw [e, Array.toArray_toList]
    exact h3
theorem DiskB.st {B g gp q : Nat} {wv : Value} {d : Dk} {w w' : World} {cs : Array Value} (h : DiskB B g gp wv d w) (hg : w.grownBy w' (some q)) (hc : w.heap[q]? = some (.cells cs 88 (0, 0))) : DiskB B g gp wv d w' := by
  have hne : ∀ {j : Nat} {xs : Array Value} {T : TypeId}, w.heap[j]? = some (.cells xs T (0, 0)) → T ≠ 88 → q ≠ j := fun hj hT e => by
    subst e
    rw [hc] at hj
    injection hj with hj
    injection hj with _ e
    exact hT e.symm
  exact ⟨tr_st hg h.box (hne h.box (by decide)), tr_st hg h.pls (hne h.pls (by decide)), owns_ne h.wts hg hc (by decide), h.gb, h.pb, h.n0, h.nl, h.lo, h.hi, h.ok, h.wk⟩
theorem st3 (x : Array Value) (hx : x.size = 3) (a b c : Int) : 0 + 3 ≤ x.size ∧ (Value.agg #[.int .i64 a, .int .i64 b, .int .i64 c]).cells.size = 3 ∧ (∀ u ∈ (Value.agg #[.int .i64 a, .int .i64 b, .int .i64 c]).cells.toList, u.oneCell' = true) ∧ (x.toList.take 0 ++ (Value.agg #[.int .i64 a, .int .i64 b, .int .i64 c]).cells.toList ++ x.toList.drop (0 + 3)).toArray = #[.int .i64 a, .int .i64 b, .int .i64 c] := by
  refine ⟨by omega, rfl, by simp [Value.cells, Value.oneCell'], ?_⟩
  rw [List.drop_of_length_le (by rw [Array.length_toList]; omega)]
  rfl
theorem ld3 (a b c : Int) : 0 + 3 ≤ (#[Value.int .i64 a, .int .i64 b, .int .i64 c]).size ∧ (#[Value.int .i64 a, .int .i64 b, .int .i64 c]).extract 0 (0 + 3) = #[Value.int .i64 a, .int .i64 b, .int .i64 c] := ⟨Nat.le_refl 3, rfl⟩

set_option maxHeartbeats 1000000 in
theorem above_any (r p r' p' : Int) (w : World) : Calls Tryd.prog 81 #[.agg #[.int .i64 r, .int .i64 p], .agg #[.int .i64 r', .int .i64 p']] w fun e w' => e = .returned (.bool (abvB r p r' p')) ∧ Below w.heap.size w w' := by
  unfold abvB
  by_cases h1 : r' < r
  · go_enter Tryd.func81, Tryd.ntmps81
    go_wp2
    go_ret
    exact ⟨ret_bool (by simp [h1]), by (repeat' (first | (with_reducible exact Below.refl _ _) | (with_reducible assumption) | (with_reducible refine Below.alloc ?_ ?_ _) | (with_reducible refine Below.drew ?_) | (with_reducible refine below_drewN ?_ _) | (with_reducible refine Below.setCell ?_ ?_ _) | (with_reducible refine Below.trans ?_ (by assumption)) | go_size))⟩
  · by_cases h2 : r = r'
    · subst h2
      by_cases h3 : p' < p
      all_goals
        go_enter Tryd.func81, Tryd.ntmps81
        go_wp2
        go_ret
        exact ⟨ret_bool (by simp [h3]), by (repeat' (first | (with_reducible exact Below.refl _ _) | (with_reducible assumption) | (with_reducible refine Below.alloc ?_ ?_ _) | (with_reducible refine Below.drew ?_) | (with_reducible refine below_drewN ?_ _) | (with_reducible refine Below.setCell ?_ ?_ _) | (with_reducible refine Below.trans ?_ (by assumption)) | go_size))⟩
    · go_enter Tryd.func81, Tryd.ntmps81
      go_wp2
      go_ret
      exact ⟨ret_bool (by simp [h1]), by (repeat' (first | (with_reducible exact Below.refl _ _) | (with_reducible assumption) | (with_reducible refine Below.alloc ?_ ?_ _) | (with_reducible refine Below.drew ?_) | (with_reducible refine below_drewN ?_ _) | (with_reducible refine Below.setCell ?_ ?_ _) | (with_reducible refine Below.trans ?_ (by assumption)) | go_size))⟩
section
variable {B g gp : Nat} {wv : Value} {d : Dk} {w : World}
set_option maxRecDepth 100000 in
set_option maxHeartbeats 1000000 in
theorem mstore_any (h : DiskB B g gp wv d w) (hb : B ≤ w.heap.size) (hw : d.waits.length ≤ 1000) (rep r p i : Int) : Calls Tryd.prog 80 #[.pointer (some ⟨g, 0, none⟩), .int .i64 rep, .agg #[.int .i64 r, .int .i64 p, .int .i64 i]] w (MRes B g gp w (storeM d rep ⟨r, p, i⟩)) := by
  unfold storeM
  simp only
  cases hm : mayM r p i
  case false =>
    rw [if_pos rfl]
    have HE := Lib.hid (show metaE r p i = 2 by unfold metaE; rw [hm]; rfl)
    clear hm
    go_enter Tryd.func80, Tryd.ntmps80
    refine wp_seq_k (fun K hK => ?_)
    have HK := Lib.hid hK
    clear hK
    go_wp2
    refine HK.out _ _ ?_
    clear HK
    have hb0 := (blw w (Obj.cells #[.int .i64 r, .int .i64 p, .int .i64 i] 88)).alloc (by simp) (Obj.cells #[.int .i64 0, .int .i64 0, .int .i64 0] 88)
    have B1 := tr_al (Obj.cells #[.int .i64 0, .int .i64 0, .int .i64 0] 88) (heap_alloc_new w (Obj.cells #[.int .i64 r, .int .i64 p, .int .i64 i] 88))
    have R1 := heap_alloc_new (w.alloc (Obj.cells #[.int .i64 r, .int .i64 p, .int .i64 i] 88)) (Obj.cells #[.int .i64 0, .int .i64 0, .int .i64 0] 88)
    rw [show (w.alloc (Obj.cells #[.int .i64 r, .int .i64 p, .int .i64 i] 88)).heap.size = w.heap.size + 1 by simp] at R1
    change Code.wp _ _ _ _ ((w.alloc (Obj.cells #[.int .i64 r, .int .i64 p, .int .i64 i] 88)).alloc (Obj.cells #[.int .i64 0, .int .i64 0, .int .i64 0] 88))
    generalize (w.alloc (Obj.cells #[.int .i64 r, .int .i64 p, .int .i64 i] 88)).alloc (Obj.cells #[.int .i64 0, .int .i64 0, .int .i64 0] 88) = w0 at *
    obtain ⟨q0, q1, q2, -, -, -⟩ := tri_cells B1
    refine wp_seq_k (fun K hK => ?_)
    have HK := Lib.hid hK
    clear hK
    go_wp2_with (go_at_call 44; refine (print_any r p i _).mono ?_; rintro e w1 ⟨⟨v1, rfl, hown⟩, hb1⟩; rw [HE.out])
    refine HK.out _ _ ?_
    clear HK
    clear q0 q1 q2
    have B2 := tr_bl hb1 B1
    have R2 := tr_bl hb1 R1
    have hb2 := hb0.trans (hb1.mono hb0.size)
    have D2 := h.below hb2
    have k2 := Kt.of hb2 hb
    clear B1 R1 hb0
    go_wp2_with ((with_reducible refine wpList_stB 88 _ _ ?_); refine ⟨_, _, _, ⟨_, _, _, Tryd.sizeOf88, rfl, R2, st3 _ rfl 0 0 0⟩, ?_⟩; intro w5 R5 g5)
    refine bodyPost_ret (results_c1t1 rfl rfl (run_loadVar_all Tryd.isAgg88 Tryd.sizeOf88 R5 rfl)) rfl ⟨rfl, ⟨_, D2.st g5 R2⟩, k2.new g5 (by omega) hb⟩
  case true =>
    rw [if_neg (by simp)]
    have HE := Lib.hid (show metaE r p i = 0 by unfold metaE; rw [hm]; rfl)
    have HL := Lib.hid (metaL_one hm)
    clear hm
    obtain ⟨d3, e3, hsr⟩ : ∃ d3 e3, storeC d rep 1 i (metaL r p i) = (d3, e3) := ⟨_, _, rfl⟩
    rw [hsr]
    simp only
    have HS := Lib.hid hsr
    clear hsr
    go_enter Tryd.func80, Tryd.ntmps80
    refine wp_seq_k (fun K hK => ?_)
    have HK := Lib.hid hK
    clear hK
    go_wp2
    refine HK.out _ _ ?_
    clear HK
    have hb0 := (blw w (Obj.cells #[.int .i64 r, .int .i64 p, .int .i64 i] 88)).alloc (by simp) (Obj.cells #[.int .i64 0, .int .i64 0, .int .i64 0] 88)
    have B1 := tr_al (Obj.cells #[.int .i64 0, .int .i64 0, .int .i64 0] 88) (heap_alloc_new w (Obj.cells #[.int .i64 r, .int .i64 p, .int .i64 i] 88))
    have R1 := heap_alloc_new (w.alloc (Obj.cells #[.int .i64 r, .int .i64 p, .int .i64 i] 88)) (Obj.cells #[.int .i64 0, .int .i64 0, .int .i64 0] 88)
    rw [show (w.alloc (Obj.cells #[.int .i64 r, .int .i64 p, .int .i64 i] 88)).heap.size = w.heap.size + 1 by simp] at R1
    change Code.wp _ _ _ _ ((w.alloc (Obj.cells #[.int .i64 r, .int .i64 p, .int .i64 i] 88)).alloc (Obj.cells #[.int .i64 0, .int .i64 0, .int .i64 0] 88))
    generalize (w.alloc (Obj.cells #[.int .i64 r, .int .i64 p, .int .i64 i] 88)).alloc (Obj.cells #[.int .i64 0, .int .i64 0, .int .i64 0] 88) = w0 at *
    obtain ⟨q0, q1, q2, -, -, -⟩ := tri_cells B1
    refine wp_seq_k (fun K hK => ?_)
    have HK := Lib.hid hK
    clear hK
    go_wp2_with (go_at_call 44; refine (print_any r p i _).mono ?_; rintro e w1 ⟨⟨v1, rfl, hown⟩, hb1⟩; rw [HE.out])
    refine HK.out _ _ ?_
    clear HK
    clear q0 q1 q2
    have B2 := tr_bl hb1 B1
    have R2 := tr_bl hb1 R1
    have hb2 := hb0.trans (hb1.mono hb0.size)
    have D2 := h.below hb2
    have k2 := Kt.of hb2 hb
    clear B1 R1 hb0
    obtain ⟨va, vc, rfl, O2⟩ := OwnB.cap hown (by intro e; have hl := HL.out; rw [e] at hl; cases hl)
    have c0 := blk_cell B2 2 _ rfl
    have hst := cstore_any D2 (Nat.le_trans hb k2.bl.size) rep 1 i va vc (metaL r p i) (fun w' hk => (O2.kt hk).slb) (Nat.le_trans (metaL_len r p i) (by decide)) hw
    rw [HS.out] at hst
    simp only at hst
    clear hown
    by_cases h0 : e3 = 0
    · subst h0
      rw [if_neg (by simp)]
      refine wp_seq_k (fun K hK => ?_)
      have HK := Lib.hid hK
      clear hK
      go_wp2
      refine HK.out _ _ ?_
      clear HK
      refine wp_seq_k (fun K hK => ?_)
      have HK := Lib.hid hK
      clear hK
      go_wp2_with (go_at_call 38; refine hst.mono ?_; rintro e w3 ⟨rfl, ⟨wv3, D3⟩, hk3⟩)
      refine HK.out _ _ ?_
      clear HK
      have R3 := hk3.ty _ _ _ R2 (by decide) (by decide) (by decide)
      have k3 := k2.trans hk3
      clear hst c0
      have B3 := hk3.ty _ _ _ B2 (by decide) (by decide) (by decide)
      obtain ⟨q0, q1, q2, -, -, -⟩ := tri_cells B3
      go_wp2_with ((with_reducible refine wpList_stB 88 _ _ ?_); refine ⟨_, _, _, ⟨_, _, _, Tryd.sizeOf88, rfl, R3, st3 _ rfl r p i⟩, ?_⟩; intro w5 R5 g5)
      refine bodyPost_ret (results_c1t1 rfl rfl (run_loadVar_all Tryd.isAgg88 Tryd.sizeOf88 R5 rfl)) rfl ⟨rfl, ⟨_, D3.st g5 R3⟩, k3.new g5 (by omega) hb⟩
    · rw [if_pos h0]
      have hn : (e3 != 0) = true := by rw [bne_iff_ne]; exact h0
      refine wp_seq_k (fun K hK => ?_)
      have HK := Lib.hid hK
      clear hK
      go_wp2
      refine HK.out _ _ ?_
      clear HK
      go_wp2_with (first
        | (go_at_call 38; refine hst.mono ?_; rintro e w3 ⟨rfl, ⟨wv3, D3⟩, hk3⟩; have R3 := hk3.ty _ _ _ R2 (by decide) (by decide) (by decide); have k3 := k2.trans hk3; clear hst c0)
        | ((with_reducible refine wpList_stB 88 _ _ ?_); refine ⟨_, _, _, ⟨_, _, _, Tryd.sizeOf88, rfl, R3, st3 _ rfl 0 0 0⟩, ?_⟩; intro w5 R5 g5))
      refine bodyPost_ret (results_c1t1 rfl rfl (run_loadVar_all Tryd.isAgg88 Tryd.sizeOf88 R5 rfl)) rfl ⟨rfl, ⟨_, D3.st g5 R3⟩, k3.new g5 (by omega) hb⟩
end
end Go.Proofs.YtejjneamngkmoaaDoor

namespace Go.Proofs.YtejjneamngkmoaaDoor
open Go.RowKit

def parT (l : List UInt8) : Mt := if parM l = true then ⟨getN l 0 6, getN l 6 1, getN l 7 6⟩ else zM
theorem parV_T (l : List UInt8) : parV l = mV (parT l) := by
  unfold parV parT mV
  split <;> rfl
theorem parT_bd (l : List UInt8) : 0 ≤ (parT l).i ∧ (parT l).i ≤ 1099511627776 := by
  unfold parT
  split
  · rename_i h
    unfold parM at h
    rw [Bool.and_eq_true] at h
    have := may_bd h.2
    simp only
    omega
  · simp [zM]
def promM (d : Dk) (rep : Int) (m : Mt) (r p : Int) : Dk × Mt × Int :=
  if (mayM m.r m.p m.i && balB r p && abvB r p m.r m.p) = true then storeM d rep ⟨r, p, m.i⟩ else (d, zM, 2)
def ldM (v : Int) (l : List UInt8) : Mt := if 0 < v then parT l else zM
def beginM (d : Dk) (rep : Int) : Dk × Mt × Int :=
  if (loadC d rep 1).2.2 ≠ 0 then (d, zM, (loadC d rep 1).2.2) else
  if 0 < (loadC d rep 1).1 ∧ parE (loadC d rep 1).2.1 ≠ 0 then (d, zM, parE (loadC d rep 1).2.1) else
  if (ldM (loadC d rep 1).1 (loadC d rep 1).2.1).i = 1099511627776 then (d, zM, 4) else
  if (healC d rep 1).2 ≠ 0 then ((healC d rep 1).1, zM, (healC d rep 1).2) else
  storeM (healC d rep 1).1 rep ⟨(ldM (loadC d rep 1).1 (loadC d rep 1).2.1).r, (ldM (loadC d rep 1).1 (loadC d rep 1).2.1).p, (ldM (loadC d rep 1).1 (loadC d rep 1).2.1).i + 1⟩
theorem heal_waits {d : Dk} {rep reg : Int} (h : (healC d rep reg).2 = 0) (hw : d.waits.length ≤ 1000) : (healC d rep reg).1.waits.length ≤ 1000 := by
  unfold healC at h ⊢
  simp only at h ⊢
  generalize loadedC (copyC d rep reg 0) (copyC d rep reg 1) = ld at h ⊢
  generalize (if ld.1 = 1 then copyC d rep reg 1 else copyC d rep reg 0) = x at h ⊢
  generalize (if ld.1 = 1 then copyC d rep reg 0 else copyC d rep reg 1) = y at h ⊢
  by_cases h1 : openC d rep reg ≠ 0
  · rw [if_pos h1]; exact hw
  · rw [if_neg h1] at h ⊢
    by_cases h2 : ld.2.1 = false
    · rw [if_pos h2]; exact hw
    · rw [if_neg h2] at h ⊢
      by_cases h3 : x.st = y.st ∧ x.tg.idx = y.tg.idx ∧ x.body = y.body
      · rw [if_pos h3]; exact hw
      · rw [if_neg h3] at h ⊢
        rw [put_waits h]
        simp
theorem st2m (a b c a' b' : Int) : 0 + 2 ≤ (#[Value.int .i64 a, .int .i64 b, .int .i64 c]).size ∧ (Value.agg #[.int .i64 a', .int .i64 b']).cells.size = 2 ∧ (∀ u ∈ (Value.agg #[.int .i64 a', .int .i64 b']).cells.toList, u.oneCell' = true) ∧ ((#[Value.int .i64 a, .int .i64 b, .int .i64 c]).toList.take 0 ++ (Value.agg #[.int .i64 a', .int .i64 b']).cells.toList ++ (#[Value.int .i64 a, .int .i64 b, .int .i64 c]).toList.drop (0 + 2)).toArray = #[.int .i64 a', .int .i64 b', .int .i64 c] := ⟨(by show 2 ≤ 3; omega), rfl, by simp [Value.cells, Value.oneCell'], rfl⟩
theorem st1m (a b c x : Int) : 2 + 1 ≤ (#[Value.int .i64 a, .int .i64 b, .int .i64 c]).size ∧ (Value.int .i64 x).cells.size = 1 ∧ (∀ u ∈ (Value.int .i64 x).cells.toList, u.oneCell' = true) ∧ ((#[Value.int .i64 a, .int .i64 b, .int .i64 c]).toList.take 2 ++ (Value.int .i64 x).cells.toList ++ (#[Value.int .i64 a, .int .i64 b, .int .i64 c]).toList.drop (2 + 1)).toArray = #[.int .i64 a, .int .i64 b, .int .i64 x] := ⟨Nat.le_refl 3, rfl, by simp [Value.cells, Value.oneCell'], rfl⟩
section
variable {B g gp : Nat} {wv : Value} {d : Dk} {w : World}
set_option maxRecDepth 100000 in
set_option maxHeartbeats 1000000 in
theorem prom_any (h : DiskB B g gp wv d w) (hb : B ≤ w.heap.size) (hw : d.waits.length ≤ 1000) (rep r p i r' p' : Int) : Calls Tryd.prog 48 #[.pointer (some ⟨g, 0, none⟩), .int .i64 rep, .agg #[.int .i64 r, .int .i64 p, .int .i64 i], .agg #[.int .i64 r', .int .i64 p']] w (MRes B g gp w (promM d rep ⟨r, p, i⟩ r' p')) := by
  unfold promM
  simp only
  cases hm : mayM r p i
  case false =>
    rw [if_neg (by simp)]
    have HM := Lib.hid hm
    clear hm
    go_enter Tryd.func48, Tryd.ntmps48
    refine wp_seq_k (fun K hK => ?_)
    have HK := Lib.hid hK
    clear hK
    go_wp2
    refine HK.out _ _ ?_
    clear HK
    have hb0 := ((blw w (Obj.cells #[.int .i64 r, .int .i64 p, .int .i64 i] 88)).alloc (by simp) (Obj.cells #[.int .i64 r', .int .i64 p'] 86)).alloc (by simp; omega) (Obj.cells #[.int .i64 0, .int .i64 0, .int .i64 0] 88)
    have B0 := tr_al (Obj.cells #[.int .i64 0, .int .i64 0, .int .i64 0] 88) (tr_al (Obj.cells #[.int .i64 r', .int .i64 p'] 86) (heap_alloc_new w (Obj.cells #[.int .i64 r, .int .i64 p, .int .i64 i] 88)))
    have L0 := tr_al (Obj.cells #[.int .i64 0, .int .i64 0, .int .i64 0] 88) (heap_alloc_new (w.alloc (Obj.cells #[.int .i64 r, .int .i64 p, .int .i64 i] 88)) (Obj.cells #[.int .i64 r', .int .i64 p'] 86))
    have R0 := heap_alloc_new ((w.alloc (Obj.cells #[.int .i64 r, .int .i64 p, .int .i64 i] 88)).alloc (Obj.cells #[.int .i64 r', .int .i64 p'] 86)) (Obj.cells #[.int .i64 0, .int .i64 0, .int .i64 0] 88)
    rw [show (w.alloc (Obj.cells #[.int .i64 r, .int .i64 p, .int .i64 i] 88)).heap.size = w.heap.size + 1 by simp] at L0
    rw [show ((w.alloc (Obj.cells #[.int .i64 r, .int .i64 p, .int .i64 i] 88)).alloc (Obj.cells #[.int .i64 r', .int .i64 p'] 86)).heap.size = w.heap.size + 1 + 1 by simp] at R0
    change Code.wp _ _ _ _ (((w.alloc (Obj.cells #[.int .i64 r, .int .i64 p, .int .i64 i] 88)).alloc (Obj.cells #[.int .i64 r', .int .i64 p'] 86)).alloc (Obj.cells #[.int .i64 0, .int .i64 0, .int .i64 0] 88))
    generalize ((w.alloc (Obj.cells #[.int .i64 r, .int .i64 p, .int .i64 i] 88)).alloc (Obj.cells #[.int .i64 r', .int .i64 p'] 86)).alloc (Obj.cells #[.int .i64 0, .int .i64 0, .int .i64 0] 88) = w0 at *
    obtain ⟨q0, q1, q2, -, -, -⟩ := tri_cells B0
    obtain ⟨l0, l1⟩ := two_cells L0
    go_wp2_with (first
      | (go_at_call 45; refine (may_any r p i _).mono ?_; rintro e w1 ⟨rfl, hb1⟩; rw [HM.out]; have B1 := tr_bl hb1 B0; have L1 := tr_bl hb1 L0; have R1 := tr_bl hb1 R0; have hb01 := hb0.trans (hb1.mono hb0.size); obtain ⟨q0, q1, q2, -, -, -⟩ := tri_cells B1; obtain ⟨l0, l1⟩ := two_cells L1)
      | ((with_reducible refine wpList_stB 88 _ _ ?_); refine ⟨_, _, _, ⟨_, _, _, Tryd.sizeOf88, rfl, R1, st3 _ rfl 0 0 0⟩, ?_⟩; intro w5 R5 g5))
    refine bodyPost_ret (results_c1t1 rfl rfl (run_loadVar_all Tryd.isAgg88 Tryd.sizeOf88 R5 rfl)) rfl ⟨rfl, ⟨_, (h.below hb01).st g5 R1⟩, (Kt.of hb01 hb).new g5 (by omega) hb⟩
  case true =>
  cases hbl : balB r' p'
  case false =>
    rw [if_neg (by simp)]
    have HM := Lib.hid hm
    have HB := Lib.hid hbl
    clear hm hbl
    go_enter Tryd.func48, Tryd.ntmps48
    refine wp_seq_k (fun K hK => ?_)
    have HK := Lib.hid hK
    clear hK
    go_wp2
    refine HK.out _ _ ?_
    clear HK
    have hb0 := ((blw w (Obj.cells #[.int .i64 r, .int .i64 p, .int .i64 i] 88)).alloc (by simp) (Obj.cells #[.int .i64 r', .int .i64 p'] 86)).alloc (by simp; omega) (Obj.cells #[.int .i64 0, .int .i64 0, .int .i64 0] 88)
    have B0 := tr_al (Obj.cells #[.int .i64 0, .int .i64 0, .int .i64 0] 88) (tr_al (Obj.cells #[.int .i64 r', .int .i64 p'] 86) (heap_alloc_new w (Obj.cells #[.int .i64 r, .int .i64 p, .int .i64 i] 88)))
    have L0 := tr_al (Obj.cells #[.int .i64 0, .int .i64 0, .int .i64 0] 88) (heap_alloc_new (w.alloc (Obj.cells #[.int .i64 r, .int .i64 p, .int .i64 i] 88)) (Obj.cells #[.int .i64 r', .int .i64 p'] 86))
    have R0 := heap_alloc_new ((w.alloc (Obj.cells #[.int .i64 r, .int .i64 p, .int .i64 i] 88)).alloc (Obj.cells #[.int .i64 r', .int .i64 p'] 86)) (Obj.cells #[.int .i64 0, .int .i64 0, .int .i64 0] 88)
    rw [show (w.alloc (Obj.cells #[.int .i64 r, .int .i64 p, .int .i64 i] 88)).heap.size = w.heap.size + 1 by simp] at L0
    rw [show ((w.alloc (Obj.cells #[.int .i64 r, .int .i64 p, .int .i64 i] 88)).alloc (Obj.cells #[.int .i64 r', .int .i64 p'] 86)).heap.size = w.heap.size + 1 + 1 by simp] at R0
    change Code.wp _ _ _ _ (((w.alloc (Obj.cells #[.int .i64 r, .int .i64 p, .int .i64 i] 88)).alloc (Obj.cells #[.int .i64 r', .int .i64 p'] 86)).alloc (Obj.cells #[.int .i64 0, .int .i64 0, .int .i64 0] 88))
    generalize ((w.alloc (Obj.cells #[.int .i64 r, .int .i64 p, .int .i64 i] 88)).alloc (Obj.cells #[.int .i64 r', .int .i64 p'] 86)).alloc (Obj.cells #[.int .i64 0, .int .i64 0, .int .i64 0] 88) = w0 at *
    obtain ⟨q0, q1, q2, -, -, -⟩ := tri_cells B0
    obtain ⟨l0, l1⟩ := two_cells L0
    go_wp2_with (first
      | (go_at_call 45; refine (may_any r p i _).mono ?_; rintro e w1 ⟨rfl, hb1⟩; rw [HM.out]; have B1 := tr_bl hb1 B0; have L1 := tr_bl hb1 L0; have R1 := tr_bl hb1 R0; have hb01 := hb0.trans (hb1.mono hb0.size); obtain ⟨q0, q1, q2, -, -, -⟩ := tri_cells B1; obtain ⟨l0, l1⟩ := two_cells L1)
      | (go_at_call 78; refine (ballot_any r' p' _).mono ?_; rintro e w2 ⟨rfl, hw2⟩; have hb2 : Below w1.heap.size w1 w2 := (by rw [hw2]; exact blw _ _); clear hw2; rw [HB.out]; have B2 := tr_bl hb2 B1; have L2 := tr_bl hb2 L1; have R2 := tr_bl hb2 R1; have hb02 := hb01.trans (hb2.mono hb01.size); obtain ⟨q0, q1, q2, -, -, -⟩ := tri_cells B2; obtain ⟨l0, l1⟩ := two_cells L2)
      | ((with_reducible refine wpList_stB 88 _ _ ?_); refine ⟨_, _, _, ⟨_, _, _, Tryd.sizeOf88, rfl, R2, st3 _ rfl 0 0 0⟩, ?_⟩; intro w5 R5 g5))
    refine bodyPost_ret (results_c1t1 rfl rfl (run_loadVar_all Tryd.isAgg88 Tryd.sizeOf88 R5 rfl)) rfl ⟨rfl, ⟨_, (h.below hb02).st g5 R2⟩, (Kt.of hb02 hb).new g5 (by omega) hb⟩
  case true =>
  cases hab : abvB r' p' r p
  case false =>
    rw [if_neg (by simp)]
    have HM := Lib.hid hm
    have HB := Lib.hid hbl
    have HA := Lib.hid hab
    clear hm hbl hab
    go_enter Tryd.func48, Tryd.ntmps48
    refine wp_seq_k (fun K hK => ?_)
    have HK := Lib.hid hK
    clear hK
    go_wp2
    refine HK.out _ _ ?_
    clear HK
    have hb0 := ((blw w (Obj.cells #[.int .i64 r, .int .i64 p, .int .i64 i] 88)).alloc (by simp) (Obj.cells #[.int .i64 r', .int .i64 p'] 86)).alloc (by simp; omega) (Obj.cells #[.int .i64 0, .int .i64 0, .int .i64 0] 88)
    have B0 := tr_al (Obj.cells #[.int .i64 0, .int .i64 0, .int .i64 0] 88) (tr_al (Obj.cells #[.int .i64 r', .int .i64 p'] 86) (heap_alloc_new w (Obj.cells #[.int .i64 r, .int .i64 p, .int .i64 i] 88)))
    have L0 := tr_al (Obj.cells #[.int .i64 0, .int .i64 0, .int .i64 0] 88) (heap_alloc_new (w.alloc (Obj.cells #[.int .i64 r, .int .i64 p, .int .i64 i] 88)) (Obj.cells #[.int .i64 r', .int .i64 p'] 86))
    have R0 := heap_alloc_new ((w.alloc (Obj.cells #[.int .i64 r, .int .i64 p, .int .i64 i] 88)).alloc (Obj.cells #[.int .i64 r', .int .i64 p'] 86)) (Obj.cells #[.int .i64 0, .int .i64 0, .int .i64 0] 88)
    rw [show (w.alloc (Obj.cells #[.int .i64 r, .int .i64 p, .int .i64 i] 88)).heap.size = w.heap.size + 1 by simp] at L0
    rw [show ((w.alloc (Obj.cells #[.int .i64 r, .int .i64 p, .int .i64 i] 88)).alloc (Obj.cells #[.int .i64 r', .int .i64 p'] 86)).heap.size = w.heap.size + 1 + 1 by simp] at R0
    change Code.wp _ _ _ _ (((w.alloc (Obj.cells #[.int .i64 r, .int .i64 p, .int .i64 i] 88)).alloc (Obj.cells #[.int .i64 r', .int .i64 p'] 86)).alloc (Obj.cells #[.int .i64 0, .int .i64 0, .int .i64 0] 88))
    generalize ((w.alloc (Obj.cells #[.int .i64 r, .int .i64 p, .int .i64 i] 88)).alloc (Obj.cells #[.int .i64 r', .int .i64 p'] 86)).alloc (Obj.cells #[.int .i64 0, .int .i64 0, .int .i64 0] 88) = w0 at *
    obtain ⟨q0, q1, q2, -, -, -⟩ := tri_cells B0
    obtain ⟨l0, l1⟩ := two_cells L0
    go_wp2_with (first
      | (go_at_call 45; refine (may_any r p i _).mono ?_; rintro e w1 ⟨rfl, hb1⟩; rw [HM.out]; have B1 := tr_bl hb1 B0; have L1 := tr_bl hb1 L0; have R1 := tr_bl hb1 R0; have hb01 := hb0.trans (hb1.mono hb0.size); obtain ⟨q0, q1, q2, -, -, -⟩ := tri_cells B1; obtain ⟨l0, l1⟩ := two_cells L1)
      | (go_at_call 78; refine (ballot_any r' p' _).mono ?_; rintro e w2 ⟨rfl, hw2⟩; have hb2 : Below w1.heap.size w1 w2 := (by rw [hw2]; exact blw _ _); clear hw2; rw [HB.out]; have B2 := tr_bl hb2 B1; have L2 := tr_bl hb2 L1; have R2 := tr_bl hb2 R1; have hb02 := hb01.trans (hb2.mono hb01.size); obtain ⟨q0, q1, q2, -, -, -⟩ := tri_cells B2; obtain ⟨l0, l1⟩ := two_cells L2)
      | (go_at_call 81; refine (above_any r' p' r p _).mono ?_; rintro e w3 ⟨rfl, hb3⟩; rw [HA.out]; have B3 := tr_bl hb3 B2; have L3 := tr_bl hb3 L2; have R3 := tr_bl hb3 R2; have hb03 := hb02.trans (hb3.mono hb02.size); obtain ⟨q0, q1, q2, -, -, -⟩ := tri_cells B3; obtain ⟨l0, l1⟩ := two_cells L3)
      | ((with_reducible refine wpList_stB 88 _ _ ?_); refine ⟨_, _, _, ⟨_, _, _, Tryd.sizeOf88, rfl, R3, st3 _ rfl 0 0 0⟩, ?_⟩; intro w5 R5 g5))
    refine bodyPost_ret (results_c1t1 rfl rfl (run_loadVar_all Tryd.isAgg88 Tryd.sizeOf88 R5 rfl)) rfl ⟨rfl, ⟨_, (h.below hb03).st g5 R3⟩, (Kt.of hb03 hb).new g5 (by omega) hb⟩
  case true =>
    rw [if_pos (by simp)]
    have HM := Lib.hid hm
    have HB := Lib.hid hbl
    have HA := Lib.hid hab
    clear hm hbl hab
    obtain ⟨d6, ⟨r6, p6, i6⟩, e6, hsm⟩ : ∃ d6 m6 e6, storeM d rep ⟨r', p', i⟩ = (d6, m6, e6) := ⟨_, _, _, rfl⟩
    rw [hsm]
    have HS := Lib.hid hsm
    clear hsm
    go_enter Tryd.func48, Tryd.ntmps48
    refine wp_seq_k (fun K hK => ?_)
    have HK := Lib.hid hK
    clear hK
    go_wp2
    refine HK.out _ _ ?_
    clear HK
    have hb0 := ((blw w (Obj.cells #[.int .i64 r, .int .i64 p, .int .i64 i] 88)).alloc (by simp) (Obj.cells #[.int .i64 r', .int .i64 p'] 86)).alloc (by simp; omega) (Obj.cells #[.int .i64 0, .int .i64 0, .int .i64 0] 88)
    have B0 := tr_al (Obj.cells #[.int .i64 0, .int .i64 0, .int .i64 0] 88) (tr_al (Obj.cells #[.int .i64 r', .int .i64 p'] 86) (heap_alloc_new w (Obj.cells #[.int .i64 r, .int .i64 p, .int .i64 i] 88)))
    have L0 := tr_al (Obj.cells #[.int .i64 0, .int .i64 0, .int .i64 0] 88) (heap_alloc_new (w.alloc (Obj.cells #[.int .i64 r, .int .i64 p, .int .i64 i] 88)) (Obj.cells #[.int .i64 r', .int .i64 p'] 86))
    have R0 := heap_alloc_new ((w.alloc (Obj.cells #[.int .i64 r, .int .i64 p, .int .i64 i] 88)).alloc (Obj.cells #[.int .i64 r', .int .i64 p'] 86)) (Obj.cells #[.int .i64 0, .int .i64 0, .int .i64 0] 88)
    rw [show (w.alloc (Obj.cells #[.int .i64 r, .int .i64 p, .int .i64 i] 88)).heap.size = w.heap.size + 1 by simp] at L0
    rw [show ((w.alloc (Obj.cells #[.int .i64 r, .int .i64 p, .int .i64 i] 88)).alloc (Obj.cells #[.int .i64 r', .int .i64 p'] 86)).heap.size = w.heap.size + 1 + 1 by simp] at R0
    change Code.wp _ _ _ _ (((w.alloc (Obj.cells #[.int .i64 r, .int .i64 p, .int .i64 i] 88)).alloc (Obj.cells #[.int .i64 r', .int .i64 p'] 86)).alloc (Obj.cells #[.int .i64 0, .int .i64 0, .int .i64 0] 88))
    generalize ((w.alloc (Obj.cells #[.int .i64 r, .int .i64 p, .int .i64 i] 88)).alloc (Obj.cells #[.int .i64 r', .int .i64 p'] 86)).alloc (Obj.cells #[.int .i64 0, .int .i64 0, .int .i64 0] 88) = w0 at *
    obtain ⟨q0, q1, q2, -, -, -⟩ := tri_cells B0
    obtain ⟨l0, l1⟩ := two_cells L0
    go_wp2_with (first
      | (go_at_call 45; refine (may_any r p i _).mono ?_; rintro e w1 ⟨rfl, hb1⟩; rw [HM.out]; have B1 := tr_bl hb1 B0; have L1 := tr_bl hb1 L0; have R1 := tr_bl hb1 R0; have hb01 := hb0.trans (hb1.mono hb0.size); obtain ⟨q0, q1, q2, -, -, -⟩ := tri_cells B1; obtain ⟨l0, l1⟩ := two_cells L1)
      | (go_at_call 78; refine (ballot_any r' p' _).mono ?_; rintro e w2 ⟨rfl, hw2⟩; have hb2 : Below w1.heap.size w1 w2 := (by rw [hw2]; exact blw _ _); clear hw2; rw [HB.out]; have B2 := tr_bl hb2 B1; have L2 := tr_bl hb2 L1; have R2 := tr_bl hb2 R1; have hb02 := hb01.trans (hb2.mono hb01.size); obtain ⟨q0, q1, q2, -, -, -⟩ := tri_cells B2; obtain ⟨l0, l1⟩ := two_cells L2)
      | (go_at_call 81; refine (above_any r' p' r p _).mono ?_; rintro e w3 ⟨rfl, hb3⟩; rw [HA.out]; have B3 := tr_bl hb3 B2; have L3 := tr_bl hb3 L2; have R3 := tr_bl hb3 R2; have hb03 := hb02.trans (hb3.mono hb02.size); obtain ⟨q0, q1, q2, -, -, -⟩ := tri_cells B3; obtain ⟨l0, l1⟩ := two_cells L3)
      | ((with_reducible refine wpList_stB 86 _ _ ?_); refine ⟨_, _, _, ⟨_, _, _, Tryd.sizeOf86, rfl, B3, st2m r p i r' p'⟩, ?_⟩; intro w5 B5 g5; have D5 := (h.below hb03).st g5 B3; have k5 := (Kt.of hb03 hb).new g5 (by omega) hb; have R5 := tr_st g5 R3 (by omega); clear q0 q1 q2; obtain ⟨q0, q1, q2, -, -, -⟩ := tri_cells B5)
      | (go_at_call 80; have hst := mstore_any D5 (Nat.le_trans hb k5.bl.size) hw rep r' p' i; rw [HS.out] at hst; refine hst.mono ?_; rintro e w6 ⟨rfl, ⟨wv6, D6⟩, hk6⟩; simp only [mV]; have R6 := hk6.ty _ _ _ R5 (by decide) (by decide) (by decide); have k6 := k5.trans hk6; clear hst)
      | ((with_reducible refine wpList_stB 88 _ _ ?_); refine ⟨_, _, _, ⟨_, _, _, Tryd.sizeOf88, rfl, R6, st3 _ rfl r6 p6 i6⟩, ?_⟩; intro w7 R7 g7))
    refine bodyPost_ret (results_c1t1 rfl rfl (run_loadVar_all Tryd.isAgg88 Tryd.sizeOf88 R7 rfl)) rfl ⟨rfl, ⟨_, D6.st g7 R6⟩, k6.new g7 (by omega) hb⟩
end
end Go.Proofs.YtejjneamngkmoaaDoor

namespace Go.Proofs.YtejjneamngkmoaaDoor
open Go.RowKit

section
variable {B g gp : Nat} {wv : Value} {d : Dk} {w : World}
set_option maxRecDepth 100000 in
set_option maxHeartbeats 1000000 in
theorem begin_err (h : DiskB B g gp wv d w) (hb : B ≤ w.heap.size) (rep : Int) {v e1 : Int} {l : List UInt8} (hl : loadC d rep 1 = (v, l, e1)) (he : e1 ≠ 0) : Calls Tryd.prog 47 #[.pointer (some ⟨g, 0, none⟩), .int .i64 rep] w (MRes B g gp w (beginM d rep)) := by
  unfold beginM
  rw [hl]
  simp only
  rw [if_pos he]
  have hn : (e1 != 0) = true := by rw [bne_iff_ne]; exact he
  have HL := Lib.hid hl
  clear hl
  go_enter Tryd.func47, Tryd.ntmps47
  refine wp_seq_k (fun K hK => ?_)
  have HK := Lib.hid hK
  clear hK
  go_wp2
  refine HK.out _ _ ?_
  clear HK
  have hb0 := blw w (Obj.cells #[.int .i64 0, .int .i64 0, .int .i64 0] 88)
  have R0 := heap_alloc_new w (Obj.cells #[.int .i64 0, .int .i64 0, .int .i64 0] 88)
  have D0 := h.below hb0
  have k0 := Kt.of hb0 hb
  generalize w.alloc (Obj.cells #[.int .i64 0, .int .i64 0, .int .i64 0] 88) = w0 at *
  have hld := cload_any D0 rep 1
  rw [HL.out] at hld
  simp only [LoadRes] at hld
  go_wp2_with fail
  refine hld.mono ?_
  rintro e w1 ⟨⟨a1, c1, rfl, o1⟩, hb1⟩
  have R1 := tr_bl hb1 R0
  have D1 := D0.below hb1
  have k1 := k0.trans (Kt.of hb1 (Nat.le_trans hb hb0.size))
  clear hld hb0 R0 D0 k0 hb1
  go_wp2_with ((with_reducible refine wpList_stB 88 _ _ ?_); refine ⟨_, _, _, ⟨_, _, _, Tryd.sizeOf88, rfl, R1, st3 _ rfl 0 0 0⟩, ?_⟩; intro w5 R5 g5)
  refine bodyPost_ret (results_c1t1 rfl rfl (run_loadVar_all Tryd.isAgg88 Tryd.sizeOf88 R5 rfl)) rfl ⟨rfl, ⟨_, D1.st g5 R1⟩, k1.new g5 (Nat.le_refl _) hb⟩
set_option maxRecDepth 100000 in
set_option maxHeartbeats 2000000 in
theorem begin_zero (h : DiskB B g gp wv d w) (hb : B ≤ w.heap.size) (hw : d.waits.length ≤ 1000) (rep : Int) {v : Int} {l : List UInt8} (hl : loadC d rep 1 = (v, l, 0)) (hv : ¬ 0 < v) : Calls Tryd.prog 47 #[.pointer (some ⟨g, 0, none⟩), .int .i64 rep] w (MRes B g gp w (beginM d rep)) := by
  unfold beginM
  rw [hl]
  simp only
  rw [if_neg (by simp), if_neg (fun h => hv h.1)]
  unfold ldM
  rw [if_neg hv]
  rw [if_neg (by simp [zM])]
  have HL := Lib.hid hl
  clear hl
  obtain ⟨d3, e3, hhl⟩ : ∃ d3 e3, healC d rep 1 = (d3, e3) := ⟨_, _, rfl⟩
  have hw3 := heal_waits (d := d) (rep := rep) (reg := 1)
  rw [hhl] at hw3
  rw [hhl]
  simp only at hw3
  simp only
  have HH := Lib.hid hhl
  clear hhl
  by_cases h3 : e3 = 0
  · simp only [zM]
    rw [show (0 : Int) + 1 = 1 from rfl]
    subst h3
    replace hw3 := hw3 rfl hw
    rw [if_neg (by simp)]
    obtain ⟨d4, ⟨r4, p4, i4⟩, e4, hsm⟩ : ∃ d4 m4 e4, storeM d3 rep ⟨0, 0, 1⟩ = (d4, m4, e4) := ⟨_, _, _, rfl⟩
    rw [hsm]
    have HS := Lib.hid hsm
    have HW := Lib.hid hw3
    clear hsm hw3
    go_enter Tryd.func47, Tryd.ntmps47
    refine wp_seq_k (fun K hK => ?_)
    have HK := Lib.hid hK
    clear hK
    go_wp2
    refine HK.out _ _ ?_
    clear HK
    have hb0 := blw w (Obj.cells #[.int .i64 0, .int .i64 0, .int .i64 0] 88)
    have R0 := heap_alloc_new w (Obj.cells #[.int .i64 0, .int .i64 0, .int .i64 0] 88)
    have D0 := h.below hb0
    have k0 := Kt.of hb0 hb
    generalize w.alloc (Obj.cells #[.int .i64 0, .int .i64 0, .int .i64 0] 88) = w0 at *
    have hld := cload_any D0 rep 1
    rw [HL.out] at hld
    simp only [LoadRes] at hld
    go_wp2_with fail
    refine hld.mono ?_
    rintro e w1 ⟨⟨a1, c1, rfl, o1⟩, hb1⟩
    have R1 := tr_bl hb1 R0
    have D1 := D0.below hb1
    have k1 := k0.trans (Kt.of hb1 (Nat.le_trans hb hb0.size))
    clear hld hb0 R0 D0 k0 hb1
    go_wp2_with fail
    have hbA := blw w1 (Obj.cells #[.int .i64 0, .int .i64 0, .int .i64 0] 88)
    have M2 := heap_alloc_new w1 (Obj.cells #[.int .i64 0, .int .i64 0, .int .i64 0] 88)
    have R2 := tr_bl hbA R1
    have D2 := D1.below hbA
    have k2 := k1.trans (Kt.of hbA (Nat.le_trans hb k1.bl.size))
    have hqw : w.heap.size ≤ w1.heap.size := k1.bl.size
    have hne : w1.heap.size ≠ w.heap.size := by have := lt_blk R1; omega
    generalize w1.alloc (Obj.cells #[.int .i64 0, .int .i64 0, .int .i64 0] 88) = w2 at *
    generalize w1.heap.size = q at *
    clear hbA R1 D1 k1 o1
    have hhe := cheal_any D2 (Nat.le_trans hb k2.bl.size) rep 1 hw
    rw [HH.out] at hhe
    simp only at hhe
    refine hhe.mono ?_
    rintro e w3 ⟨rfl, ⟨wv3, D3⟩, hk3⟩
    have R3 := hk3.ty _ _ _ R2 (by decide) (by decide) (by decide)
    have M3 := hk3.ty _ _ _ M2 (by decide) (by decide) (by decide)
    have k3 := k2.trans hk3
    obtain ⟨q0, q1, q2, -, -, -⟩ := tri_cells M3
    clear hhe
    go_wp2_with (first
      | (go_at_call 80; have hst := mstore_any D5 (Nat.le_trans hb k5.bl.size) HW.out rep (0) (0) (1); rw [HS.out] at hst; refine hst.mono ?_; rintro e w6 ⟨rfl, ⟨wv6, D6⟩, hk6⟩; simp only [mV]; have R6 := hk6.ty _ _ _ R5 (by decide) (by decide) (by decide); have k6 := k5.trans hk6; clear hst)
      | ((with_reducible refine wpList_stB 3 _ _ ?_); refine ⟨_, _, _, ⟨_, _, _, Tryd.sizeOf3, rfl, M3, st1m (0) (0) (0) (1)⟩, ?_⟩; intro w5 M5 g5; have R5 := tr_st g5 R3 hne; have D5 := D3.st g5 M3; have k5 := k3.new g5 hqw hb; clear q0 q1 q2; obtain ⟨q0, q1, q2, -, -, -⟩ := tri_cells M5)
      | ((with_reducible refine wpList_stB 88 _ _ ?_); refine ⟨_, _, _, ⟨_, _, _, Tryd.sizeOf88, rfl, R6, st3 _ rfl r4 p4 i4⟩, ?_⟩; intro w7 R7 g7))
    refine bodyPost_ret (results_c1t1 rfl rfl (run_loadVar_all Tryd.isAgg88 Tryd.sizeOf88 R7 rfl)) rfl ⟨rfl, ⟨_, D6.st g7 R6⟩, k6.new g7 (Nat.le_refl _) hb⟩
  · rw [if_pos h3]
    have hn3 : (e3 != 0) = true := by rw [bne_iff_ne]; exact h3
    go_enter Tryd.func47, Tryd.ntmps47
    refine wp_seq_k (fun K hK => ?_)
    have HK := Lib.hid hK
    clear hK
    go_wp2
    refine HK.out _ _ ?_
    clear HK
    have hb0 := blw w (Obj.cells #[.int .i64 0, .int .i64 0, .int .i64 0] 88)
    have R0 := heap_alloc_new w (Obj.cells #[.int .i64 0, .int .i64 0, .int .i64 0] 88)
    have D0 := h.below hb0
    have k0 := Kt.of hb0 hb
    generalize w.alloc (Obj.cells #[.int .i64 0, .int .i64 0, .int .i64 0] 88) = w0 at *
    have hld := cload_any D0 rep 1
    rw [HL.out] at hld
    simp only [LoadRes] at hld
    go_wp2_with fail
    refine hld.mono ?_
    rintro e w1 ⟨⟨a1, c1, rfl, o1⟩, hb1⟩
    have R1 := tr_bl hb1 R0
    have D1 := D0.below hb1
    have k1 := k0.trans (Kt.of hb1 (Nat.le_trans hb hb0.size))
    clear hld hb0 R0 D0 k0 hb1
    go_wp2_with fail
    have hbA := blw w1 (Obj.cells #[.int .i64 0, .int .i64 0, .int .i64 0] 88)
    have M2 := heap_alloc_new w1 (Obj.cells #[.int .i64 0, .int .i64 0, .int .i64 0] 88)
    have R2 := tr_bl hbA R1
    have D2 := D1.below hbA
    have k2 := k1.trans (Kt.of hbA (Nat.le_trans hb k1.bl.size))
    have hqw : w.heap.size ≤ w1.heap.size := k1.bl.size
    have hne : w1.heap.size ≠ w.heap.size := by have := lt_blk R1; omega
    generalize w1.alloc (Obj.cells #[.int .i64 0, .int .i64 0, .int .i64 0] 88) = w2 at *
    generalize w1.heap.size = q at *
    clear hbA R1 D1 k1 o1
    have hhe := cheal_any D2 (Nat.le_trans hb k2.bl.size) rep 1 hw
    rw [HH.out] at hhe
    simp only at hhe
    refine hhe.mono ?_
    rintro e w3 ⟨rfl, ⟨wv3, D3⟩, hk3⟩
    have R3 := hk3.ty _ _ _ R2 (by decide) (by decide) (by decide)
    have k3 := k2.trans hk3
    clear hhe
    go_wp2_with ((with_reducible refine wpList_stB 88 _ _ ?_); refine ⟨_, _, _, ⟨_, _, _, Tryd.sizeOf88, rfl, R3, st3 _ rfl 0 0 0⟩, ?_⟩; intro w5 R5 g5)
    refine bodyPost_ret (results_c1t1 rfl rfl (run_loadVar_all Tryd.isAgg88 Tryd.sizeOf88 R5 rfl)) rfl ⟨rfl, ⟨_, D3.st g5 R3⟩, k3.new g5 (Nat.le_refl _) hb⟩
set_option maxRecDepth 100000 in
set_option maxHeartbeats 2000000 in
theorem begin_got (h : DiskB B g gp wv d w) (hb : B ≤ w.heap.size) (hw : d.waits.length ≤ 1000) (rep : Int) {v : Int} {l : List UInt8} (hl : loadC d rep 1 = (v, l, 0)) (hv : 0 < v) : Calls Tryd.prog 47 #[.pointer (some ⟨g, 0, none⟩), .int .i64 rep] w (MRes B g gp w (beginM d rep)) := by
  unfold beginM
  rw [hl]
  simp only
  rw [if_neg (by simp)]
  unfold ldM
  rw [if_pos hv]
  have HL := Lib.hid hl
  clear hl
  by_cases hp : parE l = 0
  case neg =>
    rw [if_pos ⟨hv, hp⟩]
    have hpn : (parE l != 0) = true := by rw [bne_iff_ne]; exact hp
    go_enter Tryd.func47, Tryd.ntmps47
    refine wp_seq_k (fun K hK => ?_)
    have HK := Lib.hid hK
    clear hK
    go_wp2
    refine HK.out _ _ ?_
    clear HK
    have hb0 := blw w (Obj.cells #[.int .i64 0, .int .i64 0, .int .i64 0] 88)
    have R0 := heap_alloc_new w (Obj.cells #[.int .i64 0, .int .i64 0, .int .i64 0] 88)
    have D0 := h.below hb0
    have k0 := Kt.of hb0 hb
    generalize w.alloc (Obj.cells #[.int .i64 0, .int .i64 0, .int .i64 0] 88) = w0 at *
    have hld := cload_any D0 rep 1
    rw [HL.out] at hld
    simp only [LoadRes] at hld
    go_wp2_with fail
    refine hld.mono ?_
    rintro e w1 ⟨⟨a1, c1, rfl, o1⟩, hb1⟩
    have R1 := tr_bl hb1 R0
    have D1 := D0.below hb1
    have k1 := k0.trans (Kt.of hb1 (Nat.le_trans hb hb0.size))
    clear hld hb0 R0 D0 k0 hb1
    have HV := Lib.hid (parV_T l)
    obtain ⟨rr, pp, ii, hT⟩ : ∃ r p i, parT l = ⟨r, p, i⟩ := ⟨_, _, _, rfl⟩
    have HT := Lib.hid hT
    clear hT
    go_wp2_with (first
      | (go_at_call 46; refine (parse_any a1 c1 l _ ((o1.below (blw w1 (Obj.cells #[.int .i64 0, .int .i64 0, .int .i64 0] 88))).slb)).mono ?_; rintro e w2 ⟨rfl, hb2⟩; rw [HV.out, HT.out]; simp only [mV]; have M2 := tr_bl hb2 (heap_alloc_new w1 (Obj.cells #[.int .i64 0, .int .i64 0, .int .i64 0] 88)); have hbA := (blw w1 (Obj.cells #[.int .i64 0, .int .i64 0, .int .i64 0] 88)).trans (hb2.mono (blw w1 (Obj.cells #[.int .i64 0, .int .i64 0, .int .i64 0] 88)).size); have R2 := tr_bl hbA R1; have D2 := D1.below hbA; have k2 := k1.trans (Kt.of hbA (Nat.le_trans hb k1.bl.size)))
      | ((with_reducible refine wpList_stB 88 _ _ ?_); refine ⟨_, _, _, ⟨_, _, _, Tryd.sizeOf88, rfl, M2, st3 _ rfl rr pp ii⟩, ?_⟩; intro w3 M3 g3; have R3 := tr_st g3 R2 (by have := lt_blk R1; omega); have D3 := D2.st g3 M2; have k3 := k2.new g3 k1.bl.size hb)
      | ((with_reducible refine wpList_stB 88 _ _ ?_); refine ⟨_, _, _, ⟨_, _, _, Tryd.sizeOf88, rfl, R3, st3 _ rfl 0 0 0⟩, ?_⟩; intro w5 R5 g5))
    refine bodyPost_ret (results_c1t1 rfl rfl (run_loadVar_all Tryd.isAgg88 Tryd.sizeOf88 R5 rfl)) rfl ⟨rfl, ⟨_, D3.st g5 R3⟩, k3.new g5 (Nat.le_refl _) hb⟩
  case pos =>
    rw [if_neg (fun h => h.2 hp)]
    have hbd := parT_bd l
    have HP := Lib.hid hp
    have HV := Lib.hid (parV_T l)
    clear hp
    generalize parT l = T at *
    obtain ⟨r, p, i⟩ := T
    simp only at hbd ⊢
    obtain ⟨hi0, hi1⟩ := hbd
    by_cases hi : i = 1099511627776
    · rw [if_pos hi]
      subst hi
      go_enter Tryd.func47, Tryd.ntmps47
      refine wp_seq_k (fun K hK => ?_)
      have HK := Lib.hid hK
      clear hK
      go_wp2
      refine HK.out _ _ ?_
      clear HK
      have hb0 := blw w (Obj.cells #[.int .i64 0, .int .i64 0, .int .i64 0] 88)
      have R0 := heap_alloc_new w (Obj.cells #[.int .i64 0, .int .i64 0, .int .i64 0] 88)
      have D0 := h.below hb0
      have k0 := Kt.of hb0 hb
      generalize w.alloc (Obj.cells #[.int .i64 0, .int .i64 0, .int .i64 0] 88) = w0 at *
      have hld := cload_any D0 rep 1
      rw [HL.out] at hld
      simp only [LoadRes] at hld
      go_wp2_with fail
      refine hld.mono ?_
      rintro e w1 ⟨⟨a1, c1, rfl, o1⟩, hb1⟩
      have R1 := tr_bl hb1 R0
      have D1 := D0.below hb1
      have k1 := k0.trans (Kt.of hb1 (Nat.le_trans hb hb0.size))
      clear hld hb0 R0 D0 k0 hb1
      go_wp2_with (first
        | (go_at_call 46; refine (parse_any a1 c1 l _ ((o1.below (blw w1 (Obj.cells #[.int .i64 0, .int .i64 0, .int .i64 0] 88))).slb)).mono ?_; rintro e wp ⟨rfl, hbp⟩; rw [HV.out, HP.out]; simp only [mV]; have M1 := tr_bl hbp (heap_alloc_new w1 (Obj.cells #[.int .i64 0, .int .i64 0, .int .i64 0] 88)); have hbA := (blw w1 (Obj.cells #[.int .i64 0, .int .i64 0, .int .i64 0] 88)).trans (hbp.mono (blw w1 (Obj.cells #[.int .i64 0, .int .i64 0, .int .i64 0] 88)).size); have Rp := tr_bl hbA R1; have Dp := D1.below hbA; have kp := k1.trans (Kt.of hbA (Nat.le_trans hb k1.bl.size)))
        | ((with_reducible refine wpList_stB 88 _ _ ?_); refine ⟨_, _, _, ⟨_, _, _, Tryd.sizeOf88, rfl, M1, st3 _ rfl r p 1099511627776⟩, ?_⟩; intro w2 M2 g2; have R2 := tr_st g2 Rp (by have := lt_blk R1; omega); have D2 := Dp.st g2 M1; have k2 := kp.new g2 k1.bl.size hb; obtain ⟨q0, q1, q2, -, -, -⟩ := tri_cells M2)
        | ((with_reducible refine wpList_stB 88 _ _ ?_); refine ⟨_, _, _, ⟨_, _, _, Tryd.sizeOf88, rfl, R2, st3 _ rfl 0 0 0⟩, ?_⟩; intro w5 R5 g5))
      refine bodyPost_ret (results_c1t1 rfl rfl (run_loadVar_all Tryd.isAgg88 Tryd.sizeOf88 R5 rfl)) rfl ⟨rfl, ⟨_, D2.st g5 R2⟩, k2.new g5 (Nat.le_refl _) hb⟩
    · rw [if_neg hi]
      have hin : (i == 1099511627776) = false := by rw [beq_eq_false_iff_ne]; exact hi
      obtain ⟨d3, e3, hhl⟩ : ∃ d3 e3, healC d rep 1 = (d3, e3) := ⟨_, _, rfl⟩
      have hw3 := heal_waits (d := d) (rep := rep) (reg := 1)
      rw [hhl] at hw3
      rw [hhl]
      simp only at hw3
      simp only
      have HH := Lib.hid hhl
      clear hhl
      by_cases h3 : e3 = 0
      · skip
        subst h3
        replace hw3 := hw3 rfl hw
        rw [if_neg (by simp)]
        obtain ⟨d4, ⟨r4, p4, i4⟩, e4, hsm⟩ : ∃ d4 m4 e4, storeM d3 rep ⟨r, p, i + 1⟩ = (d4, m4, e4) := ⟨_, _, _, rfl⟩
        rw [hsm]
        have HS := Lib.hid hsm
        have HW := Lib.hid hw3
        clear hsm hw3
        go_enter Tryd.func47, Tryd.ntmps47
        refine wp_seq_k (fun K hK => ?_)
        have HK := Lib.hid hK
        clear hK
        go_wp2
        refine HK.out _ _ ?_
        clear HK
        have hb0 := blw w (Obj.cells #[.int .i64 0, .int .i64 0, .int .i64 0] 88)
        have R0 := heap_alloc_new w (Obj.cells #[.int .i64 0, .int .i64 0, .int .i64 0] 88)
        have D0 := h.below hb0
        have k0 := Kt.of hb0 hb
        generalize w.alloc (Obj.cells #[.int .i64 0, .int .i64 0, .int .i64 0] 88) = w0 at *
        have hld := cload_any D0 rep 1
        rw [HL.out] at hld
        simp only [LoadRes] at hld
        go_wp2_with fail
        refine hld.mono ?_
        rintro e w1 ⟨⟨a1, c1, rfl, o1⟩, hb1⟩
        have R1 := tr_bl hb1 R0
        have D1 := D0.below hb1
        have k1 := k0.trans (Kt.of hb1 (Nat.le_trans hb hb0.size))
        clear hld hb0 R0 D0 k0 hb1
        go_wp2_with (first
          | (go_at_call 46; refine (parse_any a1 c1 l _ ((o1.below (blw w1 (Obj.cells #[.int .i64 0, .int .i64 0, .int .i64 0] 88))).slb)).mono ?_; rintro e wp ⟨rfl, hbp⟩; rw [HV.out, HP.out]; simp only [mV]; have M1 := tr_bl hbp (heap_alloc_new w1 (Obj.cells #[.int .i64 0, .int .i64 0, .int .i64 0] 88)); have hbA := (blw w1 (Obj.cells #[.int .i64 0, .int .i64 0, .int .i64 0] 88)).trans (hbp.mono (blw w1 (Obj.cells #[.int .i64 0, .int .i64 0, .int .i64 0] 88)).size); have Rp := tr_bl hbA R1; have Dp := D1.below hbA; have kp := k1.trans (Kt.of hbA (Nat.le_trans hb k1.bl.size)))
          | ((with_reducible refine wpList_stB 88 _ _ ?_); refine ⟨_, _, _, ⟨_, _, _, Tryd.sizeOf88, rfl, M1, st3 _ rfl r p i⟩, ?_⟩; intro w2 M2 g2; have R2 := tr_st g2 Rp (by have := lt_blk R1; omega); have D2 := Dp.st g2 M1; have k2 := kp.new g2 k1.bl.size hb; obtain ⟨q0, q1, q2, -, -, -⟩ := tri_cells M2))
        have hqw : w.heap.size ≤ w1.heap.size := k1.bl.size
        have hne : w1.heap.size ≠ w.heap.size := by have := lt_blk R1; omega
        have hhe := cheal_any D2 (Nat.le_trans hb k2.bl.size) rep 1 hw
        rw [HH.out] at hhe
        simp only at hhe
        refine hhe.mono ?_
        rintro e w3 ⟨rfl, ⟨wv3, D3⟩, hk3⟩
        have R3 := hk3.ty _ _ _ R2 (by decide) (by decide) (by decide)
        have M3 := hk3.ty _ _ _ M2 (by decide) (by decide) (by decide)
        have k3 := k2.trans hk3
        obtain ⟨q0, q1, q2, -, -, -⟩ := tri_cells M3
        clear hhe
        go_wp2_with (first
          | (go_at_call 80; have hst := mstore_any D5 (Nat.le_trans hb k5.bl.size) HW.out rep (r) (p) (i + 1); rw [HS.out] at hst; refine hst.mono ?_; rintro e w6 ⟨rfl, ⟨wv6, D6⟩, hk6⟩; simp only [mV]; have R6 := hk6.ty _ _ _ R5 (by decide) (by decide) (by decide); have k6 := k5.trans hk6; clear hst)
          | ((with_reducible refine wpList_stB 3 _ _ ?_); refine ⟨_, _, _, ⟨_, _, _, Tryd.sizeOf3, rfl, M3, st1m (r) (p) (i) (i + 1)⟩, ?_⟩; intro w5 M5 g5; have R5 := tr_st g5 R3 hne; have D5 := D3.st g5 M3; have k5 := k3.new g5 hqw hb; clear q0 q1 q2; obtain ⟨q0, q1, q2, -, -, -⟩ := tri_cells M5)
          | ((with_reducible refine wpList_stB 88 _ _ ?_); refine ⟨_, _, _, ⟨_, _, _, Tryd.sizeOf88, rfl, R6, st3 _ rfl r4 p4 i4⟩, ?_⟩; intro w7 R7 g7))
        refine bodyPost_ret (results_c1t1 rfl rfl (run_loadVar_all Tryd.isAgg88 Tryd.sizeOf88 R7 rfl)) rfl ⟨rfl, ⟨_, D6.st g7 R6⟩, k6.new g7 (Nat.le_refl _) hb⟩
      · rw [if_pos h3]
        have hn3 : (e3 != 0) = true := by rw [bne_iff_ne]; exact h3
        go_enter Tryd.func47, Tryd.ntmps47
        refine wp_seq_k (fun K hK => ?_)
        have HK := Lib.hid hK
        clear hK
        go_wp2
        refine HK.out _ _ ?_
        clear HK
        have hb0 := blw w (Obj.cells #[.int .i64 0, .int .i64 0, .int .i64 0] 88)
        have R0 := heap_alloc_new w (Obj.cells #[.int .i64 0, .int .i64 0, .int .i64 0] 88)
        have D0 := h.below hb0
        have k0 := Kt.of hb0 hb
        generalize w.alloc (Obj.cells #[.int .i64 0, .int .i64 0, .int .i64 0] 88) = w0 at *
        have hld := cload_any D0 rep 1
        rw [HL.out] at hld
        simp only [LoadRes] at hld
        go_wp2_with fail
        refine hld.mono ?_
        rintro e w1 ⟨⟨a1, c1, rfl, o1⟩, hb1⟩
        have R1 := tr_bl hb1 R0
        have D1 := D0.below hb1
        have k1 := k0.trans (Kt.of hb1 (Nat.le_trans hb hb0.size))
        clear hld hb0 R0 D0 k0 hb1
        go_wp2_with (first
          | (go_at_call 46; refine (parse_any a1 c1 l _ ((o1.below (blw w1 (Obj.cells #[.int .i64 0, .int .i64 0, .int .i64 0] 88))).slb)).mono ?_; rintro e wp ⟨rfl, hbp⟩; rw [HV.out, HP.out]; simp only [mV]; have M1 := tr_bl hbp (heap_alloc_new w1 (Obj.cells #[.int .i64 0, .int .i64 0, .int .i64 0] 88)); have hbA := (blw w1 (Obj.cells #[.int .i64 0, .int .i64 0, .int .i64 0] 88)).trans (hbp.mono (blw w1 (Obj.cells #[.int .i64 0, .int .i64 0, .int .i64 0] 88)).size); have Rp := tr_bl hbA R1; have Dp := D1.below hbA; have kp := k1.trans (Kt.of hbA (Nat.le_trans hb k1.bl.size)))
          | ((with_reducible refine wpList_stB 88 _ _ ?_); refine ⟨_, _, _, ⟨_, _, _, Tryd.sizeOf88, rfl, M1, st3 _ rfl r p i⟩, ?_⟩; intro w2 M2 g2; have R2 := tr_st g2 Rp (by have := lt_blk R1; omega); have D2 := Dp.st g2 M1; have k2 := kp.new g2 k1.bl.size hb; obtain ⟨q0, q1, q2, -, -, -⟩ := tri_cells M2))
        have hqw : w.heap.size ≤ w1.heap.size := k1.bl.size
        have hne : w1.heap.size ≠ w.heap.size := by have := lt_blk R1; omega
        have hhe := cheal_any D2 (Nat.le_trans hb k2.bl.size) rep 1 hw
        rw [HH.out] at hhe
        simp only at hhe
        refine hhe.mono ?_
        rintro e w3 ⟨rfl, ⟨wv3, D3⟩, hk3⟩
        have R3 := hk3.ty _ _ _ R2 (by decide) (by decide) (by decide)
        have k3 := k2.trans hk3
        clear hhe
        go_wp2_with ((with_reducible refine wpList_stB 88 _ _ ?_); refine ⟨_, _, _, ⟨_, _, _, Tryd.sizeOf88, rfl, R3, st3 _ rfl 0 0 0⟩, ?_⟩; intro w5 R5 g5)
        refine bodyPost_ret (results_c1t1 rfl rfl (run_loadVar_all Tryd.isAgg88 Tryd.sizeOf88 R5 rfl)) rfl ⟨rfl, ⟨_, D3.st g5 R3⟩, k3.new g5 (Nat.le_refl _) hb⟩
theorem begin_any (h : DiskB B g gp wv d w) (hb : B ≤ w.heap.size) (hw : d.waits.length ≤ 1000) (rep : Int) : Calls Tryd.prog 47 #[.pointer (some ⟨g, 0, none⟩), .int .i64 rep] w (MRes B g gp w (beginM d rep)) := by
  obtain ⟨v, l, e, hl⟩ : ∃ v l e, loadC d rep 1 = (v, l, e) := ⟨_, _, _, rfl⟩
  by_cases he : e = 0
  · subst he
    by_cases hv : 0 < v
    · exact begin_got h hb hw rep hl hv
    · exact begin_zero h hb hw rep hl hv
  · exact begin_err h hb rep hl he
end
end Go.Proofs.YtejjneamngkmoaaDoor

namespace Go.Proofs.YtejjneamngkmoaaDoor

theorem le6_at (n : Nat) (h : n ≤ 1099511627776) : ofLe (le 6 n) = n := ofLe_le 6 n (by omega)
theorem metaL_yes {r p i : Int} (h : mayM r p i = true) : metaL r p i = le 6 r.toNat ++ le 1 p.toNat ++ le 6 i.toNat := by
  unfold metaL
  rw [if_pos h]
/-- What is printed is parsed as it was. -/
theorem parse_print {r p i : Int} (h : mayM r p i = true) : parM (metaL r p i) = true ∧ getN (metaL r p i) 0 6 = r.toNat ∧ getN (metaL r p i) 6 1 = p.toNat ∧ getN (metaL r p i) 7 6 = i.toNat := by
  obtain ⟨h0, h1, h2, h3, h4, h5⟩ := may_bd h
  have a : getN (metaL r p i) 0 6 = r.toNat := by
    rw [metaL_yes h]
    unfold getN
    rw [List.drop_zero, List.append_assoc, List.take_append_of_le_length (by simp [le_len]), List.take_of_length_le (by simp [le_len])]
    exact le6_at _ (by omega)
  have b : getN (metaL r p i) 6 1 = p.toNat := by
    rw [metaL_yes h]
    unfold getN
    have hd := List.drop_left (l₁ := le 6 r.toNat) (l₂ := le 1 p.toNat ++ le 6 i.toNat)
    rw [le_len] at hd
    rw [List.append_assoc, hd, List.take_append_of_le_length (by simp [le_len]), List.take_of_length_le (by simp [le_len])]
    exact ofLe_le 1 _ (by omega)
  have c : getN (metaL r p i) 7 6 = i.toNat := by
    rw [metaL_yes h]
    unfold getN
    have hd := List.drop_left (l₁ := le 6 r.toNat ++ le 1 p.toNat) (l₂ := le 6 i.toNat)
    rw [List.length_append, le_len, le_len] at hd
    rw [hd, List.take_of_length_le (by simp [le_len])]
    exact le6_at _ (by omega)
  refine ⟨?_, a, b, c⟩
  unfold parM
  rw [a, b, c, metaL_one h]
  rw [show ((r.toNat : Nat) : Int) = r by omega, show ((p.toNat : Nat) : Int) = p by omega, show ((i.toNat : Nat) : Int) = i by omega, h]
  rfl
theorem parE_print {r p i : Int} (h : mayM r p i = true) : parE (metaL r p i) = 0 ∧ parT (metaL r p i) = ⟨r, p, i⟩ := by
  obtain ⟨a, b, c, e⟩ := parse_print h
  obtain ⟨h0, h1, h2, h3, h4, h5⟩ := may_bd h
  unfold parE parT
  rw [if_pos a, if_pos a, b, c, e]
  rw [show ((r.toNat : Nat) : Int) = r by omega, show ((p.toNat : Nat) : Int) = p by omega, show ((i.toNat : Nat) : Int) = i by omega]
  exact ⟨rfl, rfl⟩
/-- Bytes that are parsed are those of what they are. -/
theorem print_parse {l : List UInt8} (h : parM l = true) : metaL (getN l 0 6) (getN l 6 1) (getN l 7 6) = l ∧ mayM (getN l 0 6) (getN l 6 1) (getN l 7 6) = true := by
  unfold parM at h
  rw [Bool.and_eq_true, decide_eq_true_eq] at h
  obtain ⟨h13, hm⟩ := h
  refine ⟨?_, hm⟩
  rw [metaL_yes hm]
  simp only [Int.toNat_natCast]
  have e : ∀ at_ k, at_ + k ≤ l.length → le k (getN l at_ k) = (l.drop at_).take k := fun at_ k hk => by
    unfold getN
    have := le_ofLe ((l.drop at_).take k)
    rwa [List.length_take, List.length_drop, Nat.min_eq_left (by omega)] at this
  rw [e 0 6 (by omega), e 6 1 (by omega), e 7 6 (by omega)]
  rw [List.take_of_length_le (l := l.drop 7) (by rw [List.length_drop]; omega)]
  rw [List.drop_zero, ← List.take_add, List.take_append_drop]
section
variable {d : Dk} {rep : Int} {o : Vo} {m : Mt}
theorem storeM_fr (h : Live d) (hp : 0 ≤ rep ∧ rep ≤ 6) (hf : Fr d rep 1 o) (hv : verO o + 1 ≤ 1099511627776) (hl : d.left < 0) (hm : mayM m.r m.p m.i = true) :
    ∃ d', storeM d rep m = (d', m, 0) ∧ Live d' ∧ d'.left = d.left ∧ Fr d' rep 1 (nextO o m.i (metaL m.r m.p m.i)) ∧ ∀ j : Nat, j < 156 → j ≠ secC 1 0 → j ≠ secC 1 1 → readD d' j = readD d j := by
  obtain ⟨b1, b2, b3, b4, b5, b6⟩ := may_bd hm
  obtain ⟨d', e, l, lf, f, oth⟩ := store_fr (inc := m.i) (body := metaL m.r m.p m.i) h hp (.inl rfl) ⟨b5, b6⟩ (Nat.le_trans (metaL_len _ _ _) (by decide)) hf hv hl
  refine ⟨d', ?_, l, lf, f, oth⟩
  unfold storeM
  rw [e, hm, if_neg (by simp), if_neg (by simp)]
theorem begin_none (h : Live d) (hp : 0 ≤ rep ∧ rep ≤ 6) (hf : Fr d rep 1 none) : beginM d rep = storeM d rep ⟨0, 0, 1⟩ := by
  unfold beginM
  rw [hf.load h hp (.inl rfl), heal_same h hp (.inl rfl) hf]
  simp only [verO, bodO, ldM, zM]
  simp
/-- What Begin does where a store's metadata are loaded, and healed. -/
theorem begin_of {d9 : Dk} {v : Int} (hv : 0 < v) (hm : mayM m.r m.p m.i = true) (hi : m.i ≠ 1099511627776) (hl : loadC d rep 1 = (v, metaL m.r m.p m.i, 0)) (hh : healC d rep 1 = (d9, 0)) : beginM d rep = storeM d9 rep ⟨m.r, m.p, m.i + 1⟩ := by
  obtain ⟨e1, e2⟩ := parE_print hm
  unfold beginM
  rw [hl, hh]
  simp only [ldM]
  rw [if_pos hv, e1, e2]
  simp only
  rw [if_neg (by simp), if_neg (by simp), if_neg hi, if_neg (by simp)]
theorem begin_some {v : Int} (h : Live d) (hp : 0 ≤ rep ∧ rep ≤ 6) (hv : 0 < v) (hm : mayM m.r m.p m.i = true) (hi : m.i ≠ 1099511627776) (hf : Fr d rep 1 (some (v, m.i, metaL m.r m.p m.i))) : beginM d rep = storeM d rep ⟨m.r, m.p, m.i + 1⟩ :=
  begin_of hv hm hi (hf.load h hp (.inl rfl)) (heal_same h hp (.inl rfl) hf)
end
/-- The chapter's examples. -/
theorem ex_meta : ∃ d1 d2 d3, beginM (newDk 156) 3 = (d1, ⟨0, 0, 1⟩, 0) ∧ promM d1 3 ⟨0, 0, 1⟩ 2 1 = (d2, ⟨2, 1, 1⟩, 0) ∧ promM d2 3 ⟨2, 1, 1⟩ 2 0 = (d2, ⟨0, 0, 0⟩, 2) ∧ beginM d2 3 = (d3, ⟨2, 1, 2⟩, 0) ∧ d1.waits = [] ∧ d2.waits = [] ∧ metaE 2 1 1 = 0 ∧ metaL 2 1 1 = [2, 0, 0, 0, 0, 0, 1, 1, 0, 0, 0, 0, 0] := by
  have hp : (0 : Int) ≤ 3 ∧ (3 : Int) ≤ 6 := by omega
  have hf0 := new_fr 3 (reg := 1) (.inl rfl)
  obtain ⟨d1, e1, l1, f1, r1, _⟩ := storeM_fr (m := ⟨0, 0, 1⟩) new_live hp hf0 (by decide) (by decide) (by decide)
  obtain ⟨d2, e2, l2, f2, r2, _⟩ := storeM_fr (m := ⟨2, 1, 1⟩) l1 hp r1 (by decide) (by rw [f1]; decide) (by decide)
  obtain ⟨d3, e3, l3, f3, r3, _⟩ := storeM_fr (m := ⟨2, 1, 2⟩) l2 hp r2 (by decide) (by rw [f2, f1]; decide) (by decide)
  refine ⟨d1, d2, d3, (begin_none new_live hp hf0).trans e1, ?_, ?_, ?_, l1.w, l2.w, by decide, by decide⟩
  · unfold promM
    rw [if_pos (by decide)]
    exact e2
  · unfold promM
    rw [if_neg (by decide)]
    rfl
  · exact (begin_some (m := ⟨2, 1, 1⟩) (v := 2) l2 hp (by decide) (by decide) (by decide) r2).trans e3
end Go.Proofs.YtejjneamngkmoaaDoor

