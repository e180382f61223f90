/- meta.fields and meta.Print, walked. -/
import Derived.Test.YtmnjmjbmnhppfaaM3
import Derived.Test.YtmnjmjbmnhppfaaRows
import Derived.WalkKit
import Derived.WalkSpells
import Derived.WalkLawsBesides
import Derived.Handy
import Derived.Deep.QuietTactic
import Derived.BigQuiet
import Derived.Deep.DeepCutAuto
import Derived.Lib.Hide
import Derived.RegionTactic
import Derived.ChangeAlike
import Derived.StillTailTactics
import Derived.Deep.RegionWith
namespace Go.Proofs.Ytmnjmjbmnhppfaa
open Go.RowKit

def pre (r p i j : Nat) : List UInt8 := if j = 0 then [] else if j = 1 then le 6 r else if j = 2 then le 6 r ++ le 1 p else le 6 r ++ le 1 p ++ le 6 i

def fieldsV (b : Nat) : Value := .agg #[.pointer (some ⟨b, 0, none⟩), .int .i64 6, .pointer (some ⟨b, 1, none⟩), .int .i64 1, .pointer (some ⟨b, 2, none⟩), .int .i64 6]

@[go_sem] theorem indexF0 (a b c d e f : Value) (w : World) : (Instr.index 99 (.agg #[a, b, c, d, e, f]) (.int .i64 0)).run Try.prog w = .ok (.agg #[a, b]) w := by
  have u := Try.underlying99
  simp [Instr.index, run_underlying u, asIntOf, part, go_sem]
@[go_sem] theorem indexF1 (a b c d e f : Value) (w : World) : (Instr.index 99 (.agg #[a, b, c, d, e, f]) (.int .i64 1)).run Try.prog w = .ok (.agg #[c, d]) w := by
  have u := Try.underlying99
  simp [Instr.index, run_underlying u, asIntOf, part, go_sem]
@[go_sem] theorem indexF2 (a b c d e f : Value) (w : World) : (Instr.index 99 (.agg #[a, b, c, d, e, f]) (.int .i64 2)).run Try.prog w = .ok (.agg #[e, f]) w := by
  have u := Try.underlying99
  simp [Instr.index, run_underlying u, asIntOf, part, go_sem]

set_option maxRecDepth 20000 in
set_option maxHeartbeats 4000000 in
theorem fields_any (b : Nat) (w : World) : Calls Try.prog 54 #[.pointer (some ⟨b, 0, none⟩)] w fun e w' => e = .returned (fieldsV b) ∧ Below w.heap.size w w' := by
  go_enter Try.func54, Try.ntmps54
  refine wp_seq_k (fun K hK => ?_)
  have HK := Lib.hid hK
  clear hK
  go_wp2
  refine HK.out _ _ ?_
  clear HK
  go_wp2
  go_still_tail 15, (by kernel_rfl)
  show wpList _ _ _ _ _ (World.alloc w.drew _)
  rw [show w.heap.size = w.drew.heap.size from rfl]
  have hbd : Below w.heap.size w w.drew := (Below.refl _ _).drew
  have hsz : w.heap.size ≤ w.drew.heap.size := Nat.le_refl _
  generalize w.drew = wd at *
  go_wp2
  (try simp only [Exit.inBlock, Exit.then])
  refine bodyPost_ret (v := fieldsV b) ?hr rfl ?_
  case hr =>
    simp only [results, Try.results54, fieldsV]
    go_simp
  · exact ⟨rfl, by (repeat' (first | (with_reducible exact Below.refl _ _) | (with_reducible assumption) | (with_reducible refine Below.alloc ?_ ?_ _) | (with_reducible refine Below.drew ?_) | (with_reducible refine below_drewN ?_ _) | (with_reducible refine Below.setCell ?_ ?_ _) | (with_reducible refine Below.trans ?_ (by assumption)) | go_size))⟩

set_option maxRecDepth 20000 in
set_option maxHeartbeats 4000000 in
theorem print_any (r p i : Int) (w : World) : Calls Try.prog 16 #[.agg #[.int .i64 r, .int .i64 p, .int .i64 i]] w fun e w' => OwnBytes w.heap.size (metaL r p i) (metaE r p i) e w' ∧ Below w.heap.size w w' := by
  unfold metaL metaE
  cases hm : mayM r p i
  · rw [if_neg (by simp), if_neg (by simp)]
    have HM := Lib.hid hm
    clear hm
    go_enter Try.func16, Try.ntmps16
    go_wp2_with (go_at_call 20; refine (may_any _ _ _ _).mono ?_; rintro e w1 ⟨rfl, hb1⟩; rw [HM.out])
    go_ret2
    exact ⟨⟨.slice none 0 0, rfl, World.ownsRow_nil _ _ _ _⟩, ((Below.refl _ _).alloc (Nat.le_refl _) _).trans (hb1.mono (by simp))⟩
  · rw [if_pos rfl, if_pos rfl]
    obtain ⟨hr0, hr1, hp0, hp1, hi0, hi1⟩ := may_bd hm
    obtain ⟨r, rfl⟩ : ∃ rn : Nat, r = rn := ⟨r.toNat, by omega⟩
    obtain ⟨p, rfl⟩ : ∃ rn : Nat, p = rn := ⟨p.toNat, by omega⟩
    obtain ⟨i, rfl⟩ : ∃ rn : Nat, i = rn := ⟨i.toNat, by omega⟩
    simp only [Int.toNat_natCast]
    have hl1 := put6 r (by omega)
    have hl3 := put6 i (by omega)
    have hl2 := put1 p (by omega)
    have HM := Lib.hid hm
    have H1 := Lib.hid hl1
    have H2 := Lib.hid hl2
    have H3 := Lib.hid hl3
    clear hm hl1 hl2 hl3
    go_enter Try.func16, Try.ntmps16
    refine wp_seq_k (fun K hK => ?_)
    have HK := Lib.hid hK
    clear hK
    go_wp2
    refine HK.out _ _ ?_
    clear HK
    refine wp_seq_k (fun K hK => ?_)
    have HK := Lib.hid hK
    clear hK
    go_wp2_with (go_at_call 20; refine (may_any _ _ _ _).mono ?_; rintro e w1 ⟨rfl, hb1⟩; rw [HM.out])
    refine HK.out _ _ ?_
    clear HK
    have c0 := cell_later (a := ⟨w.heap.size, 0, none⟩) hb1 (by simp [go_sem]; rfl)
    have c1 := cell_later (a := ⟨w.heap.size, 1, none⟩) hb1 (by simp [go_sem]; rfl)
    have c2 := cell_later (a := ⟨w.heap.size, 2, none⟩) hb1 (by simp [go_sem]; rfl)
    refine wp_seq_k (fun K hK => ?_)
    have HK := Lib.hid hK
    clear hK
    go_wp2
    refine HK.out _ _ ?_
    clear HK
    refine wp_seq_k (fun K hK => ?_)
    go_cut [4] (fun out wx => ∃ w2, Below w1.heap.size w1 w2 ∧ Below w2.heap.size w2 wx ∧ wx.ownsRow w2.heap.size 5 1 out 13 (bys (le 6 r ++ le 1 p ++ le 6 i)))
    case first =>
      refine wp_seq_k (fun K hK => ?_)
      have HK := Lib.hid hK
      clear hK
      go_wp2_with (go_at_call 54; refine (fields_any _ _).mono ?_; rintro e w2 ⟨rfl, hb2⟩; unfold fieldsV)
      refine HK.out _ _ ?_
      clear HK
      have d0 := cell_later hb2 c0
      have d1 := cell_later hb2 c1
      have d2 := cell_later hb2 c2
      go_wp2_with fail
      go_loopw [4, 13] (fun out k wr => ∃ j : Nat, j ≤ 3 ∧ k = .int .i64 j ∧ wr.ownsRow w2.heap.size 5 1 out (pre r p i j).length (bys (pre r p i j)) ∧ Below w2.heap.size w2 wr) (fun _ k _ => 3 - (intOf k).toNat)
      case atStart => exact ⟨0, by omega, rfl, World.ownsRow_nil _ _ _ _, Below.refl _ _⟩
      case round =>
        obtain ⟨j, hj, rfl, hown, hbr⟩ := hrel
        have e0 := cell_later hbr d0
        have e1 := cell_later hbr d1
        have e2 := cell_later hbr d2
        rcases (show j = 0 ∨ j = 1 ∨ j = 2 ∨ j = 3 by omega) with rfl | rfl | rfl | rfl
        · go_wp2
          rename_i hK10
          have HK := Lib.hid hK10
          clear hK10
          have hza : Below wr.heap.size wr (wr.alloc (Obj.cells #[.pointer (some ⟨w.heap.size, 0, none⟩), .int .i64 6] 98)) := (Below.refl _ _).alloc (Nat.le_refl _) _
          have z0 : (wr.alloc (Obj.cells #[.pointer (some ⟨w.heap.size, 0, none⟩), .int .i64 6] 98)).cell? ⟨wr.heap.size, 0, none⟩ = some (.pointer (some ⟨w.heap.size, 0, none⟩)) := by simp [go_sem]
          have z1 : (wr.alloc (Obj.cells #[.pointer (some ⟨w.heap.size, 0, none⟩), .int .i64 6] 98)).cell? ⟨wr.heap.size, 1, none⟩ = some (.int .i64 6) := by simp [go_sem]
          have z2 := cell_later hza e0
          have ho1 := hown.alloc (Obj.cells #[.pointer (some ⟨w.heap.size, 0, none⟩), .int .i64 6] 98)
          have hzs : wr.heap.size ≤ (wr.alloc (Obj.cells #[.pointer (some ⟨w.heap.size, 0, none⟩), .int .i64 6] 98)).heap.size := by simp
          have hln : (pre r p i 0).length = 0 := by simp [pre]
          have hst : pre r p i (1) = pre r p i 0 ++ le 6 r := by simp [pre]
          have HST := Lib.hid hst
          clear hst
          generalize wr.alloc (Obj.cells #[.pointer (some ⟨w.heap.size, 0, none⟩), .int .i64 6] 98) = wz at *
          go_cut [7, 8] (fun bv ev wx => ev = .int .i64 0 ∧ wx.ownsRow wz.heap.size 5 1 bv 6 (bys (le 6 r)) ∧ Below wz.heap.size wz wx)
          case first =>
            go_region_with (go_at_call 55; refine (put_any _ _ _).mono ?_; rintro e w4 ⟨⟨v4, rfl, hown4⟩, hb4⟩; rw [H1.out.2]; rw [H1.out.1, le_len] at hown4)
            all_goals
              go_wp2_with fail
              go_meet
              exact ⟨rfl, hown4, ((Below.refl _ _).drew).trans hb4⟩
          obtain ⟨rfl, ho7, hb7⟩ := hcut
          obtain ⟨ma, mcap, rfl, hmr, _, _⟩ := Row.of_owns ho7
          have ho1c := owns_after ho1 hb7
          have hs1 := hbr.size
          have hs2 := hb7.size
          refine HK.out _ _ ?_
          clear HK
          go_wp2_with (at_builtin; refine wpList_append_row rfl _ _ 26 5 elByte rfl w2.heap.size _ _ _ rfl ho1c _ _ _ _ rfl (by simp [bys_len, le_len]) hmr bys_one (by omega) (by omega) (by omega) ?_; intro v5 w5 hown5 hb5)
          refine ⟨⟨1, by omega, by go_num, ?_, ?_⟩, by simp [intOf]⟩
          · rw [HST.out, bys_app, List.length_append, le_len]
            exact hown5
          · exact ((hbr.trans (hza.mono hs1)).trans (hb7.mono (by omega))).trans hb5
        · go_wp2
          rename_i hK10
          have HK := Lib.hid hK10
          clear hK10
          have hza : Below wr.heap.size wr (wr.alloc (Obj.cells #[.pointer (some ⟨w.heap.size, 1, none⟩), .int .i64 1] 98)) := (Below.refl _ _).alloc (Nat.le_refl _) _
          have z0 : (wr.alloc (Obj.cells #[.pointer (some ⟨w.heap.size, 1, none⟩), .int .i64 1] 98)).cell? ⟨wr.heap.size, 0, none⟩ = some (.pointer (some ⟨w.heap.size, 1, none⟩)) := by simp [go_sem]
          have z1 : (wr.alloc (Obj.cells #[.pointer (some ⟨w.heap.size, 1, none⟩), .int .i64 1] 98)).cell? ⟨wr.heap.size, 1, none⟩ = some (.int .i64 1) := by simp [go_sem]
          have z2 := cell_later hza e1
          have ho1 := hown.alloc (Obj.cells #[.pointer (some ⟨w.heap.size, 1, none⟩), .int .i64 1] 98)
          have hzs : wr.heap.size ≤ (wr.alloc (Obj.cells #[.pointer (some ⟨w.heap.size, 1, none⟩), .int .i64 1] 98)).heap.size := by simp
          have hln : (pre r p i 1).length = 6 := by simp [pre, le_len]
          have hst : pre r p i (2) = pre r p i 1 ++ le 1 p := by simp [pre]
          have HST := Lib.hid hst
          clear hst
          generalize wr.alloc (Obj.cells #[.pointer (some ⟨w.heap.size, 1, none⟩), .int .i64 1] 98) = wz at *
          go_cut [7, 8] (fun bv ev wx => ev = .int .i64 0 ∧ wx.ownsRow wz.heap.size 5 1 bv 1 (bys (le 1 p)) ∧ Below wz.heap.size wz wx)
          case first =>
            go_region_with (go_at_call 55; refine (put_any _ _ _).mono ?_; rintro e w4 ⟨⟨v4, rfl, hown4⟩, hb4⟩; rw [H2.out.2]; rw [H2.out.1, le_len] at hown4)
            all_goals
              go_wp2_with fail
              go_meet
              exact ⟨rfl, hown4, ((Below.refl _ _).drew).trans hb4⟩
          obtain ⟨rfl, ho7, hb7⟩ := hcut
          obtain ⟨ma, mcap, rfl, hmr, _, _⟩ := Row.of_owns ho7
          have ho1c := owns_after ho1 hb7
          have hs1 := hbr.size
          have hs2 := hb7.size
          refine HK.out _ _ ?_
          clear HK
          go_wp2_with (at_builtin; refine wpList_append_row rfl _ _ 26 5 elByte rfl w2.heap.size _ _ _ rfl ho1c _ _ _ _ rfl (by simp [bys_len, le_len]) hmr bys_one (by omega) (by omega) (by omega) ?_; intro v5 w5 hown5 hb5)
          refine ⟨⟨2, by omega, by go_num, ?_, ?_⟩, by simp [intOf]⟩
          · rw [HST.out, bys_app, List.length_append, le_len]
            exact hown5
          · exact ((hbr.trans (hza.mono hs1)).trans (hb7.mono (by omega))).trans hb5
        · go_wp2
          rename_i hK10
          have HK := Lib.hid hK10
          clear hK10
          have hza : Below wr.heap.size wr (wr.alloc (Obj.cells #[.pointer (some ⟨w.heap.size, 2, none⟩), .int .i64 6] 98)) := (Below.refl _ _).alloc (Nat.le_refl _) _
          have z0 : (wr.alloc (Obj.cells #[.pointer (some ⟨w.heap.size, 2, none⟩), .int .i64 6] 98)).cell? ⟨wr.heap.size, 0, none⟩ = some (.pointer (some ⟨w.heap.size, 2, none⟩)) := by simp [go_sem]
          have z1 : (wr.alloc (Obj.cells #[.pointer (some ⟨w.heap.size, 2, none⟩), .int .i64 6] 98)).cell? ⟨wr.heap.size, 1, none⟩ = some (.int .i64 6) := by simp [go_sem]
          have z2 := cell_later hza e2
          have ho1 := hown.alloc (Obj.cells #[.pointer (some ⟨w.heap.size, 2, none⟩), .int .i64 6] 98)
          have hzs : wr.heap.size ≤ (wr.alloc (Obj.cells #[.pointer (some ⟨w.heap.size, 2, none⟩), .int .i64 6] 98)).heap.size := by simp
          have hln : (pre r p i 2).length = 7 := by simp [pre, le_len]
          have hst : pre r p i (3) = pre r p i 2 ++ le 6 i := by simp [pre]
          have HST := Lib.hid hst
          clear hst
          generalize wr.alloc (Obj.cells #[.pointer (some ⟨w.heap.size, 2, none⟩), .int .i64 6] 98) = wz at *
          go_cut [7, 8] (fun bv ev wx => ev = .int .i64 0 ∧ wx.ownsRow wz.heap.size 5 1 bv 6 (bys (le 6 i)) ∧ Below wz.heap.size wz wx)
          case first =>
            go_region_with (go_at_call 55; refine (put_any _ _ _).mono ?_; rintro e w4 ⟨⟨v4, rfl, hown4⟩, hb4⟩; rw [H3.out.2]; rw [H3.out.1, le_len] at hown4)
            all_goals
              go_wp2_with fail
              go_meet
              exact ⟨rfl, hown4, ((Below.refl _ _).drew).trans hb4⟩
          obtain ⟨rfl, ho7, hb7⟩ := hcut
          obtain ⟨ma, mcap, rfl, hmr, _, _⟩ := Row.of_owns ho7
          have ho1c := owns_after ho1 hb7
          have hs1 := hbr.size
          have hs2 := hb7.size
          refine HK.out _ _ ?_
          clear HK
          go_wp2_with (at_builtin; refine wpList_append_row rfl _ _ 26 5 elByte rfl w2.heap.size _ _ _ rfl ho1c _ _ _ _ rfl (by simp [bys_len, le_len]) hmr bys_one (by omega) (by omega) (by omega) ?_; intro v5 w5 hown5 hb5)
          refine ⟨⟨3, by omega, by go_num, ?_, ?_⟩, by simp [intOf]⟩
          · rw [HST.out, bys_app, List.length_append, le_len]
            exact hown5
          · exact ((hbr.trans (hza.mono hs1)).trans (hb7.mono (by omega))).trans hb5
        · go_wp2
          go_meet
          exact ⟨w2, hb2, hbr, by simpa [pre, le_len] using hown⟩
    obtain ⟨w2, hb2, hbx, hown⟩ := hcut
    refine hK _ _ ?_; clear hK
    have hb01 : Below w.heap.size w w1 := ((Below.refl _ _).alloc (Nat.le_refl _) _).trans (hb1.mono (by simp))
    have hs1 := hb01.size
    have hs2 := hb2.size
    go_wp2
    go_ret2
    refine ⟨⟨_, rfl, ?_⟩, (hb01.trans (hb2.mono hs1)).trans (hbx.mono (by omega))⟩
    have hx := owns_mono hown (show w.heap.size ≤ w2.heap.size by omega)
    simpa [le_len] using hx
end Go.Proofs.Ytmnjmjbmnhppfaa
