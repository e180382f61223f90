/- Texts that the claim leans on, part 7: D28, D29, D30, D31, D32, D33, D34, G11. -/
import Derived.Test.YtddddemclhlfaaaGreatDoorZ1
import Derived.Test.YtddddemclhlfaaaGreatDoorZ2
import Derived.Test.YtddddemclhlfaaaGreatDoorZ3
import Derived.Test.YtddddemclhlfaaaGreatDoorZ4
import Derived.Test.YtddddemclhlfaaaGreatDoorZ5
import Derived.Test.YtddddemclhlfaaaGreatDoorZ6
import Derived.Test.YtddddemclhlfaaaGreatDoorRows
import Derived.WalkKit
import Derived.WalkSpells
import Derived.WalkLawsBesides
import Derived.Handy
import Derived.Deep.QuietTactic
import Derived.BigQuiet
import Derived.Deep.DeepCutAuto
import Derived.Lib.Hide
import Derived.RegionTactic
import Derived.ChangeAlike
import Derived.Laws.ResultCell
import Derived.Outline
import Derived.Laws.MakeOwn
import Derived.Laws.BitsAllLaws
import Derived.Great.BuildSlice
import Derived.Great.FillDense
import Derived.Laws.Rows
import Derived.Deep.Quiet
import Derived.Deep.RegionHeld3
import Derived.ProofKit
import Derived.OpenShut
import Derived.Laws.CopyOwn
import Derived.Laws.CopyRow
import Derived.Laws.NewBlocks
import Derived.Deep.RegionLaw
namespace Go.Proofs.YtddddemclhlfaaaGreatDoor
open Go.RowKit
abbrev Part := Option Addr × Nat × List UInt8
def partV (x : Part) : Value := .slice x.1 x.2.2.length x.2.1
structure Parts (w : World) (a : Option Addr) (ls : List Part) : Prop where
  row : Row w a (ls.map partV)
  each : ∀ x ∈ ls, SlB w x.1 x.2.1 x.2.2
def joinP (ls : List Part) : List UInt8 := ls.flatMap (·.2.2)
theorem joinP_snoc (ls : List Part) (j : Nat) (h : j < ls.length) : joinP (ls.take (j + 1)) = joinP (ls.take j) ++ ls[j].2.2 := by
  rw [List.take_succ_eq_append_getElem h]
  unfold joinP
  rw [List.flatMap_append, List.flatMap_singleton]
theorem joinP_le (ls : List Part) (j : Nat) : (joinP (ls.take j)).length ≤ (joinP ls).length := by
  have : joinP ls = joinP (ls.take j) ++ joinP (ls.drop j) := by
    have h := congrArg joinP (List.take_append_drop j ls)
    refine h.symm.trans ?_
    unfold joinP
    rw [List.flatMap_append]
  rw [this, List.length_append]
  omega
set_option maxRecDepth 100000 in
set_option maxHeartbeats 1000000 in
theorem join_any (a : Option Addr) (cap : Nat) (ls : List Part) (w : World) (hp : Parts w a ls) (hn : ls.length ≤ 1000) (ht : (joinP ls).length ≤ 1000000) : Calls Tryz.prog 139 #[.slice a ls.length cap] w fun e w' => (∃ a' c', e = .returned (.slice a' (joinP ls).length c') ∧ w'.ownsRow w.heap.size 5 1 (.slice a' (joinP ls).length c') (joinP ls).length (bys (joinP ls))) ∧ Below w.heap.size w w' := by
  go_enter Tryz.func139, Tryz.ntmps139
  refine wp_seq_k (fun K hK => ?_)
  have HK := Lib.hid hK
  clear hK
  go_wp2
  refine HK.out _ _ ?_
  clear HK
  refine wp_seq_k (fun K hK => ?_)
  have HK := Lib.hid hK
  clear hK
  go_wp2
  refine HK.out _ _ ?_
  clear HK
  refine wp_seq_k (fun K hK => ?_)
  have HK := Lib.hid hK
  clear hK
  go_wp2_with fail
  go_loopw [8, 3, 5] (fun i o _ wr => ∃ (j : Nat) (v : Value), j ≤ ls.length ∧ i = .int .i64 (j : Nat) ∧ o = v ∧ wr.ownsRow w.heap.size 5 1 v (joinP (ls.take j)).length (bys (joinP (ls.take j))) ∧ Below w.heap.size w wr) (fun i _ _ _ => ls.length - (intOf i).toNat)
  case atStart => exact ⟨0, _, by omega, rfl, rfl, World.ownsRow_nil _ _ _ _, Below.refl _ _⟩
  case round =>
    obtain ⟨j, v, hj, rfl, rfl, hown, hbr⟩ := hrel
    by_cases hlt : j < ls.length
    case pos =>
      have hx := hp.each _ (List.getElem_mem hlt)
      have hsn := joinP_snoc ls j hlt
      have hle := joinP_le ls (j + 1)
      rw [hsn, List.length_append] at hle
      have HSN := Lib.hid hsn
      clear hsn
      obtain ⟨b, off, rfl, hc⟩ := (hp.row.below0 hbr).at (k := j) (by simpa using hlt)
      have hcj := hc j (partV ls[j]) (by simp [hlt])
      clear hc
      generalize ls[j] = x at *
      obtain ⟨xa, xc, xl⟩ := x
      simp only at hx hle HSN
      unfold partV at hcj
      simp only at hcj
      have hxr := hx.row.below0 hbr
      have hxl : xl.length ≤ xc := hx.le
      generalize joinP (ls.take j) = t at *
      go_wp2_with (at_builtin; refine wpList_append_row rfl _ _ 34 5 elByte rfl w.heap.size _ t.length (bys t) rfl hown xa xl.length xc (bys xl) rfl (by rw [bys_len]; omega) hxr bys_one (by omega) (by decide) hbr.size ?_; intro v4 w4 ho4 hb4)
      rw [← bys_app] at ho4
      go_roundw
      case rel => exact ⟨j + 1, _, by omega, by go_num, rfl, by rw [HSN.out, List.length_append]; exact ho4, hbr.trans hb4⟩
      case measure => simp [intOf]; omega
    case neg =>
      obtain rfl : j = ls.length := by omega
      rw [List.take_length] at hown
      obtain ⟨a', c', rfl, _⟩ := Row.of_owns hown
      go_wp2
      refine HK.out _ _ ?_
      clear HK
      go_wp2
      go_ret
      exact ⟨⟨a', c', rfl, hown⟩, hbr⟩
end Go.Proofs.YtddddemclhlfaaaGreatDoor
namespace Go.Proofs.YtddddemclhlfaaaGreatDoor
open Go.RowKit
abbrev widV : Value := .agg #[.int .i64 1, .int .i64 1, .int .i64 1, .int .i64 6, .int .i64 6]
set_option maxRecDepth 100000 in
theorem widths_any (w : World) : Calls Tryz.prog 145 #[] w fun e w' => e = .returned widV ∧ Below w.heap.size w w' := by
  go_enter Tryz.func145, Tryz.ntmps145
  go_wp2
  (try simp only [Exit.inBlock, Exit.then])
  refine bodyPost_ret (v := widV) ?hr rfl ⟨rfl, ?_⟩
  case hr =>
    simp only [results, Tryz.results145]
    go_simp
    try rfl
  (repeat' (first | (with_reducible exact Below.refl _ _) | (with_reducible assumption) | (with_reducible refine Below.alloc ?_ ?_ _) | (with_reducible refine Below.drew ?_) | (with_reducible refine below_drewN ?_ _) | (with_reducible refine Below.setCell ?_ ?_ _) | (with_reducible refine Below.trans ?_ (by assumption)) | go_size))
theorem oput_one {n : Int} {k : Nat} (h0 : 0 ≤ n) (h1 : n < manyI k) : oputL k n = le k n.toNat := by
  unfold oputL
  rw [if_pos (by unfold fitsB; simp [h0, h1]), Int.toNat_natCast]
def tagPre (t : Tg) : Nat → List UInt8
  | 0 => []
  | 1 => le 1 t.rep.toNat
  | 2 => le 1 t.rep.toNat ++ le 1 t.reg.toNat
  | 3 => (le 1 t.rep.toNat ++ le 1 t.reg.toNat) ++ le 1 t.pla.toNat
  | 4 => ((le 1 t.rep.toNat ++ le 1 t.reg.toNat) ++ le 1 t.pla.toNat) ++ le 6 t.idx.toNat
  | _ => (((le 1 t.rep.toNat ++ le 1 t.reg.toNat) ++ le 1 t.pla.toNat) ++ le 6 t.idx.toNat) ++ le 6 t.inc.toNat
theorem tagPre_all (t : Tg) : tagPre t 5 = tagB t := by simp [tagPre, tagB]
set_option maxRecDepth 100000 in
set_option maxHeartbeats 2000000 in
theorem tprint_ok (t : Tg) (w : World) (ht : mayTg t = true) : Calls Tryz.prog 137 #[tgV t] w fun e w' => (∃ a' c', e = .returned (.tuple #[.slice a' 15 c', .int .i64 0]) ∧ w'.ownsRow w.heap.size 5 1 (.slice a' 15 c') 15 (bys (tagB t))) ∧ Below w.heap.size w w' := by
  obtain ⟨h1, h2, h3, h4, h5, h6, h7, h8⟩ := mayTg_parts ht
  obtain ⟨g1, g2, g3⟩ := mayTg_small ht
  have i0 : ∀ (a b c d e : Int) (w : World), (Instr.index 206 (.agg #[.int .i64 a, .int .i64 b, .int .i64 c, .int .i64 d, .int .i64 e]) (.int .i64 0)).run Tryz.prog w = .ok (.int .i64 a) w := fun _ _ _ _ _ _ => by kernel_rfl
  have i1 : ∀ (a b c d e : Int) (w : World), (Instr.index 206 (.agg #[.int .i64 a, .int .i64 b, .int .i64 c, .int .i64 d, .int .i64 e]) (.int .i64 1)).run Tryz.prog w = .ok (.int .i64 b) w := fun _ _ _ _ _ _ => by kernel_rfl
  have i2 : ∀ (a b c d e : Int) (w : World), (Instr.index 206 (.agg #[.int .i64 a, .int .i64 b, .int .i64 c, .int .i64 d, .int .i64 e]) (.int .i64 2)).run Tryz.prog w = .ok (.int .i64 c) w := fun _ _ _ _ _ _ => by kernel_rfl
  have i3 : ∀ (a b c d e : Int) (w : World), (Instr.index 206 (.agg #[.int .i64 a, .int .i64 b, .int .i64 c, .int .i64 d, .int .i64 e]) (.int .i64 3)).run Tryz.prog w = .ok (.int .i64 d) w := fun _ _ _ _ _ _ => by kernel_rfl
  have i4 : ∀ (a b c d e : Int) (w : World), (Instr.index 206 (.agg #[.int .i64 a, .int .i64 b, .int .i64 c, .int .i64 d, .int .i64 e]) (.int .i64 4)).run Tryz.prog w = .ok (.int .i64 e) w := fun _ _ _ _ _ _ => by kernel_rfl
  have HT := Lib.hid ht
  clear ht
  go_enter Tryz.func137, Tryz.ntmps137
  refine wp_seq_k (fun K hK => ?_)
  have HK := Lib.hid hK
  clear hK
  go_wp2
  refine HK.out _ _ ?_
  clear HK
  refine wp_seq_k (fun K hK => ?_)
  have HK := Lib.hid hK
  clear hK
  go_wp2_with (go_at_call 92; refine (tmay_any t _).mono ?_; rintro e w1 ⟨rfl, hb1⟩; rw [HT.out])
  refine HK.out _ _ ?_
  clear HK
  have q := tr_bl hb1 (heap_alloc_new w (Obj.cells #[.int .i64 t.rep, .int .i64 t.reg, .int .i64 t.pla, .int .i64 t.idx, .int .i64 t.inc] 33))
  have hb := (blw w (Obj.cells #[.int .i64 t.rep, .int .i64 t.reg, .int .i64 t.pla, .int .i64 t.idx, .int .i64 t.inc] 33)).trans (hb1.mono (blw w _).size)
  have q0 := blk_cell q 0 _ rfl
  have q1 := blk_cell q 1 _ rfl
  have q2 := blk_cell q 2 _ rfl
  have q3 := blk_cell q 3 _ rfl
  have q4 := blk_cell q 4 _ rfl
  clear q hb1
  refine wp_seq_k (fun K hK => ?_)
  have HK := Lib.hid hK
  clear hK
  go_wp2
  refine HK.out _ _ ?_
  clear HK
  refine wp_seq_k (fun K hK => ?_)
  have HK := Lib.hid hK
  clear hK
  go_wp2_with fail
  go_loopw [23, 4, 5, 6, 7, 8] (fun i o _ _ _ _ wr => ∃ (j : Nat) (v : Value), j ≤ 5 ∧ i = .int .i64 (j : Nat) ∧ o = v ∧ wr.ownsRow w.heap.size 5 1 v (tagPre t j).length (bys (tagPre t j)) ∧ Below w.heap.size w wr) (fun i _ _ _ _ _ _ => 5 - (intOf i).toNat)
  case atStart => exact ⟨0, _, by omega, rfl, rfl, World.ownsRow_nil _ _ _ _, hb⟩
  case round =>
    clear q0 q1 q2 q3 q4
    obtain ⟨j, v, hj, rfl, rfl, hown, hbr⟩ := hrel
    have h5 : j = 0 ∨ j = 1 ∨ j = 2 ∨ j = 3 ∨ j = 4 ∨ j = 5 := by omega
    rcases h5 with rfl | rfl | rfl | rfl | rfl | rfl
    · have HL := Lib.hid (show oputL 1 t.rep = le 1 t.rep.toNat from oput_one (k := 1) (by omega) (by show _ < 256; omega))
      have HE := Lib.hid (show tagPre t (0 + 1) = tagPre t 0 ++ le 1 t.rep.toNat from rfl)
      have hpl : (tagPre t 0).length = 0 := rfl
      have HPL := Lib.hid hpl
      have hpl2 : (tagPre t 0).length ≤ 15 := by omega
      clear hpl
      generalize tagPre t 0 = pr at *
      go_wp2_with (first
        | (go_at_call 145; refine (widths_any _).mono ?_; rintro e w1 ⟨rfl, hb1⟩; have o1 := owns_bl hown hb1)
        | (go_at_call 138; refine (put_any 1 t.rep _).mono ?_; rintro e w2 ⟨⟨v2, rfl, ho2⟩, hb2⟩; have o2 := owns_bl o1 hb2; have hb3 := hbr.trans ((hb1.trans (hb2.mono hb1.size)).mono hbr.size); rw [HL.out, le_len] at ho2; obtain ⟨a2, c2, rfl, hr2, hn2, hm2⟩ := Row.of_owns ho2)
        | (at_builtin; refine wpList_append_row rfl _ _ 34 5 elByte rfl w.heap.size _ pr.length (bys pr) rfl o2 a2 1 c2 (bys (le 1 t.rep.toNat)) rfl (by rw [bys_len, le_len]) hr2 bys_one (by omega) (by decide) hb3.size ?_; intro v4 w4 ho4 hb4))
      rw [← bys_app] at ho4
      go_roundw
      case rel => exact ⟨0 + 1, _, by omega, by rfl, rfl, by rw [HE.out, List.length_append, le_len]; exact ho4, hb3.trans hb4⟩
      case measure => simp [intOf]
    · have HL := Lib.hid (show oputL 1 t.reg = le 1 t.reg.toNat from oput_one (k := 1) (by omega) (by show _ < 256; omega))
      have HE := Lib.hid (show tagPre t (1 + 1) = tagPre t 1 ++ le 1 t.reg.toNat from rfl)
      have hpl : (tagPre t 1).length = 1 := rfl
      have HPL := Lib.hid hpl
      have hpl2 : (tagPre t 1).length ≤ 15 := by omega
      clear hpl
      generalize tagPre t 1 = pr at *
      go_wp2_with (first
        | (go_at_call 145; refine (widths_any _).mono ?_; rintro e w1 ⟨rfl, hb1⟩; have o1 := owns_bl hown hb1)
        | (go_at_call 138; refine (put_any 1 t.reg _).mono ?_; rintro e w2 ⟨⟨v2, rfl, ho2⟩, hb2⟩; have o2 := owns_bl o1 hb2; have hb3 := hbr.trans ((hb1.trans (hb2.mono hb1.size)).mono hbr.size); rw [HL.out, le_len] at ho2; obtain ⟨a2, c2, rfl, hr2, hn2, hm2⟩ := Row.of_owns ho2)
        | (at_builtin; refine wpList_append_row rfl _ _ 34 5 elByte rfl w.heap.size _ pr.length (bys pr) rfl o2 a2 1 c2 (bys (le 1 t.reg.toNat)) rfl (by rw [bys_len, le_len]) hr2 bys_one (by omega) (by decide) hb3.size ?_; intro v4 w4 ho4 hb4))
      rw [← bys_app] at ho4
      go_roundw
      case rel => exact ⟨1 + 1, _, by omega, by rfl, rfl, by rw [HE.out, List.length_append, le_len]; exact ho4, hb3.trans hb4⟩
      case measure => simp [intOf]
    · have HL := Lib.hid (show oputL 1 t.pla = le 1 t.pla.toNat from oput_one (k := 1) (by omega) (by show _ < 256; omega))
      have HE := Lib.hid (show tagPre t (2 + 1) = tagPre t 2 ++ le 1 t.pla.toNat from rfl)
      have hpl : (tagPre t 2).length = 2 := rfl
      have HPL := Lib.hid hpl
      have hpl2 : (tagPre t 2).length ≤ 15 := by omega
      clear hpl
      generalize tagPre t 2 = pr at *
      go_wp2_with (first
        | (go_at_call 145; refine (widths_any _).mono ?_; rintro e w1 ⟨rfl, hb1⟩; have o1 := owns_bl hown hb1)
        | (go_at_call 138; refine (put_any 1 t.pla _).mono ?_; rintro e w2 ⟨⟨v2, rfl, ho2⟩, hb2⟩; have o2 := owns_bl o1 hb2; have hb3 := hbr.trans ((hb1.trans (hb2.mono hb1.size)).mono hbr.size); rw [HL.out, le_len] at ho2; obtain ⟨a2, c2, rfl, hr2, hn2, hm2⟩ := Row.of_owns ho2)
        | (at_builtin; refine wpList_append_row rfl _ _ 34 5 elByte rfl w.heap.size _ pr.length (bys pr) rfl o2 a2 1 c2 (bys (le 1 t.pla.toNat)) rfl (by rw [bys_len, le_len]) hr2 bys_one (by omega) (by decide) hb3.size ?_; intro v4 w4 ho4 hb4))
      rw [← bys_app] at ho4
      go_roundw
      case rel => exact ⟨2 + 1, _, by omega, by rfl, rfl, by rw [HE.out, List.length_append, le_len]; exact ho4, hb3.trans hb4⟩
      case measure => simp [intOf]
    · have HL := Lib.hid (show oputL 6 t.idx = le 6 t.idx.toNat from oput_one (k := 6) (by omega) (by show _ < 281474976710656; omega))
      have HE := Lib.hid (show tagPre t (3 + 1) = tagPre t 3 ++ le 6 t.idx.toNat from rfl)
      have hpl : (tagPre t 3).length = 3 := rfl
      have HPL := Lib.hid hpl
      have hpl2 : (tagPre t 3).length ≤ 15 := by omega
      clear hpl
      generalize tagPre t 3 = pr at *
      go_wp2_with (first
        | (go_at_call 145; refine (widths_any _).mono ?_; rintro e w1 ⟨rfl, hb1⟩; have o1 := owns_bl hown hb1)
        | (go_at_call 138; refine (put_any 6 t.idx _).mono ?_; rintro e w2 ⟨⟨v2, rfl, ho2⟩, hb2⟩; have o2 := owns_bl o1 hb2; have hb3 := hbr.trans ((hb1.trans (hb2.mono hb1.size)).mono hbr.size); rw [HL.out, le_len] at ho2; obtain ⟨a2, c2, rfl, hr2, hn2, hm2⟩ := Row.of_owns ho2)
        | (at_builtin; refine wpList_append_row rfl _ _ 34 5 elByte rfl w.heap.size _ pr.length (bys pr) rfl o2 a2 6 c2 (bys (le 6 t.idx.toNat)) rfl (by rw [bys_len, le_len]) hr2 bys_one (by omega) (by decide) hb3.size ?_; intro v4 w4 ho4 hb4))
      rw [← bys_app] at ho4
      go_roundw
      case rel => exact ⟨3 + 1, _, by omega, by rfl, rfl, by rw [HE.out, List.length_append, le_len]; exact ho4, hb3.trans hb4⟩
      case measure => simp [intOf]
    · have HL := Lib.hid (show oputL 6 t.inc = le 6 t.inc.toNat from oput_one (k := 6) (by omega) (by show _ < 281474976710656; omega))
      have HE := Lib.hid (show tagPre t (4 + 1) = tagPre t 4 ++ le 6 t.inc.toNat from rfl)
      have hpl : (tagPre t 4).length = 9 := rfl
      have HPL := Lib.hid hpl
      have hpl2 : (tagPre t 4).length ≤ 15 := by omega
      clear hpl
      generalize tagPre t 4 = pr at *
      go_wp2_with (first
        | (go_at_call 145; refine (widths_any _).mono ?_; rintro e w1 ⟨rfl, hb1⟩; have o1 := owns_bl hown hb1)
        | (go_at_call 138; refine (put_any 6 t.inc _).mono ?_; rintro e w2 ⟨⟨v2, rfl, ho2⟩, hb2⟩; have o2 := owns_bl o1 hb2; have hb3 := hbr.trans ((hb1.trans (hb2.mono hb1.size)).mono hbr.size); rw [HL.out, le_len] at ho2; obtain ⟨a2, c2, rfl, hr2, hn2, hm2⟩ := Row.of_owns ho2)
        | (at_builtin; refine wpList_append_row rfl _ _ 34 5 elByte rfl w.heap.size _ pr.length (bys pr) rfl o2 a2 6 c2 (bys (le 6 t.inc.toNat)) rfl (by rw [bys_len, le_len]) hr2 bys_one (by omega) (by decide) hb3.size ?_; intro v4 w4 ho4 hb4))
      rw [← bys_app] at ho4
      go_roundw
      case rel => exact ⟨4 + 1, _, by omega, by rfl, rfl, by rw [HE.out, List.length_append, le_len]; exact ho4, hb3.trans hb4⟩
      case measure => simp [intOf]
    · obtain ⟨a', c', rfl, _⟩ := Row.of_owns hown
      rw [tagPre_all, tagB_len] at hown
      have hl : (tagPre t 5).length = 15 := by rw [tagPre_all, tagB_len]
      rw [hl]
      go_wp2
      refine HK.out _ _ ?_
      clear HK
      go_wp2
      go_ret2
      exact ⟨⟨a', c', rfl, hown⟩, hbr⟩
end Go.Proofs.YtddddemclhlfaaaGreatDoor
namespace Go.Proofs.YtddddemclhlfaaaGreatDoor
open Go.RowKit
def lenV : Value → Nat
  | .slice _ n _ => n
  | _ => 0
theorem SlB.take {w : World} {a : Option Addr} {cap : Nat} {l : List UInt8} (h : SlB w a cap l) (k : Nat) : SlB w a cap (l.take k) := by
  refine ⟨?_, ?_, h.max, h.nil⟩
  · have := h.row.take k
    simpa [bys, List.map_take] using this
  · have := h.le
    rw [List.length_take]
    omega
theorem noughts_app (l m : List UInt8) : noughtsB (l ++ m) = (noughtsB l && noughtsB m) := by simp [noughtsB]
theorem noughts_cons (x : UInt8) (l : List UInt8) : noughtsB (x :: l) = (x == 0 && noughtsB l) := rfl
theorem byte0 {x : UInt8} : ((x.toNat : Int) == 0) = (x == 0) := by
  by_cases h : x = 0
  · subst h; rfl
  · have : x.toNat ≠ 0 := fun e => h (by apply UInt8.toNat_inj.1; exact e)
    rw [beq_eq_false_iff_ne.2 (by omega), beq_eq_false_iff_ne.2 h]
set_option maxRecDepth 100000 in
theorem trimR_any (a : Option Addr) (cap : Nat) (l : List UInt8) (w : World) (hs : SlB w a cap l) : Calls Tryz.prog 149 #[.slice a l.length cap, .int .u8 0] w fun e w' => (∃ k : Nat, k ≤ l.length ∧ e = .returned (.slice a k cap) ∧ noughtsB (l.take k) = noughtsB l) ∧ w = w' := by
  have hle := hs.le
  have hmx := hs.max
  unfold maxLen at hmx
  go_enter Tryz.func149, Tryz.ntmps149
  refine wp_seq_k (fun K hK => ?_)
  have HK := Lib.hid hK
  clear hK
  go_wp2
  refine HK.out _ _ ?_
  clear HK
  refine wp_seq_k (fun K hK => ?_)
  have HK := Lib.hid hK
  clear hK
  go_wp2_with fail
  go_loop [0] (fun s => ∃ k : Nat, k ≤ l.length ∧ s = .slice a k cap ∧ Hid (noughtsB (l.take k) = noughtsB l)) (fun s => lenV s)
  case atStart => exact ⟨l.length, Nat.le_refl _, rfl, Lib.hid (by rw [List.take_length])⟩
  case round =>
    obtain ⟨k, hk, rfl, hn⟩ := hrel
    cases k with
    | zero =>
      go_wp2
      refine HK.out _ _ ?_
      clear HK
      go_wp2
      go_ret
      exact ⟨⟨0, Nat.zero_le _, rfl, hn.out⟩, rfl⟩
    | succ m =>
      obtain ⟨b, off, rfl, hc⟩ := hs.row.byte (i := m) (by omega)
      have htk := List.take_succ_eq_append_getElem (show m < l.length by omega)
      generalize l[m] = x at *
      have hm0 : (0 : Int) ≤ m := by omega
      cases hx : x == 0
      · have hx2 : ((x.toNat : Int) == 0) = false := by rw [byte0, hx]
        have HN := Lib.hid hn.out
        clear htk hx
        go_wp2
        refine HK.out _ _ ?_
        clear HK
        go_wp2
        go_ret
        exact ⟨⟨m + 1, hk, rfl, HN.out⟩, rfl⟩
      · have hx2 : ((x.toNat : Int) == 0) = true := by rw [byte0, hx]
        have HN := Lib.hid (show noughtsB (l.take m) = noughtsB l by rw [← hn.out, htk, noughts_app, noughts_cons, hx]; simp [noughtsB])
        clear htk hx hn
        go_wp2
        go_round
        case rel => exact ⟨m, by omega, by rfl, HN⟩
        case measure => simp [lenV]
theorem SlB.tail {w : World} {b off c : Nat} {x : UInt8} {r : List UInt8} (h : SlB w (some ⟨b, off, none⟩) c (x :: r)) : SlB w (some ⟨b, off + 1, none⟩) (c - 1) r := by
  have h1 := h.le
  have h2 := h.max
  simp only [List.length_cons] at h1
  refine ⟨?_, by omega, by omega, fun e => by cases e⟩
  rcases h.row with h0 | ⟨b', off', e, hc⟩
  · simp [bys] at h0
  · cases e
    refine .inr ⟨b, off + 1, rfl, fun i u hu => ?_⟩
    rw [Nat.add_assoc, Nat.add_comm 1 i]
    exact hc (i + 1) u (by simpa [bys] using hu)
set_option maxRecDepth 100000 in
theorem trimL_any (a : Option Addr) (cap : Nat) (l : List UInt8) (w : World) (hs : SlB w a cap l) : Calls Tryz.prog 148 #[.slice a l.length cap, .int .u8 0] w fun e w' => (∃ p n c, e = .returned (.slice p n c) ∧ ((n : Int) == 0) = noughtsB l) ∧ w = w' := by
  go_enter Tryz.func148, Tryz.ntmps148
  refine wp_seq_k (fun K hK => ?_)
  have HK := Lib.hid hK
  clear hK
  go_wp2
  refine HK.out _ _ ?_
  clear HK
  refine wp_seq_k (fun K hK => ?_)
  have HK := Lib.hid hK
  clear hK
  go_wp2_with fail
  go_loop [0] (fun s => ∃ (p : Option Addr) (c : Nat) (r : List UInt8), s = .slice p r.length c ∧ SlB w p c r ∧ Hid (noughtsB r = noughtsB l)) (fun s => lenV s)
  case atStart => exact ⟨a, cap, l, rfl, hs, Lib.hid rfl⟩
  case round =>
    obtain ⟨p, c, r, rfl, hr, hn⟩ := hrel
    have hle := hr.le
    have hmx := hr.max
    unfold maxLen at hmx
    cases r with
    | nil =>
      have HN := Lib.hid (show noughtsB l = true from hn.out.symm)
      clear hn
      go_wp2
      refine HK.out _ _ ?_
      clear HK
      go_wp2
      go_ret
      exact ⟨⟨none, 0, 0, rfl, by rw [HN.out]; rfl⟩, rfl⟩
    | cons x r =>
      obtain ⟨b, off, rfl, hc⟩ := hr.row.byte (i := 0) (by simp)
      simp only [List.getElem_cons_zero, Nat.add_zero] at hc
      simp only [List.length_cons] at hle ⊢
      have hl0 : ((r.length : Int) + 1 == 0) = false := by rw [beq_eq_false_iff_ne]; omega
      cases hx : x == 0
      · have hx2 : ((x.toNat : Int) == 0) = false := by rw [byte0, hx]
        have HN := Lib.hid (show noughtsB l = false by rw [← hn.out, noughts_cons, hx]; rfl)
        clear hx hn
        go_wp2
        refine HK.out _ _ ?_
        clear HK
        go_wp2
        go_ret
        exact ⟨⟨some ⟨b, off, none⟩, r.length + 1, c, rfl, by rw [HN.out, beq_eq_false_iff_ne]; omega⟩, rfl⟩
      · have hx2 : ((x.toNat : Int) == 0) = true := by rw [byte0, hx]
        have HN := Lib.hid (show noughtsB r = noughtsB l by rw [← hn.out, noughts_cons, hx]; rfl)
        have ht := hr.tail
        clear hx hn
        by_cases h1 : c = 1
        · subst h1
          obtain rfl : r = [] := List.eq_nil_of_length_eq_zero (by omega)
          go_wp2
          go_round
          case rel => exact ⟨some ⟨b, off, none⟩, 0, [], by rfl, ⟨.inl rfl, by simp, by simp, fun e => by cases e⟩, HN⟩
          case measure => simp [lenV]
        · have h1' : ¬ c = 1 := h1
          go_wp2
          go_round
          case rel => exact ⟨_, c - 1, r, by rfl, ht, HN⟩
          case measure => simp [lenV]
end Go.Proofs.YtddddemclhlfaaaGreatDoor
namespace Go.Proofs.YtddddemclhlfaaaGreatDoor
open Go.RowKit
set_option maxRecDepth 100000 in
set_option maxHeartbeats 1000000 in
theorem trim_any (a : Option Addr) (cap : Nat) (l : List UInt8) (w : World) (hs : SlB w a cap l) : Calls Tryz.prog 144 #[.slice a l.length cap, .string ⟨#[0]⟩] w fun e w' => (∃ p n c, e = .returned (.slice p n c) ∧ ((n : Int) == 0) = noughtsB l) ∧ Below w.heap.size w w' := by
  cases l with
  | nil =>
    go_enter Tryz.func144, Tryz.ntmps144
    go_wp2
    go_ret
    exact ⟨⟨none, 0, 0, rfl, rfl⟩, Below.refl _ _⟩
  | cons x r =>
    have hl0 : ((((x :: r).length : Nat) : Int) == 0) = false := by rw [beq_eq_false_iff_ne]; simp; omega
    have hlp : 0 < (x :: r).length := by simp
    generalize x :: r = l at *
    go_enter Tryz.func144, Tryz.ntmps144
    refine wp_seq_k (fun K hK => ?_)
    have HK := Lib.hid hK
    clear hK
    go_wp2
    refine HK.out _ _ ?_
    clear HK
    refine wp_seq_k (fun K hK => ?_)
    have HK := Lib.hid hK
    clear hK
    go_wp2
    refine HK.out _ _ ?_
    clear HK
    refine wp_seq_k (fun K hK => ?_)
    have HK := Lib.hid hK
    clear hK
    go_wp2
    refine HK.out _ _ ?_
    clear HK
    refine wp_seq_k (fun K hK => ?_)
    have HK := Lib.hid hK
    clear hK
    go_wp2_with fail
    refine wp_region_held_drew (S := fun _ => True) (by kernel_rfl) trivial (fun hS0 => ?_)
    refine wpAnyH_take (i := 0) (oi := ⟨_, _, _, _, _, _⟩) (v := ?_) rfl (by kernel_rfl) (by kernel_rfl) (by kernel_rfl) (fun _ _ _ h => h) (Or.inl ⟨by rfl, ?_⟩) (by assumption) ?_
    rotate_left
    · intro wS hSw; go_simp; (try with_reducible rfl)
    (try simp only [Act.put]); (try simp only [List.setIfInBounds_toArray]); (try simp only [List.set_cons_succ]); (try simp only [List.set_cons_zero])
    refine wpAnyH_take (i := 1) (oi := ⟨_, _, _, _, _, _⟩) (v := ?_) rfl (by kernel_rfl) (by kernel_rfl) (by kernel_rfl) (fun _ _ _ h => h) (Or.inl ⟨by rfl, ?_⟩) (by assumption) ?_
    rotate_left
    · intro wS hSw; go_simp; (try with_reducible rfl)
    (try simp only [Act.put]); (try simp only [List.setIfInBounds_toArray]); (try simp only [List.set_cons_succ]); (try simp only [List.set_cons_zero])
    refine wpAnyH_take (i := 2) (oi := ⟨_, _, _, _, _, _⟩) (v := ?_) rfl (by kernel_rfl) (by kernel_rfl) (by kernel_rfl) (fun _ _ _ h => h) (Or.inl ⟨by rfl, ?_⟩) (by assumption) ?_
    rotate_left
    · intro wS hSw; go_simp; (try with_reducible rfl)
    (try simp only [Act.put]); (try simp only [List.setIfInBounds_toArray]); (try simp only [List.set_cons_succ]); (try simp only [List.set_cons_zero])
    refine wpAnyH_take (i := 4) (oi := ⟨_, _, _, _, _, _⟩) (v := ?_) rfl (by kernel_rfl) (by kernel_rfl) (by kernel_rfl) (fun _ _ _ h => h) (Or.inl ⟨by rfl, ?_⟩) (by assumption) ?_
    rotate_left
    · intro wS hSw; go_simp; (try with_reducible rfl)
    (try simp only [Act.put]); (try simp only [List.setIfInBounds_toArray]); (try simp only [List.set_cons_succ]); (try simp only [List.set_cons_zero])
    refine wpAnyH_take (i := 5) (oi := ⟨_, _, _, _, _, _⟩) (v := ?_) rfl (by kernel_rfl) (by kernel_rfl) (by kernel_rfl) (fun _ _ _ h => h) (Or.inl ⟨by rfl, ?_⟩) (by assumption) ?_
    rotate_left
    · intro wS hSw; go_simp; (try with_reducible rfl)
    (try simp only [Act.put]); (try simp only [List.setIfInBounds_toArray]); (try simp only [List.set_cons_succ]); (try simp only [List.set_cons_zero])
    refine wpAnyH_ready (rs := [3]) (by kernel_rfl) (by simp) ?_
    refine AllReadyH.cons (o := ⟨_, _, _, _, _, _⟩) rfl (fun K' hK' => ?_) AllReadyH.nil
    refine (if_pos (by rfl)).mpr ?_
    go_simp
    have hb0 := (Below.refl w.heap.size w).drew
    generalize w.drew = w0 at *
    have hs0 := hs.below hb0
    refine (trimR_any _ _ _ _ hs0).mono ?_
    rintro e w1 ⟨⟨k, hk, rfl, hn⟩, rfl⟩
    refine hK'.out _ _ trivial (fun _ => ?_)
    clear hK'
    (try simp only [Act.put]); (try simp only [List.setIfInBounds_toArray]); (try simp only [List.set_cons_succ]); (try simp only [List.set_cons_zero])
    refine wpAnyH_ready (rs := [6]) (by kernel_rfl) (by simp) ?_
    refine AllReadyH.cons (o := ⟨_, _, _, _, _, _⟩) rfl (fun K' hK' => ?_) AllReadyH.nil
    refine (if_pos (by rfl)).mpr ?_
    go_simp
    have hs1 := hs0.take k
    have hc := trimL_any a cap (l.take k) w0 hs1
    rw [List.length_take, Nat.min_eq_left hk] at hc
    refine hc.mono ?_
    rintro e w1 ⟨⟨p, n, c, rfl, hn2⟩, rfl⟩
    have HN := Lib.hid (hn2.trans hn)
    clear hn hn2
    refine hK'.out _ _ trivial (fun _ => ?_)
    clear hK'
    (try simp only [Act.put]); (try simp only [List.setIfInBounds_toArray]); (try simp only [List.set_cons_succ]); (try simp only [List.set_cons_zero])
    refine wpAnyH_take (i := 7) (oi := ⟨_, _, _, _, _, _⟩) (v := ?_) rfl (by kernel_rfl) (by kernel_rfl) (by kernel_rfl) (fun _ _ _ h => h) (Or.inl ⟨by rfl, ?_⟩) (by assumption) ?_
    rotate_left
    · intro wS hSw; go_simp; (try with_reducible rfl)
    (try simp only [Act.put]); (try simp only [List.setIfInBounds_toArray]); (try simp only [List.set_cons_succ]); (try simp only [List.set_cons_zero])
    refine wpAnyH_done (by kernel_rfl) ?_ _
    go_wp2
    go_ret
    exact ⟨⟨p, n, c, rfl, HN.out⟩, hb0⟩
set_option maxRecDepth 100000 in
theorem noughts_any (a : Option Addr) (cap : Nat) (l : List UInt8) (w : World) (hs : SlB w a cap l) : Calls Tryz.prog 131 #[.slice a l.length cap] w fun e w' => e = .returned (.bool (noughtsB l)) ∧ Below w.heap.size w w' := by
  go_enter Tryz.func131, Tryz.ntmps131
  go_wp2_with (go_at_call 144; refine (trim_any a cap l _ hs).mono ?_; rintro e w1 ⟨⟨p, n, c, rfl, hn⟩, hb1⟩; have HN := Lib.hid hn; clear hn)
  go_ret
  exact ⟨ret_bool HN.out, hb1⟩
set_option maxRecDepth 100000 in
theorem room_any (n : Nat) (w : World) : Calls Tryz.prog 59 #[.int .i64 (n : Int)] w fun e w' => e = .returned (.int .i64 (roomN (64 * n) : Nat)) ∧ w = w' := by
  by_cases h1 : n = 1
  · subst h1
    go_enter Tryz.func59, Tryz.ntmps59
    go_wp2
    go_ret
    exact ⟨rfl, rfl⟩
  · by_cases h2 : n = 2
    · subst h2
      go_enter Tryz.func59, Tryz.ntmps59
      go_wp2
      go_ret
      exact ⟨rfl, rfl⟩
    · have hr : roomN (64 * n) = 0 := by unfold roomN; rw [if_neg (by omega), if_neg (by omega)]
      rw [hr]
      have a1 : ((n : Int) != 1) = true := by rw [bne_iff_ne]; omega
      have a2 : ((n : Int) != 2) = true := by rw [bne_iff_ne]; omega
      clear hr
      go_enter Tryz.func59, Tryz.ntmps59
      go_wp2
      go_ret
      exact ⟨rfl, rfl⟩
end Go.Proofs.YtddddemclhlfaaaGreatDoor
namespace Go.Proofs.YtddddemclhlfaaaGreatDoor
open Go.RowKit
def tlA (t : Tg) : Nat → Array Value
  | 0 => #[.int .i64 0, .int .i64 0, .int .i64 0, .int .i64 0, .int .i64 0]
  | 1 => #[.int .i64 t.rep, .int .i64 0, .int .i64 0, .int .i64 0, .int .i64 0]
  | 2 => #[.int .i64 t.rep, .int .i64 t.reg, .int .i64 0, .int .i64 0, .int .i64 0]
  | 3 => #[.int .i64 t.rep, .int .i64 t.reg, .int .i64 t.pla, .int .i64 0, .int .i64 0]
  | 4 => #[.int .i64 t.rep, .int .i64 t.reg, .int .i64 t.pla, .int .i64 t.idx, .int .i64 0]
  | _ => #[.int .i64 t.rep, .int .i64 t.reg, .int .i64 t.pla, .int .i64 t.idx, .int .i64 t.inc]
def posT : Nat → Int
  | 0 => 0 | 1 => 1 | 2 => 2 | 3 => 3 | 4 => 9 | _ => 15
def parseT (l : List UInt8) : Tg × Int := if mayTg (tagAt l 0) = true then (tagAt l 0, 0) else (zeroTg, 30)
theorem st5 (x : Array Value) (hx : x.size = 5) (a b c d e : Int) : 0 + 5 ≤ x.size ∧ (tgV ⟨a, b, c, d, e⟩).cells.size = 5 ∧ (∀ u ∈ (tgV ⟨a, b, c, d, e⟩).cells.toList, u.oneCell' = true) ∧ (x.toList.take 0 ++ (tgV ⟨a, b, c, d, e⟩).cells.toList ++ x.toList.drop (0 + 5)).toArray = #[.int .i64 a, .int .i64 b, .int .i64 c, .int .i64 d, .int .i64 e] := by
  refine ⟨by omega, rfl, by simp [Value.cells, Value.oneCell'], ?_⟩
  rw [List.drop_of_length_le (by rw [Array.length_toList]; omega)]
  rfl
theorem ld5 (a b c d e : Int) : 0 + 5 ≤ (#[Value.int .i64 a, .int .i64 b, .int .i64 c, .int .i64 d, .int .i64 e]).size ∧ (#[Value.int .i64 a, .int .i64 b, .int .i64 c, .int .i64 d, .int .i64 e]).extract 0 (0 + 5) = #[Value.int .i64 a, .int .i64 b, .int .i64 c, .int .i64 d, .int .i64 e] := ⟨Nat.le_refl 5, rfl⟩
theorem oneI (x : Int) : ∀ u ∈ (Value.int .i64 x).cells.toList, u.oneCell' = true := by simp [Value.cells, Value.oneCell']
set_option maxRecDepth 100000 in
set_option maxHeartbeats 2000000 in
theorem tparse_any (a : Option Addr) (cap : Nat) (l : List UInt8) (w : World) (hs : SlB w a cap l) (hl : l.length = 15) : Calls Tryz.prog 132 #[.slice a 15 cap] w fun e w' => e = .returned (.tuple #[tgV (parseT l).1, .int .i64 (parseT l).2]) ∧ Below w.heap.size w w' := by
  have gk0 : ∀ w, SlB w a cap l → Calls Tryz.prog 118 #[.slice a 15 cap, .int .i64 0, .int .i64 1] w fun e w' => e = .returned (.tuple #[.int .i64 (tagAt l 0).rep, .int .i64 1, .int .i64 0]) ∧ Below w.heap.size w w' := fun w h => by
    have := get_ok a cap l 0 1 w h (by omega) (by omega)
    rw [hl] at this
    exact this
  have gk1 : ∀ w, SlB w a cap l → Calls Tryz.prog 118 #[.slice a 15 cap, .int .i64 1, .int .i64 1] w fun e w' => e = .returned (.tuple #[.int .i64 (tagAt l 0).reg, .int .i64 2, .int .i64 0]) ∧ Below w.heap.size w w' := fun w h => by
    have := get_ok a cap l 1 1 w h (by omega) (by omega)
    rw [hl] at this
    exact this
  have gk2 : ∀ w, SlB w a cap l → Calls Tryz.prog 118 #[.slice a 15 cap, .int .i64 2, .int .i64 1] w fun e w' => e = .returned (.tuple #[.int .i64 (tagAt l 0).pla, .int .i64 3, .int .i64 0]) ∧ Below w.heap.size w w' := fun w h => by
    have := get_ok a cap l 2 1 w h (by omega) (by omega)
    rw [hl] at this
    exact this
  have gk3 : ∀ w, SlB w a cap l → Calls Tryz.prog 118 #[.slice a 15 cap, .int .i64 3, .int .i64 6] w fun e w' => e = .returned (.tuple #[.int .i64 (tagAt l 0).idx, .int .i64 9, .int .i64 0]) ∧ Below w.heap.size w w' := fun w h => by
    have := get_ok a cap l 3 6 w h (by omega) (by omega)
    rw [hl] at this
    exact this
  have gk4 : ∀ w, SlB w a cap l → Calls Tryz.prog 118 #[.slice a 15 cap, .int .i64 9, .int .i64 6] w fun e w' => e = .returned (.tuple #[.int .i64 (tagAt l 0).inc, .int .i64 15, .int .i64 0]) ∧ Below w.heap.size w w' := fun w h => by
    have := get_ok a cap l 9 6 w h (by omega) (by omega)
    rw [hl] at this
    exact this
  have HL := Lib.hid hl
  clear hl
  have i0 : ∀ (w : World), (Instr.index 206 widV (.int .i64 0)).run Tryz.prog w = .ok (.int .i64 1) w := fun _ => by kernel_rfl
  have i1 : ∀ (w : World), (Instr.index 206 widV (.int .i64 1)).run Tryz.prog w = .ok (.int .i64 1) w := fun _ => by kernel_rfl
  have i2 : ∀ (w : World), (Instr.index 206 widV (.int .i64 2)).run Tryz.prog w = .ok (.int .i64 1) w := fun _ => by kernel_rfl
  have i3 : ∀ (w : World), (Instr.index 206 widV (.int .i64 3)).run Tryz.prog w = .ok (.int .i64 6) w := fun _ => by kernel_rfl
  have i4 : ∀ (w : World), (Instr.index 206 widV (.int .i64 4)).run Tryz.prog w = .ok (.int .i64 6) w := fun _ => by kernel_rfl
  go_enter Tryz.func132, Tryz.ntmps132
  refine wp_seq_k (fun K hK => ?_)
  have HK := Lib.hid hK
  clear hK
  go_wp2
  refine HK.out _ _ ?_
  clear HK
  refine wp_seq_k (fun K hK => ?_)
  have HK := Lib.hid hK
  clear hK
  go_wp2
  refine HK.out _ _ ?_
  clear HK
  have B2 := tr_al (Obj.cells (tlA (tagAt l 0) 0) 206) (heap_alloc_new w (Obj.cells #[.int .i64 0, .int .i64 0, .int .i64 0, .int .i64 0, .int .i64 0] 33))
  have B4 := heap_alloc_new (w.alloc (Obj.cells #[.int .i64 0, .int .i64 0, .int .i64 0, .int .i64 0, .int .i64 0] 33)) (Obj.cells (tlA (tagAt l 0) 0) 206)
  have hb0 := (blw w (Obj.cells #[.int .i64 0, .int .i64 0, .int .i64 0, .int .i64 0, .int .i64 0] 33)).alloc (by simp) (Obj.cells (tlA (tagAt l 0) 0) 206)
  rw [show (w.alloc (Obj.cells #[.int .i64 0, .int .i64 0, .int .i64 0, .int .i64 0, .int .i64 0] 33)).heap.size = w.heap.size + 1 by simp] at B4
  change Code.wp _ _ _ _ ((w.alloc (Obj.cells #[.int .i64 0, .int .i64 0, .int .i64 0, .int .i64 0, .int .i64 0] 33)).alloc (Obj.cells (tlA (tagAt l 0) 0) 206))
  generalize (w.alloc (Obj.cells #[.int .i64 0, .int .i64 0, .int .i64 0, .int .i64 0, .int .i64 0] 33)).alloc (Obj.cells (tlA (tagAt l 0) 0) 206) = w0 at *
  refine wp_seq_k (fun K hK => ?_)
  have HK := Lib.hid hK
  clear hK
  go_wp2
  refine HK.out _ _ ?_
  clear HK
  refine wp_seq_k (fun K hK => ?_)
  have HK := Lib.hid hK
  clear hK
  go_wp2_with (go_at_call 145; refine (widths_any _).mono ?_; rintro e w1 ⟨rfl, hb1⟩; have hb01 := hb0.trans (hb1.mono hb0.size); have A2 := tr_bl hb1 B2; have A4 := tr_bl hb1 B4)
  go_loopw [13, 5, 6, 7, 8, 9, 10] (fun i p _ _ _ _ _ wr => ∃ (j : Nat), j ≤ 5 ∧ i = .int .i64 (j : Nat) ∧ p = .int .i64 (posT j) ∧ wr.heap[w.heap.size + 1]? = some (.cells (tlA (tagAt l 0) j) 206 (0, 0)) ∧ wr.heap[w.heap.size]? = some (.cells #[.int .i64 0, .int .i64 0, .int .i64 0, .int .i64 0, .int .i64 0] 33 (0, 0)) ∧ Below w.heap.size w wr) (fun i _ _ _ _ _ _ _ => 5 - (intOf i).toNat)
  case atStart => exact ⟨0, by omega, rfl, rfl, A4, A2, hb01⟩
  case round =>
    clear B2 B4 A2 A4 hb0 hb1 hb01
    obtain ⟨j, hj, rfl, rfl, B4, B2, hbr⟩ := hrel
    have hsr := hs.below hbr
    have h5 : j = 0 ∨ j = 1 ∨ j = 2 ∨ j = 3 ∨ j = 4 ∨ j = 5 := by omega
    rcases h5 with rfl | rfl | rfl | rfl | rfl | rfl
    · have hpos : posT 0 = 0 := rfl
      rw [hpos]
      clear hpos
      go_wp2_with (first
        | (go_at_call 118; refine (gk0 _ hsr).mono ?_; rintro e w2 ⟨rfl, hb2⟩; have C4 := tr_bl hb2 B4; have C2 := tr_bl hb2 B2; have hb3 := hbr.trans (hb2.mono hbr.size))
        | ((with_reducible refine wpList_stB 3 _ _ ?_); refine ⟨_, _, _, ⟨_, _, _, Tryz.sizeOf3, rfl, C4, (⟨(by show _ ≤ 5; omega), rfl, oneI (tagAt l 0).rep, (show _ = tlA (tagAt l 0) (0 + 1) from rfl)⟩)⟩, ?_⟩; intro w5 B5 g5))
      go_roundw
      case rel => exact ⟨0 + 1, by omega, by rfl, by rfl, B5, tr_st g5 C2 (by omega), bl_st hb3 g5 hb3.size (by omega)⟩
      case measure => simp [intOf]
    · have hpos : posT 1 = 1 := rfl
      rw [hpos]
      clear hpos
      go_wp2_with (first
        | (go_at_call 118; refine (gk1 _ hsr).mono ?_; rintro e w2 ⟨rfl, hb2⟩; have C4 := tr_bl hb2 B4; have C2 := tr_bl hb2 B2; have hb3 := hbr.trans (hb2.mono hbr.size))
        | ((with_reducible refine wpList_stB 3 _ _ ?_); refine ⟨_, _, _, ⟨_, _, _, Tryz.sizeOf3, rfl, C4, (⟨(by show _ ≤ 5; omega), rfl, oneI (tagAt l 0).reg, (show _ = tlA (tagAt l 0) (1 + 1) from rfl)⟩)⟩, ?_⟩; intro w5 B5 g5))
      go_roundw
      case rel => exact ⟨1 + 1, by omega, by rfl, by rfl, B5, tr_st g5 C2 (by omega), bl_st hb3 g5 hb3.size (by omega)⟩
      case measure => simp [intOf]
    · have hpos : posT 2 = 2 := rfl
      rw [hpos]
      clear hpos
      go_wp2_with (first
        | (go_at_call 118; refine (gk2 _ hsr).mono ?_; rintro e w2 ⟨rfl, hb2⟩; have C4 := tr_bl hb2 B4; have C2 := tr_bl hb2 B2; have hb3 := hbr.trans (hb2.mono hbr.size))
        | ((with_reducible refine wpList_stB 3 _ _ ?_); refine ⟨_, _, _, ⟨_, _, _, Tryz.sizeOf3, rfl, C4, (⟨(by show _ ≤ 5; omega), rfl, oneI (tagAt l 0).pla, (show _ = tlA (tagAt l 0) (2 + 1) from rfl)⟩)⟩, ?_⟩; intro w5 B5 g5))
      go_roundw
      case rel => exact ⟨2 + 1, by omega, by rfl, by rfl, B5, tr_st g5 C2 (by omega), bl_st hb3 g5 hb3.size (by omega)⟩
      case measure => simp [intOf]
    · have hpos : posT 3 = 3 := rfl
      rw [hpos]
      clear hpos
      go_wp2_with (first
        | (go_at_call 118; refine (gk3 _ hsr).mono ?_; rintro e w2 ⟨rfl, hb2⟩; have C4 := tr_bl hb2 B4; have C2 := tr_bl hb2 B2; have hb3 := hbr.trans (hb2.mono hbr.size))
        | ((with_reducible refine wpList_stB 3 _ _ ?_); refine ⟨_, _, _, ⟨_, _, _, Tryz.sizeOf3, rfl, C4, (⟨(by show _ ≤ 5; omega), rfl, oneI (tagAt l 0).idx, (show _ = tlA (tagAt l 0) (3 + 1) from rfl)⟩)⟩, ?_⟩; intro w5 B5 g5))
      go_roundw
      case rel => exact ⟨3 + 1, by omega, by rfl, by rfl, B5, tr_st g5 C2 (by omega), bl_st hb3 g5 hb3.size (by omega)⟩
      case measure => simp [intOf]
    · have hpos : posT 4 = 9 := rfl
      rw [hpos]
      clear hpos
      go_wp2_with (first
        | (go_at_call 118; refine (gk4 _ hsr).mono ?_; rintro e w2 ⟨rfl, hb2⟩; have C4 := tr_bl hb2 B4; have C2 := tr_bl hb2 B2; have hb3 := hbr.trans (hb2.mono hbr.size))
        | ((with_reducible refine wpList_stB 3 _ _ ?_); refine ⟨_, _, _, ⟨_, _, _, Tryz.sizeOf3, rfl, C4, (⟨(by show _ ≤ 5; omega), rfl, oneI (tagAt l 0).inc, (show _ = tlA (tagAt l 0) (4 + 1) from rfl)⟩)⟩, ?_⟩; intro w5 B5 g5))
      go_roundw
      case rel => exact ⟨4 + 1, by omega, by rfl, by rfl, B5, tr_st g5 C2 (by omega), bl_st hb3 g5 hb3.size (by omega)⟩
      case measure => simp [intOf]
    · have hpos : posT 5 = 15 := rfl
      rw [hpos]
      unfold parseT at HK
      have hsz := hbr.size
      have hlt4 := lt_blk B4
      generalize tagAt l 0 = t at *
      replace B4 : wr.heap[w.heap.size + 1]? = some (.cells #[.int .i64 t.rep, .int .i64 t.reg, .int .i64 t.pla, .int .i64 t.idx, .int .i64 t.inc] 206 (0, 0)) := B4
      have c0 := blk_cell B4 0 _ rfl
      have c1 := blk_cell B4 1 _ rfl
      have c2 := blk_cell B4 2 _ rfl
      have c3 := blk_cell B4 3 _ rfl
      have c4 := blk_cell B4 4 _ rfl
      obtain ⟨r, hr⟩ : ∃ r, mayTg t = r := ⟨_, rfl⟩
      have hmay := tmay_any t
      rw [hr] at hmay HK
      clear hr B4
      go_wp2
      refine HK.out _ _ ?_
      clear HK
      cases r
      case false =>
        rw [if_neg (by simp)]
        go_wp2_with (first
          | (go_at_call 92; refine (hmay _).mono ?_; rintro e w2 ⟨rfl, hb2⟩; have C2 := tr_bl hb2 (tr_al _ B2); have hb3 := (hbr.alloc hsz _).trans (hb2.mono (by simp; omega)))
          | ((with_reducible refine wpList_stB 33 _ _ ?_); refine ⟨_, _, _, ⟨_, _, _, Tryz.sizeOf33, rfl, C2, st5 _ rfl 0 0 0 0 0⟩, ?_⟩; intro w5 B5 g5))
        refine bodyPost_ret (results_c1t1 rfl rfl (run_loadVar_all Tryz.isAgg33 Tryz.sizeOf33 B5 rfl)) rfl ⟨rfl, bl_st hb3 g5 hb3.size (Nat.le_refl _)⟩
      case true =>
        rw [if_pos rfl]
        go_wp2_with (first
          | (go_at_call 92; refine (hmay _).mono ?_; rintro e w2 ⟨rfl, hb2⟩; have C2 := tr_bl hb2 (tr_al _ B2); have A5 := tr_bl hb2 (heap_alloc_new wr (Obj.cells #[.int .i64 t.rep, .int .i64 t.reg, .int .i64 t.pla, .int .i64 t.idx, .int .i64 t.inc] 33)); have hb3 := (hbr.alloc hsz _).trans (hb2.mono (by simp; omega)))
          | ((with_reducible refine wpList_ldB 33 _ ?_); refine ⟨rfl, _, ⟨_, _, _, _, _, Tryz.isAgg33, Tryz.sizeOf33, rfl, ‹_›, ld5 _ _ _ _ _⟩, ?_⟩)
          | ((with_reducible refine wpList_stB 33 _ _ ?_); refine ⟨_, _, _, ⟨_, _, _, Tryz.sizeOf33, rfl, C2, st5 _ rfl t.rep t.reg t.pla t.idx t.inc⟩, ?_⟩; intro w5 B5 g5))
        refine bodyPost_ret (results_c1t1 rfl rfl (run_loadVar_all Tryz.isAgg33 Tryz.sizeOf33 B5 rfl)) rfl ⟨rfl, bl_st hb3 g5 hb3.size (Nat.le_refl _)⟩
end Go.Proofs.YtddddemclhlfaaaGreatDoor
namespace Go.Proofs.YtddddemclhlfaaaGreatDoor
open Go.RowKit
theorem infoB : (Tryz.prog.info? 5).map (fun i => (i.zero.map (·.cells), i.size, i.bytes)) = some (some #[.int .u8 0], 1, 1) := by kernel_rfl
theorem made_bys (n : Nat) : madeCells #[.int .u8 0] (n * 1) = (bys (List.replicate n 0)).toArray := by
  apply Array.ext_getElem?
  intro k
  by_cases hk : k < n
  · unfold madeCells
    rw [Array.getElem?_map, Array.getElem?_range, if_pos (by omega)]
    show some ((#[Value.int .u8 0] : Array Value)[k % 1]!) = _
    rw [Nat.mod_one]
    simp [bys, byv, hk]
  · rw [Array.getElem?_eq_none (by rw [size_madeCells]; omega), Array.getElem?_eq_none (by rw [List.size_toArray, bys_len, List.length_replicate]; omega)]
theorem make_bys (n : Nat) (hn : n ≤ 1000000) (w : World) : (Instr.makeSlice 34 (.int .i64 n) (.int .i64 n)).run Tryz.prog w = .ok (.slice (some ⟨w.heap.size, 0, none⟩) n n) (w.alloc (.cells (bys (List.replicate n 0)).toArray 5)) := by
  obtain ⟨i, hi, h2⟩ := Option.map_eq_some_iff.1 infoB
  simp only [Prod.mk.injEq] at h2
  obtain ⟨hz, hsz, hb⟩ := h2
  obtain ⟨z, hz, hzc⟩ := Option.map_eq_some_iff.1 hz
  have := run_make (P := Tryz.prog) w 34 5 i z Tryz.underlying34 hi hz .i64 .i64 n n (by omega) (by omega) (by rw [hb]; omega) (by omega)
  rw [hsz, hzc] at this
  simp only [Int.toNat_natCast] at this
  rw [made_bys] at this
  exact this
theorem sizeByte : (Tryz.prog.info? 5).map (·.size) = some 1 := by kernel_rfl
/-! The frame's bytes in three steps. -/
section
variable {t : Tg} {body : List UInt8} {n : Nat}
def jnF (t : Tg) (body : List UInt8) : List UInt8 := le 2 body.length ++ (tagB t ++ body)
theorem jnF_len (t : Tg) (body : List UInt8) : (jnF t body).length = 17 + body.length := by
  unfold jnF
  rw [List.length_append, List.length_append, le_len, tagB_len]
  omega
theorem rep_split (a b : Nat) : List.replicate (a + b) (0 : UInt8) = List.replicate a 0 ++ List.replicate b 0 := by rw [List.replicate_append_replicate]
theorem seal_1 (hn : 0 < roomN n) (hb : body.length ≤ roomN n) : splice (bys (List.replicate n 0)) 0 (bys (jnF t body)) = bys (headF t body n ++ List.replicate 4 0) := by
  obtain ⟨_, hr⟩ := roomN_of hn
  unfold splice
  rw [List.take_zero, List.nil_append, bys_len, jnF_len, Nat.zero_add]
  have e1 : (bys (List.replicate n 0)).drop (17 + body.length) = bys (List.replicate (n - 21 - body.length) 0 ++ List.replicate 4 0) := by
    unfold bys
    rw [← List.map_drop, List.drop_replicate, show n - (17 + body.length) = (n - 21 - body.length) + 4 by omega, rep_split]
  rw [e1, ← bys_app]
  congr 1
  unfold jnF headF
  simp only [List.append_assoc]
theorem seal_2 (hn : 0 < roomN n) (hb : body.length ≤ roomN n) (s : List UInt8) (hs : s.length = 4) : splice (bys (headF t body n ++ List.replicate 4 0)) (n - 4) (bys s) = bys (headF t body n ++ s) := by
  have hl := headF_len (t := t) hn hb
  unfold splice
  have e1 : (bys (headF t body n ++ List.replicate 4 0)).take (n - 4) = bys (headF t body n) := by
    rw [bys_app, ← hl, ← bys_len (headF t body n), List.take_left]
  have e2 : (bys (headF t body n ++ List.replicate 4 0)).drop (n - 4 + (bys s).length) = [] := by
    rw [List.drop_of_length_le]
    rw [bys_len, bys_len, List.length_append, hl, hs, List.length_replicate]
    omega
  rw [e1, e2, List.append_nil, ← bys_app]
end
end Go.Proofs.YtddddemclhlfaaaGreatDoor
namespace Go.Proofs.YtddddemclhlfaaaGreatDoor
open Go.RowKit
def zrA (n : Nat) : Array Value := (bys (List.replicate n 0)).toArray
theorem row_pre {w : World} {g : Nat} {xs ys : List UInt8} (h : w.heap[g]? = some (.cells (bys (xs ++ ys)).toArray 5 (0, 0))) : Row w (some ⟨g, 0, none⟩) (bys xs) :=
  Row.of_block h 0 (fun i u hu => by
    rw [Nat.zero_add, bys_app, List.getElem?_append_left (List.getElem?_eq_some_iff.1 hu).1]
    exact hu)
theorem oput_len {n : Nat} (h : n ≤ 1000) : oputL 2 (n : Int) = le 2 n := oput_one (k := 2) (by omega) (by show _ < 65536; omega)
theorem oput4 {z : Nat} (h : z < 4294967296) : oputL 4 (z : Int) = le 4 z := oput_one (k := 4) (by omega) (by show _ < 4294967296; omega)
set_option maxRecDepth 100000 in
set_option maxHeartbeats 2000000 in
theorem seal1 (t : Tg) (a : Option Addr) (cap : Nat) (body : List UInt8) (w : World) (hs : SlB w a cap body) (ht : mayTg t = true) (hb : body.length ≤ 43) : Calls Tryz.prog 115 #[tgV t, .slice a body.length cap, .int .i64 1] w fun e w' => (∃ g, e = .returned (.tuple #[.slice (some ⟨g, 0, none⟩) 64 64, .int .i64 0]) ∧ w.heap.size ≤ g ∧ w'.heap[g]? = some (.cells (bys (sealF t body 64)).toArray 5 (0, 0))) ∧ Below w.heap.size w w' := by
  have hroom : ∀ w, Calls Tryz.prog 59 #[.int .i64 1] w fun e w' => e = .returned (.int .i64 43) ∧ w = w' := fun w => room_any 1 w
  have hb1000 : body.length ≤ 1000 := by omega
  have HT := Lib.hid ht
  clear ht
  go_enter Tryz.func115, Tryz.ntmps115
  refine wp_seq_k (fun K hK => ?_)
  have HK := Lib.hid hK
  clear hK
  go_wp2
  refine HK.out _ _ ?_
  clear HK
  refine wp_seq_k (fun K hK => ?_)
  have HK := Lib.hid hK
  clear hK
  go_wp2_with (go_at_call 137; refine (tprint_ok t _ HT.out).mono ?_; rintro e w1 ⟨⟨a1, c1, rfl, o1⟩, hb1⟩)
  refine HK.out _ _ ?_
  clear HK
  have hbB := blw w (Obj.cells #[.int .i64 t.rep, .int .i64 t.reg, .int .i64 t.pla, .int .i64 t.idx, .int .i64 t.inc] 33)
  have hb01 := hbB.trans (hb1.mono hbB.size)
  have hs1 := hs.below hb01
  have o1' := owns_mono o1 hbB.size
  clear hb1 o1 hbB
  refine wp_seq_k (fun K hK => ?_)
  have HK := Lib.hid hK
  clear hK
  go_wp2_with (go_at_call 59; refine (hroom _).mono ?_; rintro e w2 ⟨rfl, rfl⟩)
  refine HK.out _ _ ?_
  clear HK
  refine wp_seq_k (fun K hK => ?_)
  have HK := Lib.hid hK
  clear hK
  go_wp2_with (go_at_call 138; refine (put_any 2 (body.length : Int) _).mono ?_; rintro e w2 ⟨⟨v2, rfl, o2⟩, hb2⟩; rw [oput_len hb1000, le_len] at o2; obtain ⟨a2, c2, rfl, r2, n2, m2⟩ := Row.of_owns o2)
  refine HK.out _ _ ?_
  clear HK
  have hmk : (Instr.makeSlice 34 (.int .i64 64) (.int .i64 64)).run Tryz.prog w2 = .ok (.slice (some ⟨w2.heap.size, 0, none⟩) 64 64) (w2.alloc (.cells (zrA 64) 5)) := make_bys 64 (by decide) w2
  refine wp_seq_k (fun K hK => ?_)
  have HK := Lib.hid hK
  clear hK
  go_wp2
  refine HK.out _ _ ?_
  clear HK
  have hb02 := hb01.trans (hb2.mono hb01.size)
  have hG := hb02.size
  have hbz := blw w2 (Obj.cells (zrA 64) 5)
  have Z := heap_alloc_new w2 (Obj.cells (zrA 64) 5)
  have ho1 := owns_bl (owns_bl o1' hb2) hbz
  have ho2 := owns_bl o2 hbz
  have hsz := (hs1.below hb2).below hbz
  have hb0z := hb02.trans (hbz.mono hG)
  clear hmk hb2 o2 r2 n2 m2 o1' hs1 hb01 hbz
  generalize w2.alloc (Obj.cells (zrA 64) 5) = wz at *
  generalize w2.heap.size = G at *
  have hGz := lt_blk Z
  have hb8 := blw wz (Obj.cells #[.slice a2 2 c2, .slice a1 15 c1, .slice a body.length cap] 34)
  have P8 : Parts (wz.alloc (Obj.cells #[.slice a2 2 c2, .slice a1 15 c1, .slice a body.length cap] 34)) (some ⟨wz.heap.size, 0, none⟩) [(a2, c2, le 2 body.length), (a1, c1, tagB t), (a, cap, body)] := by
    constructor
    · exact Row.of_block (cs := [.slice a2 2 c2, .slice a1 15 c1, .slice a body.length cap]) (heap_alloc_new wz _) 0 (fun i u hu => by rw [Nat.zero_add]; exact hu)
    · intro x hx
      simp only [List.mem_cons, List.not_mem_nil, or_false] at hx
      rcases hx with rfl | rfl | rfl
      · obtain ⟨_, _, e, h⟩ := SlB.of_owns (l := le 2 body.length) (by rw [le_len]; exact ho2)
        rw [le_len] at e
        cases e
        exact h.below hb8
      · obtain ⟨_, _, e, h⟩ := SlB.of_owns (l := tagB t) (by rw [tagB_len]; exact ho1)
        rw [tagB_len] at e
        cases e
        exact h.below hb8
      · exact hsz.below hb8
  have hJ : joinP [(a2, c2, le 2 body.length), (a1, c1, tagB t), (a, cap, body)] = jnF t body := by simp [joinP, jnF]
  have hj := join_any (some ⟨wz.heap.size, 0, none⟩) 3 _ _ P8 (by simp) (by rw [hJ, jnF_len]; omega)
  rw [hJ, jnF_len] at hj
  have Z8 := tr_al (Obj.cells #[.slice a2 2 c2, .slice a1 15 c1, .slice a body.length cap] 34) Z
  have hb08 := hb0z.trans (hb8.mono hb0z.size)
  have hbl := Lib.hid (jnF_len t body)
  clear P8 hJ ho1 ho2 hsz hb0z hb8 Z
  refine wp_seq_k (fun K hK => ?_)
  have HK := Lib.hid hK
  clear hK
  go_wp2_with (first
      | (go_at_call 139; refine hj.mono ?_; rintro e w9 ⟨⟨a9, c9, rfl, o9⟩, hb9⟩; clear hj; have Z9 := tr_bl hb9 Z8; have hb09 := hb08.trans (hb9.mono hb08.size); obtain ⟨_, _, e9, r9, n9, m9⟩ := Row.of_owns o9; cases e9; obtain ⟨b9, f9, rfl, hc9⟩ := r9.at (k := 0) (by rw [bys_len, hbl.out]; omega); clear r9 o9)
      | (refine wpList_copyK rfl _ _ 34 34 5 1 Tryz.underlying34 sizeByte rfl G 0 64 64 ⟨b9, f9, none⟩ (17 + body.length) c9 rfl rfl (bys (List.replicate 64 0)) 5 (bys (jnF t body)) Z9 ?_ (fun j v hv => by rw [addr_add]; exact hc9 j v hv) ?_ bys_one ?_; (rw [bys_len, hbl.out]; exact (Nat.mul_one _).symm ▸ (Nat.min_eq_left (by omega)).symm); (rw [bys_len, bys_len, hbl.out, List.length_replicate]; omega); intro w10 Z10 g10))
  refine HK.out _ _ ?_
  clear HK
  (try simp only [Act.put]); (try simp only [List.setIfInBounds_toArray]); (try simp only [List.set_cons_succ]); (try simp only [List.set_cons_zero])
  have Z10' : w10.heap[G]? = some (.cells (bys (headF t body 64 ++ List.replicate 4 0)).toArray 5 (0, 0)) := by
    have h := Z10.out
    rw [seal_1 (n := 64) (by decide) hb] at h
    exact h
  have hb10 := bl_st hb09 g10 hb09.size hG
  have hlen : (headF t body 64).length = 60 := headF_len (n := 64) (by decide) hb
  have hsum := sum_any (some ⟨G, 0, none⟩) 64 (headF t body 64) w10 ⟨row_pre Z10', by rw [hlen]; omega, by unfold maxLen; omega, fun e => by cases e⟩
  rw [hlen] at hsum
  have hcr := crcS_lt (headF t body 64)
  obtain ⟨z, hz⟩ : ∃ z, crcS (headF t body 64) = z := ⟨_, rfl⟩
  rw [hz] at hsum hcr
  have HZ := Lib.hid hz
  have HL := Lib.hid hlen
  clear hz hlen Z10 g10 hb09 hb08 Z9 hc9
  refine wp_seq_k (fun K hK => ?_)
  have HK := Lib.hid hK
  clear hK
  go_wp2
  refine HK.out _ _ ?_
  clear HK
  refine wp_seq_k (fun K hK => ?_)
  have HK := Lib.hid hK
  clear hK
  go_wp2_with (first
      | (go_at_call 133; refine hsum.mono ?_; rintro e w11 ⟨rfl, hb11⟩; clear hsum; have Z11 := tr_bl hb11 Z10'; have hb1 := hb10.trans (hb11.mono hb10.size))
      | (go_at_call 138; refine (put_any 4 (z : Int) _).mono ?_; rintro e w12 ⟨⟨v12, rfl, o12⟩, hb12⟩; rw [oput4 hcr, le_len] at o12; have Z12 := tr_bl hb12 Z11; have hb3 := hb1.trans (hb12.mono hb1.size); obtain ⟨a12, c12, rfl, r12, n12, m12⟩ := Row.of_owns o12; obtain ⟨b12, f12, rfl, hc12⟩ := r12.at (k := 0) (by rw [bys_len, le_len]; omega); clear r12 o12))
  refine HK.out _ _ ?_
  clear HK
  refine wp_seq_k (fun K hK => ?_)
  have HK := Lib.hid hK
  clear hK
  go_wp2_with (refine wpList_copyK rfl _ _ 34 34 5 1 Tryz.underlying34 sizeByte rfl G 60 4 4 ⟨b12, f12, none⟩ 4 c12 rfl rfl (bys (headF t body 64 ++ List.replicate 4 0)) 5 (bys (le 4 z)) Z12 ?_ (fun j v hv => by rw [addr_add]; exact hc12 j v hv) ?_ bys_one ?_; (rw [bys_len, le_len]; rfl); (rw [bys_len, bys_len, le_len, List.length_append, HL.out, List.length_replicate]; omega); intro w13 Z13 g13)
  refine HK.out _ _ ?_
  clear HK
  (try simp only [Act.put]); (try simp only [List.setIfInBounds_toArray]); (try simp only [List.set_cons_succ]); (try simp only [List.set_cons_zero])
  have Z14 : w13.heap[G]? = some (.cells (bys (sealF t body 64)).toArray 5 (0, 0)) := by
    have h := Z13.out
    rw [seal_2 (n := 64) (by decide) hb _ (le_len 4 z)] at h
    unfold sealF
    rw [HZ.out]
    exact h
  have hb4 := bl_st hb3 g13 hb3.size hG
  clear Z13 Z12 Z11 Z10'
  go_wp2
  go_ret2
  exact ⟨⟨G, rfl, hG, Z14⟩, hb4⟩
end Go.Proofs.YtddddemclhlfaaaGreatDoor
namespace Go.Proofs.YtddddemclhlfaaaGreatDoor
open Go.RowKit
set_option maxRecDepth 100000 in
theorem rplaces_any (n : Int) (w : World) : Calls Tryz.prog 56 #[.int .i64 n] w fun e w' => e = .returned (.int .i64 (placesN n)) ∧ w = w' := by
  by_cases h1 : n = 1
  · subst h1
    go_enter Tryz.func56, Tryz.ntmps56
    go_wp2
    go_ret
    exact ⟨rfl, rfl⟩
  by_cases h2 : n = 2
  · subst h2
    go_enter Tryz.func56, Tryz.ntmps56
    go_wp2
    go_ret
    exact ⟨rfl, rfl⟩
  by_cases h3 : n = 3
  · subst h3
    go_enter Tryz.func56, Tryz.ntmps56
    go_wp2
    go_ret
    exact ⟨rfl, rfl⟩
  by_cases h4 : n = 4
  · subst h4
    go_enter Tryz.func56, Tryz.ntmps56
    go_wp2
    go_ret
    exact ⟨rfl, rfl⟩
  by_cases h5 : n = 5
  · subst h5
    go_enter Tryz.func56, Tryz.ntmps56
    go_wp2
    go_ret
    exact ⟨rfl, rfl⟩
  have e : placesN n = 0 := by unfold placesN; rw [if_neg h1, if_neg h2, if_neg h3, if_neg h4, if_neg h5]
  rw [e]
  have i1 : (n == 1) = false := by rw [beq_eq_false_iff_ne]; exact h1
  have i2 : (n == 2) = false := by rw [beq_eq_false_iff_ne]; exact h2
  have i3 : (n == 3) = false := by rw [beq_eq_false_iff_ne]; exact h3
  have i4 : (n == 4) = false := by rw [beq_eq_false_iff_ne]; exact h4
  have i5 : (n == 5) = false := by rw [beq_eq_false_iff_ne]; exact h5
  clear h1 h2 h3 h4 h5 e
  go_enter Tryz.func56, Tryz.ntmps56
  go_wp2
  go_ret
  exact ⟨rfl, rfl⟩
theorem may_no {t : Tg} (h : t.rep < 0 ∨ 6 < t.rep ∨ t.reg < 1 ∨ 5 < t.reg ∨ t.pla < 0 ∨ placesN t.reg ≤ t.pla) : mayTg t = false := by
  rw [Bool.eq_false_iff]
  intro hm
  obtain ⟨a1, a2, a3, a4, _⟩ := mayTg_parts hm
  obtain ⟨b1, b2, _⟩ := mayTg_small hm
  omega
set_option maxRecDepth 100000 in
set_option maxHeartbeats 2000000 in
theorem rtmay_any (t : Tg) (w : World) : Calls Tryz.prog 125 #[tgV t] w fun e w' => e = .returned (.bool (mayTg t)) ∧ Below w.heap.size w w' := by
  by_cases a1 : t.rep < 0
  case pos =>
    have z1 := decide_eq_true a1
    rw [show mayTg t = false from may_no (.inl a1)]
    go_enter Tryz.func125, Tryz.ntmps125
    refine wp_seq_k (fun K hK => ?_)
    have HK := Lib.hid hK
    clear hK
    go_wp2
    refine HK.out _ _ ?_
    clear HK
    have hbw := blw w (Obj.cells #[.int .i64 t.rep, .int .i64 t.reg, .int .i64 t.pla, .int .i64 t.idx, .int .i64 t.inc] 33)
    have hcs := heap_alloc_new w (Obj.cells #[.int .i64 t.rep, .int .i64 t.reg, .int .i64 t.pla, .int .i64 t.idx, .int .i64 t.inc] 33)
    have c0 := under_cell (blk_cell hcs 0 _ rfl)
    have c1 := under_cell (blk_cell hcs 1 _ rfl)
    have c2 := under_cell (blk_cell hcs 2 _ rfl)
    have c3 := under_cell (blk_cell hcs 3 _ rfl)
    have c4 := under_cell (blk_cell hcs 4 _ rfl)
    clear hcs
    have hqs := hbw.size
    generalize w.alloc (Obj.cells #[.int .i64 t.rep, .int .i64 t.reg, .int .i64 t.pla, .int .i64 t.idx, .int .i64 t.inc] 33) = wq at *
    generalize w.heap.size = q at *
    refine wp_seq_k (fun K hK => ?_)
    have HK := Lib.hid hK
    clear hK
    refine wp_seq_k (fun K2 hK2 => ?_)
    have HK2 := Lib.hid hK2
    clear hK2
    refine wp_region_under (by kernel_rfl) (by kernel_rfl) ?_
    repeat (first | go_big_quiet_step ((first
      | (go_at_call 56; exact under_same (rplaces_any _ _)))) | ((with_reducible refine wpQuiet_skip ?_ ?_) ; (focus rfl); (try simp only [Act.put]); (try simp only [List.setIfInBounds_toArray]); (try simp only [List.set_cons_succ]); (try simp only [List.set_cons_zero])))
    refine wpQuiet_nil ?_
    intro _ hw'
    obtain ⟨xU, hw''⟩ := hw'
    subst hw''
    have hbU := under_below wq xU
    refine HK2.out _ _ ?_
    clear HK2
    go_wp2
    go_ret
    exact ⟨rfl, hbw.trans (hbU.mono hqs)⟩
  have z1 := decide_eq_false a1
  by_cases a2 : 6 < t.rep
  case pos =>
    have z2 := decide_eq_true a2
    rw [show mayTg t = false from may_no (.inr (.inl a2))]
    go_enter Tryz.func125, Tryz.ntmps125
    refine wp_seq_k (fun K hK => ?_)
    have HK := Lib.hid hK
    clear hK
    go_wp2
    refine HK.out _ _ ?_
    clear HK
    have hbw := blw w (Obj.cells #[.int .i64 t.rep, .int .i64 t.reg, .int .i64 t.pla, .int .i64 t.idx, .int .i64 t.inc] 33)
    have hcs := heap_alloc_new w (Obj.cells #[.int .i64 t.rep, .int .i64 t.reg, .int .i64 t.pla, .int .i64 t.idx, .int .i64 t.inc] 33)
    have c0 := under_cell (blk_cell hcs 0 _ rfl)
    have c1 := under_cell (blk_cell hcs 1 _ rfl)
    have c2 := under_cell (blk_cell hcs 2 _ rfl)
    have c3 := under_cell (blk_cell hcs 3 _ rfl)
    have c4 := under_cell (blk_cell hcs 4 _ rfl)
    clear hcs
    have hqs := hbw.size
    generalize w.alloc (Obj.cells #[.int .i64 t.rep, .int .i64 t.reg, .int .i64 t.pla, .int .i64 t.idx, .int .i64 t.inc] 33) = wq at *
    generalize w.heap.size = q at *
    refine wp_seq_k (fun K hK => ?_)
    have HK := Lib.hid hK
    clear hK
    refine wp_seq_k (fun K2 hK2 => ?_)
    have HK2 := Lib.hid hK2
    clear hK2
    refine wp_region_under (by kernel_rfl) (by kernel_rfl) ?_
    repeat (first | go_big_quiet_step ((first
      | (go_at_call 56; exact under_same (rplaces_any _ _)))) | ((with_reducible refine wpQuiet_skip ?_ ?_) ; (focus rfl); (try simp only [Act.put]); (try simp only [List.setIfInBounds_toArray]); (try simp only [List.set_cons_succ]); (try simp only [List.set_cons_zero])))
    refine wpQuiet_nil ?_
    intro _ hw'
    obtain ⟨xU, hw''⟩ := hw'
    subst hw''
    have hbU := under_below wq xU
    refine HK2.out _ _ ?_
    clear HK2
    go_wp2
    go_ret
    exact ⟨rfl, hbw.trans (hbU.mono hqs)⟩
  have z2 := decide_eq_false a2
  by_cases a3 : t.reg < 1
  case pos =>
    have z3 := decide_eq_true a3
    rw [show mayTg t = false from may_no (.inr (.inr (.inl a3)))]
    go_enter Tryz.func125, Tryz.ntmps125
    refine wp_seq_k (fun K hK => ?_)
    have HK := Lib.hid hK
    clear hK
    go_wp2
    refine HK.out _ _ ?_
    clear HK
    have hbw := blw w (Obj.cells #[.int .i64 t.rep, .int .i64 t.reg, .int .i64 t.pla, .int .i64 t.idx, .int .i64 t.inc] 33)
    have hcs := heap_alloc_new w (Obj.cells #[.int .i64 t.rep, .int .i64 t.reg, .int .i64 t.pla, .int .i64 t.idx, .int .i64 t.inc] 33)
    have c0 := under_cell (blk_cell hcs 0 _ rfl)
    have c1 := under_cell (blk_cell hcs 1 _ rfl)
    have c2 := under_cell (blk_cell hcs 2 _ rfl)
    have c3 := under_cell (blk_cell hcs 3 _ rfl)
    have c4 := under_cell (blk_cell hcs 4 _ rfl)
    clear hcs
    have hqs := hbw.size
    generalize w.alloc (Obj.cells #[.int .i64 t.rep, .int .i64 t.reg, .int .i64 t.pla, .int .i64 t.idx, .int .i64 t.inc] 33) = wq at *
    generalize w.heap.size = q at *
    refine wp_seq_k (fun K hK => ?_)
    have HK := Lib.hid hK
    clear hK
    refine wp_seq_k (fun K2 hK2 => ?_)
    have HK2 := Lib.hid hK2
    clear hK2
    refine wp_region_under (by kernel_rfl) (by kernel_rfl) ?_
    repeat (first | go_big_quiet_step ((first
      | (go_at_call 56; exact under_same (rplaces_any _ _)))) | ((with_reducible refine wpQuiet_skip ?_ ?_) ; (focus rfl); (try simp only [Act.put]); (try simp only [List.setIfInBounds_toArray]); (try simp only [List.set_cons_succ]); (try simp only [List.set_cons_zero])))
    refine wpQuiet_nil ?_
    intro _ hw'
    obtain ⟨xU, hw''⟩ := hw'
    subst hw''
    have hbU := under_below wq xU
    refine HK2.out _ _ ?_
    clear HK2
    go_wp2
    go_ret
    exact ⟨rfl, hbw.trans (hbU.mono hqs)⟩
  have z3 := decide_eq_false a3
  by_cases a4 : 5 < t.reg
  case pos =>
    have z4 := decide_eq_true a4
    rw [show mayTg t = false from may_no (.inr (.inr (.inr (.inl a4))))]
    go_enter Tryz.func125, Tryz.ntmps125
    refine wp_seq_k (fun K hK => ?_)
    have HK := Lib.hid hK
    clear hK
    go_wp2
    refine HK.out _ _ ?_
    clear HK
    have hbw := blw w (Obj.cells #[.int .i64 t.rep, .int .i64 t.reg, .int .i64 t.pla, .int .i64 t.idx, .int .i64 t.inc] 33)
    have hcs := heap_alloc_new w (Obj.cells #[.int .i64 t.rep, .int .i64 t.reg, .int .i64 t.pla, .int .i64 t.idx, .int .i64 t.inc] 33)
    have c0 := under_cell (blk_cell hcs 0 _ rfl)
    have c1 := under_cell (blk_cell hcs 1 _ rfl)
    have c2 := under_cell (blk_cell hcs 2 _ rfl)
    have c3 := under_cell (blk_cell hcs 3 _ rfl)
    have c4 := under_cell (blk_cell hcs 4 _ rfl)
    clear hcs
    have hqs := hbw.size
    generalize w.alloc (Obj.cells #[.int .i64 t.rep, .int .i64 t.reg, .int .i64 t.pla, .int .i64 t.idx, .int .i64 t.inc] 33) = wq at *
    generalize w.heap.size = q at *
    refine wp_seq_k (fun K hK => ?_)
    have HK := Lib.hid hK
    clear hK
    refine wp_seq_k (fun K2 hK2 => ?_)
    have HK2 := Lib.hid hK2
    clear hK2
    refine wp_region_under (by kernel_rfl) (by kernel_rfl) ?_
    repeat (first | go_big_quiet_step ((first
      | (go_at_call 56; exact under_same (rplaces_any _ _)))) | ((with_reducible refine wpQuiet_skip ?_ ?_) ; (focus rfl); (try simp only [Act.put]); (try simp only [List.setIfInBounds_toArray]); (try simp only [List.set_cons_succ]); (try simp only [List.set_cons_zero])))
    refine wpQuiet_nil ?_
    intro _ hw'
    obtain ⟨xU, hw''⟩ := hw'
    subst hw''
    have hbU := under_below wq xU
    refine HK2.out _ _ ?_
    clear HK2
    go_wp2
    go_ret
    exact ⟨rfl, hbw.trans (hbU.mono hqs)⟩
  have z4 := decide_eq_false a4
  by_cases a5 : t.pla < 0
  case pos =>
    have z5 := decide_eq_true a5
    rw [show mayTg t = false from may_no (.inr (.inr (.inr (.inr (.inl a5)))))]
    go_enter Tryz.func125, Tryz.ntmps125
    refine wp_seq_k (fun K hK => ?_)
    have HK := Lib.hid hK
    clear hK
    go_wp2
    refine HK.out _ _ ?_
    clear HK
    have hbw := blw w (Obj.cells #[.int .i64 t.rep, .int .i64 t.reg, .int .i64 t.pla, .int .i64 t.idx, .int .i64 t.inc] 33)
    have hcs := heap_alloc_new w (Obj.cells #[.int .i64 t.rep, .int .i64 t.reg, .int .i64 t.pla, .int .i64 t.idx, .int .i64 t.inc] 33)
    have c0 := under_cell (blk_cell hcs 0 _ rfl)
    have c1 := under_cell (blk_cell hcs 1 _ rfl)
    have c2 := under_cell (blk_cell hcs 2 _ rfl)
    have c3 := under_cell (blk_cell hcs 3 _ rfl)
    have c4 := under_cell (blk_cell hcs 4 _ rfl)
    clear hcs
    have hqs := hbw.size
    generalize w.alloc (Obj.cells #[.int .i64 t.rep, .int .i64 t.reg, .int .i64 t.pla, .int .i64 t.idx, .int .i64 t.inc] 33) = wq at *
    generalize w.heap.size = q at *
    refine wp_seq_k (fun K hK => ?_)
    have HK := Lib.hid hK
    clear hK
    refine wp_seq_k (fun K2 hK2 => ?_)
    have HK2 := Lib.hid hK2
    clear hK2
    refine wp_region_under (by kernel_rfl) (by kernel_rfl) ?_
    repeat (first | go_big_quiet_step ((first
      | (go_at_call 56; exact under_same (rplaces_any _ _)))) | ((with_reducible refine wpQuiet_skip ?_ ?_) ; (focus rfl); (try simp only [Act.put]); (try simp only [List.setIfInBounds_toArray]); (try simp only [List.set_cons_succ]); (try simp only [List.set_cons_zero])))
    refine wpQuiet_nil ?_
    intro _ hw'
    obtain ⟨xU, hw''⟩ := hw'
    subst hw''
    have hbU := under_below wq xU
    refine HK2.out _ _ ?_
    clear HK2
    go_wp2
    go_ret
    exact ⟨rfl, hbw.trans (hbU.mono hqs)⟩
  have z5 := decide_eq_false a5
  by_cases a6 : placesN t.reg ≤ t.pla
  case pos =>
    have z6 := decide_eq_true a6
    rw [show mayTg t = false from may_no (.inr (.inr (.inr (.inr (.inr a6)))))]
    go_enter Tryz.func125, Tryz.ntmps125
    refine wp_seq_k (fun K hK => ?_)
    have HK := Lib.hid hK
    clear hK
    go_wp2
    refine HK.out _ _ ?_
    clear HK
    have hbw := blw w (Obj.cells #[.int .i64 t.rep, .int .i64 t.reg, .int .i64 t.pla, .int .i64 t.idx, .int .i64 t.inc] 33)
    have hcs := heap_alloc_new w (Obj.cells #[.int .i64 t.rep, .int .i64 t.reg, .int .i64 t.pla, .int .i64 t.idx, .int .i64 t.inc] 33)
    have c0 := under_cell (blk_cell hcs 0 _ rfl)
    have c1 := under_cell (blk_cell hcs 1 _ rfl)
    have c2 := under_cell (blk_cell hcs 2 _ rfl)
    have c3 := under_cell (blk_cell hcs 3 _ rfl)
    have c4 := under_cell (blk_cell hcs 4 _ rfl)
    clear hcs
    have hqs := hbw.size
    generalize w.alloc (Obj.cells #[.int .i64 t.rep, .int .i64 t.reg, .int .i64 t.pla, .int .i64 t.idx, .int .i64 t.inc] 33) = wq at *
    generalize w.heap.size = q at *
    refine wp_seq_k (fun K hK => ?_)
    have HK := Lib.hid hK
    clear hK
    refine wp_seq_k (fun K2 hK2 => ?_)
    have HK2 := Lib.hid hK2
    clear hK2
    refine wp_region_under (by kernel_rfl) (by kernel_rfl) ?_
    repeat (first | go_big_quiet_step ((first
      | (go_at_call 56; exact under_same (rplaces_any _ _)))) | ((with_reducible refine wpQuiet_skip ?_ ?_) ; (focus rfl); (try simp only [Act.put]); (try simp only [List.setIfInBounds_toArray]); (try simp only [List.set_cons_succ]); (try simp only [List.set_cons_zero])))
    refine wpQuiet_nil ?_
    intro _ hw'
    obtain ⟨xU, hw''⟩ := hw'
    subst hw''
    have hbU := under_below wq xU
    refine HK2.out _ _ ?_
    clear HK2
    go_wp2
    go_ret
    exact ⟨rfl, hbw.trans (hbU.mono hqs)⟩
  have z6 := decide_eq_false a6
  have e : mayTg t = (decide (0 ≤ t.idx) && (decide (t.idx ≤ 1099511627776) && (decide (1 ≤ t.inc) && decide (t.inc ≤ 1099511627776)))) := by
    unfold mayTg
    rw [decide_eq_true (show 0 ≤ t.rep by omega), decide_eq_true (show t.rep ≤ 6 by omega), decide_eq_true (show 0 ≤ t.pla by omega), decide_eq_true (show t.pla < placesN t.reg by omega)]
    simp only [Bool.true_and]
  rw [e]
  clear e
  by_cases b1 : 0 ≤ t.idx
  case neg =>
    go_enter Tryz.func125, Tryz.ntmps125
    refine wp_seq_k (fun K hK => ?_)
    have HK := Lib.hid hK
    clear hK
    go_wp2
    refine HK.out _ _ ?_
    clear HK
    have hbw := blw w (Obj.cells #[.int .i64 t.rep, .int .i64 t.reg, .int .i64 t.pla, .int .i64 t.idx, .int .i64 t.inc] 33)
    have hcs := heap_alloc_new w (Obj.cells #[.int .i64 t.rep, .int .i64 t.reg, .int .i64 t.pla, .int .i64 t.idx, .int .i64 t.inc] 33)
    have c0 := under_cell (blk_cell hcs 0 _ rfl)
    have c1 := under_cell (blk_cell hcs 1 _ rfl)
    have c2 := under_cell (blk_cell hcs 2 _ rfl)
    have c3 := under_cell (blk_cell hcs 3 _ rfl)
    have c4 := under_cell (blk_cell hcs 4 _ rfl)
    clear hcs
    have hqs := hbw.size
    generalize w.alloc (Obj.cells #[.int .i64 t.rep, .int .i64 t.reg, .int .i64 t.pla, .int .i64 t.idx, .int .i64 t.inc] 33) = wq at *
    generalize w.heap.size = q at *
    refine wp_seq_k (fun K hK => ?_)
    have HK := Lib.hid hK
    clear hK
    refine wp_seq_k (fun K2 hK2 => ?_)
    have HK2 := Lib.hid hK2
    clear hK2
    refine wp_region_under (by kernel_rfl) (by kernel_rfl) ?_
    repeat (first | go_big_quiet_step ((first
      | (go_at_call 56; exact under_same (rplaces_any _ _)))) | ((with_reducible refine wpQuiet_skip ?_ ?_) ; (focus rfl); (try simp only [Act.put]); (try simp only [List.setIfInBounds_toArray]); (try simp only [List.set_cons_succ]); (try simp only [List.set_cons_zero])))
    refine wpQuiet_nil ?_
    intro _ hw'
    obtain ⟨xU, hw''⟩ := hw'
    subst hw''
    have hbU := under_below wq xU
    refine HK2.out _ _ ?_
    clear HK2
    have d3 := c3 xU
    have d4 := c4 xU
    clear c0 c1 c2 c3 c4
    go_wp2
    refine HK.out _ _ ?_
    clear HK
    go_wp2
    go_ret
    exact ⟨by first | rfl | (refine ret_bool ?_; simp; omega) | (refine ret_bool ?_; simp [b1, b2, b3]), hbw.trans (hbU.mono hqs)⟩
  by_cases b2 : t.idx ≤ 1099511627776
  case neg =>
    go_enter Tryz.func125, Tryz.ntmps125
    refine wp_seq_k (fun K hK => ?_)
    have HK := Lib.hid hK
    clear hK
    go_wp2
    refine HK.out _ _ ?_
    clear HK
    have hbw := blw w (Obj.cells #[.int .i64 t.rep, .int .i64 t.reg, .int .i64 t.pla, .int .i64 t.idx, .int .i64 t.inc] 33)
    have hcs := heap_alloc_new w (Obj.cells #[.int .i64 t.rep, .int .i64 t.reg, .int .i64 t.pla, .int .i64 t.idx, .int .i64 t.inc] 33)
    have c0 := under_cell (blk_cell hcs 0 _ rfl)
    have c1 := under_cell (blk_cell hcs 1 _ rfl)
    have c2 := under_cell (blk_cell hcs 2 _ rfl)
    have c3 := under_cell (blk_cell hcs 3 _ rfl)
    have c4 := under_cell (blk_cell hcs 4 _ rfl)
    clear hcs
    have hqs := hbw.size
    generalize w.alloc (Obj.cells #[.int .i64 t.rep, .int .i64 t.reg, .int .i64 t.pla, .int .i64 t.idx, .int .i64 t.inc] 33) = wq at *
    generalize w.heap.size = q at *
    refine wp_seq_k (fun K hK => ?_)
    have HK := Lib.hid hK
    clear hK
    refine wp_seq_k (fun K2 hK2 => ?_)
    have HK2 := Lib.hid hK2
    clear hK2
    refine wp_region_under (by kernel_rfl) (by kernel_rfl) ?_
    repeat (first | go_big_quiet_step ((first
      | (go_at_call 56; exact under_same (rplaces_any _ _)))) | ((with_reducible refine wpQuiet_skip ?_ ?_) ; (focus rfl); (try simp only [Act.put]); (try simp only [List.setIfInBounds_toArray]); (try simp only [List.set_cons_succ]); (try simp only [List.set_cons_zero])))
    refine wpQuiet_nil ?_
    intro _ hw'
    obtain ⟨xU, hw''⟩ := hw'
    subst hw''
    have hbU := under_below wq xU
    refine HK2.out _ _ ?_
    clear HK2
    have d3 := c3 xU
    have d4 := c4 xU
    clear c0 c1 c2 c3 c4
    go_wp2
    refine HK.out _ _ ?_
    clear HK
    go_wp2
    go_ret
    exact ⟨by first | rfl | (refine ret_bool ?_; simp; omega) | (refine ret_bool ?_; simp [b1, b2, b3]), hbw.trans (hbU.mono hqs)⟩
  by_cases b3 : 1 ≤ t.inc
  case neg =>
    go_enter Tryz.func125, Tryz.ntmps125
    refine wp_seq_k (fun K hK => ?_)
    have HK := Lib.hid hK
    clear hK
    go_wp2
    refine HK.out _ _ ?_
    clear HK
    have hbw := blw w (Obj.cells #[.int .i64 t.rep, .int .i64 t.reg, .int .i64 t.pla, .int .i64 t.idx, .int .i64 t.inc] 33)
    have hcs := heap_alloc_new w (Obj.cells #[.int .i64 t.rep, .int .i64 t.reg, .int .i64 t.pla, .int .i64 t.idx, .int .i64 t.inc] 33)
    have c0 := under_cell (blk_cell hcs 0 _ rfl)
    have c1 := under_cell (blk_cell hcs 1 _ rfl)
    have c2 := under_cell (blk_cell hcs 2 _ rfl)
    have c3 := under_cell (blk_cell hcs 3 _ rfl)
    have c4 := under_cell (blk_cell hcs 4 _ rfl)
    clear hcs
    have hqs := hbw.size
    generalize w.alloc (Obj.cells #[.int .i64 t.rep, .int .i64 t.reg, .int .i64 t.pla, .int .i64 t.idx, .int .i64 t.inc] 33) = wq at *
    generalize w.heap.size = q at *
    refine wp_seq_k (fun K hK => ?_)
    have HK := Lib.hid hK
    clear hK
    refine wp_seq_k (fun K2 hK2 => ?_)
    have HK2 := Lib.hid hK2
    clear hK2
    refine wp_region_under (by kernel_rfl) (by kernel_rfl) ?_
    repeat (first | go_big_quiet_step ((first
      | (go_at_call 56; exact under_same (rplaces_any _ _)))) | ((with_reducible refine wpQuiet_skip ?_ ?_) ; (focus rfl); (try simp only [Act.put]); (try simp only [List.setIfInBounds_toArray]); (try simp only [List.set_cons_succ]); (try simp only [List.set_cons_zero])))
    refine wpQuiet_nil ?_
    intro _ hw'
    obtain ⟨xU, hw''⟩ := hw'
    subst hw''
    have hbU := under_below wq xU
    refine HK2.out _ _ ?_
    clear HK2
    have d3 := c3 xU
    have d4 := c4 xU
    clear c0 c1 c2 c3 c4
    go_wp2
    refine HK.out _ _ ?_
    clear HK
    go_wp2
    go_ret
    exact ⟨by first | rfl | (refine ret_bool ?_; simp; omega) | (refine ret_bool ?_; simp [b1, b2, b3]), hbw.trans (hbU.mono hqs)⟩
  by_cases b4 : t.inc ≤ 1099511627776
  case neg =>
    go_enter Tryz.func125, Tryz.ntmps125
    refine wp_seq_k (fun K hK => ?_)
    have HK := Lib.hid hK
    clear hK
    go_wp2
    refine HK.out _ _ ?_
    clear HK
    have hbw := blw w (Obj.cells #[.int .i64 t.rep, .int .i64 t.reg, .int .i64 t.pla, .int .i64 t.idx, .int .i64 t.inc] 33)
    have hcs := heap_alloc_new w (Obj.cells #[.int .i64 t.rep, .int .i64 t.reg, .int .i64 t.pla, .int .i64 t.idx, .int .i64 t.inc] 33)
    have c0 := under_cell (blk_cell hcs 0 _ rfl)
    have c1 := under_cell (blk_cell hcs 1 _ rfl)
    have c2 := under_cell (blk_cell hcs 2 _ rfl)
    have c3 := under_cell (blk_cell hcs 3 _ rfl)
    have c4 := under_cell (blk_cell hcs 4 _ rfl)
    clear hcs
    have hqs := hbw.size
    generalize w.alloc (Obj.cells #[.int .i64 t.rep, .int .i64 t.reg, .int .i64 t.pla, .int .i64 t.idx, .int .i64 t.inc] 33) = wq at *
    generalize w.heap.size = q at *
    refine wp_seq_k (fun K hK => ?_)
    have HK := Lib.hid hK
    clear hK
    refine wp_seq_k (fun K2 hK2 => ?_)
    have HK2 := Lib.hid hK2
    clear hK2
    refine wp_region_under (by kernel_rfl) (by kernel_rfl) ?_
    repeat (first | go_big_quiet_step ((first
      | (go_at_call 56; exact under_same (rplaces_any _ _)))) | ((with_reducible refine wpQuiet_skip ?_ ?_) ; (focus rfl); (try simp only [Act.put]); (try simp only [List.setIfInBounds_toArray]); (try simp only [List.set_cons_succ]); (try simp only [List.set_cons_zero])))
    refine wpQuiet_nil ?_
    intro _ hw'
    obtain ⟨xU, hw''⟩ := hw'
    subst hw''
    have hbU := under_below wq xU
    refine HK2.out _ _ ?_
    clear HK2
    have d3 := c3 xU
    have d4 := c4 xU
    clear c0 c1 c2 c3 c4
    go_wp2
    refine HK.out _ _ ?_
    clear HK
    go_wp2
    go_ret
    exact ⟨by first | rfl | (refine ret_bool ?_; simp; omega) | (refine ret_bool ?_; simp [b1, b2, b3]), hbw.trans (hbU.mono hqs)⟩
  go_enter Tryz.func125, Tryz.ntmps125
  refine wp_seq_k (fun K hK => ?_)
  have HK := Lib.hid hK
  clear hK
  go_wp2
  refine HK.out _ _ ?_
  clear HK
  have hbw := blw w (Obj.cells #[.int .i64 t.rep, .int .i64 t.reg, .int .i64 t.pla, .int .i64 t.idx, .int .i64 t.inc] 33)
  have hcs := heap_alloc_new w (Obj.cells #[.int .i64 t.rep, .int .i64 t.reg, .int .i64 t.pla, .int .i64 t.idx, .int .i64 t.inc] 33)
  have c0 := under_cell (blk_cell hcs 0 _ rfl)
  have c1 := under_cell (blk_cell hcs 1 _ rfl)
  have c2 := under_cell (blk_cell hcs 2 _ rfl)
  have c3 := under_cell (blk_cell hcs 3 _ rfl)
  have c4 := under_cell (blk_cell hcs 4 _ rfl)
  clear hcs
  have hqs := hbw.size
  generalize w.alloc (Obj.cells #[.int .i64 t.rep, .int .i64 t.reg, .int .i64 t.pla, .int .i64 t.idx, .int .i64 t.inc] 33) = wq at *
  generalize w.heap.size = q at *
  refine wp_seq_k (fun K hK => ?_)
  have HK := Lib.hid hK
  clear hK
  refine wp_seq_k (fun K2 hK2 => ?_)
  have HK2 := Lib.hid hK2
  clear hK2
  refine wp_region_under (by kernel_rfl) (by kernel_rfl) ?_
  repeat (first | go_big_quiet_step ((first
    | (go_at_call 56; exact under_same (rplaces_any _ _)))) | ((with_reducible refine wpQuiet_skip ?_ ?_) ; (focus rfl); (try simp only [Act.put]); (try simp only [List.setIfInBounds_toArray]); (try simp only [List.set_cons_succ]); (try simp only [List.set_cons_zero])))
  refine wpQuiet_nil ?_
  intro _ hw'
  obtain ⟨xU, hw''⟩ := hw'
  subst hw''
  have hbU := under_below wq xU
  refine HK2.out _ _ ?_
  clear HK2
  have d3 := c3 xU
  have d4 := c4 xU
  clear c0 c1 c2 c3 c4
  go_wp2
  refine HK.out _ _ ?_
  clear HK
  go_wp2
  go_ret
  exact ⟨by first | rfl | (refine ret_bool ?_; simp; omega) | (refine ret_bool ?_; simp [b1, b2, b3]), hbw.trans (hbU.mono hqs)⟩
end Go.Proofs.YtddddemclhlfaaaGreatDoor
