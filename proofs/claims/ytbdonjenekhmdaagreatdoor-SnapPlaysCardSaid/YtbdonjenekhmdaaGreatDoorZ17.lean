/- Texts that the claim leans on, part 17: S10, U4, S11, U6, U5, S12, X22, S13. -/
import Derived.Test.YtbdonjenekhmdaaGreatDoorZ1
import Derived.Test.YtbdonjenekhmdaaGreatDoorZ2
import Derived.Test.YtbdonjenekhmdaaGreatDoorZ3
import Derived.Test.YtbdonjenekhmdaaGreatDoorZ4
import Derived.Test.YtbdonjenekhmdaaGreatDoorZ5
import Derived.Test.YtbdonjenekhmdaaGreatDoorZ6
import Derived.Test.YtbdonjenekhmdaaGreatDoorZ7
import Derived.Test.YtbdonjenekhmdaaGreatDoorZ8
import Derived.Test.YtbdonjenekhmdaaGreatDoorZ9
import Derived.Test.YtbdonjenekhmdaaGreatDoorZ10
import Derived.Test.YtbdonjenekhmdaaGreatDoorZ11
import Derived.Test.YtbdonjenekhmdaaGreatDoorZ12
import Derived.Test.YtbdonjenekhmdaaGreatDoorZ13
import Derived.Test.YtbdonjenekhmdaaGreatDoorZ14
import Derived.Test.YtbdonjenekhmdaaGreatDoorZ15
import Derived.Test.YtbdonjenekhmdaaGreatDoorZ16
import Derived.Test.YtbdonjenekhmdaaGreatDoorRows
import Derived.WalkKit
import Derived.WalkSpells
import Derived.WalkLawsBesides
import Derived.Handy
import Derived.Deep.QuietTactic
import Derived.BigQuiet
import Derived.Deep.DeepCutAuto
import Derived.Lib.Hide
import Derived.RegionTactic
import Derived.ChangeAlike
import Derived.Laws.ResultCell
import Derived.Outline
import Derived.IntWalk
import Derived.Lib.SliceRun
import Derived.Laws.MakeOwn
import Derived.Laws.OwnMore
import Derived.Laws.BitsAllLaws
import Derived.Laws.IdiomStrings
import Derived.Laws.BytesArg
import Derived.Carry
import Derived.Maps.Own
import Derived.Maps.Keyed
import Derived.RangeFuncNested
import Derived.RangeFuncBound
import Derived.RangeFuncCalls
import Derived.RangeFuncLeaves
import Derived.RangeFuncBox
import Derived.RangeFuncRecord
import Derived.Shelf.Abstract
import Derived.Shelf.RegionOpen
import Derived.OwnWalkIn
import Derived.TacticsInMore
import Derived.LoopNIn
import Derived.LoopIn
import Derived.OrdersIn
import Derived.OrdersHeld
import Derived.Maps.AppendAt
import Derived.Great.BuildSlice
import Derived.Great.FillDense
import Derived.Laws.Rows
import Derived.Deep.Quiet
import Derived.Deep.RegionHeld3
import Derived.ProofKit
import Derived.OpenShut
import Derived.Deep.RegionHeld
import Derived.Laws.CopyOwn
import Derived.Laws.CopyRow
import Derived.Laws.NewBlocks
import Derived.Deep.RegionLaw
namespace Go.Proofs.YtbdonjenekhmdaaGreatDoor
open Go.RowKit
def ERes (base : Nat) (r : List UInt8 × Int) (e : Ending) (w' : World) : Prop := ∃ a c, e = .returned (.tuple #[.slice a r.1.length c, .int .i64 r.2]) ∧ OwnS w' base a c r.1
theorem ERes.no (base : Nat) (w' : World) (x : Int) : ERes base ([], x) (.returned (.tuple #[.slice none 0 0, .int .i64 x])) w' := ⟨none, 0, rfl, OwnB.none _ _, Nat.le_refl _, by decide, fun _ => rfl⟩
section
variable {B g gp q : Nat} {wv : Value} {d : Dk} {w : World} {s : Sh}
theorem asked_ok {k : Int} (h : askedS d s k = 0) : 0 ≤ k ∧ k < s.cnt ∧ upD d = true := by
 unfold askedS at h
 split at h
 ·cases h
 ·split at h
  ·cases h
  ·rename_i h1 h2
   exact ⟨by omega, by omega, by cases hu : upD d <;> simp_all⟩
theorem asked_in {k : Int} (h1 : 0 ≤ k) (h2 : k < s.cnt) (h3 : upD d = true) : askedS d s k = 0 := by
 unfold askedS
 rw [if_neg (by omega), if_neg (by simp [h3])]
set_option maxRecDepth 100000 in
theorem schunk_any (h : ShB w q g s) (hd : DiskB B g gp wv d w) (hok : ShOk s) (k : Int) : Calls Tryz.prog 73 #[.pointer (some ⟨q, 0, none⟩), .int .i64 k] w fun e w' => ERes w.heap.size (chunkS d s k) e w' ∧ Below w.heap.size w w' := by
 have ha := sasked_any h hd k
 by_cases h0 : askedS d s k = 0
 case neg =>
  rw [show chunkS d s k = ([], askedS d s k) by unfold chunkS; rw [if_pos h0]]
  generalize askedS d s k = x at *
  have hn : (x != 0) = true := by rw [bne_iff_ne]; exact h0
  go_enter Tryz.func73, Tryz.ntmps73
  go_wp2_with (go_at_call 54; refine ha.mono ?_; rintro e w1 ⟨rfl, rfl⟩)
  go_ret2
  exact ⟨ERes.no _ _ _, Below.refl _ _⟩
 case pos =>
  obtain ⟨k1, k2, _⟩ := asked_ok h0
  have hr := sread_any h hd hok k ⟨k1, by have := hok.c; omega⟩
  have hch : chunkS d s k = if (readS d s k).2 = false then ([], 130) else ((readS d s k).1, 0) := by unfold chunkS; rw [if_neg (by simp [h0])]
  rw [hch]
  rw [h0] at ha
  clear hch h0 k1 k2
  obtain ⟨r1, r2, hrr⟩ : ∃ r1 r2, readS d s k = (r1, r2) := ⟨_, _, rfl⟩
  rw [hrr] at hr ⊢
  clear hrr
  cases r2
  ·rw [if_pos rfl]
   go_enter Tryz.func73, Tryz.ntmps73
   go_wp2_with (first
    | (go_at_call 54; refine ha.mono ?_; rintro e w1 ⟨rfl, rfl⟩)
    | (go_at_call 125; refine hr.mono ?_; rintro e w1 ⟨⟨a, c, rfl, hO⟩, hb1⟩))
   go_ret2
   exact ⟨ERes.no _ _ _, hb1⟩
  ·rw [if_neg (by simp)]
   go_enter Tryz.func73, Tryz.ntmps73
   go_wp2_with (first
    | (go_at_call 54; refine ha.mono ?_; rintro e w1 ⟨rfl, rfl⟩)
    | (go_at_call 125; refine hr.mono ?_; rintro e w1 ⟨⟨a, c, rfl, hO⟩, hb1⟩))
   go_ret2
   exact ⟨⟨a, c, rfl, hO⟩, hb1⟩
set_option maxRecDepth 100000 in
set_option maxHeartbeats 4000000 in
theorem sbytes_any (h : ShB w q g s) (hd : DiskB B g gp wv d w) (hok : ShOk s) : Calls Tryz.prog 71 #[.pointer (some ⟨q, 0, none⟩)] w fun e w' => ERes w.heap.size (bytesS d s) e w' ∧ Below w.heap.size w w' := by
 have c3 := h.c3
 have hu := up_any hd
 cases hup : upD d
 case false =>
  rw [show bytesS d s = ([], 5) by unfold bytesS; rw [if_pos hup]]
  rw [hup] at hu
  go_enter Tryz.func71, Tryz.ntmps71
  go_wp2_with (first
   | (go_at_call 41; refine (snone_any h).mono ?_; rintro e w1 ⟨rfl, rfl⟩)
   | (go_at_call 43; refine hu.mono ?_; rintro e w1 ⟨rfl, rfl⟩))
  go_ret2
  exact ⟨ERes.no _ _ _, Below.refl _ _⟩
 case true =>
  have hc := hok.c
  obtain ⟨n, hn⟩ : ∃ n : Nat, s.cnt = (n : Int) := ⟨s.cnt.toNat, by omega⟩
  have c2 := h.c2
  obtain ⟨r, hr⟩ : ∃ r, (if (List.range n).all (fun (k : Nat) => (readS d s k).2) = true then (allS d s n, (0 : Int)) else ([], 130)) = r := ⟨_, rfl⟩
  have hbr : bytesS d s = r := by
   rw [← hr]
   unfold bytesS
   rw [if_neg (by simp [hup]), hn, Int.toNat_natCast]
  rw [hbr]
  rw [hup] at hu
  rw [hn] at c2 hc
  have HR := Lib.hid hr
  have HCH := fun w (h : ShB w q g s) (hd : DiskB B g gp wv d w) (k : Nat) (hk : k < n) => schunk_any h hd hok (k : Int)
  have HCK : ∀ k : Nat, k < n → chunkS d s k = if (readS d s k).2 = false then ([], 130) else ((readS d s k).1, 0) := fun k hk => by
   unfold chunkS
   rw [if_neg (by simp [asked_in (d := d) (s := s) (k := (k : Int)) (by omega) (by omega) hup])]
  clear hbr hr hup hn
  go_enter Tryz.func71, Tryz.ntmps71
  refine seqH (fun K HK => ?_)
  go_wp2
  refine HK.out _ _ ?_
  clear HK
  refine seqH (fun K HK => ?_)
  go_wp2_with (first
     | (go_at_call 41; refine (snone_any h).mono ?_; rintro e w1 ⟨rfl, rfl⟩)
     | (go_at_call 43; refine hu.mono ?_; rintro e w1 ⟨rfl, rfl⟩))
  refine HK.out _ _ ?_
  clear HK
  refine seqH (fun K HK => ?_)
  go_wp2
  refine HK.out _ _ ?_
  clear HK
  refine seqH (fun K HK => ?_)
  go_wp2_with fail
  go_loopw [23, 4] (fun i o wr => ∃ (j : Nat) (v : Value), j ≤ n ∧ i = .int .i64 (j : Nat) ∧ o = v ∧ Hid (∀ t : Nat, t < j → (readS d s (t : Int)).2 = true) ∧ wr.ownsRow w.heap.size 5 1 v (allS d s j).length (bys (allS d s j)) ∧ Below w.heap.size w wr) (fun i _ _ => n - (intOf i).toNat)
  case atStart => exact ⟨0, _, by omega, rfl, rfl, Lib.hid (fun t ht => absurd ht (by omega)), World.ownsRow_nil _ _ _ _, Below.refl _ _⟩
  case round =>
   clear c2 c3 hu
   obtain ⟨j, v, hj, rfl, rfl, hall, hown, hbr⟩ := hrel
   by_cases hlt : j < n
   case neg =>
    obtain rfl : j = n := by omega
    have hrr : r = (allS d s j, 0) := by
     rw [← HR.out, if_pos]
     rw [List.all_eq_true]
     intro t ht
     exact hall.out t (List.mem_range.1 ht)
    clear HR hall HCH HCK
    subst hrr
    obtain ⟨a2, c2, rfl, hO⟩ := OwnS.of_owns hown
    go_wp2
    refine HK.out _ _ ?_
    clear HK
    go_wp2
    go_ret2
    exact ⟨⟨a2, c2, rfl, hO⟩, hbr⟩
   case pos =>
    have hch := HCH _ (h.below hbr) (hd.below hbr) j hlt
    rw [HCK j hlt] at hch
    have hI : (j : Int) < (n : Int) := by omega
    have hal := allS_len d s j
    have hrl := read_len2 d s (j : Int)
    have hsu := allS_succ d s j
    clear HCH HCK
    obtain ⟨r1, r2, hrr⟩ : ∃ r1 r2, readS d s (j : Int) = (r1, r2) := ⟨_, _, rfl⟩
    rw [hrr] at hch hrl hsu
    cases r2
    case false =>
     rw [if_pos rfl] at hch
     have hr2 : r = ([], 130) := by
      rw [← HR.out, if_neg]
      intro hh
      have := List.all_eq_true.1 hh j (List.mem_range.2 hlt)
      simp only [hrr] at this
      cases this
     clear HR hall HK hsu hrr
     subst hr2
     go_wp2_with (go_at_call 73; refine hch.mono ?_; rintro e w2 ⟨⟨a2, c2, rfl, hO⟩, hb2⟩)
     go_ret2
     exact ⟨ERes.no _ _ _, hbr.trans (hb2.mono hbr.size)⟩
    case true =>
     rw [if_neg (by simp)] at hch
     simp only at hsu hrl
     have hall2 : Hid (∀ t : Nat, t < j + 1 → (readS d s (t : Int)).2 = true) := Lib.hid (fun t ht => by
      by_cases htj : t < j
      ·exact hall.out t htj
      ·obtain rfl : t = j := by omega
       rw [hrr])
     have HS := Lib.hid hsu
     clear hsu hrr hall HR
     generalize allS d s j = al at *
     go_wp2_with (first
      | (go_at_call 73; refine hch.mono ?_; rintro e w2 ⟨⟨a2, c2, rfl, hO⟩, hb2⟩; have o2 := owns_bl hown hb2; have hb3 := hbr.trans (hb2.mono hbr.size))
      | (at_builtin; refine wpList_append_row rfl _ _ 37 5 elByte rfl w.heap.size _ al.length (bys al) rfl o2 a2 r1.length c2 (bys r1) rfl (by rw [bys_len]; omega) hO.slb.row bys_one (by omega) (by decide) hb3.size ?_; intro v6 w6 ho6 hb6))
     go_roundw
     case rel => exact ⟨j + 1, _, by omega, by go_num, rfl, hall2, by rw [HS.out, List.length_append, bys_app]; exact ho6, hb3.trans hb6⟩
     case measure => simp [intOf]; omega
end
end Go.Proofs.YtbdonjenekhmdaaGreatDoor
namespace Go.Proofs.YtbdonjenekhmdaaGreatDoor
open Go.RowKit
def EResR (r : List UInt8 × Int) (e : Ending) (w' : World) : Prop := ∃ a c, e = .returned (.tuple #[.slice a r.1.length c, .int .i64 r.2]) ∧ SlB w' a c r.1
theorem EResR.no (w' : World) (x : Int) : EResR ([], x) (.returned (.tuple #[.slice none 0 0, .int .i64 x])) w' := ⟨none, 0, rfl, slb_nil _⟩
section
variable {B g q : Nat} {qq : RQ} {d : Dk} {w : World} {s : Sh}
set_option maxRecDepth 100000 in
set_option maxHeartbeats 4000000 in
theorem rhurt13_any (h : ShR w q g s) (R : RefB B g qq d w) (hok : ShOk s) : Calls Tryz.prog 70 #[.pointer (some ⟨q, 0, none⟩)] w fun e w' => (∃ a c, e = .returned (.slice a (hurtS d s s.cnt.toNat).length c) ∧ Row w' a ((hurtS d s s.cnt.toNat).map (Value.int .i64))) ∧ Below w.heap.size w w' := by
 have hc := hok.c
 obtain ⟨n, hn⟩ : ∃ n : Nat, s.cnt = (n : Int) := ⟨s.cnt.toNat, by omega⟩
 have HC := fun (w' : World) (hb : Below w.heap.size w w') => (h.below hb).c5
 simp only [hn] at HC
 rw [hn] at hc
 rw [hn, Int.toNat_natCast]
 clear hn
 go_enter Tryz.func70, Tryz.ntmps70
 refine seqH (fun K HK => ?_)
 go_wp2
 refine HK.out _ _ ?_
 clear HK
 refine seqH (fun K HK => ?_)
 go_wp2
 refine HK.out _ _ ?_
 clear HK
 refine seqH (fun K HK => ?_)
 go_wp2_with fail
 go_loopw [4, 3] (fun i o wr => ∃ (j : Nat) (v : Value), j ≤ n ∧ i = .int .i64 (j : Nat) ∧ o = v ∧ wr.ownsRow w.heap.size 3 1 v (hurtS d s j).length ((hurtS d s j).map (Value.int .i64)) ∧ Below w.heap.size w wr) (fun i _ _ => n - (intOf i).toNat)
 case atStart => exact ⟨0, _, by omega, rfl, rfl, World.ownsRow_nil _ _ _ _, Below.refl _ _⟩
 case round =>
  obtain ⟨j, v, hj, rfl, rfl, hown, hbr⟩ := hrel
  have c5 := HC _ hbr
  by_cases hlt : j < n
  case neg =>
   obtain rfl : j = n := by omega
   obtain ⟨a2, c2, rfl, hrw, _⟩ := Row.of_owns hown
   go_wp2
   refine HK.out _ _ ?_
   clear HK
   go_wp2
   go_ret
   exact ⟨⟨a2, c2, rfl, hrw⟩, hbr⟩
  case pos =>
   have hrd := rread13_any (h.below hbr) (R.below hbr) hok (j : Int) (by omega)
   have hI : (j : Int) < (n : Int) := by omega
   have hlen := hurtS_len d s j
   obtain ⟨r1, r2, hrb⟩ : ∃ r1 r2, readS d s (j : Int) = (r1, r2) := ⟨_, _, rfl⟩
   rw [hrb] at hrd
   cases r2
   case true =>
    have HS := Lib.hid (hurtS_no (d := d) (s := s) (n := j) (by rw [hrb]))
    clear hrb
    go_wp2_with (go_at_call 58; refine hrd.mono ?_; rintro e w2 ⟨⟨a2, c2, l2, rfl, -, -⟩, hb2⟩)
    go_roundw
    case rel => exact ⟨j + 1, _, by omega, by go_num, rfl, by rw [HS.out]; exact owns_bl hown hb2, hbr.trans (hb2.mono hbr.size)⟩
    case measure => simp [intOf]; omega
   case false =>
    have HS := Lib.hid (hurtS_yes (d := d) (s := s) (n := j) (by rw [hrb]))
    clear hrb
    generalize hurtS d s j = hu at *
    go_wp2_with (first
     | (go_at_call 58; refine hrd.mono ?_; rintro e w2 ⟨⟨a2, c2, l2, rfl, -, -⟩, hb2⟩; have o2 := owns_bl hown hb2; have hb3 := hbr.trans (hb2.mono hbr.size))
     | (at_builtin; refine wpList_append1 rfl _ _ 136 3 elInt rfl w.heap.size _ hu.length _ rfl o2 #[.int .i64 (j : Int)] rfl (by simp; rfl) _ rfl (by omega) (by decide) hb3.size ?_; intro v4 w4 ho4 hb4 _))
    go_roundw
    case rel => exact ⟨j + 1, _, by omega, by go_num, rfl, by rw [HS.out, List.length_append, List.map_append]; exact ho4, hb3.trans hb4⟩
    case measure => simp [intOf]; omega
set_option maxRecDepth 100000 in
theorem rchunk13_any (h : ShR w q g s) (R : RefB B g qq d w) (hok : ShOk s) (k : Int) : Calls Tryz.prog 74 #[.pointer (some ⟨q, 0, none⟩), .int .i64 k] w fun e w' => EResR (chunkS d s k) e w' ∧ Below w.heap.size w w' := by
 have c5 := h.c5
 have hdn := rdown_any h R
 by_cases h1 : k < 0 ∨ s.cnt ≤ k
 ·rw [show chunkS d s k = ([], 2) by unfold chunkS askedS; rw [if_pos h1, if_pos (by simp)]]
  rcases h1 with h1 | h1
  ·skip
   go_enter Tryz.func74, Tryz.ntmps74
   go_wp2
   go_ret2
   exact ⟨EResR.no _ _, Below.refl _ _⟩
  ·by_cases h0 : k < 0
   ·skip
    go_enter Tryz.func74, Tryz.ntmps74
    go_wp2
    go_ret2
    exact ⟨EResR.no _ _, Below.refl _ _⟩
   ·skip
    go_enter Tryz.func74, Tryz.ntmps74
    go_wp2
    go_ret2
    exact ⟨EResR.no _ _, Below.refl _ _⟩
 have i1 : ¬ k < 0 := by omega
 have i2 : ¬ s.cnt ≤ k := by omega
 cases hu : upD d
 case false =>
  rw [show chunkS d s k = ([], 5) by unfold chunkS askedS; rw [if_neg h1, if_pos hu, if_pos (by simp)]]
  rw [hu] at hdn
  clear hu h1
  go_enter Tryz.func74, Tryz.ntmps74
  go_wp2_with (go_at_call 49; refine hdn.mono ?_; rintro e w1 ⟨rfl, rfl⟩)
  go_ret2
  exact ⟨EResR.no _ _, Below.refl _ _⟩
 case true =>
  have hrd := rread13_any h R hok k ⟨by omega, by have := hok.c; omega⟩
  have hch : chunkS d s k = if (readS d s k).2 = false then ([], 130) else ((readS d s k).1, 0) := by
   have h0 : askedS d s k = 0 := asked_in (by omega) (by omega) hu
   unfold chunkS
   rw [if_neg (by simp [h0])]
  rw [hch]
  rw [hu] at hdn
  clear hch hu h1
  obtain ⟨r1, r2, hrr⟩ : ∃ r1 r2, readS d s k = (r1, r2) := ⟨_, _, rfl⟩
  rw [hrr] at hrd ⊢
  clear hrr
  cases r2
  ·rw [if_pos rfl]
   go_enter Tryz.func74, Tryz.ntmps74
   go_wp2_with (first
    | (go_at_call 49; refine hdn.mono ?_; rintro e w1 ⟨rfl, rfl⟩)
    | (go_at_call 58; refine hrd.mono ?_; rintro e w1 ⟨⟨a, c, l, rfl, -, -⟩, hb1⟩))
   go_ret2
   exact ⟨EResR.no _ _, hb1⟩
  ·rw [if_neg (by simp)]
   go_enter Tryz.func74, Tryz.ntmps74
   go_wp2_with (first
    | (go_at_call 49; refine hdn.mono ?_; rintro e w1 ⟨rfl, rfl⟩)
    | (go_at_call 58; refine hrd.mono ?_; rintro e w1 ⟨⟨a, c, l, rfl, hO, hl⟩, hb1⟩; have hl := hl rfl; subst hl))
   go_ret2
   exact ⟨⟨a, c, rfl, hO⟩, hb1⟩
set_option maxRecDepth 100000 in
set_option maxHeartbeats 4000000 in
theorem rbytes13_any (h : ShR w q g s) (R : RefB B g qq d w) (hok : ShOk s) : Calls Tryz.prog 72 #[.pointer (some ⟨q, 0, none⟩)] w fun e w' => EResR (bytesS d s) e w' ∧ Below w.heap.size w w' := by
 have hdn := rdown_any h R
 cases hup : upD d
 case false =>
  rw [show bytesS d s = ([], 5) by unfold bytesS; rw [if_pos hup]]
  rw [hup] at hdn
  clear hup
  go_enter Tryz.func72, Tryz.ntmps72
  go_wp2_with (go_at_call 49; refine hdn.mono ?_; rintro e w1 ⟨rfl, rfl⟩)
  go_ret2
  exact ⟨EResR.no _ _, Below.refl _ _⟩
 case true =>
  have hc := hok.c
  obtain ⟨n, hn⟩ : ∃ n : Nat, s.cnt = (n : Int) := ⟨s.cnt.toNat, by omega⟩
  have HC := fun (w' : World) (hb : Below w.heap.size w w') => (h.below hb).c5
  simp only [hn] at HC
  obtain ⟨r, hr⟩ : ∃ r, (if (List.range n).all (fun (k : Nat) => (readS d s k).2) = true then (allS d s n, (0 : Int)) else ([], 130)) = r := ⟨_, rfl⟩
  have hbr : bytesS d s = r := by
   rw [← hr]
   unfold bytesS
   rw [if_neg (by simp [hup]), hn, Int.toNat_natCast]
  rw [hbr]
  rw [hup] at hdn
  rw [hn] at hc
  have HR := Lib.hid hr
  clear hbr hr hup hn
  go_enter Tryz.func72, Tryz.ntmps72
  refine seqH (fun K HK => ?_)
  go_wp2
  refine HK.out _ _ ?_
  clear HK
  refine seqH (fun K HK => ?_)
  go_wp2_with (go_at_call 49; refine hdn.mono ?_; rintro e w1 ⟨rfl, rfl⟩)
  refine HK.out _ _ ?_
  clear HK
  refine seqH (fun K HK => ?_)
  go_wp2
  refine HK.out _ _ ?_
  clear HK
  refine seqH (fun K HK => ?_)
  go_wp2_with fail
  go_loopw [5, 4] (fun i o wr => ∃ (j : Nat) (v : Value), j ≤ n ∧ i = .int .i64 (j : Nat) ∧ o = v ∧ Hid (∀ t : Nat, t < j → (readS d s (t : Int)).2 = true) ∧ wr.ownsRow w.heap.size 5 1 v (allS d s j).length (bys (allS d s j)) ∧ Below w.heap.size w wr) (fun i _ _ => n - (intOf i).toNat)
  case atStart => exact ⟨0, _, by omega, rfl, rfl, Lib.hid (fun t ht => absurd ht (by omega)), World.ownsRow_nil _ _ _ _, Below.refl _ _⟩
  case round =>
   clear hdn
   obtain ⟨j, v, hj, rfl, rfl, hall, hown, hbr⟩ := hrel
   have c5 := HC _ hbr
   by_cases hlt : j < n
   case neg =>
    obtain rfl : j = n := by omega
    have hrr : r = (allS d s j, 0) := by
     rw [← HR.out, if_pos]
     rw [List.all_eq_true]
     intro t ht
     exact hall.out t (List.mem_range.1 ht)
    clear HR hall
    subst hrr
    obtain ⟨a2, c2, rfl, hO⟩ := OwnS.of_owns hown
    go_wp2
    refine HK.out _ _ ?_
    clear HK
    go_wp2
    go_ret2
    exact ⟨⟨a2, c2, rfl, hO.slb⟩, hbr⟩
   case pos =>
    have hrd := rread13_any (h.below hbr) (R.below hbr) hok (j : Int) (by omega)
    have hI : (j : Int) < (n : Int) := by omega
    have hal := allS_len d s j
    have hrl := read_len2 d s (j : Int)
    have hsu := allS_succ d s j
    obtain ⟨r1, r2, hrr⟩ : ∃ r1 r2, readS d s (j : Int) = (r1, r2) := ⟨_, _, rfl⟩
    rw [hrr] at hrd hrl hsu
    cases r2
    case false =>
     have hr2 : r = ([], 130) := by
      rw [← HR.out, if_neg]
      intro hh
      have := List.all_eq_true.1 hh j (List.mem_range.2 hlt)
      simp only [hrr] at this
      cases this
     clear HR hall HK hsu hrr
     subst hr2
     go_wp2_with (go_at_call 58; refine hrd.mono ?_; rintro e w2 ⟨⟨a2, c2, l2, rfl, -, -⟩, hb2⟩)
     go_ret2
     exact ⟨EResR.no _ _, hbr.trans (hb2.mono hbr.size)⟩
    case true =>
     simp only at hsu hrl
     have hall2 : Hid (∀ t : Nat, t < j + 1 → (readS d s (t : Int)).2 = true) := Lib.hid (fun t ht => by
      by_cases htj : t < j
      ·exact hall.out t htj
      ·obtain rfl : t = j := by omega
       rw [hrr])
     have HS := Lib.hid hsu
     clear hsu hrr hall HR
     generalize allS d s j = al at *
     go_wp2_with (first
      | (go_at_call 58; refine hrd.mono ?_; rintro e w2 ⟨⟨a2, c2, l2, rfl, hO, hl⟩, hb2⟩; have hl : l2 = r1 := hl rfl; subst hl; have o2 := owns_bl hown hb2; have hb3 := hbr.trans (hb2.mono hbr.size))
      | (at_builtin; refine wpList_append_row rfl _ _ 37 5 elByte rfl w.heap.size _ al.length (bys al) rfl o2 a2 l2.length c2 (bys l2) rfl (by rw [bys_len]; omega) hO.row bys_one (by omega) (by decide) hb3.size ?_; intro v6 w6 ho6 hb6))
     go_roundw
     case rel => exact ⟨j + 1, _, by omega, by go_num, rfl, hall2, by rw [HS.out, List.length_append, bys_app]; exact ho6, hb3.trans hb6⟩
     case measure => simp [intOf]; omega
end
end Go.Proofs.YtbdonjenekhmdaaGreatDoor
namespace Go.Proofs.YtbdonjenekhmdaaGreatDoor
open Go.RowKit
def Does2 (B g gp : Nat) (w : World) (r : Dk × Int) (e : Ending) (w' : World) : Prop := e = .returned (.int .i64 r.2) ∧ (∃ wv', DiskB B g gp wv' r.1 w') ∧ Kt B w w'
theorem Does2.of {B g gp : Nat} {w w' : World} {r : Dk × Int} {d : Dk} {x : Int} (hr : r = (d, x)) (hd : ∃ wv', DiskB B g gp wv' d w') (hk : Kt B w w') : Does2 B g gp w r (.returned (.int .i64 x)) w' := by
 subst hr
 exact ⟨rfl, hd, hk⟩
structure Alike (s m : Sh) : Prop where
 ok : ShOk m
 c : 1 ≤ m.cnt
 r : m.rep = s.rep
 i : m.inc = s.inc
section
variable {B g gp q : Nat} {wv : Value} {d : Dk} {w : World} {s m : Sh}
set_option maxRecDepth 100000 in
set_option maxHeartbeats 8000000 in
theorem sput_any (h : ShB w q g s) (hd : DiskB B g gp wv d w) (hb : B ≤ w.heap.size) (hm : Alike s m) (k : Int) (hk : 0 ≤ k ∧ k < 8) (a : Option Addr) (cap : Nat) (c : List UInt8) (hs : SlB w a cap c) (hc : c.length ≤ 80) (hw : d.waits.length ≤ 1000) :
  Calls Tryz.prog 44 #[.pointer (some ⟨q, 0, none⟩), .agg #[.int .i64 m.idx, .int .i64 m.area, .int .i64 m.cnt], .int .i64 k, .slice a c.length cap] w (Does2 B g gp w (putS d m k c)) := by
 have hbw := blw w (Obj.cells #[.int .i64 m.idx, .int .i64 m.area, .int .i64 m.cnt] 99)
 have B0 := heap_alloc_new w (Obj.cells #[.int .i64 m.idx, .int .i64 m.area, .int .i64 m.cnt] 99)
 have D0 := hd.below hbw
 have S0 := h.below hbw
 have s0 := hs.below hbw
 have ha := hm.ok.a
 have hc8 := hm.ok.c
 have hp : 0 ≤ plaS m k ∧ plaS m k < 16 := by unfold plaS; omega
 have hf := first5 hp
 obtain ⟨r, hr⟩ : ∃ r, putS d m k c = r := ⟨_, rfl⟩
 rw [hr]
 obtain ⟨q0, q1, q2⟩ := man_cells B0
 have hkp := kprint_any m.cnt hm.c hc8.2 a cap c hc (w.alloc (Obj.cells #[.int .i64 m.idx, .int .i64 m.area, .int .i64 m.cnt] 99)) s0
 go_enter Tryz.func44, Tryz.ntmps44
 refine seqH (fun K HK => ?_)
 go_wp2
 refine HK.out _ _ ?_
 clear HK
 generalize hw0 : w.alloc (Obj.cells #[.int .i64 m.idx, .int .i64 m.area, .int .i64 m.cnt] 99) = w0 at *
 clear hw0
 refine wp_scope_straight ?_
 refine seqH (fun K HK => ?_)
 go_wp2_with (go_at_call 109; refine hkp.mono ?_; rintro e w2 ⟨⟨v2, rfl, o2⟩, hb2⟩)
 refine HK.out _ _ ?_
 clear HK
 have B2 := tr_bl hb2 B0
 obtain ⟨r0, r1, r2⟩ := man_cells B2
 have hpl : plaS m k = 8 * m.area + k := rfl
 refine seqH (fun K HK => ?_)
 go_wp2
 refine HK.out _ _ ?_
 clear HK
 rw [← hpl]
 obtain ⟨p, hpp⟩ : ∃ p, plaS m k = p := ⟨_, rfl⟩
 rw [hpp] at hf hp ⊢
 obtain ⟨f, hff⟩ : ∃ f, firstN 5 p = f := ⟨_, rfl⟩
 rw [hff] at hf
 have hfb : 0 ≤ f ∧ f < 200 := by omega
 have HF := Lib.hid hff
 have HPP := Lib.hid hpp
 clear hf hff hpl hpp q0 q1 q2 r0 r1 r2 hkp s0 hs
 have hb3 := hbw.trans (hb2.mono hbw.size)
 have D2 := D0.below hb2
 have S2 := S0.below hb2
 clear hb2 B0 D0 S0 hbw hd h
 obtain ⟨a2, c2, rfl, hO2⟩ := OwnS.of_owns o2
 clear o2
 refine seqH (fun K HK => ?_)
 go_wp2_with fail
 have hbd := (Below.refl w2.heap.size w2).drew
 have D3 := D2.below hbd
 have S3 := S2.below hbd
 have B3 := tr_bl hbd B2
 have O3 := hO2.below hbd
 have hb4 := hb3.trans (hbd.mono hb3.size)
 refine wp_region_held_drew (S := fun w' => ShB w' q g s ∧ w'.heap[w.heap.size]? = some (Obj.cells #[.int .i64 m.idx, .int .i64 m.area, .int .i64 m.cnt] 99)) (by kernel_rfl) ⟨S3, B3⟩ (fun hS0 => ?_)
 clear hbd D2 S2 B2 hO2 hb3
 generalize w2.drew = x0 at *
 refine tkT 0 rfl (by intro wS hSw; go_simp; (try with_reducible rfl)) ?_
 refine tkT 1 rfl (by intro wS hSw; go_simp; (try with_reducible rfl)) ?_
 refine tkT 2 rfl (by intro wS hSw; go_simp; (try with_reducible rfl)) ?_
 refine tkT 3 rfl (by intro wS hSw; have c := hSw.1.c4; go_simp; (try with_reducible rfl)) ?_
 refine tkT 4 rfl (by intro wS hSw; go_simp; (try with_reducible rfl)) ?_
 refine tkT 5 rfl (by intro wS hSw; go_simp; (try with_reducible rfl)) ?_
 refine tkT 6 rfl (by intro wS hSw; have c := (man_cells hSw.2).1; go_simp; (try with_reducible rfl)) ?_
 refine tkT 7 rfl (by intro wS hSw; go_simp; (try with_reducible rfl)) ?_
 refine tkT 8 rfl (by intro wS hSw; go_simp; (try with_reducible rfl)) ?_
 refine tkT 9 rfl (by intro wS hSw; go_simp; (try with_reducible rfl)) ?_
 refine tkT 10 rfl (by intro wS hSw; have c := hSw.1.c5; go_simp; (try with_reducible rfl)) ?_
 refine tkT 11 rfl (by intro wS hSw; go_simp; (try with_reducible rfl)) ?_
 refine tkT 12 rfl (by intro wS hSw; go_simp; (try with_reducible rfl)) ?_
 refine rdy1 13 rfl (fun K' hK' => ?_)
 go_simp
 refine (wide_any 5 _).mono ?_
 rintro e w4 ⟨rfl, hb5⟩
 have D4 := D3.below hb5
 have S4 := S3.below hb5
 have B4 := tr_bl hb5 B3
 have O4 := O3.below hb5
 have hb6 := hb4.trans (hb5.mono hb4.size)
 refine hK'.out _ _ ⟨S4, B4⟩ (fun _ => ?_)
 clear hK' D3 S3 B3 O3 hb4 hb5
 (try simp only [Act.put]); (try simp only [List.setIfInBounds_toArray]); (try simp only [List.set_cons_succ]); (try simp only [List.set_cons_zero])
 refine rdy1 14 rfl (fun K' hK' => ?_)
 go_simp
 have htg : tgV (tagS m k) = .agg #[.int .i64 s.rep, .int .i64 5, .int .i64 p, .int .i64 m.idx, .int .i64 s.inc] := by
  unfold tgV tagS
  rw [HPP.out, hm.r, hm.i]
 have hse := seal2 (tagS m k) a2 c2 (ckB m.cnt c) w4 O4.slb (tagS_may hm.ok hk) (by unfold ckB; rw [List.length_cons]; omega)
 rw [htg] at hse
 refine hse.mono ?_
 rintro e w5 ⟨⟨G, rfl, hG, F5⟩, hb7⟩
 have D5 := D4.below hb7
 have S5 := S4.below hb7
 have B5 := tr_bl hb7 B4
 have hb8 := hb6.trans (hb7.mono hb6.size)
 have hwG : w.heap.size ≤ G := Nat.le_trans hb6.size hG
 refine hK'.out _ _ ⟨S5, B5⟩ (fun _ => ?_)
 clear hK' D4 S4 B4 O4 hb6 hb7 hse htg
 (try simp only [Act.put]); (try simp only [List.setIfInBounds_toArray]); (try simp only [List.set_cons_succ]); (try simp only [List.set_cons_zero])
 refine tkT 15 rfl (by intro wS hSw; go_simp; (try with_reducible rfl)) ?_
 refine tkT 16 rfl (by intro wS hSw; go_simp; (try with_reducible rfl)) ?_
 refine tkT 17 rfl (by intro wS hSw; go_simp; (try with_reducible rfl)) ?_
 refine tkT 18 rfl (by intro wS hSw; go_simp; (try with_reducible rfl)) ?_
 refine tkT 19 rfl (by intro wS hSw; go_simp; (try with_reducible rfl)) ?_
 refine wpAnyH_done (by kernel_rfl) ?_ _
 refine HK.out _ _ ?_
 clear HK
 have hfl : (frmS m k c).length = 128 := frmS_len hc
 have O5 : OwnB w5 w.heap.size (some ⟨G, 0, none⟩) 128 (frmS m k c) := .inr ⟨G, [], rfl, hwG, by omega, by unfold maxLen; omega, by rw [List.append_nil]; exact F5⟩
 have k5 := Kt.of hb8 hb
 clear F5 B5 hG
 have hr0 : r = if (writeD d f (pcD (frmS m k c) 0)).2 ≠ 0 then writeD d f (pcD (frmS m k c) 0) else writeD (writeD d f (pcD (frmS m k c) 0)).1 (f + 1) (pcD (frmS m k c) 1) := by
  rw [← hr]
  unfold putS
  rw [HPP.out, HF.out]
 clear hr
 generalize frmS m k c = fr at *
 refine seqH (fun K HK => ?_)
 go_wp2
 refine HK.out _ _ ?_
 clear HK
 refine seqH (fun K HK => ?_)
 refine wp_label ?_
 refine HK.out _ _ ?_
 clear HK
 refine seqH (fun K HK => ?_)
 go_wp2_with (go_at_call 111; refine (wide_any 5 _).mono ?_; rintro e w6 ⟨rfl, hb9⟩; have D6 := D5.below hb9; have S6 := S5.below hb9; have O6 := O5.below hb9; have k6 := k5.trans (Kt.of hb9 (Nat.le_trans hb hb8.size)))
 rw [show wideN 5 = 2 from rfl]
 clear D5 S5 O5 k5 hb8 hb9
 have hp0 : (pcD fr 0).length = 64 := by unfold pcD; rw [List.length_take, List.length_drop]; omega
 have hp1 : (pcD fr 1).length = 64 := by unfold pcD; rw [List.length_take, List.length_drop]; omega
 have hw1 := (write_pl d f (pcD fr 0)).2
 obtain ⟨d1, e1, hd1⟩ : ∃ d1 e1, writeD d f (pcD fr 0) = (d1, e1) := ⟨_, _, rfl⟩
 rw [hd1] at hr0 hw1
 simp only at hr0 hw1
 obtain ⟨d2, e2, hd2⟩ : ∃ d2 e2, writeD d1 (f + 1) (pcD fr 1) = (d2, e2) := ⟨_, _, rfl⟩
 rw [hd2] at hr0
 have HW0 := fun w' (D : DiskB B g gp wv d w') hB O => write_any D hB f (some ⟨G, 0, none⟩) 128 (pcD fr 0) O (by omega)
 have HW1 := fun w' wv' (D : DiskB B g gp wv' d1 w') hB O => write_any D hB (f + 1) (some ⟨G, 64, none⟩) 64 (pcD fr 1) O (by omega)
 simp only [hd1, hp0] at HW0
 simp only [hd2, hp1] at HW1
 have HR := Lib.hid hr0
 have HFL := Lib.hid hfl
 have HP0 := Lib.hid hp0
 have HP1 := Lib.hid hp1
 clear hr0 hfl hp0 hp1 hd1 hd2 hw1
 go_loopw [49, 13] (fun i o wr => ∃ j : Nat, j ≤ 2 ∧ i = .int .i64 (j : Nat) ∧ o = .int .i64 0 ∧ ((j = 0 ∧ DiskB B g gp wv d wr) ∨ (j = 1 ∧ e1 = 0 ∧ ∃ wv', DiskB B g gp wv' d1 wr) ∨ (j = 2 ∧ e1 = 0 ∧ e2 = 0 ∧ ∃ wv', DiskB B g gp wv' d2 wr)) ∧ ShB wr q g s ∧ OwnB wr w.heap.size (some ⟨G, 0, none⟩) 128 fr ∧ Kt B w wr) (fun i _ _ => 2 - (intOf i).toNat)
 case atStart => exact ⟨0, by omega, rfl, rfl, .inl ⟨rfl, D6⟩, S6, O6, k6⟩
 case round =>
  clear D6 S6 O6 k6
  obtain ⟨j, hj, rfl, rfl, hst, S7, O7, k7⟩ := hrel
  rcases hst with ⟨rfl, D7⟩ | ⟨rfl, rfl, wv7, D7⟩ | ⟨rfl, rfl, rfl, wv7, D7⟩
  ·skip
   have hB7 := Nat.le_trans hb k7.bl.size
   refine seqH (fun K HK => ?_)
   go_wp2
   refine HK.out _ _ ?_
   clear HK
   refine seqH (fun K HK => ?_)
   go_wp2
   refine HK.out _ _ ?_
   clear HK
   refine seqH (fun K HK2 => ?_)
   refine wp_block ?_
   refine seqH (fun K HK => ?_)
   go_wp2
   refine HK.out _ _ ?_
   clear HK
   refine seqH (fun K HK3 => ?_)
   go_wp2_with fail
   have hbd := (Below.refl wr.heap.size wr).drew
   have D8 := D7.below hbd
   have S8 := S7.below hbd
   have O8 := O7.below hbd
   have k8 := k7.trans (Kt.of hbd hB7)
   have hB8 := Nat.le_trans hB7 hbd.size
   refine wp_region_held_drew (S := fun w' => ShB w' q g s) (by kernel_rfl) S8 (fun hS0 => ?_)
   clear hbd D7 S7 O7 k7 hB7
   generalize wr.drew = x1 at *
   refine tkT 0 rfl (by intro wS hSw; go_simp; (try with_reducible rfl)) ?_
   refine tkT 1 rfl (by intro wS hSw; go_simp; (try with_reducible rfl)) ?_
   refine tkT 2 rfl (by intro wS hSw; go_simp; (try with_reducible rfl)) ?_
   refine tkT 3 rfl (by intro wS hSw; have c := hSw.c3; go_simp; (try with_reducible rfl)) ?_
   refine tkT 4 rfl (by intro wS hSw; go_simp; (try with_reducible rfl)) ?_
   refine tkT 6 rfl (by intro wS hSw; go_simp; (try with_reducible rfl)) ?_
   refine tkT 8 rfl (by intro wS hSw; go_simp; (try with_reducible rfl)) ?_
   refine tkT 9 rfl (by intro wS hSw; go_simp; (try with_reducible rfl)) ?_
   refine tkT 10 (v := .int .i64 0) rfl (by intro wS hSw; go_simp; (try rfl)) ?_
   refine tkT 11 rfl (by intro wS hSw; go_simp; (try with_reducible rfl)) ?_
   refine tkT 12 (v := .int .i64 (0 + 1)) rfl (by intro wS hSw; go_simp; (try rfl)) ?_
   refine tkT 13 (v := .int .i64 (0 + 64)) rfl (by intro wS hSw; go_simp; (try rfl)) ?_
   refine tkT 14 (v := .slice (some ⟨G, 0, none⟩) 64 128) rfl (by intro wS hSw; go_simp; (try rfl)) ?_
   refine rdy1 5 rfl (fun K' hK' => ?_)
   go_simp
   refine (first_any 5 p _).mono ?_
   rintro e w10 ⟨rfl, hb10⟩
   rw [HF.out]
   have D10 := D8.below hb10
   have S10 := S8.below hb10
   have O10 := O8.below hb10
   have k10 := k8.trans (Kt.of hb10 hB8)
   have hB10 := Nat.le_trans hB8 hb10.size
   refine hK'.out _ _ S10 (fun _ => ?_)
   clear hK' D8 S8 O8 k8 hB8 hb10
   (try simp only [Act.put]); (try simp only [List.setIfInBounds_toArray]); (try simp only [List.set_cons_succ]); (try simp only [List.set_cons_zero])
   refine tkT 7 (v := .int .i64 (f)) rfl (by intro wS hSw; go_simp; (try rw [IntWalk.i64_in _ (by omega)])) ?_
   refine rdy1 15 rfl (fun K' hK' => ?_)
   go_simp
   refine (HW0 w10 D10 hB10 (fun w' hk => by have := (O10.kt hk).slb.sub 0 64 (by omega); exact ⟨this.row, by have := HP0.out; omega, by unfold maxLen; omega, fun e => by cases e⟩)).mono ?_
   rintro e w11 ⟨rfl, ⟨wv11, D11⟩, hk11⟩
   have S11 := S10.kt hk11
   have O11 := O10.kt hk11
   have k11 := k10.trans hk11
   refine hK'.out _ _ S11 (fun _ => ?_)
   clear hK' D10 S10 O10 k10 hB10 hk11
   (try simp only [Act.put]); (try simp only [List.setIfInBounds_toArray]); (try simp only [List.set_cons_succ]); (try simp only [List.set_cons_zero])
   refine tkT 16 rfl (by intro wS hSw; go_simp; (try with_reducible rfl)) ?_
   refine wpAnyH_done (by kernel_rfl) ?_ _
   refine HK3.out _ _ ?_
   clear HK3
   by_cases h0 : e1 = 0
   case neg =>
    have hn : (e1 != 0) = true := by rw [bne_iff_ne]; exact h0
    have hr2 := (show r = (d1, e1) by rw [HR.out, if_pos h0])
    go_wp2
    (try simp only [Exit.inBlock, Exit.then])
    refine HK.out _ _ ?_
    clear HK
    go_wp2
    (try simp only [Exit.noGoto])
    go_ret
    exact Does2.of hr2 ⟨_, D11⟩ k11
   case pos =>
    subst h0
    go_wp2
    (try simp only [Exit.inBlock, Exit.then])
    refine HK2.out _ _ ?_
    clear HK2
    go_wp2
    go_roundw
    case rel => exact ⟨0 + 1, by omega, by rfl, rfl, .inr (.inl ⟨by trivial, by trivial, _, D11⟩), S11, O11, k11⟩
    case measure => simp [intOf]
  ·skip
   have hB7 := Nat.le_trans hb k7.bl.size
   refine seqH (fun K HK => ?_)
   go_wp2
   refine HK.out _ _ ?_
   clear HK
   refine seqH (fun K HK => ?_)
   go_wp2
   refine HK.out _ _ ?_
   clear HK
   refine seqH (fun K HK2 => ?_)
   refine wp_block ?_
   refine seqH (fun K HK => ?_)
   go_wp2
   refine HK.out _ _ ?_
   clear HK
   refine seqH (fun K HK3 => ?_)
   go_wp2_with fail
   have hbd := (Below.refl wr.heap.size wr).drew
   have D8 := D7.below hbd
   have S8 := S7.below hbd
   have O8 := O7.below hbd
   have k8 := k7.trans (Kt.of hbd hB7)
   have hB8 := Nat.le_trans hB7 hbd.size
   refine wp_region_held_drew (S := fun w' => ShB w' q g s) (by kernel_rfl) S8 (fun hS0 => ?_)
   clear hbd D7 S7 O7 k7 hB7
   generalize wr.drew = x1 at *
   refine tkT 0 rfl (by intro wS hSw; go_simp; (try with_reducible rfl)) ?_
   refine tkT 1 rfl (by intro wS hSw; go_simp; (try with_reducible rfl)) ?_
   refine tkT 2 rfl (by intro wS hSw; go_simp; (try with_reducible rfl)) ?_
   refine tkT 3 rfl (by intro wS hSw; have c := hSw.c3; go_simp; (try with_reducible rfl)) ?_
   refine tkT 4 rfl (by intro wS hSw; go_simp; (try with_reducible rfl)) ?_
   refine tkT 6 rfl (by intro wS hSw; go_simp; (try with_reducible rfl)) ?_
   refine tkT 8 rfl (by intro wS hSw; go_simp; (try with_reducible rfl)) ?_
   refine tkT 9 rfl (by intro wS hSw; go_simp; (try with_reducible rfl)) ?_
   refine tkT 10 (v := .int .i64 64) rfl (by intro wS hSw; go_simp; (try rfl)) ?_
   refine tkT 11 rfl (by intro wS hSw; go_simp; (try with_reducible rfl)) ?_
   refine tkT 12 (v := .int .i64 (1 + 1)) rfl (by intro wS hSw; go_simp; (try rfl)) ?_
   refine tkT 13 (v := .int .i64 (64 + 64)) rfl (by intro wS hSw; go_simp; (try rfl)) ?_
   refine tkT 14 (v := .slice (some ⟨G, 64, none⟩) 64 64) rfl (by intro wS hSw; go_simp; (try rfl)) ?_
   refine rdy1 5 rfl (fun K' hK' => ?_)
   go_simp
   refine (first_any 5 p _).mono ?_
   rintro e w10 ⟨rfl, hb10⟩
   rw [HF.out]
   have D10 := D8.below hb10
   have S10 := S8.below hb10
   have O10 := O8.below hb10
   have k10 := k8.trans (Kt.of hb10 hB8)
   have hB10 := Nat.le_trans hB8 hb10.size
   refine hK'.out _ _ S10 (fun _ => ?_)
   clear hK' D8 S8 O8 k8 hB8 hb10
   (try simp only [Act.put]); (try simp only [List.setIfInBounds_toArray]); (try simp only [List.set_cons_succ]); (try simp only [List.set_cons_zero])
   refine tkT 7 (v := .int .i64 (f + 1)) rfl (by intro wS hSw; go_simp; (try rw [IntWalk.i64_in _ (by omega)])) ?_
   refine rdy1 15 rfl (fun K' hK' => ?_)
   go_simp
   refine (HW1 w10 _ D10 hB10 (fun w' hk => by have := (O10.kt hk).slb.sub 64 64 (by have := HFL.out; omega); exact ⟨this.row, by have := HP1.out; omega, by unfold maxLen; omega, fun e => by cases e⟩)).mono ?_
   rintro e w11 ⟨rfl, ⟨wv11, D11⟩, hk11⟩
   have S11 := S10.kt hk11
   have O11 := O10.kt hk11
   have k11 := k10.trans hk11
   refine hK'.out _ _ S11 (fun _ => ?_)
   clear hK' D10 S10 O10 k10 hB10 hk11
   (try simp only [Act.put]); (try simp only [List.setIfInBounds_toArray]); (try simp only [List.set_cons_succ]); (try simp only [List.set_cons_zero])
   refine tkT 16 rfl (by intro wS hSw; go_simp; (try with_reducible rfl)) ?_
   refine wpAnyH_done (by kernel_rfl) ?_ _
   refine HK3.out _ _ ?_
   clear HK3
   by_cases h0 : e2 = 0
   case neg =>
    have hn : (e2 != 0) = true := by rw [bne_iff_ne]; exact h0
    have hr2 := (show r = (d2, e2) by rw [HR.out, if_neg (by simp)])
    go_wp2
    (try simp only [Exit.inBlock, Exit.then])
    refine HK.out _ _ ?_
    clear HK
    go_wp2
    (try simp only [Exit.noGoto])
    go_ret
    exact Does2.of hr2 ⟨_, D11⟩ k11
   case pos =>
    subst h0
    go_wp2
    (try simp only [Exit.inBlock, Exit.then])
    refine HK2.out _ _ ?_
    clear HK2
    go_wp2
    go_roundw
    case rel => exact ⟨1 + 1, by omega, by rfl, rfl, .inr (.inr ⟨by trivial, by trivial, by trivial, _, D11⟩), S11, O11, k11⟩
    case measure => simp [intOf]
  ·have hr2 : r = (d2, 0) := by rw [HR.out, if_neg (by simp)]
   clear HR HW0 HW1
   subst hr2
   go_wp2
   refine HK.out _ _ ?_
   clear HK
   go_wp2
   (try simp only [Exit.noGoto])
   go_ret
   exact ⟨rfl, ⟨_, D7⟩, k7⟩
end
end Go.Proofs.YtbdonjenekhmdaaGreatDoor
namespace Go.Proofs.YtbdonjenekhmdaaGreatDoor
open Go.RowKit
def Does13 (B g : Nat) (w : World) (r : Dk × Int) (e : Ending) (w' : World) : Prop := e = .returned (.int .i64 r.2) ∧ RDoes B g wT w r.1 w'
theorem Does13.of {B g : Nat} {w w' : World} {r : Dk × Int} {d : Dk} {x : Int} (hr : r = (d, x)) (hd : ∃ q', RefB B g q' d w') (hk : Kx wT B w w') : Does13 B g w r (.returned (.int .i64 x)) w' := by
 subst hr
 exact ⟨rfl, hd, hk⟩
theorem ShR.kw {w w' : World} {q g : Nat} {s : Sh} {B : Nat} (h : ShR w q g s) (hk : Kx wT B w w') : ShR w' q g s := h.kx hk.r.f
section
variable {B g q : Nat} {qq : RQ} {d : Dk} {w : World} {s m : Sh}
set_option maxRecDepth 100000 in
set_option maxHeartbeats 8000000 in
theorem rput13_any (h : ShR w q g s) (R : RefB B g qq d w) (hb : B ≤ w.heap.size) (hm : Alike s m) (k : Int) (hk : 0 ≤ k ∧ k < 8) (a : Option Addr) (cap : Nat) (c : List UInt8) (hs : SlB w a cap c) (hc : c.length ≤ 80) (hw : d.waits.length ≤ 1000) :
  Calls Tryz.prog 50 #[.pointer (some ⟨q, 0, none⟩), .int .i64 m.idx, .int .i64 m.area, .int .i64 m.cnt, .int .i64 k, .slice a c.length cap] w (Does13 B g w (putS d m k c)) := by
 have ha := hm.ok.a
 have hc8 := hm.ok.c
 have hp : 0 ≤ plaS m k ∧ plaS m k < 16 := by unfold plaS; omega
 have hf := first5 hp
 obtain ⟨r, hr⟩ : ∃ r, putS d m k c = r := ⟨_, rfl⟩
 rw [hr]
 have hkp := rprint12_any m.cnt hm.c hc8.2 a cap c hc w hs
 have htm := tagS_may hm.ok hk
 have hfl : (frmS m k c).length = 128 := frmS_len hc
 have hckl : (ckB m.cnt c).length = 1 + c.length := by unfold ckB; rw [List.length_cons]; omega
 have hsr : sealR (tagS m k) (ckB m.cnt c) 2 = frmS m k c := by
  unfold sealR
  rw [if_pos ⟨htm, by decide, (by rw [hckl]; show 1 + c.length ≤ 88; omega)⟩]
  rfl
 have htg : tgV (tagS m k) = .agg #[.int .i64 s.rep, .int .i64 5, .int .i64 (plaS m k), .int .i64 m.idx, .int .i64 s.inc] := by
  unfold tgV tagS
  rw [hm.r, hm.i]
 have hse := fun (w' : World) (a' : Option Addr) (c' : Nat) (h' : SlB w' a' c' (ckB m.cnt c)) => rseal_any (tagS m k) a' c' (ckB m.cnt c) 2 w' h' (by omega) (by decide)
 simp only [hsr, htg, hfl] at hse
 have hr0 : r = if (writeD d (firstN 5 (plaS m k)) (pcD (frmS m k c) 0)).2 ≠ 0 then writeD d (firstN 5 (plaS m k)) (pcD (frmS m k c) 0) else writeD (writeD d (firstN 5 (plaS m k)) (pcD (frmS m k c) 0)).1 (firstN 5 (plaS m k) + 1) (pcD (frmS m k c) 1) := by
  rw [← hr]
  rfl
 clear hr hsr htg htm hckl
 have hpl : plaS m k = 8 * m.area + k := rfl
 go_enter Tryz.func50, Tryz.ntmps50
 refine seqH (fun K HK => ?_)
 go_wp2
 refine HK.out _ _ ?_
 clear HK
 refine seqH (fun K HK => ?_)
 go_wp2_with (go_at_call 118; refine hkp.mono ?_; rintro e w2 ⟨⟨v2, rfl, o2⟩, hb2⟩)
 refine HK.out _ _ ?_
 clear HK
 obtain ⟨a2, c2b, rfl, hO2⟩ := OwnS.of_owns o2
 have D2 := R.below hb2
 have S2 := h.below hb2
 clear hkp hs o2
 refine seqH (fun K HK => ?_)
 go_wp2_with fail
 have hbd := (Below.refl w2.heap.size w2).drew
 have D3 := D2.below hbd
 have S3 := S2.below hbd
 have O3 := hO2.below hbd
 have hb4 := hb2.trans (hbd.mono hb2.size)
 refine wp_region_held_drew (S := fun w' => ShR w' q g s) (by kernel_rfl) S3 (fun hS0 => ?_)
 clear hbd D2 S2 hO2 hb2
 generalize w2.drew = x0 at *
 refine tkT 0 rfl (by intro wS hSw; go_simp; (try with_reducible rfl)) ?_
 refine tkT 1 rfl (by intro wS hSw; go_simp; (try with_reducible rfl)) ?_
 refine tkT 2 rfl (by intro wS hSw; go_simp; (try with_reducible rfl)) ?_
 refine tkT 3 rfl (by intro wS hSw; have c := hSw.c1; go_simp; (try with_reducible rfl)) ?_
 refine tkT 4 rfl (by intro wS hSw; go_simp; (try with_reducible rfl)) ?_
 refine tkT 5 (v := .int .i64 (8 * m.area)) rfl (by intro wS hSw; go_simp; (try rw [IntWalk.i64_in _ (by omega)])) ?_
 refine tkT 6 rfl (by intro wS hSw; go_simp; (try with_reducible rfl)) ?_
 refine tkT 7 (v := .int .i64 (plaS m k)) rfl (by intro wS hSw; rw [hpl]; go_simp; (try rw [IntWalk.i64_in _ (by omega)])) ?_
 refine tkT 8 rfl (by intro wS hSw; go_simp; (try with_reducible rfl)) ?_
 refine tkT 9 rfl (by intro wS hSw; go_simp; (try with_reducible rfl)) ?_
 refine tkT 10 rfl (by intro wS hSw; go_simp; (try with_reducible rfl)) ?_
 refine tkT 11 rfl (by intro wS hSw; go_simp; (try with_reducible rfl)) ?_
 refine tkT 12 rfl (by intro wS hSw; have c := hSw.c2; go_simp; (try with_reducible rfl)) ?_
 refine tkT 13 rfl (by intro wS hSw; go_simp; (try with_reducible rfl)) ?_
 refine rdy1 14 rfl (fun K' hK' => ?_)
 go_simp
 change K' _ (World.alloc x0 (Obj.cells #[.int .i64 0, .int .i64 0, .int .i64 0, .int .i64 0, .int .i64 0] 39))
 have hbz := blw x0 (Obj.cells #[.int .i64 0, .int .i64 0, .int .i64 0, .int .i64 0, .int .i64 0] 39)
 have D4 := D3.below hbz
 have S4 := S3.below hbz
 have O4 := O3.below hbz
 have T4 := heap_alloc_new x0 (Obj.cells #[.int .i64 0, .int .i64 0, .int .i64 0, .int .i64 0, .int .i64 0] 39)
 have hb5 := hb4.trans (hbz.mono hb4.size)
 have htb : w.heap.size ≤ x0.heap.size := hb4.size
 refine hK'.out _ _ S4 (fun _ => ?_)
 clear hK' D3 S3 O3 hb4 hbz
 (try simp only [Act.put]); (try simp only [List.setIfInBounds_toArray]); (try simp only [List.set_cons_succ]); (try simp only [List.set_cons_zero])
 generalize x0.alloc (Obj.cells #[.int .i64 0, .int .i64 0, .int .i64 0, .int .i64 0, .int .i64 0] 39) = x4 at *
 generalize x0.heap.size = tb at *
 refine rdy1 15 rfl (fun K' hK' => ?_)
 refine wp_stB 39 _ _ ?_
 refine ⟨_, _, _, ⟨_, _, _, Tryz.sizeOf39, rfl, T4, st5 _ rfl s.rep 5 (plaS m k) m.idx s.inc⟩, ?_⟩
 intro w5 T5 g5
 have D5 := D4.stO g5 T4 (by decide)
 have S5 : ShR w5 q g s := blk_neT T4 g5 _ _ _ (by decide) S4
 have O5 := O4.1.st g5 T4 (by decide)
 have hb6 := hb5.grown g5 hb5.size (fun k e => by cases e; exact htb)
 refine hK'.out _ _ S5 (fun _ => ?_)
 clear hK' hS0
 refine wpAnyH_done (by kernel_rfl) ?_ _
 refine HK.out _ _ ?_
 clear HK
 have O5s : SlB w5 a2 c2b (ckB m.cnt c) := ⟨O5.slb.row, O4.2.1, O4.2.2.1, O4.2.2.2⟩
 clear D4 S4 O4 T4 hb5 g5 O5
 obtain ⟨p, hpp⟩ : ∃ p, plaS m k = p := ⟨_, rfl⟩
 rw [hpp] at hf hp hr0 T5
 simp only [hpp] at hse
 obtain ⟨f, hff⟩ : ∃ f, firstN 5 p = f := ⟨_, rfl⟩
 rw [hff] at hf hr0
 have hfb : 0 ≤ f ∧ f < 200 := by omega
 have HF := Lib.hid hff
 clear hf hff hpl hpp
 have hse5 := hse _ _ _ O5s
 clear hse
 generalize frmS m k c = fr at *
 refine seqH (fun K HK => ?_)
 go_wp2_with (first
   | ((with_reducible refine wpList_ldB 39 _ ?_); refine ⟨rfl, _, ⟨_, _, _, _, _, Tryz.isAgg39, Tryz.sizeOf39, rfl, ‹_›, ld5 _ _ _ _ _⟩, ?_⟩)
   | (go_at_call 60; refine hse5.mono ?_; rintro e w6 ⟨⟨v6, rfl, o6⟩, hb7⟩))
 refine HK.out _ _ ?_
 clear HK
 obtain ⟨G, c2, rfl, hG⟩ := owns_some o6 (by decide)
 have O6 : w6.ownsRow w.heap.size 5 1 (.slice (some ⟨G, 0, none⟩) 128 c2) 128 (bys fr) := owns_mono o6 hb6.size
 have hc2 : 128 ≤ c2 := by
  obtain ⟨_, _, e, hh⟩ := SlB.of_owns (l := fr) (by rw [hfl]; exact O6)
  injection e with _ _ e3
  subst e3
  have := hh.le
  omega
 have D6 := D5.below hb7
 have S6 := S5.below hb7
 have T6 := tr_bl hb7 T5
 have hb8 := hb6.trans (hb7.mono hb6.size)
 have k6 := Kx.of (X := wT) hb8 hb
 clear D5 S5 T5 hb6 hb7 hse5 O5s o6
 have hp0 : (pcD fr 0).length = 64 := by unfold pcD; rw [List.length_take, List.length_drop]; omega
 have hp1 : (pcD fr 1).length = 64 := by unfold pcD; rw [List.length_take, List.length_drop]; omega
 have hw1 := (write_pl d f (pcD fr 0)).2
 obtain ⟨d1, e1, hd1⟩ : ∃ d1 e1, writeD d f (pcD fr 0) = (d1, e1) := ⟨_, _, rfl⟩
 rw [hd1] at hr0 hw1
 simp only at hr0 hw1
 obtain ⟨d2, e2, hd2⟩ : ∃ d2 e2, writeD d1 (f + 1) (pcD fr 1) = (d2, e2) := ⟨_, _, rfl⟩
 rw [hd2] at hr0
 have HW0 := fun w' qq (D : RefB B g qq d w') hB O => rwriteW_any D hB f (some ⟨G, 0, none⟩) c2 (pcD fr 0) O (by omega)
 have HW1 := fun w' qq (D : RefB B g qq d1 w') hB O => rwriteW_any D hB (f + 1) (some ⟨G, 64, none⟩) (c2 - 64) (pcD fr 1) O (by omega)
 simp only [hd1, hp0] at HW0
 simp only [hd2, hp1] at HW1
 have HR := Lib.hid hr0
 have HFL := Lib.hid hfl
 have HP0 := Lib.hid hp0
 have HP1 := Lib.hid hp1
 have HSL : ∀ w', w'.ownsRow w.heap.size 5 1 (.slice (some ⟨G, 0, none⟩) 128 c2) 128 (bys fr) → SlB w' (some ⟨G, 0, none⟩) c2 fr := fun w' ho => by
  obtain ⟨_, _, e, hh⟩ := SlB.of_owns (l := fr) (by rw [HFL.out]; exact ho)
  injection e with e1 _ e3
  subst e1
  subst e3
  exact hh
 clear hr0 hfl hp0 hp1 hd1 hd2 hw1
 refine seqH (fun K HK => ?_)
 go_wp2_with fail
 go_loopw [18] (fun i wr => ∃ j : Nat, j ≤ 2 ∧ i = .int .i64 (j : Nat) ∧ ((j = 0 ∧ RefB B g qq d wr) ∨ (j = 1 ∧ e1 = 0 ∧ ∃ q', RefB B g q' d1 wr) ∨ (j = 2 ∧ e1 = 0 ∧ e2 = 0 ∧ ∃ q', RefB B g q' d2 wr)) ∧ ShR wr q g s ∧ wr.ownsRow w.heap.size 5 1 (.slice (some ⟨G, 0, none⟩) 128 c2) 128 (bys fr) ∧ wr.heap[tb]? = some (.cells #[.int .i64 s.rep, .int .i64 5, .int .i64 p, .int .i64 m.idx, .int .i64 s.inc] 39 (0, 0)) ∧ Kx wT B w wr) (fun i _ => 2 - (intOf i).toNat)
 case atStart => exact ⟨0, by omega, rfl, .inl ⟨rfl, D6⟩, S6, O6, T6, k6⟩
 case round =>
  clear D6 S6 O6 T6 k6
  obtain ⟨j, hj, rfl, hst, S7, O7, T7, k7⟩ := hrel
  rcases hst with ⟨rfl, D7⟩ | ⟨rfl, rfl, q7, D7⟩ | ⟨rfl, rfl, rfl, q7, D7⟩
  ·skip
   have hB7 := Nat.le_trans hb k7.bl.size
   refine seqH (fun K HK => ?_)
   go_wp2
   refine HK.out _ _ ?_
   clear HK
   refine seqH (fun K HK2 => ?_)
   refine wp_block ?_
   refine seqH (fun K HK3 => ?_)
   go_wp2_with fail
   have hbd := (Below.refl wr.heap.size wr).drew
   have D8 := D7.below hbd
   have S8 := S7.below hbd
   have O8 := owns_bl O7 hbd
   have T8 := tr_bl hbd T7
   have k8 := k7.trans (Kx.of (X := wT) hbd hB7)
   have hB8 := Nat.le_trans hB7 hbd.size
   refine wp_region_held_drew (S := fun w' => ShR w' q g s ∧ w'.heap[tb]? = some (.cells #[.int .i64 s.rep, .int .i64 5, .int .i64 p, .int .i64 m.idx, .int .i64 s.inc] 39 (0, 0))) (by kernel_rfl) ⟨S8, T8⟩ (fun hS0 => ?_)
   clear hbd D7 S7 O7 T7 k7 hB7
   generalize wr.drew = x1 at *
   refine tkT 0 rfl (by intro wS hSw; go_simp; (try with_reducible rfl)) ?_
   refine tkT 1 rfl (by intro wS hSw; go_simp; (try with_reducible rfl)) ?_
   refine tkT 2 rfl (by intro wS hSw; go_simp; (try with_reducible rfl)) ?_
   refine tkT 3 rfl (by intro wS hSw; have c := hSw.1.c0; go_simp; (try with_reducible rfl)) ?_
   refine tkT 4 rfl (by intro wS hSw; go_simp; (try with_reducible rfl)) ?_
   refine tkT 5 rfl (by intro wS hSw; have c := blk_cell hSw.2 2 (.int .i64 p) rfl; go_simp; (try with_reducible rfl)) ?_
   refine tkT 7 rfl (by intro wS hSw; go_simp; (try with_reducible rfl)) ?_
   refine tkT 9 rfl (by intro wS hSw; go_simp; (try with_reducible rfl)) ?_
   refine tkT 10 rfl (by intro wS hSw; go_simp; (try with_reducible rfl)) ?_
   refine tkT 11 (v := .int .i64 0) rfl (by intro wS hSw; go_simp; (try rfl)) ?_
   refine tkT 12 rfl (by intro wS hSw; go_simp; (try with_reducible rfl)) ?_
   refine tkT 13 (v := .int .i64 0) rfl (by intro wS hSw; go_simp; (try rfl)) ?_
   refine tkT 14 (v := .int .i64 (0 + 64)) rfl (by intro wS hSw; go_simp; (try rfl)) ?_
   refine tkT 15 (v := .slice (some ⟨G, 0, none⟩) 64 (c2)) rfl (by intro wS hSw; have h1 : (64 : Int) ≤ c2 := (by omega); have h2 : (128 : Int) ≤ c2 := (by omega); have h3 : ¬ c2 = 64 := (by omega); go_simp; (try rfl)) ?_
   refine rdy1 6 rfl (fun K' hK' => ?_)
   go_simp
   refine (rfirst3_any 5 p _).mono ?_
   rintro e w10 ⟨rfl, rfl⟩
   rw [HF.out]
   refine hK'.out _ _ ⟨S8, T8⟩ (fun _ => ?_)
   clear hK'
   (try simp only [Act.put]); (try simp only [List.setIfInBounds_toArray]); (try simp only [List.set_cons_succ]); (try simp only [List.set_cons_zero])
   refine tkT 8 (v := .int .i64 (f)) rfl (by intro wS hSw; go_simp; (try rw [IntWalk.i64_in _ (by omega)])) ?_
   refine rdy1 16 rfl (fun K' hK' => ?_)
   go_simp
   refine (HW0 x1 _ D8 hB8 (fun w' hk => by have := (HSL _ (owns_kx O8 hk (by decide))).sub 0 64 (by omega); exact ⟨this.row, by have := HP0.out; omega, by have := this.max; omega, fun e => by cases e⟩)).mono ?_
   rintro e w11 ⟨rfl, ⟨q11, D11⟩, hk11⟩
   have S11 := S8.kw hk11
   have O11 := owns_kx O8 hk11 (by decide)
   have T11 := hk11.ty _ _ _ T8 (by decide)
   have k11 := k8.trans hk11
   refine hK'.out _ _ ⟨S11, T11⟩ (fun _ => ?_)
   clear hK' D8 S8 O8 T8 k8 hB8 hk11 hS0
   (try simp only [Act.put]); (try simp only [List.setIfInBounds_toArray]); (try simp only [List.set_cons_succ]); (try simp only [List.set_cons_zero])
   refine tkT 17 rfl (by intro wS hSw; go_simp; (try with_reducible rfl)) ?_
   refine wpAnyH_done (by kernel_rfl) ?_ _
   refine HK3.out _ _ ?_
   clear HK3
   by_cases h0 : e1 = 0
   case neg =>
    have hn : (e1 != 0) = true := by rw [bne_iff_ne]; exact h0
    have hr2 := (show r = (d1, e1) by rw [HR.out, if_pos h0])
    go_wp2
    go_ret
    exact Does13.of hr2 ⟨_, D11⟩ k11
   case pos =>
    subst h0
    go_wp2
    (try simp only [Exit.inBlock, Exit.then])
    refine HK2.out _ _ ?_
    clear HK2
    go_wp2
    go_roundw
    case rel => exact ⟨0 + 1, by omega, by rfl, .inr (.inl ⟨by trivial, by trivial, _, D11⟩), S11, O11, T11, k11⟩
    case measure => simp [intOf]
  ·skip
   have hB7 := Nat.le_trans hb k7.bl.size
   refine seqH (fun K HK => ?_)
   go_wp2
   refine HK.out _ _ ?_
   clear HK
   refine seqH (fun K HK2 => ?_)
   refine wp_block ?_
   refine seqH (fun K HK3 => ?_)
   go_wp2_with fail
   have hbd := (Below.refl wr.heap.size wr).drew
   have D8 := D7.below hbd
   have S8 := S7.below hbd
   have O8 := owns_bl O7 hbd
   have T8 := tr_bl hbd T7
   have k8 := k7.trans (Kx.of (X := wT) hbd hB7)
   have hB8 := Nat.le_trans hB7 hbd.size
   refine wp_region_held_drew (S := fun w' => ShR w' q g s ∧ w'.heap[tb]? = some (.cells #[.int .i64 s.rep, .int .i64 5, .int .i64 p, .int .i64 m.idx, .int .i64 s.inc] 39 (0, 0))) (by kernel_rfl) ⟨S8, T8⟩ (fun hS0 => ?_)
   clear hbd D7 S7 O7 T7 k7 hB7
   generalize wr.drew = x1 at *
   refine tkT 0 rfl (by intro wS hSw; go_simp; (try with_reducible rfl)) ?_
   refine tkT 1 rfl (by intro wS hSw; go_simp; (try with_reducible rfl)) ?_
   refine tkT 2 rfl (by intro wS hSw; go_simp; (try with_reducible rfl)) ?_
   refine tkT 3 rfl (by intro wS hSw; have c := hSw.1.c0; go_simp; (try with_reducible rfl)) ?_
   refine tkT 4 rfl (by intro wS hSw; go_simp; (try with_reducible rfl)) ?_
   refine tkT 5 rfl (by intro wS hSw; have c := blk_cell hSw.2 2 (.int .i64 p) rfl; go_simp; (try with_reducible rfl)) ?_
   refine tkT 7 rfl (by intro wS hSw; go_simp; (try with_reducible rfl)) ?_
   refine tkT 9 rfl (by intro wS hSw; go_simp; (try with_reducible rfl)) ?_
   refine tkT 10 rfl (by intro wS hSw; go_simp; (try with_reducible rfl)) ?_
   refine tkT 11 (v := .int .i64 64) rfl (by intro wS hSw; go_simp; (try rfl)) ?_
   refine tkT 12 rfl (by intro wS hSw; go_simp; (try with_reducible rfl)) ?_
   refine tkT 13 (v := .int .i64 64) rfl (by intro wS hSw; go_simp; (try rfl)) ?_
   refine tkT 14 (v := .int .i64 (64 + 64)) rfl (by intro wS hSw; go_simp; (try rfl)) ?_
   refine tkT 15 (v := .slice (some ⟨G, 64, none⟩) 64 (c2 - 64)) rfl (by intro wS hSw; have h1 : (64 : Int) ≤ c2 := (by omega); have h2 : (128 : Int) ≤ c2 := (by omega); have h3 : ¬ c2 = 64 := (by omega); go_simp; (try rfl)) ?_
   refine rdy1 6 rfl (fun K' hK' => ?_)
   go_simp
   refine (rfirst3_any 5 p _).mono ?_
   rintro e w10 ⟨rfl, rfl⟩
   rw [HF.out]
   refine hK'.out _ _ ⟨S8, T8⟩ (fun _ => ?_)
   clear hK'
   (try simp only [Act.put]); (try simp only [List.setIfInBounds_toArray]); (try simp only [List.set_cons_succ]); (try simp only [List.set_cons_zero])
   refine tkT 8 (v := .int .i64 (f + 1)) rfl (by intro wS hSw; go_simp; (try rw [IntWalk.i64_in _ (by omega)])) ?_
   refine rdy1 16 rfl (fun K' hK' => ?_)
   go_simp
   refine (HW1 x1 _ D8 hB8 (fun w' hk => by have := (HSL _ (owns_kx O8 hk (by decide))).sub 64 64 (by have := HFL.out; omega); exact ⟨this.row, by have := HP1.out; omega, by have := this.max; omega, fun e => by cases e⟩)).mono ?_
   rintro e w11 ⟨rfl, ⟨q11, D11⟩, hk11⟩
   have S11 := S8.kw hk11
   have O11 := owns_kx O8 hk11 (by decide)
   have T11 := hk11.ty _ _ _ T8 (by decide)
   have k11 := k8.trans hk11
   refine hK'.out _ _ ⟨S11, T11⟩ (fun _ => ?_)
   clear hK' D8 S8 O8 T8 k8 hB8 hk11 hS0
   (try simp only [Act.put]); (try simp only [List.setIfInBounds_toArray]); (try simp only [List.set_cons_succ]); (try simp only [List.set_cons_zero])
   refine tkT 17 rfl (by intro wS hSw; go_simp; (try with_reducible rfl)) ?_
   refine wpAnyH_done (by kernel_rfl) ?_ _
   refine HK3.out _ _ ?_
   clear HK3
   by_cases h0 : e2 = 0
   case neg =>
    have hn : (e2 != 0) = true := by rw [bne_iff_ne]; exact h0
    have hr2 := (show r = (d2, e2) by rw [HR.out, if_neg (by simp)])
    go_wp2
    go_ret
    exact Does13.of hr2 ⟨_, D11⟩ k11
   case pos =>
    subst h0
    go_wp2
    (try simp only [Exit.inBlock, Exit.then])
    refine HK2.out _ _ ?_
    clear HK2
    go_wp2
    go_roundw
    case rel => exact ⟨1 + 1, by omega, by rfl, .inr (.inr ⟨by trivial, by trivial, by trivial, _, D11⟩), S11, O11, T11, k11⟩
    case measure => simp [intOf]
  ·have hr2 : r = (d2, 0) := by rw [HR.out, if_neg (by simp)]
   clear HR HW0 HW1
   subst hr2
   go_wp2
   refine HK.out _ _ ?_
   clear HK
   go_wp2
   go_ret
   exact ⟨rfl, ⟨_, D7⟩, k7⟩
end
end Go.Proofs.YtbdonjenekhmdaaGreatDoor
namespace Go.Proofs.YtbdonjenekhmdaaGreatDoor
open Go.RowKit
theorem numC_at {n j : Nat} (h : j < numC n) : (80 * j < n ∨ j = 0) ∧ 80 * j ≤ n := by
 unfold numC at h
 split at h <;> omega
theorem numC_end {n : Nat} : n ≤ 80 * numC n ∧ 0 < numC n := by
 unfold numC
 split <;> omega
section
variable {w w5 w6 w7 : World} {n1 : Nat} {v v5 : Value} {es : List Ek} {l : List (List UInt8)}
theorem chin_snoc {a5 : Option Addr} {c5 : Nat} {pc : List UInt8} (hr : w.ownsRow n1 37 1 v es.length (es.map ekV)) (he : es.map (·.2.2) = l) (ho : ∀ e ∈ es, OwnS w n1 e.1 e.2.1 e.2.2) (hO : OwnS w n1 a5 c5 pc)
  (ho7 : w7.ownsRow n1 37 1 v5 (es.length + 1) (es.map ekV ++ [ekV (a5, c5, pc)])) (hg : w.grownBy w7 v.ownBlock) : ChIn w7 n1 v5 (l ++ [pc]) := by
 refine ⟨es ++ [(a5, c5, pc)], ?_, ?_, ?_⟩
 ·rw [List.map_append, List.length_append]
  exact ho7
 ·rw [List.map_append, he]
  rfl
 ·have hno : ∀ r, v.ownBlock = some r → n1 ≤ r ∧ ∃ cur, w.heap[r]? = some (.cells cur 37 (0, 0)) := by
   intro r e
   rcases hr.2 with ⟨rfl, _⟩ | ⟨g, cap, cur, rfl, h2, h3, _⟩
   ·cases e
   ·simp [Value.ownBlock] at e
    subst e
    exact ⟨h2, cur, h3⟩
  have key : ∀ (a : Option Addr) (c : Nat) (q : List UInt8), OwnS w n1 a c q → OwnS w7 n1 a c q := by
   intro a c q h4
   refine ⟨?_, h4.2⟩
   rcases h4.1 with h5 | ⟨g, ys, h5, h6, h7, h8, h9⟩
   ·exact .inl h5
   ·refine .inr ⟨g, ys, h5, h6, h7, h8, (hg.block g (Array.getElem?_eq_some_iff.1 h9).1 (fun e => ?_)).trans h9⟩
    obtain ⟨cur, hc⟩ := (hno g e.symm).2
    rw [hc] at h9
    injection h9 with h9
    injection h9 with _ h10
    exact absurd h10 (by decide)
  intro e hm
  rcases List.mem_append.1 hm with hm | hm
  ·exact key _ _ _ (ho e hm)
  ·cases List.mem_singleton.1 hm
   exact key _ _ _ hO
end
set_option maxRecDepth 100000 in
set_option maxHeartbeats 4000000 in
theorem rsplit12_any (a : Option Addr) (cap : Nat) (b : List UInt8) (w : World) (hs : SlB w a cap b) : Calls Tryz.prog 48 #[.slice a b.length cap] w fun e w' => SplRes w.heap.size b e w' ∧ Below w.heap.size w w' := by
 by_cases hl : 640 < b.length
 ·have hI : (640 : Int) < b.length := by omega
  go_enter Tryz.func48, Tryz.ntmps48
  go_wp2
  go_ret2
  exact ⟨SplRes.long hl, Below.refl _ _⟩
 have hI : ¬ (640 : Int) < b.length := by omega
 have hn8 := (numC_le (show b.length ≤ 640 by omega)).2
 obtain ⟨hend, hpos⟩ := numC_end (n := b.length)
 have HAT := fun j (h : j < numC b.length) => numC_at h
 obtain ⟨n, hn⟩ : ∃ n, numC b.length = n := ⟨_, rfl⟩
 rw [hn] at hn8 hend hpos
 simp only [hn] at HAT
 have HN := Lib.hid hn
 have HL := Lib.hid hl
 clear hn hl
 go_enter Tryz.func48, Tryz.ntmps48
 refine seqH (fun K HK => ?_)
 go_wp2
 refine HK.out _ _ ?_
 clear HK
 refine seqH (fun K HK => ?_)
 go_wp2
 refine HK.out _ _ ?_
 clear HK
 refine seqH (fun K HK => ?_)
 go_wp2
 refine HK.out _ _ ?_
 clear HK
 refine seqH (fun K HK => ?_)
 go_wp2_with fail
 go_loopw [5, 4] (fun i o wr => ∃ (j : Nat) (v : Value), j ≤ n ∧ i = .int .i64 (80 * j : Nat) ∧ o = v ∧ ChIn wr w.heap.size v ((List.range j).map (pcC b)) ∧ Below w.heap.size w wr) (fun i _ _ => 80 * n - (intOf i).toNat)
 case atStart => exact ⟨0, _, by omega, rfl, rfl, ChIn.nil _ _, Below.refl _ _⟩
 case round =>
  obtain ⟨j, v, hj, rfl, rfl, hc, hbr⟩ := hrel
  by_cases hlt : j < n
  case neg =>
   obtain rfl : j = n := by omega
   obtain ⟨p, hp⟩ : ∃ p : Nat, 80 * j = p := ⟨_, rfl⟩
   have i1 : ¬ (p : Int) < (b.length : Int) := by omega
   have i2 : ((p : Int) == 0) = false := by rw [beq_eq_false_iff_ne]; omega
   rw [hp]
   clear hp
   go_wp2
   refine HK.out _ _ ?_
   clear HK
   go_wp2
   go_ret2
   refine ⟨SplRes.ok HL.out ?_, hbr⟩
   unfold splitC
   rw [HN.out]
   exact hc
  case pos =>
   obtain ⟨h1, h2⟩ := HAT j hlt
   obtain ⟨es, hr, he, ho⟩ := hc
   have hel : es.length = j := by have := congrArg List.length he; simpa using this
   have hpc := piece_slb (hs.below hbr) j
   have hpl := pcC_len b j
   have hmx := hs.max
   unfold maxLen at hmx
   have hle := hs.le
   have hI2 : ((j : Int) == 0) = decide (j = 0) := by rw [Bool.eq_iff_iff]; simp
   obtain ⟨p, hp⟩ : ∃ p : Nat, 80 * j = p := ⟨_, rfl⟩
   rw [hp] at h1 h2 hpc hpl ⊢
   have HP := Lib.hid hp
   have hp640 : p ≤ 640 := by omega
   have HJ := Lib.hid hlt
   have HSN : Hid ((List.range (j + 1)).map (pcC b) = (List.range j).map (pcC b) ++ [pcC b j]) := Lib.hid (by rw [List.range_succ, List.map_append]; rfl)
   by_cases h0 : b.length = 0
   case pos =>
    obtain rfl : j = 0 := by omega
    obtain rfl : p = 0 := by omega
    have HSE : Hid ((pcC b 0).length = 0) := Lib.hid (by rw [hpl, h0]; omega)
    clear hI2 h1 h2 hp hpl
    rw [adr_zero] at hpc
    have hcp := copy_any a cap (pcC b 0) wr (by simpa using hpc) (by rw [HSE.out]; omega)
    rw [HSE.out] at hcp
    rw [h0]
    cases a with
    | none =>
     obtain rfl : cap = 0 := hs.nil rfl
     clear hpc h0 hle hend hI hs hlt
     generalize pcC b 0 = pc at *
     go_wp2_with (first
      | (go_at_call 10; refine hcp.mono ?_; rintro e w5 ⟨⟨v5, rfl, o5⟩, hb5⟩; obtain ⟨a5, c5, rfl, O5⟩ := OwnS.of_owns (l := pc) (show w5.ownsRow wr.heap.size 5 1 v5 pc.length (bys pc) from by rw [HSE.out]; exact o5); clear hcp o5)
      | (at_builtin; refine wpList_appendN' rfl _ _ 54 54 37 37 elSl Tryz.underlying54 rfl w.heap.size _ es.length (es.map ekV) rfl (owns_bl hr (hb5.alloc hb5.size (Obj.cells #[.slice a5 pc.length c5] 37))) ⟨w5.heap.size, 0, none⟩ 1 1 [ekV (a5, c5, pc)] rfl rfl (fun j' u hu => ?_) (by simp [ekV, Value.oneCell']) (by omega) (by decide) (Nat.le_trans hbr.size (hb5.alloc hb5.size (Obj.cells #[.slice a5 pc.length c5] 37)).size) ?_; (rw [addr_add, Nat.zero_add]; exact blk_cell (heap_alloc_new w5 (Obj.cells #[.slice a5 pc.length c5] 37)) j' u (by simpa [ekV] using hu)); intro v7 w7 o7 g7))
     have hrA := owns_bl hr (hb5.alloc hb5.size (Obj.cells #[.slice a5 pc.length c5] 37))
     have hoA : ∀ e ∈ es, OwnS (w5.alloc (Obj.cells #[.slice a5 pc.length c5] 37)) w.heap.size e.1 e.2.1 e.2.2 := fun e he => (ho e he).below (hb5.alloc hb5.size (Obj.cells #[.slice a5 pc.length c5] 37))
     have OA := (O5.mono hbr.size).below (blw w5 (Obj.cells #[.slice a5 pc.length c5] 37))
     have hbA := hbr.trans ((hb5.alloc hb5.size (Obj.cells #[.slice a5 pc.length c5] 37)).mono hbr.size)
     have hb7 := hbA.grown g7 hbA.size (fun k e => (hrA.lt k e).1)
     go_roundw
     case rel => (repeat apply Exists.intro); exact ⟨ ⟨0 + 1, _, by have := HJ.out; omega, rfl, rfl, by rw [HSN.out]; exact chin_snoc hrA he hoA OA o7 g7, hb7⟩, rfl⟩
     case measure =>
      simp [intOf]
      have := HP.out
      have := HJ.out
      omega
    | some ad =>
     by_cases hc0 : cap = 0
     ·subst hc0
      clear hpc h0 hle hend hI hs hlt
      generalize pcC b 0 = pc at *
      go_wp2_with (first
       | (go_at_call 10; refine hcp.mono ?_; rintro e w5 ⟨⟨v5, rfl, o5⟩, hb5⟩; obtain ⟨a5, c5, rfl, O5⟩ := OwnS.of_owns (l := pc) (show w5.ownsRow wr.heap.size 5 1 v5 pc.length (bys pc) from by rw [HSE.out]; exact o5); clear hcp o5)
       | (at_builtin; refine wpList_appendN' rfl _ _ 54 54 37 37 elSl Tryz.underlying54 rfl w.heap.size _ es.length (es.map ekV) rfl (owns_bl hr (hb5.alloc hb5.size (Obj.cells #[.slice a5 pc.length c5] 37))) ⟨w5.heap.size, 0, none⟩ 1 1 [ekV (a5, c5, pc)] rfl rfl (fun j' u hu => ?_) (by simp [ekV, Value.oneCell']) (by omega) (by decide) (Nat.le_trans hbr.size (hb5.alloc hb5.size (Obj.cells #[.slice a5 pc.length c5] 37)).size) ?_; (rw [addr_add, Nat.zero_add]; exact blk_cell (heap_alloc_new w5 (Obj.cells #[.slice a5 pc.length c5] 37)) j' u (by simpa [ekV] using hu)); intro v7 w7 o7 g7))
      have hrA := owns_bl hr (hb5.alloc hb5.size (Obj.cells #[.slice a5 pc.length c5] 37))
      have hoA : ∀ e ∈ es, OwnS (w5.alloc (Obj.cells #[.slice a5 pc.length c5] 37)) w.heap.size e.1 e.2.1 e.2.2 := fun e he => (ho e he).below (hb5.alloc hb5.size (Obj.cells #[.slice a5 pc.length c5] 37))
      have OA := (O5.mono hbr.size).below (blw w5 (Obj.cells #[.slice a5 pc.length c5] 37))
      have hbA := hbr.trans ((hb5.alloc hb5.size (Obj.cells #[.slice a5 pc.length c5] 37)).mono hbr.size)
      have hb7 := hbA.grown g7 hbA.size (fun k e => (hrA.lt k e).1)
      go_roundw
      case rel => (repeat apply Exists.intro); exact ⟨ ⟨0 + 1, _, by have := HJ.out; omega, rfl, rfl, by rw [HSN.out]; exact chin_snoc hrA he hoA OA o7 g7, hb7⟩, rfl⟩
      case measure =>
       simp [intOf]
       have := HP.out
       have := HJ.out
       omega
     ·clear hpc h0 hle hend hI hs hlt
      have had : ad.add 0 = ad := by unfold Addr.add; simp
      generalize pcC b 0 = pc at *
      go_wp2_with (first
       | (go_at_call 10; refine hcp.mono ?_; rintro e w5 ⟨⟨v5, rfl, o5⟩, hb5⟩; obtain ⟨a5, c5, rfl, O5⟩ := OwnS.of_owns (l := pc) (show w5.ownsRow wr.heap.size 5 1 v5 pc.length (bys pc) from by rw [HSE.out]; exact o5); clear hcp o5)
       | (at_builtin; refine wpList_appendN' rfl _ _ 54 54 37 37 elSl Tryz.underlying54 rfl w.heap.size _ es.length (es.map ekV) rfl (owns_bl hr (hb5.alloc hb5.size (Obj.cells #[.slice a5 pc.length c5] 37))) ⟨w5.heap.size, 0, none⟩ 1 1 [ekV (a5, c5, pc)] rfl rfl (fun j' u hu => ?_) (by simp [ekV, Value.oneCell']) (by omega) (by decide) (Nat.le_trans hbr.size (hb5.alloc hb5.size (Obj.cells #[.slice a5 pc.length c5] 37)).size) ?_; (rw [addr_add, Nat.zero_add]; exact blk_cell (heap_alloc_new w5 (Obj.cells #[.slice a5 pc.length c5] 37)) j' u (by simpa [ekV] using hu)); intro v7 w7 o7 g7))
      have hrA := owns_bl hr (hb5.alloc hb5.size (Obj.cells #[.slice a5 pc.length c5] 37))
      have hoA : ∀ e ∈ es, OwnS (w5.alloc (Obj.cells #[.slice a5 pc.length c5] 37)) w.heap.size e.1 e.2.1 e.2.2 := fun e he => (ho e he).below (hb5.alloc hb5.size (Obj.cells #[.slice a5 pc.length c5] 37))
      have OA := (O5.mono hbr.size).below (blw w5 (Obj.cells #[.slice a5 pc.length c5] 37))
      have hbA := hbr.trans ((hb5.alloc hb5.size (Obj.cells #[.slice a5 pc.length c5] 37)).mono hbr.size)
      have hb7 := hbA.grown g7 hbA.size (fun k e => (hrA.lt k e).1)
      go_roundw
      case rel => (repeat apply Exists.intro); exact ⟨ ⟨0 + 1, _, by have := HJ.out; omega, rfl, rfl, by rw [HSN.out]; exact chin_snoc hrA he hoA OA o7 g7, hb7⟩, rfl⟩
      case measure =>
       simp [intOf]
       have := HP.out
       have := HJ.out
       omega
   case neg =>
    have hpb : p < b.length := by omega
    obtain ⟨bk, off, rfl⟩ := hs.some_of (by omega)
    have e0 : ¬ cap = p := by omega
    have i0 : (p : Int) < (b.length : Int) := by omega
    rw [← HP.out, adr_some, HP.out] at hpc
    clear h1 hI2 hp
    by_cases h80 : b.length < p + 80
    ·have i1 : (b.length : Int) < (p : Int) + 80 := by omega
     have HSE : Hid ((pcC b j).length = b.length - p) := Lib.hid (by rw [hpl]; omega)
     have hcp := copy_any (some ⟨bk, off + p, none⟩) (cap - p) (pcC b j) wr hpc (by rw [HSE.out]; omega)
     rw [HSE.out] at hcp
     have i2 : (b.length : Int) ≤ cap := by omega
     have i3 : (p : Int) ≤ (b.length : Int) := by omega
     clear hpl h0 hpc h80
     generalize pcC b j = pc at *
     go_wp2_with (first
      | (go_at_call 10; refine hcp.mono ?_; rintro e w5 ⟨⟨v5, rfl, o5⟩, hb5⟩; obtain ⟨a5, c5, rfl, O5⟩ := OwnS.of_owns (l := pc) (show w5.ownsRow wr.heap.size 5 1 v5 pc.length (bys pc) from by rw [HSE.out]; exact o5); clear hcp o5)
      | (at_builtin; refine wpList_appendN' rfl _ _ 54 54 37 37 elSl Tryz.underlying54 rfl w.heap.size _ es.length (es.map ekV) rfl (owns_bl hr (hb5.alloc hb5.size (Obj.cells #[.slice a5 pc.length c5] 37))) ⟨w5.heap.size, 0, none⟩ 1 1 [ekV (a5, c5, pc)] rfl rfl (fun j' u hu => ?_) (by simp [ekV, Value.oneCell']) (by omega) (by decide) (Nat.le_trans hbr.size (hb5.alloc hb5.size (Obj.cells #[.slice a5 pc.length c5] 37)).size) ?_; (rw [addr_add, Nat.zero_add]; exact blk_cell (heap_alloc_new w5 (Obj.cells #[.slice a5 pc.length c5] 37)) j' u (by simpa [ekV] using hu)); intro v7 w7 o7 g7))
     have hrA := owns_bl hr (hb5.alloc hb5.size (Obj.cells #[.slice a5 pc.length c5] 37))
     have hoA : ∀ e ∈ es, OwnS (w5.alloc (Obj.cells #[.slice a5 pc.length c5] 37)) w.heap.size e.1 e.2.1 e.2.2 := fun e he => (ho e he).below (hb5.alloc hb5.size (Obj.cells #[.slice a5 pc.length c5] 37))
     have OA := (O5.mono hbr.size).below (blw w5 (Obj.cells #[.slice a5 pc.length c5] 37))
     have hbA := hbr.trans ((hb5.alloc hb5.size (Obj.cells #[.slice a5 pc.length c5] 37)).mono hbr.size)
     have hb7 := hbA.grown g7 hbA.size (fun k e => (hrA.lt k e).1)
     go_roundw
     case rel => exact ⟨j + 1, _, by have := HJ.out; omega, (by have := HP.out; congr 1; omega), rfl, by rw [HSN.out]; exact chin_snoc hrA he hoA OA o7 g7, hb7⟩
     case measure =>
      simp [intOf]
      have := HP.out
      have := HJ.out
      omega
    ·have i1 : ¬ (b.length : Int) < (p : Int) + 80 := by omega
     have HSE : Hid ((pcC b j).length = 80) := Lib.hid (by rw [hpl]; omega)
     have hcp := copy_any (some ⟨bk, off + p, none⟩) (cap - p) (pcC b j) wr hpc (by rw [HSE.out]; omega)
     rw [HSE.out] at hcp
     have i2 : (p : Int) + 80 ≤ cap := by omega
     clear hpl h0 hpc
     generalize pcC b j = pc at *
     go_wp2_with (first
      | (go_at_call 10; refine hcp.mono ?_; rintro e w5 ⟨⟨v5, rfl, o5⟩, hb5⟩; obtain ⟨a5, c5, rfl, O5⟩ := OwnS.of_owns (l := pc) (show w5.ownsRow wr.heap.size 5 1 v5 pc.length (bys pc) from by rw [HSE.out]; exact o5); clear hcp o5)
      | (at_builtin; refine wpList_appendN' rfl _ _ 54 54 37 37 elSl Tryz.underlying54 rfl w.heap.size _ es.length (es.map ekV) rfl (owns_bl hr (hb5.alloc hb5.size (Obj.cells #[.slice a5 pc.length c5] 37))) ⟨w5.heap.size, 0, none⟩ 1 1 [ekV (a5, c5, pc)] rfl rfl (fun j' u hu => ?_) (by simp [ekV, Value.oneCell']) (by omega) (by decide) (Nat.le_trans hbr.size (hb5.alloc hb5.size (Obj.cells #[.slice a5 pc.length c5] 37)).size) ?_; (rw [addr_add, Nat.zero_add]; exact blk_cell (heap_alloc_new w5 (Obj.cells #[.slice a5 pc.length c5] 37)) j' u (by simpa [ekV] using hu)); intro v7 w7 o7 g7))
     have hrA := owns_bl hr (hb5.alloc hb5.size (Obj.cells #[.slice a5 pc.length c5] 37))
     have hoA : ∀ e ∈ es, OwnS (w5.alloc (Obj.cells #[.slice a5 pc.length c5] 37)) w.heap.size e.1 e.2.1 e.2.2 := fun e he => (ho e he).below (hb5.alloc hb5.size (Obj.cells #[.slice a5 pc.length c5] 37))
     have OA := (O5.mono hbr.size).below (blw w5 (Obj.cells #[.slice a5 pc.length c5] 37))
     have hbA := hbr.trans ((hb5.alloc hb5.size (Obj.cells #[.slice a5 pc.length c5] 37)).mono hbr.size)
     have hb7 := hbA.grown g7 hbA.size (fun k e => (hrA.lt k e).1)
     go_roundw
     case rel => exact ⟨j + 1, _, by have := HJ.out; omega, (by have := HP.out; congr 1; omega), rfl, by rw [HSN.out]; exact chin_snoc hrA he hoA OA o7 g7, hb7⟩
     case measure =>
      simp [intOf]
      have := HP.out
      have := HJ.out
      omega
end Go.Proofs.YtbdonjenekhmdaaGreatDoor
namespace Go.Proofs.YtbdonjenekhmdaaGreatDoor
open Go.RowKit
theorem shM_ld (i a c r n : Int) (p : Value) : 0 + 3 ≤ (#[Value.int .i64 i, .int .i64 a, .int .i64 c, p, .int .i64 r, .int .i64 n]).size ∧ (#[Value.int .i64 i, .int .i64 a, .int .i64 c, p, .int .i64 r, .int .i64 n]).extract 0 (0 + 3) = #[Value.int .i64 i, .int .i64 a, .int .i64 c] := ⟨by simp, rfl⟩
section
variable {B g gp q : Nat} {wv : Value} {d : Dk} {w : World} {s : Sh}
set_option maxRecDepth 100000 in
set_option maxHeartbeats 4000000 in
theorem smend_any (h : ShB w q g s) (hd : DiskB B g gp wv d w) (hb : B ≤ w.heap.size) (hok : ShOk s) (k : Int) (a : Option Addr) (cap : Nat) (c : List UInt8) (hs : SlB w a cap c) (hw : d.waits.length ≤ 1000) :
  Calls Tryz.prog 13 #[.pointer (some ⟨q, 0, none⟩), .int .i64 k, .slice a c.length cap] w (Does2 B g gp w (mendS d s k c)) := by
 have ha := sasked_any h hd k
 have hfi := sfits_any k s.cnt a cap c w hs
 have c2 := h.c2
 obtain ⟨ak, hak⟩ : ∃ ak, askedS d s k = ak := ⟨_, rfl⟩
 rw [hak] at ha
 have hm : mendS d s k c = if ak = 2 ∨ fitsC k s.cnt c.length = false then (d, 2) else if ak ≠ 0 then (d, ak) else if (readS d s k).2 = true then (d, 2) else if (putS d s k c).2 ≠ 0 then putS d s k c else flushD (putS d s k c).1 := by
  unfold mendS
  rw [hak]
 rw [hm]
 clear hm
 have h1 : ak ≠ 1 := by
  rw [← hak]
  unfold askedS
  split
  ·decide
  ·split <;> decide
 have e1 : (ak == 1) = false := by rw [beq_eq_false_iff_ne]; exact h1
 clear h1
 by_cases h2 : ak = 2
 ·rw [if_pos (.inl h2)]
  subst h2
  clear hak
  go_enter Tryz.func13, Tryz.ntmps13
  go_wp2_with (go_at_call 54; refine ha.mono ?_; rintro e w1 ⟨rfl, rfl⟩)
  go_ret
  exact Does2.of rfl ⟨_, hd⟩ (Kt.of (Below.refl _ _) hb)
 have e2 : (ak == 2) = false := by rw [beq_eq_false_iff_ne]; exact h2
 cases hft : fitsC k s.cnt c.length
 ·rw [if_pos (.inr rfl)]
  rw [hft] at hfi
  clear hak hft h2
  go_enter Tryz.func13, Tryz.ntmps13
  go_wp2_with (first
   | (go_at_call 54; refine ha.mono ?_; rintro e w1 ⟨rfl, rfl⟩)
   | (go_at_call 55; refine hfi.mono ?_; rintro e w2 ⟨rfl, hb2⟩))
  go_ret
  exact Does2.of rfl ⟨_, hd.below hb2⟩ (Kt.of hb2 hb)
 rw [if_neg (by simp [h2])]
 rw [hft] at hfi
 have hcl : c.length ≤ 80 := by
  unfold fitsC at hft
  split at hft
  ·cases hft
  ·omega
 clear hft h2
 by_cases h0 : ak = 0
 case neg =>
  rw [if_pos h0]
  have e0 : (ak != 0) = true := by rw [bne_iff_ne]; exact h0
  clear hak h0
  go_enter Tryz.func13, Tryz.ntmps13
  go_wp2_with (first
   | (go_at_call 54; refine ha.mono ?_; rintro e w1 ⟨rfl, rfl⟩)
   | (go_at_call 55; refine hfi.mono ?_; rintro e w2 ⟨rfl, hb2⟩))
  go_ret
  exact Does2.of rfl ⟨_, hd.below hb2⟩ (Kt.of hb2 hb)
 case pos =>
  subst h0
  rw [if_neg (by simp)]
  obtain ⟨k1, k2, _⟩ := asked_ok hak
  have hk8 : 0 ≤ k ∧ k < 8 := ⟨k1, by have := hok.c; omega⟩
  have hal : Alike s s := ⟨hok, by omega, rfl, rfl⟩
  have hbk := fun w' (hb2 : Below w.heap.size w w') => sbroken_any (h.below hb2) (hd.below hb2) hok k hk8
  clear hak e1 e2
  cases hrd : (readS d s k).2
  case true =>
   rw [if_pos rfl]
   rw [hrd] at hbk
   clear hrd
   go_enter Tryz.func13, Tryz.ntmps13
   go_wp2_with (first
    | (go_at_call 54; refine ha.mono ?_; rintro e w1 ⟨rfl, rfl⟩)
    | (go_at_call 55; refine hfi.mono ?_; rintro e w2 ⟨rfl, hb2⟩)
    | (go_at_call 56; refine (hbk _ hb2).mono ?_; rintro e w3 ⟨rfl, hb3⟩; have hb4 := hb2.trans (hb3.mono hb2.size)))
   go_ret
   exact Does2.of rfl ⟨_, hd.below hb4⟩ (Kt.of hb4 hb)
  case false =>
   rw [if_neg (by simp)]
   rw [hrd] at hbk
   clear hrd
   have hpt := fun w' (hb4 : Below w.heap.size w w') => sput_any (h.below hb4) (hd.below hb4) (Nat.le_trans hb hb4.size) hal k hk8 a cap c (hs.below hb4) hcl hw
   obtain ⟨d1, x1, hp⟩ : ∃ d1 x1, putS d s k c = (d1, x1) := ⟨_, _, rfl⟩
   rw [hp] at hpt ⊢
   clear hp
   simp only
   by_cases hx : x1 = 0
   case neg =>
    rw [if_pos hx]
    have ex : (x1 != 0) = true := by rw [bne_iff_ne]; exact hx
    clear hx
    go_enter Tryz.func13, Tryz.ntmps13
    refine seqH (fun K HK => ?_)
    go_wp2
    refine HK.out _ _ ?_
    clear HK
    refine seqH (fun K HK => ?_)
    go_wp2_with (go_at_call 54; refine ha.mono ?_; rintro e w1 ⟨rfl, rfl⟩)
    refine HK.out _ _ ?_
    clear HK
    refine seqH (fun K HK => ?_)
    go_wp2_with (first
     | (go_at_call 55; refine hfi.mono ?_; rintro e w2 ⟨rfl, hb2⟩)
     | (go_at_call 56; refine (hbk _ hb2).mono ?_; rintro e w3 ⟨rfl, hb3⟩; have hb4 := hb2.trans (hb3.mono hb2.size)))
    refine HK.out _ _ ?_
    clear HK
    have S4 : ShB w3 q g s := h.below hb4
    have SB : w3.heap[q]? = some (.cells #[.int .i64 s.idx, .int .i64 s.area, .int .i64 s.cnt, .pointer (some ⟨g, 0, none⟩), .int .i64 s.rep, .int .i64 s.inc] 101 (0, 0)) := S4
    have hpt4 := hpt _ hb4
    clear c2 hpt hbk hfi ha
    go_wp2_with (first
     | ((with_reducible refine wpList_ldB 99 _ ?_); refine ⟨rfl, _, ⟨_, _, _, _, _, Tryz.isAgg99, Tryz.sizeOf99, rfl, ‹_›, shM_ld _ _ _ _ _ _⟩, ?_⟩)
     | (go_at_call 44; refine hpt4.mono ?_; rintro e w5 ⟨rfl, ⟨wv5, D5⟩, k5⟩; have S5 := S4.kt k5; have c3 := S5.c3; have hfl := flush_any D5 (Nat.le_trans hb ((Kt.of hb4 hb).trans k5).bl.size))
     | (go_at_call 45; refine hfl.mono ?_; rintro e w6 ⟨rfl, D6, k6⟩))
    go_ret
    exact Does2.of rfl ⟨_, D5⟩ ((Kt.of hb4 hb).trans k5)
   case pos =>
    subst hx
    rw [if_neg (by simp)]
    go_enter Tryz.func13, Tryz.ntmps13
    refine seqH (fun K HK => ?_)
    go_wp2
    refine HK.out _ _ ?_
    clear HK
    refine seqH (fun K HK => ?_)
    go_wp2_with (go_at_call 54; refine ha.mono ?_; rintro e w1 ⟨rfl, rfl⟩)
    refine HK.out _ _ ?_
    clear HK
    refine seqH (fun K HK => ?_)
    go_wp2_with (first
     | (go_at_call 55; refine hfi.mono ?_; rintro e w2 ⟨rfl, hb2⟩)
     | (go_at_call 56; refine (hbk _ hb2).mono ?_; rintro e w3 ⟨rfl, hb3⟩; have hb4 := hb2.trans (hb3.mono hb2.size)))
    refine HK.out _ _ ?_
    clear HK
    have S4 : ShB w3 q g s := h.below hb4
    have SB : w3.heap[q]? = some (.cells #[.int .i64 s.idx, .int .i64 s.area, .int .i64 s.cnt, .pointer (some ⟨g, 0, none⟩), .int .i64 s.rep, .int .i64 s.inc] 101 (0, 0)) := S4
    have hpt4 := hpt _ hb4
    clear c2 hpt hbk hfi ha
    go_wp2_with (first
     | ((with_reducible refine wpList_ldB 99 _ ?_); refine ⟨rfl, _, ⟨_, _, _, _, _, Tryz.isAgg99, Tryz.sizeOf99, rfl, ‹_›, shM_ld _ _ _ _ _ _⟩, ?_⟩)
     | (go_at_call 44; refine hpt4.mono ?_; rintro e w5 ⟨rfl, ⟨wv5, D5⟩, k5⟩; have S5 := S4.kt k5; have c3 := S5.c3; have hfl := flush_any D5 (Nat.le_trans hb ((Kt.of hb4 hb).trans k5).bl.size))
     | (go_at_call 45; refine hfl.mono ?_; rintro e w6 ⟨rfl, D6, k6⟩))
    go_ret
    exact ⟨rfl, D6, ((Kt.of hb4 hb).trans k5).trans k6⟩
end
end Go.Proofs.YtbdonjenekhmdaaGreatDoor
namespace Go.Proofs.YtbdonjenekhmdaaGreatDoor
theorem putsS_cons (d : Dk) (s : Sh) (k : Nat) (c : List UInt8) (l : List (List UInt8)) : putsS d s k (c :: l) = if (putS d s k c).2 ≠ 0 then putS d s k c else putsS (putS d s k c).1 s (k + 1) l := rfl
theorem puts_app (s : Sh) : ∀ (l1 l2 : List (List UInt8)) (d : Dk) (k : Nat), (putsS d s k l1).2 = 0 → putsS d s k (l1 ++ l2) = putsS (putsS d s k l1).1 s (k + l1.length) l2
 | [], _, _, _, _ => rfl
 | c :: l1, l2, d, k, h => by
  rw [putsS_cons] at h
  rw [List.cons_append, putsS_cons, putsS_cons d s k c l1]
  by_cases h0 : (putS d s k c).2 = 0
  ·rw [if_neg (by simpa using h0)] at h
   rw [if_neg (by simpa using h0), if_neg (by simpa using h0), puts_app s l1 l2 _ _ h, List.length_cons, show k + 1 + l1.length = k + (l1.length + 1) by omega]
  ·rw [if_pos h0] at h
   exact absurd h h0
theorem puts_err (s : Sh) : ∀ (l1 l2 : List (List UInt8)) (d : Dk) (k : Nat), (putsS d s k l1).2 ≠ 0 → putsS d s k (l1 ++ l2) = putsS d s k l1
 | [], _, _, _, h => absurd rfl h
 | c :: l1, l2, d, k, h => by
  rw [putsS_cons] at h
  rw [List.cons_append, putsS_cons, putsS_cons d s k c l1]
  by_cases h0 : (putS d s k c).2 = 0
  ·rw [if_neg (by simpa using h0)] at h
   rw [if_neg (by simpa using h0), if_neg (by simpa using h0)]
   exact puts_err s l1 l2 _ _ h
  ·rw [if_pos h0, if_pos h0]
theorem putS_waits (d : Dk) (s : Sh) (k : Int) (c : List UInt8) : (putS d s k c).1.waits.length ≤ d.waits.length + 2 := by
 have h1 := (write_pl d (firstN 5 (plaS s k)) (pcD (frmS s k c) 0)).2
 have h2 := (write_pl (writeD d (firstN 5 (plaS s k)) (pcD (frmS s k c) 0)).1 (firstN 5 (plaS s k) + 1) (pcD (frmS s k c) 1)).2
 unfold putS
 split <;> omega
theorem puts_waits (s : Sh) : ∀ (l : List (List UInt8)) (d : Dk) (k : Nat), (putsS d s k l).1.waits.length ≤ d.waits.length + 2 * l.length
 | [], d, k => by simp [putsS]
 | c :: l, d, k => by
  have h1 := putS_waits d s k c
  have h2 := puts_waits s l (putS d s k c).1 (k + 1)
  rw [putsS_cons]
  split
  ·simp only [List.length_cons]; omega
  ·simp only [List.length_cons]; omega
theorem puts_next {s : Sh} {l : List (List UInt8)} {d d1 d2 : Dk} {e : Int} {j : Nat} (hj : j < l.length) (h1 : putsS d s 0 (l.take j) = (d1, 0)) (h2 : putS d1 s (j : Int) l[j] = (d2, e)) : putsS d s 0 (l.take (j + 1)) = (d2, e) := by
 rw [List.take_succ_eq_append_getElem hj, puts_app s _ _ d 0 (by rw [h1]), h1, List.length_take, Nat.min_eq_left (by omega), Nat.zero_add]
 rw [putsS_cons]
 simp only
 rw [h2]
 split
 ·rfl
 ·rename_i h
  have : e = 0 := by simpa using h
  rw [this]
  rfl
theorem puts_stop {s : Sh} {l : List (List UInt8)} {d d2 : Dk} {e : Int} {j : Nat} (h : putsS d s 0 (l.take j) = (d2, e)) (he : e ≠ 0) : putsS d s 0 l = (d2, e) := by
 have := puts_err s (l.take j) (l.drop j) d 0 (by rw [h]; exact he)
 rw [List.take_append_drop] at this
 rw [this, h]
theorem splitC_len (b : List UInt8) : (splitC b).length = numC b.length := by simp [splitC]
theorem splitC_at (b : List UInt8) {j : Nat} (h : j < (splitC b).length) : (splitC b)[j] = pcC b j := by simp [splitC]
end Go.Proofs.YtbdonjenekhmdaaGreatDoor
namespace Go.Proofs.YtbdonjenekhmdaaGreatDoor
open Go.RowKit
structure Kq (B : Nat) (w w' : World) : Prop where
 bl : Below B w w'
 ty : ∀ (j : Nat) (cs : Array Value) (T : TypeId), w.heap[j]? = some (.cells cs T (0, 0)) → T ≠ 95 → T ≠ 255 → T ≠ 219 → T ≠ 101 → w'.heap[j]? = some (.cells cs T (0, 0))
section
variable {B g gp q base c : Nat} {wv : Value} {d : Dk} {w w' w'' : World} {s : Sh} {a : Option Addr} {l : List UInt8}
theorem Kt.kq (h : Kt B w w') : Kq B w w' := ⟨h.bl, fun j cs T a b c d _ => h.ty j cs T a b c d⟩
theorem Kq.trans (h : Kq B w w') (k : Kq B w' w'') : Kq B w w'' := ⟨h.bl.trans k.bl, fun j cs T a b c d e => k.ty j cs T (h.ty j cs T a b c d e) b c d e⟩
theorem Kq.st (hS : ShB w q g s) (hg : w.grownBy w' (some q)) (hB : B ≤ q) : Kq B w w' := by
 refine ⟨(Below.refl B w).grown hg (by have := lt_blk hS; omega) (fun k e => by cases e; exact hB), fun j cs T h _ _ _ h4 => tr_st hg h ?_⟩
 rintro rfl
 rw [hS] at h
 injection h with h
 injection h with _ e
 exact h4 e.symm
theorem OwnB.kq (h : OwnB w base a c l) (hk : Kq B w w') : OwnB w' base a c l := by
 rcases h with h | ⟨g, ys, h1, h2, h3, h4, h5⟩
 ·exact .inl h
 ·exact .inr ⟨g, ys, h1, h2, h3, h4, hk.ty _ _ _ h5 (by decide) (by decide) (by decide) (by decide)⟩
theorem OwnS.kq (h : OwnS w base a c l) (hk : Kq B w w') : OwnS w' base a c l := ⟨h.1.kq hk, h.2⟩
theorem DiskB.sh (h : DiskB B g gp wv d w) (hS : ShB w q g s) (hg : w.grownBy w' (some q)) : DiskB B g gp wv d w' := by
 have hne : ∀ {j : Nat} {xs : Array Value} {T : TypeId}, w.heap[j]? = some (.cells xs T (0, 0)) → T ≠ 101 → q ≠ j := fun hj hT e => by
  subst e
  rw [hS] at hj
  injection hj with hj
  injection hj with _ e
  exact hT e.symm
 exact ⟨tr_st hg h.box (hne h.box (by decide)), tr_st hg h.pls (hne h.pls (by decide)), owns_ne h.wts hg hS (by decide), h.gb, h.pb, h.n0, h.nl, h.lo, h.hi, h.ok, h.wk⟩
theorem st6s (i a c r n : Int) (p : Value) (i' a' c' : Int) : 0 + 3 ≤ (#[Value.int .i64 i, .int .i64 a, .int .i64 c, p, .int .i64 r, .int .i64 n]).size ∧ (Value.agg #[.int .i64 i', .int .i64 a', .int .i64 c']).cells.size = 3 ∧ (∀ u ∈ (Value.agg #[.int .i64 i', .int .i64 a', .int .i64 c']).cells.toList, u.oneCell' = true) ∧ ((#[Value.int .i64 i, .int .i64 a, .int .i64 c, p, .int .i64 r, .int .i64 n]).toList.take 0 ++ (Value.agg #[.int .i64 i', .int .i64 a', .int .i64 c']).cells.toList ++ (#[Value.int .i64 i, .int .i64 a, .int .i64 c, p, .int .i64 r, .int .i64 n]).toList.drop (0 + 3)).toArray = #[.int .i64 i', .int .i64 a', .int .i64 c', p, .int .i64 r, .int .i64 n] :=
 ⟨by simp, rfl, by simp [Value.cells, Value.oneCell'], rfl⟩
def IRes (B g gp q : Nat) (w : World) (r : Dk × Sh × Int) (e : Ending) (w' : World) : Prop := e = .returned (.int .i64 r.2.2) ∧ (∃ wv', DiskB B g gp wv' r.1 w') ∧ ShB w' q g r.2.1 ∧ Kq B w w'
theorem IRes.of {r : Dk × Sh × Int} {x : Int} (hr : r = (d, s, x)) (hd : ∃ wv', DiskB B g gp wv' d w') (hs : ShB w' q g s) (hk : Kq B w w') : IRes B g gp q w r (.returned (.int .i64 x)) w' := by
 subst hr
 exact ⟨rfl, hd, hs, hk⟩
theorem nextS_alike {s : Sh} (hok : ShOk s) {idx : Int} {n : Nat} (h1 : s.idx < idx) (h2 : idx ≤ 1099511627752) (h3 : 1 ≤ n) (h4 : n ≤ 8) : Alike s (nextS s idx n) := by
 have hi := hok.i
 have ha := hok.a
 refine ⟨⟨⟨?_, h2⟩, ?_, ⟨?_, ?_⟩, hok.r, hok.n⟩, ?_, rfl, rfl⟩
 ·show 0 ≤ idx; omega
 ·show 0 ≤ (if 0 < s.idx then 1 - s.area else 0) ∧ (if 0 < s.idx then 1 - s.area else 0) ≤ 1
  split <;> omega
 ·show (0 : Int) ≤ n; omega
 ·show (n : Int) ≤ 8; omega
 ·show (1 : Int) ≤ n; omega
set_option maxRecDepth 100000 in
theorem sinst_bad (h : ShB w q g s) (hd : DiskB B g gp wv d w) (hb : B ≤ w.heap.size) (idx : Int) (a : Option Addr) (cap : Nat) (b : List UInt8) (hi : idx ≤ s.idx ∨ 1099511627752 < idx) :
  Calls Tryz.prog 11 #[.pointer (some ⟨q, 0, none⟩), .int .i64 idx, .slice a b.length cap] w (IRes B g gp q w (d, s, 2)) := by
 have c0 := h.c0
 by_cases h1 : idx ≤ s.idx
 ·clear hi
  go_enter Tryz.func11, Tryz.ntmps11
  go_wp2_with (go_at_call 41; refine (snone_any h).mono ?_; rintro e w1 ⟨rfl, rfl⟩)
  go_ret
  exact IRes.of rfl ⟨_, hd⟩ h (Kt.of (Below.refl _ _) hb).kq
 ·have h2 : 1099511627752 < idx := by omega
  clear hi
  go_enter Tryz.func11, Tryz.ntmps11
  go_wp2_with (go_at_call 41; refine (snone_any h).mono ?_; rintro e w1 ⟨rfl, rfl⟩)
  go_ret
  exact IRes.of rfl ⟨_, hd⟩ h (Kt.of (Below.refl _ _) hb).kq
set_option maxRecDepth 100000 in
theorem sinst_no (h : ShB w q g s) (hd : DiskB B g gp wv d w) (hb : B ≤ w.heap.size) (idx : Int) (a : Option Addr) (cap : Nat) (b : List UInt8) (hs : SlB w a cap b) (hi : ¬ (idx ≤ s.idx ∨ 1099511627752 < idx)) (hl : 640 < b.length ∨ upD d = false) :
  Calls Tryz.prog 11 #[.pointer (some ⟨q, 0, none⟩), .int .i64 idx, .slice a b.length cap] w (IRes B g gp q w (d, s, if 640 < b.length then 3 else 5)) := by
 have c0 := h.c0
 have i1 : ¬ idx ≤ s.idx := by omega
 have i2 : ¬ 1099511627752 < idx := by omega
 have hsp := split_any a cap b w hs
 clear hi
 by_cases h6 : 640 < b.length
 ·rw [if_pos h6]
  clear hl
  go_enter Tryz.func11, Tryz.ntmps11
  go_wp2_with (first
   | (go_at_call 41; refine (snone_any h).mono ?_; rintro e w1 ⟨rfl, rfl⟩)
   | (go_at_call 42; refine hsp.mono ?_; rintro e w2 ⟨hr2, hb2⟩; unfold SplRes at hr2; rw [if_pos h6] at hr2; subst hr2))
  go_ret
  exact IRes.of rfl ⟨_, hd.below hb2⟩ (h.below hb2) (Kt.of hb2 hb).kq
 ·rw [if_neg h6]
  have hu : upD d = false := hl.resolve_left h6
  clear hl
  go_enter Tryz.func11, Tryz.ntmps11
  go_wp2_with (first
   | (go_at_call 41; refine (snone_any h).mono ?_; rintro e w1 ⟨rfl, rfl⟩)
   | (go_at_call 42; refine hsp.mono ?_; rintro e w2 ⟨hr2, hb2⟩; unfold SplRes at hr2; rw [if_neg h6] at hr2; obtain ⟨a2, c2, rfl, hc2⟩ := hr2; have cc3 := (h.below hb2).c3)
   | (go_at_call 43; refine (up_any (hd.below hb2)).mono ?_; rintro e w3 ⟨rfl, rfl⟩; rw [hu]))
  go_ret
  exact IRes.of rfl ⟨_, hd.below hb2⟩ (h.below hb2) (Kt.of hb2 hb).kq
end
end Go.Proofs.YtbdonjenekhmdaaGreatDoor
