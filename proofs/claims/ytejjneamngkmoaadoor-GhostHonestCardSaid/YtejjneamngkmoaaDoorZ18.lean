/- Texts that the claim leans on, part 18: G6, G7, X14, G16, G17. -/
import Derived.Test.YtejjneamngkmoaaDoorZ1
import Derived.Test.YtejjneamngkmoaaDoorZ2
import Derived.Test.YtejjneamngkmoaaDoorZ3
import Derived.Test.YtejjneamngkmoaaDoorZ4
import Derived.Test.YtejjneamngkmoaaDoorZ5
import Derived.Test.YtejjneamngkmoaaDoorZ6
import Derived.Test.YtejjneamngkmoaaDoorZ7
import Derived.Test.YtejjneamngkmoaaDoorZ8
import Derived.Test.YtejjneamngkmoaaDoorZ17
import Derived.Test.YtejjneamngkmoaaDoorRows
import Derived.WalkKit
import Derived.WalkSpells
import Derived.WalkLawsBesides
import Derived.Handy
import Derived.Deep.QuietTactic
import Derived.BigQuiet
import Derived.Deep.DeepCutAuto
import Derived.Lib.Hide
import Derived.RegionTactic
import Derived.ChangeAlike
import Derived.Laws.ResultCell
import Derived.Outline
import Derived.Shelf.Abstract
import Derived.Shelf.RegionOpen
import Derived.OwnWalkIn
import Derived.TacticsInMore
import Derived.LoopNIn
import Derived.LoopIn
import Derived.Maps.AppendAt
import Derived.Laws.Shifts
import Derived.IntWalk
import Derived.RangeFuncNested
import Derived.RangeFuncBound
import Derived.RangeFuncCalls
import Derived.RangeFuncLeaves
import Derived.RangeFuncBox
import Derived.Laws.IdiomStrings
import Derived.Laws.BytesArg
import Derived.Laws.MakeOwn
import Derived.Lib.SliceRun
import Derived.Laws.BitsAllLaws
import Derived.Great.BuildSlice
import Derived.Great.FillDense
import Derived.Laws.Rows
import Derived.Deep.Quiet
import Derived.Deep.RegionHeld3
import Derived.ProofKit
import Derived.OpenShut
import Derived.Laws.CopyOwn
import Derived.Laws.CopyRow
import Derived.Laws.NewBlocks
import Derived.Deep.RegionLaw
namespace Go.Proofs.YtejjneamngkmoaaDoor
open Go.RowKit

theorem results_t1c1t2 {P : Program} {fn : Func} {p t q r s : Nat} {tmps : Array Value} {w : World} {A : Addr} {v : Value} (hf : fn.results = #[.tmp q, .cell p t, .tmp r, .tmp s]) (hp : tmps.getD p undef = .pointer (some A)) (hl : (loadVar t A).run P w = .ok v w) : (results fn tmps).run P w = .ok (.tuple #[tmps.getD q undef, v, tmps.getD r undef, tmps.getD s undef]) w := by
  have hp' : tmps[p]?.getD undef = .pointer (some A) := by simpa using hp
  simp [results, hf, hp', asAddr, hl]
/-- What Honest hands back. -/
def HonRes (r : (Nat × Tg × List UInt8) × Int) (e : Ending) (w' : World) : Prop := ∃ a c, e = .returned (.tuple #[.int .u8 (r.1.1 : Int), tgV r.1.2.1, .slice a r.1.2.2.length c, .int .i64 r.2]) ∧ SlB w' a c r.1.2.2
theorem meantD_len {B g gp : Nat} {wv : Value} {d : Dk} {w : World} (h : DiskB B g gp wv d w) (s : Int) : (meantD d s).1.length ≤ 64 := by
  unfold meantD
  split
  · simp
  · rename_i h0
    obtain ⟨p, _, h2, h3⟩ := there_pl (d := d) (s := s) (by simpa using h0)
    rw [h2]
    have := (h.ok p h3).2
    simp only
    omega
theorem allM_len {B g gp : Nat} {wv : Value} {d : Dk} {w : World} (h : DiskB B g gp wv d w) (a n : Nat) : (allM d a n).length ≤ 64 * n := by
  induction n with
  | zero => simp [allM, allG]
  | succ n ih =>
    unfold allM at ih ⊢
    rw [allG_succ, List.length_append]
    have := meantD_len h ((a + n : Nat) : Int)
    (try simp only)
    omega
set_option maxRecDepth 100000 in
theorem honest_err (p : Value) (n : Nat) (w : World) (h : DiskN w p n) (rep reg pla : Int) (ha : askN n rep reg pla ≠ 0) : Calls Tryd.prog 17 #[p, .int .i64 rep, .int .i64 reg, .int .i64 pla] w fun e w' => HonRes ((0, zeroTg, []), askN n rep reg pla) e w' ∧ Below w.heap.size w w' := by
  have hbA := blw w (Obj.cells #[.int .i64 0, .int .i64 0, .int .i64 0, .int .i64 0, .int .i64 0] 37)
  have hk := asked_any p n (w.alloc (Obj.cells #[.int .i64 0, .int .i64 0, .int .i64 0, .int .i64 0, .int .i64 0] 37)) (h.below hbA) rep reg pla
  have A0 := heap_alloc_new w (Obj.cells #[.int .i64 0, .int .i64 0, .int .i64 0, .int .i64 0, .int .i64 0] 37)
  generalize askN n rep reg pla = x at *
  have e0 : (x != 0) = true := by rw [bne_iff_ne]; exact ha
  clear ha
  go_enter Tryd.func17, Tryd.ntmps17
  refine wp_seq_k (fun K hK => ?_)
  have HK := Lib.hid hK
  clear hK
  go_wp2
  refine HK.out _ _ ?_
  clear HK
  go_wp2_with (first
    | (go_at_call 50; refine hk.mono ?_; rintro e w1 ⟨rfl, hb1⟩; have A1 := tr_bl hb1 A0)
    | ((with_reducible refine wpList_stB 37 _ _ ?_); refine ⟨_, _, _, ⟨_, _, _, Tryd.sizeOf37, rfl, A1, st5 _ rfl 0 0 0 0 0⟩, ?_⟩; intro w5 B5 g5))
  have hb2 := hbA.trans (hb1.mono hbA.size)
  exact bodyPost_ret (results_t1c1t2 rfl rfl (run_loadVar_all Tryd.isAgg37 Tryd.sizeOf37 B5 rfl)) rfl ⟨⟨none, 0, rfl, slb_nil _⟩, bl_st hb2 g5 hb2.size (Nat.le_refl _)⟩
set_option maxRecDepth 100000 in
set_option maxHeartbeats 1000000 in
theorem honest_ok {B g gp : Nat} {wv : Value} {d : Dk} {w : World} (h : DiskB B g gp wv d w) (rep reg pla : Int) (ha : askG d rep reg pla = 0) : Calls Tryd.prog 17 #[.pointer (some ⟨g, 0, none⟩), .int .i64 rep, .int .i64 reg, .int .i64 pla] w fun e w' => HonRes (honG d rep reg pla) e w' ∧ Below w.heap.size w w' := by
  have hfa := ask_first ha
  have hbA := blw w (Obj.cells #[.int .i64 0, .int .i64 0, .int .i64 0, .int .i64 0, .int .i64 0] 37)
  have hk := asked_any _ _ (w.alloc (Obj.cells #[.int .i64 0, .int .i64 0, .int .i64 0, .int .i64 0, .int .i64 0] 37)) (h.below hbA).dn rep reg pla
  have hfi := first_any reg pla
  have hwi := wide_any reg
  unfold honG
  rw [if_neg (by simpa using ha)]
  unfold askG at ha
  rw [ha] at hk
  obtain ⟨f, hf⟩ : ∃ f : Nat, firstN reg pla = f := ⟨(firstN reg pla).toNat, by omega⟩
  obtain ⟨n, hn⟩ : ∃ n : Nat, wideN reg = n := ⟨(wideN reg).toNat, by omega⟩
  rw [hf] at hfi hfa ⊢
  rw [hn] at hwi hfa ⊢
  simp only [Int.toNat_natCast]
  obtain ⟨_, _, _, _, _, _, _, _, hfn, hn1, hn2⟩ := hfa
  have hfn' : f + n ≤ 156 := by omega
  have hn2' : n ≤ 2 := by omega
  clear ha hf hn hfn hn2
  obtain ⟨st, tg, body, hr⟩ : ∃ st tg body, mineF (allM d f n) rep reg pla = (st, tg, body) := ⟨_, _, _, rfl⟩
  simp only [hr]
  have HR := Lib.hid hr
  clear hr
  have A0 := heap_alloc_new w (Obj.cells #[.int .i64 0, .int .i64 0, .int .i64 0, .int .i64 0, .int .i64 0] 37)
  go_enter Tryd.func17, Tryd.ntmps17
  refine wp_seq_k (fun K hK => ?_)
  have HK := Lib.hid hK
  clear hK
  go_wp2
  refine HK.out _ _ ?_
  clear HK
  have hdA := h.below hbA
  have hqA : w.heap.size < (w.alloc (Obj.cells #[.int .i64 0, .int .i64 0, .int .i64 0, .int .i64 0, .int .i64 0] 37)).heap.size := by simp
  generalize w.alloc (Obj.cells #[.int .i64 0, .int .i64 0, .int .i64 0, .int .i64 0, .int .i64 0] 37) = w0 at *
  refine wp_seq_k (fun K hK => ?_)
  have HK := Lib.hid hK
  clear hK
  go_wp2_with (go_at_call 50; refine hk.mono ?_; rintro e w1 ⟨rfl, hb1⟩)
  refine HK.out _ _ ?_
  clear HK
  refine wp_seq_k (fun K hK => ?_)
  have HK := Lib.hid hK
  clear hK
  go_wp2
  refine HK.out _ _ ?_
  clear HK
  refine wp_seq_k (fun K hK => ?_)
  have HK := Lib.hid hK
  clear hK
  go_wp2_with (go_at_call 51; refine (hwi _).mono ?_; rintro e w2 ⟨rfl, hb2⟩)
  have hb3 := hb1.trans (hb2.mono hb1.size)
  have A3 := tr_bl hb3 A0
  have hd3 := hdA.below hb3
  have hb4 := hbA.trans (hb3.mono hbA.size)
  clear hb1 hb2 hb3 hk hwi hdA A0
  go_loopw [31, 13, 14, 15, 16] (fun s all _ _ _ wr => ∃ (j : Nat) (v : Value), j ≤ n ∧ s = .int .i64 (j : Int) ∧ all = v ∧ wr.ownsRow w2.heap.size 5 1 v (allM d f j).length (bys (allM d f j)) ∧ Below w2.heap.size w2 wr) (fun s _ _ _ _ _ => n - (intOf s).toNat)
  case atStart => exact ⟨0, _, by omega, by simp, rfl, World.ownsRow_nil _ _ _ _, Below.refl _ _⟩
  case round =>
    obtain ⟨j, v, hj, rfl, rfl, hown, hbr⟩ := hrel
    have hdr := hd3.below hbr
    by_cases hlt : j < n
    case pos =>
      have hil : (j : Int) < (n : Int) := by omega
      have hle := allM_len h f j
      have hrl := meantD_len h ((f + j : Nat) : Int)
      have hsn := allG_succ (fun s => (meantD d s).1) f j
      have hre := fun (w' : World) (hd : DiskB B g gp wv d w') => meant_sl hd ((f + j : Nat) : Int)
      change allM d f (j + 1) = allM d f j ++ _ at hsn
      (try simp only at hsn)
      simp only [Int.natCast_add] at hre hrl hsn
      generalize meantD d ((f : Int) + (j : Int)) = r at *
      obtain ⟨rl, er⟩ := r
      (try simp only at hre)
      (try simp only at hrl)
      (try simp only at hsn)
      have HSN := Lib.hid hsn
      clear hsn
      generalize hal : allM d f j = al at *
      clear hal
      go_wp2_with (first
        | (go_at_call 32; refine (hfi _).mono ?_; rintro e w7 ⟨rfl, hb7⟩; have hre7 := hre _ (hdr.below hb7); have hb77 := hbr.trans (hb7.mono hbr.size); have ho7 := owns_bl hown hb7)
        | (go_at_call 54; refine hre7.mono ?_; rintro e w8 ⟨⟨a8, c8, rfl, s8⟩, hb8⟩; have ho8 := owns_bl ho7 hb8; have hb9 := hb77.trans (hb8.mono hb77.size); have hr8 := s8.row)
        | (at_builtin; refine wpList_append_row rfl _ _ 38 5 elByte rfl w2.heap.size _ al.length (bys al) rfl ho8 a8 rl.length c8 (bys rl) rfl (by rw [bys_len]; omega) hr8 bys_one (by omega) (by decide) hb9.size ?_; intro v9 w9 ho9 hb10))
      rw [← bys_app] at ho9
      go_roundw
      case rel => exact ⟨j + 1, v9, by omega, by go_num, rfl, by rw [HSN.out, List.length_append]; exact ho9, hb9.trans hb10⟩
      case measure => simp [intOf]; omega
    case neg =>
      obtain rfl : j = n := by omega
      obtain ⟨a9, c9, rfl, s9⟩ := SlB.of_owns hown
      have hmi := mine_any a9 c9 (allM d f j) rep reg pla wr s9 (by have := allM_len h f j; omega)
      rw [HR.out] at hmi
      have A4 := tr_bl hbr A3
      have hb5 := hb4.trans (hbr.mono hb4.size)
      clear hdr hd3 hb4 A3 hown
      go_wp2
      refine HK.out _ _ ?_
      clear HK
      refine wp_seq_k (fun K hK => ?_)
      have HK := Lib.hid hK
      clear hK
      go_wp2_with (first
              | (go_at_call 33; refine hmi.mono ?_; rintro e w8 ⟨⟨a8, c8, rfl, ho8⟩, hb8⟩)
              | ((first | (with_reducible refine wpList_stNew 37 _ _ ?_) | (with_reducible refine wp_stNew 37 _ _ ?_)); refine ⟨_, _, ⟨Tryd.sizeOf37, rfl, tg_new _⟩, rfl, ?_⟩))
      refine HK.out _ _ ?_
      clear HK
      have A8 := tr_al (Obj.cells #[.int .i64 tg.rep, .int .i64 tg.reg, .int .i64 tg.pla, .int .i64 tg.idx, .int .i64 tg.inc] 37) (tr_bl hb8 A4)
      have T8 := heap_alloc_new w8 (Obj.cells #[.int .i64 tg.rep, .int .i64 tg.reg, .int .i64 tg.pla, .int .i64 tg.idx, .int .i64 tg.inc] 37)
      have hb9 := (hb5.trans (hb8.mono hb5.size)).alloc (by have := hb5.size; have := hb8.size; omega) (Obj.cells #[.int .i64 tg.rep, .int .i64 tg.reg, .int .i64 tg.pla, .int .i64 tg.idx, .int .i64 tg.inc] 37)
      have ho9 := ho8.below (blw w8 (Obj.cells #[.int .i64 tg.rep, .int .i64 tg.reg, .int .i64 tg.pla, .int .i64 tg.idx, .int .i64 tg.inc] 37))
      have hne : w.heap.size ≠ w8.heap.size := by have := hb5.size; have := hb8.size; have := lt_blk A4; omega
      clear hb5 hbr hb8 ho8 A4 hmi s9
      generalize w8.alloc (Obj.cells #[.int .i64 tg.rep, .int .i64 tg.reg, .int .i64 tg.pla, .int .i64 tg.idx, .int .i64 tg.inc] 37) = w9 at *
      generalize w8.heap.size = q8 at *
      refine wp_seq_k (fun K hK => ?_)
      have HK := Lib.hid hK
      clear hK
      go_wp2_with fail
      have hbd := (Below.refl w9.heap.size w9).drew
      have F4 := tr_bl hbd A8
      have T11 := tr_bl hbd T8
      have hb14 := hb9.trans (hbd.mono hb9.size)
      have ho11 := ho9.below hbd
      clear A8 T8 hb9 ho9
      refine wp_region_held_drew (S := fun w' => w'.heap[q8]? = some (.cells #[.int .i64 tg.rep, .int .i64 tg.reg, .int .i64 tg.pla, .int .i64 tg.idx, .int .i64 tg.inc] 37 (0, 0))) (by kernel_rfl) T11 (fun hS0 => ?_)
      clear hbd
      generalize w9.drew = x0 at *
      refine wpAnyH_take (i := 0) (oi := ⟨_, _, _, _, _, _⟩) (v := ?_) rfl (by kernel_rfl) (by kernel_rfl) (by kernel_rfl) (fun _ _ _ h => h) (Or.inl ⟨by rfl, ?_⟩) (by assumption) ?_
      rotate_left
      · intro wS hSw
        go_simp; (try with_reducible rfl)
      (try simp only [Act.put])
      (try simp only [List.setIfInBounds_toArray])
      (try simp only [List.set_cons_succ])
      (try simp only [List.set_cons_zero])
      refine wpAnyH_take (i := 1) (oi := ⟨_, _, _, _, _, _⟩) (v := .agg (#[.int .i64 tg.rep, .int .i64 tg.reg, .int .i64 tg.pla, .int .i64 tg.idx, .int .i64 tg.inc])) rfl (by kernel_rfl) (by kernel_rfl) (by kernel_rfl) (fun _ _ _ h => h) (Or.inl ⟨by rfl, fun wS hSw => ?_⟩) (by assumption) ?_
      · exact exec_ldB 37 _ ⟨_, _, _, _, _, Tryd.isAgg37, Tryd.sizeOf37, rfl, hSw, ld5 _ _ _ _ _⟩
      (try simp only [Act.put])
      (try simp only [List.setIfInBounds_toArray])
      (try simp only [List.set_cons_succ])
      (try simp only [List.set_cons_zero])
      refine wpAnyH_take (i := 2) (oi := ⟨_, _, _, _, _, _⟩) (v := ?_) rfl (by kernel_rfl) (by kernel_rfl) (by kernel_rfl) (fun _ _ _ h => h) (Or.inl ⟨by rfl, ?_⟩) (by assumption) ?_
      rotate_left
      · intro wS hSw
        go_simp; (try with_reducible rfl)
      (try simp only [Act.put])
      (try simp only [List.setIfInBounds_toArray])
      (try simp only [List.set_cons_succ])
      (try simp only [List.set_cons_zero])
      refine wpAnyH_take (i := 3) (oi := ⟨_, _, _, _, _, _⟩) (v := ?_) rfl (by kernel_rfl) (by kernel_rfl) (by kernel_rfl) (fun _ _ _ h => h) (Or.inl ⟨by rfl, ?_⟩) (by assumption) ?_
      rotate_left
      · intro wS hSw
        go_simp; (try with_reducible rfl)
      (try simp only [Act.put])
      (try simp only [List.setIfInBounds_toArray])
      (try simp only [List.set_cons_succ])
      (try simp only [List.set_cons_zero])
      refine wpAnyH_ready (rs := [4]) (by kernel_rfl) (by simp) ?_
      refine AllReadyH.cons (o := ⟨_, _, _, _, _, _⟩) rfl (fun K' hK' => ?_) AllReadyH.nil
      refine (if_pos (by rfl)).mpr ?_
      refine wp_stB 37 _ _ ?_
      refine ⟨_, _, _, ⟨_, _, _, Tryd.sizeOf37, rfl, F4, st5 _ rfl tg.rep tg.reg tg.pla tg.idx tg.inc⟩, ?_⟩
      intro w11 B11 g11
      refine hK'.out _ _ (tr_st g11 hS0 hne) (fun _ => ?_)
      clear hK'
      (try simp only [Act.put])
      (try simp only [List.setIfInBounds_toArray])
      (try simp only [List.set_cons_succ])
      (try simp only [List.set_cons_zero])
      refine wpAnyH_take (i := 5) (oi := ⟨_, _, _, _, _, _⟩) (v := ?_) rfl (by kernel_rfl) (by kernel_rfl) (by kernel_rfl) (fun _ _ _ h => h) (Or.inl ⟨by rfl, ?_⟩) (by assumption) ?_
      rotate_left
      · intro wS hSw
        go_simp; (try with_reducible rfl)
      (try simp only [Act.put])
      (try simp only [List.setIfInBounds_toArray])
      (try simp only [List.set_cons_succ])
      (try simp only [List.set_cons_zero])
      refine wpAnyH_take (i := 6) (oi := ⟨_, _, _, _, _, _⟩) (v := ?_) rfl (by kernel_rfl) (by kernel_rfl) (by kernel_rfl) (fun _ _ _ h => h) (Or.inl ⟨by rfl, ?_⟩) (by assumption) ?_
      rotate_left
      · intro wS hSw
        go_simp; (try with_reducible rfl)
      (try simp only [Act.put])
      (try simp only [List.setIfInBounds_toArray])
      (try simp only [List.set_cons_succ])
      (try simp only [List.set_cons_zero])
      refine wpAnyH_done (by kernel_rfl) ?_ _
      refine HK.out _ _ ?_
      clear HK
      go_wp2
      exact bodyPost_ret (results_t1c1t2 rfl rfl (run_loadVar_all Tryd.isAgg37 Tryd.sizeOf37 B11 rfl)) rfl ⟨⟨a8, c8, rfl, (ho11.st g11 F4 (by decide)).slb⟩, bl_st hb14 g11 hb14.size (Nat.le_refl _)⟩
theorem honest_any {B g gp : Nat} {wv : Value} {d : Dk} {w : World} (h : DiskB B g gp wv d w) (rep reg pla : Int) : Calls Tryd.prog 17 #[.pointer (some ⟨g, 0, none⟩), .int .i64 rep, .int .i64 reg, .int .i64 pla] w fun e w' => HonRes (honG d rep reg pla) e w' ∧ Below w.heap.size w w' := by
  by_cases ha : askG d rep reg pla = 0
  · exact honest_ok h rep reg pla ha
  · have := honest_err _ _ w h.dn rep reg pla ha
    unfold honG
    rw [if_pos ha]
    exact this
end Go.Proofs.YtejjneamngkmoaaDoor

namespace Go.Proofs.YtejjneamngkmoaaDoor
open Go.RowKit

theorem seenR_no {d : Dk} {rep : Int} {r p : Nat} (hr : r < 5) (hp : p < (placesN ((r + 1 : Nat) : Int)).toNat) (h : (placeG d rep ((r + 1 : Nat) : Int) p).1 ≠ (placeG d rep ((r + 1 : Nat) : Int) p).2.1) : seenR d rep 5 = false := by
  rw [Bool.eq_false_iff]
  intro hh
  unfold seenR at hh
  rw [List.all_eq_true] at hh
  have h1 := hh r (List.mem_range.2 hr)
  unfold seenP at h1
  rw [List.all_eq_true] at h1
  have h2 := h1 p (List.mem_range.2 hp)
  exact h (eq_of_beq h2)
set_option maxRecDepth 100000 in
theorem seen_err (p : Value) (n : Nat) (w : World) (h : DiskN w p n) (rep : Int) (ha : askN n rep 1 0 ≠ 0) : Calls Tryd.prog 16 #[p, .int .i64 rep] w fun e w' => e = .returned (.tuple #[.bool false, .int .i64 (askN n rep 1 0)]) ∧ Below w.heap.size w w' := by
  have hk := asked_any p n w h rep 1 0
  generalize askN n rep 1 0 = x at *
  have e0 : (x != 0) = true := by rw [bne_iff_ne]; exact ha
  clear ha
  go_enter Tryd.func16, Tryd.ntmps16
  go_wp2_with (go_at_call 50; refine hk.mono ?_; rintro e w1 ⟨rfl, hb1⟩)
  go_ret2
  exact ⟨rfl, hb1⟩
set_option maxRecDepth 100000 in
set_option maxHeartbeats 1000000 in
theorem seen_ok {B g gp : Nat} {wv : Value} {d : Dk} {w : World} (h : DiskB B g gp wv d w) (rep : Int) (ha : askG d rep 1 0 = 0) : Calls Tryd.prog 16 #[.pointer (some ⟨g, 0, none⟩), .int .i64 rep] w fun e w' => e = .returned (.tuple #[.bool (seenG d rep).1, .int .i64 (seenG d rep).2]) ∧ Below w.heap.size w w' := by
  have hk := asked_any _ _ w h.dn rep 1 0
  unfold seenG
  rw [if_neg (by simpa using ha)]
  unfold askG at ha
  rw [ha] at hk
  clear ha
  obtain ⟨res, hres⟩ : ∃ res, seenR d rep 5 = res := ⟨_, rfl⟩
  simp only [hres]
  have HRES := Lib.hid hres
  clear hres
  go_enter Tryd.func16, Tryd.ntmps16
  refine wp_seq_k (fun K hK => ?_)
  have HK := Lib.hid hK
  clear hK
  go_wp2
  refine HK.out _ _ ?_
  clear HK
  refine wp_seq_k (fun K hK => ?_)
  have HK := Lib.hid hK
  clear hK
  go_wp2_with (go_at_call 50; refine hk.mono ?_; rintro e w1 ⟨rfl, hb1⟩)
  refine HK.out _ _ ?_
  clear HK
  refine wp_seq_k (fun K hK => ?_)
  have HK := Lib.hid hK
  clear hK hk
  go_wp2
  go_loopw [7, 8, 9, 10, 11] (fun s _ _ _ _ wr => ∃ r : Nat, r ≤ 5 ∧ s = .int .i64 ((r : Int) + 1) ∧ seenR d rep r = true ∧ Below w.heap.size w wr) (fun s _ _ _ _ _ => 6 - (intOf s).toNat)
  case atStart => exact ⟨0, by omega, rfl, rfl, hb1⟩
  case round =>
    obtain ⟨r, hr5, rfl, hsr, hbr⟩ := hrel
    have hps := places_any ((r : Int) + 1)
    obtain ⟨N, hN, hN2, hN3, hN48⟩ : ∃ N : Nat, placesN ((r : Int) + 1) = N ∧ (r < 5 → 0 < N) ∧ (r = 5 → N = 0) ∧ N ≤ 48 := by
      rcases (show r = 0 ∨ r = 1 ∨ r = 2 ∨ r = 3 ∨ r = 4 ∨ r = 5 by omega) with rfl | rfl | rfl | rfl | rfl | rfl
      · exact ⟨2, rfl, by omega, by omega, by omega⟩
      · exact ⟨2, rfl, by omega, by omega, by omega⟩
      · exact ⟨24, rfl, by omega, by omega, by omega⟩
      · exact ⟨48, rfl, by omega, by omega, by omega⟩
      · exact ⟨16, rfl, by omega, by omega, by omega⟩
      · exact ⟨0, rfl, by omega, by omega, by omega⟩
    rw [hN] at hps
    have HN := Lib.hid hN
    have HSR := Lib.hid hsr
    clear hN hsr
    by_cases hlt : r < 5
    case neg =>
      obtain rfl : r = 5 := by omega
      obtain rfl := hN3 rfl
      have hres : res = true := by rw [← HRES.out, HSR.out]
      clear hN2 hN3 hlt HN
      subst hres
      go_wp2_with (go_at_call 53; refine (hps _).mono ?_; rintro e w2 ⟨rfl, hb2⟩)
      refine HK.out _ _ ?_
      clear HK
      go_wp2
      go_ret2
      exact ⟨rfl, hbr.trans (hb2.mono hbr.size)⟩
    case pos =>
      have hN0 : (0 : Int) < (N : Int) := by have := hN2 hlt; omega
      clear hN2 hN3
      refine wp_seq_k (fun K2 hK2 => ?_)
      have HK2 := Lib.hid hK2
      clear hK2
      go_wp2_with (go_at_call 53; refine (hps _).mono ?_; rintro e w2 ⟨rfl, hb2⟩)
      refine HK2.out _ _ ?_
      clear HK2
      have hb3 := hbr.trans (hb2.mono hbr.size)
      clear hbr hb2
      refine wp_seq_k (fun K3 hK3 => ?_)
      have HK3 := Lib.hid hK3
      clear hK3
      go_wp2_with (go_at_call 53; refine (hps _).mono ?_; rintro e w3 ⟨rfl, hb4⟩)
      have hb5 := hb3.trans (hb4.mono hb3.size)
      clear hb3 hb4
      go_loopw [25, 8, 9, 10, 11] (fun s _ _ _ _ wr => ∃ p : Nat, p ≤ N ∧ s = .int .i64 (p : Int) ∧ seenP d rep (r + 1) p = true ∧ Below w.heap.size w wr) (fun s _ _ _ _ _ => N - (intOf s).toNat)
      case atStart => exact ⟨0, by omega, rfl, rfl, hb5⟩
      case round =>
        clear hb5
        obtain ⟨p, hpN, rfl, hsp, hbp⟩ := hrel
        have HSP := Lib.hid hsp
        clear hsp
        by_cases hpl : p < N
        case pos =>
          have hpi : (p : Int) < (N : Int) := by omega
          have hpl2 := place_any (h.below hbp) rep ((r : Int) + 1) (p : Int)
          have hno := fun hh => seenR_no (d := d) (rep := rep) hlt (p := p) (by rw [Int.natCast_succ, HN.out]; simpa using hpl) hh
          have hye := seenP_succ d rep (r + 1) p
          rw [HSP.out, Bool.true_and] at hye
          rw [Int.natCast_succ] at hno hye
          obtain ⟨hu, se, er, hpg⟩ : ∃ hu se er, placeG d rep ((r : Int) + 1) (p : Int) = (hu, se, er) := ⟨_, _, _, rfl⟩
          rw [hpg] at hpl2 hno hye
          clear hpg
          simp only at hpl2 hno hye
          by_cases heq : hu = se
          case pos =>
            subst heq
            have HYE := Lib.hid (show seenP d rep (r + 1) (p + 1) = true by rw [hye]; simp)
            clear hno hye
            cases hu
            all_goals
              go_wp2_with (first
                | (go_at_call 15; refine hpl2.mono ?_; rintro e w5 ⟨rfl, hb5⟩))
              go_roundw
              case rel => exact ⟨p + 1, by omega, by go_num, HYE.out, hbp.trans (hb5.mono hbp.size)⟩
              case measure => simp [intOf]; omega
          case neg =>
            have hres : res = false := by rw [← HRES.out]; exact hno heq
            subst hres
            clear hno hye
            have hse : se = !hu := by revert heq; cases hu <;> cases se <;> simp
            subst hse
            clear heq
            cases hu
            all_goals
              simp only [Bool.not_false, Bool.not_true] at hpl2
              go_wp2_with (first
                | (go_at_call 15; refine hpl2.mono ?_; rintro e w5 ⟨rfl, hb5⟩))
              go_ret2
              exact ⟨rfl, hbp.trans (hb5.mono hbp.size)⟩
        case neg =>
          obtain rfl : p = N := by omega
          have HS2 := Lib.hid (show seenR d rep (r + 1) = true by
            rw [seenR_succ, HSR.out, Bool.true_and, Int.natCast_succ, HN.out]
            exact HSP.out)
          go_wp2
          refine HK3.out _ _ ?_
          clear HK3
          go_wp2
          go_roundw
          case rel => exact ⟨r + 1, by omega, by go_num, HS2.out, hbp⟩
          case measure => simp [intOf]; omega
theorem seen_any {B g gp : Nat} {wv : Value} {d : Dk} {w : World} (h : DiskB B g gp wv d w) (rep : Int) : Calls Tryd.prog 16 #[.pointer (some ⟨g, 0, none⟩), .int .i64 rep] w fun e w' => e = .returned (.tuple #[.bool (seenG d rep).1, .int .i64 (seenG d rep).2]) ∧ Below w.heap.size w w' := by
  by_cases ha : askG d rep 1 0 = 0
  · exact seen_ok h rep ha
  · have := seen_err _ _ w h.dn rep ha
    unfold seenG
    rw [if_pos ha]
    exact this
end Go.Proofs.YtejjneamngkmoaaDoor

namespace Go.Proofs.YtejjneamngkmoaaDoor

/-! Acts that came in. -/
structure A5 where
  kind : Nat
  sec : Int
  n : Int
  ba : Option Addr
  bytes : List UInt8
  bc : Nat
  ka : Option Addr
  keep : List Bool
  kc : Nat
structure A6 where
  sl : Bool
  tg : Tg
  oa : Option Addr
  body : List UInt8
  oc : Nat
  dk : A5
def do5A (d : Dk) (x : A5) : Dk × Int := do5 d x.kind x.sec x.n x.bytes x.keep
def wideT (t : Tg) : Nat := if mayTg t = true then (wideN t.reg).toNat else 0
/-- The frame, or none; why there is none. -/
def sealR (t : Tg) (body : List UInt8) (n : Nat) : List UInt8 := if mayTg t = true ∧ roomN (64 * n) ≠ 0 ∧ body.length ≤ roomN (64 * n) then sealF t body (64 * n) else []
def sealE (t : Tg) (body : List UInt8) (n : Nat) : Int := if mayTg t = false ∨ roomN (64 * n) = 0 then 2 else if roomN (64 * n) < body.length then 3 else 0
def pcD (b : List UInt8) (k : Nat) : List UInt8 := (b.drop (64 * k)).take 64
/-- So many sectors are written. -/
def putsD (d : Dk) (f : Int) (b : List UInt8) : Nat → Dk
  | 0 => d
  | k + 1 => (writeD (putsD d f b k) (f + k) (pcD b k)).1
def do6 (d : Dk) (x : A6) : Dk := if x.sl = false then (do5A d x.dk).1 else putsD d (firstN x.tg.reg x.tg.pla) (sealR x.tg x.body (wideT x.tg)) ((sealR x.tg x.body (wideT x.tg)).length / 64)
def fault (x : A6) : Bool := !x.sl && (decide (3 ≤ x.dk.kind % 9) && decide (x.dk.kind % 9 ≤ 5))
theorem wideN_le (r : Int) : 0 ≤ wideN r ∧ wideN r ≤ 2 := by
  unfold wideN
  repeat' split
  all_goals omega
theorem wideT_le (t : Tg) : wideT t ≤ 2 := by
  unfold wideT
  split
  · have := wideN_le t.reg; omega
  · omega
theorem wide_may {t : Tg} (h : mayTg t = true) : (wideT t : Int) = wideN t.reg ∧ 1 ≤ wideT t ∧ wideT t ≤ 2 := by
  obtain ⟨h1, h2, _⟩ := mayTg_small h
  have h3 := wideN_le t.reg
  have h4 : 1 ≤ wideN t.reg := by
    have hr : t.reg = 1 ∨ t.reg = 2 ∨ t.reg = 3 ∨ t.reg = 4 ∨ t.reg = 5 := by omega
    unfold wideN
    rcases hr with h | h | h | h | h <;> rw [h] <;> decide
  unfold wideT
  rw [if_pos h]
  omega
theorem room_wide {n : Nat} (h1 : 1 ≤ n) (h2 : n ≤ 2) : roomN (64 * n) ≠ 0 ∧ 43 ≤ roomN (64 * n) := by
  rcases (show n = 1 ∨ n = 2 by omega) with rfl | rfl <;> decide
theorem sealR_len (t : Tg) (body : List UInt8) (n : Nat) : (sealR t body n).length = 64 * n ∧ (n = 1 ∨ n = 2) ∧ sealE t body n = 0 ∨ (sealR t body n).length = 0 ∧ sealE t body n ≠ 0 := by
  unfold sealR sealE
  by_cases h1 : mayTg t = true
  · by_cases h2 : roomN (64 * n) = 0
    · rw [if_neg (by simp [h2]), if_pos (.inr h2)]
      exact .inr ⟨rfl, by decide⟩
    · by_cases h3 : body.length ≤ roomN (64 * n)
      · rw [if_pos ⟨h1, h2, h3⟩, if_neg (by simp [h1, h2]), if_neg (by omega)]
        have hn := (roomN_of (n := 64 * n) (by omega)).1
        exact .inl ⟨sealF_len (by omega) h3, by omega, rfl⟩
      · rw [if_neg (by omega), if_neg (by simp [h1, h2]), if_pos (by omega)]
        exact .inr ⟨rfl, by decide⟩
  · rw [if_neg (by simp [h1]), if_pos (.inl (by simpa using h1))]
    exact .inr ⟨rfl, by decide⟩
theorem sealR_le (t : Tg) (body : List UInt8) (n : Nat) : (sealR t body n).length ≤ 128 ∧ (sealR t body n).length / 64 ≤ 2 := by
  rcases sealR_len t body n with ⟨h, h2, _⟩ | ⟨h, _⟩ <;> omega
theorem sealR_may {t : Tg} (h : mayTg t = true) {body : List UInt8} (hb : body.length ≤ 43) : sealR t body (wideT t) = sealF t body (64 * wideT t) ∧ sealE t body (wideT t) = 0 := by
  obtain ⟨_, h1, h2⟩ := wide_may h
  obtain ⟨h3, h4⟩ := room_wide h1 h2
  unfold sealR sealE
  rw [if_pos ⟨h, h3, by omega⟩, if_neg (by simp [h, h3]), if_neg (by omega)]
  exact ⟨rfl, rfl⟩
theorem puts_pl (d : Dk) (f : Int) (b : List UInt8) : ∀ k, (putsD d f b k).pl = d.pl ∧ (putsD d f b k).waits.length ≤ d.waits.length + k
  | 0 => ⟨rfl, by simp [putsD]⟩
  | k + 1 => by
    obtain ⟨h1, h2⟩ := puts_pl d f b k
    obtain ⟨h3, h4⟩ := write_pl (putsD d f b k) (f + k) (pcD b k)
    exact ⟨h3.trans h1, by show (writeD (putsD d f b k) (f + k) (pcD b k)).1.waits.length ≤ _; omega⟩
theorem do6_wk {d : Dk} {m : Nat} (h : Wk d m) (x : A6) : Wk (do6 d x) (m + 2) := by
  unfold do6
  split
  · have := do5_wk h x.dk.kind x.dk.sec x.dk.n x.dk.bytes x.dk.keep
    exact ⟨this.len, by have := this.wt; unfold do5A; omega⟩
  · obtain ⟨h1, h2⟩ := puts_pl d (firstN x.tg.reg x.tg.pla) (sealR x.tg x.body (wideT x.tg)) ((sealR x.tg x.body (wideT x.tg)).length / 64)
    exact ⟨by rw [h1]; exact h.len, by have := h.wt; have := (sealR_le x.tg x.body (wideT x.tg)).2; omega⟩
theorem do6_clean {d : Dk} (h : CleanL d.pl) {x : A6} (hx : x.sl = true ∨ x.dk.kind % 9 < 3 ∨ 5 < x.dk.kind % 9) : CleanL (do6 d x).pl := by
  unfold do6
  split
  · rename_i h1
    exact do5_clean h (hx.resolve_left (by rw [h1]; decide)) x.dk.sec x.dk.n x.dk.bytes x.dk.keep
  · rw [(puts_pl d _ _ _).1]
    exact h
theorem do6_meant {d : Dk} {x : A6} (hx : fault x = true) (j : Int) : meantD (do6 d x) j = meantD d j := by
  unfold fault at hx
  simp only [Bool.and_eq_true, Bool.not_eq_true', decide_eq_true_eq] at hx
  unfold do6
  rw [if_pos hx.1]
  exact do5_meant hx.2 x.dk.sec x.dk.n x.dk.bytes x.dk.keep j

/-! A frame that is put. -/
structure Ready (d : Dk) : Prop where
  len : d.pl.length = 156
  dn : d.down = false
  de : d.dead = false
  lf : d.left < 0 ∨ 4 ≤ d.left
theorem puts_ready {d : Dk} (h : Ready d) {f : Nat} {b : List UInt8} : ∀ k, k ≤ 2 → f + k ≤ 156 → 64 * k ≤ b.length →
    ((putsD d f b k).pl = d.pl ∧ (putsD d f b k).down = false ∧ (putsD d f b k).dead = false ∧ ((putsD d f b k).left < 0 ∨ (putsD d f b k).left + k ≥ 4) ∧ (putsD d f b k).waits = d.waits ++ (List.range k).map (fun j => (pcD b j, f + j))) ∧
    (∀ j, j < k → (writeD (putsD d f b j) ((f : Int) + j) (pcD b j)).2 = 0)
  | 0, _, _, _ => ⟨⟨rfl, h.dn, h.de, by have := h.lf; show d.left < 0 ∨ d.left + 0 ≥ 4; omega, by simp [putsD]⟩, fun j hj => absurd hj (by omega)⟩
  | k + 1, h2, h3, h4 => by
    obtain ⟨⟨e1, e2, e3, e4, e5⟩, hw⟩ := puts_ready h (f := f) (b := b) k (by omega) (by omega) (by omega)
    have hlv : liveD (putsD d f b k) ((f : Int) + k) = 0 := by
      unfold liveD thereD
      rw [e1, e2, e3, h.len]
      rw [if_neg (by simp), if_neg (by decide), if_neg (by omega)]
    have hpl : (pcD b k).length = 64 := by unfold pcD; rw [List.length_take, List.length_drop]; omega
    have hsp : spendD (putsD d f b k) = (if 0 < (putsD d f b k).left then ({ putsD d f b k with left := (putsD d f b k).left - 1 }, 0) else (putsD d f b k, 0)) := by
      unfold spendD
      rw [if_neg (by omega)]
    have hwr : writeD (putsD d f b k) ((f : Int) + k) (pcD b k) = ({ (spendD (putsD d f b k)).1 with waits := (spendD (putsD d f b k)).1.waits ++ [(pcD b k, f + k)] }, 0) := by
      unfold writeD
      rw [if_neg (by simp [hlv]), if_neg (by simp [hpl]), if_neg (by rw [hsp]; split <;> simp), show ((f : Int) + k).toNat = f + k by omega]
    have hs1 : (spendD (putsD d f b k)).1.pl = d.pl ∧ (spendD (putsD d f b k)).1.down = false ∧ (spendD (putsD d f b k)).1.dead = false ∧ ((spendD (putsD d f b k)).1.left < 0 ∨ (spendD (putsD d f b k)).1.left + ((k + 1 : Nat) : Int) ≥ 4) ∧ (spendD (putsD d f b k)).1.waits = d.waits ++ (List.range k).map (fun j => (pcD b j, f + j)) := by
      rw [hsp]
      split
      · exact ⟨e1, e2, e3, by simp only; omega, e5⟩
      · exact ⟨e1, e2, e3, by simp only; omega, e5⟩
    refine ⟨?_, fun j hj => ?_⟩
    · rw [show putsD d f b (k + 1) = (writeD (putsD d f b k) ((f : Int) + k) (pcD b k)).1 from rfl, hwr]
      refine ⟨hs1.1, hs1.2.1, hs1.2.2.1, hs1.2.2.2.1, ?_⟩
      simp only
      rw [hs1.2.2.2.2, List.range_succ, List.map_append, List.append_assoc]
      rfl
    · by_cases hjk : j = k
      · subst hjk
        rw [hwr]
      · exact hw j (by omega)
theorem thru_app : ∀ (a b : List (List UInt8 × Nat)) (pl : List Pl) (k : Nat) (is : Nat → Bool), thruD pl (a ++ b) k is = thruD (thruD pl a k is) b (k + a.length) is
  | [], _, _, _, _ => rfl
  | (x, s) :: a, b, pl, k, is => by
    simp only [List.cons_append, thruD, List.length_cons]
    rw [thru_app a b]
    congr 1
    omega
/-- A place whose sectors hold, and are meant to hold, a frame. -/
structure Held (d : Dk) (f : Nat) (b : List UInt8) (n : Nat) : Prop where
  len : d.pl.length = 156
  at_ : ∀ k, k < n → d.pl[f + k]? = some ⟨pcD b k, pcD b k, false⟩
theorem put_held {d : Dk} (h : Ready d) {f n : Nat} {b : List UInt8} (h1 : 1 ≤ n) (h2 : n ≤ 2) (h3 : f + n ≤ 156) (h4 : b.length = 64 * n) :
    (flushD (putsD d f b n)).2 = 0 ∧ Held (flushD (putsD d f b n)).1 f b n ∧ (flushD (putsD d f b n)).1.waits = [] := by
  obtain ⟨⟨e1, e2, e3, e4, e5⟩, _⟩ := puts_ready h (f := f) (b := b) n h2 h3 (by omega)
  have hlv : live0 (putsD d f b n) = 0 := by
    unfold live0 there0
    rw [e1, e2, e3, h.len]
    simp
  have hsp : spendD (putsD d f b n) = (if 0 < (putsD d f b n).left then ({ putsD d f b n with left := (putsD d f b n).left - 1 }, 0) else (putsD d f b n, 0)) := by
    unfold spendD
    rw [if_neg (by omega)]
  have hs1 : (spendD (putsD d f b n)).2 = 0 ∧ (spendD (putsD d f b n)).1.pl = d.pl ∧ (spendD (putsD d f b n)).1.waits = d.waits ++ (List.range n).map (fun j => (pcD b j, f + j)) := by
    rw [hsp]
    split
    · exact ⟨rfl, e1, e5⟩
    · exact ⟨rfl, e1, e5⟩
  have hfl : flushD (putsD d f b n) = ({ (spendD (putsD d f b n)).1 with pl := thruD d.pl (d.waits ++ (List.range n).map (fun j => (pcD b j, f + j))) 0 (fun _ => true), waits := [] }, 0) := by
    unfold flushD
    rw [if_neg (by simp [hlv]), if_neg (by simp [hs1.1]), hs1.2.1, hs1.2.2]
  rw [hfl]
  have hl0 : (thruD d.pl d.waits 0 (fun _ => true)).length = 156 := by rw [thru_len2]; exact h.len
  refine ⟨rfl, ⟨?_, fun k hk => ?_⟩, rfl⟩
  · simp only
    rw [thru_len2]
    exact h.len
  · simp only
    rw [thru_app]
    generalize thruD d.pl d.waits 0 (fun _ => true) = P at hl0 ⊢
    rcases (show n = 1 ∨ n = 2 by omega) with rfl | rfl
    · obtain rfl : k = 0 := by omega
      simp only [List.range_one, List.map_cons, List.map_nil, thruD, if_true, Nat.add_zero]
      exact List.getElem?_set_self (by omega)
    · simp only [show List.range 2 = [0, 1] from rfl, List.map_cons, List.map_nil, thruD, if_true, Nat.add_zero]
      rcases (show k = 0 ∨ k = 1 by omega) with rfl | rfl
      · rw [Nat.add_zero, List.getElem?_set_ne (by omega)]
        exact List.getElem?_set_self (by omega)
      · exact List.getElem?_set_self (by rw [List.length_set]; omega)
theorem pcs_all {b : List UInt8} {n : Nat} (h1 : 1 ≤ n) (h2 : n ≤ 2) (hb : b.length = 64 * n) : (List.range n).flatMap (fun k => pcD b k) = b := by
  rcases (show n = 1 ∨ n = 2 by omega) with rfl | rfl
  · simp only [List.range_one, List.flatMap_cons, List.flatMap_nil, List.append_nil, pcD, Nat.mul_zero, List.drop_zero]
    exact List.take_of_length_le (by omega)
  · simp only [show List.range 2 = [0, 1] from rfl, List.flatMap_cons, List.flatMap_nil, List.append_nil, pcD, Nat.mul_zero, List.drop_zero, Nat.mul_one]
    rw [List.take_of_length_le (show (b.drop 64).length ≤ 64 by rw [List.length_drop]; omega), List.take_append_drop]
theorem there_of {d : Dk} {j : Nat} (hl : d.pl.length = 156) (hj : j < 156) : thereD d (j : Int) = 0 := by
  unfold thereD
  rw [if_neg (by omega), if_neg (by omega)]
/-- What sectors are meant to hold. -/
def MeantIs (d : Dk) (f : Nat) (b : List UInt8) (n : Nat) : Prop := ∀ k, k < n → meantD d ((f + k : Nat) : Int) = (pcD b k, 0)
theorem Held.meant {d : Dk} {f n : Nat} {b : List UInt8} (h : Held d f b n) (h3 : f + n ≤ 156) : MeantIs d f b n := fun k hk => by
  unfold meantD
  rw [there_of h.len (by omega), if_neg (by decide), Int.toNat_natCast, List.getD_eq_getElem?_getD, h.at_ k hk]
  rfl
theorem allM_of {d : Dk} {f n : Nat} {b : List UInt8} (h1 : 1 ≤ n) (h2 : n ≤ 2) (hb : b.length = 64 * n) (h : MeantIs d f b n) : allM d f n = b := by
  unfold allM allG
  have e : ∀ k ∈ List.range n, (meantD d ((f + k : Nat) : Int)).1 = pcD b k := fun k hk => by rw [h k (List.mem_range.1 hk)]
  rw [show (List.range n).flatMap (fun (k : Nat) => (meantD d ((f + k : Nat) : Int)).1) = (List.range n).flatMap (fun k => pcD b k) from by
    rw [List.flatMap_def, List.flatMap_def, List.map_congr_left e]]
  exact pcs_all h1 h2 hb
/-- Where a tag's place lies. -/
theorem place_of {t : Tg} (h : mayTg t = true) : ∃ f : Nat, firstN t.reg t.pla = f ∧ f + wideT t ≤ 156 ∧ ∀ d : Dk, d.pl.length = 156 → askG d t.rep t.reg t.pla = 0 := by
  obtain ⟨h1, h2, h3, h4, _⟩ := mayTg_parts h
  obtain ⟨g1, g2, g3⟩ := mayTg_small h
  obtain ⟨w1, w2, w3⟩ := wide_may h
  have hp : 0 < placesN t.reg := by omega
  have hf : firstN t.reg t.pla = startN t.reg + t.pla * wideN t.reg := by unfold firstN; rw [if_neg (by omega)]
  have h0 : 0 ≤ firstN t.reg t.pla ∧ firstN t.reg t.pla + wideN t.reg ≤ 156 := by
    rw [hf]
    have hr : t.reg = 1 ∨ t.reg = 2 ∨ t.reg = 3 ∨ t.reg = 4 ∨ t.reg = 5 := by omega
    rcases hr with h | h | h | h | h <;> rw [h] at h4 ⊢ <;> simp [placesN, startN, wideN] at h4 ⊢ <;> omega
  refine ⟨(firstN t.reg t.pla).toNat, by omega, by omega, fun d hd => ?_⟩
  unfold askG askN
  rw [hd, if_neg (by decide), if_neg (by omega)]
theorem hon_of {d : Dk} {t : Tg} {body : List UInt8} {f : Nat} (ht : mayTg t = true) (hb : body.length ≤ 43) (hl : d.pl.length = 156) (hf : firstN t.reg t.pla = f) (hm : MeantIs d f (sealF t body (64 * wideT t)) (wideT t)) : honG d t.rep t.reg t.pla = ((1, t, body), 0) := by
  obtain ⟨f', hf', _, ha⟩ := place_of ht
  obtain ⟨w1, w2, w3⟩ := wide_may ht
  obtain ⟨r1, r2⟩ := room_wide w2 w3
  have hsl : (sealF t body (64 * wideT t)).length = 64 * wideT t := sealF_len (by omega) (by omega)
  unfold honG
  rw [if_neg (by rw [ha d hl]; decide), hf, show (wideN t.reg).toNat = wideT t by omega, Int.toNat_natCast, allM_of w2 w3 hsl hm, mine_seal ht (by omega) (by omega)]
theorem place_held {d : Dk} {t : Tg} {body : List UInt8} {f : Nat} (ht : mayTg t = true) (hf : firstN t.reg t.pla = f) (h : Held d f (sealF t body (64 * wideT t)) (wideT t)) : placeG d t.rep t.reg t.pla = (false, false, 0) := by
  obtain ⟨f', hf', hn, ha⟩ := place_of ht
  obtain ⟨w1, w2, w3⟩ := wide_may ht
  have hff : f' = f := by omega
  subst hff
  have hno : isHurt d f' (wideT t) = false := by
    unfold isHurt
    rw [hurtsL_nil (fun s h1 h2 => ?_)]
    · rfl
    · have he := h.at_ (s - f') (by omega)
      rw [show f' + (s - f') = s by omega] at he
      rw [hurt_pl (there_of h.len (by omega)) (by rw [Int.toNat_natCast, List.getD_eq_getElem?_getD, he])]
      simp
  unfold placeG
  rw [if_neg (by rw [ha d h.len]; decide), hf, show (wideN t.reg).toNat = wideT t by omega, Int.toNat_natCast, hno]
  rfl
/-- A place that isn't hurt is what it is meant to be. -/
theorem place_sound {d : Dk} {t : Tg} {body : List UInt8} {f : Nat} (ht : mayTg t = true) (hb : body.length ≤ 43) (hl : d.pl.length = 156) (hf : firstN t.reg t.pla = f) (hm : MeantIs d f (sealF t body (64 * wideT t)) (wideT t)) :
    ∃ hu go st, placeG d t.rep t.reg t.pla = (hu, hu && (go || decide (st = 2)), 0) ∧ goneG d f (wideT t) = go ∧ (mineF (allR d f (wideT t)) t.rep t.reg t.pla).1 = st ∧ (hu = false → go = false ∧ mineF (allR d f (wideT t)) t.rep t.reg t.pla = (1, t, body)) := by
  obtain ⟨f', hf', hn, ha⟩ := place_of ht
  obtain ⟨w1, w2, w3⟩ := wide_may ht
  have hff : f' = f := by omega
  subst hff
  obtain ⟨r1, r2⟩ := room_wide w2 w3
  have hsl : (sealF t body (64 * wideT t)).length = 64 * wideT t := sealF_len (by omega) (by omega)
  refine ⟨isHurt d f' (wideT t), _, _, ?_, rfl, rfl, fun hu => ?_⟩
  · unfold placeG
    rw [if_neg (by rw [ha d hl]; decide), hf, show (wideN t.reg).toNat = wideT t by omega, Int.toNat_natCast]
  · have hno : ∀ k, k < wideT t → (restD d ((f' + k : Nat) : Int)).2.1 = false ∧ (restD d ((f' + k : Nat) : Int)).1 = (meantD d ((f' + k : Nat) : Int)).1 := fun k hk => by
      have h0 := there_of hl (show f' + k < 156 by omega)
      obtain ⟨p, e1, e2, e3⟩ := there_pl h0
      have hb : hurtB d ((f' + k : Nat) : Int) = false := by
        cases hh : hurtB d ((f' + k : Nat) : Int)
        · rfl
        · have hne := hurtsL_ne (d := d) (f := f') (t := f' + wideT t) (s := f' + k) (by omega) (by omega) hh
          unfold isHurt at hu
          cases hL : hurtsL d f' (f' + wideT t)
          · exact absurd hL hne
          · rw [hL] at hu; cases hu
      rw [hurt_pl h0 e2] at hb
      rw [Bool.or_eq_false_iff] at hb
      obtain ⟨b1, b2⟩ := hb
      have b3 : p.rest = p.meant := by simpa using b2
      unfold restD meantD
      simp only [h0, e2, b1, ne_eq, not_true_eq_false, if_false, Bool.false_eq_true]
      exact ⟨trivial, b3⟩
    refine ⟨?_, ?_⟩
    · unfold goneG
      rw [List.any_eq_false]
      intro k hk
      rw [(hno k (List.mem_range.1 hk)).1]
      decide
    · have e : allR d f' (wideT t) = allM d f' (wideT t) := by
        unfold allR allM allG
        rw [List.flatMap_def, List.flatMap_def]
        congr 1
        exact List.map_congr_left fun k hk => (hno k (List.mem_range.1 hk)).2
      rw [e, allM_of w2 w3 hsl hm, mine_seal ht (by omega) (by omega)]
/-! A disk that is got up anew. -/
def upped (d : Dk) : Dk := (powerD (startD (if upD d = true then d else (crashD d []).1)).1 1000).1
theorem upped_ready {d : Dk} {m : Nat} (h : Wk d m) : Ready (upped d) ∧ (upped d).waits.length ≤ m := by
  have hl := h.len
  have hw := h.wt
  have key : ∀ e : Dk, e.pl.length = 156 → e.waits.length ≤ m → (e.down = true ∨ upD e = true) → Ready (powerD (startD e).1 1000).1 ∧ (powerD (startD e).1 1000).1.waits.length ≤ m := fun e h1 h2 h3 => by
    have hs : (startD e).1.pl.length = 156 ∧ (startD e).1.waits = e.waits ∧ (startD e).1.down = false ∧ (startD e).1.dead = false := by
      unfold startD there0
      rw [h1]
      cases hd : e.down with
      | true => simp [h1]
      | false =>
        have h4 := h3.resolve_left (by rw [hd]; decide)
        unfold upD at h4
        rw [hd] at h4
        simp at h4
        simp [h1, hd, h4.2]
    obtain ⟨s1, s2, s3, s4⟩ := hs
    generalize (startD e).1 = e2 at *
    have hp : powerD e2 1000 = ({ e2 with left := 1000 }, 0) := by
      unfold powerD live0 there0
      rw [s1, s3, s4]
      simp
    rw [hp]
    exact ⟨⟨s1, s3, s4, .inr (show (4 : Int) ≤ 1000 by decide)⟩, by simp only; rw [s2]; exact h2⟩
  unfold upped
  by_cases hu : upD d = true
  · rw [if_pos hu]
    exact key d hl hw (.inr hu)
  · rw [if_neg hu]
    rcases crash_pl d [] with ⟨e1, e2⟩ | ⟨e1, e2⟩
    · refine key _ (by rw [e1]; exact hl) (by rw [e2]; exact hw) (.inl ?_)
      unfold crashD there0
      split
      · rename_i hh; exact hh.2
      · rw [if_neg (by rw [hl]; decide)]
    · refine key _ (by rw [e1, thru_len2]; exact hl) (by rw [e2]; simp) (.inl ?_)
      unfold crashD there0
      split
      · rename_i hh; exact hh.2
      · rw [if_neg (by rw [hl]; decide)]
theorem new_ready : Ready (newDk 156) := ⟨List.length_replicate, rfl, rfl, .inl (by decide)⟩
theorem new_wk (n : Nat) : Wk (newDk 156) n := ⟨List.length_replicate, Nat.zero_le _⟩
end Go.Proofs.YtejjneamngkmoaaDoor

namespace Go.Proofs.YtejjneamngkmoaaDoor
open Go.RowKit Go.Shelf

attribute [local go_sem] Oper.semAt_some

set_option maxRecDepth 100000 in
set_option maxHeartbeats 1000000 in
theorem hurts_in0 (pa : Option Addr) (m l n : Nat) (J Jx : List Int → World → Prop) (W : World) (hm4 : m + 4 ≤ W.heap.size) (hn : n ≤ W.heap.size) (hq : HuB pa m 0 0 W) (h0 : J [] W) :
    CallsIn Fence.wide 2 Tryd.prog 85 (#[.func (.yield l) #[] #[]] ++ #[.pointer (some ⟨m + 1, 0, none⟩), .pointer (some ⟨m + 2, 0, none⟩), .pointer (some ⟨m + 3, 0, none⟩)]) W fun e W' => (∃ v, e = .returned v) ∧ ((∃ xs, xs = ([] : List Int) ∧ J xs W') ∨ (∃ pre, (pre = [] ∧ pre ≠ []) ∧ Jx pre W')) := by
  refine callsIn_of_wp Tryd.func85 rfl trivial ?_ rfl
  simp only [Tryd.ntmps85, List.size_toArray, List.length_cons, List.length_nil, Nat.reduceAdd, Nat.reduceSub, Array.replicate_succ, Array.replicate_zero, List.push_toArray, List.append_toArray, List.nil_append, List.cons_append]
  have c1 := hq.c1
  have c2 := hq.c2
  simp only [Int.natCast_zero] at c1 c2
  gi_wp2
  gi_loopw [5] (fun i wr => i = .int .i64 0 ∧ wr = W) (fun _ _ => 0)
  case atStart => exact ⟨rfl, rfl⟩
  case round =>
    obtain ⟨rfl, rfl⟩ := hrel
    gi_wp2
    go_end0
    exact ⟨⟨_, rfl⟩, .inl ⟨_, rfl, h0⟩⟩
theorem hurts_stops0 (pa : Option Addr) (m n : Nat) {w : World} (hm4 : m + 4 ≤ w.heap.size) (hn : n ≤ w.heap.size) (hq : HuB pa m 0 0 w) :
    SeqStopsK Fence.wide 2 Tryd.prog 85 #[.pointer (some ⟨m + 1, 0, none⟩), .pointer (some ⟨m + 2, 0, none⟩), .pointer (some ⟨m + 3, 0, none⟩)] (fun x : Int => #[Value.int .i64 x]) (KpH n m) (fun xs => xs = []) (fun pre => pre = [] ∧ pre ≠ []) 0 w :=
  fun l J Jx W hW _ _ _ h0 => hurts_in0 pa m l n J Jx W (Nat.le_trans hm4 hW.size) (Nat.le_trans hn hW.size) (hq.below hW) h0
set_option maxRecDepth 100000 in
set_option maxHeartbeats 1000000 in
theorem hurt_zero (p : Value) (w : World) (h : DiskN w p 0) : Calls Tryd.prog 18 #[p] w fun e w' => (∃ a c, e = .returned (.slice a 0 c)) ∧ Below w.heap.size w w' := by
  obtain ⟨pa, rfl⟩ : ∃ pa, p = .pointer pa := by
    rcases h with ⟨h1, _⟩ | ⟨g, _, _, h1, _⟩
    · exact ⟨_, h1⟩
    · exact ⟨_, h1⟩
  have hbA := blw w (Obj.cells #[.slice none 0 0] 41)
  have hsz := size_any _ _ _ (h.below hbA)
  have hhu := hurts_any pa 0 0 (w.alloc (Obj.cells #[.slice none 0 0] 41))
  simp only [Int.natCast_zero] at hhu hsz
  refine calls_marks Tryd.func18 rfl ?_
  simp only [Tryd.ntmps18, List.size_toArray, List.length_cons, List.length_nil, Nat.reduceAdd, Nat.reduceSub, Array.replicate_succ, Array.replicate_zero, List.push_toArray, List.append_toArray, List.nil_append, List.cons_append]
  have bO := Boxed.new w 41 (.slice none 0 0)
  go_wp2_with (first
    | (go_at_call 55; refine hsz.mono ?_; rintro e w1 ⟨rfl, rfl⟩)
    | (go_at_call 52; refine hhu.mono ?_; rintro e w2 ⟨rfl, hq, hsz2, hb2⟩; have HSZ := Lib.hid hsz2; clear hsz2))
  have bO2 : Boxed w2 w.heap.size 41 (.slice none 0 0) := tr_bl hb2 bO
  rw [World.size_alloc] at hq hb2
  have hz : w.heap.size + 5 ≤ w2.heap.size := by have := HSZ.out; rw [World.size_alloc] at this; omega
  have hB2 : Below w.heap.size w w2 := hbA.trans (hb2.mono (by omega))
  clear hb2 hhu hsz hbA bO HSZ
  refine wp_range (gf := 85) rfl (enters_of Tryd.func85 (by kernel_rfl) rfl) (hurts_stops0 pa (w.heap.size + 1) w.heap.size (by omega) hB2.size hq) KpH.trans (KpH.put hB2.size (by omega)) (fun _ => rfl)
    (fun (pre : List Int) W => pre = [] ∧ Boxed W w.heap.size 41 (.slice none 0 0) ∧ Below w.heap.size w W ∧ w2.heap.size ≤ W.heap.size)
    (fun _ _ _ => False)
    ?_
    (fun _ _ _ _ _ hs _ _ => hs)
    ⟨rfl, bO2, hB2, Nat.le_refl _⟩
    (fun x => { tmps := #[.pointer pa, undef, .slice none 0 0, .pointer (some ⟨w.heap.size, 0, none⟩), .int .i64 x, .pointer pa, .pointer pa, .int .i64 0, .func (.func 85) #[] #[.pointer (some ⟨w.heap.size + 1 + 1, 0, none⟩), .pointer (some ⟨w.heap.size + 1 + 2, 0, none⟩), .pointer (some ⟨w.heap.size + 1 + 3, 0, none⟩)], .int .i64 x, undef, undef, undef, undef, undef], defers := [] }) ?assign ?body ?done ?stop
  · exact fun _ _ _ _ hs hg hr => ⟨hs.1, hs.2.1.kept hg (fun e => by have := (hr _ e.symm).1; omega), hs.2.2.1.grown hg (by omega) (fun k e => by have := (hr k e).1; omega), Nat.le_trans hs.2.2.2 hg.size⟩
  case assign =>
    intro l x W K hK
    gi_wp2
    exact hK
  case body =>
    rintro l pre x W _ hlt
    omega
  case done =>
    rintro D ys W hD rfl ⟨_, hv, hB, hsW⟩ hK
    have hc := hv.cell
    go_wp2
    refine marks_ret hK (results_tmp rfl _ _ _) ?_
    exact ⟨⟨_, _, rfl⟩, below_mark hB (by omega)⟩
  case stop =>
    rintro D c pre W _ _ h _
    exact h.elim
end Go.Proofs.YtejjneamngkmoaaDoor

namespace Go.Proofs.YtejjneamngkmoaaDoor
open Go.RowKit

theorem tz_new : (Value.agg #[.int .i64 0, .int .i64 0, .int .i64 0, .int .i64 0, .int .i64 0]).cells = #[.int .i64 0, .int .i64 0, .int .i64 0, .int .i64 0, .int .i64 0] ∧ (#[Value.int .i64 0, .int .i64 0, .int .i64 0, .int .i64 0, .int .i64 0]).size = 5 ∧ ∀ u ∈ (#[Value.int .i64 0, .int .i64 0, .int .i64 0, .int .i64 0, .int .i64 0]).toList, u.oneCell' = true := ⟨rfl, rfl, by simp [Value.oneCell']⟩
theorem small_sec2 (x : Int) : ∃ s : Nat, 1 ≤ s ∧ s ≤ 155 ∧ wrap64 (1 + wrap64 ((IntKind.u64.wrap x).tmod 155)) = s := by
  have h0 := wrap_u64_nonneg x
  generalize IntKind.u64.wrap x = y at *
  have h1 : y.tmod 155 = y % 155 := Int.tmod_eq_emod_of_nonneg h0
  rw [h1]
  unfold wrap64
  exact ⟨(1 + y % 155).toNat, by omega, by omega, by omega⟩
theorem ask_zero (rep reg pla : Int) : askN 0 rep reg pla = 1 := rfl
theorem ask_small {n : Nat} (h : 1 ≤ n) (h2 : n ≤ 155) (rep reg pla : Int) : askN n rep reg pla = 2 := by
  unfold askN
  rw [if_neg (by omega), if_pos (.inl (by omega))]
theorem hurt_small {B g gp s : Nat} {wv : Value} {w : World} (h : DiskB B g gp wv (newDk s) w) (hl : (newDk s).pl.length = s) (hn : hurtsL (newDk s) 0 s = []) : Calls Tryd.prog 18 #[.pointer (some ⟨g, 0, none⟩)] w fun e w' => (∃ a c, e = .returned (.slice a 0 c)) ∧ Below w.heap.size w w' := by
  have := hurt_any h
  rw [hl, hn] at this
  refine this.mono ?_
  rintro e w' ⟨⟨a, c, rfl, _⟩, hb⟩
  exact ⟨⟨a, c, rfl⟩, hb⟩
set_option maxRecDepth 100000 in
set_option maxHeartbeats 4000000 in
theorem ghostNone_law (rp rg pl sec : Int) (w : World) :
    Calls Tryd.prog 3 #[.int .i64 rp, .int .i64 rg, .int .i64 pl, .int .i64 sec] w fun e w' => e = .returned (.bool true) ∧ Below w.heap.size w w' := by
  go_enter Tryd.func3, Tryd.ntmps3
  go_wp2_with fail
  obtain ⟨s, hs1, hs2, hse⟩ := small_sec2 sec
  rw [hse]
  clear hse
  refine (new_any (B := w.heap.size) s hs1 (by omega) (Nat.le_refl _)).mono ?_
  rintro e w1 ⟨⟨g, gp, rfl, D1⟩, hb1⟩
  go_wp2_with fail
  have hA := tr_al (Obj.cells #[.pointer none, .pointer (some ⟨w1.heap.size, 0, none⟩), .pointer (some ⟨g, 0, none⟩)] 23) (heap_alloc_new w1 (Obj.cells #[.slice none 0 0, .slice none 0 0, .bool false, .bool false, .int .i64 0] 30))
  have hB := heap_alloc_new (w1.alloc (Obj.cells #[.slice none 0 0, .slice none 0 0, .bool false, .bool false, .int .i64 0] 30)) (Obj.cells #[.pointer none, .pointer (some ⟨w1.heap.size, 0, none⟩), .pointer (some ⟨g, 0, none⟩)] 23)
  have hbN := (blw w1 (Obj.cells #[.slice none 0 0, .slice none 0 0, .bool false, .bool false, .int .i64 0] 30)).alloc (by simp) (Obj.cells #[.pointer none, .pointer (some ⟨w1.heap.size, 0, none⟩), .pointer (some ⟨g, 0, none⟩)] 23)
  have hsz : (w1.alloc (Obj.cells #[.slice none 0 0, .slice none 0 0, .bool false, .bool false, .int .i64 0] 30)).heap.size = w1.heap.size + 1 := by simp
  rw [hsz] at hB
  generalize (w1.alloc (Obj.cells #[.slice none 0 0, .slice none 0 0, .bool false, .bool false, .int .i64 0] 30)).alloc (Obj.cells #[.pointer none, .pointer (some ⟨w1.heap.size, 0, none⟩), .pointer (some ⟨g, 0, none⟩)] 23) = w2 at *
  have hb2 := hb1.trans (hbN.mono hb1.size)
  have z1 : DiskN w2 (.pointer (some ⟨w1.heap.size, 0, none⟩)) 0 := .inr ⟨w1.heap.size, none, 0, rfl, blk_cell hA 0 _ rfl⟩
  have D2 := D1.below hbN
  have k0 : w2.cell? ⟨w1.heap.size + 1, 0, none⟩ = some (.pointer none) := blk_cell hB 0 _ rfl
  have k1 : w2.cell? ⟨w1.heap.size + 1, 1, none⟩ = some (.pointer (some ⟨w1.heap.size, 0, none⟩)) := blk_cell hB 1 _ rfl
  have k2 : w2.cell? ⟨w1.heap.size + 1, 2, none⟩ = some (.pointer (some ⟨g, 0, none⟩)) := blk_cell hB 2 _ rfl
  have hlt2 : w1.heap.size + 1 < w2.heap.size := World.block_lt_of_cell? _ _ k0
  clear hA hB hsz D1 hbN
  go_loopw [13, 14, 15, 16, 17, 18, 19, 20, 21, 22, 23] (fun i _ _ _ _ _ _ _ _ _ _ wr => ∃ k : Nat, k ≤ 3 ∧ i = .int .i64 k ∧ Below w2.heap.size w2 wr) (fun i _ _ _ _ _ _ _ _ _ _ _ => 3 - (intOf i).toNat)
  case atStart => exact ⟨0, by omega, rfl, Below.refl _ _⟩
  case round =>
    obtain ⟨k, hk, rfl, hbr⟩ := hrel
    by_cases hk3 : k < 3
    · have c0 := (hbr.cell hlt2).trans k0
      have c1 := (hbr.cell hlt2).trans k1
      have c2 := (hbr.cell hlt2).trans k2
      have hlt : w1.heap.size + 1 < wr.heap.size := Nat.lt_of_lt_of_le hlt2 hbr.size
      have h3 : k = 0 ∨ k = 1 ∨ k = 2 := by omega
      rcases h3 with rfl | rfl | rfl
      · have hd : DiskN wr (.pointer none) 0 := .inl ⟨rfl, rfl⟩
        have hpl := place_err _ _ wr hd rp rg pl (by rw [ask_zero]; decide)
        have hsn := fun w' (h : DiskN w' (.pointer none) 0) => seen_err _ _ w' h rp (by rw [ask_zero]; decide)
        have hho := fun w' (h : DiskN w' (.pointer none) 0) => honest_err _ _ w' h rp rg pl (by rw [ask_zero]; decide)
        rw [ask_zero] at hpl
        simp only [ask_zero] at hsn hho
        go_wp2_with (first
          | (go_at_call 15; refine hpl.mono ?_; rintro e w3 ⟨rfl, hb3⟩; have hd3 := hd.below hb3; have e0 := (hb3.cell hlt).trans c0; have e1 := (hb3.cell hlt).trans c1; have e2 := (hb3.cell hlt).trans c2)
          | (go_at_call 16; refine (hsn _ hd3).mono ?_; rintro e w4 ⟨rfl, hb4⟩; have hd4 := hd3.below hb4; have hb34 := hb3.trans (hb4.mono hb3.size); have f0 := (hb34.cell hlt).trans c0; have f1 := (hb34.cell hlt).trans c1; have f2 := (hb34.cell hlt).trans c2)
          | (go_at_call 17; refine (hho _ hd4).mono ?_; rintro e w5 ⟨⟨a5, c5, rfl, _⟩, hb5⟩; rw [show tgV zeroTg = .agg #[.int .i64 0, .int .i64 0, .int .i64 0, .int .i64 0, .int .i64 0] from rfl]; have hb35 := hb34.trans (hb5.mono hb34.size))
          | ((first | (with_reducible refine wpList_stNew 37 _ _ ?_) | (with_reducible refine wp_stNew 37 _ _ ?_)); refine ⟨_, _, ⟨Tryd.sizeOf37, rfl, tz_new⟩, rfl, ?_⟩; have hb36 := hb35.alloc hb35.size (Obj.cells #[.int .i64 0, .int .i64 0, .int .i64 0, .int .i64 0, .int .i64 0] 37); have T6 := heap_alloc_new w5 (Obj.cells #[.int .i64 0, .int .i64 0, .int .i64 0, .int .i64 0, .int .i64 0] 37); have hhu := hurt_zero _ _ (hd.below hb36); generalize w5.alloc (Obj.cells #[.int .i64 0, .int .i64 0, .int .i64 0, .int .i64 0, .int .i64 0] 37) = w6 at *; have g0 := (hb36.cell hlt).trans c0; have g1 := (hb36.cell hlt).trans c1; have g2 := (hb36.cell hlt).trans c2)
          | (go_at_call 18; refine hhu.mono ?_; rintro e w7 ⟨⟨a7, c7, rfl⟩, hb7⟩; have T7 := tr_bl hb7 T6; have t0 := blk_cell T7 0 _ rfl; have t1 := blk_cell T7 1 _ rfl; have t2 := blk_cell T7 2 _ rfl; have t3 := blk_cell T7 3 _ rfl; have t4 := blk_cell T7 4 _ rfl))
        go_roundw
        case rel => exact ⟨1, by omega, by rfl, hbr.trans ((hb36.trans (hb7.mono hb36.size)).mono hbr.size)⟩
        case measure => simp [intOf]
      · have hd : DiskN wr (.pointer (some ⟨w1.heap.size, 0, none⟩)) 0 := z1.below hbr
        have hpl := place_err _ _ wr hd rp rg pl (by rw [ask_zero]; decide)
        have hsn := fun w' (h : DiskN w' (.pointer (some ⟨w1.heap.size, 0, none⟩)) 0) => seen_err _ _ w' h rp (by rw [ask_zero]; decide)
        have hho := fun w' (h : DiskN w' (.pointer (some ⟨w1.heap.size, 0, none⟩)) 0) => honest_err _ _ w' h rp rg pl (by rw [ask_zero]; decide)
        rw [ask_zero] at hpl
        simp only [ask_zero] at hsn hho
        go_wp2_with (first
          | (go_at_call 15; refine hpl.mono ?_; rintro e w3 ⟨rfl, hb3⟩; have hd3 := hd.below hb3; have e0 := (hb3.cell hlt).trans c0; have e1 := (hb3.cell hlt).trans c1; have e2 := (hb3.cell hlt).trans c2)
          | (go_at_call 16; refine (hsn _ hd3).mono ?_; rintro e w4 ⟨rfl, hb4⟩; have hd4 := hd3.below hb4; have hb34 := hb3.trans (hb4.mono hb3.size); have f0 := (hb34.cell hlt).trans c0; have f1 := (hb34.cell hlt).trans c1; have f2 := (hb34.cell hlt).trans c2)
          | (go_at_call 17; refine (hho _ hd4).mono ?_; rintro e w5 ⟨⟨a5, c5, rfl, _⟩, hb5⟩; rw [show tgV zeroTg = .agg #[.int .i64 0, .int .i64 0, .int .i64 0, .int .i64 0, .int .i64 0] from rfl]; have hb35 := hb34.trans (hb5.mono hb34.size))
          | ((first | (with_reducible refine wpList_stNew 37 _ _ ?_) | (with_reducible refine wp_stNew 37 _ _ ?_)); refine ⟨_, _, ⟨Tryd.sizeOf37, rfl, tz_new⟩, rfl, ?_⟩; have hb36 := hb35.alloc hb35.size (Obj.cells #[.int .i64 0, .int .i64 0, .int .i64 0, .int .i64 0, .int .i64 0] 37); have T6 := heap_alloc_new w5 (Obj.cells #[.int .i64 0, .int .i64 0, .int .i64 0, .int .i64 0, .int .i64 0] 37); have hhu := hurt_zero _ _ (hd.below hb36); generalize w5.alloc (Obj.cells #[.int .i64 0, .int .i64 0, .int .i64 0, .int .i64 0, .int .i64 0] 37) = w6 at *; have g0 := (hb36.cell hlt).trans c0; have g1 := (hb36.cell hlt).trans c1; have g2 := (hb36.cell hlt).trans c2)
          | (go_at_call 18; refine hhu.mono ?_; rintro e w7 ⟨⟨a7, c7, rfl⟩, hb7⟩; have T7 := tr_bl hb7 T6; have t0 := blk_cell T7 0 _ rfl; have t1 := blk_cell T7 1 _ rfl; have t2 := blk_cell T7 2 _ rfl; have t3 := blk_cell T7 3 _ rfl; have t4 := blk_cell T7 4 _ rfl))
        go_roundw
        case rel => exact ⟨2, by omega, by rfl, hbr.trans ((hb36.trans (hb7.mono hb36.size)).mono hbr.size)⟩
        case measure => simp [intOf]
      · have D3 := D2.below hbr
        have hd := D3.dn
        have hln : (newDk s).pl.length = s := List.length_replicate
        rw [hln] at hd
        have hz := ask_small hs1 hs2
        have hnl := clean_nil (new_clean s) 0 s
        have HLN := Lib.hid hln
        have HNL := Lib.hid hnl
        clear hln hnl
        have hpl := place_err _ _ wr hd rp rg pl (by rw [hz]; decide)
        have hsn := fun w' (h : DiskN w' (.pointer (some ⟨g, 0, none⟩)) s) => seen_err _ _ w' h rp (by rw [hz]; decide)
        have hho := fun w' (h : DiskN w' (.pointer (some ⟨g, 0, none⟩)) s) => honest_err _ _ w' h rp rg pl (by rw [hz]; decide)
        rw [hz] at hpl
        simp only [hz] at hsn hho
        go_wp2_with (first
          | (go_at_call 15; refine hpl.mono ?_; rintro e w3 ⟨rfl, hb3⟩; have hd3 := hd.below hb3; have e0 := (hb3.cell hlt).trans c0; have e1 := (hb3.cell hlt).trans c1; have e2 := (hb3.cell hlt).trans c2)
          | (go_at_call 16; refine (hsn _ hd3).mono ?_; rintro e w4 ⟨rfl, hb4⟩; have hd4 := hd3.below hb4; have hb34 := hb3.trans (hb4.mono hb3.size); have f0 := (hb34.cell hlt).trans c0; have f1 := (hb34.cell hlt).trans c1; have f2 := (hb34.cell hlt).trans c2)
          | (go_at_call 17; refine (hho _ hd4).mono ?_; rintro e w5 ⟨⟨a5, c5, rfl, _⟩, hb5⟩; rw [show tgV zeroTg = .agg #[.int .i64 0, .int .i64 0, .int .i64 0, .int .i64 0, .int .i64 0] from rfl]; have hb35 := hb34.trans (hb5.mono hb34.size))
          | ((first | (with_reducible refine wpList_stNew 37 _ _ ?_) | (with_reducible refine wp_stNew 37 _ _ ?_)); refine ⟨_, _, ⟨Tryd.sizeOf37, rfl, tz_new⟩, rfl, ?_⟩; have hb36 := hb35.alloc hb35.size (Obj.cells #[.int .i64 0, .int .i64 0, .int .i64 0, .int .i64 0, .int .i64 0] 37); have T6 := heap_alloc_new w5 (Obj.cells #[.int .i64 0, .int .i64 0, .int .i64 0, .int .i64 0, .int .i64 0] 37); have hhu := hurt_small (D3.below hb36) HLN.out HNL.out; generalize w5.alloc (Obj.cells #[.int .i64 0, .int .i64 0, .int .i64 0, .int .i64 0, .int .i64 0] 37) = w6 at *; have g0 := (hb36.cell hlt).trans c0; have g1 := (hb36.cell hlt).trans c1; have g2 := (hb36.cell hlt).trans c2)
          | (go_at_call 18; refine hhu.mono ?_; rintro e w7 ⟨⟨a7, c7, rfl⟩, hb7⟩; have T7 := tr_bl hb7 T6; have t0 := blk_cell T7 0 _ rfl; have t1 := blk_cell T7 1 _ rfl; have t2 := blk_cell T7 2 _ rfl; have t3 := blk_cell T7 3 _ rfl; have t4 := blk_cell T7 4 _ rfl))
        go_roundw
        case rel => exact ⟨3, by omega, by rfl, hbr.trans ((hb36.trans (hb7.mono hb36.size)).mono hbr.size)⟩
        case measure => simp [intOf]
    · have : k = 3 := by omega
      subst this
      go_wp2
      go_ret
      exact ⟨rfl, hb2.trans (hbr.mono hb2.size)⟩
end Go.Proofs.YtejjneamngkmoaaDoor

