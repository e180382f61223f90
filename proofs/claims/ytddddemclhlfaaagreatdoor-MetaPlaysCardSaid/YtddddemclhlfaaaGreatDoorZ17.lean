/- Texts that the claim leans on, part 17: C23, C24, C25, C26, C27, C28, C29, C30. -/
import Derived.Test.YtddddemclhlfaaaGreatDoorZ1
import Derived.Test.YtddddemclhlfaaaGreatDoorZ2
import Derived.Test.YtddddemclhlfaaaGreatDoorZ3
import Derived.Test.YtddddemclhlfaaaGreatDoorZ4
import Derived.Test.YtddddemclhlfaaaGreatDoorZ5
import Derived.Test.YtddddemclhlfaaaGreatDoorZ6
import Derived.Test.YtddddemclhlfaaaGreatDoorZ7
import Derived.Test.YtddddemclhlfaaaGreatDoorZ8
import Derived.Test.YtddddemclhlfaaaGreatDoorZ9
import Derived.Test.YtddddemclhlfaaaGreatDoorZ10
import Derived.Test.YtddddemclhlfaaaGreatDoorZ11
import Derived.Test.YtddddemclhlfaaaGreatDoorZ12
import Derived.Test.YtddddemclhlfaaaGreatDoorZ13
import Derived.Test.YtddddemclhlfaaaGreatDoorRows
import Derived.WalkKit
import Derived.WalkSpells
import Derived.WalkLawsBesides
import Derived.Handy
import Derived.Deep.QuietTactic
import Derived.BigQuiet
import Derived.Deep.DeepCutAuto
import Derived.Lib.Hide
import Derived.RegionTactic
import Derived.ChangeAlike
import Derived.Laws.ResultCell
import Derived.Outline
import Derived.IntWalk
import Derived.RangeFuncNested
import Derived.RangeFuncBound
import Derived.RangeFuncCalls
import Derived.RangeFuncLeaves
import Derived.RangeFuncBox
import Derived.Laws.MakeOwn
import Derived.Laws.OwnMore
import Derived.Laws.IdiomStrings
import Derived.Laws.BytesArg
import Derived.Laws.BitsAllLaws
import Derived.Lib.SliceRun
import Derived.Great.BuildSlice
import Derived.Great.FillDense
import Derived.Laws.Rows
import Derived.Deep.Quiet
import Derived.Deep.RegionHeld3
import Derived.ProofKit
import Derived.OpenShut
import Derived.Laws.CopyOwn
import Derived.Laws.CopyRow
import Derived.Laws.NewBlocks
import Derived.Deep.RegionLaw
namespace Go.Proofs.YtddddemclhlfaaaGreatDoor
open Go.RowKit
theorem mineF_none (rep reg pla : Int) : mineF [] rep reg pla = (2, zeroTg, []) := by
  have h : openF [] = (2, zeroTg, []) := by unfold openF; rfl
  unfold mineF
  rw [h]
  rfl
section
variable {B g : Nat} {q : RQ} {d : Dk} {w w' : World}
theorem rread_len (h : RefB B g q d w) (s : Int) : ((readD d s).2 = 0 → (readD d s).1.length = 64) ∧ ((readD d s).2 ≠ 0 → (readD d s).1 = []) := by
  unfold readD
  by_cases h0 : liveD d s = 0
  · rw [if_neg (by simpa using h0)]
    cases hl : lastW d.waits s.toNat with
    | some b =>
      obtain ⟨x, hx, e⟩ := lastW_mem hl
      simp only
      exact ⟨fun _ => by rw [← e]; exact (h.wk x hx).1, fun hh => absurd rfl hh⟩
    | none =>
      simp only
      cases hp : d.pl[s.toNat]? with
      | none => exact ⟨(fun hh => by cases hh), fun _ => rfl⟩
      | some p =>
        simp only
        by_cases hlo : p.lost = true
        · rw [if_pos hlo]
          exact ⟨(fun hh => by cases hh), fun _ => rfl⟩
        · rw [if_neg hlo]
          exact ⟨fun _ => (h.ok p (List.mem_of_getElem? hp)).1, fun hh => absurd rfl hh⟩
  · rw [if_pos (by simpa using h0)]
    exact ⟨fun hh => absurd hh h0, fun _ => rfl⟩
def mineD (d : Dk) (rep reg pla : Int) : Nat × Tg × List UInt8 := mineF (readD d (firstN reg pla)).1 rep reg pla
set_option maxRecDepth 100000 in
theorem rasked7_any (h : RefB B g q d w) (rep reg : Int) : Calls Tryz.prog 62 #[.pointer (some ⟨g, 0, none⟩), .int .i64 rep, .int .i64 reg] w fun e w' => e = .returned (.bool (decide (openC d rep reg ≠ 2))) ∧ w = w' := by
  have hn := h.n0
  have c0 := h.c0
  have hv : openC d rep reg = if d.pl.length < 156 ∨ (reg ≠ 1 ∧ reg ≠ 2) ∨ rep < 0 ∨ 7 ≤ rep then 2 else if upD d = false then 5 else 0 := by
    unfold openC
    rw [if_neg (by omega)]
  obtain ⟨r, hr⟩ : ∃ r, decide (openC d rep reg ≠ 2) = r := ⟨_, rfl⟩
  rw [hr]
  by_cases a1 : 156 ≤ d.pl.length
  · by_cases a2 : reg = 1 ∨ reg = 2
    · by_cases a3 : 0 ≤ rep
      · by_cases a4 : rep ≤ 6
        · obtain rfl : r = true := by
            rw [← hr, hv, if_neg (by omega)]
            split <;> decide
          clear hv hr
          rcases a2 with rfl | rfl
          · skip
            go_enter Tryz.func62, Tryz.ntmps62
            go_wp2
            go_ret
            exact ⟨rfl, rfl⟩
          · skip
            go_enter Tryz.func62, Tryz.ntmps62
            go_wp2
            go_ret
            exact ⟨rfl, rfl⟩
        · obtain rfl : r = false := (by rw [← hr, hv, if_pos (by omega)]; decide)
          clear hv hr
          rcases a2 with rfl | rfl
          · skip
            go_enter Tryz.func62, Tryz.ntmps62
            go_wp2
            go_ret
            exact ⟨ret_bool (by first | (simp; done) | (simp; omega)), rfl⟩
          · skip
            go_enter Tryz.func62, Tryz.ntmps62
            go_wp2
            go_ret
            exact ⟨ret_bool (by first | (simp; done) | (simp; omega)), rfl⟩
      · obtain rfl : r = false := (by rw [← hr, hv, if_pos (by omega)]; decide)
        clear hv hr
        rcases a2 with rfl | rfl
        · skip
          go_enter Tryz.func62, Tryz.ntmps62
          go_wp2
          go_ret
          exact ⟨rfl, rfl⟩
        · skip
          go_enter Tryz.func62, Tryz.ntmps62
          go_wp2
          go_ret
          exact ⟨rfl, rfl⟩
    · obtain rfl : r = false := (by rw [← hr, hv, if_pos (by omega)]; decide)
      have b1 : (reg == 1) = false := by rw [beq_eq_false_iff_ne]; omega
      have b2 : (reg == 2) = false := by rw [beq_eq_false_iff_ne]; omega
      clear hv hr a2
      go_enter Tryz.func62, Tryz.ntmps62
      go_wp2
      go_ret
      exact ⟨rfl, rfl⟩
  · obtain rfl : r = false := (by rw [← hr, hv, if_pos (by omega)]; decide)
    clear hv hr
    go_enter Tryz.func62, Tryz.ntmps62
    go_wp2
    go_ret
    exact ⟨rfl, rfl⟩
set_option maxRecDepth 100000 in
set_option maxHeartbeats 1000000 in
theorem rmine7_any (h : RefB B g q d w) (rep reg pla : Int) : Calls Tryz.prog 66 #[.pointer (some ⟨g, 0, none⟩), .int .i64 rep, .int .i64 reg, .int .i64 pla] w fun e w' => FrRes w.heap.size (mineD d rep reg pla) e w' ∧ Below w.heap.size w w' := by
  have hbA := blw w (Obj.cells #[.int .i64 0, .int .i64 0, .int .i64 0, .int .i64 0, .int .i64 0] 33)
  have A0 := heap_alloc_new w (Obj.cells #[.int .i64 0, .int .i64 0, .int .i64 0, .int .i64 0, .int .i64 0] 33)
  have hd := h.below hbA
  have hfi := rfirst3_any reg pla (w.alloc (Obj.cells #[.int .i64 0, .int .i64 0, .int .i64 0, .int .i64 0, .int .i64 0] 33))
  have hrd := rread_any hd (firstN reg pla)
  obtain ⟨h1, h2⟩ := rread_len h (firstN reg pla)
  unfold mineD
  obtain ⟨b, e, hre⟩ : ∃ b e, readD d (firstN reg pla) = (b, e) := ⟨_, _, rfl⟩
  rw [hre] at hrd h1 h2 ⊢
  simp only at hrd h1 h2 ⊢
  have hq := hbA.size
  clear hd h hre
  by_cases h0 : e = 0
  case neg =>
    obtain rfl := h2 h0
    rw [mineF_none]
    have e0 : (e != 0) = true := by rw [bne_iff_ne]; exact h0
    clear h1 h2 h0
    go_enter Tryz.func66, Tryz.ntmps66
    refine wp_seq_k (fun K hK => ?_)
    have HK := Lib.hid hK
    clear hK
    go_wp2
    refine HK.out _ _ ?_
    clear HK
    generalize w.alloc (Obj.cells #[.int .i64 0, .int .i64 0, .int .i64 0, .int .i64 0, .int .i64 0] 33) = w0 at *
    go_wp2_with (first
      | (go_at_call 52; refine hfi.mono ?_; rintro e w1 ⟨rfl, rfl⟩)
      | (go_at_call 116; refine hrd.mono ?_; rintro e w2 ⟨⟨a2, c2, rfl, s2⟩, hb2⟩; have A2 := tr_bl hb2 A0; have hb3 := hbA.trans (hb2.mono hq))
      | ((with_reducible refine wpList_stB 33 _ _ ?_); refine ⟨_, _, _, ⟨_, _, _, Tryz.sizeOf33, rfl, A2, st5 _ rfl 0 0 0 0 0⟩, ?_⟩; intro w5 B5 g5))
    exact bodyPost_ret (results_t1c1t1 rfl rfl (run_loadVar_all Tryz.isAgg33 Tryz.sizeOf33 B5 rfl)) rfl ⟨FrRes.none rfl, bl_st hb3 g5 (Nat.le_trans hq hb2.size) (Nat.le_refl _)⟩
  case pos =>
    have h64 := h1 h0
    subst h0
    clear h1 h2
    have hmi := fun (a : Option Addr) (c : Nat) (w' : World) (s : SlB w' a c b) => rmine_any a c b rep reg pla w' s (by omega)
    obtain ⟨⟨st, tg, body⟩, hR⟩ : ∃ R, mineF b rep reg pla = R := ⟨_, rfl⟩
    rw [hR] at hmi ⊢
    clear hR h64
    go_enter Tryz.func66, Tryz.ntmps66
    refine wp_seq_k (fun K hK => ?_)
    have HK := Lib.hid hK
    clear hK
    go_wp2
    refine HK.out _ _ ?_
    clear HK
    generalize w.alloc (Obj.cells #[.int .i64 0, .int .i64 0, .int .i64 0, .int .i64 0, .int .i64 0] 33) = w0 at *
    go_wp2_with (first
      | (go_at_call 52; refine hfi.mono ?_; rintro e w1 ⟨rfl, rfl⟩)
      | (go_at_call 116; refine hrd.mono ?_; rintro e w2 ⟨⟨a2, c2, rfl, s2⟩, hb2⟩; have A2 := tr_bl hb2 A0; have hb3 := hbA.trans (hb2.mono hq); have hmi2 := hmi a2 c2 w2 s2)
      | (go_at_call 54; refine hmi2.mono ?_; rintro e w4 ⟨⟨a4, c4, rfl, o4⟩, hb4⟩; have A4 := tr_bl hb4 A2; have hb5 := hb3.trans (hb4.mono (Nat.le_trans hq hb2.size)))
      | ((with_reducible refine wpList_stB 33 _ _ ?_); refine ⟨_, _, _, ⟨_, _, _, Tryz.sizeOf33, rfl, A4, st5 _ rfl tg.rep tg.reg tg.pla tg.idx tg.inc⟩, ?_⟩; intro w5 B5 g5))
    exact bodyPost_ret (results_t1c1t1 rfl rfl (run_loadVar_all Tryz.isAgg33 Tryz.sizeOf33 B5 rfl)) rfl ⟨⟨a4, c4, rfl, (o4.mono (Nat.le_trans hq hb2.size)).st g5 A4 (by decide)⟩, bl_st hb5 g5 (Nat.le_trans (Nat.le_trans hq hb2.size) hb4.size) (Nat.le_refl _)⟩
end
end Go.Proofs.YtddddemclhlfaaaGreatDoor
namespace Go.Proofs.YtddddemclhlfaaaGreatDoor
open Go.RowKit
def whichP (a b : Nat) (x y : Int) : Int × Int := if a = 1 ∧ b = 1 then (if x < y then (1, 0) else (0, 0)) else if a = 1 then (0, 0) else if b = 1 then (1, 0) else if a = 0 ∨ b = 0 then (-1, 0) else (-1, 70)
def whichC (d : Dk) (rep reg : Int) : Int × Int := whichP (copyC d rep reg 0).st (copyC d rep reg 1).st (copyC d rep reg 0).tg.idx (copyC d rep reg 1).tg.idx
theorem which_loaded (c0 c1 : Cp) : whichP c0.st c1.st c0.tg.idx c1.tg.idx = (if (loadedC c0 c1).2.1 = true then ((loadedC c0 c1).1 : Int) else -1, (loadedC c0 c1).2.2) := by
  unfold whichP loadedC overC
  by_cases h0 : c0.st = 1
  · by_cases h1 : c1.st = 1
    · by_cases h2 : c0.tg.idx < c1.tg.idx
      · simp [h0, h1, h2]
      · simp [h0, h1, h2]
    · simp [h0, h1]
  · by_cases h1 : c1.st = 1
    · simp [h0, h1]
    · by_cases h2 : c0.st = 0 ∨ c1.st = 0
      · simp [h0, h1, h2]
      · simp [h0, h1, h2]
theorem mineD_copy (d : Dk) (rep reg i : Int) : mineD d rep reg i = ((copyC d rep reg i).st, (copyC d rep reg i).tg, (copyC d rep reg i).body) := rfl
section
variable {B g : Nat} {q : RQ} {d : Dk} {w w' : World}
set_option maxRecDepth 100000 in
set_option maxHeartbeats 4000000 in
theorem rwhich_any (h : RefB B g q d w) (rep reg : Int) : Calls Tryz.prog 63 #[.pointer (some ⟨g, 0, none⟩), .int .i64 rep, .int .i64 reg] w fun e w' => e = .returned (.tuple #[.int .i64 (whichC d rep reg).1, .int .i64 (whichC d rep reg).2]) ∧ Below w.heap.size w w' := by
  have h0 := rmine7_any h rep reg 0
  have h1 := fun (w' : World) (hb : Below w.heap.size w w') => rmine7_any (h.below hb) rep reg 1
  rw [mineD_copy] at h0
  simp only [mineD_copy] at h1
  unfold whichC
  generalize copyC d rep reg 0 = p0 at *
  generalize copyC d rep reg 1 = p1 at *
  obtain ⟨s0, t0, b0⟩ := p0
  obtain ⟨s1, t1, b1⟩ := p1
  simp only at h0 h1 ⊢
  clear h
  by_cases a0 : s0 = 1
  · subst a0
    have i0 : (((1 : Nat) : Int) == 1) = true := rfl
    by_cases a1 : s1 = 1
    · subst a1
      by_cases a2 : t0.idx < t1.idx
      · have hv : whichP 1 1 t0.idx t1.idx = (1, 0) := by unfold whichP; rw [if_pos ⟨rfl, rfl⟩, if_pos a2]
        rw [hv]
        clear hv
        go_enter Tryz.func63, Tryz.ntmps63
        refine wp_seq_k (fun K hK => ?_)
        have HK := Lib.hid hK
        clear hK
        go_wp2
        refine HK.out _ _ ?_
        clear HK
        refine wp_seq_k (fun K hK => ?_)
        have HK := Lib.hid hK
        clear hK
        go_wp2_with (first
          | (go_at_call 66; refine h0.mono ?_; rintro e w1 ⟨⟨a1, c1, rfl, _⟩, hb1⟩)
          | ((first | (with_reducible refine wpList_stNew 33 _ _ ?_) | (with_reducible refine wp_stNew 33 _ _ ?_)); refine ⟨_, _, ⟨Tryz.sizeOf33, rfl, tg_new _⟩, rfl, ?_⟩))
        refine HK.out _ _ ?_
        clear HK
        have hb2 := hb1.trans ((blw w1 (Obj.cells #[.int .i64 t0.rep, .int .i64 t0.reg, .int .i64 t0.pla, .int .i64 t0.idx, .int .i64 t0.inc] 33)).mono hb1.size)
        have T2 := heap_alloc_new w1 (Obj.cells #[.int .i64 t0.rep, .int .i64 t0.reg, .int .i64 t0.pla, .int .i64 t0.idx, .int .i64 t0.inc] 33)
        have h1' := h1 _ hb2
        clear h0 h1 hb1
        generalize w1.alloc (Obj.cells #[.int .i64 t0.rep, .int .i64 t0.reg, .int .i64 t0.pla, .int .i64 t0.idx, .int .i64 t0.inc] 33) = w2 at *
        generalize w1.heap.size = q2 at *
        refine wp_seq_k (fun K hK => ?_)
        have HK := Lib.hid hK
        clear hK
        go_wp2_with (first
          | (go_at_call 66; refine h1'.mono ?_; rintro e w3 ⟨⟨a3, c3, rfl, _⟩, hb3⟩)
          | ((first | (with_reducible refine wpList_stNew 33 _ _ ?_) | (with_reducible refine wp_stNew 33 _ _ ?_)); refine ⟨_, _, ⟨Tryz.sizeOf33, rfl, tg_new _⟩, rfl, ?_⟩))
        refine HK.out _ _ ?_
        clear HK
        have hb4 := hb2.trans ((hb3.trans ((blw w3 (Obj.cells #[.int .i64 t1.rep, .int .i64 t1.reg, .int .i64 t1.pla, .int .i64 t1.idx, .int .i64 t1.inc] 33)).mono hb3.size)).mono hb2.size)
        have T4 := tr_al (Obj.cells #[.int .i64 t1.rep, .int .i64 t1.reg, .int .i64 t1.pla, .int .i64 t1.idx, .int .i64 t1.inc] 33) (tr_bl hb3 T2)
        have T5 := heap_alloc_new w3 (Obj.cells #[.int .i64 t1.rep, .int .i64 t1.reg, .int .i64 t1.pla, .int .i64 t1.idx, .int .i64 t1.inc] 33)
        clear h1' hb2 hb3 T2
        generalize w3.alloc (Obj.cells #[.int .i64 t1.rep, .int .i64 t1.reg, .int .i64 t1.pla, .int .i64 t1.idx, .int .i64 t1.inc] 33) = w4 at *
        generalize w3.heap.size = q4 at *
        have u0 := blk_cell T4 3 (.int .i64 t0.idx) rfl
        have u1 := blk_cell T5 3 (.int .i64 t1.idx) rfl
        go_wp2
        go_ret2
        exact ⟨rfl, hb4⟩
      · have hv : whichP 1 1 t0.idx t1.idx = (0, 0) := by unfold whichP; rw [if_pos ⟨rfl, rfl⟩, if_neg a2]
        rw [hv]
        clear hv
        go_enter Tryz.func63, Tryz.ntmps63
        refine wp_seq_k (fun K hK => ?_)
        have HK := Lib.hid hK
        clear hK
        go_wp2
        refine HK.out _ _ ?_
        clear HK
        refine wp_seq_k (fun K hK => ?_)
        have HK := Lib.hid hK
        clear hK
        go_wp2_with (first
          | (go_at_call 66; refine h0.mono ?_; rintro e w1 ⟨⟨a1, c1, rfl, _⟩, hb1⟩)
          | ((first | (with_reducible refine wpList_stNew 33 _ _ ?_) | (with_reducible refine wp_stNew 33 _ _ ?_)); refine ⟨_, _, ⟨Tryz.sizeOf33, rfl, tg_new _⟩, rfl, ?_⟩))
        refine HK.out _ _ ?_
        clear HK
        have hb2 := hb1.trans ((blw w1 (Obj.cells #[.int .i64 t0.rep, .int .i64 t0.reg, .int .i64 t0.pla, .int .i64 t0.idx, .int .i64 t0.inc] 33)).mono hb1.size)
        have T2 := heap_alloc_new w1 (Obj.cells #[.int .i64 t0.rep, .int .i64 t0.reg, .int .i64 t0.pla, .int .i64 t0.idx, .int .i64 t0.inc] 33)
        have h1' := h1 _ hb2
        clear h0 h1 hb1
        generalize w1.alloc (Obj.cells #[.int .i64 t0.rep, .int .i64 t0.reg, .int .i64 t0.pla, .int .i64 t0.idx, .int .i64 t0.inc] 33) = w2 at *
        generalize w1.heap.size = q2 at *
        refine wp_seq_k (fun K hK => ?_)
        have HK := Lib.hid hK
        clear hK
        go_wp2_with (first
          | (go_at_call 66; refine h1'.mono ?_; rintro e w3 ⟨⟨a3, c3, rfl, _⟩, hb3⟩)
          | ((first | (with_reducible refine wpList_stNew 33 _ _ ?_) | (with_reducible refine wp_stNew 33 _ _ ?_)); refine ⟨_, _, ⟨Tryz.sizeOf33, rfl, tg_new _⟩, rfl, ?_⟩))
        refine HK.out _ _ ?_
        clear HK
        have hb4 := hb2.trans ((hb3.trans ((blw w3 (Obj.cells #[.int .i64 t1.rep, .int .i64 t1.reg, .int .i64 t1.pla, .int .i64 t1.idx, .int .i64 t1.inc] 33)).mono hb3.size)).mono hb2.size)
        have T4 := tr_al (Obj.cells #[.int .i64 t1.rep, .int .i64 t1.reg, .int .i64 t1.pla, .int .i64 t1.idx, .int .i64 t1.inc] 33) (tr_bl hb3 T2)
        have T5 := heap_alloc_new w3 (Obj.cells #[.int .i64 t1.rep, .int .i64 t1.reg, .int .i64 t1.pla, .int .i64 t1.idx, .int .i64 t1.inc] 33)
        clear h1' hb2 hb3 T2
        generalize w3.alloc (Obj.cells #[.int .i64 t1.rep, .int .i64 t1.reg, .int .i64 t1.pla, .int .i64 t1.idx, .int .i64 t1.inc] 33) = w4 at *
        generalize w3.heap.size = q4 at *
        have u0 := blk_cell T4 3 (.int .i64 t0.idx) rfl
        have u1 := blk_cell T5 3 (.int .i64 t1.idx) rfl
        go_wp2
        go_ret2
        exact ⟨rfl, hb4⟩
    · have hv : whichP 1 s1 t0.idx t1.idx = (0, 0) := by unfold whichP; rw [if_neg (fun hh => a1 hh.2), if_pos rfl]
      rw [hv]
      have i1 : ((s1 : Int) == 1) = false := by rw [beq_eq_false_iff_ne]; omega
      clear hv a1
      go_enter Tryz.func63, Tryz.ntmps63
      refine wp_seq_k (fun K hK => ?_)
      have HK := Lib.hid hK
      clear hK
      go_wp2
      refine HK.out _ _ ?_
      clear HK
      refine wp_seq_k (fun K hK => ?_)
      have HK := Lib.hid hK
      clear hK
      go_wp2_with (first
        | (go_at_call 66; refine h0.mono ?_; rintro e w1 ⟨⟨a1, c1, rfl, _⟩, hb1⟩)
        | ((first | (with_reducible refine wpList_stNew 33 _ _ ?_) | (with_reducible refine wp_stNew 33 _ _ ?_)); refine ⟨_, _, ⟨Tryz.sizeOf33, rfl, tg_new _⟩, rfl, ?_⟩))
      refine HK.out _ _ ?_
      clear HK
      have hb2 := hb1.trans ((blw w1 (Obj.cells #[.int .i64 t0.rep, .int .i64 t0.reg, .int .i64 t0.pla, .int .i64 t0.idx, .int .i64 t0.inc] 33)).mono hb1.size)
      have T2 := heap_alloc_new w1 (Obj.cells #[.int .i64 t0.rep, .int .i64 t0.reg, .int .i64 t0.pla, .int .i64 t0.idx, .int .i64 t0.inc] 33)
      have h1' := h1 _ hb2
      clear h0 h1 hb1
      generalize w1.alloc (Obj.cells #[.int .i64 t0.rep, .int .i64 t0.reg, .int .i64 t0.pla, .int .i64 t0.idx, .int .i64 t0.inc] 33) = w2 at *
      generalize w1.heap.size = q2 at *
      refine wp_seq_k (fun K hK => ?_)
      have HK := Lib.hid hK
      clear hK
      go_wp2_with (first
        | (go_at_call 66; refine h1'.mono ?_; rintro e w3 ⟨⟨a3, c3, rfl, _⟩, hb3⟩)
        | ((first | (with_reducible refine wpList_stNew 33 _ _ ?_) | (with_reducible refine wp_stNew 33 _ _ ?_)); refine ⟨_, _, ⟨Tryz.sizeOf33, rfl, tg_new _⟩, rfl, ?_⟩))
      refine HK.out _ _ ?_
      clear HK
      have hb4 := hb2.trans ((hb3.trans ((blw w3 (Obj.cells #[.int .i64 t1.rep, .int .i64 t1.reg, .int .i64 t1.pla, .int .i64 t1.idx, .int .i64 t1.inc] 33)).mono hb3.size)).mono hb2.size)
      have T4 := tr_al (Obj.cells #[.int .i64 t1.rep, .int .i64 t1.reg, .int .i64 t1.pla, .int .i64 t1.idx, .int .i64 t1.inc] 33) (tr_bl hb3 T2)
      have T5 := heap_alloc_new w3 (Obj.cells #[.int .i64 t1.rep, .int .i64 t1.reg, .int .i64 t1.pla, .int .i64 t1.idx, .int .i64 t1.inc] 33)
      clear h1' hb2 hb3 T2
      generalize w3.alloc (Obj.cells #[.int .i64 t1.rep, .int .i64 t1.reg, .int .i64 t1.pla, .int .i64 t1.idx, .int .i64 t1.inc] 33) = w4 at *
      generalize w3.heap.size = q4 at *
      have u0 := blk_cell T4 3 (.int .i64 t0.idx) rfl
      have u1 := blk_cell T5 3 (.int .i64 t1.idx) rfl
      go_wp2
      go_ret2
      exact ⟨rfl, hb4⟩
  · have i0 : ((s0 : Int) == 1) = false := by rw [beq_eq_false_iff_ne]; omega
    by_cases a1 : s1 = 1
    · subst a1
      have i1 : (((1 : Nat) : Int) == 1) = true := rfl
      have hv : whichP s0 1 t0.idx t1.idx = (1, 0) := by unfold whichP; rw [if_neg (fun hh => a0 hh.1), if_neg a0, if_pos rfl]
      rw [hv]
      clear hv a0
      go_enter Tryz.func63, Tryz.ntmps63
      refine wp_seq_k (fun K hK => ?_)
      have HK := Lib.hid hK
      clear hK
      go_wp2
      refine HK.out _ _ ?_
      clear HK
      refine wp_seq_k (fun K hK => ?_)
      have HK := Lib.hid hK
      clear hK
      go_wp2_with (first
        | (go_at_call 66; refine h0.mono ?_; rintro e w1 ⟨⟨a1, c1, rfl, _⟩, hb1⟩)
        | ((first | (with_reducible refine wpList_stNew 33 _ _ ?_) | (with_reducible refine wp_stNew 33 _ _ ?_)); refine ⟨_, _, ⟨Tryz.sizeOf33, rfl, tg_new _⟩, rfl, ?_⟩))
      refine HK.out _ _ ?_
      clear HK
      have hb2 := hb1.trans ((blw w1 (Obj.cells #[.int .i64 t0.rep, .int .i64 t0.reg, .int .i64 t0.pla, .int .i64 t0.idx, .int .i64 t0.inc] 33)).mono hb1.size)
      have T2 := heap_alloc_new w1 (Obj.cells #[.int .i64 t0.rep, .int .i64 t0.reg, .int .i64 t0.pla, .int .i64 t0.idx, .int .i64 t0.inc] 33)
      have h1' := h1 _ hb2
      clear h0 h1 hb1
      generalize w1.alloc (Obj.cells #[.int .i64 t0.rep, .int .i64 t0.reg, .int .i64 t0.pla, .int .i64 t0.idx, .int .i64 t0.inc] 33) = w2 at *
      generalize w1.heap.size = q2 at *
      refine wp_seq_k (fun K hK => ?_)
      have HK := Lib.hid hK
      clear hK
      go_wp2_with (first
        | (go_at_call 66; refine h1'.mono ?_; rintro e w3 ⟨⟨a3, c3, rfl, _⟩, hb3⟩)
        | ((first | (with_reducible refine wpList_stNew 33 _ _ ?_) | (with_reducible refine wp_stNew 33 _ _ ?_)); refine ⟨_, _, ⟨Tryz.sizeOf33, rfl, tg_new _⟩, rfl, ?_⟩))
      refine HK.out _ _ ?_
      clear HK
      have hb4 := hb2.trans ((hb3.trans ((blw w3 (Obj.cells #[.int .i64 t1.rep, .int .i64 t1.reg, .int .i64 t1.pla, .int .i64 t1.idx, .int .i64 t1.inc] 33)).mono hb3.size)).mono hb2.size)
      have T4 := tr_al (Obj.cells #[.int .i64 t1.rep, .int .i64 t1.reg, .int .i64 t1.pla, .int .i64 t1.idx, .int .i64 t1.inc] 33) (tr_bl hb3 T2)
      have T5 := heap_alloc_new w3 (Obj.cells #[.int .i64 t1.rep, .int .i64 t1.reg, .int .i64 t1.pla, .int .i64 t1.idx, .int .i64 t1.inc] 33)
      clear h1' hb2 hb3 T2
      generalize w3.alloc (Obj.cells #[.int .i64 t1.rep, .int .i64 t1.reg, .int .i64 t1.pla, .int .i64 t1.idx, .int .i64 t1.inc] 33) = w4 at *
      generalize w3.heap.size = q4 at *
      have u0 := blk_cell T4 3 (.int .i64 t0.idx) rfl
      have u1 := blk_cell T5 3 (.int .i64 t1.idx) rfl
      go_wp2
      go_ret2
      exact ⟨rfl, hb4⟩
    · have i1 : ((s1 : Int) == 1) = false := by rw [beq_eq_false_iff_ne]; omega
      by_cases a2 : s0 = 0
      · have hv : whichP s0 s1 t0.idx t1.idx = (-1, 0) := by unfold whichP; rw [if_neg (fun hh => a0 hh.1), if_neg a0, if_neg a1, if_pos (.inl a2)]
        rw [hv]
        have i2 : ((s0 : Int) == 0) = true := by rw [a2]; rfl
        clear hv a0 a1 a2
        go_enter Tryz.func63, Tryz.ntmps63
        refine wp_seq_k (fun K hK => ?_)
        have HK := Lib.hid hK
        clear hK
        go_wp2
        refine HK.out _ _ ?_
        clear HK
        refine wp_seq_k (fun K hK => ?_)
        have HK := Lib.hid hK
        clear hK
        go_wp2_with (first
          | (go_at_call 66; refine h0.mono ?_; rintro e w1 ⟨⟨a1, c1, rfl, _⟩, hb1⟩)
          | ((first | (with_reducible refine wpList_stNew 33 _ _ ?_) | (with_reducible refine wp_stNew 33 _ _ ?_)); refine ⟨_, _, ⟨Tryz.sizeOf33, rfl, tg_new _⟩, rfl, ?_⟩))
        refine HK.out _ _ ?_
        clear HK
        have hb2 := hb1.trans ((blw w1 (Obj.cells #[.int .i64 t0.rep, .int .i64 t0.reg, .int .i64 t0.pla, .int .i64 t0.idx, .int .i64 t0.inc] 33)).mono hb1.size)
        have T2 := heap_alloc_new w1 (Obj.cells #[.int .i64 t0.rep, .int .i64 t0.reg, .int .i64 t0.pla, .int .i64 t0.idx, .int .i64 t0.inc] 33)
        have h1' := h1 _ hb2
        clear h0 h1 hb1
        generalize w1.alloc (Obj.cells #[.int .i64 t0.rep, .int .i64 t0.reg, .int .i64 t0.pla, .int .i64 t0.idx, .int .i64 t0.inc] 33) = w2 at *
        generalize w1.heap.size = q2 at *
        refine wp_seq_k (fun K hK => ?_)
        have HK := Lib.hid hK
        clear hK
        go_wp2_with (first
          | (go_at_call 66; refine h1'.mono ?_; rintro e w3 ⟨⟨a3, c3, rfl, _⟩, hb3⟩)
          | ((first | (with_reducible refine wpList_stNew 33 _ _ ?_) | (with_reducible refine wp_stNew 33 _ _ ?_)); refine ⟨_, _, ⟨Tryz.sizeOf33, rfl, tg_new _⟩, rfl, ?_⟩))
        refine HK.out _ _ ?_
        clear HK
        have hb4 := hb2.trans ((hb3.trans ((blw w3 (Obj.cells #[.int .i64 t1.rep, .int .i64 t1.reg, .int .i64 t1.pla, .int .i64 t1.idx, .int .i64 t1.inc] 33)).mono hb3.size)).mono hb2.size)
        have T4 := tr_al (Obj.cells #[.int .i64 t1.rep, .int .i64 t1.reg, .int .i64 t1.pla, .int .i64 t1.idx, .int .i64 t1.inc] 33) (tr_bl hb3 T2)
        have T5 := heap_alloc_new w3 (Obj.cells #[.int .i64 t1.rep, .int .i64 t1.reg, .int .i64 t1.pla, .int .i64 t1.idx, .int .i64 t1.inc] 33)
        clear h1' hb2 hb3 T2
        generalize w3.alloc (Obj.cells #[.int .i64 t1.rep, .int .i64 t1.reg, .int .i64 t1.pla, .int .i64 t1.idx, .int .i64 t1.inc] 33) = w4 at *
        generalize w3.heap.size = q4 at *
        have u0 := blk_cell T4 3 (.int .i64 t0.idx) rfl
        have u1 := blk_cell T5 3 (.int .i64 t1.idx) rfl
        go_wp2
        go_ret2
        exact ⟨rfl, hb4⟩
      · have i2 : ((s0 : Int) == 0) = false := by rw [beq_eq_false_iff_ne]; omega
        by_cases a3 : s1 = 0
        · have hv : whichP s0 s1 t0.idx t1.idx = (-1, 0) := by unfold whichP; rw [if_neg (fun hh => a0 hh.1), if_neg a0, if_neg a1, if_pos (.inr a3)]
          rw [hv]
          have i3 : ((s1 : Int) == 0) = true := by rw [a3]; rfl
          clear hv a0 a1 a2 a3
          go_enter Tryz.func63, Tryz.ntmps63
          refine wp_seq_k (fun K hK => ?_)
          have HK := Lib.hid hK
          clear hK
          go_wp2
          refine HK.out _ _ ?_
          clear HK
          refine wp_seq_k (fun K hK => ?_)
          have HK := Lib.hid hK
          clear hK
          go_wp2_with (first
            | (go_at_call 66; refine h0.mono ?_; rintro e w1 ⟨⟨a1, c1, rfl, _⟩, hb1⟩)
            | ((first | (with_reducible refine wpList_stNew 33 _ _ ?_) | (with_reducible refine wp_stNew 33 _ _ ?_)); refine ⟨_, _, ⟨Tryz.sizeOf33, rfl, tg_new _⟩, rfl, ?_⟩))
          refine HK.out _ _ ?_
          clear HK
          have hb2 := hb1.trans ((blw w1 (Obj.cells #[.int .i64 t0.rep, .int .i64 t0.reg, .int .i64 t0.pla, .int .i64 t0.idx, .int .i64 t0.inc] 33)).mono hb1.size)
          have T2 := heap_alloc_new w1 (Obj.cells #[.int .i64 t0.rep, .int .i64 t0.reg, .int .i64 t0.pla, .int .i64 t0.idx, .int .i64 t0.inc] 33)
          have h1' := h1 _ hb2
          clear h0 h1 hb1
          generalize w1.alloc (Obj.cells #[.int .i64 t0.rep, .int .i64 t0.reg, .int .i64 t0.pla, .int .i64 t0.idx, .int .i64 t0.inc] 33) = w2 at *
          generalize w1.heap.size = q2 at *
          refine wp_seq_k (fun K hK => ?_)
          have HK := Lib.hid hK
          clear hK
          go_wp2_with (first
            | (go_at_call 66; refine h1'.mono ?_; rintro e w3 ⟨⟨a3, c3, rfl, _⟩, hb3⟩)
            | ((first | (with_reducible refine wpList_stNew 33 _ _ ?_) | (with_reducible refine wp_stNew 33 _ _ ?_)); refine ⟨_, _, ⟨Tryz.sizeOf33, rfl, tg_new _⟩, rfl, ?_⟩))
          refine HK.out _ _ ?_
          clear HK
          have hb4 := hb2.trans ((hb3.trans ((blw w3 (Obj.cells #[.int .i64 t1.rep, .int .i64 t1.reg, .int .i64 t1.pla, .int .i64 t1.idx, .int .i64 t1.inc] 33)).mono hb3.size)).mono hb2.size)
          have T4 := tr_al (Obj.cells #[.int .i64 t1.rep, .int .i64 t1.reg, .int .i64 t1.pla, .int .i64 t1.idx, .int .i64 t1.inc] 33) (tr_bl hb3 T2)
          have T5 := heap_alloc_new w3 (Obj.cells #[.int .i64 t1.rep, .int .i64 t1.reg, .int .i64 t1.pla, .int .i64 t1.idx, .int .i64 t1.inc] 33)
          clear h1' hb2 hb3 T2
          generalize w3.alloc (Obj.cells #[.int .i64 t1.rep, .int .i64 t1.reg, .int .i64 t1.pla, .int .i64 t1.idx, .int .i64 t1.inc] 33) = w4 at *
          generalize w3.heap.size = q4 at *
          have u0 := blk_cell T4 3 (.int .i64 t0.idx) rfl
          have u1 := blk_cell T5 3 (.int .i64 t1.idx) rfl
          go_wp2
          go_ret2
          exact ⟨rfl, hb4⟩
        · have hv : whichP s0 s1 t0.idx t1.idx = (-1, 70) := by unfold whichP; rw [if_neg (fun hh => a0 hh.1), if_neg a0, if_neg a1, if_neg (fun hh => hh.elim a2 a3)]
          rw [hv]
          have i3 : ((s1 : Int) == 0) = false := by rw [beq_eq_false_iff_ne]; omega
          clear hv a0 a1 a2 a3
          go_enter Tryz.func63, Tryz.ntmps63
          refine wp_seq_k (fun K hK => ?_)
          have HK := Lib.hid hK
          clear hK
          go_wp2
          refine HK.out _ _ ?_
          clear HK
          refine wp_seq_k (fun K hK => ?_)
          have HK := Lib.hid hK
          clear hK
          go_wp2_with (first
            | (go_at_call 66; refine h0.mono ?_; rintro e w1 ⟨⟨a1, c1, rfl, _⟩, hb1⟩)
            | ((first | (with_reducible refine wpList_stNew 33 _ _ ?_) | (with_reducible refine wp_stNew 33 _ _ ?_)); refine ⟨_, _, ⟨Tryz.sizeOf33, rfl, tg_new _⟩, rfl, ?_⟩))
          refine HK.out _ _ ?_
          clear HK
          have hb2 := hb1.trans ((blw w1 (Obj.cells #[.int .i64 t0.rep, .int .i64 t0.reg, .int .i64 t0.pla, .int .i64 t0.idx, .int .i64 t0.inc] 33)).mono hb1.size)
          have T2 := heap_alloc_new w1 (Obj.cells #[.int .i64 t0.rep, .int .i64 t0.reg, .int .i64 t0.pla, .int .i64 t0.idx, .int .i64 t0.inc] 33)
          have h1' := h1 _ hb2
          clear h0 h1 hb1
          generalize w1.alloc (Obj.cells #[.int .i64 t0.rep, .int .i64 t0.reg, .int .i64 t0.pla, .int .i64 t0.idx, .int .i64 t0.inc] 33) = w2 at *
          generalize w1.heap.size = q2 at *
          refine wp_seq_k (fun K hK => ?_)
          have HK := Lib.hid hK
          clear hK
          go_wp2_with (first
            | (go_at_call 66; refine h1'.mono ?_; rintro e w3 ⟨⟨a3, c3, rfl, _⟩, hb3⟩)
            | ((first | (with_reducible refine wpList_stNew 33 _ _ ?_) | (with_reducible refine wp_stNew 33 _ _ ?_)); refine ⟨_, _, ⟨Tryz.sizeOf33, rfl, tg_new _⟩, rfl, ?_⟩))
          refine HK.out _ _ ?_
          clear HK
          have hb4 := hb2.trans ((hb3.trans ((blw w3 (Obj.cells #[.int .i64 t1.rep, .int .i64 t1.reg, .int .i64 t1.pla, .int .i64 t1.idx, .int .i64 t1.inc] 33)).mono hb3.size)).mono hb2.size)
          have T4 := tr_al (Obj.cells #[.int .i64 t1.rep, .int .i64 t1.reg, .int .i64 t1.pla, .int .i64 t1.idx, .int .i64 t1.inc] 33) (tr_bl hb3 T2)
          have T5 := heap_alloc_new w3 (Obj.cells #[.int .i64 t1.rep, .int .i64 t1.reg, .int .i64 t1.pla, .int .i64 t1.idx, .int .i64 t1.inc] 33)
          clear h1' hb2 hb3 T2
          generalize w3.alloc (Obj.cells #[.int .i64 t1.rep, .int .i64 t1.reg, .int .i64 t1.pla, .int .i64 t1.idx, .int .i64 t1.inc] 33) = w4 at *
          generalize w3.heap.size = q4 at *
          have u0 := blk_cell T4 3 (.int .i64 t0.idx) rfl
          have u1 := blk_cell T5 3 (.int .i64 t1.idx) rfl
          go_wp2
          go_ret2
          exact ⟨rfl, hb4⟩
end
end Go.Proofs.YtddddemclhlfaaaGreatDoor
namespace Go.Proofs.YtddddemclhlfaaaGreatDoor
open Go.RowKit
theorem which_ge {d : Dk} {rep reg : Int} (h : 0 ≤ (whichC d rep reg).1) : (loadedC (copyC d rep reg 0) (copyC d rep reg 1)).2.1 = true ∧ ((loadedC (copyC d rep reg 0) (copyC d rep reg 1)).1 = 0 ∨ (loadedC (copyC d rep reg 0) (copyC d rep reg 1)).1 = 1) ∧ (whichC d rep reg).1 = (loadedC (copyC d rep reg 0) (copyC d rep reg 1)).1 ∧ copyC d rep reg (whichC d rep reg).1 = pickC (copyC d rep reg 0) (copyC d rep reg 1) := by
  unfold whichC at h ⊢
  rw [which_loaded] at h ⊢
  have hl : (loadedC (copyC d rep reg 0) (copyC d rep reg 1)).1 = 0 ∨ (loadedC (copyC d rep reg 0) (copyC d rep reg 1)).1 = 1 := by
    unfold loadedC
    split
    · exact .inr rfl
    · split
      · exact .inl rfl
      · split <;> exact .inl rfl
  cases ha : (loadedC (copyC d rep reg 0) (copyC d rep reg 1)).2.1
  · rw [ha] at h
    simp at h
  · simp only [if_true]
    refine ⟨trivial, hl, trivial, ?_⟩
    unfold pickC
    rcases hl with hl | hl
    · rw [hl]; simp
    · rw [hl]; simp
theorem which_lt {d : Dk} {rep reg : Int} (h : (whichC d rep reg).1 < 0) : (loadedC (copyC d rep reg 0) (copyC d rep reg 1)).2.1 = false ∧ (whichC d rep reg).2 = (loadedC (copyC d rep reg 0) (copyC d rep reg 1)).2.2 := by
  unfold whichC at h ⊢
  rw [which_loaded] at h ⊢
  cases ha : (loadedC (copyC d rep reg 0) (copyC d rep reg 1)).2.1
  · exact ⟨rfl, rfl⟩
  · rw [ha] at h
    simp at h
    omega
def LdR (r : Int × List UInt8 × Int) (e : Ending) (w' : World) : Prop := ∃ a c, e = .returned (.tuple #[.int .i64 r.1, .slice a r.2.1.length c, .int .i64 r.2.2]) ∧ SlB w' a c r.2.1
section
variable {B g : Nat} {q : RQ} {d : Dk} {w w' : World}
set_option maxRecDepth 100000 in
set_option maxHeartbeats 2000000 in
theorem rload_any (h : RefB B g q d w) (rep reg : Int) : Calls Tryz.prog 27 #[.pointer (some ⟨g, 0, none⟩), .int .i64 rep, .int .i64 reg] w fun e w' => LdR (loadC d rep reg) e w' ∧ Below w.heap.size w w' := by
  have hk := rasked7_any h rep reg
  have hn := h.n0
  have c4 := h.c4
  have c5 := h.c5
  have hv : openC d rep reg = if d.pl.length < 156 ∨ (reg ≠ 1 ∧ reg ≠ 2) ∨ rep < 0 ∨ 7 ≤ rep then 2 else if upD d = false then 5 else 0 := by
    unfold openC
    rw [if_neg (by omega)]
  have hup : upD d = (!d.down && !d.dead) := by unfold upD; rw [decide_eq_true hn]; rfl
  by_cases h2 : openC d rep reg = 2
  case pos =>
    rw [decide_eq_false (by rw [h2]; simp)] at hk
    have hl : loadC d rep reg = (0, [], 2) := by unfold loadC; rw [if_pos (by rw [h2]; simp), h2]
    rw [hl]
    clear hl h2 hv hup
    go_enter Tryz.func27, Tryz.ntmps27
    go_wp2_with (go_at_call 62; refine hk.mono ?_; rintro e w1 ⟨rfl, rfl⟩)
    go_ret3
    exact ⟨⟨none, 0, rfl, slb_nil _⟩, Below.refl _ _⟩
  case neg =>
  rw [decide_eq_true h2] at hk
  have hv2 : openC d rep reg = if upD d = false then 5 else 0 := by
    rw [hv] at h2 ⊢
    split at h2
    · exact absurd rfl h2
    · rename_i h3; rw [if_neg h3]
  clear hv h2
  rcases two_b d.down with e1 | e1
  case inr =>
    have hl : loadC d rep reg = (0, [], 5) := by
      have h5 : openC d rep reg = 5 := by rw [hv2, hup, e1]; rfl
      unfold loadC
      rw [if_pos (by rw [h5]; simp), h5]
    rw [hl]
    rw [e1] at c4
    clear hl hv2 hup e1
    go_enter Tryz.func27, Tryz.ntmps27
    go_wp2_with (go_at_call 62; refine hk.mono ?_; rintro e w1 ⟨rfl, rfl⟩)
    go_ret3
    exact ⟨⟨none, 0, rfl, slb_nil _⟩, Below.refl _ _⟩
  case inl =>
  rcases two_b d.dead with e2 | e2
  case inr =>
    have hl : loadC d rep reg = (0, [], 5) := by
      have h5 : openC d rep reg = 5 := by rw [hv2, hup, e1, e2]; rfl
      unfold loadC
      rw [if_pos (by rw [h5]; simp), h5]
    rw [hl]
    rw [e1] at c4
    rw [e2] at c5
    clear hl hv2 hup e1 e2
    go_enter Tryz.func27, Tryz.ntmps27
    go_wp2_with (go_at_call 62; refine hk.mono ?_; rintro e w1 ⟨rfl, rfl⟩)
    go_ret3
    exact ⟨⟨none, 0, rfl, slb_nil _⟩, Below.refl _ _⟩
  case inl =>
  have ho : openC d rep reg = 0 := by rw [hv2, hup, e1, e2]; rfl
  rw [e1] at c4
  rw [e2] at c5
  clear hv2 hup e1 e2
  have hwh := rwhich_any h rep reg
  have hge := which_ge (d := d) (rep := rep) (reg := reg)
  have hlt := which_lt (d := d) (rep := rep) (reg := reg)
  obtain ⟨⟨i, er⟩, hw⟩ : ∃ r, whichC d rep reg = r := ⟨_, rfl⟩
  rw [hw] at hwh hge hlt
  simp only at hwh hge hlt
  clear hw
  by_cases hi : i < 0
  case pos =>
    obtain ⟨h1, h2⟩ := hlt hi
    have hl : loadC d rep reg = (0, [], er) := by unfold loadC; rw [if_neg (by rw [ho]; simp), if_pos h1, h2]
    rw [hl]
    clear hl hge hlt h1 h2 ho
    go_enter Tryz.func27, Tryz.ntmps27
    go_wp2_with (first
      | (go_at_call 62; refine hk.mono ?_; rintro e w1 ⟨rfl, rfl⟩)
      | (go_at_call 63; refine hwh.mono ?_; rintro e w2 ⟨rfl, hb2⟩))
    go_ret3
    exact ⟨⟨none, 0, rfl, slb_nil _⟩, hb2⟩
  case neg =>
    have h1 := (hge (by omega)).1
    have h4 := (hge (by omega)).2.2.2
    have hmi := fun (w' : World) (hb : Below w.heap.size w w') => rmine7_any (h.below hb) rep reg i
    simp only [mineD_copy, h4] at hmi
    have hl : loadC d rep reg = ((pickC (copyC d rep reg 0) (copyC d rep reg 1)).tg.idx, (pickC (copyC d rep reg 0) (copyC d rep reg 1)).body, 0) := by unfold loadC; rw [if_neg (by rw [ho]; simp), if_neg (by rw [h1]; simp)]
    rw [hl]
    clear hl hge hlt h1 h4 ho
    generalize pickC (copyC d rep reg 0) (copyC d rep reg 1) = pc at *
    obtain ⟨st, tg, body⟩ := pc
    simp only at hmi ⊢
    go_enter Tryz.func27, Tryz.ntmps27
    refine wp_seq_k (fun K hK => ?_)
    have HK := Lib.hid hK
    clear hK
    go_wp2
    refine HK.out _ _ ?_
    clear HK
    refine wp_seq_k (fun K hK => ?_)
    have HK := Lib.hid hK
    clear hK
    go_wp2_with (go_at_call 62; refine hk.mono ?_; rintro e w1 ⟨rfl, rfl⟩)
    refine HK.out _ _ ?_
    clear HK
    refine wp_seq_k (fun K hK => ?_)
    have HK := Lib.hid hK
    clear hK
    go_wp2
    refine HK.out _ _ ?_
    clear HK
    refine wp_seq_k (fun K hK => ?_)
    have HK := Lib.hid hK
    clear hK
    go_wp2_with (go_at_call 63; refine hwh.mono ?_; rintro e w2 ⟨rfl, hb2⟩)
    refine HK.out _ _ ?_
    clear HK
    have hmi2 := hmi _ hb2
    clear hmi hwh hk
    refine wp_seq_k (fun K hK => ?_)
    have HK := Lib.hid hK
    clear hK
    go_wp2
    refine HK.out _ _ ?_
    clear HK
    refine wp_seq_k (fun K hK => ?_)
    have HK := Lib.hid hK
    clear hK
    go_wp2_with (first
          | (go_at_call 66; refine hmi2.mono ?_; rintro e w3 ⟨⟨a3, c3, rfl, o3⟩, hb3⟩)
          | ((first | (with_reducible refine wpList_stNew 33 _ _ ?_) | (with_reducible refine wp_stNew 33 _ _ ?_)); refine ⟨_, _, ⟨Tryz.sizeOf33, rfl, tg_new _⟩, rfl, ?_⟩))
    refine HK.out _ _ ?_
    clear HK
    have T4 := heap_alloc_new w3 (Obj.cells #[.int .i64 tg.rep, .int .i64 tg.reg, .int .i64 tg.pla, .int .i64 tg.idx, .int .i64 tg.inc] 33)
    have s4 := o3.slb.below (blw w3 (Obj.cells #[.int .i64 tg.rep, .int .i64 tg.reg, .int .i64 tg.pla, .int .i64 tg.idx, .int .i64 tg.inc] 33))
    have hb4 := (hb2.trans (hb3.mono hb2.size)).trans ((blw w3 (Obj.cells #[.int .i64 tg.rep, .int .i64 tg.reg, .int .i64 tg.pla, .int .i64 tg.idx, .int .i64 tg.inc] 33)).mono (Nat.le_trans hb2.size hb3.size))
    clear hmi2 hb2 hb3 o3
    generalize w3.alloc (Obj.cells #[.int .i64 tg.rep, .int .i64 tg.reg, .int .i64 tg.pla, .int .i64 tg.idx, .int .i64 tg.inc] 33) = w4 at *
    generalize w3.heap.size = q4 at *
    have u0 := blk_cell T4 3 (.int .i64 tg.idx) rfl
    go_wp2
    go_ret3
    exact ⟨⟨a3, c3, rfl, s4⟩, hb4⟩
end
end Go.Proofs.YtddddemclhlfaaaGreatDoor
namespace Go.Proofs.YtddddemclhlfaaaGreatDoor
open Go.RowKit
theorem put_pl (d : Dk) (t : Tg) (body : List UInt8) : (putC d t body).1.pl.length = d.pl.length ∧ (putC d t body).1.waits.length ≤ d.waits.length + 1 := by
  obtain ⟨h1, h2⟩ := write_pl d (firstN t.reg t.pla) (sealF t body 64)
  unfold putC
  split
  · exact ⟨by rw [h1], h2⟩
  · rcases flush_pl (writeD d (firstN t.reg t.pla) (sealF t body 64)).1 with ⟨h3, h4⟩ | ⟨h3, h4⟩
    · exact ⟨by rw [h3, h1], by rw [h4]; exact h2⟩
    · exact ⟨by rw [h3, thru_len2, h1], by rw [h4]; simp⟩
section
variable {B g : Nat} {q : RQ} {d : Dk} {w w' : World}
set_option maxRecDepth 100000 in
set_option maxHeartbeats 2000000 in
theorem rput7_any (h : RefB B g q d w) (hB : B ≤ w.heap.size) (t : Tg) (ht : mayTg t = true) (ba : Option Addr) (bc : Nat) (body : List UInt8) (hbs : SlB w ba bc body) (hbl : body.length ≤ 43) (hwl : d.waits.length ≤ 1000) :
    Calls Tryz.prog 64 #[.pointer (some ⟨g, 0, none⟩), tgV t, .slice ba body.length bc] w fun e w' => e = .returned (.int .i64 (putC d t body).2) ∧ RDoes B g rT w (putC d t body).1 w' := by
  have hbA := blw w (Obj.cells #[.int .i64 t.rep, .int .i64 t.reg, .int .i64 t.pla, .int .i64 t.idx, .int .i64 t.inc] 33)
  have A0 := heap_alloc_new w (Obj.cells #[.int .i64 t.rep, .int .i64 t.reg, .int .i64 t.pla, .int .i64 t.idx, .int .i64 t.inc] 33)
  have hd0 := h.below hbA
  have k0 := Kx.of (X := rT) hbA hB
  have hB0 : B ≤ (w.alloc (Obj.cells #[.int .i64 t.rep, .int .i64 t.reg, .int .i64 t.pla, .int .i64 t.idx, .int .i64 t.inc] 33)).heap.size := Nat.le_trans hB hbA.size
  have hs0 := hbs.below hbA
  have hse := rseal_any t ba bc body 1 (w.alloc (Obj.cells #[.int .i64 t.rep, .int .i64 t.reg, .int .i64 t.pla, .int .i64 t.idx, .int .i64 t.inc] 33)) hs0 (by omega) (by decide)
  have hsr : sealR t body 1 = sealF t body 64 := by
    unfold sealR
    rw [if_pos ⟨ht, by decide, by show body.length ≤ 43; exact hbl⟩]
  rw [hsr] at hse
  have hfi := rfirst3_any t.reg t.pla
  unfold putC
  have hwv : (writeD d (firstN t.reg t.pla) (sealF t body 64)).2 = 0 ∨ (writeD d (firstN t.reg t.pla) (sealF t body 64)).2 ≠ 0 := by omega
  have HWV := Lib.hid hwv
  clear hwv
  generalize sealF t body 64 = sl at *
  generalize firstN t.reg t.pla = f at *
  clear hbs hsr h hbA
  go_enter Tryz.func64, Tryz.ntmps64
  refine wp_seq_k (fun K hK => ?_)
  have HK := Lib.hid hK
  clear hK
  go_wp2
  refine HK.out _ _ ?_
  clear HK
  generalize w.alloc (Obj.cells #[.int .i64 t.rep, .int .i64 t.reg, .int .i64 t.pla, .int .i64 t.idx, .int .i64 t.inc] 33) = w0 at *
  have hq0 := lt_blk A0
  obtain ⟨q0, hqe⟩ : ∃ q0, w.heap.size = q0 := ⟨_, rfl⟩
  (try rw [hqe])
  rw [hqe] at A0
  clear hqe hq0
  refine wp_seq_k (fun K hK => ?_)
  have HK := Lib.hid hK
  clear hK
  go_wp2_with (first
      | ((with_reducible refine wpList_ldB 33 _ ?_); refine ⟨rfl, _, ⟨_, _, _, _, _, Tryz.isAgg33, Tryz.sizeOf33, rfl, ‹_›, ld5 _ _ _ _ _⟩, ?_⟩)
      | (go_at_call 39; refine hse.mono ?_; rintro e w1 ⟨⟨v1, rfl, o1⟩, hb1⟩))
  refine HK.out _ _ ?_
  clear HK
  have hd1 := hd0.below hb1
  have k1 := k0.trans (Kx.of (X := rT) hb1 hB0)
  have A1 := tr_bl hb1 A0
  have hB1 := Nat.le_trans hB0 hb1.size
  clear hd0 k0 A0 hb1 hse hs0 hB0
  obtain ⟨sa, sc, rfl, _⟩ := SlB.of_owns o1
  have hwr := rwrite_any hd1 hB1 f sa sc sl (fun w' hk => by obtain ⟨_, _, e, h⟩ := SlB.of_owns (owns_kx o1 hk (by decide)); cases e; exact h) (by omega)
  have u1 := blk_cell A1 1 (.int .i64 t.reg) rfl
  have u2 := blk_cell A1 2 (.int .i64 t.pla) rfl
  refine wp_seq_k (fun K hK => ?_)
  have HK := Lib.hid hK
  clear hK
  go_wp2_with (first
      | (go_at_call 52; refine (hfi _).mono ?_; rintro e w2 ⟨rfl, rfl⟩)
      | (go_at_call 44; refine hwr.mono ?_; rintro e w3 ⟨rfl, ⟨q3, hd3⟩, k3⟩))
  refine HK.out _ _ ?_
  clear HK
  have k13 := k1.trans k3
  have hB3 := Nat.le_trans hB k13.bl.size
  clear hd1 k1 k3 A1 hB1 o1 hwr u1 u2
  rcases HWV.out with h0 | h0
  · rw [if_neg (by rw [h0]; simp)]
    have hfl := rflush_any hd3 hB3
    rw [h0]
    clear h0 hd3
    go_wp2_with (go_at_call 97; refine hfl.mono ?_; rintro e w4 ⟨rfl, hd4, k4⟩)
    go_ret
    exact ⟨rfl, hd4, k13.trans k4⟩
  · rw [if_pos h0]
    have e0 : ((writeD d f sl).2 != 0) = true := by rw [bne_iff_ne]; exact h0
    clear h0
    generalize writeD d f sl = r at *
    go_wp2
    go_ret
    exact ⟨rfl, ⟨_, hd3⟩, k13⟩
end
end Go.Proofs.YtddddemclhlfaaaGreatDoor
namespace Go.Proofs.YtddddemclhlfaaaGreatDoor
open Go.RowKit
theorem mine_good {b : List UInt8} {rep reg pla : Int} (h : (mineF b rep reg pla).1 = 1) : (mineF b rep reg pla).2.1.rep = rep ∧ (mineF b rep reg pla).2.1.reg = reg ∧ (mineF b rep reg pla).2.1.pla = pla := by
  unfold mineF at h ⊢
  split at h
  · cases h
  · rename_i h1
    rw [if_neg h1]
    have h2 : ¬ ((openF b).2.1.rep ≠ rep ∨ (openF b).2.1.reg ≠ reg ∨ (openF b).2.1.pla ≠ pla) := fun hh => h1 ⟨h, hh⟩
    refine ⟨Decidable.byContradiction fun e => h2 (.inl e), Decidable.byContradiction fun e => h2 (.inr (.inl e)), Decidable.byContradiction fun e => h2 (.inr (.inr e))⟩
theorem copy_good {d : Dk} {rep reg i : Int} (h : (copyC d rep reg i).st = 1) : (copyC d rep reg i).tg.rep = rep ∧ (copyC d rep reg i).tg.reg = reg ∧ (copyC d rep reg i).tg.pla = i := mine_good h
theorem heal_at {d : Dk} {rep reg : Int} (ho : openC d rep reg = 0) (h : 0 ≤ (whichC d rep reg).1) :
    (copyC d rep reg (whichC d rep reg).1).st = 1 ∧ ((whichC d rep reg).1 = 0 ∨ (whichC d rep reg).1 = 1) ∧ healC d rep reg = if (copyC d rep reg (1 - (whichC d rep reg).1)).st = 1 ∧ (copyC d rep reg (1 - (whichC d rep reg).1)).tg.idx = (copyC d rep reg (whichC d rep reg).1).tg.idx ∧ (copyC d rep reg (1 - (whichC d rep reg).1)).body = (copyC d rep reg (whichC d rep reg).1).body then (d, 0)
      else putC d ⟨rep, reg, 1 - (whichC d rep reg).1, (copyC d rep reg (whichC d rep reg).1).tg.idx, (copyC d rep reg (whichC d rep reg).1).tg.inc⟩ (copyC d rep reg (whichC d rep reg).1).body := by
  obtain ⟨h1, h2, h3, h4⟩ := which_ge h
  have hst : (copyC d rep reg (whichC d rep reg).1).st = 1 := by
    rw [h4]
    revert h1
    unfold pickC loadedC
    by_cases ho : overC (copyC d rep reg 1) (copyC d rep reg 0) = true
    · rw [if_pos ho]
      intro _
      simp only [if_true]
      exact over_good ho
    · rw [if_neg ho]
      by_cases h0 : (copyC d rep reg 0).st = 1
      · rw [if_pos h0]
        intro _
        simp [h0]
      · rw [if_neg h0]
        split
        · intro hh; cases hh
        · intro hh; cases hh
  refine ⟨hst, by rw [h3]; omega, ?_⟩
  unfold healC
  rw [if_neg (by rw [ho]; simp)]
  simp only
  rw [if_neg (by rw [h1]; simp)]
  rw [h3] at hst ⊢
  rcases h2 with h2 | h2
  · rw [h2] at hst ⊢
    simp only [Nat.zero_ne_one, if_false] at hst ⊢
    have h00 : ((0 : Nat) : Int) = 0 := rfl
    rw [h00] at hst ⊢
    rw [Int.sub_zero]
    have e : ((copyC d rep reg 0).st = (copyC d rep reg 1).st ∧ (copyC d rep reg 0).tg.idx = (copyC d rep reg 1).tg.idx ∧ (copyC d rep reg 0).body = (copyC d rep reg 1).body) ↔ ((copyC d rep reg 1).st = 1 ∧ (copyC d rep reg 1).tg.idx = (copyC d rep reg 0).tg.idx ∧ (copyC d rep reg 1).body = (copyC d rep reg 0).body) :=
      ⟨fun ⟨a, b, c⟩ => ⟨a.symm.trans hst, b.symm, c.symm⟩, fun ⟨a, b, c⟩ => ⟨hst.trans a.symm, b.symm, c.symm⟩⟩
    by_cases hc : (copyC d rep reg 1).st = 1 ∧ (copyC d rep reg 1).tg.idx = (copyC d rep reg 0).tg.idx ∧ (copyC d rep reg 1).body = (copyC d rep reg 0).body
    · rw [if_pos hc, if_pos (e.2 hc)]
    · rw [if_neg hc, if_neg (fun hh => hc (e.1 hh))]
  · rw [h2] at hst ⊢
    simp only [if_true] at hst ⊢
    have e1 : (1 : Int) - ((1 : Nat) : Int) = 0 := by decide
    rw [e1]
    have e : ((copyC d rep reg 1).st = (copyC d rep reg 0).st ∧ (copyC d rep reg 1).tg.idx = (copyC d rep reg 0).tg.idx ∧ (copyC d rep reg 1).body = (copyC d rep reg 0).body) ↔ ((copyC d rep reg 0).st = 1 ∧ (copyC d rep reg 0).tg.idx = (copyC d rep reg 1).tg.idx ∧ (copyC d rep reg 0).body = (copyC d rep reg 1).body) :=
      ⟨fun ⟨a, b, c⟩ => ⟨a.symm.trans hst, b.symm, c.symm⟩, fun ⟨a, b, c⟩ => ⟨hst.trans a.symm, b.symm, c.symm⟩⟩
    have hcast : ((1 : Nat) : Int) = 1 := rfl
    rw [hcast]
    by_cases hc : (copyC d rep reg 0).st = 1 ∧ (copyC d rep reg 0).tg.idx = (copyC d rep reg 1).tg.idx ∧ (copyC d rep reg 0).body = (copyC d rep reg 1).body
    · rw [if_pos hc, if_pos (e.2 hc)]
    · rw [if_neg hc, if_neg (fun hh => hc (e.1 hh))]
theorem open_asked {d : Dk} {rep reg : Int} (h : openC d rep reg = 0) : (reg = 1 ∨ reg = 2) ∧ 0 ≤ rep ∧ rep ≤ 6 := by
  unfold openC at h
  split at h
  · cases h
  · split at h
    · cases h
    · omega
section
variable {B g : Nat} {q : RQ} {d : Dk} {w w' : World}
theorem rcopy_tag (h : RefB B g q d w) (rep reg i : Int) : (copyC d rep reg i).tg = zeroTg ∧ (copyC d rep reg i).st ≠ 1 ∧ (copyC d rep reg i).body = [] ∨ (copyC d rep reg i).st = 1 ∧ mayTg (copyC d rep reg i).tg = true ∧ (copyC d rep reg i).body.length ≤ 43 := by
  rcases mine_tag (readD d (firstN reg i)).1 rep reg i with hh | ⟨h1, h2, h3⟩
  · exact .inl hh
  · refine .inr ⟨h1, h2, Nat.le_trans h3 ?_⟩
    have := rread_len h (firstN reg i)
    by_cases h0 : (readD d (firstN reg i)).2 = 0
    · rw [this.1 h0]; decide
    · rw [this.2 h0]; decide
theorem copy_place {d : Dk} {rep reg i j : Int} (hr : reg = 1 ∨ reg = 2) (hj : j = 0 ∨ j = 1) (h : mayTg (copyC d rep reg i).tg = true) (h1 : (copyC d rep reg i).st = 1) : mayTg ⟨rep, reg, j, (copyC d rep reg i).tg.idx, (copyC d rep reg i).tg.inc⟩ = true := by
  obtain ⟨g1, g2, g3⟩ := copy_good h1
  obtain ⟨a1, a2, a3, a4, a5, a6, a7, a8⟩ := mayTg_parts h
  rw [g1] at a1 a2
  have hp : placesN reg = 2 := by rcases hr with rfl | rfl <;> rfl
  simp only [mayTg, Bool.and_eq_true, decide_eq_true_eq]
  exact ⟨a1, a2, by omega, by rw [hp]; omega, a5, a6, a7, a8⟩
end
end Go.Proofs.YtddddemclhlfaaaGreatDoor
namespace Go.Proofs.YtddddemclhlfaaaGreatDoor
open Go.RowKit
theorem st_pla (a b c d e x : Int) : 2 + 1 ≤ (#[Value.int .i64 a, .int .i64 b, .int .i64 c, .int .i64 d, .int .i64 e] : Array Value).size ∧ (Value.int .i64 x).cells.size = 1 ∧ (∀ u ∈ (Value.int .i64 x).cells.toList, u.oneCell' = true) ∧ ((#[Value.int .i64 a, .int .i64 b, .int .i64 c, .int .i64 d, .int .i64 e] : Array Value).toList.take 2 ++ (Value.int .i64 x).cells.toList ++ (#[Value.int .i64 a, .int .i64 b, .int .i64 c, .int .i64 d, .int .i64 e] : Array Value).toList.drop (2 + 1)).toArray = #[.int .i64 a, .int .i64 b, .int .i64 x, .int .i64 d, .int .i64 e] :=
  ⟨by simp, rfl, by simp [Value.cells, Value.oneCell'], rfl⟩
section
variable {B g : Nat} {q : RQ} {d : Dk} {w w' : World}
set_option maxRecDepth 100000 in
set_option maxHeartbeats 2000000 in
theorem rheal7_any (h : RefB B g q d w) (hB : B ≤ w.heap.size) (rep reg : Int) (hwl : d.waits.length ≤ 1000) :
    Calls Tryz.prog 25 #[.pointer (some ⟨g, 0, none⟩), .int .i64 rep, .int .i64 reg] w fun e w' => e = .returned (.int .i64 (healC d rep reg).2) ∧ RDoes B g rT w (healC d rep reg).1 w' := by
  have hld := rload_any h rep reg
  by_cases ho : openC d rep reg = 0
  case neg =>
    have hl : loadC d rep reg = (0, [], openC d rep reg) := by unfold loadC; rw [if_pos ho]
    have hh : healC d rep reg = (d, openC d rep reg) := by unfold healC; rw [if_pos ho]
    rw [hl] at hld
    rw [hh]
    have e0 : (openC d rep reg != 0) = true := by rw [bne_iff_ne]; exact ho
    generalize openC d rep reg = oc at *
    clear hl hh ho
    go_enter Tryz.func25, Tryz.ntmps25
    go_wp2_with (go_at_call 27; refine hld.mono ?_; rintro e w1 ⟨⟨a1, c1, rfl, _⟩, hb1⟩)
    go_ret
    exact ⟨rfl, ⟨_, h.below hb1⟩, Kx.of hb1 hB⟩
  case pos =>
  have hwh := fun (w' : World) (hb : Below w.heap.size w w') => rwhich_any (h.below hb) rep reg
  by_cases hi : (whichC d rep reg).1 < 0
  case pos =>
    obtain ⟨h1, h2⟩ := which_lt hi
    have hl : loadC d rep reg = (0, [], (whichC d rep reg).2) := by unfold loadC; rw [if_neg (by rw [ho]; simp), if_pos h1, h2]
    have hh : healC d rep reg = (d, (whichC d rep reg).2) := by unfold healC; rw [if_neg (by rw [ho]; simp)]; simp only; rw [if_pos h1, h2]
    rw [hl] at hld
    rw [hh]
    clear hl hh h1 h2 ho
    generalize whichC d rep reg = wh at *
    obtain ⟨i, er⟩ := wh
    simp only at hld hwh hi ⊢
    by_cases he : er = 0
    · subst he
      go_enter Tryz.func25, Tryz.ntmps25
      refine wp_seq_k (fun K hK => ?_)
      have HK := Lib.hid hK
      clear hK
      go_wp2
      refine HK.out _ _ ?_
      clear HK
      refine wp_seq_k (fun K hK => ?_)
      have HK := Lib.hid hK
      clear hK
      go_wp2_with (go_at_call 27; refine hld.mono ?_; rintro e w1 ⟨⟨a1, c1, rfl, _⟩, hb1⟩)
      refine HK.out _ _ ?_
      clear HK
      have hwh1 := hwh _ hb1
      clear hwh hld
      go_wp2_with (go_at_call 63; refine hwh1.mono ?_; rintro e w2 ⟨rfl, hb2⟩)
      go_ret
      have hb3 := hb1.trans (hb2.mono hb1.size)
      exact ⟨rfl, ⟨_, h.below hb3⟩, Kx.of hb3 hB⟩
    · have e0 : (er != 0) = true := by rw [bne_iff_ne]; exact he
      clear he hwh
      go_enter Tryz.func25, Tryz.ntmps25
      go_wp2_with (go_at_call 27; refine hld.mono ?_; rintro e w1 ⟨⟨a1, c1, rfl, _⟩, hb1⟩)
      go_ret
      exact ⟨rfl, ⟨_, h.below hb1⟩, Kx.of hb1 hB⟩
  case neg =>
    have hi0 : 0 ≤ (whichC d rep reg).1 := by omega
    obtain ⟨hx1, hx2, hx3⟩ := heal_at ho hi0
    obtain ⟨hr1, _, _⟩ := open_asked ho
    have hany := (which_ge hi0).1
    have hl : (loadC d rep reg).2.2 = 0 := by unfold loadC; rw [if_neg (by rw [ho]; simp), if_neg (by rw [hany]; simp)]
    have hmx := fun (w' : World) (hb : Below w.heap.size w w') => rmine7_any (h.below hb) rep reg (whichC d rep reg).1
    have hmy := fun (w' : World) (hb : Below w.heap.size w w') => rmine7_any (h.below hb) rep reg (1 - (whichC d rep reg).1)
    simp only [mineD_copy] at hmx hmy
    have htx := rcopy_tag h rep reg (whichC d rep reg).1
    have hty := rcopy_tag h rep reg (1 - (whichC d rep reg).1)
    have hgood := copy_good hx1
    have hplc := copy_place (d := d) (rep := rep) (j := 1 - (whichC d rep reg).1) hr1 (by omega) (i := (whichC d rep reg).1)
    obtain ⟨⟨v, bl, er⟩, hle⟩ : ∃ r, loadC d rep reg = r := ⟨_, rfl⟩
    rw [hle] at hld hl
    simp only at hl
    subst hl
    rw [hx3]
    clear hx3 hany hi0 hle ho hr1 hi
    obtain ⟨X, hX⟩ : ∃ X, copyC d rep reg (whichC d rep reg).1 = X := ⟨_, rfl⟩
    obtain ⟨Y, hY⟩ : ∃ Y, copyC d rep reg (1 - (whichC d rep reg).1) = Y := ⟨_, rfl⟩
    rw [hX] at hx1 hmx htx hgood hplc ⊢
    rw [hY] at hmy hty ⊢
    clear hX hY
    generalize whichC d rep reg = wh at *
    obtain ⟨i, er⟩ := wh
    obtain ⟨xs, xt, xb⟩ := X
    obtain ⟨ys, yt, yb⟩ := Y
    simp only at hx1 hx2 hmx hmy htx hty hgood hplc hwh ⊢
    have HYB := Lib.hid (show ys = 1 → yb.length ≤ 43 from fun he => by
      rcases hty with ⟨_, hh, _⟩ | ⟨_, h1, h2⟩
      · exact absurd he hh
      · exact h2)
    clear hty
    subst hx1
    have htx2 : mayTg xt = true ∧ xb.length ≤ 43 := by
      rcases htx with ⟨_, hh, _⟩ | ⟨_, h1, h2⟩
      · exact absurd rfl hh
      · exact ⟨h1, h2⟩
    have HPL := Lib.hid (hplc htx2.1 rfl)
    have HXB := Lib.hid htx2.2
    have HGD := Lib.hid hgood
    have hi2 : 0 ≤ i ∧ i ≤ 1 := by omega
    clear htx htx2 hplc hgood hx2
    obtain ⟨r, hr⟩ : ∃ r, (if ys = 1 ∧ yt.idx = xt.idx ∧ yb = xb then (d, (0 : Int)) else putC d ⟨rep, reg, 1 - i, xt.idx, xt.inc⟩ xb) = r := ⟨_, rfl⟩
    rw [hr]
    have HR := Lib.hid hr
    clear hr
    go_enter Tryz.func25, Tryz.ntmps25
    refine wp_seq_k (fun K hK => ?_)
    have HK := Lib.hid hK
    clear hK
    go_wp2
    refine HK.out _ _ ?_
    clear HK
    refine wp_seq_k (fun K hK => ?_)
    have HK := Lib.hid hK
    clear hK
    go_wp2_with (go_at_call 27; refine hld.mono ?_; rintro e w1 ⟨⟨a1, c1, rfl, _⟩, hb1⟩)
    refine HK.out _ _ ?_
    clear HK
    have hwh1 := hwh _ hb1
    clear hwh hld
    refine wp_seq_k (fun K hK => ?_)
    have HK := Lib.hid hK
    clear hK
    go_wp2
    refine HK.out _ _ ?_
    clear HK
    refine wp_seq_k (fun K hK => ?_)
    have HK := Lib.hid hK
    clear hK
    go_wp2_with (go_at_call 63; refine hwh1.mono ?_; rintro e w2 ⟨rfl, hb2⟩)
    refine HK.out _ _ ?_
    clear HK
    have hb3 := hb1.trans (hb2.mono hb1.size)
    have hmx3 := hmx _ hb3
    clear hwh1 hmx hb1 hb2
    refine wp_seq_k (fun K hK => ?_)
    have HK := Lib.hid hK
    clear hK
    go_wp2
    refine HK.out _ _ ?_
    clear HK
    refine wp_seq_k (fun K hK => ?_)
    have HK := Lib.hid hK
    clear hK
    go_wp2_with (first
          | (go_at_call 66; refine hmx3.mono ?_; rintro e w4 ⟨⟨a4, c4, rfl, o4⟩, hb4⟩)
          | ((first | (with_reducible refine wpList_stNew 33 _ _ ?_) | (with_reducible refine wp_stNew 33 _ _ ?_)); refine ⟨_, _, ⟨Tryz.sizeOf33, rfl, tg_new _⟩, rfl, ?_⟩))
    refine HK.out _ _ ?_
    clear HK
    have X5 := heap_alloc_new w4 (Obj.cells #[.int .i64 xt.rep, .int .i64 xt.reg, .int .i64 xt.pla, .int .i64 xt.idx, .int .i64 xt.inc] 33)
    have s5 := o4.below (blw w4 (Obj.cells #[.int .i64 xt.rep, .int .i64 xt.reg, .int .i64 xt.pla, .int .i64 xt.idx, .int .i64 xt.inc] 33))
    have hb40 := hb3.trans (hb4.mono hb3.size)
    have hb5 := hb40.trans ((blw w4 (Obj.cells #[.int .i64 xt.rep, .int .i64 xt.reg, .int .i64 xt.pla, .int .i64 xt.idx, .int .i64 xt.inc] 33)).mono hb40.size)
    have hq5 := Lib.hid hb40.size
    have hmy5 := hmy _ hb5
    clear hmx3 hmy hb3 hb4 hb40 o4
    generalize w4.alloc (Obj.cells #[.int .i64 xt.rep, .int .i64 xt.reg, .int .i64 xt.pla, .int .i64 xt.idx, .int .i64 xt.inc] 33) = w5 at *
    generalize w4.heap.size = q5 at *
    refine wp_seq_k (fun K hK => ?_)
    have HK := Lib.hid hK
    clear hK
    go_wp2_with (first
          | (go_at_call 66; refine hmy5.mono ?_; rintro e w6 ⟨⟨a6, c6, rfl, o6⟩, hb6⟩)
          | ((first | (with_reducible refine wpList_stNew 33 _ _ ?_) | (with_reducible refine wp_stNew 33 _ _ ?_)); refine ⟨_, _, ⟨Tryz.sizeOf33, rfl, tg_new _⟩, rfl, ?_⟩))
    refine HK.out _ _ ?_
    clear HK
    have Y7 := heap_alloc_new w6 (Obj.cells #[.int .i64 yt.rep, .int .i64 yt.reg, .int .i64 yt.pla, .int .i64 yt.idx, .int .i64 yt.inc] 33)
    have X7 := tr_al (Obj.cells #[.int .i64 yt.rep, .int .i64 yt.reg, .int .i64 yt.pla, .int .i64 yt.idx, .int .i64 yt.inc] 33) (tr_bl hb6 X5)
    have s7 := (s5.below hb6).below (blw w6 (Obj.cells #[.int .i64 yt.rep, .int .i64 yt.reg, .int .i64 yt.pla, .int .i64 yt.idx, .int .i64 yt.inc] 33))
    have y7 := o6.slb.below (blw w6 (Obj.cells #[.int .i64 yt.rep, .int .i64 yt.reg, .int .i64 yt.pla, .int .i64 yt.idx, .int .i64 yt.inc] 33))
    have hb60 := hb5.trans (hb6.mono hb5.size)
    have hb7 := hb60.trans ((blw w6 (Obj.cells #[.int .i64 yt.rep, .int .i64 yt.reg, .int .i64 yt.pla, .int .i64 yt.idx, .int .i64 yt.inc] 33)).mono hb60.size)
    clear hmy5 hb5 hb6 hb60 o6 X5 s5
    generalize w6.alloc (Obj.cells #[.int .i64 yt.rep, .int .i64 yt.reg, .int .i64 yt.pla, .int .i64 yt.idx, .int .i64 yt.inc] 33) = w7 at *
    generalize w6.heap.size = q7 at *
    have d7 := h.below hb7
    have k7 := Kx.of (X := rT) hb7 hB
    have hB7 := Nat.le_trans hB hb7.size
    have x3 := blk_cell X7 3 (.int .i64 xt.idx) rfl
    have y3 := blk_cell Y7 3 (.int .i64 yt.idx) rfl
    by_cases hA : ys = 1 ∧ yt.idx = xt.idx
    case pos =>
      obtain ⟨rfl, hA2⟩ := hA
      have e1 : (yt.idx == xt.idx) = true := by rw [beq_iff_eq]; exact hA2
      have hsm := rsame_any a6 a4 c6 c4 yb xb w7 y7.row s7.slb.row (by have := HYB.out rfl; omega) 
      have HA := Lib.hid hA2
      clear hA2 HYB
      by_cases hB1 : yb = xb
      case pos =>
        rw [decide_eq_true hB1] at hsm
        have HR1 := HR.out
        rw [if_pos ⟨rfl, HA.out, hB1⟩] at HR1
        subst HR1
        clear HR HA hB1
        go_wp2_with (go_at_call 19; refine hsm.mono ?_; rintro e w8 ⟨rfl, hb8⟩)
        have hb9 := hb7.trans (hb8.mono hb7.size)
        go_ret
        exact ⟨rfl, ⟨_, h.below hb9⟩, Kx.of hb9 hB⟩
      case neg =>
        rw [decide_eq_false hB1] at hsm
        have HR1 := HR.out
        rw [if_neg (fun hc => hB1 hc.2.2)] at HR1
        subst HR1
        clear HR HA hB1
        refine wp_seq_k (fun K hK => ?_)
        have HK := Lib.hid hK
        clear hK
        go_wp2_with (go_at_call 19; refine hsm.mono ?_; rintro e w8 ⟨rfl, hb8⟩)
        refine HK.out _ _ ?_
        clear HK
        have hb9 := hb7.trans (hb8.mono hb7.size)
        have X9 := tr_bl hb8 X7
        have s9 := s7.below hb8
        clear x3 y3
        refine wp_seq_k (fun K hK => ?_)
        have HK := Lib.hid hK
        clear hK
        go_wp2_with (first
          | ((first | (with_reducible refine wpList_stB 3 _ _ ?_) | (with_reducible refine wp_stB 3 _ _ ?_)); refine ⟨_, _, _, ⟨_, _, _, Tryz.sizeOf3, rfl, ‹_›, st_pla _ _ _ _ _ _⟩, ?_⟩; intro w10 X10 g10))
        refine HK.out _ _ ?_
        clear HK
        have hb10 := bl_st hb9 g10 hb9.size hq5.out
        have s10 := (s9.st g10 X9 (by decide)).slb
        have d10 := h.below hb10
        have k10 := Kx.of (X := rT) hb10 hB
        have hB10 := Nat.le_trans hB hb10.size
        clear hb9 g10 s9 X9
        obtain ⟨HG1, HG2, HG3⟩ := HGD.out
        have hmt := HPL.out
        rw [← HG1, ← HG2] at hmt
        have hpu := rput7_any d10 hB10 _ hmt _ _ xb s10 HXB.out hwl
        rw [HG1, HG2] at hpu
        rw [HG1, HG2] at X10
        clear hmt HG1 HG2 HG3 HGD HPL d10 s10 X7 Y7 s7 y7 d7 k7 hB7 hb7 hq5 hi2 HXB hwl h
        clear hB10
        generalize putC d ⟨rep, reg, 1 - i, xt.idx, xt.inc⟩ xb = r at *
        generalize (1 - i) = i2 at *
        refine wp_seq_k (fun K hK => ?_)
        have HK := Lib.hid hK
        clear hK
        go_wp2_with (first
          | ((with_reducible refine wpList_ldB 33 _ ?_); refine ⟨rfl, _, ⟨_, _, _, _, _, Tryz.isAgg33, Tryz.sizeOf33, rfl, ‹_›, ld5 _ _ _ _ _⟩, ?_⟩)
          | (go_at_call 64; refine hpu.mono ?_; rintro e w11 ⟨rfl, hd11, k11⟩))
        refine HK.out _ _ ?_
        clear HK
        go_wp2
        go_ret
        exact ⟨rfl, hd11, k10.trans k11⟩
    case neg =>
      have HR1 := HR.out
      rw [if_neg (fun hc => hA ⟨hc.1, hc.2.1⟩)] at HR1
      subst HR1
      clear HR HYB
      have hb9 := hb7
      have X9 := X7
      have s9 := s7
      by_cases hy : ys = 1
      case pos =>
        subst hy
        have e1 : (yt.idx == xt.idx) = false := by rw [beq_eq_false_iff_ne]; exact fun hc => hA ⟨rfl, hc⟩
        clear hA
        refine wp_seq_k (fun K hK => ?_)
        have HK := Lib.hid hK
        clear hK
        go_wp2
        refine HK.out _ _ ?_
        clear HK
        clear x3 y3
        refine wp_seq_k (fun K hK => ?_)
        have HK := Lib.hid hK
        clear hK
        go_wp2_with (first
          | ((first | (with_reducible refine wpList_stB 3 _ _ ?_) | (with_reducible refine wp_stB 3 _ _ ?_)); refine ⟨_, _, _, ⟨_, _, _, Tryz.sizeOf3, rfl, ‹_›, st_pla _ _ _ _ _ _⟩, ?_⟩; intro w10 X10 g10))
        refine HK.out _ _ ?_
        clear HK
        have hb10 := bl_st hb9 g10 hb9.size hq5.out
        have s10 := (s9.st g10 X9 (by decide)).slb
        have d10 := h.below hb10
        have k10 := Kx.of (X := rT) hb10 hB
        have hB10 := Nat.le_trans hB hb10.size
        clear hb9 g10 s9 X9
        obtain ⟨HG1, HG2, HG3⟩ := HGD.out
        have hmt := HPL.out
        rw [← HG1, ← HG2] at hmt
        have hpu := rput7_any d10 hB10 _ hmt _ _ xb s10 HXB.out hwl
        rw [HG1, HG2] at hpu
        rw [HG1, HG2] at X10
        clear hmt HG1 HG2 HG3 HGD HPL d10 s10 X7 Y7 s7 y7 d7 k7 hB7 hb7 hq5 hi2 HXB hwl h
        clear hB10
        generalize putC d ⟨rep, reg, 1 - i, xt.idx, xt.inc⟩ xb = r at *
        generalize (1 - i) = i2 at *
        refine wp_seq_k (fun K hK => ?_)
        have HK := Lib.hid hK
        clear hK
        go_wp2_with (first
          | ((with_reducible refine wpList_ldB 33 _ ?_); refine ⟨rfl, _, ⟨_, _, _, _, _, Tryz.isAgg33, Tryz.sizeOf33, rfl, ‹_›, ld5 _ _ _ _ _⟩, ?_⟩)
          | (go_at_call 64; refine hpu.mono ?_; rintro e w11 ⟨rfl, hd11, k11⟩))
        refine HK.out _ _ ?_
        clear HK
        go_wp2
        go_ret
        exact ⟨rfl, hd11, k10.trans k11⟩
      case neg =>
        have e1 : ((ys : Int) == 1) = false := by rw [beq_eq_false_iff_ne]; omega
        clear hA hy
        refine wp_seq_k (fun K hK => ?_)
        have HK := Lib.hid hK
        clear hK
        go_wp2
        refine HK.out _ _ ?_
        clear HK
        clear x3 y3
        refine wp_seq_k (fun K hK => ?_)
        have HK := Lib.hid hK
        clear hK
        go_wp2_with (first
          | ((first | (with_reducible refine wpList_stB 3 _ _ ?_) | (with_reducible refine wp_stB 3 _ _ ?_)); refine ⟨_, _, _, ⟨_, _, _, Tryz.sizeOf3, rfl, ‹_›, st_pla _ _ _ _ _ _⟩, ?_⟩; intro w10 X10 g10))
        refine HK.out _ _ ?_
        clear HK
        have hb10 := bl_st hb9 g10 hb9.size hq5.out
        have s10 := (s9.st g10 X9 (by decide)).slb
        have d10 := h.below hb10
        have k10 := Kx.of (X := rT) hb10 hB
        have hB10 := Nat.le_trans hB hb10.size
        clear hb9 g10 s9 X9
        obtain ⟨HG1, HG2, HG3⟩ := HGD.out
        have hmt := HPL.out
        rw [← HG1, ← HG2] at hmt
        have hpu := rput7_any d10 hB10 _ hmt _ _ xb s10 HXB.out hwl
        rw [HG1, HG2] at hpu
        rw [HG1, HG2] at X10
        clear hmt HG1 HG2 HG3 HGD HPL d10 s10 X7 Y7 s7 y7 d7 k7 hB7 hb7 hq5 hi2 HXB hwl h
        clear hB10
        generalize putC d ⟨rep, reg, 1 - i, xt.idx, xt.inc⟩ xb = r at *
        generalize (1 - i) = i2 at *
        refine wp_seq_k (fun K hK => ?_)
        have HK := Lib.hid hK
        clear hK
        go_wp2_with (first
          | ((with_reducible refine wpList_ldB 33 _ ?_); refine ⟨rfl, _, ⟨_, _, _, _, _, Tryz.isAgg33, Tryz.sizeOf33, rfl, ‹_›, ld5 _ _ _ _ _⟩, ?_⟩)
          | (go_at_call 64; refine hpu.mono ?_; rintro e w11 ⟨rfl, hd11, k11⟩))
        refine HK.out _ _ ?_
        clear HK
        go_wp2
        go_ret
        exact ⟨rfl, hd11, k10.trans k11⟩
end
end Go.Proofs.YtddddemclhlfaaaGreatDoor
namespace Go.Proofs.YtddddemclhlfaaaGreatDoor
open Go.RowKit
theorem store_bad {d : Dk} {rep reg inc : Int} {body : List UInt8} (hn : d.pl.length ≠ 0) (h : openC d rep reg = 2 ∨ inc < 1 ∨ 1099511627776 < inc) : storeC d rep reg inc body = (d, 2) := by
  have ho : openC d rep reg = 0 ∨ openC d rep reg = 2 ∨ openC d rep reg = 5 := by
    unfold openC
    rw [if_neg hn]
    split
    · exact .inr (.inl rfl)
    · split
      · exact .inr (.inr rfl)
      · exact .inl rfl
  have hb : openC d rep reg ≠ 2 → inc < 1 ∨ 1099511627776 < inc := fun h0 => by
    rcases h with h | h | h
    · exact absurd h h0
    · exact .inl h
    · exact .inr h
  unfold storeC
  by_cases h0 : openC d rep reg = 2
  · have hc : openC d rep reg ≠ 0 ∧ openC d rep reg ≠ 5 := by rw [h0]; decide
    rw [if_pos hc, h0]
  · have hc : ¬ (openC d rep reg ≠ 0 ∧ openC d rep reg ≠ 5) := by omega
    rw [if_neg hc, if_pos (hb h0)]
theorem open_vals {d : Dk} {rep reg : Int} (hn : d.pl.length ≠ 0) (h : openC d rep reg ≠ 2) : openC d rep reg = 0 ∨ openC d rep reg = 5 := by
  unfold openC at h ⊢
  rw [if_neg hn] at h ⊢
  split
  · rename_i hc; rw [if_pos hc] at h; exact absurd rfl h
  · split
    · exact .inr rfl
    · exact .inl rfl
theorem store_long {d : Dk} {rep reg inc : Int} {body : List UInt8} (hn : d.pl.length ≠ 0) (h : openC d rep reg ≠ 2) (h1 : ¬ (inc < 1 ∨ 1099511627776 < inc)) (hl : 43 < body.length) : storeC d rep reg inc body = (d, 3) := by
  unfold storeC
  have hv := open_vals hn h
  have hc : ¬ (openC d rep reg ≠ 0 ∧ openC d rep reg ≠ 5) := by omega
  rw [if_neg hc, if_neg h1, if_pos hl]
theorem store_er {d : Dk} {rep reg inc : Int} {body : List UInt8} (hn : d.pl.length ≠ 0) (h : openC d rep reg ≠ 2) (h1 : ¬ (inc < 1 ∨ 1099511627776 < inc)) (hl : ¬ 43 < body.length) (he : (loadC d rep reg).2.2 ≠ 0) : storeC d rep reg inc body = (d, (loadC d rep reg).2.2) := by
  have hv := open_vals hn h
  have hc : ¬ (openC d rep reg ≠ 0 ∧ openC d rep reg ≠ 5) := by omega
  unfold storeC
  rw [if_neg hc, if_neg h1, if_neg hl]
  unfold loadC at he ⊢
  by_cases ho : openC d rep reg = 0
  · have hn0 : ¬ (openC d rep reg ≠ 0) := by rw [ho]; simp
    rw [if_neg hn0] at he ⊢
    rw [if_neg hn0]
    by_cases hk : (loadedC (copyC d rep reg 0) (copyC d rep reg 1)).2.1 = false
    · rw [if_pos hk] at he ⊢
      simp only at he ⊢
      rw [if_pos he]
    · rw [if_neg hk] at he
      exact absurd rfl he
  · rw [if_pos ho, if_pos ho]
def firstW (i : Int) : Int := if i = 0 then 1 else 0
section
variable {B g : Nat} {q : RQ} {d : Dk} {w w' : World}
theorem load_idx (h : RefB B g q d w) (rep reg : Int) : 0 ≤ (loadC d rep reg).1 ∧ (loadC d rep reg).1 ≤ 1099511627776 := by
  have hc : ∀ i, 0 ≤ (copyC d rep reg i).tg.idx ∧ (copyC d rep reg i).tg.idx ≤ 1099511627776 := by
    intro i
    rcases rcopy_tag h rep reg i with ⟨hz, _, _⟩ | ⟨_, hm, _⟩
    · rw [hz]; decide
    · have := mayTg_parts hm
      omega
  unfold loadC
  split
  · exact ⟨by simp, by simp⟩
  · split
    · exact ⟨by simp, by simp⟩
    · unfold pickC
      split
      · exact hc 1
      · exact hc 0
theorem store_ok (h : RefB B g q d w) {rep reg inc : Int} {body : List UInt8} (ho : openC d rep reg = 0) (h1 : ¬ (inc < 1 ∨ 1099511627776 < inc)) (hl : ¬ 43 < body.length) (he : (loadC d rep reg).2.2 = 0) :
    storeC d rep reg inc body = if 1099511627776 < (loadC d rep reg).1 + 1 then (d, 4) else if (putC d ⟨rep, reg, firstW (whichC d rep reg).1, (loadC d rep reg).1 + 1, inc⟩ body).2 ≠ 0 then putC d ⟨rep, reg, firstW (whichC d rep reg).1, (loadC d rep reg).1 + 1, inc⟩ body else putC (putC d ⟨rep, reg, firstW (whichC d rep reg).1, (loadC d rep reg).1 + 1, inc⟩ body).1 ⟨rep, reg, 1 - firstW (whichC d rep reg).1, (loadC d rep reg).1 + 1, inc⟩ body := by
  have hz := rcopy_tag h rep reg 0
  have hlt := loaded_lt (copyC d rep reg 0) (copyC d rep reg 1)
  unfold storeC
  unfold loadC at he ⊢
  unfold whichC
  rw [which_loaded]
  have hn0 : ¬ (openC d rep reg ≠ 0) := by rw [ho]; simp
  have hn1 : ¬ (openC d rep reg ≠ 0 ∧ openC d rep reg ≠ 5) := by rw [ho]; simp
  rw [if_neg hn0] at he ⊢
  rw [if_neg hn1, if_neg h1, if_neg hl, if_neg hn0]
  simp only
  generalize copyC d rep reg 1 = c1 at *
  generalize copyC d rep reg 0 = c0 at *
  obtain ⟨⟨i, ok, er⟩, hld⟩ : ∃ r, loadedC c0 c1 = r := ⟨_, rfl⟩
  rw [hld] at he hlt ⊢
  unfold pickC
  rw [hld]
  simp only at he hlt ⊢
  cases ok
  · rw [if_pos rfl] at he ⊢
    simp only at he
    subst he
    have hi : i = 0 := (loaded_ok hld).2.1 rfl
    subst hi
    have hs : c0.st ≠ 1 := by
      intro h0
      unfold loadedC at hld
      split at hld
      · cases hld
      · cases hld
    have h0 : c0.tg.idx = 0 := by
      rcases hz with ⟨hz, _, _⟩ | ⟨hz, _, _⟩
      · rw [hz]; rfl
      · exact absurd hz hs
    simp [h0, firstW]
  · have he2 : er = 0 := (loaded_ok hld).2.2 rfl
    subst he2
    rcases (show i = 0 ∨ i = 1 by omega) with rfl | rfl
    · simp [firstW]
    · simp [firstW]
end
end Go.Proofs.YtddddemclhlfaaaGreatDoor
namespace Go.Proofs.YtddddemclhlfaaaGreatDoor
open Go.RowKit
section
variable {B g : Nat} {q : RQ} {d : Dk} {w w' : World}
theorem Kx.own {X : TypeId → Bool} {w1 w2 : World} {q5 : Nat} (h : Kx X B w w1) (hg : w1.grownBy w2 (some q5)) (hq : w.heap.size ≤ q5) (hB : B ≤ w.heap.size) : Kx X B w w2 :=
  ⟨h.bl.grown hg (Nat.le_trans hB h.bl.size) (fun k e => by cases e; exact Nat.le_trans hB hq), fun j cs T a b => tr_st hg (h.ty j cs T a b) (by have := lt_blk a; omega)⟩
theorem RefB.stO {q5 : Nat} {cs : Array Value} {T : TypeId} (h : RefB B g q d w) (hg : w.grownBy w' (some q5)) (hc : w.heap[q5]? = some (.cells cs T (0, 0))) (hT : fT T = false) : RefB B g q d w' :=
  h.keep fun j cs' T' h1 a => tr_st hg a (by
    rintro rfl
    rw [hc] at a
    injection a with a
    injection a with _ e
    subst e
    rw [hT] at h1
    cases h1)
set_option maxRecDepth 100000 in
set_option maxHeartbeats 2000000 in
theorem rstore7_any (h : RefB B g q d w) (hB : B ≤ w.heap.size) (rep reg inc : Int) (a : Option Addr) (c : Nat) (body : List UInt8) (hs : ∀ w', Kx rT B w w' → SlB w' a c body) (hbl : body.length ≤ 1000) (hwl : d.waits.length ≤ 1000) :
    Calls Tryz.prog 23 #[.pointer (some ⟨g, 0, none⟩), .int .i64 rep, .int .i64 reg, .int .i64 inc, .slice a body.length c] w fun e w' => e = .returned (.int .i64 (storeC d rep reg inc body).2) ∧ RDoes B g rT w (storeC d rep reg inc body).1 w' := by
  have hld := rload_any h rep reg
  have hak := rasked7_any h rep reg
  have hn : d.pl.length ≠ 0 := by have := h.n0; omega
  have hend : RDoes B g rT w d w := ⟨⟨_, h⟩, Kx.refl _ _ _⟩
  by_cases hbad : openC d rep reg = 2 ∨ inc < 1 ∨ 1099511627776 < inc
  case pos =>
    rw [store_bad hn hbad]
    by_cases h0 : openC d rep reg = 2
    · rw [decide_eq_false (by rw [h0]; simp)] at hak
      clear hbad hn h0 hld
      go_enter Tryz.func23, Tryz.ntmps23
      refine wp_seq_k (fun K hK => ?_)
      have HK := Lib.hid hK
      clear hK
      go_wp2
      refine HK.out _ _ ?_
      clear HK
      go_wp2_with (go_at_call 62; refine hak.mono ?_; rintro e w1 ⟨rfl, rfl⟩)
      go_ret
      exact ⟨rfl, hend⟩
    · rw [decide_eq_true h0] at hak
      by_cases h1 : inc < 1
      · clear hbad hn h0 hld
        go_enter Tryz.func23, Tryz.ntmps23
        refine wp_seq_k (fun K hK => ?_)
        have HK := Lib.hid hK
        clear hK
        go_wp2
        refine HK.out _ _ ?_
        clear HK
        go_wp2_with (go_at_call 62; refine hak.mono ?_; rintro e w1 ⟨rfl, rfl⟩)
        go_ret
        exact ⟨rfl, hend⟩
      · have h2 : 1099511627776 < inc := by
          rcases hbad with h | h | h
          · exact absurd h h0
          · exact absurd h h1
          · exact h
        clear hbad hn h0 hld
        go_enter Tryz.func23, Tryz.ntmps23
        refine wp_seq_k (fun K hK => ?_)
        have HK := Lib.hid hK
        clear hK
        go_wp2
        refine HK.out _ _ ?_
        clear HK
        go_wp2_with (go_at_call 62; refine hak.mono ?_; rintro e w1 ⟨rfl, rfl⟩)
        go_ret
        exact ⟨rfl, hend⟩
  case neg =>
  have h0 : openC d rep reg ≠ 2 := fun hc => hbad (.inl hc)
  have h12 : ¬ (inc < 1 ∨ 1099511627776 < inc) := fun hc => hbad (.inr hc)
  rw [decide_eq_true h0] at hak
  clear hbad
  have h1 : ¬ inc < 1 := fun hc => h12 (.inl hc)
  have h2 : ¬ 1099511627776 < inc := fun hc => h12 (.inr hc)
  by_cases hl : 43 < body.length
  case pos =>
    rw [store_long hn h0 h12 hl]
    have hl2 : (43 : Int) < body.length := by omega
    clear h12 hn h0 hld
    go_enter Tryz.func23, Tryz.ntmps23
    refine wp_seq_k (fun K hK => ?_)
    have HK := Lib.hid hK
    clear hK
    go_wp2
    refine HK.out _ _ ?_
    clear HK
    refine wp_seq_k (fun K hK => ?_)
    have HK := Lib.hid hK
    clear hK
    go_wp2_with (go_at_call 62; refine hak.mono ?_; rintro e w1 ⟨rfl, rfl⟩)
    refine HK.out _ _ ?_
    clear HK
    go_wp2
    go_ret
    exact ⟨rfl, hend⟩
  case neg =>
  have hl2 : ¬ (43 : Int) < body.length := by omega
  by_cases he : (loadC d rep reg).2.2 = 0
  case neg =>
    rw [store_er hn h0 h12 hl he]
    have e0 : ((loadC d rep reg).2.2 != 0) = true := by rw [bne_iff_ne]; exact he
    clear h12 hn h0 he hend
    generalize loadC d rep reg = ld at *
    obtain ⟨v, bl, er⟩ := ld
    go_enter Tryz.func23, Tryz.ntmps23
    refine wp_seq_k (fun K hK => ?_)
    have HK := Lib.hid hK
    clear hK
    go_wp2
    refine HK.out _ _ ?_
    clear HK
    refine wp_seq_k (fun K hK => ?_)
    have HK := Lib.hid hK
    clear hK
    go_wp2_with (go_at_call 62; refine hak.mono ?_; rintro e w1 ⟨rfl, rfl⟩)
    refine HK.out _ _ ?_
    clear HK
    refine wp_seq_k (fun K hK => ?_)
    have HK := Lib.hid hK
    clear hK
    go_wp2
    refine HK.out _ _ ?_
    clear HK
    refine wp_seq_k (fun K hK => ?_)
    have HK := Lib.hid hK
    clear hK
    go_wp2_with (go_at_call 27; refine hld.mono ?_; rintro e w1 ⟨⟨a1, c1, rfl, _⟩, hb1⟩)
    refine HK.out _ _ ?_
    clear HK
    go_wp2
    go_ret
    exact ⟨rfl, ⟨_, h.below hb1⟩, Kx.of hb1 hB⟩
  case pos =>
  have ho : openC d rep reg = 0 := by
    rcases open_vals hn h0 with hh | hh
    · exact hh
    · unfold loadC at he
      rw [if_pos (by rw [hh]; decide)] at he
      exact absurd (hh.symm.trans he) (by decide)
  obtain ⟨hrg, hrp⟩ := open_asked ho
  rw [store_ok h ho h12 hl he]
  have hvi := load_idx h rep reg
  have hwh := fun (w' : World) (hb : Below w.heap.size w w') => rwhich_any (h.below hb) rep reg
  clear ho h12 hn h0 hend
  generalize loadC d rep reg = ld at *
  generalize whichC d rep reg = wh at *
  obtain ⟨v, bl, er⟩ := ld
  obtain ⟨i, er2⟩ := wh
  simp only at he hvi hwh hld ⊢
  subst he
  by_cases hv : 1099511627776 < v + 1
  case pos =>
    rw [if_pos hv]
    clear hwh
    go_enter Tryz.func23, Tryz.ntmps23
    refine wp_seq_k (fun K hK => ?_)
    have HK := Lib.hid hK
    clear hK
    go_wp2
    refine HK.out _ _ ?_
    clear HK
    refine wp_seq_k (fun K hK => ?_)
    have HK := Lib.hid hK
    clear hK
    go_wp2_with (go_at_call 62; refine hak.mono ?_; rintro e w1 ⟨rfl, rfl⟩)
    refine HK.out _ _ ?_
    clear HK
    refine wp_seq_k (fun K hK => ?_)
    have HK := Lib.hid hK
    clear hK
    go_wp2
    refine HK.out _ _ ?_
    clear HK
    refine wp_seq_k (fun K hK => ?_)
    have HK := Lib.hid hK
    clear hK
    go_wp2_with (go_at_call 27; refine hld.mono ?_; rintro e w1 ⟨⟨a1, c1, rfl, _⟩, hb1⟩)
    refine HK.out _ _ ?_
    clear HK
    go_wp2
    go_ret
    exact ⟨rfl, ⟨_, h.below hb1⟩, Kx.of hb1 hB⟩
  case neg =>
  rw [if_neg hv]
  have hm0 := may_cell2 (rep := rep) (reg := reg) (v := v + 1) (c := inc) (i := 0) hrp hrg (by omega) (by omega) (by omega) (by omega) (by omega)
  have hm1 := may_cell2 (rep := rep) (reg := reg) (v := v + 1) (c := inc) (i := 1) hrp hrg (by omega) (by omega) (by omega) (by omega) (by omega)
  simp only [Int.natCast_zero, Int.natCast_one] at hm0 hm1
  have HBL := Lib.hid (show body.length ≤ 43 by omega)
  go_enter Tryz.func23, Tryz.ntmps23
  refine wp_seq_k (fun K hK => ?_)
  have HK := Lib.hid hK
  clear hK
  go_wp2
  refine HK.out _ _ ?_
  clear HK
  refine wp_seq_k (fun K hK => ?_)
  have HK := Lib.hid hK
  clear hK
  go_wp2_with (go_at_call 62; refine hak.mono ?_; rintro e w1 ⟨rfl, rfl⟩)
  refine HK.out _ _ ?_
  clear HK
  refine wp_seq_k (fun K hK => ?_)
  have HK := Lib.hid hK
  clear hK
  go_wp2
  refine HK.out _ _ ?_
  clear HK
  refine wp_seq_k (fun K hK => ?_)
  have HK := Lib.hid hK
  clear hK
  go_wp2_with (go_at_call 27; refine hld.mono ?_; rintro e w1 ⟨⟨a1, c1, rfl, o1⟩, hb1⟩)
  refine HK.out _ _ ?_
  clear HK
  have hwh1 := hwh _ hb1
  clear hwh hld hak o1
  refine wp_seq_k (fun K hK => ?_)
  have HK := Lib.hid hK
  clear hK
  go_wp2
  refine HK.out _ _ ?_
  clear HK
  refine wp_seq_k (fun K hK => ?_)
  have HK := Lib.hid hK
  clear hK
  go_wp2
  refine HK.out _ _ ?_
  clear HK
  refine wp_seq_k (fun K hK => ?_)
  have HK := Lib.hid hK
  clear hK
  go_wp2_with (go_at_call 63; refine hwh1.mono ?_; rintro e w2 ⟨rfl, hb2⟩)
  refine HK.out _ _ ?_
  clear HK
  have hb3 := hb1.trans (hb2.mono hb1.size)
  clear hwh1 hb1 hb2
  refine wp_seq_k (fun K hK => ?_)
  have HK := Lib.hid hK
  clear hK
  go_wp2_with (first
      | ((first | (with_reducible refine wpList_stNew 33 _ _ ?_) | (with_reducible refine wp_stNew 33 _ _ ?_)); refine ⟨_, _, ⟨Tryz.sizeOf33, rfl, tg_new ⟨rep, reg, 0, v + 1, inc⟩⟩, rfl, ?_⟩))
  refine HK.out _ _ ?_
  clear HK
  have X4 := heap_alloc_new w2 (Obj.cells #[.int .i64 rep, .int .i64 reg, .int .i64 0, .int .i64 (v + 1), .int .i64 inc] 33)
  have hb4 := hb3.trans ((blw w2 (Obj.cells #[.int .i64 rep, .int .i64 reg, .int .i64 0, .int .i64 (v + 1), .int .i64 inc] 33)).mono hb3.size)
  have hq5 := Lib.hid hb3.size
  generalize w2.alloc (Obj.cells #[.int .i64 rep, .int .i64 reg, .int .i64 0, .int .i64 (v + 1), .int .i64 inc] 33) = w4 at *
  generalize w2.heap.size = q5 at *
  clear hb3
  by_cases hi : i = 0
  case pos =>
    subst hi
    rw [show firstW 0 = 1 from rfl]
    refine wp_seq_k (fun K hK => ?_)
    have HK := Lib.hid hK
    clear hK
    go_wp2_with (first
          | ((first | (with_reducible refine wpList_stB 3 _ _ ?_) | (with_reducible refine wp_stB 3 _ _ ?_)); refine ⟨_, _, _, ⟨_, _, _, Tryz.sizeOf3, rfl, ‹_›, st_pla _ _ _ _ _ _⟩, ?_⟩; intro w6 X6 g6))
    refine HK.out _ _ ?_
    clear HK
    have hb6 := bl_st hb4 g6 hb4.size hq5.out
    clear hb4 X4 g6
    have X9 := X6
    clear X6
    have hb9 := hb6
    have d9 := h.below hb9
    have k9 := Kx.of (X := rT) hb9 hB
    have hB9 := Nat.le_trans hB hb9.size
    have hp1 := rput7_any d9 hB9 _ hm1 _ _ body (hs _ k9) HBL.out hwl
    clear hb6 d9 hm1
    obtain ⟨r1, hr1⟩ : ∃ r, putC d ⟨rep, reg, 1, v + 1, inc⟩ body = r := ⟨_, rfl⟩
    have hw1 := @put_waits d ⟨rep, reg, 1, v + 1, inc⟩ body
    rw [hr1] at hp1 hw1 ⊢
    have HW1 := Lib.hid hw1
    clear hw1 hr1
    refine wp_seq_k (fun K hK => ?_)
    have HK := Lib.hid hK
    clear hK
    go_wp2_with (first
      | ((with_reducible refine wpList_ldB 33 _ ?_); refine ⟨rfl, _, ⟨_, _, _, _, _, Tryz.isAgg33, Tryz.sizeOf33, rfl, ‹_›, ld5 _ _ _ _ _⟩, ?_⟩)
      | (go_at_call 64; refine hp1.mono ?_; rintro e w10 ⟨rfl, ⟨q10, d10⟩, k10⟩))
    refine HK.out _ _ ?_
    clear HK
    have X10 := k10.ty _ _ _ X9 (by decide)
    have k11 := k9.trans k10
    have hB11 := Nat.le_trans hB k11.bl.size
    clear hp1 X9 k9 k10 hb9 hB9
    by_cases he1 : r1.2 = 0
    case neg =>
      rw [if_pos he1]
      have e1 : (r1.2 != 0) = true := by rw [bne_iff_ne]; exact he1
      clear he1 HW1
      obtain ⟨r1d, r1e⟩ := r1
      go_wp2
      go_ret
      exact ⟨rfl, ⟨_, d10⟩, k11⟩
    case pos =>
      rw [if_neg (by rw [he1]; simp)]
      have hw0 := HW1.out he1
      have e1 : (r1.2 != 0) = false := by rw [he1]; rfl
      clear he1 HW1
      obtain ⟨r1d, r1e⟩ := r1
      simp only at hw0 e1 d10 ⊢
      have hwl1 : r1d.waits.length ≤ 1000 := by rw [hw0]; simp
      clear hw0
      have x2 := blk_cell X10 2 (.int .i64 1) rfl
      refine wp_seq_k (fun K hK => ?_)
      have HK := Lib.hid hK
      clear hK
      go_wp2
      refine HK.out _ _ ?_
      clear HK
      refine wp_seq_k (fun K hK => ?_)
      have HK := Lib.hid hK
      clear hK
      go_wp2_with (first
          | ((first | (with_reducible refine wpList_stB 3 _ _ ?_) | (with_reducible refine wp_stB 3 _ _ ?_)); refine ⟨_, _, _, ⟨_, _, _, Tryz.sizeOf3, rfl, ‹_›, st_pla _ _ _ _ _ _⟩, ?_⟩; intro w12 X12 g12))
      refine HK.out _ _ ?_
      clear HK
      have k12 := k11.own g12 hq5.out hB
      have d12 := d10.stO g12 X10 (by decide)
      have hB12 := Nat.le_trans hB k12.bl.size
      have hp2 := rput7_any d12 hB12 _ hm0 _ _ body (hs _ k12) HBL.out hwl1
      rw [show (1 : Int) - 1 = 0 from rfl]
      clear d10 d12 hm0 X10 k11 hB11 g12 x2 hwl1 e1
      generalize putC r1d ⟨rep, reg, 0, v + 1, inc⟩ body = r2 at *
      obtain ⟨r2d, r2e⟩ := r2
      go_wp2_with (first
        | ((with_reducible refine wpList_ldB 33 _ ?_); refine ⟨rfl, _, ⟨_, _, _, _, _, Tryz.isAgg33, Tryz.sizeOf33, rfl, ‹_›, ld5 _ _ _ _ _⟩, ?_⟩)
        | (go_at_call 64; refine hp2.mono ?_; rintro e w13 ⟨rfl, hd13, k13⟩))
      go_ret
      exact ⟨rfl, hd13, k12.trans k13⟩
  case neg =>
    rw [show firstW i = 0 from if_neg hi]
    have ei : (i == 0) = false := by rw [beq_eq_false_iff_ne]; exact hi
    clear hi
    refine wp_seq_k (fun K hK => ?_)
    have HK := Lib.hid hK
    clear hK
    go_wp2
    refine HK.out _ _ ?_
    clear HK
    have hb6 := hb4
    have X6 := X4
    clear hb4 X4 ei
    have X9 := X6
    clear X6
    have hb9 := hb6
    have d9 := h.below hb9
    have k9 := Kx.of (X := rT) hb9 hB
    have hB9 := Nat.le_trans hB hb9.size
    have hp1 := rput7_any d9 hB9 _ hm0 _ _ body (hs _ k9) HBL.out hwl
    clear hb6 d9 hm0
    obtain ⟨r1, hr1⟩ : ∃ r, putC d ⟨rep, reg, 0, v + 1, inc⟩ body = r := ⟨_, rfl⟩
    have hw1 := @put_waits d ⟨rep, reg, 0, v + 1, inc⟩ body
    rw [hr1] at hp1 hw1 ⊢
    have HW1 := Lib.hid hw1
    clear hw1 hr1
    refine wp_seq_k (fun K hK => ?_)
    have HK := Lib.hid hK
    clear hK
    go_wp2_with (first
      | ((with_reducible refine wpList_ldB 33 _ ?_); refine ⟨rfl, _, ⟨_, _, _, _, _, Tryz.isAgg33, Tryz.sizeOf33, rfl, ‹_›, ld5 _ _ _ _ _⟩, ?_⟩)
      | (go_at_call 64; refine hp1.mono ?_; rintro e w10 ⟨rfl, ⟨q10, d10⟩, k10⟩))
    refine HK.out _ _ ?_
    clear HK
    have X10 := k10.ty _ _ _ X9 (by decide)
    have k11 := k9.trans k10
    have hB11 := Nat.le_trans hB k11.bl.size
    clear hp1 X9 k9 k10 hb9 hB9
    by_cases he1 : r1.2 = 0
    case neg =>
      rw [if_pos he1]
      have e1 : (r1.2 != 0) = true := by rw [bne_iff_ne]; exact he1
      clear he1 HW1
      obtain ⟨r1d, r1e⟩ := r1
      go_wp2
      go_ret
      exact ⟨rfl, ⟨_, d10⟩, k11⟩
    case pos =>
      rw [if_neg (by rw [he1]; simp)]
      have hw0 := HW1.out he1
      have e1 : (r1.2 != 0) = false := by rw [he1]; rfl
      clear he1 HW1
      obtain ⟨r1d, r1e⟩ := r1
      simp only at hw0 e1 d10 ⊢
      have hwl1 : r1d.waits.length ≤ 1000 := by rw [hw0]; simp
      clear hw0
      have x2 := blk_cell X10 2 (.int .i64 0) rfl
      refine wp_seq_k (fun K hK => ?_)
      have HK := Lib.hid hK
      clear hK
      go_wp2
      refine HK.out _ _ ?_
      clear HK
      refine wp_seq_k (fun K hK => ?_)
      have HK := Lib.hid hK
      clear hK
      go_wp2_with (first
          | ((first | (with_reducible refine wpList_stB 3 _ _ ?_) | (with_reducible refine wp_stB 3 _ _ ?_)); refine ⟨_, _, _, ⟨_, _, _, Tryz.sizeOf3, rfl, ‹_›, st_pla _ _ _ _ _ _⟩, ?_⟩; intro w12 X12 g12))
      refine HK.out _ _ ?_
      clear HK
      have k12 := k11.own g12 hq5.out hB
      have d12 := d10.stO g12 X10 (by decide)
      have hB12 := Nat.le_trans hB k12.bl.size
      have hp2 := rput7_any d12 hB12 _ hm1 _ _ body (hs _ k12) HBL.out hwl1
      rw [show (1 : Int) - 0 = 1 from rfl]
      clear d10 d12 hm1 X10 k11 hB11 g12 x2 hwl1 e1
      generalize putC r1d ⟨rep, reg, 1, v + 1, inc⟩ body = r2 at *
      obtain ⟨r2d, r2e⟩ := r2
      go_wp2_with (first
        | ((with_reducible refine wpList_ldB 33 _ ?_); refine ⟨rfl, _, ⟨_, _, _, _, _, Tryz.isAgg33, Tryz.sizeOf33, rfl, ‹_›, ld5 _ _ _ _ _⟩, ?_⟩)
        | (go_at_call 64; refine hp2.mono ?_; rintro e w13 ⟨rfl, hd13, k13⟩))
      go_ret
      exact ⟨rfl, hd13, k12.trans k13⟩
end
end Go.Proofs.YtddddemclhlfaaaGreatDoor
