/- Texts that the claim leans on, part 17: V3, V4, V5, V9, Y3, Y4, Y5, A1. -/
import Derived.Test.YtknchbhobopkeaaGreatDoorZ1
import Derived.Test.YtknchbhobopkeaaGreatDoorZ2
import Derived.Test.YtknchbhobopkeaaGreatDoorZ3
import Derived.Test.YtknchbhobopkeaaGreatDoorZ4
import Derived.Test.YtknchbhobopkeaaGreatDoorZ5
import Derived.Test.YtknchbhobopkeaaGreatDoorZ6
import Derived.Test.YtknchbhobopkeaaGreatDoorZ7
import Derived.Test.YtknchbhobopkeaaGreatDoorZ8
import Derived.Test.YtknchbhobopkeaaGreatDoorZ9
import Derived.Test.YtknchbhobopkeaaGreatDoorZ10
import Derived.Test.YtknchbhobopkeaaGreatDoorZ11
import Derived.Test.YtknchbhobopkeaaGreatDoorZ12
import Derived.Test.YtknchbhobopkeaaGreatDoorZ13
import Derived.Test.YtknchbhobopkeaaGreatDoorZ14
import Derived.Test.YtknchbhobopkeaaGreatDoorZ15
import Derived.Test.YtknchbhobopkeaaGreatDoorZ16
import Derived.Test.YtknchbhobopkeaaGreatDoorRows
import Derived.WalkKit
import Derived.WalkSpells
import Derived.WalkLawsBesides
import Derived.Handy
import Derived.Deep.QuietTactic
import Derived.BigQuiet
import Derived.Deep.DeepCutAuto
import Derived.Lib.Hide
import Derived.RegionTactic
import Derived.ChangeAlike
import Derived.Laws.ResultCell
import Derived.Outline
import Derived.IntWalk
import Derived.RangeFuncNested
import Derived.RangeFuncBound
import Derived.RangeFuncCalls
import Derived.RangeFuncLeaves
import Derived.RangeFuncBox
import Derived.RangeFuncRecord
import Derived.Shelf.Abstract
import Derived.Shelf.RegionOpen
import Derived.OwnWalkIn
import Derived.TacticsInMore
import Derived.LoopNIn
import Derived.LoopIn
import Derived.Maps.AppendAt
import Derived.Maps.OwnIn
import Derived.Laws.IdiomStrings
import Derived.Laws.BytesArg
import Derived.LoopN
import Derived.ChangeSlices
import Derived.ProofKit
import Derived.Deep.Slices
import Derived.Deep.Strs
import Derived.OpenShut
import Derived.Lib.SmallJoins
import Derived.Laws.MakeOwn
import Derived.Lib.SliceRun
import Derived.Laws.BitsAllLaws
import Derived.Great.BuildSlice
import Derived.Great.FillDense
import Derived.Laws.Rows
import Derived.Deep.Quiet
import Derived.Deep.RegionHeld3
import Derived.Lib.AppendStr
import Derived.Laws.Strings
import Derived.Laws.CopyOwn
import Derived.Laws.CopyRow
import Derived.Laws.NewBlocks
import Derived.Deep.RegionLaw
namespace Go.Proofs.YtknchbhobopkeaaGreatDoor
open Go.RowKit
structure WBx (w : World) (n5 n6 n7 nk ns q G : Nat) (reg pla : Int) (k N : Nat) : Prop where
  c5 : w.heap[n5]? = some (.cells #[.pointer (some ⟨q, 0, none⟩)] 27 (0, 0))
  c6 : w.heap[n6]? = some (.cells #[.int .i64 reg] 3 (0, 0))
  c7 : w.heap[n7]? = some (.cells #[.int .i64 pla] 3 (0, 0))
  ck : w.heap[nk]? = some (.cells #[.int .i64 (k : Int)] 3 (0, 0))
  cs : w.heap[ns]? = some (.cells #[.slice (some ⟨G, 0, none⟩) N N] 75 (0, 0))
theorem one_c {w : World} {n : Nat} {v : Value} {T : TypeId} (h : w.heap[n]? = some (.cells #[v] T (0, 0))) : w.cell? ⟨n, 0, none⟩ = some v := blk_cell h 0 _ rfl
theorem WBx.below {w w' : World} {n5 n6 n7 nk ns q G : Nat} {reg pla : Int} {k N : Nat} (h : WBx w n5 n6 n7 nk ns q G reg pla k N) (hb : Below w.heap.size w w') : WBx w' n5 n6 n7 nk ns q G reg pla k N := ⟨tr_bl hb h.c5, tr_bl hb h.c6, tr_bl hb h.c7, tr_bl hb h.ck, tr_bl hb h.cs⟩
theorem WBx.kt {B : Nat} {w w' : World} {n5 n6 n7 nk ns q G : Nat} {reg pla : Int} {k N : Nat} (h : WBx w n5 n6 n7 nk ns q G reg pla k N) (hb : Kt B w w') : WBx w' n5 n6 n7 nk ns q G reg pla k N := ⟨hb.ty _ _ _ h.c5 (by decide) (by decide) (by decide), hb.ty _ _ _ h.c6 (by decide) (by decide) (by decide), hb.ty _ _ _ h.c7 (by decide) (by decide) (by decide), hb.ty _ _ _ h.ck (by decide) (by decide) (by decide), hb.ty _ _ _ h.cs (by decide) (by decide) (by decide)⟩
abbrev wr2V (n5 n6 n7 nk ns : Nat) : Value := .func (.func 63) #[] #[.pointer (some ⟨n5, 0, none⟩), .pointer (some ⟨n6, 0, none⟩), .pointer (some ⟨n7, 0, none⟩), .pointer (some ⟨nk, 0, none⟩), .pointer (some ⟨ns, 0, none⟩)]
section
variable {B g gp q n5 n6 n7 nk ns G : Nat} {wv : Value} {d : Dk} {w : World} {s : Lg} {reg pla f : Int} {fr : List UInt8}
set_option maxRecDepth 100000 in
set_option maxHeartbeats 1000000 in
theorem wr2_any (h : LgB w q g s) (hd : DiskB B g gp wv d w) (hb : B ≤ w.heap.size) (k : Nat) (hk : k < 2) (hx : WBx w n5 n6 n7 nk ns q G reg pla k fr.length) (hO : OwnB w B (some ⟨G, 0, none⟩) fr.length fr) (hl : 64 * k + 64 ≤ fr.length) (hl2 : fr.length ≤ 128) (hf : firstN reg pla = f) (hfb : 0 ≤ f ∧ f < 200) (hw : d.waits.length ≤ 1000000) :
    Calls Tryz.prog 63 #[.pointer (some ⟨n5, 0, none⟩), .pointer (some ⟨n6, 0, none⟩), .pointer (some ⟨n7, 0, none⟩), .pointer (some ⟨nk, 0, none⟩), .pointer (some ⟨ns, 0, none⟩)] w fun e w' => e = .returned (.int .i64 (writeD d (f + k) (pcD fr k)).2) ∧ (∃ wv', DiskB B g gp wv' (writeD d (f + k) (pcD fr k)).1 w') ∧ Kt B w w' := by
  have hp0 : (pcD fr k).length = 64 := by unfold pcD; rw [List.length_take, List.length_drop]; omega
  have HW0 := fun w' (D : DiskB B g gp wv d w') hB O => write_any D hB (f + k) (some ⟨G, 64 * k, none⟩) (fr.length - 64 * k) (pcD fr k) O hw
  rw [hp0] at HW0
  have HS : ∀ w1, OwnB w1 B (some ⟨G, 0, none⟩) fr.length fr → ∀ w', Kt B w1 w' → SlB w' (some ⟨G, 64 * k, none⟩) (fr.length - 64 * k) (pcD fr k) := fun w1 O w' hk' => by
    have h1 := ((O.kt hk').slb).sub (64 * k) 64 (by omega)
    rw [Nat.zero_add] at h1
    exact h1
  obtain ⟨d1, e1, hd1⟩ : ∃ d1 e1, writeD d (f + k) (pcD fr k) = (d1, e1) := ⟨_, _, rfl⟩
  rw [hd1]
  simp only [hd1] at HW0
  have HF := Lib.hid hf
  clear hd1 hf hp0
  generalize fr.length = N at *
  generalize pcD fr k = pc at *
  have hO2 : ∃ (ob : World → Prop), ob w ∧ (∀ w1 w', ob w1 → Below w1.heap.size w1 w' → ob w') ∧ ∀ w1, ob w1 → ∀ w', Kt B w1 w' → SlB w' (some ⟨G, 64 * k, none⟩) (N - 64 * k) pc := ⟨fun w1 => OwnB w1 B (some ⟨G, 0, none⟩) N fr, hO, fun _ _ a b => a.below b, HS⟩
  obtain ⟨ob, O0, obl, HS2⟩ := hO2
  clear HS hO
  have hki : (k : Int) = 0 ∨ (k : Int) = 1 := by omega
  rcases (show k = 0 ∨ k = 1 by omega) with rfl | rfl
  · rw [show f + ((0 : Nat) : Int) = f by omega, Nat.mul_zero, Nat.sub_zero] at HW0
    rw [Nat.mul_zero, Nat.sub_zero] at HS2
    go_enter Tryz.func63, Tryz.ntmps63
    refine wp_seq_k (fun K hK => ?_)
    have HK := Lib.hid hK
    clear hK
    go_wp2
    refine HK.out _ _ ?_
    clear HK
    refine wp_seq_k (fun K hK => ?_)
    have HK := Lib.hid hK
    clear hK
    go_wp2_with fail
    have hbd := (Below.refl w.heap.size w).drew
    have D1 := hd.below hbd
    have S1 := h.below hbd
    have X1 := hx.below hbd
    have O1 := obl _ _ O0 hbd
    have k1 := Kt.of hbd hb
    have hb1 := Nat.le_trans hb hbd.size
    refine wp_region_held_drew (S := fun w' => LgB w' q g s ∧ WBx w' n5 n6 n7 nk ns q G reg pla 0 N) (by kernel_rfl) ⟨S1, X1⟩ (fun hS0 => ?_)
    clear hbd hd h hx O0 hb
    generalize w.drew = x0 at *
    refine wpAnyH_take (i := 0) (oi := ⟨_, _, _, _, _, _⟩) (v := ?_) rfl (by kernel_rfl) (by kernel_rfl) (by kernel_rfl) (fun _ _ _ h => h) (Or.inl ⟨by rfl, ?_⟩) (by assumption) ?_
    rotate_left
    · intro wS hSw
      have c := one_c hSw.2.c5; go_simp; (try with_reducible rfl)
    (try simp only [Act.put]); (try simp only [List.setIfInBounds_toArray]); (try simp only [List.set_cons_succ]); (try simp only [List.set_cons_zero])
    refine wpAnyH_take (i := 1) (oi := ⟨_, _, _, _, _, _⟩) (v := ?_) rfl (by kernel_rfl) (by kernel_rfl) (by kernel_rfl) (fun _ _ _ h => h) (Or.inl ⟨by rfl, ?_⟩) (by assumption) ?_
    rotate_left
    · intro wS hSw; go_simp; (try with_reducible rfl)
    (try simp only [Act.put]); (try simp only [List.setIfInBounds_toArray]); (try simp only [List.set_cons_succ]); (try simp only [List.set_cons_zero])
    refine wpAnyH_take (i := 2) (oi := ⟨_, _, _, _, _, _⟩) (v := ?_) rfl (by kernel_rfl) (by kernel_rfl) (by kernel_rfl) (fun _ _ _ h => h) (Or.inl ⟨by rfl, ?_⟩) (by assumption) ?_
    rotate_left
    · intro wS hSw; go_simp; (try with_reducible rfl)
    (try simp only [Act.put]); (try simp only [List.setIfInBounds_toArray]); (try simp only [List.set_cons_succ]); (try simp only [List.set_cons_zero])
    refine wpAnyH_take (i := 3) (oi := ⟨_, _, _, _, _, _⟩) (v := ?_) rfl (by kernel_rfl) (by kernel_rfl) (by kernel_rfl) (fun _ _ _ h => h) (Or.inl ⟨by rfl, ?_⟩) (by assumption) ?_
    rotate_left
    · intro wS hSw
      have c := hSw.1.c0; go_simp; (try with_reducible rfl)
    (try simp only [Act.put]); (try simp only [List.setIfInBounds_toArray]); (try simp only [List.set_cons_succ]); (try simp only [List.set_cons_zero])
    refine wpAnyH_take (i := 4) (oi := ⟨_, _, _, _, _, _⟩) (v := ?_) rfl (by kernel_rfl) (by kernel_rfl) (by kernel_rfl) (fun _ _ _ h => h) (Or.inl ⟨by rfl, ?_⟩) (by assumption) ?_
    rotate_left
    · intro wS hSw
      have c := one_c hSw.2.c6; go_simp; (try with_reducible rfl)
    (try simp only [Act.put]); (try simp only [List.setIfInBounds_toArray]); (try simp only [List.set_cons_succ]); (try simp only [List.set_cons_zero])
    refine wpAnyH_take (i := 5) (oi := ⟨_, _, _, _, _, _⟩) (v := ?_) rfl (by kernel_rfl) (by kernel_rfl) (by kernel_rfl) (fun _ _ _ h => h) (Or.inl ⟨by rfl, ?_⟩) (by assumption) ?_
    rotate_left
    · intro wS hSw
      have c := one_c hSw.2.c7; go_simp; (try with_reducible rfl)
    (try simp only [Act.put]); (try simp only [List.setIfInBounds_toArray]); (try simp only [List.set_cons_succ]); (try simp only [List.set_cons_zero])
    refine wpAnyH_take (i := 7) (oi := ⟨_, _, _, _, _, _⟩) (v := .int .i64 0) rfl (by kernel_rfl) (by kernel_rfl) (by kernel_rfl) (fun _ _ _ h => h) (Or.inl ⟨by rfl, fun wS hSw => ?_⟩) (by assumption) ?_
    · have c := one_c hSw.2.ck; go_simp; (try rfl)
    (try simp only [Act.put]); (try simp only [List.setIfInBounds_toArray]); (try simp only [List.set_cons_succ]); (try simp only [List.set_cons_zero])
    refine wpAnyH_take (i := 9) (oi := ⟨_, _, _, _, _, _⟩) (v := ?_) rfl (by kernel_rfl) (by kernel_rfl) (by kernel_rfl) (fun _ _ _ h => h) (Or.inl ⟨by rfl, ?_⟩) (by assumption) ?_
    rotate_left
    · intro wS hSw
      have c := one_c hSw.2.cs; go_simp; (try with_reducible rfl)
    (try simp only [Act.put]); (try simp only [List.setIfInBounds_toArray]); (try simp only [List.set_cons_succ]); (try simp only [List.set_cons_zero])
    refine wpAnyH_take (i := 10) (oi := ⟨_, _, _, _, _, _⟩) (v := .int .i64 0) rfl (by kernel_rfl) (by kernel_rfl) (by kernel_rfl) (fun _ _ _ h => h) (Or.inl ⟨by rfl, fun wS hSw => ?_⟩) (by assumption) ?_
    · have c := one_c hSw.2.ck; go_simp; (try rfl)
    (try simp only [Act.put]); (try simp only [List.setIfInBounds_toArray]); (try simp only [List.set_cons_succ]); (try simp only [List.set_cons_zero])
    refine wpAnyH_take (i := 11) (oi := ⟨_, _, _, _, _, _⟩) (v := .int .i64 0) rfl (by kernel_rfl) (by kernel_rfl) (by kernel_rfl) (fun _ _ _ h => h) (Or.inl ⟨by rfl, fun wS hSw => ?_⟩) (by assumption) ?_
    · go_simp; (try rfl)
    (try simp only [Act.put]); (try simp only [List.setIfInBounds_toArray]); (try simp only [List.set_cons_succ]); (try simp only [List.set_cons_zero])
    refine wpAnyH_take (i := 12) (oi := ⟨_, _, _, _, _, _⟩) (v := .int .i64 0) rfl (by kernel_rfl) (by kernel_rfl) (by kernel_rfl) (fun _ _ _ h => h) (Or.inl ⟨by rfl, fun wS hSw => ?_⟩) (by assumption) ?_
    · have c := one_c hSw.2.ck; go_simp; (try rfl)
    (try simp only [Act.put]); (try simp only [List.setIfInBounds_toArray]); (try simp only [List.set_cons_succ]); (try simp only [List.set_cons_zero])
    refine wpAnyH_take (i := 13) (oi := ⟨_, _, _, _, _, _⟩) (v := .int .i64 1) rfl (by kernel_rfl) (by kernel_rfl) (by kernel_rfl) (fun _ _ _ h => h) (Or.inl ⟨by rfl, fun wS hSw => ?_⟩) (by assumption) ?_
    · go_simp; (try rfl)
    (try simp only [Act.put]); (try simp only [List.setIfInBounds_toArray]); (try simp only [List.set_cons_succ]); (try simp only [List.set_cons_zero])
    refine wpAnyH_take (i := 14) (oi := ⟨_, _, _, _, _, _⟩) (v := .int .i64 64) rfl (by kernel_rfl) (by kernel_rfl) (by kernel_rfl) (fun _ _ _ h => h) (Or.inl ⟨by rfl, fun wS hSw => ?_⟩) (by assumption) ?_
    · go_simp; (try rfl)
    (try simp only [Act.put]); (try simp only [List.setIfInBounds_toArray]); (try simp only [List.set_cons_succ]); (try simp only [List.set_cons_zero])
    refine wpAnyH_take (i := 15) (oi := ⟨_, _, _, _, _, _⟩) (v := .slice (some ⟨G, 0, none⟩) 64 N) rfl (by kernel_rfl) (by kernel_rfl) (by kernel_rfl) (fun _ _ _ h => h) (Or.inl ⟨by rfl, fun wS hSw => ?_⟩) (by assumption) ?_
    · go_simp; (intro hx9; omega)
    (try simp only [Act.put]); (try simp only [List.setIfInBounds_toArray]); (try simp only [List.set_cons_succ]); (try simp only [List.set_cons_zero])
    refine wpAnyH_ready (rs := [6]) (by kernel_rfl) (by simp) ?_
    refine AllReadyH.cons (o := ⟨_, _, _, _, _, _⟩) rfl (fun K' hK' => ?_) AllReadyH.nil
    refine (if_pos (by rfl)).mpr ?_
    go_simp
    refine (first_any reg pla _).mono ?_
    rintro e w10 ⟨rfl, hb10⟩
    rw [HF.out]
    have D10 := D1.below hb10
    have S10 := S1.below hb10
    have X10 := X1.below hb10
    have O10 := obl _ _ O1 hb10
    have k10 := k1.trans (Kt.of hb10 hb1)
    have hB10 := Nat.le_trans hb1 hb10.size
    refine hK'.out _ _ ⟨S10, X10⟩ (fun _ => ?_)
    clear hK' hS0 D1 S1 X1 O1 k1 hb1 hb10
    (try simp only [Act.put]); (try simp only [List.setIfInBounds_toArray]); (try simp only [List.set_cons_succ]); (try simp only [List.set_cons_zero])
    refine wpAnyH_take (i := 8) (oi := ⟨_, _, _, _, _, _⟩) (v := .int .i64 f) rfl (by kernel_rfl) (by kernel_rfl) (by kernel_rfl) (fun _ _ _ h => h) (Or.inl ⟨by rfl, fun wS hSw => ?_⟩) (by assumption) ?_
    · go_simp; (try rw [IntWalk.i64_in _ (by omega)])
    (try simp only [Act.put]); (try simp only [List.setIfInBounds_toArray]); (try simp only [List.set_cons_succ]); (try simp only [List.set_cons_zero])
    refine wpAnyH_ready (rs := [16]) (by kernel_rfl) (by simp) ?_
    refine AllReadyH.cons (o := ⟨_, _, _, _, _, _⟩) rfl (fun K' hK' => ?_) AllReadyH.nil
    refine (if_pos (by rfl)).mpr ?_
    go_simp
    refine (HW0 _ D10 hB10 (HS2 _ O10)).mono ?_
    rintro e w11 ⟨rfl, ⟨wv11, D11⟩, hk11⟩
    refine hK'.out _ _ ⟨S10.kt hk11, X10.kt hk11⟩ (fun _ => ?_)
    clear hK'
    (try simp only [Act.put]); (try simp only [List.setIfInBounds_toArray]); (try simp only [List.set_cons_succ]); (try simp only [List.set_cons_zero])
    refine wpAnyH_take (i := 17) (oi := ⟨_, _, _, _, _, _⟩) (v := ?_) rfl (by kernel_rfl) (by kernel_rfl) (by kernel_rfl) (fun _ _ _ h => h) (Or.inl ⟨by rfl, ?_⟩) (by assumption) ?_
    rotate_left
    · intro wS hSw; go_simp; (try with_reducible rfl)
    (try simp only [Act.put]); (try simp only [List.setIfInBounds_toArray]); (try simp only [List.set_cons_succ]); (try simp only [List.set_cons_zero])
    refine wpAnyH_done (by kernel_rfl) ?_ _
    refine HK.out _ _ ?_
    clear HK
    go_wp2
    go_ret
    exact ⟨rfl, ⟨_, D11⟩, k10.trans hk11⟩
  · rw [show f + ((1 : Nat) : Int) = f + 1 by omega, Nat.mul_one] at HW0
    rw [Nat.mul_one] at HS2
    go_enter Tryz.func63, Tryz.ntmps63
    refine wp_seq_k (fun K hK => ?_)
    have HK := Lib.hid hK
    clear hK
    go_wp2
    refine HK.out _ _ ?_
    clear HK
    refine wp_seq_k (fun K hK => ?_)
    have HK := Lib.hid hK
    clear hK
    go_wp2_with fail
    have hbd := (Below.refl w.heap.size w).drew
    have D1 := hd.below hbd
    have S1 := h.below hbd
    have X1 := hx.below hbd
    have O1 := obl _ _ O0 hbd
    have k1 := Kt.of hbd hb
    have hb1 := Nat.le_trans hb hbd.size
    refine wp_region_held_drew (S := fun w' => LgB w' q g s ∧ WBx w' n5 n6 n7 nk ns q G reg pla 1 N) (by kernel_rfl) ⟨S1, X1⟩ (fun hS0 => ?_)
    clear hbd hd h hx O0 hb
    generalize w.drew = x0 at *
    refine wpAnyH_take (i := 0) (oi := ⟨_, _, _, _, _, _⟩) (v := ?_) rfl (by kernel_rfl) (by kernel_rfl) (by kernel_rfl) (fun _ _ _ h => h) (Or.inl ⟨by rfl, ?_⟩) (by assumption) ?_
    rotate_left
    · intro wS hSw
      have c := one_c hSw.2.c5; go_simp; (try with_reducible rfl)
    (try simp only [Act.put]); (try simp only [List.setIfInBounds_toArray]); (try simp only [List.set_cons_succ]); (try simp only [List.set_cons_zero])
    refine wpAnyH_take (i := 1) (oi := ⟨_, _, _, _, _, _⟩) (v := ?_) rfl (by kernel_rfl) (by kernel_rfl) (by kernel_rfl) (fun _ _ _ h => h) (Or.inl ⟨by rfl, ?_⟩) (by assumption) ?_
    rotate_left
    · intro wS hSw; go_simp; (try with_reducible rfl)
    (try simp only [Act.put]); (try simp only [List.setIfInBounds_toArray]); (try simp only [List.set_cons_succ]); (try simp only [List.set_cons_zero])
    refine wpAnyH_take (i := 2) (oi := ⟨_, _, _, _, _, _⟩) (v := ?_) rfl (by kernel_rfl) (by kernel_rfl) (by kernel_rfl) (fun _ _ _ h => h) (Or.inl ⟨by rfl, ?_⟩) (by assumption) ?_
    rotate_left
    · intro wS hSw; go_simp; (try with_reducible rfl)
    (try simp only [Act.put]); (try simp only [List.setIfInBounds_toArray]); (try simp only [List.set_cons_succ]); (try simp only [List.set_cons_zero])
    refine wpAnyH_take (i := 3) (oi := ⟨_, _, _, _, _, _⟩) (v := ?_) rfl (by kernel_rfl) (by kernel_rfl) (by kernel_rfl) (fun _ _ _ h => h) (Or.inl ⟨by rfl, ?_⟩) (by assumption) ?_
    rotate_left
    · intro wS hSw
      have c := hSw.1.c0; go_simp; (try with_reducible rfl)
    (try simp only [Act.put]); (try simp only [List.setIfInBounds_toArray]); (try simp only [List.set_cons_succ]); (try simp only [List.set_cons_zero])
    refine wpAnyH_take (i := 4) (oi := ⟨_, _, _, _, _, _⟩) (v := ?_) rfl (by kernel_rfl) (by kernel_rfl) (by kernel_rfl) (fun _ _ _ h => h) (Or.inl ⟨by rfl, ?_⟩) (by assumption) ?_
    rotate_left
    · intro wS hSw
      have c := one_c hSw.2.c6; go_simp; (try with_reducible rfl)
    (try simp only [Act.put]); (try simp only [List.setIfInBounds_toArray]); (try simp only [List.set_cons_succ]); (try simp only [List.set_cons_zero])
    refine wpAnyH_take (i := 5) (oi := ⟨_, _, _, _, _, _⟩) (v := ?_) rfl (by kernel_rfl) (by kernel_rfl) (by kernel_rfl) (fun _ _ _ h => h) (Or.inl ⟨by rfl, ?_⟩) (by assumption) ?_
    rotate_left
    · intro wS hSw
      have c := one_c hSw.2.c7; go_simp; (try with_reducible rfl)
    (try simp only [Act.put]); (try simp only [List.setIfInBounds_toArray]); (try simp only [List.set_cons_succ]); (try simp only [List.set_cons_zero])
    refine wpAnyH_take (i := 7) (oi := ⟨_, _, _, _, _, _⟩) (v := .int .i64 1) rfl (by kernel_rfl) (by kernel_rfl) (by kernel_rfl) (fun _ _ _ h => h) (Or.inl ⟨by rfl, fun wS hSw => ?_⟩) (by assumption) ?_
    · have c := one_c hSw.2.ck; go_simp; (try rfl)
    (try simp only [Act.put]); (try simp only [List.setIfInBounds_toArray]); (try simp only [List.set_cons_succ]); (try simp only [List.set_cons_zero])
    refine wpAnyH_take (i := 9) (oi := ⟨_, _, _, _, _, _⟩) (v := ?_) rfl (by kernel_rfl) (by kernel_rfl) (by kernel_rfl) (fun _ _ _ h => h) (Or.inl ⟨by rfl, ?_⟩) (by assumption) ?_
    rotate_left
    · intro wS hSw
      have c := one_c hSw.2.cs; go_simp; (try with_reducible rfl)
    (try simp only [Act.put]); (try simp only [List.setIfInBounds_toArray]); (try simp only [List.set_cons_succ]); (try simp only [List.set_cons_zero])
    refine wpAnyH_take (i := 10) (oi := ⟨_, _, _, _, _, _⟩) (v := .int .i64 1) rfl (by kernel_rfl) (by kernel_rfl) (by kernel_rfl) (fun _ _ _ h => h) (Or.inl ⟨by rfl, fun wS hSw => ?_⟩) (by assumption) ?_
    · have c := one_c hSw.2.ck; go_simp; (try rfl)
    (try simp only [Act.put]); (try simp only [List.setIfInBounds_toArray]); (try simp only [List.set_cons_succ]); (try simp only [List.set_cons_zero])
    refine wpAnyH_take (i := 11) (oi := ⟨_, _, _, _, _, _⟩) (v := .int .i64 64) rfl (by kernel_rfl) (by kernel_rfl) (by kernel_rfl) (fun _ _ _ h => h) (Or.inl ⟨by rfl, fun wS hSw => ?_⟩) (by assumption) ?_
    · go_simp; (try rfl)
    (try simp only [Act.put]); (try simp only [List.setIfInBounds_toArray]); (try simp only [List.set_cons_succ]); (try simp only [List.set_cons_zero])
    refine wpAnyH_take (i := 12) (oi := ⟨_, _, _, _, _, _⟩) (v := .int .i64 1) rfl (by kernel_rfl) (by kernel_rfl) (by kernel_rfl) (fun _ _ _ h => h) (Or.inl ⟨by rfl, fun wS hSw => ?_⟩) (by assumption) ?_
    · have c := one_c hSw.2.ck; go_simp; (try rfl)
    (try simp only [Act.put]); (try simp only [List.setIfInBounds_toArray]); (try simp only [List.set_cons_succ]); (try simp only [List.set_cons_zero])
    refine wpAnyH_take (i := 13) (oi := ⟨_, _, _, _, _, _⟩) (v := .int .i64 2) rfl (by kernel_rfl) (by kernel_rfl) (by kernel_rfl) (fun _ _ _ h => h) (Or.inl ⟨by rfl, fun wS hSw => ?_⟩) (by assumption) ?_
    · go_simp; (try rfl)
    (try simp only [Act.put]); (try simp only [List.setIfInBounds_toArray]); (try simp only [List.set_cons_succ]); (try simp only [List.set_cons_zero])
    refine wpAnyH_take (i := 14) (oi := ⟨_, _, _, _, _, _⟩) (v := .int .i64 128) rfl (by kernel_rfl) (by kernel_rfl) (by kernel_rfl) (fun _ _ _ h => h) (Or.inl ⟨by rfl, fun wS hSw => ?_⟩) (by assumption) ?_
    · go_simp; (try rfl)
    (try simp only [Act.put]); (try simp only [List.setIfInBounds_toArray]); (try simp only [List.set_cons_succ]); (try simp only [List.set_cons_zero])
    refine wpAnyH_take (i := 15) (oi := ⟨_, _, _, _, _, _⟩) (v := .slice (some ⟨G, 64, none⟩) 64 (N - 64)) rfl (by kernel_rfl) (by kernel_rfl) (by kernel_rfl) (fun _ _ _ h => h) (Or.inl ⟨by rfl, fun wS hSw => ?_⟩) (by assumption) ?_
    · go_simp; (rw [if_pos (show (128 : Int) ≤ N by omega), if_neg (show ¬ N = 64 by omega)])
    (try simp only [Act.put]); (try simp only [List.setIfInBounds_toArray]); (try simp only [List.set_cons_succ]); (try simp only [List.set_cons_zero])
    refine wpAnyH_ready (rs := [6]) (by kernel_rfl) (by simp) ?_
    refine AllReadyH.cons (o := ⟨_, _, _, _, _, _⟩) rfl (fun K' hK' => ?_) AllReadyH.nil
    refine (if_pos (by rfl)).mpr ?_
    go_simp
    refine (first_any reg pla _).mono ?_
    rintro e w10 ⟨rfl, hb10⟩
    rw [HF.out]
    have D10 := D1.below hb10
    have S10 := S1.below hb10
    have X10 := X1.below hb10
    have O10 := obl _ _ O1 hb10
    have k10 := k1.trans (Kt.of hb10 hb1)
    have hB10 := Nat.le_trans hb1 hb10.size
    refine hK'.out _ _ ⟨S10, X10⟩ (fun _ => ?_)
    clear hK' hS0 D1 S1 X1 O1 k1 hb1 hb10
    (try simp only [Act.put]); (try simp only [List.setIfInBounds_toArray]); (try simp only [List.set_cons_succ]); (try simp only [List.set_cons_zero])
    refine wpAnyH_take (i := 8) (oi := ⟨_, _, _, _, _, _⟩) (v := .int .i64 (f + 1)) rfl (by kernel_rfl) (by kernel_rfl) (by kernel_rfl) (fun _ _ _ h => h) (Or.inl ⟨by rfl, fun wS hSw => ?_⟩) (by assumption) ?_
    · go_simp; (try rw [IntWalk.i64_in _ (by omega)])
    (try simp only [Act.put]); (try simp only [List.setIfInBounds_toArray]); (try simp only [List.set_cons_succ]); (try simp only [List.set_cons_zero])
    refine wpAnyH_ready (rs := [16]) (by kernel_rfl) (by simp) ?_
    refine AllReadyH.cons (o := ⟨_, _, _, _, _, _⟩) rfl (fun K' hK' => ?_) AllReadyH.nil
    refine (if_pos (by rfl)).mpr ?_
    go_simp
    refine (HW0 _ D10 hB10 (HS2 _ O10)).mono ?_
    rintro e w11 ⟨rfl, ⟨wv11, D11⟩, hk11⟩
    refine hK'.out _ _ ⟨S10.kt hk11, X10.kt hk11⟩ (fun _ => ?_)
    clear hK'
    (try simp only [Act.put]); (try simp only [List.setIfInBounds_toArray]); (try simp only [List.set_cons_succ]); (try simp only [List.set_cons_zero])
    refine wpAnyH_take (i := 17) (oi := ⟨_, _, _, _, _, _⟩) (v := ?_) rfl (by kernel_rfl) (by kernel_rfl) (by kernel_rfl) (fun _ _ _ h => h) (Or.inl ⟨by rfl, ?_⟩) (by assumption) ?_
    rotate_left
    · intro wS hSw; go_simp; (try with_reducible rfl)
    (try simp only [Act.put]); (try simp only [List.setIfInBounds_toArray]); (try simp only [List.set_cons_succ]); (try simp only [List.set_cons_zero])
    refine wpAnyH_done (by kernel_rfl) ?_ _
    refine HK.out _ _ ?_
    clear HK
    go_wp2
    go_ret
    exact ⟨rfl, ⟨_, D11⟩, k10.trans hk11⟩
end
end Go.Proofs.YtknchbhobopkeaaGreatDoor
namespace Go.Proofs.YtknchbhobopkeaaGreatDoor
open Go.RowKit
structure Kw (B eb : Nat) (w w' : World) : Prop where
  bl : Below B w w'
  ty : ∀ (j : Nat) (cs : Array Value) (T : TypeId), w.heap[j]? = some (.cells cs T (0, 0)) → T ≠ 71 → T ≠ 134 → T ≠ 132 → j ≠ eb → w'.heap[j]? = some (.cells cs T (0, 0))
section
variable {B eb g gp q n5 n6 n7 nk ns G : Nat} {wv : Value} {d : Dk} {w w1 w2 : World} {s : Lg} {reg pla f : Int} {fr : List UInt8}
theorem Kw.refl (B eb : Nat) (w : World) : Kw B eb w w := ⟨Below.refl _ _, fun _ _ _ h _ _ _ _ => h⟩
theorem Kw.trans (h : Kw B eb w w1) (h2 : Kw B eb w1 w2) : Kw B eb w w2 := ⟨h.bl.trans h2.bl, fun j cs T a b c d e => h2.ty j cs T (h.ty j cs T a b c d e) b c d e⟩
theorem Kw.of (h : Kt B w w1) : Kw B eb w w1 := ⟨h.bl, fun j cs T a b c d _ => h.ty j cs T a b c d⟩
theorem Kw.st (hg : w.grownBy w1 (some eb)) (hB : B ≤ eb) (hs : B ≤ w.heap.size) : Kw B eb w w1 := ⟨(Below.refl B w).grown hg hs (fun k e => by cases e; exact hB), fun _ _ _ a _ _ _ e => tr_st hg a (Ne.symm e)⟩
theorem Kw.kt (h : Kw B eb w1 w2) (hb : Below w.heap.size w w1) (hB : B ≤ w.heap.size) (he : w.heap.size ≤ eb) : Kt B w w2 := ⟨(hb.mono hB).trans h.bl, fun j cs T a b c d => h.ty j cs T (tr_bl hb a) b c d (by have := lt_blk a; omega)⟩
theorem ne_ty2 {j mb : Nat} {cs xs : Array Value} {T T' : TypeId} (hc : w.heap[mb]? = some (.cells cs T (0, 0))) (hj : w.heap[j]? = some (.cells xs T' (0, 0))) (hT : T' ≠ T) : mb ≠ j := fun e => by
  subst e
  rw [hc] at hj
  injection hj with hj
  injection hj with _ e
  exact hT e.symm
theorem DiskB.oe {mb : Nat} {cs : Array Value} {T : TypeId} (h : DiskB B g gp wv d w) (hg : w.grownBy w1 (some mb)) (hc : w.heap[mb]? = some (.cells cs T (0, 0))) (h1 : 71 ≠ T) (h2 : 134 ≠ T) (h3 : 132 ≠ T) : DiskB B g gp wv d w1 :=
  ⟨tr_st hg h.box (ne_ty2 hc h.box h1), tr_st hg h.pls (ne_ty2 hc h.pls h2), owns_ne h.wts hg hc h3, h.gb, h.pb, h.n0, h.nl, h.lo, h.hi, h.ok, h.wk⟩
theorem er_st (x y : Int) : 0 + 1 ≤ (#[Value.int .i64 x] : Array Value).size ∧ (Value.int .i64 y).cells.size = 1 ∧ (∀ u ∈ (Value.int .i64 y).cells.toList, u.oneCell' = true) ∧ ((#[Value.int .i64 x] : Array Value).toList.take 0 ++ (Value.int .i64 y).cells.toList ++ (#[Value.int .i64 x] : Array Value).toList.drop (0 + 1)).toArray = #[.int .i64 y] :=
  ⟨by show _ ≤ 1; omega, rfl, by simp [Value.cells, Value.oneCell'], rfl⟩
def ErB (w : World) (eb : Nat) (x : Int) : Prop := w.heap[eb]? = some (.cells #[.int .i64 x] 24 (0, 0))
set_option maxRecDepth 100000 in
theorem do_skip (v : Value) (x : Int) (hx : x ≠ 0) (hE : ErB w eb x) : Calls Tryz.prog 62 #[v, .pointer (some ⟨eb, 0, none⟩)] w fun e w' => e = .returned (.tuple #[]) ∧ w = w' := by
  have c0 := one_c hE
  have e0 : (x == 0) = false := by rw [beq_eq_false_iff_ne]; exact hx
  go_enter Tryz.func62, Tryz.ntmps62
  go_wp2
  go_end0
  exact ⟨rfl, rfl⟩
set_option maxRecDepth 100000 in
set_option maxHeartbeats 1000000 in
theorem do_wr (hE : ErB w eb 0) (hBe : B ≤ eb) (h : LgB w q g s) (hd : DiskB B g gp wv d w) (hb : B ≤ w.heap.size) (k : Nat) (hk : k < 2) (hx : WBx w n5 n6 n7 nk ns q G reg pla k fr.length) (hO : OwnB w B (some ⟨G, 0, none⟩) fr.length fr) (hl : 64 * k + 64 ≤ fr.length) (hl2 : fr.length ≤ 128) (hf : firstN reg pla = f) (hfb : 0 ≤ f ∧ f < 200) (hw : d.waits.length ≤ 1000000) :
    Calls Tryz.prog 62 #[wr2V n5 n6 n7 nk ns, .pointer (some ⟨eb, 0, none⟩)] w fun e w' => e = .returned (.tuple #[]) ∧ (∃ wv', DiskB B g gp wv' (writeD d (f + k) (pcD fr k)).1 w') ∧ ErB w' eb (writeD d (f + k) (pcD fr k)).2 ∧ Kw B eb w w' := by
  have hcl := wr2_any h hd hb k hk hx hO hl hl2 hf hfb hw
  obtain ⟨d1, e1, hd1⟩ : ∃ d1 e1, writeD d (f + k) (pcD fr k) = (d1, e1) := ⟨_, _, rfl⟩
  rw [hd1] at hcl ⊢
  have c0 := one_c hE
  have HE : w.heap[eb]? = some (.cells #[.int .i64 0] 24 (0, 0)) := hE
  clear hd1 h hd hx hO hl hl2 hf hw hk
  go_enter Tryz.func62, Tryz.ntmps62
  go_wp2_with (first
    | (go_at_call 63; refine hcl.mono ?_; rintro e w1 ⟨rfl, ⟨wv1, D1⟩, hk1⟩; have E1 := hk1.ty _ _ _ HE (by decide) (by decide) (by decide))
    | ((with_reducible refine wpList_stB 24 _ _ ?_); refine ⟨_, _, _, ⟨_, _, _, Tryz.sizeOf24, rfl, E1, er_st _ e1⟩, ?_⟩; intro w2 E2 g2))
  go_end0
  exact ⟨rfl, ⟨_, D1.oe g2 E1 (by decide) (by decide) (by decide)⟩, E2, (Kw.of hk1).trans (Kw.st g2 hBe (Nat.le_trans hb hk1.bl.size))⟩
abbrev flV (g : Nat) : Value := .func (.func 65) #[.pointer (some ⟨g, 0, none⟩)] #[]
set_option maxRecDepth 100000 in
set_option maxHeartbeats 1000000 in
theorem do_fl (hE : ErB w eb 0) (hBe : B ≤ eb) (hd : DiskB B g gp wv d w) (hb : B ≤ w.heap.size) :
    Calls Tryz.prog 62 #[flV g, .pointer (some ⟨eb, 0, none⟩)] w fun e w' => e = .returned (.tuple #[]) ∧ (∃ wv', DiskB B g gp wv' (flushD d).1 w') ∧ ErB w' eb (flushD d).2 ∧ Kw B eb w w' := by
  have hcl := flush_any hd hb
  obtain ⟨d1, e1, hd1⟩ : ∃ d1 e1, flushD d = (d1, e1) := ⟨_, _, rfl⟩
  rw [hd1] at hcl ⊢
  have c0 := one_c hE
  have HE : w.heap[eb]? = some (.cells #[.int .i64 0] 24 (0, 0)) := hE
  clear hd1 hd
  go_enter Tryz.func62, Tryz.ntmps62
  go_wp2_with (first
    | (go_at_call 65; refine hcl.mono ?_; rintro e w1 ⟨rfl, ⟨wv1, D1⟩, hk1⟩; have E1 := hk1.ty _ _ _ HE (by decide) (by decide) (by decide))
    | ((with_reducible refine wpList_stB 24 _ _ ?_); refine ⟨_, _, _, ⟨_, _, _, Tryz.sizeOf24, rfl, E1, er_st _ e1⟩, ?_⟩; intro w2 E2 g2))
  go_end0
  exact ⟨rfl, ⟨_, D1.oe g2 E1 (by decide) (by decide) (by decide)⟩, E2, (Kw.of hk1).trans (Kw.st g2 hBe (Nat.le_trans hb hk1.bl.size))⟩
end
end Go.Proofs.YtknchbhobopkeaaGreatDoor
namespace Go.Proofs.YtknchbhobopkeaaGreatDoor
open Go.RowKit
structure WF (B g gp q nb : Nat) (wv : Value) (d : Dk) (s : Lg) (reg pla : Int) (w wx : World) : Prop where
  lg : LgB wx q g s
  b5 : wx.heap[nb]? = some (.cells #[.pointer (some ⟨q, 0, none⟩)] 27 (0, 0))
  b6 : wx.heap[nb + 1]? = some (.cells #[.int .i64 reg] 3 (0, 0))
  b7 : wx.heap[nb + 2]? = some (.cells #[.int .i64 pla] 3 (0, 0))
  er : ErB wx (nb + 3) 0
  dk : DiskB B g gp wv d wx
  bl : Below nb w wx
def Mid (B g gp q nb : Nat) (wv : Value) (d : Dk) (s : Lg) (reg pla : Int) (w : World) (fr : List UInt8) (v : Value) (wx : World) : Prop :=
  ∃ sb G, v = .pointer (some ⟨sb, 0, none⟩) ∧ wx.heap[sb]? = some (.cells #[.slice (some ⟨G, 0, none⟩) fr.length fr.length] 75 (0, 0)) ∧ OwnB wx nb (some ⟨G, 0, none⟩) fr.length fr ∧ WF B g gp q nb wv d s reg pla w wx
section
variable {B g gp q nb sb : Nat} {wv : Value} {d : Dk} {w wx wy : World} {s : Lg} {reg pla : Int} {cs : Array Value}
theorem WF.below (h : WF B g gp q nb wv d s reg pla w wx) (hb : Below wx.heap.size wx wy) : WF B g gp q nb wv d s reg pla w wy :=
  ⟨h.lg.below hb, tr_bl hb h.b5, tr_bl hb h.b6, tr_bl hb h.b7, tr_bl hb h.er, h.dk.below hb, h.bl.trans (hb.mono (by have := lt_blk h.b5; omega))⟩
theorem WF.st1 (h : WF B g gp q nb wv d s reg pla w wx) (hg : wx.grownBy wy (some sb)) (hc : wx.heap[sb]? = some (.cells cs 75 (0, 0))) (hsb : nb ≤ sb) : WF B g gp q nb wv d s reg pla w wy :=
  ⟨tr_st hg h.lg (ne_ty2 hc h.lg (by decide)), tr_st hg h.b5 (ne_ty2 hc h.b5 (by decide)), tr_st hg h.b6 (ne_ty2 hc h.b6 (by decide)), tr_st hg h.b7 (ne_ty2 hc h.b7 (by decide)), tr_st hg h.er (ne_ty2 hc h.er (by decide)), h.dk.oe hg hc (by decide) (by decide) (by decide), bl_st h.bl hg (by have := lt_blk h.b5; omega) hsb⟩
theorem WF.st2 (h : WF B g gp q nb wv d s reg pla w wx) (hg : wx.grownBy wy (some (nb + 3))) (he : ErB wy (nb + 3) 0) : WF B g gp q nb wv d s reg pla w wy :=
  ⟨tr_st hg h.lg (ne_ty2 h.er h.lg (by decide)), tr_st hg h.b5 (by omega), tr_st hg h.b6 (by omega), tr_st hg h.b7 (by omega), he, h.dk.oe hg h.er (by decide) (by decide) (by decide), bl_st h.bl hg (by have := lt_blk h.b5; omega) (by omega)⟩
theorem sl_over (a : Option Addr) (n c : Nat) : 0 + 1 ≤ (#[Value.slice none 0 0] : Array Value).size ∧ (Value.slice a n c).cells.size = 1 ∧ (∀ u ∈ (Value.slice a n c).cells.toList, u.oneCell' = true) ∧ ((#[Value.slice none 0 0] : Array Value).toList.take 0 ++ (Value.slice a n c).cells.toList ++ (#[Value.slice none 0 0] : Array Value).toList.drop (0 + 1)).toArray = #[.slice a n c] :=
  ⟨by show _ ≤ 1; omega, rfl, by simp [Value.cells, Value.oneCell'], rfl⟩
def wsD (d : Dk) (f : Int) (fr : List UInt8) : Nat → Dk × Int
  | 0 => (d, 0)
  | k + 1 => if (wsD d f fr k).2 ≠ 0 then wsD d f fr k else writeD (wsD d f fr k).1 (f + k) (pcD fr k)
def lputD (d : Dk) (f : Int) (fr : List UInt8) (n : Nat) : Dk × Int := if (wsD d f fr n).2 ≠ 0 then wsD d f fr n else flushD (wsD d f fr n).1
theorem wsD_wt (d : Dk) (f : Int) (fr : List UInt8) : ∀ k, (wsD d f fr k).1.waits.length ≤ d.waits.length + k
  | 0 => Nat.le_refl _
  | k + 1 => by
    have h := wsD_wt d f fr k
    unfold wsD
    split
    · omega
    · have := (write_pl (wsD d f fr k).1 (f + k) (pcD fr k)).2
      omega
theorem OwnB.kw {eb base c : Nat} {a : Option Addr} {l : List UInt8} {x : Int} (h : OwnB wx base a c l) (hk : Kw B eb wx wy) (he : ErB wx eb x) : OwnB wy base a c l := by
  rcases h with h | ⟨g, ys, h1, h2, h3, h4, h5⟩
  · exact .inl h
  · exact .inr ⟨g, ys, h1, h2, h3, h4, hk.ty _ _ _ h5 (by decide) (by decide) (by decide) (ne_ty2 h5 he (by decide))⟩
set_option maxRecDepth 100000 in
set_option maxHeartbeats 1000000 in
theorem lwrite1_any {f : Int} (h : LgB w q g s) (hd : DiskB B g gp wv d w) (hb : B ≤ w.heap.size) (hf : firstN 3 pla = f) (hfb : 0 ≤ f ∧ f < 200) (hw : d.waits.length ≤ 1000) (i : Int) (a : Option Addr) (cap : Nat) (body : List UInt8) (hs : SlB w a cap body) (hmay : mayTg ⟨s.rep, 3, pla, i, s.inc⟩ = true) (hbl : body.length ≤ 43) :
    Calls Tryz.prog 33 #[.pointer (some ⟨q, 0, none⟩), .int .i64 3, .int .i64 pla, .int .i64 i, .slice a body.length cap] w fun e w' => e = .returned (.int .i64 (lputD d f (sealF ⟨s.rep, 3, pla, i, s.inc⟩ body 64) 1).2) ∧ (∃ wv', DiskB B g gp wv' (lputD d f (sealF ⟨s.rep, 3, pla, i, s.inc⟩ body 64) 1).1 w') ∧ Kt B w w' := by
  obtain ⟨r, hr⟩ : ∃ r, lputD d f (sealF ⟨s.rep, 3, pla, i, s.inc⟩ body 64) 1 = r := ⟨_, rfl⟩
  rw [hr]
  have HR := Lib.hid hr
  have HF := Lib.hid hf
  clear hr hf
  have hfl : (sealF ⟨s.rep, 3, pla, i, s.inc⟩ body 64).length = 64 := sealF_len (by decide) (by simpa [roomN] using hbl)
  go_enter Tryz.func33, Tryz.ntmps33
  refine wp_seq_k (fun K hK => ?_)
  have HK := Lib.hid hK
  clear hK
  go_wp2
  refine HK.out _ _ ?_
  clear HK
  have hb1 := blw w (Obj.cells #[.pointer (some ⟨q, 0, none⟩)] 27)
  have hb2 := hb1.trans ((blw (w.alloc (Obj.cells #[.pointer (some ⟨q, 0, none⟩)] 27)) (Obj.cells #[.int .i64 3] 3)).mono hb1.size)
  have hb3 := hb2.trans ((blw ((w.alloc (Obj.cells #[.pointer (some ⟨q, 0, none⟩)] 27)).alloc (Obj.cells #[.int .i64 3] 3)) (Obj.cells #[.int .i64 pla] 3)).mono hb2.size)
  have hb4 := hb3.trans ((blw (((w.alloc (Obj.cells #[.pointer (some ⟨q, 0, none⟩)] 27)).alloc (Obj.cells #[.int .i64 3] 3)).alloc (Obj.cells #[.int .i64 pla] 3)) (Obj.cells #[.int .i64 0] 24)).mono hb3.size)
  have e1 : (w.alloc (Obj.cells #[.pointer (some ⟨q, 0, none⟩)] 27)).heap.size = w.heap.size + 1 := by simp
  have e2 : ((w.alloc (Obj.cells #[.pointer (some ⟨q, 0, none⟩)] 27)).alloc (Obj.cells #[.int .i64 3] 3)).heap.size = w.heap.size + 2 := by simp
  have e3 : (((w.alloc (Obj.cells #[.pointer (some ⟨q, 0, none⟩)] 27)).alloc (Obj.cells #[.int .i64 3] 3)).alloc (Obj.cells #[.int .i64 pla] 3)).heap.size = w.heap.size + 3 := by simp
  have F1 : WF B g gp q w.heap.size wv d s 3 pla w ((((w.alloc (Obj.cells #[.pointer (some ⟨q, 0, none⟩)] 27)).alloc (Obj.cells #[.int .i64 3] 3)).alloc (Obj.cells #[.int .i64 pla] 3)).alloc (Obj.cells #[.int .i64 0] 24)) :=
    ⟨h.below hb4, tr_al (Obj.cells #[.int .i64 0] 24) (tr_al (Obj.cells #[.int .i64 pla] 3) (tr_al (Obj.cells #[.int .i64 3] 3) (heap_alloc_new w (Obj.cells #[.pointer (some ⟨q, 0, none⟩)] 27)))), tr_al (Obj.cells #[.int .i64 0] 24) (tr_al (Obj.cells #[.int .i64 pla] 3) (e1 ▸ heap_alloc_new (w.alloc (Obj.cells #[.pointer (some ⟨q, 0, none⟩)] 27)) (Obj.cells #[.int .i64 3] 3))), tr_al (Obj.cells #[.int .i64 0] 24) (e2 ▸ heap_alloc_new ((w.alloc (Obj.cells #[.pointer (some ⟨q, 0, none⟩)] 27)).alloc (Obj.cells #[.int .i64 3] 3)) (Obj.cells #[.int .i64 pla] 3)), e3 ▸ heap_alloc_new (((w.alloc (Obj.cells #[.pointer (some ⟨q, 0, none⟩)] 27)).alloc (Obj.cells #[.int .i64 3] 3)).alloc (Obj.cells #[.int .i64 pla] 3)) (Obj.cells #[.int .i64 0] 24), hd.below hb4, hb4⟩
  have SB1 := hs.below hb4
  clear hb1 hb2 hb3 hb4 e1 e2 e3
  generalize (((w.alloc (Obj.cells #[.pointer (some ⟨q, 0, none⟩)] 27)).alloc (Obj.cells #[.int .i64 3] 3)).alloc (Obj.cells #[.int .i64 pla] 3)).alloc (Obj.cells #[.int .i64 0] 24) = w1 at *
  refine wp_seq_k (fun K hK => ?_)
  go_cut [11] (fun v wx => Mid B g gp q w.heap.size wv d s 3 pla w (sealF ⟨s.rep, 3, pla, i, s.inc⟩ body 64) v wx)
  case first =>
    have hbd := (Below.refl w1.heap.size w1).drew
    have F := F1.below hbd
    have SB := SB1.below hbd
    clear F1 SB1 hbd
    refine wp_region_held_drew (S := fun w' => LgB w' q g s ∧ w'.heap[w.heap.size]? = some (.cells #[.pointer (some ⟨q, 0, none⟩)] 27 (0, 0)) ∧ w'.heap[w.heap.size + 1]? = some (.cells #[.int .i64 3] 3 (0, 0)) ∧ w'.heap[w.heap.size + 2]? = some (.cells #[.int .i64 pla] 3 (0, 0))) (by kernel_rfl) ⟨F.lg, F.b5, F.b6, F.b7⟩ (fun hS0 => ?_)
    generalize w1.drew = x0 at *
    refine wpAnyH_take (i := 0) (oi := ⟨_, _, _, _, _, _⟩) (v := ?_) rfl (by kernel_rfl) (by kernel_rfl) (by kernel_rfl) (fun _ _ _ h => h) (Or.inl ⟨by rfl, ?_⟩) (by assumption) ?_
    rotate_left
    · intro wS hSw
      have c := one_c hSw.2.1; go_simp; (try with_reducible rfl)
    (try simp only [Act.put]); (try simp only [List.setIfInBounds_toArray]); (try simp only [List.set_cons_succ]); (try simp only [List.set_cons_zero])
    refine wpAnyH_take (i := 1) (oi := ⟨_, _, _, _, _, _⟩) (v := ?_) rfl (by kernel_rfl) (by kernel_rfl) (by kernel_rfl) (fun _ _ _ h => h) (Or.inl ⟨by rfl, ?_⟩) (by assumption) ?_
    rotate_left
    · intro wS hSw; go_simp; (try with_reducible rfl)
    (try simp only [Act.put]); (try simp only [List.setIfInBounds_toArray]); (try simp only [List.set_cons_succ]); (try simp only [List.set_cons_zero])
    refine wpAnyH_take (i := 2) (oi := ⟨_, _, _, _, _, _⟩) (v := ?_) rfl (by kernel_rfl) (by kernel_rfl) (by kernel_rfl) (fun _ _ _ h => h) (Or.inl ⟨by rfl, ?_⟩) (by assumption) ?_
    rotate_left
    · intro wS hSw; go_simp; (try with_reducible rfl)
    (try simp only [Act.put]); (try simp only [List.setIfInBounds_toArray]); (try simp only [List.set_cons_succ]); (try simp only [List.set_cons_zero])
    refine wpAnyH_take (i := 3) (oi := ⟨_, _, _, _, _, _⟩) (v := ?_) rfl (by kernel_rfl) (by kernel_rfl) (by kernel_rfl) (fun _ _ _ h => h) (Or.inl ⟨by rfl, ?_⟩) (by assumption) ?_
    rotate_left
    · intro wS hSw
      have c := hSw.1.c1; go_simp; (try with_reducible rfl)
    (try simp only [Act.put]); (try simp only [List.setIfInBounds_toArray]); (try simp only [List.set_cons_succ]); (try simp only [List.set_cons_zero])
    refine wpAnyH_take (i := 4) (oi := ⟨_, _, _, _, _, _⟩) (v := ?_) rfl (by kernel_rfl) (by kernel_rfl) (by kernel_rfl) (fun _ _ _ h => h) (Or.inl ⟨by rfl, ?_⟩) (by assumption) ?_
    rotate_left
    · intro wS hSw
      have c := one_c hSw.2.2.1; go_simp; (try with_reducible rfl)
    (try simp only [Act.put]); (try simp only [List.setIfInBounds_toArray]); (try simp only [List.set_cons_succ]); (try simp only [List.set_cons_zero])
    refine wpAnyH_take (i := 5) (oi := ⟨_, _, _, _, _, _⟩) (v := ?_) rfl (by kernel_rfl) (by kernel_rfl) (by kernel_rfl) (fun _ _ _ h => h) (Or.inl ⟨by rfl, ?_⟩) (by assumption) ?_
    rotate_left
    · intro wS hSw
      have c := one_c hSw.2.2.2; go_simp; (try with_reducible rfl)
    (try simp only [Act.put]); (try simp only [List.setIfInBounds_toArray]); (try simp only [List.set_cons_succ]); (try simp only [List.set_cons_zero])
    refine wpAnyH_take (i := 6) (oi := ⟨_, _, _, _, _, _⟩) (v := ?_) rfl (by kernel_rfl) (by kernel_rfl) (by kernel_rfl) (fun _ _ _ h => h) (Or.inl ⟨by rfl, ?_⟩) (by assumption) ?_
    rotate_left
    · intro wS hSw; go_simp; (try with_reducible rfl)
    (try simp only [Act.put]); (try simp only [List.setIfInBounds_toArray]); (try simp only [List.set_cons_succ]); (try simp only [List.set_cons_zero])
    refine wpAnyH_take (i := 7) (oi := ⟨_, _, _, _, _, _⟩) (v := ?_) rfl (by kernel_rfl) (by kernel_rfl) (by kernel_rfl) (fun _ _ _ h => h) (Or.inl ⟨by rfl, ?_⟩) (by assumption) ?_
    rotate_left
    · intro wS hSw
      have c := one_c hSw.2.1; go_simp; (try with_reducible rfl)
    (try simp only [Act.put]); (try simp only [List.setIfInBounds_toArray]); (try simp only [List.set_cons_succ]); (try simp only [List.set_cons_zero])
    refine wpAnyH_take (i := 8) (oi := ⟨_, _, _, _, _, _⟩) (v := ?_) rfl (by kernel_rfl) (by kernel_rfl) (by kernel_rfl) (fun _ _ _ h => h) (Or.inl ⟨by rfl, ?_⟩) (by assumption) ?_
    rotate_left
    · intro wS hSw; go_simp; (try with_reducible rfl)
    (try simp only [Act.put]); (try simp only [List.setIfInBounds_toArray]); (try simp only [List.set_cons_succ]); (try simp only [List.set_cons_zero])
    refine wpAnyH_take (i := 9) (oi := ⟨_, _, _, _, _, _⟩) (v := ?_) rfl (by kernel_rfl) (by kernel_rfl) (by kernel_rfl) (fun _ _ _ h => h) (Or.inl ⟨by rfl, ?_⟩) (by assumption) ?_
    rotate_left
    · intro wS hSw; go_simp; (try with_reducible rfl)
    (try simp only [Act.put]); (try simp only [List.setIfInBounds_toArray]); (try simp only [List.set_cons_succ]); (try simp only [List.set_cons_zero])
    refine wpAnyH_take (i := 10) (oi := ⟨_, _, _, _, _, _⟩) (v := ?_) rfl (by kernel_rfl) (by kernel_rfl) (by kernel_rfl) (fun _ _ _ h => h) (Or.inl ⟨by rfl, ?_⟩) (by assumption) ?_
    rotate_left
    · intro wS hSw
      have c := hSw.1.c2; go_simp; (try with_reducible rfl)
    (try simp only [Act.put]); (try simp only [List.setIfInBounds_toArray]); (try simp only [List.set_cons_succ]); (try simp only [List.set_cons_zero])
    refine wpAnyH_take (i := 11) (oi := ⟨_, _, _, _, _, _⟩) (v := tgV ⟨s.rep, 3, pla, i, s.inc⟩) rfl (by kernel_rfl) (by kernel_rfl) (by kernel_rfl) (fun _ _ _ h => h) (Or.inl ⟨by rfl, fun wS hSw => ?_⟩) (by assumption) ?_
    · kernel_rfl
    (try simp only [Act.put]); (try simp only [List.setIfInBounds_toArray]); (try simp only [List.set_cons_succ]); (try simp only [List.set_cons_zero])
    refine wpAnyH_take (i := 12) (oi := ⟨_, _, _, _, _, _⟩) (v := ?_) rfl (by kernel_rfl) (by kernel_rfl) (by kernel_rfl) (fun _ _ _ h => h) (Or.inl ⟨by rfl, ?_⟩) (by assumption) ?_
    rotate_left
    · intro wS hSw; go_simp; (try with_reducible rfl)
    (try simp only [Act.put]); (try simp only [List.setIfInBounds_toArray]); (try simp only [List.set_cons_succ]); (try simp only [List.set_cons_zero])
    refine wpAnyH_take (i := 13) (oi := ⟨_, _, _, _, _, _⟩) (v := ?_) rfl (by kernel_rfl) (by kernel_rfl) (by kernel_rfl) (fun _ _ _ h => h) (Or.inl ⟨by rfl, ?_⟩) (by assumption) ?_
    rotate_left
    · intro wS hSw
      have c := one_c hSw.2.2.1; go_simp; (try with_reducible rfl)
    (try simp only [Act.put]); (try simp only [List.setIfInBounds_toArray]); (try simp only [List.set_cons_succ]); (try simp only [List.set_cons_zero])
    refine wpAnyH_ready (rs := [14, 19]) (by kernel_rfl) (by simp) ?_
    refine AllReadyH.cons (o := ⟨_, _, _, _, _, _⟩) rfl (fun K' hK' => ?_) (AllReadyH.cons (o := ⟨_, _, _, _, _, _⟩) rfl (fun K' hK' => ?_) AllReadyH.nil)
    · refine (if_pos (by rfl)).mpr ?_
      go_simp
      refine (wide_any 3 _).mono ?_
      rintro e x2 ⟨rfl, hbk⟩
      rw [show wideN 3 = 1 from rfl]
      have F := F.below hbk
      have SB := SB.below hbk
      skip
      refine hK'.out _ _ ⟨F.lg, F.b5, F.b6, F.b7⟩ (fun _ => ?_)
      clear hK' hbk
      (try simp only [Act.put]); (try simp only [List.setIfInBounds_toArray]); (try simp only [List.set_cons_succ]); (try simp only [List.set_cons_zero])
      refine wpAnyH_ready (rs := [15, 19]) (by kernel_rfl) (by simp) ?_
      refine AllReadyH.cons (o := ⟨_, _, _, _, _, _⟩) rfl (fun K' hK' => ?_) (AllReadyH.cons (o := ⟨_, _, _, _, _, _⟩) rfl (fun K' hK' => ?_) AllReadyH.nil)
      · refine (if_pos (by rfl)).mpr ?_
        go_simp
        refine (seal1 ⟨s.rep, 3, pla, i, s.inc⟩ a cap body _ SB hmay hbl).mono ?_
        rintro e x3 ⟨⟨G, rfl, hG, FG⟩, hbk⟩
        have hnG := Nat.le_trans (Nat.le_of_lt (lt_blk F.b5)) hG
        have F := F.below hbk
        have O : OwnB _ w.heap.size (some ⟨G, 0, none⟩) (sealF ⟨s.rep, 3, pla, i, s.inc⟩ body 64).length (sealF ⟨s.rep, 3, pla, i, s.inc⟩ body 64) := .inr ⟨G, [], rfl, hnG, Nat.le_refl _, by rw [hfl]; unfold maxLen; omega, by rw [List.append_nil]; exact FG⟩
        skip
        refine hK'.out _ _ ⟨F.lg, F.b5, F.b6, F.b7⟩ (fun _ => ?_)
        clear hK' hbk FG SB
        (try simp only [Act.put]); (try simp only [List.setIfInBounds_toArray]); (try simp only [List.set_cons_succ]); (try simp only [List.set_cons_zero])
        refine wpAnyH_take (i := 16) (oi := ⟨_, _, _, _, _, _⟩) (v := ?_) rfl (by kernel_rfl) (by kernel_rfl) (by kernel_rfl) (fun _ _ _ h => h) (Or.inl ⟨by rfl, ?_⟩) (by assumption) ?_
        rotate_left
        · intro wS hSw; go_simp; (try with_reducible rfl)
        (try simp only [Act.put]); (try simp only [List.setIfInBounds_toArray]); (try simp only [List.set_cons_succ]); (try simp only [List.set_cons_zero])
        refine wpAnyH_take (i := 17) (oi := ⟨_, _, _, _, _, _⟩) (v := ?_) rfl (by kernel_rfl) (by kernel_rfl) (by kernel_rfl) (fun _ _ _ h => h) (Or.inl ⟨by rfl, ?_⟩) (by assumption) ?_
        rotate_left
        · intro wS hSw; go_simp; (try with_reducible rfl)
        (try simp only [Act.put]); (try simp only [List.setIfInBounds_toArray]); (try simp only [List.set_cons_succ]); (try simp only [List.set_cons_zero])
        refine wpAnyH_take (i := 18) (oi := ⟨_, _, _, _, _, _⟩) (v := ?_) rfl (by kernel_rfl) (by kernel_rfl) (by kernel_rfl) (fun _ _ _ h => h) (Or.inl ⟨by rfl, ?_⟩) (by assumption) ?_
        rotate_left
        · intro wS hSw; go_simp; (try with_reducible rfl)
        (try simp only [Act.put]); (try simp only [List.setIfInBounds_toArray]); (try simp only [List.set_cons_succ]); (try simp only [List.set_cons_zero])
        refine wpAnyH_ready (rs := [19]) (by kernel_rfl) (by simp) ?_
        refine AllReadyH.cons (o := ⟨_, _, _, _, _, _⟩) rfl (fun K' hK' => ?_) AllReadyH.nil
        refine (if_pos (by rfl)).mpr ?_
        go_simp
        change K' _ (World.alloc _ (Obj.cells #[.slice none 0 0] 75))
        have hbk := blw x3 (Obj.cells #[.slice none 0 0] 75)
        have SX := heap_alloc_new x3 (Obj.cells #[.slice none 0 0] 75)
        have hsb := Nat.le_of_lt (lt_blk F.b5)
        have F := F.below hbk
        have O := O.below hbk
        refine hK'.out _ _ ⟨F.lg, F.b5, F.b6, F.b7⟩ (fun _ => ?_)
        clear hK' hbk
        generalize x3.alloc (Obj.cells #[.slice none 0 0] 75) = x4 at *
        generalize x3.heap.size = sb at *
        (try simp only [Act.put]); (try simp only [List.setIfInBounds_toArray]); (try simp only [List.set_cons_succ]); (try simp only [List.set_cons_zero])
        refine wpAnyH_ready (rs := [20]) (by kernel_rfl) (by simp) ?_
        refine AllReadyH.cons (o := ⟨_, _, _, _, _, _⟩) rfl (fun K' hK' => ?_) AllReadyH.nil
        refine (if_pos (by rfl)).mpr ?_
        refine wp_stB 75 _ _ ?_
        refine ⟨_, _, _, ⟨_, _, _, Tryz.sizeOf75, rfl, SX, sl_over _ _ _⟩, ?_⟩
        intro w20 SY g20
        have F20 := F.st1 g20 SX hsb
        have O20 := O.st g20 SX (by decide)
        refine hK'.out _ _ ⟨F20.lg, F20.b5, F20.b6, F20.b7⟩ (fun _ => ?_)
        clear hK' F O SX
        (try simp only [Act.put]); (try simp only [List.setIfInBounds_toArray]); (try simp only [List.set_cons_succ]); (try simp only [List.set_cons_zero])
        refine wpAnyH_ready (rs := [21]) (by kernel_rfl) (by simp) ?_
        refine AllReadyH.cons (o := ⟨_, _, _, _, _, _⟩) rfl (fun K' hK' => ?_) AllReadyH.nil
        refine (if_pos (by rfl)).mpr ?_
        refine wp_stB 24 _ _ ?_
        refine ⟨_, _, _, ⟨_, _, _, Tryz.sizeOf24, rfl, F20.er, er_st _ 0⟩, ?_⟩
        intro w21 E21 g21
        have F21 := F20.st2 g21 E21
        have O21 := O20.st g21 F20.er (by decide)
        have SZ := tr_st g21 SY (ne_ty2 F20.er SY (by decide))
        refine hK'.out _ _ ⟨F21.lg, F21.b5, F21.b6, F21.b7⟩ (fun _ => ?_)
        clear hK'
        refine wpAnyH_done (by kernel_rfl) ?_ _
        go_wp2
        go_meet
        rw [← hfl] at SZ
        exact ⟨_, _, rfl, SZ, O21, F21⟩
      · refine (if_pos (by rfl)).mpr ?_
        go_simp
        change K' _ (World.alloc _ (Obj.cells #[.slice none 0 0] 75))
        have hbk := blw x2 (Obj.cells #[.slice none 0 0] 75)
        have SX := heap_alloc_new x2 (Obj.cells #[.slice none 0 0] 75)
        have hsb := Nat.le_of_lt (lt_blk F.b5)
        have F := F.below hbk
        have SB := SB.below hbk
        refine hK'.out _ _ ⟨F.lg, F.b5, F.b6, F.b7⟩ (fun _ => ?_)
        clear hK' hbk
        generalize x2.alloc (Obj.cells #[.slice none 0 0] 75) = x3 at *
        generalize x2.heap.size = sb at *
        (try simp only [Act.put]); (try simp only [List.setIfInBounds_toArray]); (try simp only [List.set_cons_succ]); (try simp only [List.set_cons_zero])
        refine wpAnyH_ready (rs := [15]) (by kernel_rfl) (by simp) ?_
        refine AllReadyH.cons (o := ⟨_, _, _, _, _, _⟩) rfl (fun K' hK' => ?_) AllReadyH.nil
        refine (if_pos (by rfl)).mpr ?_
        go_simp
        refine (seal1 ⟨s.rep, 3, pla, i, s.inc⟩ a cap body _ SB hmay hbl).mono ?_
        rintro e x4 ⟨⟨G, rfl, hG, FG⟩, hbk⟩
        have hnG := Nat.le_trans (Nat.le_of_lt (lt_blk F.b5)) hG
        have F := F.below hbk
        have O : OwnB _ w.heap.size (some ⟨G, 0, none⟩) (sealF ⟨s.rep, 3, pla, i, s.inc⟩ body 64).length (sealF ⟨s.rep, 3, pla, i, s.inc⟩ body 64) := .inr ⟨G, [], rfl, hnG, Nat.le_refl _, by rw [hfl]; unfold maxLen; omega, by rw [List.append_nil]; exact FG⟩
        have SX := tr_bl hbk SX
        refine hK'.out _ _ ⟨F.lg, F.b5, F.b6, F.b7⟩ (fun _ => ?_)
        clear hK' hbk FG SB
        (try simp only [Act.put]); (try simp only [List.setIfInBounds_toArray]); (try simp only [List.set_cons_succ]); (try simp only [List.set_cons_zero])
        refine wpAnyH_take (i := 16) (oi := ⟨_, _, _, _, _, _⟩) (v := ?_) rfl (by kernel_rfl) (by kernel_rfl) (by kernel_rfl) (fun _ _ _ h => h) (Or.inl ⟨by rfl, ?_⟩) (by assumption) ?_
        rotate_left
        · intro wS hSw; go_simp; (try with_reducible rfl)
        (try simp only [Act.put]); (try simp only [List.setIfInBounds_toArray]); (try simp only [List.set_cons_succ]); (try simp only [List.set_cons_zero])
        refine wpAnyH_take (i := 17) (oi := ⟨_, _, _, _, _, _⟩) (v := ?_) rfl (by kernel_rfl) (by kernel_rfl) (by kernel_rfl) (fun _ _ _ h => h) (Or.inl ⟨by rfl, ?_⟩) (by assumption) ?_
        rotate_left
        · intro wS hSw; go_simp; (try with_reducible rfl)
        (try simp only [Act.put]); (try simp only [List.setIfInBounds_toArray]); (try simp only [List.set_cons_succ]); (try simp only [List.set_cons_zero])
        refine wpAnyH_take (i := 18) (oi := ⟨_, _, _, _, _, _⟩) (v := ?_) rfl (by kernel_rfl) (by kernel_rfl) (by kernel_rfl) (fun _ _ _ h => h) (Or.inl ⟨by rfl, ?_⟩) (by assumption) ?_
        rotate_left
        · intro wS hSw; go_simp; (try with_reducible rfl)
        (try simp only [Act.put]); (try simp only [List.setIfInBounds_toArray]); (try simp only [List.set_cons_succ]); (try simp only [List.set_cons_zero])
        refine wpAnyH_ready (rs := [20]) (by kernel_rfl) (by simp) ?_
        refine AllReadyH.cons (o := ⟨_, _, _, _, _, _⟩) rfl (fun K' hK' => ?_) AllReadyH.nil
        refine (if_pos (by rfl)).mpr ?_
        refine wp_stB 75 _ _ ?_
        refine ⟨_, _, _, ⟨_, _, _, Tryz.sizeOf75, rfl, SX, sl_over _ _ _⟩, ?_⟩
        intro w20 SY g20
        have F20 := F.st1 g20 SX hsb
        have O20 := O.st g20 SX (by decide)
        refine hK'.out _ _ ⟨F20.lg, F20.b5, F20.b6, F20.b7⟩ (fun _ => ?_)
        clear hK' F O SX
        (try simp only [Act.put]); (try simp only [List.setIfInBounds_toArray]); (try simp only [List.set_cons_succ]); (try simp only [List.set_cons_zero])
        refine wpAnyH_ready (rs := [21]) (by kernel_rfl) (by simp) ?_
        refine AllReadyH.cons (o := ⟨_, _, _, _, _, _⟩) rfl (fun K' hK' => ?_) AllReadyH.nil
        refine (if_pos (by rfl)).mpr ?_
        refine wp_stB 24 _ _ ?_
        refine ⟨_, _, _, ⟨_, _, _, Tryz.sizeOf24, rfl, F20.er, er_st _ 0⟩, ?_⟩
        intro w21 E21 g21
        have F21 := F20.st2 g21 E21
        have O21 := O20.st g21 F20.er (by decide)
        have SZ := tr_st g21 SY (ne_ty2 F20.er SY (by decide))
        refine hK'.out _ _ ⟨F21.lg, F21.b5, F21.b6, F21.b7⟩ (fun _ => ?_)
        clear hK'
        refine wpAnyH_done (by kernel_rfl) ?_ _
        go_wp2
        go_meet
        rw [← hfl] at SZ
        exact ⟨_, _, rfl, SZ, O21, F21⟩
    · refine (if_pos (by rfl)).mpr ?_
      go_simp
      change K' _ (World.alloc _ (Obj.cells #[.slice none 0 0] 75))
      have hbk := blw x0 (Obj.cells #[.slice none 0 0] 75)
      have SX := heap_alloc_new x0 (Obj.cells #[.slice none 0 0] 75)
      have hsb := Nat.le_of_lt (lt_blk F.b5)
      have F := F.below hbk
      have SB := SB.below hbk
      refine hK'.out _ _ ⟨F.lg, F.b5, F.b6, F.b7⟩ (fun _ => ?_)
      clear hK' hbk
      generalize x0.alloc (Obj.cells #[.slice none 0 0] 75) = x2 at *
      generalize x0.heap.size = sb at *
      (try simp only [Act.put]); (try simp only [List.setIfInBounds_toArray]); (try simp only [List.set_cons_succ]); (try simp only [List.set_cons_zero])
      refine wpAnyH_ready (rs := [14]) (by kernel_rfl) (by simp) ?_
      refine AllReadyH.cons (o := ⟨_, _, _, _, _, _⟩) rfl (fun K' hK' => ?_) AllReadyH.nil
      refine (if_pos (by rfl)).mpr ?_
      go_simp
      refine (wide_any 3 _).mono ?_
      rintro e x3 ⟨rfl, hbk⟩
      rw [show wideN 3 = 1 from rfl]
      have F := F.below hbk
      have SB := SB.below hbk
      have SX := tr_bl hbk SX
      refine hK'.out _ _ ⟨F.lg, F.b5, F.b6, F.b7⟩ (fun _ => ?_)
      clear hK' hbk
      (try simp only [Act.put]); (try simp only [List.setIfInBounds_toArray]); (try simp only [List.set_cons_succ]); (try simp only [List.set_cons_zero])
      refine wpAnyH_ready (rs := [15]) (by kernel_rfl) (by simp) ?_
      refine AllReadyH.cons (o := ⟨_, _, _, _, _, _⟩) rfl (fun K' hK' => ?_) AllReadyH.nil
      refine (if_pos (by rfl)).mpr ?_
      go_simp
      refine (seal1 ⟨s.rep, 3, pla, i, s.inc⟩ a cap body _ SB hmay hbl).mono ?_
      rintro e x4 ⟨⟨G, rfl, hG, FG⟩, hbk⟩
      have hnG := Nat.le_trans (Nat.le_of_lt (lt_blk F.b5)) hG
      have F := F.below hbk
      have O : OwnB _ w.heap.size (some ⟨G, 0, none⟩) (sealF ⟨s.rep, 3, pla, i, s.inc⟩ body 64).length (sealF ⟨s.rep, 3, pla, i, s.inc⟩ body 64) := .inr ⟨G, [], rfl, hnG, Nat.le_refl _, by rw [hfl]; unfold maxLen; omega, by rw [List.append_nil]; exact FG⟩
      have SX := tr_bl hbk SX
      refine hK'.out _ _ ⟨F.lg, F.b5, F.b6, F.b7⟩ (fun _ => ?_)
      clear hK' hbk FG SB
      (try simp only [Act.put]); (try simp only [List.setIfInBounds_toArray]); (try simp only [List.set_cons_succ]); (try simp only [List.set_cons_zero])
      refine wpAnyH_take (i := 16) (oi := ⟨_, _, _, _, _, _⟩) (v := ?_) rfl (by kernel_rfl) (by kernel_rfl) (by kernel_rfl) (fun _ _ _ h => h) (Or.inl ⟨by rfl, ?_⟩) (by assumption) ?_
      rotate_left
      · intro wS hSw; go_simp; (try with_reducible rfl)
      (try simp only [Act.put]); (try simp only [List.setIfInBounds_toArray]); (try simp only [List.set_cons_succ]); (try simp only [List.set_cons_zero])
      refine wpAnyH_take (i := 17) (oi := ⟨_, _, _, _, _, _⟩) (v := ?_) rfl (by kernel_rfl) (by kernel_rfl) (by kernel_rfl) (fun _ _ _ h => h) (Or.inl ⟨by rfl, ?_⟩) (by assumption) ?_
      rotate_left
      · intro wS hSw; go_simp; (try with_reducible rfl)
      (try simp only [Act.put]); (try simp only [List.setIfInBounds_toArray]); (try simp only [List.set_cons_succ]); (try simp only [List.set_cons_zero])
      refine wpAnyH_take (i := 18) (oi := ⟨_, _, _, _, _, _⟩) (v := ?_) rfl (by kernel_rfl) (by kernel_rfl) (by kernel_rfl) (fun _ _ _ h => h) (Or.inl ⟨by rfl, ?_⟩) (by assumption) ?_
      rotate_left
      · intro wS hSw; go_simp; (try with_reducible rfl)
      (try simp only [Act.put]); (try simp only [List.setIfInBounds_toArray]); (try simp only [List.set_cons_succ]); (try simp only [List.set_cons_zero])
      refine wpAnyH_ready (rs := [20]) (by kernel_rfl) (by simp) ?_
      refine AllReadyH.cons (o := ⟨_, _, _, _, _, _⟩) rfl (fun K' hK' => ?_) AllReadyH.nil
      refine (if_pos (by rfl)).mpr ?_
      refine wp_stB 75 _ _ ?_
      refine ⟨_, _, _, ⟨_, _, _, Tryz.sizeOf75, rfl, SX, sl_over _ _ _⟩, ?_⟩
      intro w20 SY g20
      have F20 := F.st1 g20 SX hsb
      have O20 := O.st g20 SX (by decide)
      refine hK'.out _ _ ⟨F20.lg, F20.b5, F20.b6, F20.b7⟩ (fun _ => ?_)
      clear hK' F O SX
      (try simp only [Act.put]); (try simp only [List.setIfInBounds_toArray]); (try simp only [List.set_cons_succ]); (try simp only [List.set_cons_zero])
      refine wpAnyH_ready (rs := [21]) (by kernel_rfl) (by simp) ?_
      refine AllReadyH.cons (o := ⟨_, _, _, _, _, _⟩) rfl (fun K' hK' => ?_) AllReadyH.nil
      refine (if_pos (by rfl)).mpr ?_
      refine wp_stB 24 _ _ ?_
      refine ⟨_, _, _, ⟨_, _, _, Tryz.sizeOf24, rfl, F20.er, er_st _ 0⟩, ?_⟩
      intro w21 E21 g21
      have F21 := F20.st2 g21 E21
      have O21 := O20.st g21 F20.er (by decide)
      have SZ := tr_st g21 SY (ne_ty2 F20.er SY (by decide))
      refine hK'.out _ _ ⟨F21.lg, F21.b5, F21.b6, F21.b7⟩ (fun _ => ?_)
      clear hK'
      refine wpAnyH_done (by kernel_rfl) ?_ _
      go_wp2
      go_meet
      rw [← hfl] at SZ
      exact ⟨_, _, rfl, SZ, O21, F21⟩
  have hlen := hfl
  obtain ⟨fr, hfr⟩ : ∃ fr, sealF ⟨s.rep, 3, pla, i, s.inc⟩ body 64 = fr := ⟨_, rfl⟩
  rw [hfr] at hlen hcut HR
  clear hfr hfl
  obtain ⟨sb, G, rfl, SX, O, F⟩ := hcut
  refine hK _ _ ?_
  clear hK
  have hb' := Nat.le_trans hb F.bl.size
  have ce := one_c F.er
  refine wp_seq_k (fun K hK => ?_)
  have HK := Lib.hid hK
  clear hK
  go_wp2
  refine HK.out _ _ ?_
  clear HK
  refine wp_seq_k (fun K hK => ?_)
  have HK := Lib.hid hK
  clear hK
  go_wp2
  refine HK.out _ _ ?_
  clear HK
  refine wp_seq_k (fun K hK => ?_)
  have HK := Lib.hid hK
  clear hK ce
  have c6 := one_c F.b6
  go_wp2_with (go_at_call 49; refine (wide_any 3 _).mono ?_; rintro e w5 ⟨rfl, hb5⟩)
  rw [show wideN 3 = 1 from rfl]
  have SX := tr_bl hb5 SX
  have O := O.below hb5
  have F := F.below hb5
  have hb' := Nat.le_trans hb' hb5.size
  clear c6 hb5
  generalize w5 = wc at *
  go_loopw [39, 13] (fun i' _ wr => ∃ j : Nat, j ≤ 1 ∧ i' = .int .i64 (j : Nat) ∧ (∃ wv', DiskB B g gp wv' (wsD d f fr j).1 wr) ∧ ErB wr (w.heap.size + 3) (wsD d f fr j).2 ∧ Kw B (w.heap.size + 3) wc wr) (fun i' _ _ => 1 - (intOf i').toNat)
  case atStart => exact ⟨0, by omega, rfl, ⟨_, F.dk⟩, F.er, Kw.refl _ _ _⟩
  case' round =>
    obtain ⟨j, hj, rfl, ⟨wv5, D5⟩, E5, hkw⟩ := hrel
  rcases (show j = 0 ∨ j = 1 by omega) with rfl | rfl
  · skip
    have hB5 := Nat.le_trans hb' hkw.bl.size
    have hbk := blw wr (Obj.cells #[.int .i64 0] 3)
    have ck := heap_alloc_new wr (Obj.cells #[.int .i64 0] 3)
    have D6 := D5.below hbk
    have E6 : ErB (wr.alloc (Obj.cells #[.int .i64 0] 3)) (w.heap.size + 3) (wsD d f fr 0).2 := tr_bl hbk E5
    have L6 : LgB (wr.alloc (Obj.cells #[.int .i64 0] 3)) q g s := tr_bl hbk (hkw.ty _ _ _ F.lg (by decide) (by decide) (by decide) (ne_ty2 F.lg F.er (by decide)))
    have X6 : WBx (wr.alloc (Obj.cells #[.int .i64 0] 3)) w.heap.size (w.heap.size + 1) (w.heap.size + 2) wr.heap.size sb q G 3 pla 0 fr.length := ⟨tr_bl hbk (hkw.ty _ _ _ F.b5 (by decide) (by decide) (by decide) (by omega)), tr_bl hbk (hkw.ty _ _ _ F.b6 (by decide) (by decide) (by decide) (by omega)), tr_bl hbk (hkw.ty _ _ _ F.b7 (by decide) (by decide) (by decide) (by omega)), ck, tr_bl hbk (hkw.ty _ _ _ SX (by decide) (by decide) (by decide) (ne_ty2 SX F.er (by decide)))⟩
    have O6 : OwnB (wr.alloc (Obj.cells #[.int .i64 0] 3)) B (some ⟨G, 0, none⟩) fr.length fr := ((O.kw hkw F.er).below hbk).mono hb
    have k6 := hkw.trans (Kw.of (eb := w.heap.size + 3) (Kt.of hbk hB5))
    have hB6 := Nat.le_trans hB5 hbk.size
    have hw6 := wsD_wt d f fr 0
    obtain ⟨st, hst⟩ : ∃ st, wsD d f fr 0 = st := ⟨_, rfl⟩
    have hnx : wsD d f fr (0 + 1) = if st.2 ≠ 0 then st else writeD st.1 (f + (0 : Nat)) (pcD fr 0) := by rw [← hst]; rfl
    rw [hst] at D6 E6 hw6
    have HNX := Lib.hid hnx
    clear hst hnx D5 E5 hkw hbk hB5 ck
    obtain ⟨d6, e6⟩ := st
    simp only at D6 E6 hw6
    by_cases h6 : e6 = 0
    case pos =>
      subst h6
      have hnx := HNX.out
      rw [if_neg (by simp)] at hnx
      have hdo := do_wr E6 (by omega) L6 D6 hB6 0 (by omega) X6 O6 (by omega) (by omega) HF.out hfb (by omega)
      obtain ⟨r9, hr9⟩ : ∃ r9, writeD d6 (f + (0 : Nat)) (pcD fr 0) = r9 := ⟨_, rfl⟩
      simp only at hnx
      rw [hr9] at hdo hnx
      have HNY := Lib.hid hnx
      clear HNX hnx hr9
      go_wp2_with (go_at_call 62; refine hdo.mono ?_; rintro e w7 ⟨rfl, D7, E7, k7⟩)
      go_roundw
      case rel => exact ⟨0 + 1, by omega, by rfl, by rw [HNY.out]; exact D7, by rw [HNY.out]; exact E7, k6.trans k7⟩
      case measure => simp [intOf]
    case neg =>
      have hnx := HNX.out
      rw [if_pos h6] at hnx
      have HNY := Lib.hid hnx
      clear HNX hnx
      go_wp2_with (go_at_call 62; refine (do_skip _ e6 h6 E6).mono ?_; rintro e w7 ⟨rfl, rfl⟩)
      go_roundw
      case rel => exact ⟨0 + 1, by omega, by rfl, by rw [HNY.out]; exact ⟨_, D6⟩, by rw [HNY.out]; exact E6, k6⟩
      case measure => simp [intOf]
  · skip
    have hB5 := Nat.le_trans hb' hkw.bl.size
    have L6 : LgB wr q g s := hkw.ty _ _ _ F.lg (by decide) (by decide) (by decide) (ne_ty2 F.lg F.er (by decide))
    have c5 := one_c (hkw.ty _ _ _ F.b5 (by decide) (by decide) (by decide) (show w.heap.size ≠ w.heap.size + 3 by omega))
    have l0 := L6.c0
    have hpd : (if (wsD d f fr 1).2 ≠ 0 then wsD d f fr 1 else flushD (wsD d f fr 1).1) = r := HR.out
    obtain ⟨st, hst⟩ : ∃ st, wsD d f fr 1 = st := ⟨_, rfl⟩
    rw [hst] at D5 E5 hpd
    clear hst HR
    obtain ⟨d6, e6⟩ := st
    simp only at D5 E5 hpd
    have hfin : ∀ w', Kw B (w.heap.size + 3) wc w' → Kt B w w' := fun w' k => k.kt F.bl hb (by omega)
    go_wp2
    refine HK.out _ _ ?_
    clear HK
    by_cases h6 : e6 = 0
    case pos =>
      subst h6
      rw [if_neg (by simp)] at hpd
      have hdo := do_fl E5 (by omega) D5 hB5
      rw [hpd] at hdo
      have HPD := Lib.hid hpd
      clear hpd
      refine wp_seq_k (fun K hK => ?_)
      have HK := Lib.hid hK
      clear hK
      go_wp2_with (go_at_call 62; refine hdo.mono ?_; rintro e w7 ⟨rfl, ⟨wv7, D7⟩, E7, k7⟩)
      refine HK.out _ _ ?_
      clear HK
      have c7 := one_c E7
      have E7' : w7.heap[w.heap.size + 3]? = some (.cells #[.int .i64 r.2] 24 (0, 0)) := E7
      go_wp2_with ((with_reducible refine wpList_stB 24 _ _ ?_); refine ⟨_, _, _, ⟨_, _, _, Tryz.sizeOf24, rfl, E7', er_st _ r.2⟩, ?_⟩; intro w8 E8 g8)
      refine bodyPost_ret (results_c1 rfl rfl (by have c8 := one_c E8; go_simp; (try rfl))) rfl ⟨rfl, ⟨_, D7.oe g8 E7 (by decide) (by decide) (by decide)⟩, hfin _ ((hkw.trans k7).trans (Kw.st g8 (by omega) (Nat.le_trans hB5 k7.bl.size)))⟩
    case neg =>
      rw [if_pos h6] at hpd
      subst hpd
      refine wp_seq_k (fun K hK => ?_)
      have HK := Lib.hid hK
      clear hK
      go_wp2_with (go_at_call 62; refine (do_skip _ e6 h6 E5).mono ?_; rintro e w7 ⟨rfl, rfl⟩)
      refine HK.out _ _ ?_
      clear HK
      have c7 := one_c E5
      have E7' : wr.heap[w.heap.size + 3]? = some (.cells #[.int .i64 e6] 24 (0, 0)) := E5
      go_wp2_with ((with_reducible refine wpList_stB 24 _ _ ?_); refine ⟨_, _, _, ⟨_, _, _, Tryz.sizeOf24, rfl, E7', er_st _ e6⟩, ?_⟩; intro w8 E8 g8)
      refine bodyPost_ret (results_c1 rfl rfl (by have c8 := one_c E8; go_simp; (try rfl))) rfl ⟨rfl, ⟨_, D5.oe g8 E5 (by decide) (by decide) (by decide)⟩, hfin _ (hkw.trans (Kw.st g8 (by omega) hB5))⟩
set_option maxRecDepth 100000 in
set_option maxHeartbeats 1000000 in
theorem lwrite2_any {f : Int} (h : LgB w q g s) (hd : DiskB B g gp wv d w) (hb : B ≤ w.heap.size) (hf : firstN 4 pla = f) (hfb : 0 ≤ f ∧ f < 200) (hw : d.waits.length ≤ 1000) (i : Int) (a : Option Addr) (cap : Nat) (body : List UInt8) (hs : SlB w a cap body) (hmay : mayTg ⟨s.rep, 4, pla, i, s.inc⟩ = true) (hbl : body.length ≤ 88) :
    Calls Tryz.prog 33 #[.pointer (some ⟨q, 0, none⟩),   .int .i64 4, .int .i64 pla, .int .i64 i, .slice a body.length cap] w fun e w' => e = .returned (.int .i64 (lputD d f (sealF ⟨s.rep, 4, pla, i, s.inc⟩ body 128) 2).2) ∧ (∃ wv', DiskB B g gp wv' (lputD d f (sealF ⟨s.rep, 4, pla, i, s.inc⟩ body 128) 2).1 w') ∧ Kt B w w' := by
  obtain ⟨r, hr⟩ : ∃ r, lputD d f (sealF ⟨s.rep, 4, pla, i, s.inc⟩ body 128) 2 = r := ⟨_, rfl⟩
  rw [hr]
  have HR := Lib.hid hr
  have HF := Lib.hid hf
  clear hr hf
  have hfl : (sealF ⟨s.rep, 4, pla, i, s.inc⟩ body 128).length = 128 := sealF_len (by decide) (by simpa [roomN] using hbl)
  go_enter Tryz.func33, Tryz.ntmps33
  refine wp_seq_k (fun K hK => ?_)
  have HK := Lib.hid hK
  clear hK
  go_wp2
  refine HK.out _ _ ?_
  clear HK
  have hb1 := blw w (Obj.cells #[.pointer (some ⟨q, 0, none⟩)] 27)
  have hb2 := hb1.trans ((blw (w.alloc (Obj.cells #[.pointer (some ⟨q, 0, none⟩)] 27)) (Obj.cells #[.int .i64 4] 3)).mono hb1.size)
  have hb3 := hb2.trans ((blw ((w.alloc (Obj.cells #[.pointer (some ⟨q, 0, none⟩)] 27)).alloc (Obj.cells #[.int .i64 4] 3)) (Obj.cells #[.int .i64 pla] 3)).mono hb2.size)
  have hb4 := hb3.trans ((blw (((w.alloc (Obj.cells #[.pointer (some ⟨q, 0, none⟩)] 27)).alloc (Obj.cells #[.int .i64 4] 3)).alloc (Obj.cells #[.int .i64 pla] 3)) (Obj.cells #[.int .i64 0] 24)).mono hb3.size)
  have e1 : (w.alloc (Obj.cells #[.pointer (some ⟨q, 0, none⟩)] 27)).heap.size = w.heap.size + 1 := by simp
  have e2 : ((w.alloc (Obj.cells #[.pointer (some ⟨q, 0, none⟩)] 27)).alloc (Obj.cells #[.int .i64 4] 3)).heap.size = w.heap.size + 2 := by simp
  have e3 : (((w.alloc (Obj.cells #[.pointer (some ⟨q, 0, none⟩)] 27)).alloc (Obj.cells #[.int .i64 4] 3)).alloc (Obj.cells #[.int .i64 pla] 3)).heap.size = w.heap.size + 3 := by simp
  have F1 : WF B g gp q w.heap.size wv d s 4 pla w ((((w.alloc (Obj.cells #[.pointer (some ⟨q, 0, none⟩)] 27)).alloc (Obj.cells #[.int .i64 4] 3)).alloc (Obj.cells #[.int .i64 pla] 3)).alloc (Obj.cells #[.int .i64 0] 24)) :=
    ⟨h.below hb4, tr_al (Obj.cells #[.int .i64 0] 24) (tr_al (Obj.cells #[.int .i64 pla] 3) (tr_al (Obj.cells #[.int .i64 4] 3) (heap_alloc_new w (Obj.cells #[.pointer (some ⟨q, 0, none⟩)] 27)))), tr_al (Obj.cells #[.int .i64 0] 24) (tr_al (Obj.cells #[.int .i64 pla] 3) (e1 ▸ heap_alloc_new (w.alloc (Obj.cells #[.pointer (some ⟨q, 0, none⟩)] 27)) (Obj.cells #[.int .i64 4] 3))), tr_al (Obj.cells #[.int .i64 0] 24) (e2 ▸ heap_alloc_new ((w.alloc (Obj.cells #[.pointer (some ⟨q, 0, none⟩)] 27)).alloc (Obj.cells #[.int .i64 4] 3)) (Obj.cells #[.int .i64 pla] 3)), e3 ▸ heap_alloc_new (((w.alloc (Obj.cells #[.pointer (some ⟨q, 0, none⟩)] 27)).alloc (Obj.cells #[.int .i64 4] 3)).alloc (Obj.cells #[.int .i64 pla] 3)) (Obj.cells #[.int .i64 0] 24), hd.below hb4, hb4⟩
  have SB1 := hs.below hb4
  clear hb1 hb2 hb3 hb4 e1 e2 e3
  generalize (((w.alloc (Obj.cells #[.pointer (some ⟨q, 0, none⟩)] 27)).alloc (Obj.cells #[.int .i64 4] 3)).alloc (Obj.cells #[.int .i64 pla] 3)).alloc (Obj.cells #[.int .i64 0] 24) = w1 at *
  refine wp_seq_k (fun K hK => ?_)
  go_cut [11] (fun v wx => Mid B g gp q w.heap.size wv d s 4 pla w (sealF ⟨s.rep, 4, pla, i, s.inc⟩ body 128) v wx)
  case first =>
    have hbd := (Below.refl w1.heap.size w1).drew
    have F := F1.below hbd
    have SB := SB1.below hbd
    clear F1 SB1 hbd
    refine wp_region_held_drew (S := fun w' => LgB w' q g s ∧ w'.heap[w.heap.size]? = some (.cells #[.pointer (some ⟨q, 0, none⟩)] 27 (0, 0)) ∧ w'.heap[w.heap.size + 1]? = some (.cells #[.int .i64 4] 3 (0, 0)) ∧ w'.heap[w.heap.size + 2]? = some (.cells #[.int .i64 pla] 3 (0, 0))) (by kernel_rfl) ⟨F.lg, F.b5, F.b6, F.b7⟩ (fun hS0 => ?_)
    generalize w1.drew = x0 at *
    refine wpAnyH_take (i := 0) (oi := ⟨_, _, _, _, _, _⟩) (v := ?_) rfl (by kernel_rfl) (by kernel_rfl) (by kernel_rfl) (fun _ _ _ h => h) (Or.inl ⟨by rfl, ?_⟩) (by assumption) ?_
    rotate_left
    · intro wS hSw
      have c := one_c hSw.2.1; go_simp; (try with_reducible rfl)
    (try simp only [Act.put]); (try simp only [List.setIfInBounds_toArray]); (try simp only [List.set_cons_succ]); (try simp only [List.set_cons_zero])
    refine wpAnyH_take (i := 1) (oi := ⟨_, _, _, _, _, _⟩) (v := ?_) rfl (by kernel_rfl) (by kernel_rfl) (by kernel_rfl) (fun _ _ _ h => h) (Or.inl ⟨by rfl, ?_⟩) (by assumption) ?_
    rotate_left
    · intro wS hSw; go_simp; (try with_reducible rfl)
    (try simp only [Act.put]); (try simp only [List.setIfInBounds_toArray]); (try simp only [List.set_cons_succ]); (try simp only [List.set_cons_zero])
    refine wpAnyH_take (i := 2) (oi := ⟨_, _, _, _, _, _⟩) (v := ?_) rfl (by kernel_rfl) (by kernel_rfl) (by kernel_rfl) (fun _ _ _ h => h) (Or.inl ⟨by rfl, ?_⟩) (by assumption) ?_
    rotate_left
    · intro wS hSw; go_simp; (try with_reducible rfl)
    (try simp only [Act.put]); (try simp only [List.setIfInBounds_toArray]); (try simp only [List.set_cons_succ]); (try simp only [List.set_cons_zero])
    refine wpAnyH_take (i := 3) (oi := ⟨_, _, _, _, _, _⟩) (v := ?_) rfl (by kernel_rfl) (by kernel_rfl) (by kernel_rfl) (fun _ _ _ h => h) (Or.inl ⟨by rfl, ?_⟩) (by assumption) ?_
    rotate_left
    · intro wS hSw
      have c := hSw.1.c1; go_simp; (try with_reducible rfl)
    (try simp only [Act.put]); (try simp only [List.setIfInBounds_toArray]); (try simp only [List.set_cons_succ]); (try simp only [List.set_cons_zero])
    refine wpAnyH_take (i := 4) (oi := ⟨_, _, _, _, _, _⟩) (v := ?_) rfl (by kernel_rfl) (by kernel_rfl) (by kernel_rfl) (fun _ _ _ h => h) (Or.inl ⟨by rfl, ?_⟩) (by assumption) ?_
    rotate_left
    · intro wS hSw
      have c := one_c hSw.2.2.1; go_simp; (try with_reducible rfl)
    (try simp only [Act.put]); (try simp only [List.setIfInBounds_toArray]); (try simp only [List.set_cons_succ]); (try simp only [List.set_cons_zero])
    refine wpAnyH_take (i := 5) (oi := ⟨_, _, _, _, _, _⟩) (v := ?_) rfl (by kernel_rfl) (by kernel_rfl) (by kernel_rfl) (fun _ _ _ h => h) (Or.inl ⟨by rfl, ?_⟩) (by assumption) ?_
    rotate_left
    · intro wS hSw
      have c := one_c hSw.2.2.2; go_simp; (try with_reducible rfl)
    (try simp only [Act.put]); (try simp only [List.setIfInBounds_toArray]); (try simp only [List.set_cons_succ]); (try simp only [List.set_cons_zero])
    refine wpAnyH_take (i := 6) (oi := ⟨_, _, _, _, _, _⟩) (v := ?_) rfl (by kernel_rfl) (by kernel_rfl) (by kernel_rfl) (fun _ _ _ h => h) (Or.inl ⟨by rfl, ?_⟩) (by assumption) ?_
    rotate_left
    · intro wS hSw; go_simp; (try with_reducible rfl)
    (try simp only [Act.put]); (try simp only [List.setIfInBounds_toArray]); (try simp only [List.set_cons_succ]); (try simp only [List.set_cons_zero])
    refine wpAnyH_take (i := 7) (oi := ⟨_, _, _, _, _, _⟩) (v := ?_) rfl (by kernel_rfl) (by kernel_rfl) (by kernel_rfl) (fun _ _ _ h => h) (Or.inl ⟨by rfl, ?_⟩) (by assumption) ?_
    rotate_left
    · intro wS hSw
      have c := one_c hSw.2.1; go_simp; (try with_reducible rfl)
    (try simp only [Act.put]); (try simp only [List.setIfInBounds_toArray]); (try simp only [List.set_cons_succ]); (try simp only [List.set_cons_zero])
    refine wpAnyH_take (i := 8) (oi := ⟨_, _, _, _, _, _⟩) (v := ?_) rfl (by kernel_rfl) (by kernel_rfl) (by kernel_rfl) (fun _ _ _ h => h) (Or.inl ⟨by rfl, ?_⟩) (by assumption) ?_
    rotate_left
    · intro wS hSw; go_simp; (try with_reducible rfl)
    (try simp only [Act.put]); (try simp only [List.setIfInBounds_toArray]); (try simp only [List.set_cons_succ]); (try simp only [List.set_cons_zero])
    refine wpAnyH_take (i := 9) (oi := ⟨_, _, _, _, _, _⟩) (v := ?_) rfl (by kernel_rfl) (by kernel_rfl) (by kernel_rfl) (fun _ _ _ h => h) (Or.inl ⟨by rfl, ?_⟩) (by assumption) ?_
    rotate_left
    · intro wS hSw; go_simp; (try with_reducible rfl)
    (try simp only [Act.put]); (try simp only [List.setIfInBounds_toArray]); (try simp only [List.set_cons_succ]); (try simp only [List.set_cons_zero])
    refine wpAnyH_take (i := 10) (oi := ⟨_, _, _, _, _, _⟩) (v := ?_) rfl (by kernel_rfl) (by kernel_rfl) (by kernel_rfl) (fun _ _ _ h => h) (Or.inl ⟨by rfl, ?_⟩) (by assumption) ?_
    rotate_left
    · intro wS hSw
      have c := hSw.1.c2; go_simp; (try with_reducible rfl)
    (try simp only [Act.put]); (try simp only [List.setIfInBounds_toArray]); (try simp only [List.set_cons_succ]); (try simp only [List.set_cons_zero])
    refine wpAnyH_take (i := 11) (oi := ⟨_, _, _, _, _, _⟩) (v := tgV ⟨s.rep, 4, pla, i, s.inc⟩) rfl (by kernel_rfl) (by kernel_rfl) (by kernel_rfl) (fun _ _ _ h => h) (Or.inl ⟨by rfl, fun wS hSw => ?_⟩) (by assumption) ?_
    · kernel_rfl
    (try simp only [Act.put]); (try simp only [List.setIfInBounds_toArray]); (try simp only [List.set_cons_succ]); (try simp only [List.set_cons_zero])
    refine wpAnyH_take (i := 12) (oi := ⟨_, _, _, _, _, _⟩) (v := ?_) rfl (by kernel_rfl) (by kernel_rfl) (by kernel_rfl) (fun _ _ _ h => h) (Or.inl ⟨by rfl, ?_⟩) (by assumption) ?_
    rotate_left
    · intro wS hSw; go_simp; (try with_reducible rfl)
    (try simp only [Act.put]); (try simp only [List.setIfInBounds_toArray]); (try simp only [List.set_cons_succ]); (try simp only [List.set_cons_zero])
    refine wpAnyH_take (i := 13) (oi := ⟨_, _, _, _, _, _⟩) (v := ?_) rfl (by kernel_rfl) (by kernel_rfl) (by kernel_rfl) (fun _ _ _ h => h) (Or.inl ⟨by rfl, ?_⟩) (by assumption) ?_
    rotate_left
    · intro wS hSw
      have c := one_c hSw.2.2.1; go_simp; (try with_reducible rfl)
    (try simp only [Act.put]); (try simp only [List.setIfInBounds_toArray]); (try simp only [List.set_cons_succ]); (try simp only [List.set_cons_zero])
    refine wpAnyH_ready (rs := [14, 19]) (by kernel_rfl) (by simp) ?_
    refine AllReadyH.cons (o := ⟨_, _, _, _, _, _⟩) rfl (fun K' hK' => ?_) (AllReadyH.cons (o := ⟨_, _, _, _, _, _⟩) rfl (fun K' hK' => ?_) AllReadyH.nil)
    · refine (if_pos (by rfl)).mpr ?_
      go_simp
      refine (wide_any 4 _).mono ?_
      rintro e x2 ⟨rfl, hbk⟩
      rw [show wideN 4 = 2 from rfl]
      have F := F.below hbk
      have SB := SB.below hbk
      skip
      refine hK'.out _ _ ⟨F.lg, F.b5, F.b6, F.b7⟩ (fun _ => ?_)
      clear hK' hbk
      (try simp only [Act.put]); (try simp only [List.setIfInBounds_toArray]); (try simp only [List.set_cons_succ]); (try simp only [List.set_cons_zero])
      refine wpAnyH_ready (rs := [15, 19]) (by kernel_rfl) (by simp) ?_
      refine AllReadyH.cons (o := ⟨_, _, _, _, _, _⟩) rfl (fun K' hK' => ?_) (AllReadyH.cons (o := ⟨_, _, _, _, _, _⟩) rfl (fun K' hK' => ?_) AllReadyH.nil)
      · refine (if_pos (by rfl)).mpr ?_
        go_simp
        refine (seal2 ⟨s.rep, 4, pla, i, s.inc⟩ a cap body _ SB hmay hbl).mono ?_
        rintro e x3 ⟨⟨G, rfl, hG, FG⟩, hbk⟩
        have hnG := Nat.le_trans (Nat.le_of_lt (lt_blk F.b5)) hG
        have F := F.below hbk
        have O : OwnB _ w.heap.size (some ⟨G, 0, none⟩) (sealF ⟨s.rep, 4, pla, i, s.inc⟩ body 128).length (sealF ⟨s.rep, 4, pla, i, s.inc⟩ body 128) := .inr ⟨G, [], rfl, hnG, Nat.le_refl _, by rw [hfl]; unfold maxLen; omega, by rw [List.append_nil]; exact FG⟩
        skip
        refine hK'.out _ _ ⟨F.lg, F.b5, F.b6, F.b7⟩ (fun _ => ?_)
        clear hK' hbk FG SB
        (try simp only [Act.put]); (try simp only [List.setIfInBounds_toArray]); (try simp only [List.set_cons_succ]); (try simp only [List.set_cons_zero])
        refine wpAnyH_take (i := 16) (oi := ⟨_, _, _, _, _, _⟩) (v := ?_) rfl (by kernel_rfl) (by kernel_rfl) (by kernel_rfl) (fun _ _ _ h => h) (Or.inl ⟨by rfl, ?_⟩) (by assumption) ?_
        rotate_left
        · intro wS hSw; go_simp; (try with_reducible rfl)
        (try simp only [Act.put]); (try simp only [List.setIfInBounds_toArray]); (try simp only [List.set_cons_succ]); (try simp only [List.set_cons_zero])
        refine wpAnyH_take (i := 17) (oi := ⟨_, _, _, _, _, _⟩) (v := ?_) rfl (by kernel_rfl) (by kernel_rfl) (by kernel_rfl) (fun _ _ _ h => h) (Or.inl ⟨by rfl, ?_⟩) (by assumption) ?_
        rotate_left
        · intro wS hSw; go_simp; (try with_reducible rfl)
        (try simp only [Act.put]); (try simp only [List.setIfInBounds_toArray]); (try simp only [List.set_cons_succ]); (try simp only [List.set_cons_zero])
        refine wpAnyH_take (i := 18) (oi := ⟨_, _, _, _, _, _⟩) (v := ?_) rfl (by kernel_rfl) (by kernel_rfl) (by kernel_rfl) (fun _ _ _ h => h) (Or.inl ⟨by rfl, ?_⟩) (by assumption) ?_
        rotate_left
        · intro wS hSw; go_simp; (try with_reducible rfl)
        (try simp only [Act.put]); (try simp only [List.setIfInBounds_toArray]); (try simp only [List.set_cons_succ]); (try simp only [List.set_cons_zero])
        refine wpAnyH_ready (rs := [19]) (by kernel_rfl) (by simp) ?_
        refine AllReadyH.cons (o := ⟨_, _, _, _, _, _⟩) rfl (fun K' hK' => ?_) AllReadyH.nil
        refine (if_pos (by rfl)).mpr ?_
        go_simp
        change K' _ (World.alloc _ (Obj.cells #[.slice none 0 0] 75))
        have hbk := blw x3 (Obj.cells #[.slice none 0 0] 75)
        have SX := heap_alloc_new x3 (Obj.cells #[.slice none 0 0] 75)
        have hsb := Nat.le_of_lt (lt_blk F.b5)
        have F := F.below hbk
        have O := O.below hbk
        refine hK'.out _ _ ⟨F.lg, F.b5, F.b6, F.b7⟩ (fun _ => ?_)
        clear hK' hbk
        generalize x3.alloc (Obj.cells #[.slice none 0 0] 75) = x4 at *
        generalize x3.heap.size = sb at *
        (try simp only [Act.put]); (try simp only [List.setIfInBounds_toArray]); (try simp only [List.set_cons_succ]); (try simp only [List.set_cons_zero])
        refine wpAnyH_ready (rs := [20]) (by kernel_rfl) (by simp) ?_
        refine AllReadyH.cons (o := ⟨_, _, _, _, _, _⟩) rfl (fun K' hK' => ?_) AllReadyH.nil
        refine (if_pos (by rfl)).mpr ?_
        refine wp_stB 75 _ _ ?_
        refine ⟨_, _, _, ⟨_, _, _, Tryz.sizeOf75, rfl, SX, sl_over _ _ _⟩, ?_⟩
        intro w20 SY g20
        have F20 := F.st1 g20 SX hsb
        have O20 := O.st g20 SX (by decide)
        refine hK'.out _ _ ⟨F20.lg, F20.b5, F20.b6, F20.b7⟩ (fun _ => ?_)
        clear hK' F O SX
        (try simp only [Act.put]); (try simp only [List.setIfInBounds_toArray]); (try simp only [List.set_cons_succ]); (try simp only [List.set_cons_zero])
        refine wpAnyH_ready (rs := [21]) (by kernel_rfl) (by simp) ?_
        refine AllReadyH.cons (o := ⟨_, _, _, _, _, _⟩) rfl (fun K' hK' => ?_) AllReadyH.nil
        refine (if_pos (by rfl)).mpr ?_
        refine wp_stB 24 _ _ ?_
        refine ⟨_, _, _, ⟨_, _, _, Tryz.sizeOf24, rfl, F20.er, er_st _ 0⟩, ?_⟩
        intro w21 E21 g21
        have F21 := F20.st2 g21 E21
        have O21 := O20.st g21 F20.er (by decide)
        have SZ := tr_st g21 SY (ne_ty2 F20.er SY (by decide))
        refine hK'.out _ _ ⟨F21.lg, F21.b5, F21.b6, F21.b7⟩ (fun _ => ?_)
        clear hK'
        refine wpAnyH_done (by kernel_rfl) ?_ _
        go_wp2
        go_meet
        rw [← hfl] at SZ
        exact ⟨_, _, rfl, SZ, O21, F21⟩
      · refine (if_pos (by rfl)).mpr ?_
        go_simp
        change K' _ (World.alloc _ (Obj.cells #[.slice none 0 0] 75))
        have hbk := blw x2 (Obj.cells #[.slice none 0 0] 75)
        have SX := heap_alloc_new x2 (Obj.cells #[.slice none 0 0] 75)
        have hsb := Nat.le_of_lt (lt_blk F.b5)
        have F := F.below hbk
        have SB := SB.below hbk
        refine hK'.out _ _ ⟨F.lg, F.b5, F.b6, F.b7⟩ (fun _ => ?_)
        clear hK' hbk
        generalize x2.alloc (Obj.cells #[.slice none 0 0] 75) = x3 at *
        generalize x2.heap.size = sb at *
        (try simp only [Act.put]); (try simp only [List.setIfInBounds_toArray]); (try simp only [List.set_cons_succ]); (try simp only [List.set_cons_zero])
        refine wpAnyH_ready (rs := [15]) (by kernel_rfl) (by simp) ?_
        refine AllReadyH.cons (o := ⟨_, _, _, _, _, _⟩) rfl (fun K' hK' => ?_) AllReadyH.nil
        refine (if_pos (by rfl)).mpr ?_
        go_simp
        refine (seal2 ⟨s.rep, 4, pla, i, s.inc⟩ a cap body _ SB hmay hbl).mono ?_
        rintro e x4 ⟨⟨G, rfl, hG, FG⟩, hbk⟩
        have hnG := Nat.le_trans (Nat.le_of_lt (lt_blk F.b5)) hG
        have F := F.below hbk
        have O : OwnB _ w.heap.size (some ⟨G, 0, none⟩) (sealF ⟨s.rep, 4, pla, i, s.inc⟩ body 128).length (sealF ⟨s.rep, 4, pla, i, s.inc⟩ body 128) := .inr ⟨G, [], rfl, hnG, Nat.le_refl _, by rw [hfl]; unfold maxLen; omega, by rw [List.append_nil]; exact FG⟩
        have SX := tr_bl hbk SX
        refine hK'.out _ _ ⟨F.lg, F.b5, F.b6, F.b7⟩ (fun _ => ?_)
        clear hK' hbk FG SB
        (try simp only [Act.put]); (try simp only [List.setIfInBounds_toArray]); (try simp only [List.set_cons_succ]); (try simp only [List.set_cons_zero])
        refine wpAnyH_take (i := 16) (oi := ⟨_, _, _, _, _, _⟩) (v := ?_) rfl (by kernel_rfl) (by kernel_rfl) (by kernel_rfl) (fun _ _ _ h => h) (Or.inl ⟨by rfl, ?_⟩) (by assumption) ?_
        rotate_left
        · intro wS hSw; go_simp; (try with_reducible rfl)
        (try simp only [Act.put]); (try simp only [List.setIfInBounds_toArray]); (try simp only [List.set_cons_succ]); (try simp only [List.set_cons_zero])
        refine wpAnyH_take (i := 17) (oi := ⟨_, _, _, _, _, _⟩) (v := ?_) rfl (by kernel_rfl) (by kernel_rfl) (by kernel_rfl) (fun _ _ _ h => h) (Or.inl ⟨by rfl, ?_⟩) (by assumption) ?_
        rotate_left
        · intro wS hSw; go_simp; (try with_reducible rfl)
        (try simp only [Act.put]); (try simp only [List.setIfInBounds_toArray]); (try simp only [List.set_cons_succ]); (try simp only [List.set_cons_zero])
        refine wpAnyH_take (i := 18) (oi := ⟨_, _, _, _, _, _⟩) (v := ?_) rfl (by kernel_rfl) (by kernel_rfl) (by kernel_rfl) (fun _ _ _ h => h) (Or.inl ⟨by rfl, ?_⟩) (by assumption) ?_
        rotate_left
        · intro wS hSw; go_simp; (try with_reducible rfl)
        (try simp only [Act.put]); (try simp only [List.setIfInBounds_toArray]); (try simp only [List.set_cons_succ]); (try simp only [List.set_cons_zero])
        refine wpAnyH_ready (rs := [20]) (by kernel_rfl) (by simp) ?_
        refine AllReadyH.cons (o := ⟨_, _, _, _, _, _⟩) rfl (fun K' hK' => ?_) AllReadyH.nil
        refine (if_pos (by rfl)).mpr ?_
        refine wp_stB 75 _ _ ?_
        refine ⟨_, _, _, ⟨_, _, _, Tryz.sizeOf75, rfl, SX, sl_over _ _ _⟩, ?_⟩
        intro w20 SY g20
        have F20 := F.st1 g20 SX hsb
        have O20 := O.st g20 SX (by decide)
        refine hK'.out _ _ ⟨F20.lg, F20.b5, F20.b6, F20.b7⟩ (fun _ => ?_)
        clear hK' F O SX
        (try simp only [Act.put]); (try simp only [List.setIfInBounds_toArray]); (try simp only [List.set_cons_succ]); (try simp only [List.set_cons_zero])
        refine wpAnyH_ready (rs := [21]) (by kernel_rfl) (by simp) ?_
        refine AllReadyH.cons (o := ⟨_, _, _, _, _, _⟩) rfl (fun K' hK' => ?_) AllReadyH.nil
        refine (if_pos (by rfl)).mpr ?_
        refine wp_stB 24 _ _ ?_
        refine ⟨_, _, _, ⟨_, _, _, Tryz.sizeOf24, rfl, F20.er, er_st _ 0⟩, ?_⟩
        intro w21 E21 g21
        have F21 := F20.st2 g21 E21
        have O21 := O20.st g21 F20.er (by decide)
        have SZ := tr_st g21 SY (ne_ty2 F20.er SY (by decide))
        refine hK'.out _ _ ⟨F21.lg, F21.b5, F21.b6, F21.b7⟩ (fun _ => ?_)
        clear hK'
        refine wpAnyH_done (by kernel_rfl) ?_ _
        go_wp2
        go_meet
        rw [← hfl] at SZ
        exact ⟨_, _, rfl, SZ, O21, F21⟩
    · refine (if_pos (by rfl)).mpr ?_
      go_simp
      change K' _ (World.alloc _ (Obj.cells #[.slice none 0 0] 75))
      have hbk := blw x0 (Obj.cells #[.slice none 0 0] 75)
      have SX := heap_alloc_new x0 (Obj.cells #[.slice none 0 0] 75)
      have hsb := Nat.le_of_lt (lt_blk F.b5)
      have F := F.below hbk
      have SB := SB.below hbk
      refine hK'.out _ _ ⟨F.lg, F.b5, F.b6, F.b7⟩ (fun _ => ?_)
      clear hK' hbk
      generalize x0.alloc (Obj.cells #[.slice none 0 0] 75) = x2 at *
      generalize x0.heap.size = sb at *
      (try simp only [Act.put]); (try simp only [List.setIfInBounds_toArray]); (try simp only [List.set_cons_succ]); (try simp only [List.set_cons_zero])
      refine wpAnyH_ready (rs := [14]) (by kernel_rfl) (by simp) ?_
      refine AllReadyH.cons (o := ⟨_, _, _, _, _, _⟩) rfl (fun K' hK' => ?_) AllReadyH.nil
      refine (if_pos (by rfl)).mpr ?_
      go_simp
      refine (wide_any 4 _).mono ?_
      rintro e x3 ⟨rfl, hbk⟩
      rw [show wideN 4 = 2 from rfl]
      have F := F.below hbk
      have SB := SB.below hbk
      have SX := tr_bl hbk SX
      refine hK'.out _ _ ⟨F.lg, F.b5, F.b6, F.b7⟩ (fun _ => ?_)
      clear hK' hbk
      (try simp only [Act.put]); (try simp only [List.setIfInBounds_toArray]); (try simp only [List.set_cons_succ]); (try simp only [List.set_cons_zero])
      refine wpAnyH_ready (rs := [15]) (by kernel_rfl) (by simp) ?_
      refine AllReadyH.cons (o := ⟨_, _, _, _, _, _⟩) rfl (fun K' hK' => ?_) AllReadyH.nil
      refine (if_pos (by rfl)).mpr ?_
      go_simp
      refine (seal2 ⟨s.rep, 4, pla, i, s.inc⟩ a cap body _ SB hmay hbl).mono ?_
      rintro e x4 ⟨⟨G, rfl, hG, FG⟩, hbk⟩
      have hnG := Nat.le_trans (Nat.le_of_lt (lt_blk F.b5)) hG
      have F := F.below hbk
      have O : OwnB _ w.heap.size (some ⟨G, 0, none⟩) (sealF ⟨s.rep, 4, pla, i, s.inc⟩ body 128).length (sealF ⟨s.rep, 4, pla, i, s.inc⟩ body 128) := .inr ⟨G, [], rfl, hnG, Nat.le_refl _, by rw [hfl]; unfold maxLen; omega, by rw [List.append_nil]; exact FG⟩
      have SX := tr_bl hbk SX
      refine hK'.out _ _ ⟨F.lg, F.b5, F.b6, F.b7⟩ (fun _ => ?_)
      clear hK' hbk FG SB
      (try simp only [Act.put]); (try simp only [List.setIfInBounds_toArray]); (try simp only [List.set_cons_succ]); (try simp only [List.set_cons_zero])
      refine wpAnyH_take (i := 16) (oi := ⟨_, _, _, _, _, _⟩) (v := ?_) rfl (by kernel_rfl) (by kernel_rfl) (by kernel_rfl) (fun _ _ _ h => h) (Or.inl ⟨by rfl, ?_⟩) (by assumption) ?_
      rotate_left
      · intro wS hSw; go_simp; (try with_reducible rfl)
      (try simp only [Act.put]); (try simp only [List.setIfInBounds_toArray]); (try simp only [List.set_cons_succ]); (try simp only [List.set_cons_zero])
      refine wpAnyH_take (i := 17) (oi := ⟨_, _, _, _, _, _⟩) (v := ?_) rfl (by kernel_rfl) (by kernel_rfl) (by kernel_rfl) (fun _ _ _ h => h) (Or.inl ⟨by rfl, ?_⟩) (by assumption) ?_
      rotate_left
      · intro wS hSw; go_simp; (try with_reducible rfl)
      (try simp only [Act.put]); (try simp only [List.setIfInBounds_toArray]); (try simp only [List.set_cons_succ]); (try simp only [List.set_cons_zero])
      refine wpAnyH_take (i := 18) (oi := ⟨_, _, _, _, _, _⟩) (v := ?_) rfl (by kernel_rfl) (by kernel_rfl) (by kernel_rfl) (fun _ _ _ h => h) (Or.inl ⟨by rfl, ?_⟩) (by assumption) ?_
      rotate_left
      · intro wS hSw; go_simp; (try with_reducible rfl)
      (try simp only [Act.put]); (try simp only [List.setIfInBounds_toArray]); (try simp only [List.set_cons_succ]); (try simp only [List.set_cons_zero])
      refine wpAnyH_ready (rs := [20]) (by kernel_rfl) (by simp) ?_
      refine AllReadyH.cons (o := ⟨_, _, _, _, _, _⟩) rfl (fun K' hK' => ?_) AllReadyH.nil
      refine (if_pos (by rfl)).mpr ?_
      refine wp_stB 75 _ _ ?_
      refine ⟨_, _, _, ⟨_, _, _, Tryz.sizeOf75, rfl, SX, sl_over _ _ _⟩, ?_⟩
      intro w20 SY g20
      have F20 := F.st1 g20 SX hsb
      have O20 := O.st g20 SX (by decide)
      refine hK'.out _ _ ⟨F20.lg, F20.b5, F20.b6, F20.b7⟩ (fun _ => ?_)
      clear hK' F O SX
      (try simp only [Act.put]); (try simp only [List.setIfInBounds_toArray]); (try simp only [List.set_cons_succ]); (try simp only [List.set_cons_zero])
      refine wpAnyH_ready (rs := [21]) (by kernel_rfl) (by simp) ?_
      refine AllReadyH.cons (o := ⟨_, _, _, _, _, _⟩) rfl (fun K' hK' => ?_) AllReadyH.nil
      refine (if_pos (by rfl)).mpr ?_
      refine wp_stB 24 _ _ ?_
      refine ⟨_, _, _, ⟨_, _, _, Tryz.sizeOf24, rfl, F20.er, er_st _ 0⟩, ?_⟩
      intro w21 E21 g21
      have F21 := F20.st2 g21 E21
      have O21 := O20.st g21 F20.er (by decide)
      have SZ := tr_st g21 SY (ne_ty2 F20.er SY (by decide))
      refine hK'.out _ _ ⟨F21.lg, F21.b5, F21.b6, F21.b7⟩ (fun _ => ?_)
      clear hK'
      refine wpAnyH_done (by kernel_rfl) ?_ _
      go_wp2
      go_meet
      rw [← hfl] at SZ
      exact ⟨_, _, rfl, SZ, O21, F21⟩
  have hlen := hfl
  obtain ⟨fr, hfr⟩ : ∃ fr, sealF ⟨s.rep, 4, pla, i, s.inc⟩ body 128 = fr := ⟨_, rfl⟩
  rw [hfr] at hlen hcut HR
  clear hfr hfl
  obtain ⟨sb, G, rfl, SX, O, F⟩ := hcut
  refine hK _ _ ?_
  clear hK
  have hb' := Nat.le_trans hb F.bl.size
  have ce := one_c F.er
  refine wp_seq_k (fun K hK => ?_)
  have HK := Lib.hid hK
  clear hK
  go_wp2
  refine HK.out _ _ ?_
  clear HK
  refine wp_seq_k (fun K hK => ?_)
  have HK := Lib.hid hK
  clear hK
  go_wp2
  refine HK.out _ _ ?_
  clear HK
  refine wp_seq_k (fun K hK => ?_)
  have HK := Lib.hid hK
  clear hK ce
  have c6 := one_c F.b6
  go_wp2_with (go_at_call 49; refine (wide_any 4 _).mono ?_; rintro e w5 ⟨rfl, hb5⟩)
  rw [show wideN 4 = 2 from rfl]
  have SX := tr_bl hb5 SX
  have O := O.below hb5
  have F := F.below hb5
  have hb' := Nat.le_trans hb' hb5.size
  clear c6 hb5
  generalize w5 = wc at *
  go_loopw [39, 13] (fun i' _ wr => ∃ j : Nat, j ≤ 2 ∧ i' = .int .i64 (j : Nat) ∧ (∃ wv', DiskB B g gp wv' (wsD d f fr j).1 wr) ∧ ErB wr (w.heap.size + 3) (wsD d f fr j).2 ∧ Kw B (w.heap.size + 3) wc wr) (fun i' _ _ => 2 - (intOf i').toNat)
  case atStart => exact ⟨0, by omega, rfl, ⟨_, F.dk⟩, F.er, Kw.refl _ _ _⟩
  case' round =>
    obtain ⟨j, hj, rfl, ⟨wv5, D5⟩, E5, hkw⟩ := hrel
  rcases (show j = 0 ∨ j = 1 ∨ j = 2 by omega) with rfl | rfl | rfl
  · skip
    have hB5 := Nat.le_trans hb' hkw.bl.size
    have hbk := blw wr (Obj.cells #[.int .i64 0] 3)
    have ck := heap_alloc_new wr (Obj.cells #[.int .i64 0] 3)
    have D6 := D5.below hbk
    have E6 : ErB (wr.alloc (Obj.cells #[.int .i64 0] 3)) (w.heap.size + 3) (wsD d f fr 0).2 := tr_bl hbk E5
    have L6 : LgB (wr.alloc (Obj.cells #[.int .i64 0] 3)) q g s := tr_bl hbk (hkw.ty _ _ _ F.lg (by decide) (by decide) (by decide) (ne_ty2 F.lg F.er (by decide)))
    have X6 : WBx (wr.alloc (Obj.cells #[.int .i64 0] 3)) w.heap.size (w.heap.size + 1) (w.heap.size + 2) wr.heap.size sb q G 4 pla 0 fr.length := ⟨tr_bl hbk (hkw.ty _ _ _ F.b5 (by decide) (by decide) (by decide) (by omega)), tr_bl hbk (hkw.ty _ _ _ F.b6 (by decide) (by decide) (by decide) (by omega)), tr_bl hbk (hkw.ty _ _ _ F.b7 (by decide) (by decide) (by decide) (by omega)), ck, tr_bl hbk (hkw.ty _ _ _ SX (by decide) (by decide) (by decide) (ne_ty2 SX F.er (by decide)))⟩
    have O6 : OwnB (wr.alloc (Obj.cells #[.int .i64 0] 3)) B (some ⟨G, 0, none⟩) fr.length fr := ((O.kw hkw F.er).below hbk).mono hb
    have k6 := hkw.trans (Kw.of (eb := w.heap.size + 3) (Kt.of hbk hB5))
    have hB6 := Nat.le_trans hB5 hbk.size
    have hw6 := wsD_wt d f fr 0
    obtain ⟨st, hst⟩ : ∃ st, wsD d f fr 0 = st := ⟨_, rfl⟩
    have hnx : wsD d f fr (0 + 1) = if st.2 ≠ 0 then st else writeD st.1 (f + (0 : Nat)) (pcD fr 0) := by rw [← hst]; rfl
    rw [hst] at D6 E6 hw6
    have HNX := Lib.hid hnx
    clear hst hnx D5 E5 hkw hbk hB5 ck
    obtain ⟨d6, e6⟩ := st
    simp only at D6 E6 hw6
    by_cases h6 : e6 = 0
    case pos =>
      subst h6
      have hnx := HNX.out
      rw [if_neg (by simp)] at hnx
      have hdo := do_wr E6 (by omega) L6 D6 hB6 0 (by omega) X6 O6 (by omega) (by omega) HF.out hfb (by omega)
      obtain ⟨r9, hr9⟩ : ∃ r9, writeD d6 (f + (0 : Nat)) (pcD fr 0) = r9 := ⟨_, rfl⟩
      simp only at hnx
      rw [hr9] at hdo hnx
      have HNY := Lib.hid hnx
      clear HNX hnx hr9
      go_wp2_with (go_at_call 62; refine hdo.mono ?_; rintro e w7 ⟨rfl, D7, E7, k7⟩)
      go_roundw
      case rel => exact ⟨0 + 1, by omega, by rfl, by rw [HNY.out]; exact D7, by rw [HNY.out]; exact E7, k6.trans k7⟩
      case measure => simp [intOf]
    case neg =>
      have hnx := HNX.out
      rw [if_pos h6] at hnx
      have HNY := Lib.hid hnx
      clear HNX hnx
      go_wp2_with (go_at_call 62; refine (do_skip _ e6 h6 E6).mono ?_; rintro e w7 ⟨rfl, rfl⟩)
      go_roundw
      case rel => exact ⟨0 + 1, by omega, by rfl, by rw [HNY.out]; exact ⟨_, D6⟩, by rw [HNY.out]; exact E6, k6⟩
      case measure => simp [intOf]
  · skip
    have hB5 := Nat.le_trans hb' hkw.bl.size
    have hbk := blw wr (Obj.cells #[.int .i64 1] 3)
    have ck := heap_alloc_new wr (Obj.cells #[.int .i64 1] 3)
    have D6 := D5.below hbk
    have E6 : ErB (wr.alloc (Obj.cells #[.int .i64 1] 3)) (w.heap.size + 3) (wsD d f fr 1).2 := tr_bl hbk E5
    have L6 : LgB (wr.alloc (Obj.cells #[.int .i64 1] 3)) q g s := tr_bl hbk (hkw.ty _ _ _ F.lg (by decide) (by decide) (by decide) (ne_ty2 F.lg F.er (by decide)))
    have X6 : WBx (wr.alloc (Obj.cells #[.int .i64 1] 3)) w.heap.size (w.heap.size + 1) (w.heap.size + 2) wr.heap.size sb q G 4 pla 1 fr.length := ⟨tr_bl hbk (hkw.ty _ _ _ F.b5 (by decide) (by decide) (by decide) (by omega)), tr_bl hbk (hkw.ty _ _ _ F.b6 (by decide) (by decide) (by decide) (by omega)), tr_bl hbk (hkw.ty _ _ _ F.b7 (by decide) (by decide) (by decide) (by omega)), ck, tr_bl hbk (hkw.ty _ _ _ SX (by decide) (by decide) (by decide) (ne_ty2 SX F.er (by decide)))⟩
    have O6 : OwnB (wr.alloc (Obj.cells #[.int .i64 1] 3)) B (some ⟨G, 0, none⟩) fr.length fr := ((O.kw hkw F.er).below hbk).mono hb
    have k6 := hkw.trans (Kw.of (eb := w.heap.size + 3) (Kt.of hbk hB5))
    have hB6 := Nat.le_trans hB5 hbk.size
    have hw6 := wsD_wt d f fr 1
    obtain ⟨st, hst⟩ : ∃ st, wsD d f fr 1 = st := ⟨_, rfl⟩
    have hnx : wsD d f fr (1 + 1) = if st.2 ≠ 0 then st else writeD st.1 (f + (1 : Nat)) (pcD fr 1) := by rw [← hst]; rfl
    rw [hst] at D6 E6 hw6
    have HNX := Lib.hid hnx
    clear hst hnx D5 E5 hkw hbk hB5 ck
    obtain ⟨d6, e6⟩ := st
    simp only at D6 E6 hw6
    by_cases h6 : e6 = 0
    case pos =>
      subst h6
      have hnx := HNX.out
      rw [if_neg (by simp)] at hnx
      have hdo := do_wr E6 (by omega) L6 D6 hB6 1 (by omega) X6 O6 (by omega) (by omega) HF.out hfb (by omega)
      obtain ⟨r9, hr9⟩ : ∃ r9, writeD d6 (f + (1 : Nat)) (pcD fr 1) = r9 := ⟨_, rfl⟩
      simp only at hnx
      rw [hr9] at hdo hnx
      have HNY := Lib.hid hnx
      clear HNX hnx hr9
      go_wp2_with (go_at_call 62; refine hdo.mono ?_; rintro e w7 ⟨rfl, D7, E7, k7⟩)
      go_roundw
      case rel => exact ⟨1 + 1, by omega, by rfl, by rw [HNY.out]; exact D7, by rw [HNY.out]; exact E7, k6.trans k7⟩
      case measure => simp [intOf]
    case neg =>
      have hnx := HNX.out
      rw [if_pos h6] at hnx
      have HNY := Lib.hid hnx
      clear HNX hnx
      go_wp2_with (go_at_call 62; refine (do_skip _ e6 h6 E6).mono ?_; rintro e w7 ⟨rfl, rfl⟩)
      go_roundw
      case rel => exact ⟨1 + 1, by omega, by rfl, by rw [HNY.out]; exact ⟨_, D6⟩, by rw [HNY.out]; exact E6, k6⟩
      case measure => simp [intOf]
  · skip
    have hB5 := Nat.le_trans hb' hkw.bl.size
    have L6 : LgB wr q g s := hkw.ty _ _ _ F.lg (by decide) (by decide) (by decide) (ne_ty2 F.lg F.er (by decide))
    have c5 := one_c (hkw.ty _ _ _ F.b5 (by decide) (by decide) (by decide) (show w.heap.size ≠ w.heap.size + 3 by omega))
    have l0 := L6.c0
    have hpd : (if (wsD d f fr 2).2 ≠ 0 then wsD d f fr 2 else flushD (wsD d f fr 2).1) = r := HR.out
    obtain ⟨st, hst⟩ : ∃ st, wsD d f fr 2 = st := ⟨_, rfl⟩
    rw [hst] at D5 E5 hpd
    clear hst HR
    obtain ⟨d6, e6⟩ := st
    simp only at D5 E5 hpd
    have hfin : ∀ w', Kw B (w.heap.size + 3) wc w' → Kt B w w' := fun w' k => k.kt F.bl hb (by omega)
    go_wp2
    refine HK.out _ _ ?_
    clear HK
    by_cases h6 : e6 = 0
    case pos =>
      subst h6
      rw [if_neg (by simp)] at hpd
      have hdo := do_fl E5 (by omega) D5 hB5
      rw [hpd] at hdo
      have HPD := Lib.hid hpd
      clear hpd
      refine wp_seq_k (fun K hK => ?_)
      have HK := Lib.hid hK
      clear hK
      go_wp2_with (go_at_call 62; refine hdo.mono ?_; rintro e w7 ⟨rfl, ⟨wv7, D7⟩, E7, k7⟩)
      refine HK.out _ _ ?_
      clear HK
      have c7 := one_c E7
      have E7' : w7.heap[w.heap.size + 3]? = some (.cells #[.int .i64 r.2] 24 (0, 0)) := E7
      go_wp2_with ((with_reducible refine wpList_stB 24 _ _ ?_); refine ⟨_, _, _, ⟨_, _, _, Tryz.sizeOf24, rfl, E7', er_st _ r.2⟩, ?_⟩; intro w8 E8 g8)
      refine bodyPost_ret (results_c1 rfl rfl (by have c8 := one_c E8; go_simp; (try rfl))) rfl ⟨rfl, ⟨_, D7.oe g8 E7 (by decide) (by decide) (by decide)⟩, hfin _ ((hkw.trans k7).trans (Kw.st g8 (by omega) (Nat.le_trans hB5 k7.bl.size)))⟩
    case neg =>
      rw [if_pos h6] at hpd
      subst hpd
      refine wp_seq_k (fun K hK => ?_)
      have HK := Lib.hid hK
      clear hK
      go_wp2_with (go_at_call 62; refine (do_skip _ e6 h6 E5).mono ?_; rintro e w7 ⟨rfl, rfl⟩)
      refine HK.out _ _ ?_
      clear HK
      have c7 := one_c E5
      have E7' : wr.heap[w.heap.size + 3]? = some (.cells #[.int .i64 e6] 24 (0, 0)) := E5
      go_wp2_with ((with_reducible refine wpList_stB 24 _ _ ?_); refine ⟨_, _, _, ⟨_, _, _, Tryz.sizeOf24, rfl, E7', er_st _ e6⟩, ?_⟩; intro w8 E8 g8)
      refine bodyPost_ret (results_c1 rfl rfl (by have c8 := one_c E8; go_simp; (try rfl))) rfl ⟨rfl, ⟨_, D5.oe g8 E5 (by decide) (by decide) (by decide)⟩, hfin _ (hkw.trans (Kw.st g8 (by omega) hB5))⟩
end
end Go.Proofs.YtknchbhobopkeaaGreatDoor
namespace Go.Proofs.YtknchbhobopkeaaGreatDoor
open Go.RowKit
def frmL (s : Lg) (i : Int) (k : Nat) (b : Bal) (e : En) : List UInt8 := sealF ⟨s.rep, 4, 2 * plW i + k, i, s.inc⟩ (bodyE b e) 128
def frmR (s : Lg) (i : Int) (k : Nat) (b : Bal) : List UInt8 := sealF ⟨s.rep, 3, plW i, i, s.inc⟩ (recB b k) 64
def putL1 (d : Dk) (s : Lg) (i : Int) (k : Nat) (b : Bal) (e : En) : Dk × Int := lputD d (firstN 4 (2 * plW i + k)) (frmL s i k b e) 2
def putL2 (d : Dk) (s : Lg) (i : Int) (k : Nat) (b : Bal) : Dk × Int := lputD d (firstN 3 (plW i)) (frmR s i k b) 1
def putW (d : Dk) (s : Lg) (i : Int) (b : Bal) (e : En) : Dk × Int :=
  if (putL1 d s i (nextS (recW d s i) (ffW d s i) i) b e).2 ≠ 0 then putL1 d s i (nextS (recW d s i) (ffW d s i) i) b e else putL2 (putL1 d s i (nextS (recW d s i) (ffW d s i) i) b e).1 s i (nextS (recW d s i) (ffW d s i) i) b
theorem nextS_lt (p : SRec) (f : Nat → SCp) (i : Int) : nextS p f i < 2 := by
  unfold nextS
  cases h : intactS p f i with
  | some k => have := intact_lt h; simp only; omega
  | none => simp only; split <;> omega
theorem lputD_wt (d : Dk) (f : Int) (fr : List UInt8) (n : Nat) : (lputD d f fr n).1.waits.length ≤ d.waits.length + n := by
  have h := wsD_wt d f fr n
  unfold lputD
  split
  · exact h
  · rcases flush_pl (wsD d f fr n).1 with h2 | h2
    · rw [h2.2]; exact h
    · rw [h2.2]; simp
section
variable {B g gp q : Nat} {wv : Value} {d : Dk} {w w' : World} {s : Lg} {b : Bal} {e : En}
theorem mayT4 (hs : LgOk s) {i : Int} (h1 : 1 ≤ i) (h2 : i ≤ 1099511627776) {k : Nat} (hk : k < 2) : mayTg ⟨s.rep, 4, 2 * plW i + k, i, s.inc⟩ = true := by
  have := hs.r
  have := hs.n
  have := plW_in (i := i)
  unfold mayTg
  simp [placesN]
  omega
theorem mayT3 (hs : LgOk s) {i : Int} (h1 : 1 ≤ i) (h2 : i ≤ 1099511627776) : mayTg ⟨s.rep, 3, plW i, i, s.inc⟩ = true := by
  have := hs.r
  have := hs.n
  have := plW_in (i := i)
  unfold mayTg
  simp [placesN]
  omega
set_option maxRecDepth 100000 in
set_option maxHeartbeats 1000000 in
theorem lopen_ok (hd : DiskB B g gp wv d w) (rep inc snap : Int) (h156 : 156 ≤ d.pl.length) (hok : LgOk ⟨rep, inc, snap⟩) (hup : upD d = true) : Calls Tryz.prog 8 #[.pointer (some ⟨g, 0, none⟩), .int .i64 rep, .int .i64 inc, .int .i64 snap] w fun e w' => (∃ q, e = .returned (.tuple #[.pointer (some ⟨q, 0, none⟩), .int .i64 0]) ∧ w.heap.size ≤ q ∧ LgB w' q g ⟨rep, inc, snap⟩) ∧ Below w.heap.size w w' := by
  have h1 := hok.r
  have h2 := hok.n
  have h3 := hok.p
  have hsz := dsize hd
  have hu := fun w' (D : DiskB B g gp wv d w') => up_any D
  rw [hup] at hu
  simp only at h1 h2 h3
  have hn0 : ¬ ((d.pl.length : Int) < 156) := by omega
  have hn1 : ((d.pl.length : Int) == 0) = false := by rw [beq_eq_false_iff_ne]; omega
  have hf : fitW snap = true := by unfold fitW; rw [decide_eq_true h3.1, decide_eq_true h3.2]; rfl
  have hfi := fun w => lfits_any snap w
  rw [hf] at hfi
  clear hf hup h156 hok
  go_enter Tryz.func8, Tryz.ntmps8
  go_wp2_with (first
    | (go_at_call 25; refine hsz.mono ?_; rintro e w1 ⟨rfl, rfl⟩)
    | (go_at_call 26; refine (all_any _).mono ?_; rintro e w1 ⟨rfl, hb1⟩)
    | (go_at_call 27; refine (hfi _).mono ?_; rintro e w1 ⟨rfl, rfl⟩)
    | (go_at_call 28; refine (hu _ (hd.below hb1)).mono ?_; rintro e w1 ⟨rfl, rfl⟩))
  go_ret2
  exact ⟨⟨_, rfl, hb1.size, heap_alloc_new _ (Obj.cells #[.pointer (some ⟨g, 0, none⟩), .int .i64 rep, .int .i64 inc, .int .i64 snap] 74)⟩, hb1.trans ((blw _ (Obj.cells #[.pointer (some ⟨g, 0, none⟩), .int .i64 rep, .int .i64 inc, .int .i64 snap] 74)).mono hb1.size)⟩
end
end Go.Proofs.YtknchbhobopkeaaGreatDoor
namespace Go.Proofs.YtknchbhobopkeaaGreatDoor
def plsW (pl : List Pl) (f : Nat) (fr : List UInt8) : Nat → List Pl
  | 0 => pl
  | k + 1 => (plsW pl f fr k).set (f + k) ⟨pcD fr k, pcD fr k, false⟩
section
variable {d d' : Dk} {f n j : Nat} {fr : List UInt8}
theorem pc_len {k : Nat} (h : 64 * k + 64 ≤ fr.length) : (pcD fr k).length = 64 := by unfold pcD; rw [List.length_take, List.length_drop]; omega
theorem spend_all (hl : d.left < 0) : spendD d = (d, 0) := by unfold spendD; rw [if_neg (by omega), if_neg (by omega)]
theorem wsD_full (h : Live d) (hl : d.left < 0) (hf : f + n ≤ 156) (hfr : fr.length = 64 * n) : ∀ k, k ≤ n → wsD d f fr k = ({ d with waits := (List.range k).map (fun j => (pcD fr j, f + j)) }, 0)
  | 0, _ => by
    show (d, (0 : Int)) = _
    have := h.w
    obtain ⟨pl, ws, dn, de, lf⟩ := d
    simp only at this
    subst this
    rfl
  | k + 1, hk => by
    have ih := wsD_full h hl hf hfr k (by omega)
    unfold wsD
    rw [ih]
    simp only
    rw [if_neg (by simp)]
    have hp := pc_len (fr := fr) (k := k) (by omega)
    have hlv : liveD { d with waits := (List.range k).map (fun j => (pcD fr j, f + j)) } ((f : Int) + k) = 0 := by
      unfold liveD thereD
      simp only
      rw [h.dn, h.de, h.len, if_neg (by simp), if_neg (by decide), if_neg (by omega)]
    unfold writeD
    rw [if_neg (by simp [hlv]), if_neg (by simp [hp]), spend_all (by exact hl), if_neg (by simp), List.range_succ, List.map_append, show ((f : Int) + k).toNat = f + k by omega]
    rfl
theorem thru_pls (pl : List Pl) (f : Nat) (fr : List UInt8) {n : Nat} (hn : n = 1 ∨ n = 2) : thruD pl ((List.range n).map (fun j => (pcD fr j, f + j))) 0 (fun _ => true) = plsW pl f fr n := by
  rcases hn with rfl | rfl
  · rfl
  · rfl
theorem lput_full (h : Live d) (hl : d.left < 0) (hn : n = 1 ∨ n = 2) (hf : f + n ≤ 156) (hfr : fr.length = 64 * n) : lputD d f fr n = ({ d with pl := plsW d.pl f fr n }, 0) := by
  have hw := wsD_full h hl hf hfr n (Nat.le_refl _)
  have hwt := h.w
  unfold lputD
  rw [hw]
  simp only
  rw [if_neg (by simp)]
  have hlv : live0 { d with waits := (List.range n).map (fun j => (pcD fr j, f + j)) } = 0 := by
    unfold live0 there0
    simp only
    rw [h.len, h.dn, h.de]
    simp
  unfold flushD
  rw [if_neg (by simp [hlv]), spend_all (by exact hl), if_neg (by simp)]
  simp only
  rw [thru_pls _ _ _ hn]
  obtain ⟨pl, ws, dn, de, lf⟩ := d
  simp only at hwt
  subst hwt
  rfl
theorem plsW_len (pl : List Pl) (f : Nat) (fr : List UInt8) : ∀ n, (plsW pl f fr n).length = pl.length
  | 0 => rfl
  | n + 1 => by unfold plsW; rw [List.length_set]; exact plsW_len pl f fr n
theorem pls_live (h : Live d) (f : Nat) (fr : List UInt8) (n : Nat) : Live { d with pl := plsW d.pl f fr n } := ⟨by simp only; rw [plsW_len]; exact h.len, h.w, h.dn, h.de⟩
theorem pls_read (h : Live d) (hn : n = 1 ∨ n = 2) (hf : f + n ≤ 156) (hj : j < 156) : readD { d with pl := plsW d.pl f fr n } j = if f ≤ j ∧ j < f + n then (pcD fr (j - f), 0) else readD d j := by
  rw [rd_live (pls_live h f fr n) hj, rd_live h hj]
  have hl := h.len
  rcases hn with rfl | rfl
  · show rdP (d.pl.set (f + 0) ⟨pcD fr 0, pcD fr 0, false⟩) j = _
    rw [rd_set _ (by omega)]
    by_cases hc : j = f
    · subst hc
      rw [if_pos (by omega), if_pos (by omega)]
      simp
    · rw [if_neg (by omega), if_neg (by omega)]
  · show rdP ((d.pl.set (f + 0) ⟨pcD fr 0, pcD fr 0, false⟩).set (f + 1) ⟨pcD fr 1, pcD fr 1, false⟩) j = _
    rw [rd_set _ (by rw [List.length_set]; omega)]
    by_cases h1 : j = f + 1
    · subst h1
      rw [if_pos rfl, if_pos (by omega)]
      congr 2
      omega
    · rw [if_neg h1, rd_set _ (by omega)]
      by_cases hc : j = f
      · subst hc
        rw [if_pos (by omega), if_pos (by omega)]
        simp
      · rw [if_neg (by omega), if_neg (by omega)]
/-! Outside of some sectors nothing turns. -/
structure OutP (P : Nat → Prop) (pl : List Pl) (d : Dk) : Prop where
  len : d.pl.length = pl.length
  same : ∀ j, ¬ P j → d.pl[j]? = pl[j]?
  wt : ∀ x ∈ d.waits, P x.2
variable {P : Nat → Prop} {pl : List Pl}
theorem thru_out : ∀ (ws : List (List UInt8 × Nat)) (l : List Pl) (k : Nat) (is : Nat → Bool), (∀ x ∈ ws, P x.2) → l.length = pl.length → (∀ j, ¬ P j → l[j]? = pl[j]?) → (thruD l ws k is).length = pl.length ∧ ∀ j, ¬ P j → (thruD l ws k is)[j]? = pl[j]?
  | [], l, k, is, _, h1, h2 => ⟨h1, h2⟩
  | (b, s) :: ws, l, k, is, hw, h1, h2 => by
    unfold thruD
    have hs := hw (b, s) List.mem_cons_self
    refine thru_out ws _ (k + 1) is (fun x hx => hw x (List.mem_cons_of_mem _ hx)) ?_ fun j hj => ?_
    · split
      · rw [List.length_set]; exact h1
      · exact h1
    · split
      · rw [List.getElem?_set_ne (fun e => hj (by simp only at hs; rw [← e]; exact hs))]
        exact h2 j hj
      · exact h2 j hj
theorem OutP.write (h : OutP P pl d) {s : Int} (b : List UInt8) (hs : P s.toNat) : OutP P pl (writeD d s b).1 := by
  obtain ⟨e1, e2⟩ := spend_pl d
  unfold writeD
  split
  · exact h
  · split
    · exact h
    · split
      · exact ⟨by rw [e1]; exact h.len, by rw [e1]; exact h.same, by rw [e2]; exact h.wt⟩
      · refine ⟨by simp only; rw [e1]; exact h.len, by simp only; rw [e1]; exact h.same, fun x hx => ?_⟩
        simp only [List.mem_append, List.mem_singleton] at hx
        rcases hx with hx | rfl
        · rw [e2] at hx; exact h.wt x hx
        · exact hs
theorem OutP.flush (h : OutP P pl d) : OutP P pl (flushD d).1 := by
  rcases flush_pl d with ⟨e1, e2⟩ | ⟨e1, e2⟩
  · exact ⟨by rw [e1]; exact h.len, by rw [e1]; exact h.same, by rw [e2]; exact h.wt⟩
  · obtain ⟨a, b⟩ := thru_out d.waits d.pl 0 (fun _ => true) h.wt h.len h.same
    exact ⟨by rw [e1]; exact a, by rw [e1]; exact b, by rw [e2]; intro x hx; cases hx⟩
theorem OutP.ws (h : OutP P pl d) (hP : ∀ k, k < n → P (f + k)) : ∀ k, k ≤ n → OutP P pl (wsD d f fr k).1
  | 0, _ => h
  | k + 1, hk => by
    unfold wsD
    split
    · exact h.ws hP k (by omega)
    · exact (h.ws hP k (by omega)).write _ (by rw [show ((f : Int) + k).toNat = f + k by omega]; exact hP k (by omega))
theorem OutP.lput (h : OutP P pl d) (hP : ∀ k, k < n → P (f + k)) : OutP P pl (lputD d f fr n).1 := by
  unfold lputD
  split
  · exact h.ws hP n (Nat.le_refl _)
  · exact (h.ws hP n (Nat.le_refl _)).flush
end
def secW (p j : Nat) : Prop := j = 4 + p ∨ (28 + 4 * p ≤ j ∧ j < 32 + 4 * p)
section
variable {d d' : Dk} {s : Lg} {i : Int} {b : Bal} {e : En} {pl : List Pl}
theorem OutP.put {p : Nat} (h : OutP (secW p) pl d) (hp : plW i = p) : OutP (secW p) pl (putW d s i b e).1 := by
  have hpin := plW_in (i := i)
  have hk := nextS_lt (recW d s i) (ffW d s i) i
  have h4 := first4 (p := 2 * plW i + (nextS (recW d s i) (ffW d s i) i : Nat)) (by omega)
  have h3 := first3 hpin
  rw [hp] at h3 h4
  have e4 : (28 + 2 * (2 * (p : Int) + (nextS (recW d s i) (ffW d s i) i : Nat))) = ((28 + 2 * (2 * p + nextS (recW d s i) (ffW d s i) i) : Nat) : Int) := by omega
  have e3 : (4 + (p : Int)) = ((4 + p : Nat) : Int) := by omega
  have o1 : OutP (secW p) pl (putL1 d s i (nextS (recW d s i) (ffW d s i) i) b e).1 := by
    unfold putL1
    rw [hp, h4, e4]
    exact h.lput fun k hk2 => .inr ⟨by omega, by omega⟩
  unfold putW
  split
  · exact o1
  · unfold putL2
    rw [hp, h3, e3]
    exact o1.lput fun k hk2 => .inl (by omega)
end
end Go.Proofs.YtknchbhobopkeaaGreatDoor
namespace Go.Proofs.YtknchbhobopkeaaGreatDoor
def OldIs (c : SCp) (i : Int) (b : Bal) : Prop := c = zCp 0 ∨ (c.st = 1 ∧ (c.idx < i ∨ (c.idx = i ∧ lessB c.bal b = true)))
structure PlIs (d : Dk) (s : Lg) (p : Nat) (i : Int) (b : Bal) (e : En) (k : Nat) : Prop where
  r : recOf (fr1 d s.rep 3 p) = ⟨1, i, b, (k : Int)⟩
  f : cpOf (fr2 d s.rep 4 (2 * p + k)) = ⟨1, i, b, e⟩
  o : OldIs (cpOf (fr2 d s.rep 4 (2 * p + (1 - k : Nat)))) i b
  k2 : k < 2
structure PlNo (d : Dk) (s : Lg) (p : Nat) : Prop where
  r : recOf (fr1 d s.rep 3 p) = zRec 0
  f : ∀ k : Nat, k < 2 → cpOf (fr2 d s.rep 4 (2 * p + k)) = zCp 0
section
variable {d d' : Dk} {s : Lg} {p k : Nat} {i j : Int} {b b' : Bal} {e e' : En}
theorem less_asym {a b : Bal} (h : lessB a b = true) : lessB b a = false := by
  unfold lessB at h ⊢
  simp only [Bool.or_eq_true, Bool.and_eq_true, decide_eq_true_eq, beq_iff_eq, Bool.or_eq_false_iff, Bool.and_eq_false_iff, decide_eq_false_iff_not, beq_eq_false_iff_ne] at h ⊢
  omega
theorem old_of {c : SCp} (h : OldIs c i b) (hij : i ≤ j) : ofS c j = false ∨ (i = j ∧ lessB b c.bal = false) := by
  unfold ofS
  rcases h with rfl | ⟨h1, h2 | ⟨h2, h3⟩⟩
  · exact .inl rfl
  · refine .inl ?_
    rw [Bool.and_eq_false_iff]
    exact .inr (by rw [beq_eq_false_iff_ne]; omega)
  · by_cases hj : i = j
    · exact .inr ⟨hj, less_asym h3⟩
    · refine .inl ?_
      rw [Bool.and_eq_false_iff]
      exact .inr (by rw [beq_eq_false_iff_ne]; omega)
theorem old_idx {c : SCp} (h : OldIs c i b) : c.st = 0 ∨ (c.st = 1 ∧ c.idx ≤ i) := by
  rcases h with rfl | ⟨h1, h2 | ⟨h2, _⟩⟩
  · exact .inl rfl
  · exact .inr ⟨h1, by omega⟩
  · exact .inr ⟨h1, by omega⟩
theorem PlIs.slot (h : PlIs d s p i b e k) (hp : plW j = p) : recW d s j = ⟨1, i, b, (k : Int)⟩ ∧ ffW d s j k = ⟨1, i, b, e⟩ ∧ OldIs (ffW d s j (1 - k)) i b := by
  unfold recW ffW cpW
  rw [hp]
  exact ⟨h.r, h.f, h.o⟩
theorem PlNo.slot (h : PlNo d s p) (hp : plW j = p) : recW d s j = zRec 0 ∧ ffW d s j 0 = zCp 0 ∧ ffW d s j 1 = zCp 0 := by
  unfold recW ffW cpW
  rw [hp]
  exact ⟨h.r, h.f 0 (by omega), h.f 1 (by omega)⟩
theorem two_of {P : SCp → Prop} {f : Nat → SCp} {k : Nat} (hk : k < 2) (h1 : P (f k)) (h2 : P (f (1 - k))) : P (f 0) ∧ P (f 1) := by
  rcases (show k = 0 ∨ k = 1 by omega) with rfl | rfl
  · exact ⟨h1, h2⟩
  · exact ⟨h2, h1⟩
theorem PlIs.intact (h : PlIs d s p i b e k) (hp : plW i = p) : intactS (recW d s i) (ffW d s i) i = some k := by
  obtain ⟨h1, h2, h3⟩ := h.slot hp
  have hk := h.k2
  refine intact_named (k := k) (by rw [h1]) (by rw [h1]) (by rw [h1]; simp only; omega) (by rw [h2]; unfold ofS; simp) (by rw [h1, h2]) ?_
  rw [h1]
  rcases old_of h3 (Int.le_refl i) with h4 | ⟨_, h4⟩
  · exact .inl h4
  · exact .inr h4
theorem PlIs.past (h : PlIs d s p i b e k) (hp : plW j = p) (hij : i < j) : intactS (recW d s j) (ffW d s j) j = none ∧ beyondS (recW d s j) (ffW d s j) j = false ∧ badS (ffW d s j) = false := by
  obtain ⟨h1, h2, h3⟩ := h.slot hp
  have h4 : (ffW d s j k).st = 1 ∧ (ffW d s j k).idx ≤ i := by rw [h2]; exact ⟨rfl, Int.le_refl _⟩
  obtain ⟨a0, a1⟩ := two_of (P := fun c => c.st = 0 ∨ (c.st = 1 ∧ c.idx ≤ i)) h.k2 (.inr h4) (old_idx h3)
  have hof : ∀ c : SCp, (c.st = 0 ∨ (c.st = 1 ∧ c.idx ≤ i)) → ofS c j = false ∧ (c.st == 1 && decide (j < c.idx)) = false ∧ (c.st == 2) = false := fun c hc => by
    unfold ofS
    rcases hc with hc | ⟨hc, hc2⟩
    · rw [hc]; simp
    · rw [hc, show (c.idx == j) = false by rw [beq_eq_false_iff_ne]; omega, decide_eq_false (show ¬ j < c.idx by omega)]
      simp
  obtain ⟨x1, x2, x3⟩ := hof _ a0
  obtain ⟨y1, y2, y3⟩ := hof _ a1
  have hb : beyondS (recW d s j) (ffW d s j) j = false := by
    unfold beyondS
    rw [x2, y2, h1]
    simp only
    rw [decide_eq_false (show ¬ j < i by omega)]
    rfl
  have hbd : badS (ffW d s j) = false := by unfold badS; rw [x3, y3]; rfl
  refine ⟨?_, hb, hbd⟩
  unfold intactS
  rw [if_neg (by rw [h1]; simp only; omega), if_neg (by rw [hb, hbd]; simp)]
  exact best_none x1 y1
theorem PlNo.intact (h : PlNo d s p) (hp : plW j = p) : intactS (recW d s j) (ffW d s j) j = none ∧ beyondS (recW d s j) (ffW d s j) j = false ∧ badS (ffW d s j) = false := by
  obtain ⟨h1, h2, h3⟩ := h.slot hp
  have hb : beyondS (recW d s j) (ffW d s j) j = false := by unfold beyondS; rw [h1, h2, h3]; rfl
  have hbd : badS (ffW d s j) = false := by unfold badS; rw [h2, h3]; rfl
  refine ⟨?_, hb, hbd⟩
  unfold intactS
  rw [if_neg (by rw [h1]; simp [zRec]), if_neg (by rw [hb, hbd]; simp)]
  exact best_none (by rw [h2]; rfl) (by rw [h3]; rfl)
theorem PlIs.next (h : PlIs d s p i b e k) (hp : plW j = p) (hij : i ≤ j) : nextS (recW d s j) (ffW d s j) j = 1 - k := by
  have hk := h.k2
  unfold nextS
  by_cases hj : i = j
  · subst hj
    rw [h.intact hp]
  · rw [(h.past hp (by omega)).1]
    simp only
    rw [(h.slot hp).1, if_pos rfl]
    simp only
    omega
theorem PlNo.next (h : PlNo d s p) (hp : plW j = p) : nextS (recW d s j) (ffW d s j) j = 0 := by
  unfold nextS
  rw [(h.intact hp).1]
  simp only
  rw [(h.slot hp).1, if_neg (by simp [zRec])]
theorem PlIs.rep (h : PlIs d s p i b e k) (hp : plW i = p) : repW d s i = (3, 2, b, e) := by
  unfold repW whatS
  rw [h.intact hp]
  simp only
  rw [(h.slot hp).2.1]
theorem PlIs.rep_past (h : PlIs d s p i b e k) (hp : plW j = p) (hij : i < j) : repW d s j = (0, 1, zeroL, zeroE 0) := by
  obtain ⟨h1, h2, h3⟩ := h.past hp hij
  unfold repW whatS
  rw [h1, h2, h3]
  simp only
  rw [(h.slot hp).1]
  simp only
  rw [if_neg (by omega)]
  simp
theorem PlNo.rep (h : PlNo d s p) (hp : plW j = p) : repW d s j = (0, 1, zeroL, zeroE 0) := by
  obtain ⟨h1, h2, h3⟩ := h.intact hp
  unfold repW whatS
  rw [h1, h2, h3]
  simp only
  rw [(h.slot hp).1]
  simp [zRec]
theorem place_same (s : Lg) (hp : p < 24) (hr : ∀ x, secW p x → readD d' (x : Int) = readD d (x : Int)) : fr1 d' s.rep 3 p = fr1 d s.rep 3 p ∧ ∀ k : Nat, k < 2 → fr2 d' s.rep 4 (2 * p + k) = fr2 d s.rep 4 (2 * p + k) := by
  refine ⟨?_, fun k hk => ?_⟩
  · unfold fr1 preW
    rw [first3 (by omega), show (4 + (p : Int)) = ((4 + p : Nat) : Int) by omega, hr (4 + p) (.inl rfl)]
    rfl
  · unfold fr2 preW
    rw [first4 (by omega), show (28 + 2 * (2 * (p : Int) + k)) = ((28 + 2 * (2 * p + k) : Nat) : Int) by omega, show (((28 + 2 * (2 * p + k) : Nat) : Int) + 1) = ((28 + 2 * (2 * p + k) + 1 : Nat) : Int) by omega, hr (28 + 2 * (2 * p + k)) (.inr ⟨by omega, by omega⟩), hr (28 + 2 * (2 * p + k) + 1) (.inr ⟨by omega, by omega⟩)]
end
end Go.Proofs.YtknchbhobopkeaaGreatDoor
namespace Go.Proofs.YtknchbhobopkeaaGreatDoor
section
variable {d d' : Dk} {s : Lg} {p k : Nat} {i j : Int} {b b' : Bal} {e e' : En}
theorem pc_whole {fr : List UInt8} (h : fr.length = 64) : pcD fr 0 = fr := by unfold pcD; rw [Nat.mul_zero, List.drop_zero]; exact List.take_of_length_le (by omega)
theorem pc_two {fr : List UInt8} (h : fr.length = 128) : pcD fr 0 ++ pcD fr 1 = fr := by
  have := pcs_all (b := fr) (n := 2) (by omega) (by omega) (by omega)
  simpa [List.range_succ] using this
theorem frmR_len (s : Lg) (j : Int) (k : Nat) (b : Bal) : (frmR s j k b).length = 64 := sealF_len (by decide) (by rw [recB_len]; decide)
theorem frmL_len (s : Lg) (j : Int) (k : Nat) (b : Bal) (hm : mayE e = true) : (frmL s j k b e).length = 128 := sealF_len (by decide) (by have := bodyE_len b hm; unfold roomN; simp; omega)
theorem read_rec (hs : LgOk s) (h1 : 1 ≤ j) (h2 : j ≤ 1099511627776) (hp : plW j = p) (hb : mayBl b = true) (hk : k < 2) (hr : readD d ((4 + p : Nat) : Int) = (frmR s j k b, 0)) : recOf (fr1 d s.rep 3 p) = ⟨1, j, b, (k : Int)⟩ := by
  have hpin := plW_in (i := j)
  have hmt := mayT3 hs h1 h2
  have hm := mine_seal (n := 64) (body := recB b k) hmt (by decide) (by rw [recB_len]; decide)
  unfold fr1 preW
  rw [first3 (by omega), show (4 + (p : Int)) = ((4 + p : Nat) : Int) by omega, hr, if_neg (by simp)]
  simp only
  rw [hp] at hm
  unfold frmR
  rw [hp, show mineF (sealF ⟨s.rep, 3, (p : Int), j, s.inc⟩ (recB b k) 64) s.rep 3 p = _ from hm]
  unfold recOf
  rw [if_neg (by simp), parse_rec hb hk]
theorem read_frm (hs : LgOk s) (h1 : 1 ≤ j) (h2 : j ≤ 1099511627776) (hp : plW j = p) (hb : mayBl b = true) (he : mayE e = true) (hk : k < 2) (hr0 : readD d ((28 + 2 * (2 * p + k) : Nat) : Int) = (pcD (frmL s j k b e) 0, 0)) (hr1 : readD d ((28 + 2 * (2 * p + k) + 1 : Nat) : Int) = (pcD (frmL s j k b e) 1, 0)) : cpOf (fr2 d s.rep 4 (2 * p + k)) = ⟨1, j, b, e⟩ := by
  have hpin := plW_in (i := j)
  have hmt := mayT4 hs h1 h2 hk
  have hl := bodyE_len b he
  have hm := mine_seal (n := 128) (body := bodyE b e) hmt (by decide) (by unfold roomN; simp; omega)
  unfold fr2 preW
  rw [first4 (by omega), show (28 + 2 * (2 * (p : Int) + k)) = ((28 + 2 * (2 * p + k) : Nat) : Int) by omega, show (((28 + 2 * (2 * p + k) : Nat) : Int) + 1) = ((28 + 2 * (2 * p + k) + 1 : Nat) : Int) by omega, hr0, hr1, if_neg (by simp)]
  simp only
  rw [pc_two (frmL_len s j k b he)]
  rw [hp] at hm
  unfold frmL
  rw [hp, show mineF (sealF ⟨s.rep, 4, 2 * (p : Int) + k, j, s.inc⟩ (bodyE b e) 128) s.rep 4 (2 * p + k) = _ from hm]
  unfold cpOf
  rw [if_neg (by simp), parse_body hb he]
def afterW (d : Dk) (s : Lg) (j : Int) (p k : Nat) (b : Bal) (e : En) : Dk := { d with pl := plsW (plsW d.pl (28 + 2 * (2 * p + k)) (frmL s j k b e) 2) (4 + p) (frmR s j k b) 1 }
theorem put_full (h : Live d) (hl : d.left < 0) (hp : plW j = p) (he : mayE e = true) (hk : nextS (recW d s j) (ffW d s j) j = k) : putW d s j b e = (afterW d s j p k b e, 0) := by
  have hpin := plW_in (i := j)
  have hk2 := nextS_lt (recW d s j) (ffW d s j) j
  rw [hk] at hk2
  have e4 : firstN 4 (2 * (p : Int) + k) = ((28 + 2 * (2 * p + k) : Nat) : Int) := by rw [first4 (by omega)]; omega
  have e3 : firstN 3 (p : Int) = ((4 + p : Nat) : Int) := by rw [first3 (by omega)]; omega
  have f1 := lput_full (n := 2) (f := 28 + 2 * (2 * p + k)) (fr := frmL s j k b e) h hl (.inr rfl) (by omega) (frmL_len s j k b he)
  have f2 := lput_full (n := 1) (f := 4 + p) (fr := frmR s j k b) (pls_live h (28 + 2 * (2 * p + k)) (frmL s j k b e) 2) hl (.inl rfl) (by omega) (frmR_len s j k b)
  unfold putW putL1 putL2
  rw [hk, hp, e4, e3, f1]
  simp only
  rw [if_neg (by simp)]
  exact f2
theorem after_live (h : Live d) (j : Int) (p k : Nat) (b : Bal) (e : En) : Live (afterW d s j p k b e) := pls_live (pls_live h _ _ 2) _ _ 1
theorem after_read (h : Live d) (hp : p < 24) (hk : k < 2) {x : Nat} (hx : x < 156) : readD (afterW d s j p k b e) (x : Int) = if x = 4 + p then (pcD (frmR s j k b) 0, 0) else if 28 + 2 * (2 * p + k) ≤ x ∧ x < 28 + 2 * (2 * p + k) + 2 then (pcD (frmL s j k b e) (x - (28 + 2 * (2 * p + k))), 0) else readD d x := by
  unfold afterW
  have r1 := pls_read (fr := frmR s j k b) (f := 4 + p) (pls_live h (28 + 2 * (2 * p + k)) (frmL s j k b e) 2) (.inl rfl) (by omega) hx
  have r2 := pls_read (fr := frmL s j k b e) (f := 28 + 2 * (2 * p + k)) h (.inr rfl) (by omega) hx
  simp only at r1 r2
  rw [r1, r2]
  by_cases hc : x = 4 + p
  · subst hc
    rw [if_pos (by omega), if_pos rfl, Nat.sub_self]
  · rw [if_neg (by omega), if_neg hc]
theorem after_other (h : Live d) (hp : p < 24) (hk : k < 2) {x : Nat} (hx : x < 156) (hs : ¬ secW p x) : readD (afterW d s j p k b e) (x : Int) = readD d x := by
  unfold secW at hs
  rw [after_read h hp hk hx, if_neg (by omega), if_neg (by omega)]
theorem after_rec (h : Live d) (hs : LgOk s) (h1 : 1 ≤ j) (h2 : j ≤ 1099511627776) (hp : plW j = p) (hb : mayBl b = true) (he : mayE e = true) (hk : k < 2) : recOf (fr1 (afterW d s j p k b e) s.rep 3 p) = ⟨1, j, b, (k : Int)⟩ ∧ cpOf (fr2 (afterW d s j p k b e) s.rep 4 (2 * p + k)) = ⟨1, j, b, e⟩ ∧ fr2 (afterW d s j p k b e) s.rep 4 (2 * p + (1 - k : Nat)) = fr2 d s.rep 4 (2 * p + (1 - k : Nat)) := by
  have hpin := plW_in (i := j)
  have hp2 : p < 24 := by omega
  refine ⟨read_rec hs h1 h2 hp hb hk ?_, read_frm hs h1 h2 hp hb he hk ?_ ?_, ?_⟩
  · rw [after_read h hp2 hk (by omega), if_pos rfl, pc_whole (frmR_len s j k b)]
  · rw [after_read h hp2 hk (by omega), if_neg (by omega), if_pos (by omega), Nat.sub_self]
  · rw [after_read h hp2 hk (by omega), if_neg (by omega), if_pos (by omega), show 28 + 2 * (2 * p + k) + 1 - (28 + 2 * (2 * p + k)) = 1 by omega]
  · unfold fr2 preW
    rw [first4 (by omega), show (28 + 2 * (2 * (p : Int) + (1 - k : Nat))) = ((28 + 2 * (2 * p + (1 - k)) : Nat) : Int) by omega, show (((28 + 2 * (2 * p + (1 - k)) : Nat) : Int) + 1) = ((28 + 2 * (2 * p + (1 - k)) + 1 : Nat) : Int) by omega]
    have g1 : readD (afterW d s j p k b e) ((28 + 2 * (2 * p + (1 - k)) : Nat) : Int) = readD d ((28 + 2 * (2 * p + (1 - k)) : Nat) : Int) := by
      rw [after_read h hp2 hk (by omega), if_neg (by omega), if_neg (by omega)]
    have g2 : readD (afterW d s j p k b e) ((28 + 2 * (2 * p + (1 - k)) + 1 : Nat) : Int) = readD d ((28 + 2 * (2 * p + (1 - k)) + 1 : Nat) : Int) := by
      rw [after_read h hp2 hk (by omega), if_neg (by omega), if_neg (by omega)]
    rw [g1, g2]
theorem put_is (h : Live d) (hl : d.left < 0) (hs : LgOk s) (h1 : 1 ≤ j) (h2 : j ≤ 1099511627776) (hp : plW j = p) (hb : mayBl b' = true) (he : mayE e' = true) (hi : PlIs d s p i b e k) (hij : i < j ∨ (i = j ∧ lessB b b' = true)) :
    putW d s j b' e' = (afterW d s j p (1 - k) b' e', 0) ∧ PlIs (afterW d s j p (1 - k) b' e') s p j b' e' (1 - k) := by
  have hk := hi.k2
  refine ⟨put_full h hl hp he (hi.next hp (by omega)), ?_⟩
  obtain ⟨a1, a2, a3⟩ := after_rec (k := 1 - k) h hs h1 h2 hp hb he (by omega)
  refine ⟨a1, a2, ?_, by omega⟩
  rw [a3, show 1 - (1 - k) = k by omega, hi.f]
  refine .inr ⟨rfl, ?_⟩
  simp only
  exact hij
theorem put_no (h : Live d) (hl : d.left < 0) (hs : LgOk s) (h1 : 1 ≤ j) (h2 : j ≤ 1099511627776) (hp : plW j = p) (hb : mayBl b' = true) (he : mayE e' = true) (hi : PlNo d s p) :
    putW d s j b' e' = (afterW d s j p 0 b' e', 0) ∧ PlIs (afterW d s j p 0 b' e') s p j b' e' 0 := by
  refine ⟨put_full h hl hp he (hi.next hp), ?_⟩
  obtain ⟨a1, a2, a3⟩ := after_rec (k := 0) h hs h1 h2 hp hb he (by omega)
  refine ⟨a1, a2, ?_, by omega⟩
  rw [a3, hi.f 1 (by omega)]
  exact .inl rfl
theorem PlIs.keep {q : Nat} (hi : PlIs d s p i b e k) (h : Live d) (hp : p < 24) (hq : q < 24) (hpq : p ≠ q) {k' : Nat} (hk : k' < 2) (j : Int) (b' : Bal) (e' : En) : PlIs (afterW d s j q k' b' e') s p i b e k := by
  obtain ⟨a, c⟩ := place_same (d := d) (d' := afterW d s j q k' b' e') s hp (fun x hx => by unfold secW at hx; exact after_other h hq hk (by omega) (by unfold secW; omega))
  have hk2 := hi.k2
  exact ⟨by rw [a]; exact hi.r, by rw [c k hk2]; exact hi.f, by rw [c (1 - k) (by omega)]; exact hi.o, hk2⟩
theorem PlNo.keep {q : Nat} (hi : PlNo d s p) (h : Live d) (hp : p < 24) (hq : q < 24) (hpq : p ≠ q) {k' : Nat} (hk : k' < 2) (j : Int) (b' : Bal) (e' : En) : PlNo (afterW d s j q k' b' e') s p := by
  obtain ⟨a, c⟩ := place_same (d := d) (d' := afterW d s j q k' b' e') s hp (fun x hx => by unfold secW at hx; exact after_other h hq hk (by omega) (by unfold secW; omega))
  exact ⟨by rw [a]; exact hi.r, fun k hk3 => by rw [c k hk3]; exact hi.f k hk3⟩
theorem new_live156 : Live (newDk 156) := ⟨by simp [newDk], rfl, rfl, rfl⟩
theorem new_rd {x : Nat} (hx : x < 156) : readD (newDk 156) (x : Int) = (zeros64, 0) := by
  rw [rd_live new_live156 hx]
  show rdP (List.replicate 156 zeroPl) x = _
  unfold rdP
  rw [List.getElem?_replicate, if_pos hx]
  rfl
theorem open_nought (n : Nat) (h : roomN n ≠ 0) : openF (List.replicate n 0) = (0, zeroTg, []) := by
  unfold openF
  rw [List.length_replicate, if_neg h, noughts_rep, if_pos rfl]
theorem new_no (s : Lg) (hp : p < 24) : PlNo (newDk 156) s p := by
  have hz1 : ∀ a c : Int, mineF zeros64 a 3 c = (0, zeroTg, []) := fun a c => by
    unfold mineF zeros64
    rw [open_nought 64 (by decide)]
    simp
  have hz2 : ∀ a c : Int, mineF (zeros64 ++ zeros64) a 4 c = (0, zeroTg, []) := fun a c => by
    unfold mineF
    rw [show zeros64 ++ zeros64 = List.replicate 128 0 from rfl, open_nought 128 (by decide)]
    simp
  refine ⟨?_, fun k hk => ?_⟩
  · unfold fr1 preW
    rw [first3 (by omega), show (4 + (p : Int)) = ((4 + p : Nat) : Int) by omega, new_rd (by omega), if_neg (by simp)]
    simp only
    rw [hz1]
    rfl
  · unfold fr2 preW
    rw [first4 (by omega), show (28 + 2 * (2 * (p : Int) + k)) = ((28 + 2 * (2 * p + k) : Nat) : Int) by omega, show (((28 + 2 * (2 * p + k) : Nat) : Int) + 1) = ((28 + 2 * (2 * p + k) + 1 : Nat) : Int) by omega, new_rd (by omega), new_rd (by omega), if_neg (by simp)]
    simp only
    rw [hz2]
    rfl
end
end Go.Proofs.YtknchbhobopkeaaGreatDoor
namespace Go.Proofs.YtknchbhobopkeaaGreatDoor
open Go.RowKit
theorem may_nop : mayE (zeroE 1) = true := by simp [mayE, zeroE, nilO]
set_option maxRecDepth 100000 in
set_option maxHeartbeats 4000000 in
theorem lnoop_any (w : World) : Calls Tryz.prog 10 #[] w fun en w' => en = .returned (.agg (enA (zeroE 1))) ∧ Below w.heap.size w w' := by
  go_enter Tryz.func10, Tryz.ntmps10
  refine wp_seq_k (fun K hK => ?_)
  have HK := Lib.hid hK
  clear hK
  go_wp2
  refine HK.out _ _ ?_
  clear HK
  go_wp2_with ((first | (with_reducible refine wpList_stNew 36 _ _ ?_) | (with_reducible refine wp_stNew 36 _ _ ?_)); refine ⟨_, _, ⟨Tryz.sizeOf36, rfl, en_k 1⟩, rfl, ?_⟩)
  go_wp2
  refine bodyPost_ret (results_c1 rfl rfl (run_loadVar_all Tryz.isAgg36 Tryz.sizeOf36 (heap_alloc_new w (Obj.cells (enA (zeroE 1)) 36)) rfl)) rfl ⟨rfl, blw w (Obj.cells (enA (zeroE 1)) 36)⟩
theorem eqRp (r : Rpt) (w : World) : (binOp .eql 44 (.agg (rptA r)) (.agg (rptA r))).run Tryz.prog w = .ok (.bool true) w := by
  obtain ⟨i, st, ⟨rn, rp⟩, ⟨kd, cl, sq, ⟨ok, key, old, val⟩⟩⟩ := r
  unfold rptA rpA
  simp only
  go_simp
def sA : Lg := ⟨3, 1, 0⟩
def sA8 : Lg := ⟨3, 1, 8⟩
theorem live_up {d : Dk} (h : Live d) : upD d = true := by
  have h1 := h.dn
  have h2 := h.de
  unfold upD
  simp [h1, h2, h.len]
theorem ex_wal : ∃ d1 : Dk, putW (newDk 156) sA 1 ⟨1, 0⟩ (zeroE 1) = (d1, 0) ∧ liveW (newDk 156) sA 1 = 0 ∧ getW d1 sA 1 = (⟨1, 2, ⟨1, 0⟩, zeroE 1⟩, 0) ∧ getW d1 sA 25 = (zeroR', 2) ∧ cutW sA 8 = (sA8, 0) ∧ getW d1 sA8 25 = (⟨25, 1, zeroL, zeroE 0⟩, 0) ∧ getW d1 sA8 8 = (zeroR', 2) ∧ Live d1 := by
  have hs : LgOk sA := ⟨by decide, by decide, by decide⟩
  have hu0 := live_up new_live156
  obtain ⟨e1, i1⟩ := put_no (b' := ⟨1, 0⟩) (e' := zeroE 1) new_live156 (by decide) hs (j := 1) (p := 0) (by decide) (by decide) (by decide) (by decide) may_nop (new_no sA (by decide))
  have l1 := after_live new_live156 1 0 0 ⟨1, 0⟩ (zeroE 1) (s := sA)
  have hu := live_up l1
  generalize afterW (newDk 156) sA 1 0 0 ⟨1, 0⟩ (zeroE 1) = d1 at *
  have i2 : PlIs d1 sA8 0 1 ⟨1, 0⟩ (zeroE 1) 0 := ⟨i1.r, i1.f, i1.o, i1.k2⟩
  refine ⟨d1, e1, ?_, ?_, ?_, by rfl, ?_, ?_, l1⟩
  · unfold liveW; rw [if_neg (by decide), if_neg (by simp [hu0])]
  · unfold getW liveW rptW; rw [if_neg (show ¬ ((1 : Int) ≤ sA.snap ∨ sA.snap + 24 < 1) by decide)]; simp only [hu]; rw [i1.rep (by decide)]; rfl
  · unfold getW liveW; rw [if_pos (show ((25 : Int) ≤ sA.snap ∨ sA.snap + 24 < 25) by decide), if_pos (by simp)]
  · unfold getW liveW rptW; rw [if_neg (show ¬ ((25 : Int) ≤ sA8.snap ∨ sA8.snap + 24 < 25) by decide)]; simp only [hu]; rw [i2.rep_past (by decide) (by decide)]; rfl
  · unfold getW liveW; rw [if_pos (show ((8 : Int) ≤ sA8.snap ∨ sA8.snap + 24 < 8) by decide), if_pos (by simp)]
end Go.Proofs.YtknchbhobopkeaaGreatDoor
