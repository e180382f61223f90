/- Texts that the claim leans on, part 9: D46, D47, D48, D49, D50, D51, D52, X10. -/
import Derived.Test.YtejjneamngkmoaaDoorZ1
import Derived.Test.YtejjneamngkmoaaDoorZ2
import Derived.Test.YtejjneamngkmoaaDoorZ3
import Derived.Test.YtejjneamngkmoaaDoorZ4
import Derived.Test.YtejjneamngkmoaaDoorZ5
import Derived.Test.YtejjneamngkmoaaDoorZ6
import Derived.Test.YtejjneamngkmoaaDoorZ7
import Derived.Test.YtejjneamngkmoaaDoorZ8
import Derived.Test.YtejjneamngkmoaaDoorRows
import Derived.WalkKit
import Derived.WalkSpells
import Derived.WalkLawsBesides
import Derived.Handy
import Derived.Deep.QuietTactic
import Derived.BigQuiet
import Derived.Deep.DeepCutAuto
import Derived.Lib.Hide
import Derived.RegionTactic
import Derived.ChangeAlike
import Derived.Laws.ResultCell
import Derived.Outline
import Derived.Laws.IdiomStrings
import Derived.Laws.BytesArg
import Derived.Laws.MakeOwn
import Derived.Lib.SliceRun
import Derived.Laws.BitsAllLaws
import Derived.Great.BuildSlice
import Derived.Great.FillDense
import Derived.Laws.Rows
import Derived.Deep.Quiet
import Derived.Deep.RegionHeld3
import Derived.ProofKit
import Derived.OpenShut
import Derived.Laws.CopyOwn
import Derived.Laws.CopyRow
import Derived.Laws.NewBlocks
import Derived.Deep.RegionLaw
namespace Go.Proofs.YtejjneamngkmoaaDoor
open Go.RowKit

theorem open_tag (l : List UInt8) : (openF l).2.1 = zeroTg ∧ (openF l).1 ≠ 1 ∧ (openF l).2.2 = [] ∨ (openF l).1 = 1 ∧ mayTg (openF l).2.1 = true ∧ (openF l).2.2.length ≤ roomN l.length := by
  unfold openF
  split
  · exact .inl ⟨rfl, by decide, rfl⟩
  · split
    · exact .inl ⟨rfl, by decide, rfl⟩
    · split
      · rename_i h
        exact .inr ⟨rfl, h.1, by rw [List.length_take]; omega⟩
      · exact .inl ⟨rfl, by decide, rfl⟩
theorem mine_tag (l : List UInt8) (rep reg pla : Int) : (mineF l rep reg pla).2.1 = zeroTg ∧ (mineF l rep reg pla).1 ≠ 1 ∧ (mineF l rep reg pla).2.2 = [] ∨ (mineF l rep reg pla).1 = 1 ∧ mayTg (mineF l rep reg pla).2.1 = true ∧ (mineF l rep reg pla).2.2.length ≤ roomN l.length := by
  unfold mineF
  split
  · exact .inl ⟨rfl, by decide, rfl⟩
  · exact open_tag l
section
variable {B g gp : Nat} {wv : Value} {d : Dk} {w : World}
theorem copy_tag (h : DiskB B g gp wv d w) (rep reg i : Int) : (copyC d rep reg i).tg = zeroTg ∧ (copyC d rep reg i).st ≠ 1 ∧ (copyC d rep reg i).body = [] ∨ (copyC d rep reg i).st = 1 ∧ mayTg (copyC d rep reg i).tg = true ∧ (copyC d rep reg i).body.length ≤ 43 := by
  rcases mine_tag (readD d (firstN reg i)).1 rep reg i with hh | ⟨h1, h2, h3⟩
  · exact .inl hh
  · refine .inr ⟨h1, h2, Nat.le_trans h3 ?_⟩
    have := read_len h (firstN reg i)
    by_cases h0 : (readD d (firstN reg i)).2 = 0
    · rw [this.1 h0]; decide
    · rw [this.2 h0]; decide
theorem copy_idx (h : DiskB B g gp wv d w) (rep reg i : Int) : 0 ≤ (copyC d rep reg i).tg.idx ∧ (copyC d rep reg i).tg.idx ≤ 1099511627776 := by
  rcases copy_tag h rep reg i with ⟨h1, _⟩ | ⟨_, h1, _⟩
  · rw [h1]; decide
  · obtain ⟨_, _, _, _, a, b, _⟩ := mayTg_parts h1
    exact ⟨a, b⟩
theorem copen_any (h : DiskB B g gp wv d w) (rep reg : Int) : Calls Tryd.prog 60 #[.pointer (some ⟨g, 0, none⟩), .int .i64 rep, .int .i64 reg] w fun e w' => OpenRes w.heap.size g d rep reg e w' ∧ Below w.heap.size w w' := by
  by_cases ho : openC d rep reg = 0
  · exact copen_ok h rep reg ho
  · exact copen_err h rep reg ho
theorem copen_bad (h : DiskB B g gp wv d w) (rep reg : Int) (ho : openC d rep reg ≠ 0) : Calls Tryd.prog 60 #[.pointer (some ⟨g, 0, none⟩), .int .i64 rep, .int .i64 reg] w fun e w' => e = .returned (.tuple #[.pointer none, .int .i64 (openC d rep reg)]) ∧ Below w.heap.size w w' := by
  refine (copen_err h rep reg ho).mono ?_
  rintro e w' ⟨hr, hb⟩
  unfold OpenRes at hr
  rw [if_neg ho] at hr
  exact ⟨hr, hb⟩
theorem copen_good (h : DiskB B g gp wv d w) (rep reg : Int) (ho : openC d rep reg = 0) : Calls Tryd.prog 60 #[.pointer (some ⟨g, 0, none⟩), .int .i64 rep, .int .i64 reg] w fun e w' => (∃ q a0 k0 a1 k1, e = .returned (.tuple #[.pointer (some ⟨q, 0, none⟩), .int .i64 0]) ∧ w.heap.size ≤ q ∧
    w'.heap[q]? = some (.cells (ceA g rep reg (copyC d rep reg 0).st (copyC d rep reg 0).tg (.slice a0 (copyC d rep reg 0).body.length k0) (copyC d rep reg 1).st (copyC d rep reg 1).tg (.slice a1 (copyC d rep reg 1).body.length k1)) 126 (0, 0)) ∧
    OwnB w' w.heap.size a0 k0 (copyC d rep reg 0).body ∧ OwnB w' w.heap.size a1 k1 (copyC d rep reg 1).body) ∧ Below w.heap.size w w' := by
  refine (copen_ok h rep reg ho).mono ?_
  rintro e w' ⟨hr, hb⟩
  unfold OpenRes at hr
  rw [if_pos ho] at hr
  exact ⟨hr, hb⟩
/-- What Load hands back. -/
def LoadRes (base : Nat) (r : Int × List UInt8 × Int) (e : Ending) (w' : World) : Prop := ∃ a c, e = .returned (.tuple #[.int .i64 r.1, .slice a r.2.1.length c, .int .i64 r.2.2]) ∧ OwnB w' base a c r.2.1
set_option maxRecDepth 100000 in
set_option maxHeartbeats 1000000 in
theorem cload_any (h : DiskB B g gp wv d w) (rep reg : Int) : Calls Tryd.prog 25 #[.pointer (some ⟨g, 0, none⟩), .int .i64 rep, .int .i64 reg] w fun e w' => LoadRes w.heap.size (loadC d rep reg) e w' ∧ Below w.heap.size w w' := by
  unfold loadC
  by_cases ho : openC d rep reg = 0
  case neg =>
    rw [if_pos ho]
    have hop := copen_bad h rep reg ho
    generalize openC d rep reg = x at *
    have e1 : (x != 0) = true := by rw [bne_iff_ne]; exact ho
    clear ho
    go_enter Tryd.func25, Tryd.ntmps25
    go_wp2_with (go_at_call 60; refine hop.mono ?_; rintro e w1 ⟨rfl, hb1⟩)
    go_ret3
    exact ⟨⟨none, 0, rfl, OwnB.none _ _⟩, hb1⟩
  case pos =>
    rw [if_neg (by simpa using ho)]
    have hop := copen_good h rep reg ho
    unfold pickC
    generalize copyC d rep reg 0 = c0 at *
    generalize copyC d rep reg 1 = c1 at *
    have hlt := loaded_lt c0 c1
    have hlo := fun q a0 n0 k0 a1 n1 k1 w => loaded_any q g rep reg c0 c1 a0 a1 n0 k0 n1 k1 w
    obtain ⟨i, ok, er, hld⟩ : ∃ i ok er, loadedC c0 c1 = (i, ok, er) := ⟨_, _, _, rfl⟩
    rw [hld] at hlt
    simp only [hld] at hlo ⊢
    simp only at hlt
    clear hld ho
    cases ok
    case false =>
      rw [if_pos rfl]
      go_enter Tryd.func25, Tryd.ntmps25
      go_wp2_with (first
        | (go_at_call 60; refine hop.mono ?_; rintro e w1 ⟨⟨q, a0, k0, a1, k1, rfl, hq, Q1, o0, o1⟩, hb1⟩)
        | (go_at_call 61; refine (hlo q a0 _ k0 a1 _ k1 _ Q1).mono ?_; rintro e w2 ⟨rfl, hb2⟩; have hb3 := hb1.trans (hb2.mono hb1.size)))
      go_ret3
      exact ⟨⟨none, 0, rfl, OwnB.none _ _⟩, hb3⟩
    case true =>
      rw [if_neg (by simp)]
      go_enter Tryd.func25, Tryd.ntmps25
      refine wp_seq_k (fun K hK => ?_)
      have HK := Lib.hid hK
      clear hK
      go_wp2
      refine HK.out _ _ ?_
      clear HK
      refine wp_seq_k (fun K hK => ?_)
      have HK := Lib.hid hK
      clear hK
      go_wp2_with (go_at_call 60; refine hop.mono ?_; rintro e w1 ⟨⟨q, a0, k0, a1, k1, rfl, hq, Q1, o0, o1⟩, hb1⟩)
      refine HK.out _ _ ?_
      clear HK
      refine wp_seq_k (fun K hK => ?_)
      have HK := Lib.hid hK
      clear hK
      go_wp2
      refine HK.out _ _ ?_
      clear HK
      refine wp_seq_k (fun K hK => ?_)
      have HK := Lib.hid hK
      clear hK
      go_wp2_with (go_at_call 61; refine (hlo q a0 _ k0 a1 _ k1 _ Q1).mono ?_; rintro e w2 ⟨rfl, hb2⟩; have hb3 := hb1.trans (hb2.mono hb1.size); have Q2 := tr_bl hb2 Q1; have p0 := o0.below hb2; have p1 := o1.below hb2)
      refine HK.out _ _ ?_
      clear HK
      refine wp_seq_k (fun K hK => ?_)
      have HK := Lib.hid hK
      clear hK
      go_wp2
      refine HK.out _ _ ?_
      clear HK
      clear Q1 o0 o1 hb1 hb2 hlo hop
      rcases (show i = 0 ∨ i = 1 by omega) with rfl | rfl
      · rw [if_neg (by omega)]
        refine wp_seq_k (fun K hK => ?_)
        have HK := Lib.hid hK
        clear hK
        go_wp2_with fail
        have hbd := (Below.refl w2.heap.size w2).drew
        have Q3 := tr_bl hbd Q2
        have o3 := p0.below hbd
        have hb4 := hb3.trans (hbd.mono hb3.size)
        refine wp_region_held_drew (S := fun w' => w'.heap[q]? = some (.cells (ceA g rep reg c0.st c0.tg (.slice a0 c0.body.length k0) c1.st c1.tg (.slice a1 c1.body.length k1)) 126 (0, 0))) (by kernel_rfl) Q3 (fun hS0 => ?_)
        clear hbd Q2 hb3
        generalize w2.drew = x0 at *
        refine wpAnyH_take (i := 0) (oi := ⟨_, _, _, _, _, _⟩) (v := ?_) rfl (by kernel_rfl) (by kernel_rfl) (by kernel_rfl) (fun _ _ _ h => h) (Or.inl ⟨by rfl, ?_⟩) (by assumption) ?_
        rotate_left
        · intro wS hSw
          go_simp; (try with_reducible rfl)
        (try simp only [Act.put])
        (try simp only [List.setIfInBounds_toArray])
        (try simp only [List.set_cons_succ])
        (try simp only [List.set_cons_zero])
        refine wpAnyH_take (i := 1) (oi := ⟨_, _, _, _, _, _⟩) (v := ?_) rfl (by kernel_rfl) (by kernel_rfl) (by kernel_rfl) (fun _ _ _ h => h) (Or.inl ⟨by rfl, ?_⟩) (by assumption) ?_
        rotate_left
        · intro wS hSw
          go_simp; (try with_reducible rfl)
        (try simp only [Act.put])
        (try simp only [List.setIfInBounds_toArray])
        (try simp only [List.set_cons_succ])
        (try simp only [List.set_cons_zero])
        refine wpAnyH_take (i := 2) (oi := ⟨_, _, _, _, _, _⟩) (v := ?_) rfl (by kernel_rfl) (by kernel_rfl) (by kernel_rfl) (fun _ _ _ h => h) (Or.inl ⟨by rfl, ?_⟩) (by assumption) ?_
        rotate_left
        · intro wS hSw
          go_simp; (try with_reducible rfl)
        (try simp only [Act.put])
        (try simp only [List.setIfInBounds_toArray])
        (try simp only [List.set_cons_succ])
        (try simp only [List.set_cons_zero])
        refine wpAnyH_take (i := 3) (oi := ⟨_, _, _, _, _, _⟩) (v := ?_) rfl (by kernel_rfl) (by kernel_rfl) (by kernel_rfl) (fun _ _ _ h => h) (Or.inl ⟨by rfl, ?_⟩) (by assumption) ?_
        rotate_left
        · intro wS hSw
          go_simp; (try with_reducible rfl)
        (try simp only [Act.put])
        (try simp only [List.setIfInBounds_toArray])
        (try simp only [List.set_cons_succ])
        (try simp only [List.set_cons_zero])
        refine wpAnyH_take (i := 4) (oi := ⟨_, _, _, _, _, _⟩) (v := ?_) rfl (by kernel_rfl) (by kernel_rfl) (by kernel_rfl) (fun _ _ _ h => h) (Or.inl ⟨by rfl, ?_⟩) (by assumption) ?_
        rotate_left
        · intro wS hSw
          go_simp; (try with_reducible rfl)
        (try simp only [Act.put])
        (try simp only [List.setIfInBounds_toArray])
        (try simp only [List.set_cons_succ])
        (try simp only [List.set_cons_zero])
        refine wpAnyH_take (i := 5) (oi := ⟨_, _, _, _, _, _⟩) (v := ?_) rfl (by kernel_rfl) (by kernel_rfl) (by kernel_rfl) (fun _ _ _ h => h) (Or.inl ⟨by rfl, ?_⟩) (by assumption) ?_
        rotate_left
        · intro wS hSw
          go_simp; (try with_reducible rfl)
        (try simp only [Act.put])
        (try simp only [List.setIfInBounds_toArray])
        (try simp only [List.set_cons_succ])
        (try simp only [List.set_cons_zero])
        refine wpAnyH_take (i := 6) (oi := ⟨_, _, _, _, _, _⟩) (v := ?_) rfl (by kernel_rfl) (by kernel_rfl) (by kernel_rfl) (fun _ _ _ h => h) (Or.inl ⟨by rfl, ?_⟩) (by assumption) ?_
        rotate_left
        · intro wS hSw
          go_simp; (try with_reducible rfl)
        (try simp only [Act.put])
        (try simp only [List.setIfInBounds_toArray])
        (try simp only [List.set_cons_succ])
        (try simp only [List.set_cons_zero])
        refine wpAnyH_take (i := 7) (oi := ⟨_, _, _, _, _, _⟩) (v := ?_) rfl (by kernel_rfl) (by kernel_rfl) (by kernel_rfl) (fun _ _ _ h => h) (Or.inl ⟨by rfl, ?_⟩) (by assumption) ?_
        rotate_left
        · intro wS hSw
          have c := ceA_7 hSw; go_simp; (try with_reducible rfl)
        (try simp only [Act.put])
        (try simp only [List.setIfInBounds_toArray])
        (try simp only [List.set_cons_succ])
        (try simp only [List.set_cons_zero])
        refine wpAnyH_take (i := 8) (oi := ⟨_, _, _, _, _, _⟩) (v := ?_) rfl (by kernel_rfl) (by kernel_rfl) (by kernel_rfl) (fun _ _ _ h => h) (Or.inl ⟨by rfl, ?_⟩) (by assumption) ?_
        rotate_left
        · intro wS hSw
          go_simp; (try with_reducible rfl)
        (try simp only [Act.put])
        (try simp only [List.setIfInBounds_toArray])
        (try simp only [List.set_cons_succ])
        (try simp only [List.set_cons_zero])
        refine wpAnyH_take (i := 9) (oi := ⟨_, _, _, _, _, _⟩) (v := ?_) rfl (by kernel_rfl) (by kernel_rfl) (by kernel_rfl) (fun _ _ _ h => h) (Or.inl ⟨by rfl, ?_⟩) (by assumption) ?_
        rotate_left
        · intro wS hSw
          go_simp; (try with_reducible rfl)
        (try simp only [Act.put])
        (try simp only [List.setIfInBounds_toArray])
        (try simp only [List.set_cons_succ])
        (try simp only [List.set_cons_zero])
        refine wpAnyH_take (i := 10) (oi := ⟨_, _, _, _, _, _⟩) (v := ?_) rfl (by kernel_rfl) (by kernel_rfl) (by kernel_rfl) (fun _ _ _ h => h) (Or.inl ⟨by rfl, ?_⟩) (by assumption) ?_
        rotate_left
        · intro wS hSw
          go_simp; (try with_reducible rfl)
        (try simp only [Act.put])
        (try simp only [List.setIfInBounds_toArray])
        (try simp only [List.set_cons_succ])
        (try simp only [List.set_cons_zero])
        refine wpAnyH_take (i := 11) (oi := ⟨_, _, _, _, _, _⟩) (v := ?_) rfl (by kernel_rfl) (by kernel_rfl) (by kernel_rfl) (fun _ _ _ h => h) (Or.inl ⟨by rfl, ?_⟩) (by assumption) ?_
        rotate_left
        · intro wS hSw
          go_simp; (try with_reducible rfl)
        (try simp only [Act.put])
        (try simp only [List.setIfInBounds_toArray])
        (try simp only [List.set_cons_succ])
        (try simp only [List.set_cons_zero])
        refine wpAnyH_take (i := 12) (oi := ⟨_, _, _, _, _, _⟩) (v := ?_) rfl (by kernel_rfl) (by kernel_rfl) (by kernel_rfl) (fun _ _ _ h => h) (Or.inl ⟨by rfl, ?_⟩) (by assumption) ?_
        rotate_left
        · intro wS hSw
          go_simp; (try with_reducible rfl)
        (try simp only [Act.put])
        (try simp only [List.setIfInBounds_toArray])
        (try simp only [List.set_cons_succ])
        (try simp only [List.set_cons_zero])
        refine wpAnyH_take (i := 13) (oi := ⟨_, _, _, _, _, _⟩) (v := ?_) rfl (by kernel_rfl) (by kernel_rfl) (by kernel_rfl) (fun _ _ _ h => h) (Or.inl ⟨by rfl, ?_⟩) (by assumption) ?_
        rotate_left
        · intro wS hSw
          go_simp; (try with_reducible rfl)
        (try simp only [Act.put])
        (try simp only [List.setIfInBounds_toArray])
        (try simp only [List.set_cons_succ])
        (try simp only [List.set_cons_zero])
        refine wpAnyH_take (i := 14) (oi := ⟨_, _, _, _, _, _⟩) (v := ?_) rfl (by kernel_rfl) (by kernel_rfl) (by kernel_rfl) (fun _ _ _ h => h) (Or.inl ⟨by rfl, ?_⟩) (by assumption) ?_
        rotate_left
        · intro wS hSw
          have c := ceA_9 hSw; go_simp; (try with_reducible rfl)
        (try simp only [Act.put])
        (try simp only [List.setIfInBounds_toArray])
        (try simp only [List.set_cons_succ])
        (try simp only [List.set_cons_zero])
        refine wpAnyH_take (i := 15) (oi := ⟨_, _, _, _, _, _⟩) (v := ?_) rfl (by kernel_rfl) (by kernel_rfl) (by kernel_rfl) (fun _ _ _ h => h) (Or.inl ⟨by rfl, ?_⟩) (by assumption) ?_
        rotate_left
        · intro wS hSw
          go_simp; (try with_reducible rfl)
        (try simp only [Act.put])
        (try simp only [List.setIfInBounds_toArray])
        (try simp only [List.set_cons_succ])
        (try simp only [List.set_cons_zero])
        refine wpAnyH_take (i := 16) (oi := ⟨_, _, _, _, _, _⟩) (v := ?_) rfl (by kernel_rfl) (by kernel_rfl) (by kernel_rfl) (fun _ _ _ h => h) (Or.inl ⟨by rfl, ?_⟩) (by assumption) ?_
        rotate_left
        · intro wS hSw
          go_simp; (try with_reducible rfl)
        (try simp only [Act.put])
        (try simp only [List.setIfInBounds_toArray])
        (try simp only [List.set_cons_succ])
        (try simp only [List.set_cons_zero])
        refine wpAnyH_take (i := 17) (oi := ⟨_, _, _, _, _, _⟩) (v := ?_) rfl (by kernel_rfl) (by kernel_rfl) (by kernel_rfl) (fun _ _ _ h => h) (Or.inl ⟨by rfl, ?_⟩) (by assumption) ?_
        rotate_left
        · intro wS hSw
          go_simp; (try with_reducible rfl)
        (try simp only [Act.put])
        (try simp only [List.setIfInBounds_toArray])
        (try simp only [List.set_cons_succ])
        (try simp only [List.set_cons_zero])
        refine wpAnyH_done (by kernel_rfl) ?_ _
        refine HK.out _ _ ?_
        clear HK
        go_wp2
        go_ret3
        exact ⟨⟨_, _, rfl, o3⟩, hb4⟩
      · rw [if_pos rfl]
        refine wp_seq_k (fun K hK => ?_)
        have HK := Lib.hid hK
        clear hK
        go_wp2_with fail
        have hbd := (Below.refl w2.heap.size w2).drew
        have Q3 := tr_bl hbd Q2
        have o3 := p1.below hbd
        have hb4 := hb3.trans (hbd.mono hb3.size)
        refine wp_region_held_drew (S := fun w' => w'.heap[q]? = some (.cells (ceA g rep reg c0.st c0.tg (.slice a0 c0.body.length k0) c1.st c1.tg (.slice a1 c1.body.length k1)) 126 (0, 0))) (by kernel_rfl) Q3 (fun hS0 => ?_)
        clear hbd Q2 hb3
        generalize w2.drew = x0 at *
        refine wpAnyH_take (i := 0) (oi := ⟨_, _, _, _, _, _⟩) (v := ?_) rfl (by kernel_rfl) (by kernel_rfl) (by kernel_rfl) (fun _ _ _ h => h) (Or.inl ⟨by rfl, ?_⟩) (by assumption) ?_
        rotate_left
        · intro wS hSw
          go_simp; (try with_reducible rfl)
        (try simp only [Act.put])
        (try simp only [List.setIfInBounds_toArray])
        (try simp only [List.set_cons_succ])
        (try simp only [List.set_cons_zero])
        refine wpAnyH_take (i := 1) (oi := ⟨_, _, _, _, _, _⟩) (v := ?_) rfl (by kernel_rfl) (by kernel_rfl) (by kernel_rfl) (fun _ _ _ h => h) (Or.inl ⟨by rfl, ?_⟩) (by assumption) ?_
        rotate_left
        · intro wS hSw
          go_simp; (try with_reducible rfl)
        (try simp only [Act.put])
        (try simp only [List.setIfInBounds_toArray])
        (try simp only [List.set_cons_succ])
        (try simp only [List.set_cons_zero])
        refine wpAnyH_take (i := 2) (oi := ⟨_, _, _, _, _, _⟩) (v := ?_) rfl (by kernel_rfl) (by kernel_rfl) (by kernel_rfl) (fun _ _ _ h => h) (Or.inl ⟨by rfl, ?_⟩) (by assumption) ?_
        rotate_left
        · intro wS hSw
          go_simp; (try with_reducible rfl)
        (try simp only [Act.put])
        (try simp only [List.setIfInBounds_toArray])
        (try simp only [List.set_cons_succ])
        (try simp only [List.set_cons_zero])
        refine wpAnyH_take (i := 3) (oi := ⟨_, _, _, _, _, _⟩) (v := ?_) rfl (by kernel_rfl) (by kernel_rfl) (by kernel_rfl) (fun _ _ _ h => h) (Or.inl ⟨by rfl, ?_⟩) (by assumption) ?_
        rotate_left
        · intro wS hSw
          go_simp; (try with_reducible rfl)
        (try simp only [Act.put])
        (try simp only [List.setIfInBounds_toArray])
        (try simp only [List.set_cons_succ])
        (try simp only [List.set_cons_zero])
        refine wpAnyH_take (i := 4) (oi := ⟨_, _, _, _, _, _⟩) (v := ?_) rfl (by kernel_rfl) (by kernel_rfl) (by kernel_rfl) (fun _ _ _ h => h) (Or.inl ⟨by rfl, ?_⟩) (by assumption) ?_
        rotate_left
        · intro wS hSw
          go_simp; (try with_reducible rfl)
        (try simp only [Act.put])
        (try simp only [List.setIfInBounds_toArray])
        (try simp only [List.set_cons_succ])
        (try simp only [List.set_cons_zero])
        refine wpAnyH_take (i := 5) (oi := ⟨_, _, _, _, _, _⟩) (v := ?_) rfl (by kernel_rfl) (by kernel_rfl) (by kernel_rfl) (fun _ _ _ h => h) (Or.inl ⟨by rfl, ?_⟩) (by assumption) ?_
        rotate_left
        · intro wS hSw
          go_simp; (try with_reducible rfl)
        (try simp only [Act.put])
        (try simp only [List.setIfInBounds_toArray])
        (try simp only [List.set_cons_succ])
        (try simp only [List.set_cons_zero])
        refine wpAnyH_take (i := 6) (oi := ⟨_, _, _, _, _, _⟩) (v := ?_) rfl (by kernel_rfl) (by kernel_rfl) (by kernel_rfl) (fun _ _ _ h => h) (Or.inl ⟨by rfl, ?_⟩) (by assumption) ?_
        rotate_left
        · intro wS hSw
          go_simp; (try with_reducible rfl)
        (try simp only [Act.put])
        (try simp only [List.setIfInBounds_toArray])
        (try simp only [List.set_cons_succ])
        (try simp only [List.set_cons_zero])
        refine wpAnyH_take (i := 7) (oi := ⟨_, _, _, _, _, _⟩) (v := ?_) rfl (by kernel_rfl) (by kernel_rfl) (by kernel_rfl) (fun _ _ _ h => h) (Or.inl ⟨by rfl, ?_⟩) (by assumption) ?_
        rotate_left
        · intro wS hSw
          have c := ceA_14 hSw; go_simp; (try with_reducible rfl)
        (try simp only [Act.put])
        (try simp only [List.setIfInBounds_toArray])
        (try simp only [List.set_cons_succ])
        (try simp only [List.set_cons_zero])
        refine wpAnyH_take (i := 8) (oi := ⟨_, _, _, _, _, _⟩) (v := ?_) rfl (by kernel_rfl) (by kernel_rfl) (by kernel_rfl) (fun _ _ _ h => h) (Or.inl ⟨by rfl, ?_⟩) (by assumption) ?_
        rotate_left
        · intro wS hSw
          go_simp; (try with_reducible rfl)
        (try simp only [Act.put])
        (try simp only [List.setIfInBounds_toArray])
        (try simp only [List.set_cons_succ])
        (try simp only [List.set_cons_zero])
        refine wpAnyH_take (i := 9) (oi := ⟨_, _, _, _, _, _⟩) (v := ?_) rfl (by kernel_rfl) (by kernel_rfl) (by kernel_rfl) (fun _ _ _ h => h) (Or.inl ⟨by rfl, ?_⟩) (by assumption) ?_
        rotate_left
        · intro wS hSw
          go_simp; (try with_reducible rfl)
        (try simp only [Act.put])
        (try simp only [List.setIfInBounds_toArray])
        (try simp only [List.set_cons_succ])
        (try simp only [List.set_cons_zero])
        refine wpAnyH_take (i := 10) (oi := ⟨_, _, _, _, _, _⟩) (v := ?_) rfl (by kernel_rfl) (by kernel_rfl) (by kernel_rfl) (fun _ _ _ h => h) (Or.inl ⟨by rfl, ?_⟩) (by assumption) ?_
        rotate_left
        · intro wS hSw
          go_simp; (try with_reducible rfl)
        (try simp only [Act.put])
        (try simp only [List.setIfInBounds_toArray])
        (try simp only [List.set_cons_succ])
        (try simp only [List.set_cons_zero])
        refine wpAnyH_take (i := 11) (oi := ⟨_, _, _, _, _, _⟩) (v := ?_) rfl (by kernel_rfl) (by kernel_rfl) (by kernel_rfl) (fun _ _ _ h => h) (Or.inl ⟨by rfl, ?_⟩) (by assumption) ?_
        rotate_left
        · intro wS hSw
          go_simp; (try with_reducible rfl)
        (try simp only [Act.put])
        (try simp only [List.setIfInBounds_toArray])
        (try simp only [List.set_cons_succ])
        (try simp only [List.set_cons_zero])
        refine wpAnyH_take (i := 12) (oi := ⟨_, _, _, _, _, _⟩) (v := ?_) rfl (by kernel_rfl) (by kernel_rfl) (by kernel_rfl) (fun _ _ _ h => h) (Or.inl ⟨by rfl, ?_⟩) (by assumption) ?_
        rotate_left
        · intro wS hSw
          go_simp; (try with_reducible rfl)
        (try simp only [Act.put])
        (try simp only [List.setIfInBounds_toArray])
        (try simp only [List.set_cons_succ])
        (try simp only [List.set_cons_zero])
        refine wpAnyH_take (i := 13) (oi := ⟨_, _, _, _, _, _⟩) (v := ?_) rfl (by kernel_rfl) (by kernel_rfl) (by kernel_rfl) (fun _ _ _ h => h) (Or.inl ⟨by rfl, ?_⟩) (by assumption) ?_
        rotate_left
        · intro wS hSw
          go_simp; (try with_reducible rfl)
        (try simp only [Act.put])
        (try simp only [List.setIfInBounds_toArray])
        (try simp only [List.set_cons_succ])
        (try simp only [List.set_cons_zero])
        refine wpAnyH_take (i := 14) (oi := ⟨_, _, _, _, _, _⟩) (v := ?_) rfl (by kernel_rfl) (by kernel_rfl) (by kernel_rfl) (fun _ _ _ h => h) (Or.inl ⟨by rfl, ?_⟩) (by assumption) ?_
        rotate_left
        · intro wS hSw
          have c := ceA_16 hSw; go_simp; (try with_reducible rfl)
        (try simp only [Act.put])
        (try simp only [List.setIfInBounds_toArray])
        (try simp only [List.set_cons_succ])
        (try simp only [List.set_cons_zero])
        refine wpAnyH_take (i := 15) (oi := ⟨_, _, _, _, _, _⟩) (v := ?_) rfl (by kernel_rfl) (by kernel_rfl) (by kernel_rfl) (fun _ _ _ h => h) (Or.inl ⟨by rfl, ?_⟩) (by assumption) ?_
        rotate_left
        · intro wS hSw
          go_simp; (try with_reducible rfl)
        (try simp only [Act.put])
        (try simp only [List.setIfInBounds_toArray])
        (try simp only [List.set_cons_succ])
        (try simp only [List.set_cons_zero])
        refine wpAnyH_take (i := 16) (oi := ⟨_, _, _, _, _, _⟩) (v := ?_) rfl (by kernel_rfl) (by kernel_rfl) (by kernel_rfl) (fun _ _ _ h => h) (Or.inl ⟨by rfl, ?_⟩) (by assumption) ?_
        rotate_left
        · intro wS hSw
          go_simp; (try with_reducible rfl)
        (try simp only [Act.put])
        (try simp only [List.setIfInBounds_toArray])
        (try simp only [List.set_cons_succ])
        (try simp only [List.set_cons_zero])
        refine wpAnyH_take (i := 17) (oi := ⟨_, _, _, _, _, _⟩) (v := ?_) rfl (by kernel_rfl) (by kernel_rfl) (by kernel_rfl) (fun _ _ _ h => h) (Or.inl ⟨by rfl, ?_⟩) (by assumption) ?_
        rotate_left
        · intro wS hSw
          go_simp; (try with_reducible rfl)
        (try simp only [Act.put])
        (try simp only [List.setIfInBounds_toArray])
        (try simp only [List.set_cons_succ])
        (try simp only [List.set_cons_zero])
        refine wpAnyH_done (by kernel_rfl) ?_ _
        refine HK.out _ _ ?_
        clear HK
        go_wp2
        go_ret3
        exact ⟨⟨_, _, rfl, o3⟩, hb4⟩
end
end Go.Proofs.YtejjneamngkmoaaDoor

namespace Go.Proofs.YtejjneamngkmoaaDoor
open Go.RowKit

section
variable {B g gp : Nat} {wv : Value} {d : Dk} {w : World}
theorem copen_w (h : DiskB B g gp wv d w) (rep reg : Int) : Calls Tryd.prog 60 #[.pointer (some ⟨g, 0, none⟩), .int .i64 rep, .int .i64 reg] w fun e w' => (∃ p, e = .returned (.tuple #[.pointer p, .int .i64 (openC d rep reg)])) ∧ Below w.heap.size w w' := by
  by_cases ho : openC d rep reg = 0
  · refine (copen_good h rep reg ho).mono ?_
    rintro e w' ⟨⟨q, _, _, _, _, rfl, _⟩, hb⟩
    exact ⟨⟨_, by rw [ho]⟩, hb⟩
  · refine (copen_bad h rep reg ho).mono ?_
    rintro e w' ⟨rfl, hb⟩
    exact ⟨⟨_, rfl⟩, hb⟩
theorem loaded_ok {c0 c1 : Cp} {i : Nat} {ok : Bool} {er : Int} (h : loadedC c0 c1 = (i, ok, er)) : i < 2 ∧ (ok = false → i = 0) ∧ (ok = true → er = 0) := by
  have hlt := loaded_lt c0 c1
  rw [h] at hlt
  refine ⟨hlt, ?_, ?_⟩
  all_goals
    rintro rfl
    unfold loadedC at h
    split at h
    · cases h <;> rfl
    · split at h
      · cases h <;> rfl
      · split at h <;> cases h <;> rfl
theorem flush_waits {d : Dk} (h : (flushD d).2 = 0) : (flushD d).1.waits = [] := by
  unfold flushD at h ⊢
  by_cases h0 : live0 d = 0
  · rw [if_neg (by simpa using h0)] at h ⊢
    by_cases h1 : (spendD d).2 = 0
    · rw [if_neg (by simpa using h1)]
    · rw [if_pos h1] at h
      exact absurd h h1
  · rw [if_pos h0] at h
    exact absurd h h0
theorem put_waits {d : Dk} {t : Tg} {body : List UInt8} (h : (putC d t body).2 = 0) : (putC d t body).1.waits = [] := by
  unfold putC at h ⊢
  by_cases h0 : (writeD d (firstN t.reg t.pla) (sealF t body 64)).2 = 0
  · rw [if_neg (by simpa using h0)] at h ⊢
    exact flush_waits h
  · rw [if_pos h0] at h
    exact absurd h h0
set_option maxRecDepth 100000 in
set_option maxHeartbeats 1000000 in
theorem cstore_err (h : DiskB B g gp wv d w) (hb : B ≤ w.heap.size) (rep reg inc : Int) (a : Option Addr) (c : Nat) (body : List UInt8) (hl : body.length ≤ 1000) (hx : openC d rep reg ≠ 0 ∨ inc < 1 ∨ 1099511627776 < inc ∨ 43 < body.length) :
    Calls Tryd.prog 38 #[.pointer (some ⟨g, 0, none⟩), .int .i64 rep, .int .i64 reg, .int .i64 inc, .slice a body.length c] w fun e w' => e = .returned (.int .i64 (storeC d rep reg inc body).2) ∧ (∃ wv', DiskB B g gp wv' (storeC d rep reg inc body).1 w') ∧ Kt B w w' := by
  have hop := copen_w h rep reg
  unfold storeC
  simp only
  generalize openC d rep reg = x at *
  by_cases h1 : x ≠ 0 ∧ x ≠ 5
  case pos =>
    rw [if_pos h1]
    have e1 : (x != 0) = true := by rw [bne_iff_ne]; exact h1.1
    have e2 : (x != 5) = true := by rw [bne_iff_ne]; exact h1.2
    clear h1 hx
    go_enter Tryd.func38, Tryd.ntmps38
    go_wp2_with (first
      | (go_at_call 60; refine hop.mono ?_; rintro e w1 ⟨⟨p, rfl⟩, hb1⟩)
      | (go_at_call 73; refine (room_any 1 _).mono ?_; rintro e w2 ⟨rfl, rfl⟩))
    go_ret
    exact ⟨rfl, ⟨_, h.below hb1⟩, Kt.of hb1 hb⟩
  case neg =>
    rw [if_neg h1]
    have hx2 : x = 0 ∨ x = 5 := by omega
    clear h1
    by_cases h2 : inc < 1
    case pos =>
      rw [if_pos (.inl h2)]
      clear hx
      rcases hx2 with rfl | rfl
      · skip
        go_enter Tryd.func38, Tryd.ntmps38
        go_wp2_with (first
          | (go_at_call 60; refine hop.mono ?_; rintro e w1 ⟨⟨p, rfl⟩, hb1⟩)
          | (go_at_call 73; refine (room_any 1 _).mono ?_; rintro e w2 ⟨rfl, rfl⟩))
        go_ret
        exact ⟨rfl, ⟨_, h.below hb1⟩, Kt.of hb1 hb⟩
      · skip
        go_enter Tryd.func38, Tryd.ntmps38
        go_wp2_with (first
          | (go_at_call 60; refine hop.mono ?_; rintro e w1 ⟨⟨p, rfl⟩, hb1⟩)
          | (go_at_call 73; refine (room_any 1 _).mono ?_; rintro e w2 ⟨rfl, rfl⟩))
        go_ret
        exact ⟨rfl, ⟨_, h.below hb1⟩, Kt.of hb1 hb⟩
    case neg =>
      by_cases h3 : 1099511627776 < inc
      case pos =>
        rw [if_pos (.inr h3)]
        clear hx
        rcases hx2 with rfl | rfl
        · skip
          go_enter Tryd.func38, Tryd.ntmps38
          go_wp2_with (first
            | (go_at_call 60; refine hop.mono ?_; rintro e w1 ⟨⟨p, rfl⟩, hb1⟩)
            | (go_at_call 73; refine (room_any 1 _).mono ?_; rintro e w2 ⟨rfl, rfl⟩))
          go_ret
          exact ⟨rfl, ⟨_, h.below hb1⟩, Kt.of hb1 hb⟩
        · skip
          go_enter Tryd.func38, Tryd.ntmps38
          go_wp2_with (first
            | (go_at_call 60; refine hop.mono ?_; rintro e w1 ⟨⟨p, rfl⟩, hb1⟩)
            | (go_at_call 73; refine (room_any 1 _).mono ?_; rintro e w2 ⟨rfl, rfl⟩))
          go_ret
          exact ⟨rfl, ⟨_, h.below hb1⟩, Kt.of hb1 hb⟩
      case neg =>
        rw [if_neg (by omega)]
        by_cases h4 : 43 < body.length
        case pos =>
          rw [if_pos h4]
          have h4i : (43 : Int) < body.length := by omega
          clear hx
          rcases hx2 with rfl | rfl
          · skip
            go_enter Tryd.func38, Tryd.ntmps38
            go_wp2_with (first
              | (go_at_call 60; refine hop.mono ?_; rintro e w1 ⟨⟨p, rfl⟩, hb1⟩)
              | (go_at_call 73; refine (room_any 1 _).mono ?_; rintro e w2 ⟨rfl, rfl⟩))
            go_ret
            exact ⟨rfl, ⟨_, h.below hb1⟩, Kt.of hb1 hb⟩
          · skip
            go_enter Tryd.func38, Tryd.ntmps38
            go_wp2_with (first
              | (go_at_call 60; refine hop.mono ?_; rintro e w1 ⟨⟨p, rfl⟩, hb1⟩)
              | (go_at_call 73; refine (room_any 1 _).mono ?_; rintro e w2 ⟨rfl, rfl⟩))
            go_ret
            exact ⟨rfl, ⟨_, h.below hb1⟩, Kt.of hb1 hb⟩
        case neg =>
          rw [if_neg h4]
          have h4i : ¬ (43 : Int) < body.length := by omega
          rcases hx2 with rfl | rfl
          · exfalso
            omega
          · rw [if_pos (by decide)]
            clear hx
            go_enter Tryd.func38, Tryd.ntmps38
            go_wp2_with (first
              | (go_at_call 60; refine hop.mono ?_; rintro e w1 ⟨⟨p, rfl⟩, hb1⟩)
              | (go_at_call 73; refine (room_any 1 _).mono ?_; rintro e w2 ⟨rfl, rfl⟩))
            go_ret
            exact ⟨rfl, ⟨_, h.below hb1⟩, Kt.of hb1 hb⟩
end
end Go.Proofs.YtejjneamngkmoaaDoor

namespace Go.Proofs.YtejjneamngkmoaaDoor
open Go.RowKit

section
variable {B g gp : Nat} {wv : Value} {d : Dk} {w : World}
theorem room1 (w : World) : Calls Tryd.prog 73 #[.int .i64 1] w fun e w' => e = .returned (.int .i64 43) ∧ w = w' := room_any 1 w
set_option maxRecDepth 100000 in
set_option maxHeartbeats 2000000 in
theorem cstore_ok (h : DiskB B g gp wv d w) (hb : B ≤ w.heap.size) (rep reg inc : Int) (a : Option Addr) (c : Nat) (body : List UInt8) (hs : ∀ w', Kt B w w' → SlB w' a c body) (ho : openC d rep reg = 0) (hi1 : 1 ≤ inc) (hi2 : inc ≤ 1099511627776) (hl43 : body.length ≤ 43) (hw : d.waits.length ≤ 1000) :
    Calls Tryd.prog 38 #[.pointer (some ⟨g, 0, none⟩), .int .i64 rep, .int .i64 reg, .int .i64 inc, .slice a body.length c] w fun e w' => e = .returned (.int .i64 (storeC d rep reg inc body).2) ∧ (∃ wv', DiskB B g gp wv' (storeC d rep reg inc body).1 w') ∧ Kt B w w' := by
  have hop := copen_good h rep reg ho
  obtain ⟨hrg, hrp⟩ : (reg = 1 ∨ reg = 2) ∧ (0 ≤ rep ∧ rep ≤ 6) := by
    unfold openC at ho
    split at ho
    · cases ho
    · split at ho
      · cases ho
      · omega
  unfold storeC
  rw [ho]
  simp only [ne_eq, not_true, false_and, if_false]
  rw [if_neg (by omega), if_neg (by omega)]
  unfold pickC
  have hi0 := copy_idx h rep reg 0
  have hi1' := copy_idx h rep reg 1
  generalize copyC d rep reg 0 = c0 at *
  generalize copyC d rep reg 1 = c1 at *
  have hlo := fun q a0 n0 k0 a1 n1 k1 w => loaded_any q g rep reg c0 c1 a0 a1 n0 k0 n1 k1 w
  obtain ⟨i, ok, er, hld⟩ : ∃ i ok er, loadedC c0 c1 = (i, ok, er) := ⟨_, _, _, rfl⟩
  obtain ⟨hlt, hlf, hle⟩ := loaded_ok hld
  simp only [hld] at hlo ⊢
  clear hld ho
  have hlb : ¬ (43 : Int) < body.length := by omega
  by_cases her : er = 0
  case neg =>
    rw [if_pos her]
    have e1 : (er != 0) = true := by rw [bne_iff_ne]; exact her
    clear her
    go_enter Tryd.func38, Tryd.ntmps38
    refine wp_seq_k (fun K hK => ?_)
    have HK := Lib.hid hK
    clear hK
    go_wp2
    refine HK.out _ _ ?_
    clear HK
    refine wp_seq_k (fun K hK => ?_)
    have HK := Lib.hid hK
    clear hK
    go_wp2_with (go_at_call 60; refine hop.mono ?_; rintro e w1 ⟨⟨q, a0, k0, a1, k1, rfl, hq, Q1, o0, o1⟩, hb1⟩)
    refine HK.out _ _ ?_
    clear HK
    refine wp_seq_k (fun K hK => ?_)
    have HK := Lib.hid hK
    clear hK
    go_wp2_with (go_at_call 73; refine (room1 _).mono ?_; rintro e w2 ⟨rfl, rfl⟩)
    refine HK.out _ _ ?_
    clear HK
    refine wp_seq_k (fun K hK => ?_)
    have HK := Lib.hid hK
    clear hK
    go_wp2_with (go_at_call 61; refine (hlo q a0 _ k0 a1 _ k1 _ Q1).mono ?_; rintro e w2 ⟨rfl, hb2⟩)
    refine HK.out _ _ ?_
    clear HK
    have Q2 := tr_bl hb2 Q1
    have hb3 := hb1.trans (hb2.mono hb1.size)
    have hd3 := h.below hb3
    have hk3 := Kt.of hb3 hb
    have hB3 := Nat.le_trans hb hk3.bl.size
    clear Q1 o0 o1 hb1 hb2 hlo hop
    go_wp2
    go_ret
    exact ⟨rfl, ⟨_, hd3⟩, hk3⟩
  case pos =>
    subst her
    rw [if_neg (by simp)]
    have z01 : ((0 : Nat) = 1) = False := by simp
    have z11 : ((1 : Nat) = 1) = True := by simp
    have zft : (false = true) = False := by simp
    cases ok
    case false =>
      obtain rfl := hlf rfl
      simp only [z01, zft, if_false, show (1 : Int) - 0 = 1 from rfl]
      clear z01 z11 zft hlf hle
      go_enter Tryd.func38, Tryd.ntmps38
      refine wp_seq_k (fun K hK => ?_)
      have HK := Lib.hid hK
      clear hK
      go_wp2
      refine HK.out _ _ ?_
      clear HK
      refine wp_seq_k (fun K hK => ?_)
      have HK := Lib.hid hK
      clear hK
      go_wp2_with (go_at_call 60; refine hop.mono ?_; rintro e w1 ⟨⟨q, a0, k0, a1, k1, rfl, hq, Q1, o0, o1⟩, hb1⟩)
      refine HK.out _ _ ?_
      clear HK
      refine wp_seq_k (fun K hK => ?_)
      have HK := Lib.hid hK
      clear hK
      go_wp2_with (go_at_call 73; refine (room1 _).mono ?_; rintro e w2 ⟨rfl, rfl⟩)
      refine HK.out _ _ ?_
      clear HK
      refine wp_seq_k (fun K hK => ?_)
      have HK := Lib.hid hK
      clear hK
      go_wp2_with (go_at_call 61; refine (hlo q a0 _ k0 a1 _ k1 _ Q1).mono ?_; rintro e w2 ⟨rfl, hb2⟩)
      refine HK.out _ _ ?_
      clear HK
      have Q2 := tr_bl hb2 Q1
      have hb3 := hb1.trans (hb2.mono hb1.size)
      have hd3 := h.below hb3
      have hk3 := Kt.of hb3 hb
      have hB3 := Nat.le_trans hb hk3.bl.size
      clear Q1 o0 o1 hb1 hb2 hlo hop
      have cx := ceA_7 Q2
      by_cases hv : 1099511627776 < c0.tg.idx + 1
      case pos =>
        rw [if_pos hv]
        go_wp2
        go_ret
        exact ⟨rfl, ⟨_, hd3⟩, hk3⟩
      case neg =>
        rw [if_neg hv]
        have hm1 := may_cell2 (rep := rep) (reg := reg) (v := c0.tg.idx + 1) (c := inc) (i := 0) hrp hrg (by omega) (by omega) (by omega) hi1 hi2
        have hm2 := may_cell2 (rep := rep) (reg := reg) (v := c0.tg.idx + 1) (c := inc) (i := 1) hrp hrg (by omega) (by omega) (by omega) hi1 hi2
        simp only [Int.natCast_zero, Int.natCast_one] at hm1 hm2
        have hput := cput_any hd3 hB3 q rep reg _ _ _ _ _ _ Q2 0 (c0.tg.idx + 1) inc hm1 a c body (hs _ hk3) hl43 (by omega)
        obtain ⟨d1, r1, hp1⟩ : ∃ d1 r1, putC d ⟨rep, reg, 0, c0.tg.idx + 1, inc⟩ body = (d1, r1) := ⟨_, _, rfl⟩
        rw [hp1] at hput ⊢
        simp only at hput ⊢
        have hwt := @put_waits d ⟨rep, reg, 0, c0.tg.idx + 1, inc⟩ body
        rw [hp1] at hwt
        have HW := Lib.hid hwt
        clear hwt hp1 hm1
        have hvn : c0.tg.idx + 1 ≤ 1099511627776 := by omega
        refine wp_seq_k (fun K hK => ?_)
        have HK := Lib.hid hK
        clear hK
        go_wp2
        refine HK.out _ _ ?_
        clear HK
        refine wp_seq_k (fun K hK => ?_)
        have HK := Lib.hid hK
        clear hK
        go_wp2
        refine HK.out _ _ ?_
        clear HK
        refine wp_seq_k (fun K hK => ?_)
        have HK := Lib.hid hK
        clear hK
        go_wp2
        refine HK.out _ _ ?_
        clear HK
        refine wp_seq_k (fun K hK => ?_)
        have HK := Lib.hid hK
        clear hK
        go_wp2
        refine HK.out _ _ ?_
        clear HK
        refine wp_seq_k (fun K hK => ?_)
        have HK := Lib.hid hK
        clear hK
        go_wp2
        refine HK.out _ _ ?_
        clear HK
        refine wp_seq_k (fun K hK => ?_)
        have HK := Lib.hid hK
        clear hK
        refine wp_seq_k (fun K hK => ?_)
        have HK2 := Lib.hid hK
        clear hK
        go_wp2_with (go_at_call 74; refine hput.mono ?_; rintro e w5 ⟨rfl, ⟨wv5, hd5⟩, hk5⟩)
        refine HK2.out _ _ ?_
        clear HK2 hput
        have Q5 := hk5.ty _ _ _ Q2 (by decide) (by decide) (by decide)
        have hk6 := hk3.trans hk5
        have hB6 := Nat.le_trans hb hk6.bl.size
        by_cases hr1 : r1 = 0
        case neg =>
          rw [if_pos hr1]
          have e1 : (r1 != 0) = true := by rw [bne_iff_ne]; exact hr1
          go_wp2
          go_ret
          exact ⟨rfl, ⟨_, hd5⟩, hk6⟩
        case pos =>
          subst hr1
          rw [if_neg (by simp)]
          have hput2 := cput_any hd5 hB6 q rep reg _ _ _ _ _ _ Q5 1 (c0.tg.idx + 1) inc hm2 a c body (hs _ hk6) hl43 (by rw [HW.out rfl]; simp)
          go_wp2
          refine HK.out _ _ ?_
          clear HK
          go_wp2_with (go_at_call 74; refine hput2.mono ?_; rintro e w7 ⟨rfl, hd7, hk7⟩)
          go_ret
          exact ⟨rfl, hd7, hk6.trans hk7⟩
    case true =>
      clear hlf hle
      rcases (show i = 0 ∨ i = 1 by omega) with rfl | rfl
      · simp only [z01, if_false, if_true, show (1 : Int) - ((0 : Nat) : Int) = 1 from rfl, show (1 : Int) - 1 = 0 from rfl]
        clear z01 z11 zft
        go_enter Tryd.func38, Tryd.ntmps38
        refine wp_seq_k (fun K hK => ?_)
        have HK := Lib.hid hK
        clear hK
        go_wp2
        refine HK.out _ _ ?_
        clear HK
        refine wp_seq_k (fun K hK => ?_)
        have HK := Lib.hid hK
        clear hK
        go_wp2_with (go_at_call 60; refine hop.mono ?_; rintro e w1 ⟨⟨q, a0, k0, a1, k1, rfl, hq, Q1, o0, o1⟩, hb1⟩)
        refine HK.out _ _ ?_
        clear HK
        refine wp_seq_k (fun K hK => ?_)
        have HK := Lib.hid hK
        clear hK
        go_wp2_with (go_at_call 73; refine (room1 _).mono ?_; rintro e w2 ⟨rfl, rfl⟩)
        refine HK.out _ _ ?_
        clear HK
        refine wp_seq_k (fun K hK => ?_)
        have HK := Lib.hid hK
        clear hK
        go_wp2_with (go_at_call 61; refine (hlo q a0 _ k0 a1 _ k1 _ Q1).mono ?_; rintro e w2 ⟨rfl, hb2⟩)
        refine HK.out _ _ ?_
        clear HK
        have Q2 := tr_bl hb2 Q1
        have hb3 := hb1.trans (hb2.mono hb1.size)
        have hd3 := h.below hb3
        have hk3 := Kt.of hb3 hb
        have hB3 := Nat.le_trans hb hk3.bl.size
        clear Q1 o0 o1 hb1 hb2 hlo hop
        have cx := ceA_7 Q2
        by_cases hv : 1099511627776 < c0.tg.idx + 1
        case pos =>
          rw [if_pos hv]
          go_wp2
          go_ret
          exact ⟨rfl, ⟨_, hd3⟩, hk3⟩
        case neg =>
          rw [if_neg hv]
          have hm1 := may_cell2 (rep := rep) (reg := reg) (v := c0.tg.idx + 1) (c := inc) (i := 1) hrp hrg (by omega) (by omega) (by omega) hi1 hi2
          have hm2 := may_cell2 (rep := rep) (reg := reg) (v := c0.tg.idx + 1) (c := inc) (i := 0) hrp hrg (by omega) (by omega) (by omega) hi1 hi2
          simp only [Int.natCast_zero, Int.natCast_one] at hm1 hm2
          have hput := cput_any hd3 hB3 q rep reg _ _ _ _ _ _ Q2 1 (c0.tg.idx + 1) inc hm1 a c body (hs _ hk3) hl43 (by omega)
          obtain ⟨d1, r1, hp1⟩ : ∃ d1 r1, putC d ⟨rep, reg, 1, c0.tg.idx + 1, inc⟩ body = (d1, r1) := ⟨_, _, rfl⟩
          rw [hp1] at hput ⊢
          simp only at hput ⊢
          have hwt := @put_waits d ⟨rep, reg, 1, c0.tg.idx + 1, inc⟩ body
          rw [hp1] at hwt
          have HW := Lib.hid hwt
          clear hwt hp1 hm1
          have hvn : c0.tg.idx + 1 ≤ 1099511627776 := by omega
          refine wp_seq_k (fun K hK => ?_)
          have HK := Lib.hid hK
          clear hK
          go_wp2
          refine HK.out _ _ ?_
          clear HK
          refine wp_seq_k (fun K hK => ?_)
          have HK := Lib.hid hK
          clear hK
          go_wp2
          refine HK.out _ _ ?_
          clear HK
          refine wp_seq_k (fun K hK => ?_)
          have HK := Lib.hid hK
          clear hK
          go_wp2
          refine HK.out _ _ ?_
          clear HK
          refine wp_seq_k (fun K hK => ?_)
          have HK := Lib.hid hK
          clear hK
          go_wp2
          refine HK.out _ _ ?_
          clear HK
          refine wp_seq_k (fun K hK => ?_)
          have HK := Lib.hid hK
          clear hK
          go_wp2
          refine HK.out _ _ ?_
          clear HK
          refine wp_seq_k (fun K hK => ?_)
          have HK := Lib.hid hK
          clear hK
          refine wp_seq_k (fun K hK => ?_)
          have HK2 := Lib.hid hK
          clear hK
          go_wp2_with (go_at_call 74; refine hput.mono ?_; rintro e w5 ⟨rfl, ⟨wv5, hd5⟩, hk5⟩)
          refine HK2.out _ _ ?_
          clear HK2 hput
          have Q5 := hk5.ty _ _ _ Q2 (by decide) (by decide) (by decide)
          have hk6 := hk3.trans hk5
          have hB6 := Nat.le_trans hb hk6.bl.size
          by_cases hr1 : r1 = 0
          case neg =>
            rw [if_pos hr1]
            have e1 : (r1 != 0) = true := by rw [bne_iff_ne]; exact hr1
            go_wp2
            go_ret
            exact ⟨rfl, ⟨_, hd5⟩, hk6⟩
          case pos =>
            subst hr1
            rw [if_neg (by simp)]
            have hput2 := cput_any hd5 hB6 q rep reg _ _ _ _ _ _ Q5 0 (c0.tg.idx + 1) inc hm2 a c body (hs _ hk6) hl43 (by rw [HW.out rfl]; simp)
            go_wp2
            refine HK.out _ _ ?_
            clear HK
            go_wp2_with (go_at_call 74; refine hput2.mono ?_; rintro e w7 ⟨rfl, hd7, hk7⟩)
            go_ret
            exact ⟨rfl, hd7, hk6.trans hk7⟩
      · simp only [if_true, show (1 : Int) - ((1 : Nat) : Int) = 0 from rfl, show (1 : Int) - 0 = 1 from rfl]
        clear z01 z11 zft
        go_enter Tryd.func38, Tryd.ntmps38
        refine wp_seq_k (fun K hK => ?_)
        have HK := Lib.hid hK
        clear hK
        go_wp2
        refine HK.out _ _ ?_
        clear HK
        refine wp_seq_k (fun K hK => ?_)
        have HK := Lib.hid hK
        clear hK
        go_wp2_with (go_at_call 60; refine hop.mono ?_; rintro e w1 ⟨⟨q, a0, k0, a1, k1, rfl, hq, Q1, o0, o1⟩, hb1⟩)
        refine HK.out _ _ ?_
        clear HK
        refine wp_seq_k (fun K hK => ?_)
        have HK := Lib.hid hK
        clear hK
        go_wp2_with (go_at_call 73; refine (room1 _).mono ?_; rintro e w2 ⟨rfl, rfl⟩)
        refine HK.out _ _ ?_
        clear HK
        refine wp_seq_k (fun K hK => ?_)
        have HK := Lib.hid hK
        clear hK
        go_wp2_with (go_at_call 61; refine (hlo q a0 _ k0 a1 _ k1 _ Q1).mono ?_; rintro e w2 ⟨rfl, hb2⟩)
        refine HK.out _ _ ?_
        clear HK
        have Q2 := tr_bl hb2 Q1
        have hb3 := hb1.trans (hb2.mono hb1.size)
        have hd3 := h.below hb3
        have hk3 := Kt.of hb3 hb
        have hB3 := Nat.le_trans hb hk3.bl.size
        clear Q1 o0 o1 hb1 hb2 hlo hop
        have cx := ceA_14 Q2
        by_cases hv : 1099511627776 < c1.tg.idx + 1
        case pos =>
          rw [if_pos hv]
          go_wp2
          go_ret
          exact ⟨rfl, ⟨_, hd3⟩, hk3⟩
        case neg =>
          rw [if_neg hv]
          have hm1 := may_cell2 (rep := rep) (reg := reg) (v := c1.tg.idx + 1) (c := inc) (i := 0) hrp hrg (by omega) (by omega) (by omega) hi1 hi2
          have hm2 := may_cell2 (rep := rep) (reg := reg) (v := c1.tg.idx + 1) (c := inc) (i := 1) hrp hrg (by omega) (by omega) (by omega) hi1 hi2
          simp only [Int.natCast_zero, Int.natCast_one] at hm1 hm2
          have hput := cput_any hd3 hB3 q rep reg _ _ _ _ _ _ Q2 0 (c1.tg.idx + 1) inc hm1 a c body (hs _ hk3) hl43 (by omega)
          obtain ⟨d1, r1, hp1⟩ : ∃ d1 r1, putC d ⟨rep, reg, 0, c1.tg.idx + 1, inc⟩ body = (d1, r1) := ⟨_, _, rfl⟩
          rw [hp1] at hput ⊢
          simp only at hput ⊢
          have hwt := @put_waits d ⟨rep, reg, 0, c1.tg.idx + 1, inc⟩ body
          rw [hp1] at hwt
          have HW := Lib.hid hwt
          clear hwt hp1 hm1
          have hvn : c1.tg.idx + 1 ≤ 1099511627776 := by omega
          refine wp_seq_k (fun K hK => ?_)
          have HK := Lib.hid hK
          clear hK
          go_wp2
          refine HK.out _ _ ?_
          clear HK
          refine wp_seq_k (fun K hK => ?_)
          have HK := Lib.hid hK
          clear hK
          go_wp2
          refine HK.out _ _ ?_
          clear HK
          refine wp_seq_k (fun K hK => ?_)
          have HK := Lib.hid hK
          clear hK
          go_wp2
          refine HK.out _ _ ?_
          clear HK
          refine wp_seq_k (fun K hK => ?_)
          have HK := Lib.hid hK
          clear hK
          go_wp2
          refine HK.out _ _ ?_
          clear HK
          refine wp_seq_k (fun K hK => ?_)
          have HK := Lib.hid hK
          clear hK
          go_wp2
          refine HK.out _ _ ?_
          clear HK
          refine wp_seq_k (fun K hK => ?_)
          have HK := Lib.hid hK
          clear hK
          refine wp_seq_k (fun K hK => ?_)
          have HK2 := Lib.hid hK
          clear hK
          go_wp2_with (go_at_call 74; refine hput.mono ?_; rintro e w5 ⟨rfl, ⟨wv5, hd5⟩, hk5⟩)
          refine HK2.out _ _ ?_
          clear HK2 hput
          have Q5 := hk5.ty _ _ _ Q2 (by decide) (by decide) (by decide)
          have hk6 := hk3.trans hk5
          have hB6 := Nat.le_trans hb hk6.bl.size
          by_cases hr1 : r1 = 0
          case neg =>
            rw [if_pos hr1]
            have e1 : (r1 != 0) = true := by rw [bne_iff_ne]; exact hr1
            go_wp2
            go_ret
            exact ⟨rfl, ⟨_, hd5⟩, hk6⟩
          case pos =>
            subst hr1
            rw [if_neg (by simp)]
            have hput2 := cput_any hd5 hB6 q rep reg _ _ _ _ _ _ Q5 1 (c1.tg.idx + 1) inc hm2 a c body (hs _ hk6) hl43 (by rw [HW.out rfl]; simp)
            go_wp2
            refine HK.out _ _ ?_
            clear HK
            go_wp2_with (go_at_call 74; refine hput2.mono ?_; rintro e w7 ⟨rfl, hd7, hk7⟩)
            go_ret
            exact ⟨rfl, hd7, hk6.trans hk7⟩
end
end Go.Proofs.YtejjneamngkmoaaDoor

namespace Go.Proofs.YtejjneamngkmoaaDoor
open Go.RowKit

theorem step_bl {w w1 w2 : World} (h : Below w.heap.size w w1) (h2 : Below w1.heap.size w1 w2) : Below w.heap.size w w2 := h.trans (h2.mono h.size)
theorem coA_new (st : Nat) (t : Tg) (a : Option Addr) (n k : Nat) : (Value.agg (coA st t (.slice a n k))).cells = coA st t (.slice a n k) ∧ (coA st t (.slice a n k)).size = 7 ∧ ∀ u ∈ (coA st t (.slice a n k)).toList, u.oneCell' = true := ⟨rfl, rfl, by simp [coA, Value.oneCell']⟩
theorem loaded_st {c0 c1 : Cp} {i : Nat} {er : Int} (h : loadedC c0 c1 = (i, true, er)) : (i = 0 → c0.st = 1) ∧ (i = 1 → c1.st = 1) := by
  unfold loadedC at h
  split at h
  · rename_i ho
    cases h
    exact ⟨by omega, fun _ => over_good ho⟩
  · split at h
    · rename_i h0
      cases h
      exact ⟨fun _ => h0, by omega⟩
    · split at h <;> cases h
theorem sameC_iff (c x : Cp) : sameC c x = true ↔ (c.st = x.st ∧ c.tg.idx = x.tg.idx ∧ c.body = x.body) := by
  unfold sameC
  simp only [Bool.and_eq_true, decide_eq_true_eq]
section
variable {B g gp : Nat} {wv : Value} {d : Dk} {w : World}
theorem cstore_any (h : DiskB B g gp wv d w) (hb : B ≤ w.heap.size) (rep reg inc : Int) (a : Option Addr) (c : Nat) (body : List UInt8) (hs : ∀ w', Kt B w w' → SlB w' a c body) (hl : body.length ≤ 1000) (hw : d.waits.length ≤ 1000) :
    Calls Tryd.prog 38 #[.pointer (some ⟨g, 0, none⟩), .int .i64 rep, .int .i64 reg, .int .i64 inc, .slice a body.length c] w fun e w' => e = .returned (.int .i64 (storeC d rep reg inc body).2) ∧ (∃ wv', DiskB B g gp wv' (storeC d rep reg inc body).1 w') ∧ Kt B w w' := by
  by_cases h1 : openC d rep reg ≠ 0 ∨ inc < 1 ∨ 1099511627776 < inc ∨ 43 < body.length
  · exact cstore_err h hb rep reg inc a c body hl h1
  · have ho : openC d rep reg = 0 := by
      by_cases h0 : openC d rep reg = 0
      · exact h0
      · exact absurd (.inl h0) h1
    exact cstore_ok h hb rep reg inc a c body hs ho (by omega) (by omega) (by omega) hw
set_option maxRecDepth 100000 in
set_option maxHeartbeats 2000000 in
theorem cheal_any (h : DiskB B g gp wv d w) (hb : B ≤ w.heap.size) (rep reg : Int) (hw : d.waits.length ≤ 1000) :
    Calls Tryd.prog 41 #[.pointer (some ⟨g, 0, none⟩), .int .i64 rep, .int .i64 reg] w fun e w' => e = .returned (.int .i64 (healC d rep reg).2) ∧ (∃ wv', DiskB B g gp wv' (healC d rep reg).1 w') ∧ Kt B w w' := by
  unfold healC
  simp only
  by_cases ho : openC d rep reg = 0
  case neg =>
    rw [if_pos ho]
    have hop := copen_bad h rep reg ho
    generalize openC d rep reg = x at *
    have e1 : (x != 0) = true := by rw [bne_iff_ne]; exact ho
    clear ho
    go_enter Tryd.func41, Tryd.ntmps41
    go_wp2_with (go_at_call 60; refine hop.mono ?_; rintro e w1 ⟨rfl, hb1⟩)
    go_ret
    exact ⟨rfl, ⟨_, h.below hb1⟩, Kt.of hb1 hb⟩
  case pos =>
    rw [if_neg (by simpa using ho)]
    have hop := copen_good h rep reg ho
    obtain ⟨hrg, hrp⟩ : (reg = 1 ∨ reg = 2) ∧ (0 ≤ rep ∧ rep ≤ 6) := by
      unfold openC at ho
      split at ho
      · cases ho
      · split at ho
        · cases ho
        · omega
    have ht0 := copy_tag h rep reg 0
    have ht1 := copy_tag h rep reg 1
    generalize copyC d rep reg 0 = c0 at *
    generalize copyC d rep reg 1 = c1 at *
    have hlo := fun q a0 n0 k0 a1 n1 k1 w => loaded_any q g rep reg c0 c1 a0 a1 n0 k0 n1 k1 w
    obtain ⟨i, ok, er, hld⟩ : ∃ i ok er, loadedC c0 c1 = (i, ok, er) := ⟨_, _, _, rfl⟩
    have hok := loaded_ok hld
    cases ok
    case false =>
      obtain ⟨hlt, hlf, hle⟩ := hok
      simp only [hld] at hlo ⊢
      clear hld ho hlf hle ht0 ht1
      rw [if_pos trivial]
      go_enter Tryd.func41, Tryd.ntmps41
      refine wp_seq_k (fun K hK => ?_)
      have HK := Lib.hid hK
      clear hK
      go_wp2
      refine HK.out _ _ ?_
      clear HK
      refine wp_seq_k (fun K hK => ?_)
      have HK := Lib.hid hK
      clear hK
      go_wp2_with (go_at_call 60; refine hop.mono ?_; rintro e w1 ⟨⟨q, a0, k0, a1, k1, rfl, hq, Q1, o0, o1⟩, hb1⟩)
      refine HK.out _ _ ?_
      clear HK
      refine wp_seq_k (fun K hK => ?_)
      have HK := Lib.hid hK
      clear hK
      go_wp2
      refine HK.out _ _ ?_
      clear HK
      refine wp_seq_k (fun K hK => ?_)
      have HK := Lib.hid hK
      clear hK
      go_wp2_with (go_at_call 61; refine (hlo q a0 _ k0 a1 _ k1 _ Q1).mono ?_; rintro e w2 ⟨rfl, hb2⟩)
      refine HK.out _ _ ?_
      clear HK
      have Q2 := tr_bl hb2 Q1
      have hb3 := hb1.trans (hb2.mono hb1.size)
      have p0 := o0.below hb2
      have p1 := o1.below hb2
      clear Q1 o0 o1 hb1 hb2 hlo hop
      refine wp_seq_k (fun K hK => ?_)
      have HK := Lib.hid hK
      clear hK
      go_wp2_with fail
      have hbd := (Below.refl w2.heap.size w2).drew
      refine wp_region_cls (C := fun w' => Below w2.heap.size w2 w') (by kernel_rfl) (by kernel_rfl) hbd ?_
      clear hbd
      refine wpQuiet_val (by rfl) ?_ ?_ ?_
      rotate_left
      · intro wS hSw
        go_simp
        (try with_reducible rfl)
      (try simp only [Act.put])
      (try simp only [List.setIfInBounds_toArray])
      (try simp only [List.set_cons_succ])
      (try simp only [List.set_cons_zero])
      refine wpQuiet_val (by rfl) ?_ ?_ ?_
      rotate_left
      · intro wS hSw
        go_simp
        (try with_reducible rfl)
      (try simp only [Act.put])
      (try simp only [List.setIfInBounds_toArray])
      (try simp only [List.set_cons_succ])
      (try simp only [List.set_cons_zero])
      refine wpQuiet_val (by rfl) ?_ ?_ ?_
      rotate_left
      · intro wS hSw
        go_simp
        (try with_reducible rfl)
      (try simp only [Act.put])
      (try simp only [List.setIfInBounds_toArray])
      (try simp only [List.set_cons_succ])
      (try simp only [List.set_cons_zero])
      with_reducible refine wpQuiet_skip ?_ ?_
      · rfl
      (try simp only [Act.put])
      (try simp only [List.setIfInBounds_toArray])
      (try simp only [List.set_cons_succ])
      (try simp only [List.set_cons_zero])
      with_reducible refine wpQuiet_skip ?_ ?_
      · rfl
      (try simp only [Act.put])
      (try simp only [List.setIfInBounds_toArray])
      (try simp only [List.set_cons_succ])
      (try simp only [List.set_cons_zero])
      with_reducible refine wpQuiet_skip ?_ ?_
      · rfl
      (try simp only [Act.put])
      (try simp only [List.setIfInBounds_toArray])
      (try simp only [List.set_cons_succ])
      (try simp only [List.set_cons_zero])
      with_reducible refine wpQuiet_skip ?_ ?_
      · rfl
      (try simp only [Act.put])
      (try simp only [List.setIfInBounds_toArray])
      (try simp only [List.set_cons_succ])
      (try simp only [List.set_cons_zero])
      with_reducible refine wpQuiet_skip ?_ ?_
      · rfl
      (try simp only [Act.put])
      (try simp only [List.setIfInBounds_toArray])
      (try simp only [List.set_cons_succ])
      (try simp only [List.set_cons_zero])
      with_reducible refine wpQuiet_skip ?_ ?_
      · rfl
      (try simp only [Act.put])
      (try simp only [List.setIfInBounds_toArray])
      (try simp only [List.set_cons_succ])
      (try simp only [List.set_cons_zero])
      with_reducible refine wpQuiet_skip ?_ ?_
      · rfl
      (try simp only [Act.put])
      (try simp only [List.setIfInBounds_toArray])
      (try simp only [List.set_cons_succ])
      (try simp only [List.set_cons_zero])
      with_reducible refine wpQuiet_skip ?_ ?_
      · rfl
      (try simp only [Act.put])
      (try simp only [List.setIfInBounds_toArray])
      (try simp only [List.set_cons_succ])
      (try simp only [List.set_cons_zero])
      with_reducible refine wpQuiet_skip ?_ ?_
      · rfl
      (try simp only [Act.put])
      (try simp only [List.setIfInBounds_toArray])
      (try simp only [List.set_cons_succ])
      (try simp only [List.set_cons_zero])
      with_reducible refine wpQuiet_skip ?_ ?_
      · rfl
      (try simp only [Act.put])
      (try simp only [List.setIfInBounds_toArray])
      (try simp only [List.set_cons_succ])
      (try simp only [List.set_cons_zero])
      with_reducible refine wpQuiet_skip ?_ ?_
      · rfl
      (try simp only [Act.put])
      (try simp only [List.setIfInBounds_toArray])
      (try simp only [List.set_cons_succ])
      (try simp only [List.set_cons_zero])
      with_reducible refine wpQuiet_skip ?_ ?_
      · rfl
      (try simp only [Act.put])
      (try simp only [List.setIfInBounds_toArray])
      (try simp only [List.set_cons_succ])
      (try simp only [List.set_cons_zero])
      with_reducible refine wpQuiet_skip ?_ ?_
      · rfl
      (try simp only [Act.put])
      (try simp only [List.setIfInBounds_toArray])
      (try simp only [List.set_cons_succ])
      (try simp only [List.set_cons_zero])
      with_reducible refine wpQuiet_skip ?_ ?_
      · rfl
      (try simp only [Act.put])
      (try simp only [List.setIfInBounds_toArray])
      (try simp only [List.set_cons_succ])
      (try simp only [List.set_cons_zero])
      refine wpQuiet_val (by rfl) ?_ ?_ ?_
      rotate_left
      · intro wS hSw
        go_simp
        (try with_reducible rfl)
      (try simp only [Act.put])
      (try simp only [List.setIfInBounds_toArray])
      (try simp only [List.set_cons_succ])
      (try simp only [List.set_cons_zero])
      refine wpQuiet_nil ?_
      intro wE hE
      have hb4 := hb3.trans (hE.mono hb3.size)
      go_wp2
      go_ret
      exact ⟨rfl, ⟨_, h.below hb4⟩, Kt.of hb4 hb⟩
    case true =>
      obtain ⟨hlt, _, hle⟩ := hok
      have hst := loaded_st hld
      obtain rfl := hle rfl
      simp only [hld] at hlo ⊢
      clear hld ho hle
      rw [if_neg (by simp)]
      rcases (show i = 0 ∨ i = 1 by omega) with rfl | rfl
      · have h1 := hst.1 rfl
        obtain ⟨hmay, hbl⟩ : mayTg c0.tg = true ∧ c0.body.length ≤ 43 := by
          rcases ht0 with ⟨_, hh, _⟩ | ⟨_, h⟩
          · exact absurd h1 hh
          · exact h
        obtain ⟨_, _, _, _, m1, m2, m3, m4⟩ := mayTg_parts hmay
        have hmt := may_cell2 (rep := rep) (reg := reg) (v := c0.tg.idx) (c := c0.tg.inc) (i := 1) hrp hrg (by omega) m1 m2 m3 m4
        simp only [Int.natCast_one] at hmt
        clear hst h1 hmay ht0 ht1 hlt
        have z01 : ((0 : Nat) = 1) = False := by simp
        simp only [z01, if_false, show (1 : Int) - ((0 : Nat) : Int) = 1 from rfl]
        clear z01
        by_cases hsm : c0.st = c1.st ∧ c0.tg.idx = c1.tg.idx ∧ c0.body = c1.body
        case pos =>
          rw [if_pos hsm]
          have hsc := (sameC_iff c0 c1).2 hsm
          have HSC := Lib.hid hsc
          clear hsm hsc
          go_enter Tryd.func41, Tryd.ntmps41
          refine wp_seq_k (fun K hK => ?_)
          have HK := Lib.hid hK
          clear hK
          go_wp2
          refine HK.out _ _ ?_
          clear HK
          refine wp_seq_k (fun K hK => ?_)
          have HK := Lib.hid hK
          clear hK
          go_wp2_with (go_at_call 60; refine hop.mono ?_; rintro e w1 ⟨⟨q, a0, k0, a1, k1, rfl, hq, Q1, o0, o1⟩, hb1⟩)
          refine HK.out _ _ ?_
          clear HK
          refine wp_seq_k (fun K hK => ?_)
          have HK := Lib.hid hK
          clear hK
          go_wp2
          refine HK.out _ _ ?_
          clear HK
          refine wp_seq_k (fun K hK => ?_)
          have HK := Lib.hid hK
          clear hK
          go_wp2_with (go_at_call 61; refine (hlo q a0 _ k0 a1 _ k1 _ Q1).mono ?_; rintro e w2 ⟨rfl, hb2⟩)
          refine HK.out _ _ ?_
          clear HK
          have Q2 := tr_bl hb2 Q1
          have hb3 := hb1.trans (hb2.mono hb1.size)
          have p0 := o0.below hb2
          have p1 := o1.below hb2
          clear Q1 o0 o1 hb1 hb2 hlo hop
          refine wp_seq_k (fun K hK => ?_)
          have HK := Lib.hid hK
          clear hK
          go_wp2_with fail
          have hbd := (Below.refl w2.heap.size w2).drew
          refine wp_region_cls (C := fun w' => Below w2.heap.size w2 w') (by kernel_rfl) (by kernel_rfl) hbd ?_
          clear hbd
          have pother := p1
          refine wpQuiet_val (by rfl) ?_ ?_ ?_
          rotate_left
          · intro wS hSw
            go_simp
            (try with_reducible rfl)
          (try simp only [Act.put])
          (try simp only [List.setIfInBounds_toArray])
          (try simp only [List.set_cons_succ])
          (try simp only [List.set_cons_zero])
          refine wpQuiet_val (by rfl) ?_ ?_ ?_
          rotate_left
          · intro wS hSw
            go_simp
            (try with_reducible rfl)
          (try simp only [Act.put])
          (try simp only [List.setIfInBounds_toArray])
          (try simp only [List.set_cons_succ])
          (try simp only [List.set_cons_zero])
          refine wpQuiet_val (by rfl) ?_ ?_ ?_
          rotate_left
          · intro wS hSw
            go_simp
            (try with_reducible rfl)
          (try simp only [Act.put])
          (try simp only [List.setIfInBounds_toArray])
          (try simp only [List.set_cons_succ])
          (try simp only [List.set_cons_zero])
          refine wpQuiet_val (by rfl) ?_ ?_ ?_
          rotate_left
          · intro wS hSw
            go_simp
            (try with_reducible rfl)
          (try simp only [Act.put])
          (try simp only [List.setIfInBounds_toArray])
          (try simp only [List.set_cons_succ])
          (try simp only [List.set_cons_zero])
          refine wpQuiet_val (by rfl) ?_ ?_ ?_
          rotate_left
          · intro wS hSw
            go_simp
            (try with_reducible rfl)
          (try simp only [Act.put])
          (try simp only [List.setIfInBounds_toArray])
          (try simp only [List.set_cons_succ])
          (try simp only [List.set_cons_zero])
          refine wpQuiet_val (by rfl) ?_ ?_ ?_
          rotate_left
          · intro wS hSw
            go_simp
            (try with_reducible rfl)
          (try simp only [Act.put])
          (try simp only [List.setIfInBounds_toArray])
          (try simp only [List.set_cons_succ])
          (try simp only [List.set_cons_zero])
          refine wpQuiet_val (by rfl) ?_ ?_ ?_
          rotate_left
          · intro wS hSw
            go_simp
            (try with_reducible rfl)
          (try simp only [Act.put])
          (try simp only [List.setIfInBounds_toArray])
          (try simp only [List.set_cons_succ])
          (try simp only [List.set_cons_zero])
          refine wpQuiet_val (by rfl) ?_ ?_ ?_
          rotate_left
          · intro wS hSw
            go_simp
            (try with_reducible rfl)
          (try simp only [Act.put])
          (try simp only [List.setIfInBounds_toArray])
          (try simp only [List.set_cons_succ])
          (try simp only [List.set_cons_zero])
          refine wpQuiet_val (by rfl) (.agg (coA c0.st c0.tg (.slice a0 c0.body.length k0))) (fun wS hSw => exec_ldB 123 _ ⟨_, _, _, _, _, Tryd.isAgg123, Tryd.sizeOf123, rfl, tr_bl hSw Q2, ceA_ld0 _ _ _ _ _ _ _ _ _⟩) ?_
          (try simp only [Act.put])
          (try simp only [List.setIfInBounds_toArray])
          (try simp only [List.set_cons_succ])
          (try simp only [List.set_cons_zero])
          refine wpQuiet_val (by rfl) ?_ ?_ ?_
          rotate_left
          · intro wS hSw
            go_simp
            (try with_reducible rfl)
          (try simp only [Act.put])
          (try simp only [List.setIfInBounds_toArray])
          (try simp only [List.set_cons_succ])
          (try simp only [List.set_cons_zero])
          refine wpQuiet_val (by rfl) ?_ ?_ ?_
          rotate_left
          · intro wS hSw
            go_simp
            (try with_reducible rfl)
          (try simp only [Act.put])
          (try simp only [List.setIfInBounds_toArray])
          (try simp only [List.set_cons_succ])
          (try simp only [List.set_cons_zero])
          refine wpQuiet_val (by rfl) (.int .i64 1) (fun wS hSw => ?_) ?_
          · go_simp; (try rfl)
          (try simp only [Act.put])
          (try simp only [List.setIfInBounds_toArray])
          (try simp only [List.set_cons_succ])
          (try simp only [List.set_cons_zero])
          refine wpQuiet_val (by rfl) ?_ ?_ ?_
          rotate_left
          · intro wS hSw
            go_simp
            (try with_reducible rfl)
          (try simp only [Act.put])
          (try simp only [List.setIfInBounds_toArray])
          (try simp only [List.set_cons_succ])
          (try simp only [List.set_cons_zero])
          refine wpQuiet_val (by rfl) ?_ ?_ ?_
          rotate_left
          · intro wS hSw
            go_simp
            (try with_reducible rfl)
          (try simp only [Act.put])
          (try simp only [List.setIfInBounds_toArray])
          (try simp only [List.set_cons_succ])
          (try simp only [List.set_cons_zero])
          refine wpQuiet_val (by rfl) ?_ ?_ ?_
          rotate_left
          · intro wS hSw
            go_simp
            (try with_reducible rfl)
          (try simp only [Act.put])
          (try simp only [List.setIfInBounds_toArray])
          (try simp only [List.set_cons_succ])
          (try simp only [List.set_cons_zero])
          refine wpQuiet_val (by rfl) (.agg (coA c1.st c1.tg (.slice a1 c1.body.length k1))) (fun wS hSw => exec_ldB 123 _ ⟨_, _, _, _, _, Tryd.isAgg123, Tryd.sizeOf123, rfl, tr_bl hSw Q2, ceA_ld1 _ _ _ _ _ _ _ _ _⟩) ?_
          (try simp only [Act.put])
          (try simp only [List.setIfInBounds_toArray])
          (try simp only [List.set_cons_succ])
          (try simp only [List.set_cons_zero])
          refine wpQuiet_gen (by rfl) (.bool (sameC c0 c1)) (fun wS hSw => ?_) ?_
          · unfold Oper.quietAt
            go_simp
            (try refine ⟨rfl, ?_⟩)
            exact (same_any c0 c1 a0 a1 k0 k1 wS (p0.below hSw).slb (pother.below hSw).slb).mono fun _ _ h => ⟨h.1, step_bl hSw h.2⟩
          (try simp only [Act.put])
          (try simp only [List.setIfInBounds_toArray])
          (try simp only [List.set_cons_succ])
          (try simp only [List.set_cons_zero])
          clear pother
          rw [HSC.out]
          refine wpQuiet_val (by rfl) ?_ ?_ ?_
          rotate_left
          · intro wS hSw
            go_simp
            (try with_reducible rfl)
          (try simp only [Act.put])
          (try simp only [List.setIfInBounds_toArray])
          (try simp only [List.set_cons_succ])
          (try simp only [List.set_cons_zero])
          refine wpQuiet_nil ?_
          intro wE hE
          have hb4 := hb3.trans (hE.mono hb3.size)
          go_wp2
          go_ret
          exact ⟨rfl, ⟨_, h.below hb4⟩, Kt.of hb4 hb⟩
        case neg =>
          rw [if_neg hsm]
          have hsc : sameC c0 c1 = false := by
            cases hh : sameC c0 c1
            · rfl
            · exact absurd ((sameC_iff c0 c1).1 hh) hsm
          have HSC := Lib.hid hsc
          clear hsm hsc
          go_enter Tryd.func41, Tryd.ntmps41
          refine wp_seq_k (fun K hK => ?_)
          have HK := Lib.hid hK
          clear hK
          go_wp2
          refine HK.out _ _ ?_
          clear HK
          refine wp_seq_k (fun K hK => ?_)
          have HK := Lib.hid hK
          clear hK
          go_wp2_with (go_at_call 60; refine hop.mono ?_; rintro e w1 ⟨⟨q, a0, k0, a1, k1, rfl, hq, Q1, o0, o1⟩, hb1⟩)
          refine HK.out _ _ ?_
          clear HK
          refine wp_seq_k (fun K hK => ?_)
          have HK := Lib.hid hK
          clear hK
          go_wp2
          refine HK.out _ _ ?_
          clear HK
          refine wp_seq_k (fun K hK => ?_)
          have HK := Lib.hid hK
          clear hK
          go_wp2_with (go_at_call 61; refine (hlo q a0 _ k0 a1 _ k1 _ Q1).mono ?_; rintro e w2 ⟨rfl, hb2⟩)
          refine HK.out _ _ ?_
          clear HK
          have Q2 := tr_bl hb2 Q1
          have hb3 := hb1.trans (hb2.mono hb1.size)
          have p0 := o0.below hb2
          have p1 := o1.below hb2
          clear Q1 o0 o1 hb1 hb2 hlo hop
          refine wp_seq_k (fun K hK => ?_)
          have HK := Lib.hid hK
          clear hK
          go_wp2_with fail
          have hbd := (Below.refl w2.heap.size w2).drew
          refine wp_region_cls (C := fun w' => Below w2.heap.size w2 w') (by kernel_rfl) (by kernel_rfl) hbd ?_
          clear hbd
          have pother := p1
          refine wpQuiet_val (by rfl) ?_ ?_ ?_
          rotate_left
          · intro wS hSw
            go_simp
            (try with_reducible rfl)
          (try simp only [Act.put])
          (try simp only [List.setIfInBounds_toArray])
          (try simp only [List.set_cons_succ])
          (try simp only [List.set_cons_zero])
          refine wpQuiet_val (by rfl) ?_ ?_ ?_
          rotate_left
          · intro wS hSw
            go_simp
            (try with_reducible rfl)
          (try simp only [Act.put])
          (try simp only [List.setIfInBounds_toArray])
          (try simp only [List.set_cons_succ])
          (try simp only [List.set_cons_zero])
          refine wpQuiet_val (by rfl) ?_ ?_ ?_
          rotate_left
          · intro wS hSw
            go_simp
            (try with_reducible rfl)
          (try simp only [Act.put])
          (try simp only [List.setIfInBounds_toArray])
          (try simp only [List.set_cons_succ])
          (try simp only [List.set_cons_zero])
          refine wpQuiet_val (by rfl) ?_ ?_ ?_
          rotate_left
          · intro wS hSw
            go_simp
            (try with_reducible rfl)
          (try simp only [Act.put])
          (try simp only [List.setIfInBounds_toArray])
          (try simp only [List.set_cons_succ])
          (try simp only [List.set_cons_zero])
          refine wpQuiet_val (by rfl) ?_ ?_ ?_
          rotate_left
          · intro wS hSw
            go_simp
            (try with_reducible rfl)
          (try simp only [Act.put])
          (try simp only [List.setIfInBounds_toArray])
          (try simp only [List.set_cons_succ])
          (try simp only [List.set_cons_zero])
          refine wpQuiet_val (by rfl) ?_ ?_ ?_
          rotate_left
          · intro wS hSw
            go_simp
            (try with_reducible rfl)
          (try simp only [Act.put])
          (try simp only [List.setIfInBounds_toArray])
          (try simp only [List.set_cons_succ])
          (try simp only [List.set_cons_zero])
          refine wpQuiet_val (by rfl) ?_ ?_ ?_
          rotate_left
          · intro wS hSw
            go_simp
            (try with_reducible rfl)
          (try simp only [Act.put])
          (try simp only [List.setIfInBounds_toArray])
          (try simp only [List.set_cons_succ])
          (try simp only [List.set_cons_zero])
          refine wpQuiet_val (by rfl) ?_ ?_ ?_
          rotate_left
          · intro wS hSw
            go_simp
            (try with_reducible rfl)
          (try simp only [Act.put])
          (try simp only [List.setIfInBounds_toArray])
          (try simp only [List.set_cons_succ])
          (try simp only [List.set_cons_zero])
          refine wpQuiet_val (by rfl) (.agg (coA c0.st c0.tg (.slice a0 c0.body.length k0))) (fun wS hSw => exec_ldB 123 _ ⟨_, _, _, _, _, Tryd.isAgg123, Tryd.sizeOf123, rfl, tr_bl hSw Q2, ceA_ld0 _ _ _ _ _ _ _ _ _⟩) ?_
          (try simp only [Act.put])
          (try simp only [List.setIfInBounds_toArray])
          (try simp only [List.set_cons_succ])
          (try simp only [List.set_cons_zero])
          refine wpQuiet_val (by rfl) ?_ ?_ ?_
          rotate_left
          · intro wS hSw
            go_simp
            (try with_reducible rfl)
          (try simp only [Act.put])
          (try simp only [List.setIfInBounds_toArray])
          (try simp only [List.set_cons_succ])
          (try simp only [List.set_cons_zero])
          refine wpQuiet_val (by rfl) ?_ ?_ ?_
          rotate_left
          · intro wS hSw
            go_simp
            (try with_reducible rfl)
          (try simp only [Act.put])
          (try simp only [List.setIfInBounds_toArray])
          (try simp only [List.set_cons_succ])
          (try simp only [List.set_cons_zero])
          refine wpQuiet_val (by rfl) (.int .i64 1) (fun wS hSw => ?_) ?_
          · go_simp; (try rfl)
          (try simp only [Act.put])
          (try simp only [List.setIfInBounds_toArray])
          (try simp only [List.set_cons_succ])
          (try simp only [List.set_cons_zero])
          refine wpQuiet_val (by rfl) ?_ ?_ ?_
          rotate_left
          · intro wS hSw
            go_simp
            (try with_reducible rfl)
          (try simp only [Act.put])
          (try simp only [List.setIfInBounds_toArray])
          (try simp only [List.set_cons_succ])
          (try simp only [List.set_cons_zero])
          refine wpQuiet_val (by rfl) ?_ ?_ ?_
          rotate_left
          · intro wS hSw
            go_simp
            (try with_reducible rfl)
          (try simp only [Act.put])
          (try simp only [List.setIfInBounds_toArray])
          (try simp only [List.set_cons_succ])
          (try simp only [List.set_cons_zero])
          refine wpQuiet_val (by rfl) ?_ ?_ ?_
          rotate_left
          · intro wS hSw
            go_simp
            (try with_reducible rfl)
          (try simp only [Act.put])
          (try simp only [List.setIfInBounds_toArray])
          (try simp only [List.set_cons_succ])
          (try simp only [List.set_cons_zero])
          refine wpQuiet_val (by rfl) (.agg (coA c1.st c1.tg (.slice a1 c1.body.length k1))) (fun wS hSw => exec_ldB 123 _ ⟨_, _, _, _, _, Tryd.isAgg123, Tryd.sizeOf123, rfl, tr_bl hSw Q2, ceA_ld1 _ _ _ _ _ _ _ _ _⟩) ?_
          (try simp only [Act.put])
          (try simp only [List.setIfInBounds_toArray])
          (try simp only [List.set_cons_succ])
          (try simp only [List.set_cons_zero])
          refine wpQuiet_gen (by rfl) (.bool (sameC c0 c1)) (fun wS hSw => ?_) ?_
          · unfold Oper.quietAt
            go_simp
            (try refine ⟨rfl, ?_⟩)
            exact (same_any c0 c1 a0 a1 k0 k1 wS (p0.below hSw).slb (pother.below hSw).slb).mono fun _ _ h => ⟨h.1, step_bl hSw h.2⟩
          (try simp only [Act.put])
          (try simp only [List.setIfInBounds_toArray])
          (try simp only [List.set_cons_succ])
          (try simp only [List.set_cons_zero])
          clear pother
          rw [HSC.out]
          refine wpQuiet_val (by rfl) ?_ ?_ ?_
          rotate_left
          · intro wS hSw
            go_simp
            (try with_reducible rfl)
          (try simp only [Act.put])
          (try simp only [List.setIfInBounds_toArray])
          (try simp only [List.set_cons_succ])
          (try simp only [List.set_cons_zero])
          refine wpQuiet_nil ?_
          intro wE hE
          have Q3 := tr_bl hE Q2
          have hb4 := hb3.trans (hE.mono hb3.size)
          have p2 := p0.below hE
          have hd4 := h.below hb4
          have hk4 := Kt.of hb4 hb
          clear hE hb3 Q2 p0 p1
          go_wp2_with fail
          refine HK.out _ _ ?_
          clear HK
          refine wp_seq_k (fun K hK => ?_)
          have HK := Lib.hid hK
          clear hK
          go_wp2_with (first
            | ((with_reducible refine wpList_ldB 123 _ ?_); refine ⟨rfl, _, ⟨_, _, _, _, _, Tryd.isAgg123, Tryd.sizeOf123, rfl, ‹_›, ceA_ld0 _ _ _ _ _ _ _ _ _⟩, ?_⟩)
            | ((first | (with_reducible refine wpList_stNew 123 _ _ ?_) | (with_reducible refine wp_stNew 123 _ _ ?_)); refine ⟨_, _, ⟨Tryd.sizeOf123, rfl, coA_new _ _ _ _ _⟩, rfl, ?_⟩))
          refine HK.out _ _ ?_
          clear HK
          have X5 := heap_alloc_new wE (Obj.cells (coA c0.st c0.tg (.slice a0 c0.body.length k0)) 123)
          have Q5 := tr_al (Obj.cells (coA c0.st c0.tg (.slice a0 c0.body.length k0)) 123) Q3
          have hbn := blw wE (Obj.cells (coA c0.st c0.tg (.slice a0 c0.body.length k0)) 123)
          have hd5 := hd4.below hbn
          have hs5 := (p2.below hbn).slb
          have hk5 := hk4.trans (Kt.of hbn (Nat.le_trans hb hk4.bl.size))
          clear Q3 p2 hd4 hk4 hbn
          generalize wE.alloc (Obj.cells (coA c0.st c0.tg (.slice a0 c0.body.length k0)) 123) = w5 at *
          generalize wE.heap.size = xb at *
          have x4 := coA_4 X5
          have x5 := coA_5 X5
          have x6 := coA_6 X5
          have hput := cput_any hd5 (Nat.le_trans hb hk5.bl.size) q rep reg _ _ _ _ _ _ Q5 1 c0.tg.idx c0.tg.inc hmt _ _ c0.body hs5 hbl (by omega)
          go_wp2_with (go_at_call 74; refine hput.mono ?_; rintro e w7 ⟨rfl, hd7, hk7⟩)
          go_ret
          exact ⟨rfl, hd7, hk5.trans hk7⟩
      · have h1 := hst.2 rfl
        obtain ⟨hmay, hbl⟩ : mayTg c1.tg = true ∧ c1.body.length ≤ 43 := by
          rcases ht1 with ⟨_, hh, _⟩ | ⟨_, h⟩
          · exact absurd h1 hh
          · exact h
        obtain ⟨_, _, _, _, m1, m2, m3, m4⟩ := mayTg_parts hmay
        have hmt := may_cell2 (rep := rep) (reg := reg) (v := c1.tg.idx) (c := c1.tg.inc) (i := 0) hrp hrg (by omega) m1 m2 m3 m4
        simp only [Int.natCast_zero] at hmt
        clear hst h1 hmay ht0 ht1 hlt
        simp only [if_true, show (1 : Int) - ((1 : Nat) : Int) = 0 from rfl]
        by_cases hsm : c1.st = c0.st ∧ c1.tg.idx = c0.tg.idx ∧ c1.body = c0.body
        case pos =>
          rw [if_pos hsm]
          have hsc := (sameC_iff c1 c0).2 hsm
          have HSC := Lib.hid hsc
          clear hsm hsc
          go_enter Tryd.func41, Tryd.ntmps41
          refine wp_seq_k (fun K hK => ?_)
          have HK := Lib.hid hK
          clear hK
          go_wp2
          refine HK.out _ _ ?_
          clear HK
          refine wp_seq_k (fun K hK => ?_)
          have HK := Lib.hid hK
          clear hK
          go_wp2_with (go_at_call 60; refine hop.mono ?_; rintro e w1 ⟨⟨q, a0, k0, a1, k1, rfl, hq, Q1, o0, o1⟩, hb1⟩)
          refine HK.out _ _ ?_
          clear HK
          refine wp_seq_k (fun K hK => ?_)
          have HK := Lib.hid hK
          clear hK
          go_wp2
          refine HK.out _ _ ?_
          clear HK
          refine wp_seq_k (fun K hK => ?_)
          have HK := Lib.hid hK
          clear hK
          go_wp2_with (go_at_call 61; refine (hlo q a0 _ k0 a1 _ k1 _ Q1).mono ?_; rintro e w2 ⟨rfl, hb2⟩)
          refine HK.out _ _ ?_
          clear HK
          have Q2 := tr_bl hb2 Q1
          have hb3 := hb1.trans (hb2.mono hb1.size)
          have p0 := o0.below hb2
          have p1 := o1.below hb2
          clear Q1 o0 o1 hb1 hb2 hlo hop
          refine wp_seq_k (fun K hK => ?_)
          have HK := Lib.hid hK
          clear hK
          go_wp2_with fail
          have hbd := (Below.refl w2.heap.size w2).drew
          refine wp_region_cls (C := fun w' => Below w2.heap.size w2 w') (by kernel_rfl) (by kernel_rfl) hbd ?_
          clear hbd
          have pother := p0
          refine wpQuiet_val (by rfl) ?_ ?_ ?_
          rotate_left
          · intro wS hSw
            go_simp
            (try with_reducible rfl)
          (try simp only [Act.put])
          (try simp only [List.setIfInBounds_toArray])
          (try simp only [List.set_cons_succ])
          (try simp only [List.set_cons_zero])
          refine wpQuiet_val (by rfl) ?_ ?_ ?_
          rotate_left
          · intro wS hSw
            go_simp
            (try with_reducible rfl)
          (try simp only [Act.put])
          (try simp only [List.setIfInBounds_toArray])
          (try simp only [List.set_cons_succ])
          (try simp only [List.set_cons_zero])
          refine wpQuiet_val (by rfl) ?_ ?_ ?_
          rotate_left
          · intro wS hSw
            go_simp
            (try with_reducible rfl)
          (try simp only [Act.put])
          (try simp only [List.setIfInBounds_toArray])
          (try simp only [List.set_cons_succ])
          (try simp only [List.set_cons_zero])
          refine wpQuiet_val (by rfl) ?_ ?_ ?_
          rotate_left
          · intro wS hSw
            go_simp
            (try with_reducible rfl)
          (try simp only [Act.put])
          (try simp only [List.setIfInBounds_toArray])
          (try simp only [List.set_cons_succ])
          (try simp only [List.set_cons_zero])
          refine wpQuiet_val (by rfl) ?_ ?_ ?_
          rotate_left
          · intro wS hSw
            go_simp
            (try with_reducible rfl)
          (try simp only [Act.put])
          (try simp only [List.setIfInBounds_toArray])
          (try simp only [List.set_cons_succ])
          (try simp only [List.set_cons_zero])
          refine wpQuiet_val (by rfl) ?_ ?_ ?_
          rotate_left
          · intro wS hSw
            go_simp
            (try with_reducible rfl)
          (try simp only [Act.put])
          (try simp only [List.setIfInBounds_toArray])
          (try simp only [List.set_cons_succ])
          (try simp only [List.set_cons_zero])
          refine wpQuiet_val (by rfl) ?_ ?_ ?_
          rotate_left
          · intro wS hSw
            go_simp
            (try with_reducible rfl)
          (try simp only [Act.put])
          (try simp only [List.setIfInBounds_toArray])
          (try simp only [List.set_cons_succ])
          (try simp only [List.set_cons_zero])
          refine wpQuiet_val (by rfl) ?_ ?_ ?_
          rotate_left
          · intro wS hSw
            go_simp
            (try with_reducible rfl)
          (try simp only [Act.put])
          (try simp only [List.setIfInBounds_toArray])
          (try simp only [List.set_cons_succ])
          (try simp only [List.set_cons_zero])
          refine wpQuiet_val (by rfl) (.agg (coA c1.st c1.tg (.slice a1 c1.body.length k1))) (fun wS hSw => exec_ldB 123 _ ⟨_, _, _, _, _, Tryd.isAgg123, Tryd.sizeOf123, rfl, tr_bl hSw Q2, ceA_ld1 _ _ _ _ _ _ _ _ _⟩) ?_
          (try simp only [Act.put])
          (try simp only [List.setIfInBounds_toArray])
          (try simp only [List.set_cons_succ])
          (try simp only [List.set_cons_zero])
          refine wpQuiet_val (by rfl) ?_ ?_ ?_
          rotate_left
          · intro wS hSw
            go_simp
            (try with_reducible rfl)
          (try simp only [Act.put])
          (try simp only [List.setIfInBounds_toArray])
          (try simp only [List.set_cons_succ])
          (try simp only [List.set_cons_zero])
          refine wpQuiet_val (by rfl) ?_ ?_ ?_
          rotate_left
          · intro wS hSw
            go_simp
            (try with_reducible rfl)
          (try simp only [Act.put])
          (try simp only [List.setIfInBounds_toArray])
          (try simp only [List.set_cons_succ])
          (try simp only [List.set_cons_zero])
          refine wpQuiet_val (by rfl) (.int .i64 0) (fun wS hSw => ?_) ?_
          · go_simp; (try rfl)
          (try simp only [Act.put])
          (try simp only [List.setIfInBounds_toArray])
          (try simp only [List.set_cons_succ])
          (try simp only [List.set_cons_zero])
          refine wpQuiet_val (by rfl) ?_ ?_ ?_
          rotate_left
          · intro wS hSw
            go_simp
            (try with_reducible rfl)
          (try simp only [Act.put])
          (try simp only [List.setIfInBounds_toArray])
          (try simp only [List.set_cons_succ])
          (try simp only [List.set_cons_zero])
          refine wpQuiet_val (by rfl) ?_ ?_ ?_
          rotate_left
          · intro wS hSw
            go_simp
            (try with_reducible rfl)
          (try simp only [Act.put])
          (try simp only [List.setIfInBounds_toArray])
          (try simp only [List.set_cons_succ])
          (try simp only [List.set_cons_zero])
          refine wpQuiet_val (by rfl) ?_ ?_ ?_
          rotate_left
          · intro wS hSw
            go_simp
            (try with_reducible rfl)
          (try simp only [Act.put])
          (try simp only [List.setIfInBounds_toArray])
          (try simp only [List.set_cons_succ])
          (try simp only [List.set_cons_zero])
          refine wpQuiet_val (by rfl) (.agg (coA c0.st c0.tg (.slice a0 c0.body.length k0))) (fun wS hSw => exec_ldB 123 _ ⟨_, _, _, _, _, Tryd.isAgg123, Tryd.sizeOf123, rfl, tr_bl hSw Q2, ceA_ld0 _ _ _ _ _ _ _ _ _⟩) ?_
          (try simp only [Act.put])
          (try simp only [List.setIfInBounds_toArray])
          (try simp only [List.set_cons_succ])
          (try simp only [List.set_cons_zero])
          refine wpQuiet_gen (by rfl) (.bool (sameC c1 c0)) (fun wS hSw => ?_) ?_
          · unfold Oper.quietAt
            go_simp
            (try refine ⟨rfl, ?_⟩)
            exact (same_any c1 c0 a1 a0 k1 k0 wS (p1.below hSw).slb (pother.below hSw).slb).mono fun _ _ h => ⟨h.1, step_bl hSw h.2⟩
          (try simp only [Act.put])
          (try simp only [List.setIfInBounds_toArray])
          (try simp only [List.set_cons_succ])
          (try simp only [List.set_cons_zero])
          clear pother
          rw [HSC.out]
          refine wpQuiet_val (by rfl) ?_ ?_ ?_
          rotate_left
          · intro wS hSw
            go_simp
            (try with_reducible rfl)
          (try simp only [Act.put])
          (try simp only [List.setIfInBounds_toArray])
          (try simp only [List.set_cons_succ])
          (try simp only [List.set_cons_zero])
          refine wpQuiet_nil ?_
          intro wE hE
          have hb4 := hb3.trans (hE.mono hb3.size)
          go_wp2
          go_ret
          exact ⟨rfl, ⟨_, h.below hb4⟩, Kt.of hb4 hb⟩
        case neg =>
          rw [if_neg hsm]
          have hsc : sameC c1 c0 = false := by
            cases hh : sameC c1 c0
            · rfl
            · exact absurd ((sameC_iff c1 c0).1 hh) hsm
          have HSC := Lib.hid hsc
          clear hsm hsc
          go_enter Tryd.func41, Tryd.ntmps41
          refine wp_seq_k (fun K hK => ?_)
          have HK := Lib.hid hK
          clear hK
          go_wp2
          refine HK.out _ _ ?_
          clear HK
          refine wp_seq_k (fun K hK => ?_)
          have HK := Lib.hid hK
          clear hK
          go_wp2_with (go_at_call 60; refine hop.mono ?_; rintro e w1 ⟨⟨q, a0, k0, a1, k1, rfl, hq, Q1, o0, o1⟩, hb1⟩)
          refine HK.out _ _ ?_
          clear HK
          refine wp_seq_k (fun K hK => ?_)
          have HK := Lib.hid hK
          clear hK
          go_wp2
          refine HK.out _ _ ?_
          clear HK
          refine wp_seq_k (fun K hK => ?_)
          have HK := Lib.hid hK
          clear hK
          go_wp2_with (go_at_call 61; refine (hlo q a0 _ k0 a1 _ k1 _ Q1).mono ?_; rintro e w2 ⟨rfl, hb2⟩)
          refine HK.out _ _ ?_
          clear HK
          have Q2 := tr_bl hb2 Q1
          have hb3 := hb1.trans (hb2.mono hb1.size)
          have p0 := o0.below hb2
          have p1 := o1.below hb2
          clear Q1 o0 o1 hb1 hb2 hlo hop
          refine wp_seq_k (fun K hK => ?_)
          have HK := Lib.hid hK
          clear hK
          go_wp2_with fail
          have hbd := (Below.refl w2.heap.size w2).drew
          refine wp_region_cls (C := fun w' => Below w2.heap.size w2 w') (by kernel_rfl) (by kernel_rfl) hbd ?_
          clear hbd
          have pother := p0
          refine wpQuiet_val (by rfl) ?_ ?_ ?_
          rotate_left
          · intro wS hSw
            go_simp
            (try with_reducible rfl)
          (try simp only [Act.put])
          (try simp only [List.setIfInBounds_toArray])
          (try simp only [List.set_cons_succ])
          (try simp only [List.set_cons_zero])
          refine wpQuiet_val (by rfl) ?_ ?_ ?_
          rotate_left
          · intro wS hSw
            go_simp
            (try with_reducible rfl)
          (try simp only [Act.put])
          (try simp only [List.setIfInBounds_toArray])
          (try simp only [List.set_cons_succ])
          (try simp only [List.set_cons_zero])
          refine wpQuiet_val (by rfl) ?_ ?_ ?_
          rotate_left
          · intro wS hSw
            go_simp
            (try with_reducible rfl)
          (try simp only [Act.put])
          (try simp only [List.setIfInBounds_toArray])
          (try simp only [List.set_cons_succ])
          (try simp only [List.set_cons_zero])
          refine wpQuiet_val (by rfl) ?_ ?_ ?_
          rotate_left
          · intro wS hSw
            go_simp
            (try with_reducible rfl)
          (try simp only [Act.put])
          (try simp only [List.setIfInBounds_toArray])
          (try simp only [List.set_cons_succ])
          (try simp only [List.set_cons_zero])
          refine wpQuiet_val (by rfl) ?_ ?_ ?_
          rotate_left
          · intro wS hSw
            go_simp
            (try with_reducible rfl)
          (try simp only [Act.put])
          (try simp only [List.setIfInBounds_toArray])
          (try simp only [List.set_cons_succ])
          (try simp only [List.set_cons_zero])
          refine wpQuiet_val (by rfl) ?_ ?_ ?_
          rotate_left
          · intro wS hSw
            go_simp
            (try with_reducible rfl)
          (try simp only [Act.put])
          (try simp only [List.setIfInBounds_toArray])
          (try simp only [List.set_cons_succ])
          (try simp only [List.set_cons_zero])
          refine wpQuiet_val (by rfl) ?_ ?_ ?_
          rotate_left
          · intro wS hSw
            go_simp
            (try with_reducible rfl)
          (try simp only [Act.put])
          (try simp only [List.setIfInBounds_toArray])
          (try simp only [List.set_cons_succ])
          (try simp only [List.set_cons_zero])
          refine wpQuiet_val (by rfl) ?_ ?_ ?_
          rotate_left
          · intro wS hSw
            go_simp
            (try with_reducible rfl)
          (try simp only [Act.put])
          (try simp only [List.setIfInBounds_toArray])
          (try simp only [List.set_cons_succ])
          (try simp only [List.set_cons_zero])
          refine wpQuiet_val (by rfl) (.agg (coA c1.st c1.tg (.slice a1 c1.body.length k1))) (fun wS hSw => exec_ldB 123 _ ⟨_, _, _, _, _, Tryd.isAgg123, Tryd.sizeOf123, rfl, tr_bl hSw Q2, ceA_ld1 _ _ _ _ _ _ _ _ _⟩) ?_
          (try simp only [Act.put])
          (try simp only [List.setIfInBounds_toArray])
          (try simp only [List.set_cons_succ])
          (try simp only [List.set_cons_zero])
          refine wpQuiet_val (by rfl) ?_ ?_ ?_
          rotate_left
          · intro wS hSw
            go_simp
            (try with_reducible rfl)
          (try simp only [Act.put])
          (try simp only [List.setIfInBounds_toArray])
          (try simp only [List.set_cons_succ])
          (try simp only [List.set_cons_zero])
          refine wpQuiet_val (by rfl) ?_ ?_ ?_
          rotate_left
          · intro wS hSw
            go_simp
            (try with_reducible rfl)
          (try simp only [Act.put])
          (try simp only [List.setIfInBounds_toArray])
          (try simp only [List.set_cons_succ])
          (try simp only [List.set_cons_zero])
          refine wpQuiet_val (by rfl) (.int .i64 0) (fun wS hSw => ?_) ?_
          · go_simp; (try rfl)
          (try simp only [Act.put])
          (try simp only [List.setIfInBounds_toArray])
          (try simp only [List.set_cons_succ])
          (try simp only [List.set_cons_zero])
          refine wpQuiet_val (by rfl) ?_ ?_ ?_
          rotate_left
          · intro wS hSw
            go_simp
            (try with_reducible rfl)
          (try simp only [Act.put])
          (try simp only [List.setIfInBounds_toArray])
          (try simp only [List.set_cons_succ])
          (try simp only [List.set_cons_zero])
          refine wpQuiet_val (by rfl) ?_ ?_ ?_
          rotate_left
          · intro wS hSw
            go_simp
            (try with_reducible rfl)
          (try simp only [Act.put])
          (try simp only [List.setIfInBounds_toArray])
          (try simp only [List.set_cons_succ])
          (try simp only [List.set_cons_zero])
          refine wpQuiet_val (by rfl) ?_ ?_ ?_
          rotate_left
          · intro wS hSw
            go_simp
            (try with_reducible rfl)
          (try simp only [Act.put])
          (try simp only [List.setIfInBounds_toArray])
          (try simp only [List.set_cons_succ])
          (try simp only [List.set_cons_zero])
          refine wpQuiet_val (by rfl) (.agg (coA c0.st c0.tg (.slice a0 c0.body.length k0))) (fun wS hSw => exec_ldB 123 _ ⟨_, _, _, _, _, Tryd.isAgg123, Tryd.sizeOf123, rfl, tr_bl hSw Q2, ceA_ld0 _ _ _ _ _ _ _ _ _⟩) ?_
          (try simp only [Act.put])
          (try simp only [List.setIfInBounds_toArray])
          (try simp only [List.set_cons_succ])
          (try simp only [List.set_cons_zero])
          refine wpQuiet_gen (by rfl) (.bool (sameC c1 c0)) (fun wS hSw => ?_) ?_
          · unfold Oper.quietAt
            go_simp
            (try refine ⟨rfl, ?_⟩)
            exact (same_any c1 c0 a1 a0 k1 k0 wS (p1.below hSw).slb (pother.below hSw).slb).mono fun _ _ h => ⟨h.1, step_bl hSw h.2⟩
          (try simp only [Act.put])
          (try simp only [List.setIfInBounds_toArray])
          (try simp only [List.set_cons_succ])
          (try simp only [List.set_cons_zero])
          clear pother
          rw [HSC.out]
          refine wpQuiet_val (by rfl) ?_ ?_ ?_
          rotate_left
          · intro wS hSw
            go_simp
            (try with_reducible rfl)
          (try simp only [Act.put])
          (try simp only [List.setIfInBounds_toArray])
          (try simp only [List.set_cons_succ])
          (try simp only [List.set_cons_zero])
          refine wpQuiet_nil ?_
          intro wE hE
          have Q3 := tr_bl hE Q2
          have hb4 := hb3.trans (hE.mono hb3.size)
          have p2 := p1.below hE
          have hd4 := h.below hb4
          have hk4 := Kt.of hb4 hb
          clear hE hb3 Q2 p0 p1
          go_wp2_with fail
          refine HK.out _ _ ?_
          clear HK
          refine wp_seq_k (fun K hK => ?_)
          have HK := Lib.hid hK
          clear hK
          go_wp2_with (first
            | ((with_reducible refine wpList_ldB 123 _ ?_); refine ⟨rfl, _, ⟨_, _, _, _, _, Tryd.isAgg123, Tryd.sizeOf123, rfl, ‹_›, ceA_ld1 _ _ _ _ _ _ _ _ _⟩, ?_⟩)
            | ((first | (with_reducible refine wpList_stNew 123 _ _ ?_) | (with_reducible refine wp_stNew 123 _ _ ?_)); refine ⟨_, _, ⟨Tryd.sizeOf123, rfl, coA_new _ _ _ _ _⟩, rfl, ?_⟩))
          refine HK.out _ _ ?_
          clear HK
          have X5 := heap_alloc_new wE (Obj.cells (coA c1.st c1.tg (.slice a1 c1.body.length k1)) 123)
          have Q5 := tr_al (Obj.cells (coA c1.st c1.tg (.slice a1 c1.body.length k1)) 123) Q3
          have hbn := blw wE (Obj.cells (coA c1.st c1.tg (.slice a1 c1.body.length k1)) 123)
          have hd5 := hd4.below hbn
          have hs5 := (p2.below hbn).slb
          have hk5 := hk4.trans (Kt.of hbn (Nat.le_trans hb hk4.bl.size))
          clear Q3 p2 hd4 hk4 hbn
          generalize wE.alloc (Obj.cells (coA c1.st c1.tg (.slice a1 c1.body.length k1)) 123) = w5 at *
          generalize wE.heap.size = xb at *
          have x4 := coA_4 X5
          have x5 := coA_5 X5
          have x6 := coA_6 X5
          have hput := cput_any hd5 (Nat.le_trans hb hk5.bl.size) q rep reg _ _ _ _ _ _ Q5 0 c1.tg.idx c1.tg.inc hmt _ _ c1.body hs5 hbl (by omega)
          go_wp2_with (go_at_call 74; refine hput.mono ?_; rintro e w7 ⟨rfl, hd7, hk7⟩)
          go_ret
          exact ⟨rfl, hd7, hk5.trans hk7⟩
end
end Go.Proofs.YtejjneamngkmoaaDoor

namespace Go.Proofs.YtejjneamngkmoaaDoor
open Go.RowKit

theorem take_eq_snoc {l m : List UInt8} {j : Nat} (h : l.take j = m.take j) (hl : j < l.length) (hm : j < m.length) (e : l[j] = m[j]) : l.take (j + 1) = m.take (j + 1) := by
  rw [List.take_succ_eq_append_getElem hl, List.take_succ_eq_append_getElem hm, h, e]
set_option maxRecDepth 100000 in
set_option maxHeartbeats 1000000 in
theorem rsame_any (a b : Option Addr) (c k : Nat) (l m : List UInt8) (w : World) (hl : Row w a (bys l)) (hm : Row w b (bys m)) (hb : l.length ≤ 1000000) : Calls Tryd.prog 29 #[.slice a l.length c, .slice b m.length k] w fun e w' => e = .returned (.bool (decide (l = m))) ∧ Below w.heap.size w w' := by
  by_cases hlen : l.length = m.length
  case neg =>
    rw [decide_eq_false (fun e => hlen (by rw [e]))]
    have e1 : ((l.length : Int) != (m.length : Int)) = true := by rw [bne_iff_ne]; omega
    go_enter Tryd.func29, Tryd.ntmps29
    go_wp2
    go_ret
    exact ⟨rfl, Below.refl _ _⟩
  case pos =>
    have e1 : ((l.length : Int) != (m.length : Int)) = false := by rw [bne_eq_false_iff_eq]; omega
    have HLE := Lib.hid hlen
    clear hlen
    obtain ⟨r, hr⟩ : ∃ r, decide (l = m) = r := ⟨_, rfl⟩
    rw [hr]
    have HR := Lib.hid hr
    clear hr
    go_enter Tryd.func29, Tryd.ntmps29
    refine wp_seq_k (fun K hK => ?_)
    have HK := Lib.hid hK
    clear hK
    go_wp2
    refine HK.out _ _ ?_
    clear HK
    refine wp_seq_k (fun K hK => ?_)
    have HK := Lib.hid hK
    clear hK
    go_wp2
    refine HK.out _ _ ?_
    clear HK
    refine wp_seq_k (fun K hK => ?_)
    have HK := Lib.hid hK
    clear hK
    go_wp2_with fail
    go_loopw [5] (fun i wr => ∃ j : Nat, j ≤ l.length ∧ i = .int .i64 (j : Nat) ∧ Hid (l.take j = m.take j) ∧ Below w.heap.size w wr) (fun i _ => l.length - (intOf i).toNat)
    case atStart => exact ⟨0, by omega, rfl, Lib.hid rfl, Below.refl _ _⟩
    case round =>
      obtain ⟨j, hj, rfl, ht, hbr⟩ := hrel
      by_cases hlt : j < l.length
      case neg =>
        obtain rfl : j = l.length := by omega
        have hlm : l = m := by
          have h := ht.out
          rw [List.take_length, HLE.out, List.take_length] at h
          exact h
        have hrt : r = true := by rw [← HR.out, decide_eq_true hlm]
        have HRT := Lib.hid hrt
        clear hrt hlm e1
        go_wp2
        refine HK.out _ _ ?_
        clear HK
        go_wp2
        go_ret
        exact ⟨by rw [HRT.out]; rfl, hbr⟩
      case pos =>
        have hltm : j < m.length := by have := HLE.out; omega
        obtain ⟨b1, f1, rfl, hc1⟩ := (hl.below0 hbr).byte hlt
        obtain ⟨b2, f2, rfl, hc2⟩ := (hm.below0 hbr).byte hltm
        have hsn := fun e => take_eq_snoc ht.out hlt hltm e
        have hnt : l[j] ≠ m[j] → r = false := fun hne => by
          rw [← HR.out, decide_eq_false]
          intro e
          exact hne (by simp only [e])
        generalize l[j] = x at *
        generalize m[j] = y at *
        have HNT := Lib.hid hnt
        have HSN := Lib.hid hsn
        clear hnt hsn ht
        go_wp2_with fail
        have hbd := (Below.refl wr.heap.size wr).drew
        have hlm : (j : Int) < m.length := by omega
        refine wp_region_cls (C := fun w' => Below wr.heap.size wr w') (by kernel_rfl) (by kernel_rfl) hbd ?_
        clear hbd
        refine wpQuiet_val (by rfl) ?_ ?_ ?_
        rotate_left
        · intro wS hSw
          go_simp
          (try with_reducible rfl)
        (try simp only [Act.put])
        (try simp only [List.setIfInBounds_toArray])
        (try simp only [List.set_cons_succ])
        (try simp only [List.set_cons_zero])
        refine wpQuiet_val (by rfl) ?_ ?_ ?_
        rotate_left
        · intro wS hSw
          go_simp
          (try with_reducible rfl)
        (try simp only [Act.put])
        (try simp only [List.setIfInBounds_toArray])
        (try simp only [List.set_cons_succ])
        (try simp only [List.set_cons_zero])
        refine wpQuiet_val (by rfl) ?_ ?_ ?_
        rotate_left
        · intro wS hSw
          go_simp
          (try with_reducible rfl)
        (try simp only [Act.put])
        (try simp only [List.setIfInBounds_toArray])
        (try simp only [List.set_cons_succ])
        (try simp only [List.set_cons_zero])
        refine wpQuiet_val (by rfl) ?_ ?_ ?_
        rotate_left
        · intro wS hSw
          have c := (hSw.cell (World.block_lt_of_cell? _ _ hc1)).trans hc1
          go_simp
          (try with_reducible rfl)
        (try simp only [Act.put])
        (try simp only [List.setIfInBounds_toArray])
        (try simp only [List.set_cons_succ])
        (try simp only [List.set_cons_zero])
        refine wpQuiet_val (by rfl) ?_ ?_ ?_
        rotate_left
        · intro wS hSw
          go_simp
          (try with_reducible rfl)
        (try simp only [Act.put])
        (try simp only [List.setIfInBounds_toArray])
        (try simp only [List.set_cons_succ])
        (try simp only [List.set_cons_zero])
        refine wpQuiet_val (by rfl) ?_ ?_ ?_
        rotate_left
        · intro wS hSw
          go_simp
          (try with_reducible rfl)
        (try simp only [Act.put])
        (try simp only [List.setIfInBounds_toArray])
        (try simp only [List.set_cons_succ])
        (try simp only [List.set_cons_zero])
        refine wpQuiet_val (by rfl) ?_ ?_ ?_
        rotate_left
        · intro wS hSw
          go_simp
          (try with_reducible rfl)
        (try simp only [Act.put])
        (try simp only [List.setIfInBounds_toArray])
        (try simp only [List.set_cons_succ])
        (try simp only [List.set_cons_zero])
        refine wpQuiet_val (by rfl) ?_ ?_ ?_
        rotate_left
        · intro wS hSw
          have c := (hSw.cell (World.block_lt_of_cell? _ _ hc2)).trans hc2
          go_simp
          (try with_reducible rfl)
        (try simp only [Act.put])
        (try simp only [List.setIfInBounds_toArray])
        (try simp only [List.set_cons_succ])
        (try simp only [List.set_cons_zero])
        refine wpQuiet_val (by rfl) ?_ ?_ ?_
        rotate_left
        · intro wS hSw
          go_simp
          (try with_reducible rfl)
        (try simp only [Act.put])
        (try simp only [List.setIfInBounds_toArray])
        (try simp only [List.set_cons_succ])
        (try simp only [List.set_cons_zero])
        refine wpQuiet_nil ?_
        intro wE hE
        have hbE := hbr.trans (hE.mono hbr.size)
        by_cases hxy : x = y
        · subst hxy
          have e2 : ((x.toNat : Int) != (x.toNat : Int)) = false := by simp
          go_wp2
          go_roundw
          case rel => exact ⟨j + 1, by omega, by go_num, Lib.hid (HSN.out rfl), hbE⟩
          case measure => simp [intOf]; omega
        · have e2 : ((x.toNat : Int) != (y.toNat : Int)) = true := by
            rw [bne_iff_ne]
            intro e
            exact hxy (UInt8.toNat_inj.1 (by omega))
          obtain rfl := HNT.out hxy
          go_wp2
          go_ret
          exact ⟨rfl, hbE⟩
/-- Is that loaded, of that version? -/
def loadsD (d : Dk) (reg ver : Int) (body : List UInt8) : Bool := decide ((loadC d 0 reg).2.2 = 0) && (decide ((loadC d 0 reg).1 = ver) && decide ((loadC d 0 reg).2.1 = body))
section
variable {B g gp : Nat} {wv : Value} {d : Dk} {w : World}
set_option maxRecDepth 100000 in
set_option maxHeartbeats 1000000 in
theorem loads_any (h : DiskB B g gp wv d w) (reg ver : Int) (a : Option Addr) (c : Nat) (body : List UInt8) (hs : SlB w a c body) (hbl : (loadC d 0 reg).2.1.length ≤ 1000000) : Calls Tryd.prog 26 #[.pointer (some ⟨g, 0, none⟩), .int .i64 reg, .int .i64 ver, .slice a body.length c] w fun e w' => e = .returned (.bool (loadsD d reg ver body)) ∧ Below w.heap.size w w' := by
  have hld := cload_any h 0 reg
  unfold loadsD
  obtain ⟨v, b, er, hv⟩ : ∃ v b er, loadC d 0 reg = (v, b, er) := ⟨_, _, _, rfl⟩
  rw [hv] at hld hbl ⊢
  simp only at hbl ⊢
  clear hv
  by_cases h1 : er = 0
  case neg =>
    rw [decide_eq_false h1, Bool.false_and]
    have e1 : (er == 0) = false := by rw [beq_eq_false_iff_ne]; exact h1
    clear h1
    go_enter Tryd.func26, Tryd.ntmps26
    go_wp2_with (go_at_call 25; refine hld.mono ?_; rintro e w1 ⟨⟨a1, c1, rfl, o1⟩, hb1⟩)
    go_ret
    exact ⟨rfl, hb1⟩
  case pos =>
    rw [decide_eq_true h1, Bool.true_and]
    have e1 : (er == 0) = true := by rw [beq_iff_eq]; exact h1
    clear h1
    by_cases h2 : v = ver
    case neg =>
      rw [decide_eq_false h2, Bool.false_and]
      have e2 : (v == ver) = false := by rw [beq_eq_false_iff_ne]; exact h2
      clear h2
      go_enter Tryd.func26, Tryd.ntmps26
      go_wp2_with (go_at_call 25; refine hld.mono ?_; rintro e w1 ⟨⟨a1, c1, rfl, o1⟩, hb1⟩)
      go_ret
      exact ⟨rfl, hb1⟩
    case pos =>
      rw [decide_eq_true h2, Bool.true_and]
      have e2 : (v == ver) = true := by rw [beq_iff_eq]; exact h2
      clear h2
      go_enter Tryd.func26, Tryd.ntmps26
      go_wp2_with (first
        | (go_at_call 25; refine hld.mono ?_; rintro e w1 ⟨⟨a1, c1, rfl, o1⟩, hb1⟩; simp only at o1 ⊢)
        | (go_at_call 29; refine (rsame_any a1 a c1 c b body _ o1.slb.row (hs.below hb1).row hbl).mono ?_; rintro e w2 ⟨rfl, hb2⟩))
      go_ret
      exact ⟨rfl, hb1.trans (hb2.mono hb1.size)⟩
end
end Go.Proofs.YtejjneamngkmoaaDoor

namespace Go.Proofs.YtejjneamngkmoaaDoor
open Go.RowKit

def grB (ls : List Part) : Bool := decide (20 < ls.length) || ls.any (fun x => decide (43 < x.2.2.length))
theorem grB_no {ls : List Part} (h : grB ls = false) : ls.length ≤ 20 ∧ ∀ x ∈ ls, x.2.2.length ≤ 43 := by
  unfold grB at h
  rw [Bool.or_eq_false_iff, decide_eq_false_iff_not, List.any_eq_false] at h
  refine ⟨by omega, fun x hx => ?_⟩
  have := h.2 x hx
  simp only [decide_eq_true_eq] at this
  omega
theorem Parts.cell {w : World} {b off : Nat} {ls : List Part} (h : Parts w (some ⟨b, off, none⟩) ls) {j : Nat} (hj : j < ls.length) : w.cell? ⟨b, off + j, none⟩ = some (partV ls[j]) := by
  obtain ⟨b', off', e, hc⟩ := h.row.at (k := j) (by simpa using hj)
  cases e
  exact hc j _ (by simp [hj])
theorem Parts.addr {w : World} {a : Option Addr} {ls : List Part} (h : Parts w a ls) (hl : 0 < ls.length) : ∃ b off, a = some ⟨b, off, none⟩ := by
  obtain ⟨b, off, e, _⟩ := h.row.at (k := 0) (by simpa using hl)
  exact ⟨b, off, e⟩
theorem any_snoc {ls : List Part} {j : Nat} (h : j < ls.length) (f : Part → Bool) : (ls.take (j + 1)).any f = ((ls.take j).any f || f ls[j]) := by
  rw [List.take_succ_eq_append_getElem h, List.any_append, List.any_cons, List.any_nil, Bool.or_false]
set_option maxRecDepth 100000 in
theorem great_any (a : Option Addr) (cap : Nat) (ls : List Part) (w : World) (hp : Parts w a ls) : Calls Tryd.prog 23 #[.slice a ls.length cap] w fun e w' => e = .returned (.bool (grB ls)) ∧ w = w' := by
  unfold grB
  by_cases h20 : 20 < ls.length
  case pos =>
    rw [decide_eq_true h20, Bool.true_or]
    have hI : (20 : Int) < ls.length := by omega
    go_enter Tryd.func23, Tryd.ntmps23
    go_wp2
    go_ret
    exact ⟨rfl, rfl⟩
  case neg =>
    rw [decide_eq_false h20, Bool.false_or]
    have hI : ¬ (20 : Int) < ls.length := by omega
    obtain ⟨r, hr⟩ : ∃ r, ls.any (fun x => decide (43 < x.2.2.length)) = r := ⟨_, rfl⟩
    rw [hr]
    have HR := Lib.hid hr
    clear hr
    go_enter Tryd.func23, Tryd.ntmps23
    refine wp_seq_k (fun K hK => ?_)
    have HK := Lib.hid hK
    clear hK
    go_wp2
    refine HK.out _ _ ?_
    clear HK
    refine wp_seq_k (fun K hK => ?_)
    have HK := Lib.hid hK
    clear hK
    go_wp2
    refine HK.out _ _ ?_
    clear HK
    refine wp_seq_k (fun K hK => ?_)
    have HK := Lib.hid hK
    clear hK
    go_wp2_with fail
    go_loop [3] (fun i => ∃ j : Nat, j ≤ ls.length ∧ i = .int .i64 (j : Nat) ∧ Hid ((ls.take j).any (fun x => decide (43 < x.2.2.length)) = false)) (fun i => ls.length - (intOf i).toNat)
    case atStart => exact ⟨0, by omega, rfl, Lib.hid rfl⟩
    case round =>
      obtain ⟨j, hj, rfl, ha⟩ := hrel
      by_cases hlt : j < ls.length
      case neg =>
        obtain rfl : j = ls.length := by omega
        have hrf : r = false := by have h := ha.out; rw [List.take_length] at h; exact HR.out.symm.trans h
        have HRF := Lib.hid hrf
        clear hrf ha
        go_wp2
        refine HK.out _ _ ?_
        clear HK
        go_wp2
        go_ret
        exact ⟨by rw [HRF.out]; rfl, rfl⟩
      case pos =>
        obtain ⟨b, off, rfl⟩ := hp.addr (by omega)
        have hc := hp.cell hlt
        have hsn := any_snoc hlt (fun x => decide (43 < x.2.2.length))
        rw [ha.out, Bool.false_or] at hsn
        have hmem := List.getElem_mem hlt
        have hrt : 43 < ls[j].2.2.length → r = true := fun h => by
          rw [← HR.out, List.any_eq_true]
          exact ⟨_, hmem, by simpa using h⟩
        generalize ls[j] = x at *
        obtain ⟨xa, xc, xl⟩ := x
        unfold partV at hc
        simp only at hc hsn hrt
        have HSN := Lib.hid hsn
        have HRT := Lib.hid hrt
        clear hsn hrt hmem ha
        by_cases h43 : 43 < xl.length
        · have hI2 : (43 : Int) < xl.length := by omega
          obtain rfl := HRT.out h43
          clear HRT HSN HR
          go_wp2
          go_ret
          exact ⟨rfl, rfl⟩
        · have hI2 : ¬ (43 : Int) < xl.length := by omega
          go_wp2
          go_round
          case rel => exact ⟨j + 1, by omega, by go_num, Lib.hid (by rw [HSN.out, decide_eq_false h43])⟩
          case measure => simp [intOf]; omega

/-- What a cell holds behind bodies that were stored one behind the other. -/
def stO (bs : List (List UInt8)) : Vo := match bs.getLast? with
  | none => none
  | some b => some ((bs.length : Int), (bs.length : Int), b)
theorem stO_ver (bs : List (List UInt8)) : verO (stO bs) = bs.length := by
  unfold stO
  cases h : bs.getLast? with
  | none => rw [List.getLast?_eq_none_iff.1 h]; rfl
  | some b => rfl
theorem stO_snoc (bs : List (List UInt8)) (j : Nat) (h : j < bs.length) : stO (bs.take (j + 1)) = nextO (stO (bs.take j)) (1 + (j : Int)) bs[j] := by
  unfold nextO
  rw [stO_ver, List.take_succ_eq_append_getElem h]
  unfold stO
  rw [List.getLast?_append]
  simp only [List.getLast?_singleton, Option.some_or, List.length_append, List.length_take, List.length_singleton]
  rw [Nat.min_eq_left (by omega)]
  have e1 : (((j + 1 : Nat)) : Int) = (j : Int) + 1 := by omega
  have e2 : (j : Int) + 1 = 1 + (j : Int) := by omega
  rw [e1]
  exact congrArg some (by rw [Prod.mk.injEq]; exact ⟨rfl, by rw [Prod.mk.injEq]; exact ⟨e2, rfl⟩⟩)
end Go.Proofs.YtejjneamngkmoaaDoor

namespace Go.Proofs.YtejjneamngkmoaaDoor
open Go.RowKit

/-- A disk behind stores into one region. -/
structure AftC (d d' : Dk) (reg : Int) (o : Vo) : Prop where
  live : Live d'
  left : d'.left = d.left
  fr : Fr d' 0 reg o
  oth : ∀ j : Nat, j < 156 → j ≠ secC reg 0 → j ≠ secC reg 1 → readD d' j = readD d j
def bodsP (ls : List Part) : List (List UInt8) := ls.map (·.2.2)
section
variable {B g gp : Nat} {wv : Value} {d : Dk} {w : World}
set_option maxRecDepth 100000 in
set_option maxHeartbeats 2000000 in
theorem stored_any (h : DiskB B g gp wv d w) (hb : B ≤ w.heap.size) (reg : Int) (hrg : reg = 1 ∨ reg = 2) (a : Option Addr) (cap : Nat) (ls : List Part) (hp : ∀ w', Kt B w w' → Parts w' a ls) (hn : ls.length ≤ 20) (h43 : ∀ x ∈ ls, x.2.2.length ≤ 43) (hL : Live d) (hleft : d.left < 0) (hfr : Fr d 0 reg none) :
    Calls Tryd.prog 24 #[.pointer (some ⟨g, 0, none⟩), .int .i64 reg, .slice a ls.length cap] w fun e w' => e = .returned (.bool true) ∧ ∃ d' wv', DiskB B g gp wv' d' w' ∧ Kt B w w' ∧ AftC d d' reg (stO (bodsP ls)) := by
  go_enter Tryd.func24, Tryd.ntmps24
  refine wp_seq_k (fun K hK => ?_)
  have HK := Lib.hid hK
  clear hK
  go_wp2
  refine HK.out _ _ ?_
  clear HK
  refine wp_seq_k (fun K hK => ?_)
  have HK := Lib.hid hK
  clear hK
  go_wp2_with fail
  go_loopw [7] (fun i wr => ∃ (j : Nat) (dj : Dk) (wvj : Value), j ≤ ls.length ∧ i = .int .i64 (j : Nat) ∧ DiskB B g gp wvj dj wr ∧ Kt B w wr ∧ AftC d dj reg (stO ((bodsP ls).take j))) (fun i _ => ls.length - (intOf i).toNat)
  case atStart => exact ⟨0, d, wv, by omega, rfl, h, Kt.refl _ _, ⟨hL, rfl, hfr, fun _ _ _ _ => rfl⟩⟩
  case round =>
    obtain ⟨j, dj, wvj, hj, rfl, hd, hk, haf⟩ := hrel
    by_cases hlt : j < ls.length
    case neg =>
      obtain rfl : j = ls.length := by omega
      rw [List.take_of_length_le (by simp [bodsP])] at haf
      go_wp2
      refine HK.out _ _ ?_
      clear HK
      go_wp2
      go_ret
      exact ⟨rfl, dj, wvj, hd, hk, haf⟩
    case pos =>
      have hlb : j < (bodsP ls).length := by simpa [bodsP] using hlt
      have hsn := stO_snoc (bodsP ls) j hlb
      have hge : (bodsP ls)[j] = ls[j].2.2 := by simp [bodsP]
      rw [hge] at hsn
      have hver := stO_ver ((bodsP ls).take j)
      rw [List.length_take, Nat.min_eq_left (by omega)] at hver
      generalize stO ((bodsP ls).take j) = oj at *
      have hBr := Nat.le_trans hb hk.bl.size
      obtain ⟨b, off, rfl⟩ := (hp _ hk).addr (by omega)
      have hc := (hp _ hk).cell hlt
      have hxm := List.getElem_mem hlt
      have hx43 := h43 _ hxm
      have hxs := fun w' (hk' : Kt B wr w') => (hp w' (hk.trans hk')).each _ hxm
      have hcs := fun w' (hk' : Kt B wr w') => (hp w' (hk.trans hk')).cell hlt
      generalize ls[j] = x at *
      obtain ⟨xa, xc, xl⟩ := x
      simp only at hx43 hxs hsn
      unfold partV at hc hcs
      simp only at hc hcs
      obtain ⟨d', hst, hL', hl', hf', ho'⟩ := store_fr (inc := 1 + (j : Int)) haf.live (by omega) hrg (by omega) hx43 haf.fr (by rw [hver]; omega) (by rw [haf.left]; exact hleft)
      have hlo := hf'.load hL' (by omega) hrg
      have hlds : loadsD d' reg ((j : Int) + 1) xl = true := by
        unfold loadsD
        rw [hlo]
        rw [show verO (nextO oj (1 + (j : Int)) xl) = verO oj + 1 from rfl, hver, show bodO (nextO oj (1 + (j : Int)) xl) = xl from rfl]
        simp
      have hbl : (loadC d' 0 reg).2.1.length ≤ 1000000 := by
        rw [hlo]
        unfold nextO
        simp only [bodO]
        omega
      have hstore := cstore_any hd hBr 0 reg (1 + (j : Int)) xa xc xl hxs (by omega) (by rw [haf.live.w]; simp)
      rw [hst] at hstore
      simp only at hstore
      have HX := Lib.hid hxs
      have HC := Lib.hid hcs
      have HL := Lib.hid hlds
      have HV := Lib.hid hver
      have HSN := Lib.hid hsn
      have HO := Lib.hid ho'
      have hlf := haf.left
      have HOO := Lib.hid haf.oth
      clear hxs hcs hlds hver hsn hlo hst ho' haf h43 hp hge hxm
      go_wp2_with (first
        | (go_at_call 38; refine hstore.mono ?_; rintro e w5 ⟨rfl, ⟨wv5, hd5⟩, hk5⟩; have hc5 := HC.out w5 hk5; have hs5 := HX.out w5 hk5)
        | (go_at_call 26; refine (loads_any hd5 reg ((j : Int) + 1) xa xc xl hs5 hbl).mono ?_; rintro e w6 ⟨rfl, hb6⟩; rw [HL.out]))
      have hk7 := hk5.trans (Kt.of hb6 (Nat.le_trans hBr hk5.bl.size))
      go_roundw
      case rel =>
        refine ⟨j + 1, d', wv5, by omega, by go_num, hd5.below hb6, hk.trans hk7, ⟨hL', hl'.trans hlf, by rw [HSN.out]; exact hf', fun k a1 a2 a3 => (HO.out k a1 a2 a3).trans (HOO.out k a1 a2 a3)⟩⟩
      case measure => simp [intOf]; omega
end
end Go.Proofs.YtejjneamngkmoaaDoor

namespace Go.Proofs.YtejjneamngkmoaaDoor

section
variable {d : Dk} {k : Nat}
theorem there_at (h : Live d) (hk : k < 156) : thereD d k = 0 := by
  unfold thereD
  rw [h.len, if_neg (by omega), if_neg (by omega)]
theorem modify_len (l : List Pl) (k : Nat) (f : Pl → Pl) : (l.modify k f).length = l.length := by simp
theorem mod_ne (l : List Pl) (f : Pl → Pl) {j k : Nat} (hne : j ≠ k) : (l.modify k f)[j]? = l[j]? := by
  rw [List.getElem?_modify]
  simp [Ne.symm hne]
theorem mod_eq (l : List Pl) (f : Pl → Pl) (k : Nat) : (l.modify k f)[k]? = l[k]?.map f := by
  rw [List.getElem?_modify]
  simp
theorem live_mod (h : Live d) (f : Pl → Pl) : Live { d with pl := d.pl.modify k f } := ⟨by simp only; rw [modify_len]; exact h.len, h.w, h.dn, h.de⟩
theorem rd_mod (h : Live d) (f : Pl → Pl) {j : Nat} (hj : j < 156) (hne : j ≠ k) : readD { d with pl := d.pl.modify k f } j = readD d j := by
  rw [rd_live (live_mod h f) hj, rd_live h hj]
  unfold rdP
  simp only
  rw [mod_ne _ _ hne]
theorem lose_at (h : Live d) (hk : k < 156) : ∃ d', loseD d k = (d', 0) ∧ Live d' ∧ d'.left = d.left ∧ readD d' k = ([], 50) ∧ ∀ j : Nat, j < 156 → j ≠ k → readD d' j = readD d j := by
  have e : loseD d k = ({ d with pl := d.pl.modify k (fun p => { p with lost := true }) }, 0) := by
    unfold loseD
    rw [there_at h hk]
    simp
  refine ⟨_, e, live_mod h _, rfl, ?_, fun j hj hne => rd_mod h _ hj hne⟩
  rw [rd_live (live_mod h _) hk]
  unfold rdP
  simp only
  rw [mod_eq, List.getElem?_eq_getElem (by rw [h.len]; exact hk)]
  simp
theorem flip_at (h : Live d) (hk : k < 156) {bit : Nat} {f : List UInt8} (hr : readD d k = (f, 0)) : ∃ d', flipD d k bit = (d', 0) ∧ Live d' ∧ d'.left = d.left ∧ readD d' k = (turnBit f (bit % 512), 0) ∧ ∀ j : Nat, j < 156 → j ≠ k → readD d' j = readD d j := by
  have e : flipD d k bit = ({ d with pl := d.pl.modify k (fun p => { p with rest := turnBit p.rest (bit % 512) }) }, 0) := by
    unfold flipD
    rw [there_at h hk, if_neg (by simp), if_neg (by omega)]
    simp
  refine ⟨_, e, live_mod h _, rfl, ?_, fun j hj hne => rd_mod h _ hj hne⟩
  rw [rd_live h hk] at hr
  rw [rd_live (live_mod h _) hk]
  unfold rdP at hr ⊢
  simp only
  rw [mod_eq]
  have hlt : k < d.pl.length := by rw [h.len]; exact hk
  rw [List.getElem?_eq_getElem hlt] at hr ⊢
  simp only [Option.map_some] at hr ⊢
  by_cases hlo : d.pl[k].lost = true
  · rw [if_pos hlo] at hr
    cases hr
  · rw [if_neg hlo] at hr ⊢
    injection hr with hr _
    rw [hr]
end
theorem turn_ne (x : UInt8) (r : Nat) (hr : r < 8) : UInt8.ofNat (x.toNat ^^^ 2 ^ r) ≠ x := by
  intro e
  have h2 : 2 ^ r < 2 ^ 8 := Nat.pow_lt_pow_right (by decide) hr
  have h3 := Nat.xor_lt_two_pow (n := 8) x.toNat_lt h2
  have h4 := congrArg UInt8.toNat e
  rw [UInt8.toNat_ofNat', Nat.mod_eq_of_lt h3] at h4
  have h5 : (x.toNat ^^^ 2 ^ r) ^^^ x.toNat = x.toNat ^^^ x.toNat := by rw [h4]
  rw [Nat.xor_self, Nat.xor_comm x.toNat, Nat.xor_assoc, Nat.xor_self, Nat.xor_zero] at h5
  have := Nat.pow_pos (n := r) (show 0 < 2 by decide)
  omega
section
variable {d : Dk} {rep reg v c : Int} {b : List UInt8} {i : Nat} {x : Cp}
/-- A copy's frame, one bit of which is turned, is bad. -/
theorem cop_turned (hp : 0 ≤ rep ∧ rep ≤ 6) (hr : reg = 1 ∨ reg = 2) (hi : i < 2) (ho : okO (some (v, c, b))) {bit : Nat} {e : Int} (h : readD d (secC reg i) = (turnBit (fraC rep reg v c b i) (bit % 512), e)) : cop d rep reg i = badR := by
  obtain ⟨h1, h2, h3, h4, h5⟩ := ho
  have hm := may_cell2 hp hr hi (show 0 ≤ v by omega) h2 h3 h4
  have hl := seal64 ⟨rep, reg, i, v, c⟩ h5
  have hlt : bit % 512 / 8 < (fraC rep reg v c b i).length := by rw [show (fraC rep reg v c b i).length = 64 from hl]; omega
  have hx : (fraC rep reg v c b i)[bit % 512 / 8]? = some (fraC rep reg v c b i)[bit % 512 / 8] := List.getElem?_eq_getElem hlt
  have hbad := turn_bad (t := ⟨rep, reg, i, v, c⟩) (n := 64) hm (by decide) (show b.length ≤ roomN 64 from h5) hx (turn_ne _ (bit % 512 % 8) (by omega))
  unfold cop
  rw [h]
  unfold turnBit
  rw [show (fraC rep reg v c b i).getD (bit % 512 / 8) 0 = (fraC rep reg v c b i)[bit % 512 / 8] by rw [List.getD_eq_getElem?_getD, hx]; rfl]
  unfold mineF
  rw [show openF ((fraC rep reg v c b i).set (bit % 512 / 8) (UInt8.ofNat ((fraC rep reg v c b i)[bit % 512 / 8].toNat ^^^ 2 ^ (bit % 512 % 8)))) = (2, zeroTg, []) from hbad]
  rfl
/-- Which copy counts: the one of the frame, where the other is bad, or older. -/
theorem loaded_one (hi : i < 2) (h1 : cop d rep reg i = coR rep reg i (some (v, c, b))) (h2 : (cop d rep reg (1 - i)).st ≠ 1 ∨ (cop d rep reg (1 - i)).tg.idx < v) : loadedC (cop d rep reg 0) (cop d rep reg 1) = (i, true, 0) ∧ pickC (cop d rep reg 0) (cop d rep reg 1) = coR rep reg i (some (v, c, b)) := by
  rcases (show i = 0 ∨ i = 1 by omega) with rfl | rfl
  · simp only [Nat.sub_zero] at h2
    have e : overC (cop d rep reg 1) (cop d rep reg 0) = false := by
      rw [h1]
      unfold overC coR
      simp only
      rcases h2 with h2 | h2
      · rw [decide_eq_false h2, Bool.false_and]
      · rw [show decide ((1 : Nat) ≠ 1) = false by decide, decide_eq_false (show ¬ v < (cop d rep reg 1).tg.idx by omega)]
        simp
    have e2 : loadedC (cop d rep reg 0) (cop d rep reg 1) = (0, true, 0) := by
      unfold loadedC
      rw [e, if_neg (by simp), h1, if_pos (show (coR rep reg 0 (some (v, c, b))).st = 1 from rfl)]
    refine ⟨e2, ?_⟩
    unfold pickC
    rw [e2, if_neg (by simp), h1]
  · simp only [Nat.sub_self] at h2
    have e : overC (cop d rep reg 1) (cop d rep reg 0) = true := by
      rw [h1]
      unfold overC coR
      simp only
      rcases h2 with h2 | h2
      · rw [decide_eq_true h2]
        simp
      · rw [decide_eq_true h2]
        simp
    have e2 : loadedC (cop d rep reg 0) (cop d rep reg 1) = (1, true, 0) := by
      unfold loadedC
      rw [e, if_pos rfl]
    refine ⟨e2, ?_⟩
    unfold pickC
    rw [e2, if_pos rfl, h1]
theorem load_one (h : Live d) (hp : 0 ≤ rep ∧ rep ≤ 6) (hr : reg = 1 ∨ reg = 2) (hi : i < 2) (h1 : cop d rep reg i = coR rep reg i (some (v, c, b))) (h2 : (cop d rep reg (1 - i)).st ≠ 1 ∨ (cop d rep reg (1 - i)).tg.idx < v) : loadC d rep reg = (v, b, 0) := by
  obtain ⟨e1, e2⟩ := loaded_one hi h1 h2
  rw [load_live h hp hr, e1, e2]
  rfl
theorem load_none (h : Live d) (hp : 0 ≤ rep ∧ rep ≤ 6) (hr : reg = 1 ∨ reg = 2) (h0 : cop d rep reg 0 = badR) (h1 : cop d rep reg 1 = badR) : loadC d rep reg = (0, [], 70) := by
  rw [load_live h hp hr, h0, h1]
  rfl
theorem heal_cop (h : Live d) (hp : 0 ≤ rep ∧ rep ≤ 6) (hr : reg = 1 ∨ reg = 2) : healC d rep reg = if (loadedC (cop d rep reg 0) (cop d rep reg 1)).2.1 = false then (d, (loadedC (cop d rep reg 0) (cop d rep reg 1)).2.2) else
    if (if (loadedC (cop d rep reg 0) (cop d rep reg 1)).1 = 1 then cop d rep reg 1 else cop d rep reg 0).st = (if (loadedC (cop d rep reg 0) (cop d rep reg 1)).1 = 1 then cop d rep reg 0 else cop d rep reg 1).st ∧ (if (loadedC (cop d rep reg 0) (cop d rep reg 1)).1 = 1 then cop d rep reg 1 else cop d rep reg 0).tg.idx = (if (loadedC (cop d rep reg 0) (cop d rep reg 1)).1 = 1 then cop d rep reg 0 else cop d rep reg 1).tg.idx ∧ (if (loadedC (cop d rep reg 0) (cop d rep reg 1)).1 = 1 then cop d rep reg 1 else cop d rep reg 0).body = (if (loadedC (cop d rep reg 0) (cop d rep reg 1)).1 = 1 then cop d rep reg 0 else cop d rep reg 1).body then (d, 0) else
    putC d ⟨rep, reg, 1 - ((loadedC (cop d rep reg 0) (cop d rep reg 1)).1 : Int), (if (loadedC (cop d rep reg 0) (cop d rep reg 1)).1 = 1 then cop d rep reg 1 else cop d rep reg 0).tg.idx, (if (loadedC (cop d rep reg 0) (cop d rep reg 1)).1 = 1 then cop d rep reg 1 else cop d rep reg 0).tg.inc⟩ (if (loadedC (cop d rep reg 0) (cop d rep reg 1)).1 = 1 then cop d rep reg 1 else cop d rep reg 0).body := by
  unfold healC
  rw [open_live h hp hr, (copy_cop hr).1, (copy_cop hr).2, if_neg (by simp)]
theorem heal_none (h : Live d) (hp : 0 ≤ rep ∧ rep ≤ 6) (hr : reg = 1 ∨ reg = 2) (h0 : cop d rep reg 0 = badR) (h1 : cop d rep reg 1 = badR) : healC d rep reg = (d, 70) := by
  rw [heal_cop h hp hr, h0, h1]
  rfl
theorem store_none (h : Live d) (hp : 0 ≤ rep ∧ rep ≤ 6) (hr : reg = 1 ∨ reg = 2) {inc : Int} {body : List UInt8} (hi : 1 ≤ inc ∧ inc ≤ 1099511627776) (hb : body.length ≤ 43) (h0 : cop d rep reg 0 = badR) (h1 : cop d rep reg 1 = badR) : storeC d rep reg inc body = (d, 70) := by
  unfold storeC
  rw [open_live h hp hr, (copy_cop hr).1, (copy_cop hr).2, h0, h1]
  simp only [ne_eq, not_true, false_and, if_false]
  rw [if_neg (by omega), if_neg (by omega)]
  rfl
/-- Both copies say the same: nothing is healed. -/
theorem heal_same (h : Live d) (hp : 0 ≤ rep ∧ rep ≤ 6) (hr : reg = 1 ∨ reg = 2) {o : Vo} (hf : Fr d rep reg o) : healC d rep reg = (d, 0) := by
  have hB := hf.both hp hr
  obtain ⟨e1, _, _⟩ := loaded_same (rep := rep) (reg := reg) o
  rw [heal_cop h hp hr, hB.c0, hB.c1, e1]
  match o with
  | none => rfl
  | some (v, c, b) => rw [if_neg (by simp)]; simp [coR]
/-- One copy is ahead, or the other bad: that is healed. -/
theorem heal_one (h : Live d) (hp : 0 ≤ rep ∧ rep ≤ 6) (hr : reg = 1 ∨ reg = 2) (hi : i < 2) (ho : okO (some (v, c, b))) (hl : d.left < 0) (h1 : readD d (secC reg i) = (fraC rep reg v c b i, 0)) (h2 : (cop d rep reg (1 - i)).st ≠ 1 ∨ (cop d rep reg (1 - i)).tg.idx < v) :
    ∃ d', healC d rep reg = (d', 0) ∧ Live d' ∧ d'.left = d.left ∧ Fr d' rep reg (some (v, c, b)) ∧ ∀ j : Nat, j < 156 → j ≠ secC reg 0 → j ≠ secC reg 1 → readD d' j = readD d j := by
  obtain ⟨o1, o2, o3, o4, o5⟩ := ho
  have hc1 : cop d rep reg i = coR rep reg i (some (v, c, b)) := cop_fra hp hr hi (by omega) o2 ⟨o3, o4⟩ o5 h1
  obtain ⟨e1, e2⟩ := loaded_one hi hc1 h2
  have hput := put_p (rep := rep) (reg := reg) (v := v) (inc := c) (body := b) h hr o5 (i := 1 - i) (by omega) (by omega) (by omega)
  have hs2 := sec_lt hr (i := 1 - i) (by omega)
  have hs1 := sec_lt hr hi
  have hne : secC reg i ≠ secC reg (1 - i) := by unfold secC; omega
  have he : healC d rep reg = (putP d (secC reg (1 - i)) (fraC rep reg v c b (1 - i)), 0) := by
    rw [heal_cop h hp hr, e1, ← hput]
    rw [if_neg (by simp)]
    rcases (show i = 0 ∨ i = 1 by omega) with rfl | rfl
    · simp only [show ((0 : Nat) = 1) = False by simp, if_false]
      rw [hc1]
      simp only [Nat.sub_zero] at h2 ⊢
      rw [if_neg]
      · rfl
      · rintro ⟨a1, a2, _⟩
        simp only [coR] at a1 a2
        rcases h2 with h2 | h2
        · exact h2 a1.symm
        · omega
    · simp only [if_true]
      rw [hc1]
      simp only [Nat.sub_self] at h2 ⊢
      rw [if_neg]
      · rfl
      · rintro ⟨a1, a2, _⟩
        simp only [coR] at a1 a2
        rcases h2 with h2 | h2
        · exact h2 a1.symm
        · omega
  have hrd : ∀ j : Nat, j < 156 → readD (putP d (secC reg (1 - i)) (fraC rep reg v c b (1 - i))) j = if j = secC reg (1 - i) then (fraC rep reg v c b (1 - i), 0) else readD d j := fun j hj => putP_read h _ hj hs2
  have r1 := hrd _ hs1
  rw [if_neg hne, h1] at r1
  have r2 := hrd _ hs2
  rw [if_pos rfl] at r2
  refine ⟨_, he, putP_live h _ _, ?_, ⟨⟨o1, o2, o3, o4, o5⟩, ?_, ?_⟩, fun j hj a0 a1 => ?_⟩
  · rw [putP_left, if_neg (by omega)]
  · rcases (show i = 0 ∨ i = 1 by omega) with rfl | rfl
    · exact r1
    · exact r2
  · rcases (show i = 0 ∨ i = 1 by omega) with rfl | rfl
    · exact r2
    · exact r1
  · rw [hrd j hj, if_neg]
    rcases (show i = 0 ∨ i = 1 by omega) with rfl | rfl
    · exact a1
    · exact a0
end
end Go.Proofs.YtejjneamngkmoaaDoor

