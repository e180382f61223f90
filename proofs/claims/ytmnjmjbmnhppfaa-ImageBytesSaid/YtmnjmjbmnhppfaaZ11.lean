/- Texts that the claim leans on, part 11: A1, A2, A3, OB. -/
import Derived.Test.YtmnjmjbmnhppfaaZ1
import Derived.Test.YtmnjmjbmnhppfaaZ2
import Derived.Test.YtmnjmjbmnhppfaaZ3
import Derived.Test.YtmnjmjbmnhppfaaZ4
import Derived.Test.YtmnjmjbmnhppfaaZ5
import Derived.Test.YtmnjmjbmnhppfaaZ6
import Derived.Test.YtmnjmjbmnhppfaaZ7
import Derived.Test.YtmnjmjbmnhppfaaZ8
import Derived.Test.YtmnjmjbmnhppfaaZ9
import Derived.Test.YtmnjmjbmnhppfaaZ10
import Derived.Test.YtmnjmjbmnhppfaaRows
import Derived.WalkKit
import Derived.WalkSpells
import Derived.WalkLawsBesides
import Derived.Handy
import Derived.Deep.QuietTactic
import Derived.BigQuiet
import Derived.Deep.DeepCutAuto
import Derived.Lib.Hide
import Derived.RegionTactic
import Derived.ChangeAlike
import Derived.Laws.ResultCell
import Derived.Outline
import Derived.ProofKit
import Derived.Lib.SmallJoins
import Derived.Lib.AppendStr
import Derived.Laws.IdiomStrings
import Derived.Laws.BytesArg
import Derived.Recover
import Derived.Defers
import Derived.Deep.RegionHeld3
import Derived.Deep.Slices
import Derived.Deep.Strs
import Derived.OpenShut
import Derived.Deep.Quiet
import Derived.ChangeKeysEq
import Derived.ChangeSlices
import Derived.Laws.EntriesVeiled
import Derived.StillTailTactics
import Derived.Laws.Rows
import Derived.Lib.Overlaps
import Derived.Deep.RegionWith
import Derived.Laws.Strings
import Derived.Laws.CopyOwn
import Derived.Laws.CopyRow
import Derived.Laws.NewBlocks
import Derived.Deep.RegionLaw
namespace Go.Proofs.Ytmnjmjbmnhppfaa
open Go.RowKit

theorem rpA_z : 0 + 3 ≤ (rpA zeroR).size ∧ (rpA zeroR).extract 0 (0 + 3) = #[.int .i64 0, .bool false, .string ⟨#[]⟩] := ⟨Nat.le_refl _, rfl⟩
theorem rpA_o : 0 + 3 ≤ (rpA oldR).size ∧ (rpA oldR).extract 0 (0 + 3) = #[.int .i64 220, .bool false, .string ⟨#[]⟩] := ⟨Nat.le_refl _, rfl⟩
theorem slB_block {w : World} {g : Nat} {cs : Array Value} {T : TypeId} {l : List UInt8} (h : w.heap[g]? = some (.cells cs T (0, 0))) (hl : l.length ≤ maxLen) (hc : ∀ (i : Nat) (u : Value), (bys l)[i]? = some u → cs[i]? = some u) : SlB w (some ⟨g, 0, none⟩) l.length l :=
  ⟨.inr ⟨g, 0, rfl, fun i u hu => by rw [Nat.zero_add]; exact blk_cell h i u (hc i u hu)⟩, Nat.le_refl _, hl, fun e => by cases e⟩

theorem gb_none {w w' : World} (h : w.grownBy w' none) : Below w.heap.size w w' := (Below.refl w.heap.size w).grown h (Nat.le_refl _) (fun _ e => by cases e)
/-- make([]byte, n): zeros of one's own. -/
theorem exec_zeros (n : Nat) (hn : n ≤ 1000) (hz : (madeCells (Value.int .u8 0).cells (n * 1)).toList = bys (zerosB n)) {o : Oper} {a : Act} {w : World} (l c : Operand) (hop : o.op = Op.makeSlice 26 l c) (hl : a.eval l = .int .i64 n) (hc : a.eval c = .int .i64 n) :
    ∃ w', (execOp a.eval o).run Try.prog w = .ok (.value (.slice (some ⟨w.heap.size, 0, none⟩) n n)) w' ∧ SlB w' (some ⟨w.heap.size, 0, none⟩) n (zerosB n) ∧ Below w.heap.size w w' := by
  obtain ⟨i0, hi, hz0, hz1, hz2⟩ := info_parts (show (Try.prog.info? 5).map (fun i => (i.zero, i.size, i.bytes)) = some (some (.int .u8 0), 1, 1) by kernel_rfl)
  obtain ⟨w', hr, ho, hg⟩ := run_make_full (P := Try.prog) (w := w) w.heap.size 26 5 i0 _ 1 Try.underlying26 hi hz0 hz1 .i64 .i64 n (by rw [hz2]; omega) (by unfold maxLen; omega) (Nat.le_refl _)
  refine ⟨w', ?_, ?_, gb_none hg⟩
  · simp [execOp, hop, hl, hc, hr, Result.andThen]
  · rw [hz] at ho
    have hlen : (zerosB n).length = n := List.length_replicate
    have ho' : w'.ownsRow w.heap.size 5 1 (.slice (some ⟨w.heap.size, 0, none⟩) n n) (zerosB n).length (bys (zerosB n)) := by rw [hlen]; exact ho
    obtain ⟨a', c', hv, hs⟩ := SlB.of_owns ho'
    injection hv with e1 _ e2
    subst e1 e2
    exact hs
theorem wp_zeros (n : Nat) (hn : n ≤ 1000) (hz : (madeCells (Value.int .u8 0).cells (n * 1)).toList = bys (zerosB n)) {o : Oper} {a : Act} {w : World} {K : Act → World → Prop} {Q : Exit → Act → World → Prop} (l c : Operand) (hop : o.op = Op.makeSlice 26 l c) (hl : a.eval l = .int .i64 n) (hc : a.eval c = .int .i64 n)
    (h : ∀ w', SlB w' (some ⟨w.heap.size, 0, none⟩) n (zerosB n) → Below w.heap.size w w' → K (a.put o.dst (.slice (some ⟨w.heap.size, 0, none⟩) n n)) w') : o.wp Try.prog a w K Q := by
  obtain ⟨w', hr, hs, hb⟩ := exec_zeros n hn hz l c hop hl hc (w := w)
  exact wp_run hr (h w' hs hb)
theorem wpList_zeros (n : Nat) (hn : n ≤ 1000) (hz : (madeCells (Value.int .u8 0).cells (n * 1)).toList = bys (zerosB n)) {o : Oper} {ops : Array Oper} {rest : List Oper} {a : Act} {w : World} {Q : Exit → Act → World → Prop} (hg : o.guard = none) (l c : Operand) (hop : o.op = Op.makeSlice 26 l c) (hl : a.eval l = .int .i64 n) (hc : a.eval c = .int .i64 n)
    (h : ∀ w', SlB w' (some ⟨w.heap.size, 0, none⟩) n (zerosB n) → Below w.heap.size w w' → wpList Try.prog ops Q rest (a.put o.dst (.slice (some ⟨w.heap.size, 0, none⟩) n n)) w') : wpList Try.prog ops Q (o :: rest) a w :=
  wpList_plain hg fun _ hK => wp_zeros n hn hz l c hop hl hc (fun w' h1 h2 => hK _ _ (h w' h1 h2))
theorem exec_conv {a : Act} {w : World} {dst : Option Tmp} {ty' : TypeId} {pos : String} {af : Array Edge} {gd : Option (Nat × Bool)} (x : Operand) (ad : Option Addr) (c n : Nat) (l : List UInt8) (hl : l.length = n) (hx : a.eval x = .slice ad n c) (h : Row w ad (bys l)) :
    (execOp a.eval (Oper.mk dst (.convert 26 9 x) ty' pos af gd)).run Try.prog w = .ok (.value (.string (txOf l))) w := by
  subst hl
  have hc := conv_bytes ad c l w h
  unfold execOp
  simp only [hx, Sem.run_bind, hc, Sem.run_pure, Result.andThen_ok]
theorem wp_conv {a : Act} {w : World} {K : Act → World → Prop} {Q : Exit → Act → World → Prop} {dst : Option Tmp} {ty' : TypeId} {pos : String} {af : Array Edge} {gd : Option (Nat × Bool)} (x : Operand) (ad : Option Addr) (c n : Nat) (l : List UInt8) (hl : l.length = n) (hx : a.eval x = .slice ad n c) (h : Row w ad (bys l))
    (hK : K (a.put dst (.string (txOf l))) w) : (Oper.mk dst (.convert 26 9 x) ty' pos af gd).wp Try.prog a w K Q := by
  have hr := exec_conv (dst := dst) (ty' := ty') (pos := pos) (af := af) (gd := gd) x ad c n l hl hx h
  unfold Oper.wp
  rw [hr]
  exact hK
theorem slP_blk {w : World} {g : Nat} {l : List Pr} {t : TypeId} (h : w.heap[g]? = some (.cells (prs l).toArray t (0, 0))) (hl : l.length ≤ 1000) : SlP w (some ⟨g, 0, none⟩) l.length l := by
  refine ⟨.inr ⟨g, 0, rfl, fun i u hu => ?_⟩, Nat.le_refl _, by unfold maxLen; omega, fun h => by cases h⟩
  simp only [World.cell?, h, Nat.zero_add, List.getElem?_toArray]
  exact hu
theorem same_kv (a b : Option Addr) (c d : Nat) (w : World) (ha : SlP w a c kvL) (hb : SlP w b d kvL) :
    Calls Try.prog 37 #[.slice a 1 c, .slice b 1 d] w fun e w' => e = .returned (.bool true) ∧ Below w.heap.size w w' := by
  refine (psame_any a b c d kvL kvL w ha.row hb.row (by decide) (by decide) true (by simp)).mono ?_
  rintro e w' ⟨rfl, q, rfl⟩
  exact ⟨rfl, below_drewN (Below.refl _ _) q⟩

set_option maxRecDepth 100000 in
set_option maxHeartbeats 16000000 in
theorem awake_any (w : World) : Calls Try.prog 51 #[] w fun e w' => e = .returned (.bool true) ∧ Below w.heap.size w w' := by
  go_enter Try.func51, Try.ntmps51
  refine wp_seq_k (fun K hK => ?_)
  have HK := Lib.hid hK
  clear hK
  go_wp2
  refine HK.out _ _ ?_
  clear HK
  refine wp_seq_k (fun K hK => ?_)
  have HK := Lib.hid hK
  clear hK
  go_wp2_with (go_at_call 24; refine (print0 _).mono ?_; rintro e w1 ⟨⟨az, cz, rfl, sz⟩, hb1⟩)
  refine HK.out _ _ ?_
  clear HK
  refine wp_seq_k (fun K hK => ?_)
  have HK := Lib.hid hK
  clear hK
  go_wp2_with (first
      | (go_at_call 88; refine (putE_any 3 _).mono ?_; rintro e wp ⟨rfl, hbp⟩)
      | (go_at_call 48; refine (apply1 _).mono ?_; rintro e w5 ⟨⟨a1, c1, rfl, ho⟩, hb5⟩)
      | ((with_reducible refine wpList_stB 49 _ _ ?_); refine ⟨_, _, _, ⟨_, _, _, Try.sizeOf49, rfl, tr_al _ (heap_alloc_new _ _), imA_over _ _ _ _ _ 0 (.slice none 0 0) zeroT⟩, ?_⟩; intro w6 D8 g6; have D9 := tr_st g6 (heap_alloc2_new w5 _ _) (by omega))
      | ((with_reducible refine wpList_stB 43 _ _ ?_); refine ⟨_, _, _, ⟨_, _, _, Try.sizeOf43, rfl, D9, rpA_over _ zeroR⟩, ?_⟩; intro w7 E4 g7; have E3 := tr_st g7 D8 (by omega)))
  refine HK.out _ _ ?_
  clear HK
  have hb := step_b (step_b (step_b hb1 hbp) hb5) (bl_two g6 g7)
  have sz := ((sz.below hbp).below hb5).below (bl_two g6 g7)
  have s1 := (SlP.of_own1 (l := kvL) ho).below (bl_two g6 g7)
  obtain ⟨g3, hg3⟩ : ∃ g, w5.heap.size = g := ⟨_, rfl⟩
  simp only [hg3] at E3 E4 ⊢
  clear hg3 g6 g7 D8 D9 hb1 hbp hb5 ho
  refine wp_seq_k (fun K hK => ?_)
  go_cut [6, 7, 8] from 30 to 36 (fun v6 v7 v8 wx => ∃ g6 g7 a c, v6 = .pointer (some ⟨g6, 0, none⟩) ∧ v7 = .pointer (some ⟨g7, 0, none⟩) ∧ v8 = .int .i64 0 ∧ wx.heap[g6]? = some (.cells (imA 2 (.slice a 1 c) t1T) 49 (0, 0)) ∧ wx.heap[g7]? = some (.cells (rpA zeroR) 43 (0, 0)) ∧ SlP wx a c kvL ∧ Below w7.heap.size w7 wx)
  case first =>
    go_wp2_with fail
    obtain ⟨B, hB⟩ : ∃ B, w7.heap.size = B := ⟨_, rfl⟩
    have HB1 : ∀ w', Below B w7 w' → w'.heap[g3]? = some (.cells (imA 1 (.slice a1 1 c1) t1T) 49 (0, 0)) := fun w' h => tr_bl (by rw [hB]; exact h) E3
    have HB2 : ∀ w', Below B w7 w' → SlP w' a1 c1 kvL := fun w' h => s1.below (by rw [hB]; exact h)
    have hb := (Below.refl w7.heap.size w7).drew
    have hz : w7.heap.size ≤ w7.drew.heap.size := Nat.le_refl _
    rw [hB] at hb hz
    have HBB := Lib.hid hB
    clear hB E3 E4 s1 sz
    refine wp_region_held_drew (S := fun w' => Below B w7 w') (by kernel_rfl) hb (fun hS0 => ?_)
    generalize w7.drew = x0 at *
    refine wpAnyH_take (i := 0) (oi := ⟨_, _, _, _, _, _⟩) (v := .agg (imA 1 (.slice a1 1 c1) t1T)) rfl (by kernel_rfl) (by kernel_rfl) (by kernel_rfl) (fun _ _ _ h => h) (Or.inl ⟨by rfl, fun wS hSw => ?_⟩) (by assumption) ?_
    · exact exec_ldB 49 _ ⟨_, _, _, _, _, Try.isAgg49, Try.sizeOf49, rfl, HB1 _ hSw, imA_all _ _ _⟩
    (try simp only [Act.put])
    (try simp only [List.setIfInBounds_toArray])
    (try simp only [List.set_cons_succ])
    (try simp only [List.set_cons_zero])
    refine wpAnyH_ready (rs := [1, 7, 8]) (by kernel_rfl) (by simp) ?_
    refine AllReadyH.cons (o := ⟨_, _, _, _, _, _⟩) rfl (fun K' hK' => ?_) (AllReadyH.cons (o := ⟨_, _, _, _, _, _⟩) rfl (fun K' hK' => ?_) (AllReadyH.cons (o := ⟨_, _, _, _, _, _⟩) rfl (fun K' hK' => ?_) (AllReadyH.nil)))
    · refine (if_pos (by rfl)).mpr ?_
      go_simp
      refine (putE_any 3 _).mono ?_
      rintro en x1 ⟨rfl, hbk⟩
      have hb := hb.trans (hbk.mono hz)
      have hz := Nat.le_trans hz hbk.size
      clear hbk
      refine hK'.out _ _ hb (fun _ => ?_)
      refine wpAnyH_ready (rs := [2, 7, 8]) (by kernel_rfl) (by simp) ?_
      refine AllReadyH.cons (o := ⟨_, _, _, _, _, _⟩) rfl (fun K' hK' => ?_) (AllReadyH.cons (o := ⟨_, _, _, _, _, _⟩) rfl (fun K' hK' => ?_) (AllReadyH.cons (o := ⟨_, _, _, _, _, _⟩) rfl (fun K' hK' => ?_) (AllReadyH.nil)))
      · refine (if_pos (by rfl)).mpr ?_
        go_simp
        refine (apply2 a1 c1 _ (HB2 _ hb)).mono ?_
        rintro en x2 ⟨⟨a2, c2, rfl, ho⟩, hbk⟩
        have ho := owns_mono ho hz
        have hb := hb.trans (hbk.mono hz)
        have hz := Nat.le_trans hz hbk.size
        clear hbk
        refine hK'.out _ _ hb (fun _ => ?_)
        refine wpAnyH_take (i := 3) (oi := ⟨_, _, _, _, _, _⟩) (v := ?_) rfl (by kernel_rfl) (by kernel_rfl) (by kernel_rfl) (fun _ _ _ h => h) (Or.inl ⟨by rfl, ?_⟩) (by assumption) ?_
        rotate_left
        · intro wS hSw
          go_simp; (try with_reducible rfl)
        (try simp only [Act.put])
        (try simp only [List.setIfInBounds_toArray])
        (try simp only [List.set_cons_succ])
        (try simp only [List.set_cons_zero])
        refine wpAnyH_take (i := 4) (oi := ⟨_, _, _, _, _, _⟩) (v := ?_) rfl (by kernel_rfl) (by kernel_rfl) (by kernel_rfl) (fun _ _ _ h => h) (Or.inl ⟨by rfl, ?_⟩) (by assumption) ?_
        rotate_left
        · intro wS hSw
          go_simp; (try with_reducible rfl)
        (try simp only [Act.put])
        (try simp only [List.setIfInBounds_toArray])
        (try simp only [List.set_cons_succ])
        (try simp only [List.set_cons_zero])
        refine wpAnyH_take (i := 5) (oi := ⟨_, _, _, _, _, _⟩) (v := ?_) rfl (by kernel_rfl) (by kernel_rfl) (by kernel_rfl) (fun _ _ _ h => h) (Or.inl ⟨by rfl, ?_⟩) (by assumption) ?_
        rotate_left
        · intro wS hSw
          go_simp; (try with_reducible rfl)
        (try simp only [Act.put])
        (try simp only [List.setIfInBounds_toArray])
        (try simp only [List.set_cons_succ])
        (try simp only [List.set_cons_zero])
        refine wpAnyH_take (i := 6) (oi := ⟨_, _, _, _, _, _⟩) (v := ?_) rfl (by kernel_rfl) (by kernel_rfl) (by kernel_rfl) (fun _ _ _ h => h) (Or.inl ⟨by rfl, ?_⟩) (by assumption) ?_
        rotate_left
        · intro wS hSw
          go_simp; (try with_reducible rfl)
        (try simp only [Act.put])
        (try simp only [List.setIfInBounds_toArray])
        (try simp only [List.set_cons_succ])
        (try simp only [List.set_cons_zero])
        refine wpAnyH_ready (rs := [7, 8]) (by kernel_rfl) (by simp) ?_
        refine AllReadyH.cons (o := ⟨_, _, _, _, _, _⟩) rfl (fun K' hK' => ?_) (AllReadyH.cons (o := ⟨_, _, _, _, _, _⟩) rfl (fun K' hK' => ?_) (AllReadyH.nil))
        · refine (if_pos (by rfl)).mpr ?_
          go_simp
          change K' _ (World.alloc _ (Obj.cells (imA 0 (.slice none 0 0) zeroT) 49))
          have D := heap_alloc_new x2 (Obj.cells (imA 0 (.slice none 0 0) zeroT) 49)
          have ho := owns_bl ho (blw _ (Obj.cells (imA 0 (.slice none 0 0) zeroT) 49))
          have hb := hb.trans ((blw _ (Obj.cells (imA 0 (.slice none 0 0) zeroT) 49)).mono hz)
          have hp : B ≤ x2.heap.size := hz
          have hz := Nat.le_trans hz (blw x2 (Obj.cells (imA 0 (.slice none 0 0) zeroT) 49)).size
          refine hK'.out _ _ hb (fun _ => ?_)
          generalize x2.alloc (Obj.cells (imA 0 (.slice none 0 0) zeroT) 49) = x3 at *
          obtain ⟨p, hpn⟩ : ∃ g, x2.heap.size = g := ⟨_, rfl⟩
          simp only [hpn] at D hp ⊢
          clear hpn
          refine wpAnyH_ready (rs := [8]) (by kernel_rfl) (by simp) ?_
          refine AllReadyH.cons (o := ⟨_, _, _, _, _, _⟩) rfl (fun K' hK' => ?_) (AllReadyH.nil)
          · refine (if_pos (by rfl)).mpr ?_
            go_simp
            change K' _ (World.alloc _ (Obj.cells (rpA zeroR) 43))
            have E := heap_alloc_new x3 (Obj.cells (rpA zeroR) 43)
            have hpq := lt_blk D
            have D := tr_al (Obj.cells (rpA zeroR) 43) D
            have ho := owns_bl ho (blw _ (Obj.cells (rpA zeroR) 43))
            have hb := hb.trans ((blw _ (Obj.cells (rpA zeroR) 43)).mono hz)
            have hq : B ≤ x3.heap.size := hz
            have hz := Nat.le_trans hz (blw x3 (Obj.cells (rpA zeroR) 43)).size
            refine hK'.out _ _ hb (fun _ => ?_)
            generalize x3.alloc (Obj.cells (rpA zeroR) 43) = x4 at *
            obtain ⟨q, hqn⟩ : ∃ g, x3.heap.size = g := ⟨_, rfl⟩
            simp only [hqn] at E hq hpq ⊢
            clear hqn
            refine wpAnyH_ready (rs := [9]) (by kernel_rfl) (by simp) ?_
            refine AllReadyH.cons (o := ⟨_, _, _, _, _, _⟩) rfl (fun K' hK' => ?_) (AllReadyH.nil)
            refine (if_pos (by rfl)).mpr ?_
            refine wp_stB 49 _ _ ?_
            have D0 := D
            refine ⟨_, _, _, ⟨_, _, _, Try.sizeOf49, rfl, D, imA_over _ _ _ _ _ 0 (.slice none 0 0) zeroT⟩, ?_⟩
            intro y1 D1 g1
            have E1 := tr_st g1 E (by omega)
            have ho1 := owns_ne ho g1 D0 (by decide)
            have hb1 := bl_st hb g1 hz hp
            have hz1 := Nat.le_trans hz g1.size
            refine hK'.out _ _ hb1 (fun _ => ?_)
            refine wpAnyH_ready (rs := [10]) (by kernel_rfl) (by simp) ?_
            refine AllReadyH.cons (o := ⟨_, _, _, _, _, _⟩) rfl (fun K' hK' => ?_) (AllReadyH.nil)
            refine (if_pos (by rfl)).mpr ?_
            refine wp_stB 43 _ _ ?_
            have E2 := E1
            refine ⟨_, _, _, ⟨_, _, _, Try.sizeOf43, rfl, E1, rpA_over _ zeroR⟩, ?_⟩
            intro y2 F g2
            have D2 := tr_st g2 D1 (by omega)
            have ho2 := owns_ne ho1 g2 E2 (by decide)
            have hb2 := bl_st hb1 g2 hz1 hq
            refine hK'.out _ _ hb2 (fun _ => ?_)
            refine wpAnyH_take (i := 11) (oi := ⟨_, _, _, _, _, _⟩) (v := ?_) rfl (by kernel_rfl) (by kernel_rfl) (by kernel_rfl) (fun _ _ _ h => h) (Or.inl ⟨by rfl, ?_⟩) (by assumption) ?_
            rotate_left
            · intro wS hSw
              go_simp; (try with_reducible rfl)
            (try simp only [Act.put])
            (try simp only [List.setIfInBounds_toArray])
            (try simp only [List.set_cons_succ])
            (try simp only [List.set_cons_zero])
            refine wpAnyH_done (by kernel_rfl) ?_ _
            go_wp2
            go_meet
            rw [HBB.out]
            exact ⟨p, q, a2, c2, rfl, rfl, rfl, D2, F, SlP.of_own1 (l := kvL) ho2, hb2⟩
        · refine (if_pos (by rfl)).mpr ?_
          go_simp
          change K' _ (World.alloc _ (Obj.cells (rpA zeroR) 43))
          have E := heap_alloc_new x2 (Obj.cells (rpA zeroR) 43)
          have ho := owns_bl ho (blw _ (Obj.cells (rpA zeroR) 43))
          have hb := hb.trans ((blw _ (Obj.cells (rpA zeroR) 43)).mono hz)
          have hq : B ≤ x2.heap.size := hz
          have hz := Nat.le_trans hz (blw x2 (Obj.cells (rpA zeroR) 43)).size
          refine hK'.out _ _ hb (fun _ => ?_)
          generalize x2.alloc (Obj.cells (rpA zeroR) 43) = x5 at *
          obtain ⟨q, hqn⟩ : ∃ g, x2.heap.size = g := ⟨_, rfl⟩
          simp only [hqn] at E hq ⊢
          clear hqn
          refine wpAnyH_ready (rs := [7]) (by kernel_rfl) (by simp) ?_
          refine AllReadyH.cons (o := ⟨_, _, _, _, _, _⟩) rfl (fun K' hK' => ?_) (AllReadyH.nil)
          · refine (if_pos (by rfl)).mpr ?_
            go_simp
            change K' _ (World.alloc _ (Obj.cells (imA 0 (.slice none 0 0) zeroT) 49))
            have D := heap_alloc_new x5 (Obj.cells (imA 0 (.slice none 0 0) zeroT) 49)
            have hpq := lt_blk E
            have E := tr_al (Obj.cells (imA 0 (.slice none 0 0) zeroT) 49) E
            have ho := owns_bl ho (blw _ (Obj.cells (imA 0 (.slice none 0 0) zeroT) 49))
            have hb := hb.trans ((blw _ (Obj.cells (imA 0 (.slice none 0 0) zeroT) 49)).mono hz)
            have hp : B ≤ x5.heap.size := hz
            have hz := Nat.le_trans hz (blw x5 (Obj.cells (imA 0 (.slice none 0 0) zeroT) 49)).size
            refine hK'.out _ _ hb (fun _ => ?_)
            generalize x5.alloc (Obj.cells (imA 0 (.slice none 0 0) zeroT) 49) = x6 at *
            obtain ⟨p, hpn⟩ : ∃ g, x5.heap.size = g := ⟨_, rfl⟩
            simp only [hpn] at D hp hpq ⊢
            clear hpn
            refine wpAnyH_ready (rs := [9]) (by kernel_rfl) (by simp) ?_
            refine AllReadyH.cons (o := ⟨_, _, _, _, _, _⟩) rfl (fun K' hK' => ?_) (AllReadyH.nil)
            refine (if_pos (by rfl)).mpr ?_
            refine wp_stB 49 _ _ ?_
            have D0 := D
            refine ⟨_, _, _, ⟨_, _, _, Try.sizeOf49, rfl, D, imA_over _ _ _ _ _ 0 (.slice none 0 0) zeroT⟩, ?_⟩
            intro y1 D1 g1
            have E1 := tr_st g1 E (by omega)
            have ho1 := owns_ne ho g1 D0 (by decide)
            have hb1 := bl_st hb g1 hz hp
            have hz1 := Nat.le_trans hz g1.size
            refine hK'.out _ _ hb1 (fun _ => ?_)
            refine wpAnyH_ready (rs := [10]) (by kernel_rfl) (by simp) ?_
            refine AllReadyH.cons (o := ⟨_, _, _, _, _, _⟩) rfl (fun K' hK' => ?_) (AllReadyH.nil)
            refine (if_pos (by rfl)).mpr ?_
            refine wp_stB 43 _ _ ?_
            have E2 := E1
            refine ⟨_, _, _, ⟨_, _, _, Try.sizeOf43, rfl, E1, rpA_over _ zeroR⟩, ?_⟩
            intro y2 F g2
            have D2 := tr_st g2 D1 (by omega)
            have ho2 := owns_ne ho1 g2 E2 (by decide)
            have hb2 := bl_st hb1 g2 hz1 hq
            refine hK'.out _ _ hb2 (fun _ => ?_)
            refine wpAnyH_take (i := 11) (oi := ⟨_, _, _, _, _, _⟩) (v := ?_) rfl (by kernel_rfl) (by kernel_rfl) (by kernel_rfl) (fun _ _ _ h => h) (Or.inl ⟨by rfl, ?_⟩) (by assumption) ?_
            rotate_left
            · intro wS hSw
              go_simp; (try with_reducible rfl)
            (try simp only [Act.put])
            (try simp only [List.setIfInBounds_toArray])
            (try simp only [List.set_cons_succ])
            (try simp only [List.set_cons_zero])
            refine wpAnyH_done (by kernel_rfl) ?_ _
            go_wp2
            go_meet
            rw [HBB.out]
            exact ⟨p, q, a2, c2, rfl, rfl, rfl, D2, F, SlP.of_own1 (l := kvL) ho2, hb2⟩
      · refine (if_pos (by rfl)).mpr ?_
        go_simp
        change K' _ (World.alloc _ (Obj.cells (imA 0 (.slice none 0 0) zeroT) 49))
        have D := heap_alloc_new x1 (Obj.cells (imA 0 (.slice none 0 0) zeroT) 49)
        have hb := hb.trans ((blw _ (Obj.cells (imA 0 (.slice none 0 0) zeroT) 49)).mono hz)
        have hp : B ≤ x1.heap.size := hz
        have hz := Nat.le_trans hz (blw x1 (Obj.cells (imA 0 (.slice none 0 0) zeroT) 49)).size
        refine hK'.out _ _ hb (fun _ => ?_)
        generalize x1.alloc (Obj.cells (imA 0 (.slice none 0 0) zeroT) 49) = x7 at *
        obtain ⟨p, hpn⟩ : ∃ g, x1.heap.size = g := ⟨_, rfl⟩
        simp only [hpn] at D hp ⊢
        clear hpn
        refine wpAnyH_ready (rs := [2, 8]) (by kernel_rfl) (by simp) ?_
        refine AllReadyH.cons (o := ⟨_, _, _, _, _, _⟩) rfl (fun K' hK' => ?_) (AllReadyH.cons (o := ⟨_, _, _, _, _, _⟩) rfl (fun K' hK' => ?_) (AllReadyH.nil))
        · refine (if_pos (by rfl)).mpr ?_
          go_simp
          refine (apply2 a1 c1 _ (HB2 _ hb)).mono ?_
          rintro en x8 ⟨⟨a2, c2, rfl, ho⟩, hbk⟩
          have ho := owns_mono ho hz
          have hb := hb.trans (hbk.mono hz)
          have hz := Nat.le_trans hz hbk.size
          have D := tr_bl hbk D
          clear hbk
          refine hK'.out _ _ hb (fun _ => ?_)
          refine wpAnyH_take (i := 3) (oi := ⟨_, _, _, _, _, _⟩) (v := ?_) rfl (by kernel_rfl) (by kernel_rfl) (by kernel_rfl) (fun _ _ _ h => h) (Or.inl ⟨by rfl, ?_⟩) (by assumption) ?_
          rotate_left
          · intro wS hSw
            go_simp; (try with_reducible rfl)
          (try simp only [Act.put])
          (try simp only [List.setIfInBounds_toArray])
          (try simp only [List.set_cons_succ])
          (try simp only [List.set_cons_zero])
          refine wpAnyH_take (i := 4) (oi := ⟨_, _, _, _, _, _⟩) (v := ?_) rfl (by kernel_rfl) (by kernel_rfl) (by kernel_rfl) (fun _ _ _ h => h) (Or.inl ⟨by rfl, ?_⟩) (by assumption) ?_
          rotate_left
          · intro wS hSw
            go_simp; (try with_reducible rfl)
          (try simp only [Act.put])
          (try simp only [List.setIfInBounds_toArray])
          (try simp only [List.set_cons_succ])
          (try simp only [List.set_cons_zero])
          refine wpAnyH_take (i := 5) (oi := ⟨_, _, _, _, _, _⟩) (v := ?_) rfl (by kernel_rfl) (by kernel_rfl) (by kernel_rfl) (fun _ _ _ h => h) (Or.inl ⟨by rfl, ?_⟩) (by assumption) ?_
          rotate_left
          · intro wS hSw
            go_simp; (try with_reducible rfl)
          (try simp only [Act.put])
          (try simp only [List.setIfInBounds_toArray])
          (try simp only [List.set_cons_succ])
          (try simp only [List.set_cons_zero])
          refine wpAnyH_take (i := 6) (oi := ⟨_, _, _, _, _, _⟩) (v := ?_) rfl (by kernel_rfl) (by kernel_rfl) (by kernel_rfl) (fun _ _ _ h => h) (Or.inl ⟨by rfl, ?_⟩) (by assumption) ?_
          rotate_left
          · intro wS hSw
            go_simp; (try with_reducible rfl)
          (try simp only [Act.put])
          (try simp only [List.setIfInBounds_toArray])
          (try simp only [List.set_cons_succ])
          (try simp only [List.set_cons_zero])
          refine wpAnyH_ready (rs := [8]) (by kernel_rfl) (by simp) ?_
          refine AllReadyH.cons (o := ⟨_, _, _, _, _, _⟩) rfl (fun K' hK' => ?_) (AllReadyH.nil)
          · refine (if_pos (by rfl)).mpr ?_
            go_simp
            change K' _ (World.alloc _ (Obj.cells (rpA zeroR) 43))
            have E := heap_alloc_new x8 (Obj.cells (rpA zeroR) 43)
            have hpq := lt_blk D
            have D := tr_al (Obj.cells (rpA zeroR) 43) D
            have ho := owns_bl ho (blw _ (Obj.cells (rpA zeroR) 43))
            have hb := hb.trans ((blw _ (Obj.cells (rpA zeroR) 43)).mono hz)
            have hq : B ≤ x8.heap.size := hz
            have hz := Nat.le_trans hz (blw x8 (Obj.cells (rpA zeroR) 43)).size
            refine hK'.out _ _ hb (fun _ => ?_)
            generalize x8.alloc (Obj.cells (rpA zeroR) 43) = x9 at *
            obtain ⟨q, hqn⟩ : ∃ g, x8.heap.size = g := ⟨_, rfl⟩
            simp only [hqn] at E hq hpq ⊢
            clear hqn
            refine wpAnyH_ready (rs := [9]) (by kernel_rfl) (by simp) ?_
            refine AllReadyH.cons (o := ⟨_, _, _, _, _, _⟩) rfl (fun K' hK' => ?_) (AllReadyH.nil)
            refine (if_pos (by rfl)).mpr ?_
            refine wp_stB 49 _ _ ?_
            have D0 := D
            refine ⟨_, _, _, ⟨_, _, _, Try.sizeOf49, rfl, D, imA_over _ _ _ _ _ 0 (.slice none 0 0) zeroT⟩, ?_⟩
            intro y1 D1 g1
            have E1 := tr_st g1 E (by omega)
            have ho1 := owns_ne ho g1 D0 (by decide)
            have hb1 := bl_st hb g1 hz hp
            have hz1 := Nat.le_trans hz g1.size
            refine hK'.out _ _ hb1 (fun _ => ?_)
            refine wpAnyH_ready (rs := [10]) (by kernel_rfl) (by simp) ?_
            refine AllReadyH.cons (o := ⟨_, _, _, _, _, _⟩) rfl (fun K' hK' => ?_) (AllReadyH.nil)
            refine (if_pos (by rfl)).mpr ?_
            refine wp_stB 43 _ _ ?_
            have E2 := E1
            refine ⟨_, _, _, ⟨_, _, _, Try.sizeOf43, rfl, E1, rpA_over _ zeroR⟩, ?_⟩
            intro y2 F g2
            have D2 := tr_st g2 D1 (by omega)
            have ho2 := owns_ne ho1 g2 E2 (by decide)
            have hb2 := bl_st hb1 g2 hz1 hq
            refine hK'.out _ _ hb2 (fun _ => ?_)
            refine wpAnyH_take (i := 11) (oi := ⟨_, _, _, _, _, _⟩) (v := ?_) rfl (by kernel_rfl) (by kernel_rfl) (by kernel_rfl) (fun _ _ _ h => h) (Or.inl ⟨by rfl, ?_⟩) (by assumption) ?_
            rotate_left
            · intro wS hSw
              go_simp; (try with_reducible rfl)
            (try simp only [Act.put])
            (try simp only [List.setIfInBounds_toArray])
            (try simp only [List.set_cons_succ])
            (try simp only [List.set_cons_zero])
            refine wpAnyH_done (by kernel_rfl) ?_ _
            go_wp2
            go_meet
            rw [HBB.out]
            exact ⟨p, q, a2, c2, rfl, rfl, rfl, D2, F, SlP.of_own1 (l := kvL) ho2, hb2⟩
        · refine (if_pos (by rfl)).mpr ?_
          go_simp
          change K' _ (World.alloc _ (Obj.cells (rpA zeroR) 43))
          have E := heap_alloc_new x7 (Obj.cells (rpA zeroR) 43)
          have hpq := lt_blk D
          have D := tr_al (Obj.cells (rpA zeroR) 43) D
          have hb := hb.trans ((blw _ (Obj.cells (rpA zeroR) 43)).mono hz)
          have hq : B ≤ x7.heap.size := hz
          have hz := Nat.le_trans hz (blw x7 (Obj.cells (rpA zeroR) 43)).size
          refine hK'.out _ _ hb (fun _ => ?_)
          generalize x7.alloc (Obj.cells (rpA zeroR) 43) = x10 at *
          obtain ⟨q, hqn⟩ : ∃ g, x7.heap.size = g := ⟨_, rfl⟩
          simp only [hqn] at E hq hpq ⊢
          clear hqn
          refine wpAnyH_ready (rs := [2]) (by kernel_rfl) (by simp) ?_
          refine AllReadyH.cons (o := ⟨_, _, _, _, _, _⟩) rfl (fun K' hK' => ?_) (AllReadyH.nil)
          · refine (if_pos (by rfl)).mpr ?_
            go_simp
            refine (apply2 a1 c1 _ (HB2 _ hb)).mono ?_
            rintro en x11 ⟨⟨a2, c2, rfl, ho⟩, hbk⟩
            have ho := owns_mono ho hz
            have hb := hb.trans (hbk.mono hz)
            have hz := Nat.le_trans hz hbk.size
            have D := tr_bl hbk D
            have E := tr_bl hbk E
            clear hbk
            refine hK'.out _ _ hb (fun _ => ?_)
            refine wpAnyH_take (i := 3) (oi := ⟨_, _, _, _, _, _⟩) (v := ?_) rfl (by kernel_rfl) (by kernel_rfl) (by kernel_rfl) (fun _ _ _ h => h) (Or.inl ⟨by rfl, ?_⟩) (by assumption) ?_
            rotate_left
            · intro wS hSw
              go_simp; (try with_reducible rfl)
            (try simp only [Act.put])
            (try simp only [List.setIfInBounds_toArray])
            (try simp only [List.set_cons_succ])
            (try simp only [List.set_cons_zero])
            refine wpAnyH_take (i := 4) (oi := ⟨_, _, _, _, _, _⟩) (v := ?_) rfl (by kernel_rfl) (by kernel_rfl) (by kernel_rfl) (fun _ _ _ h => h) (Or.inl ⟨by rfl, ?_⟩) (by assumption) ?_
            rotate_left
            · intro wS hSw
              go_simp; (try with_reducible rfl)
            (try simp only [Act.put])
            (try simp only [List.setIfInBounds_toArray])
            (try simp only [List.set_cons_succ])
            (try simp only [List.set_cons_zero])
            refine wpAnyH_take (i := 5) (oi := ⟨_, _, _, _, _, _⟩) (v := ?_) rfl (by kernel_rfl) (by kernel_rfl) (by kernel_rfl) (fun _ _ _ h => h) (Or.inl ⟨by rfl, ?_⟩) (by assumption) ?_
            rotate_left
            · intro wS hSw
              go_simp; (try with_reducible rfl)
            (try simp only [Act.put])
            (try simp only [List.setIfInBounds_toArray])
            (try simp only [List.set_cons_succ])
            (try simp only [List.set_cons_zero])
            refine wpAnyH_take (i := 6) (oi := ⟨_, _, _, _, _, _⟩) (v := ?_) rfl (by kernel_rfl) (by kernel_rfl) (by kernel_rfl) (fun _ _ _ h => h) (Or.inl ⟨by rfl, ?_⟩) (by assumption) ?_
            rotate_left
            · intro wS hSw
              go_simp; (try with_reducible rfl)
            (try simp only [Act.put])
            (try simp only [List.setIfInBounds_toArray])
            (try simp only [List.set_cons_succ])
            (try simp only [List.set_cons_zero])
            refine wpAnyH_ready (rs := [9]) (by kernel_rfl) (by simp) ?_
            refine AllReadyH.cons (o := ⟨_, _, _, _, _, _⟩) rfl (fun K' hK' => ?_) (AllReadyH.nil)
            refine (if_pos (by rfl)).mpr ?_
            refine wp_stB 49 _ _ ?_
            have D0 := D
            refine ⟨_, _, _, ⟨_, _, _, Try.sizeOf49, rfl, D, imA_over _ _ _ _ _ 0 (.slice none 0 0) zeroT⟩, ?_⟩
            intro y1 D1 g1
            have E1 := tr_st g1 E (by omega)
            have ho1 := owns_ne ho g1 D0 (by decide)
            have hb1 := bl_st hb g1 hz hp
            have hz1 := Nat.le_trans hz g1.size
            refine hK'.out _ _ hb1 (fun _ => ?_)
            refine wpAnyH_ready (rs := [10]) (by kernel_rfl) (by simp) ?_
            refine AllReadyH.cons (o := ⟨_, _, _, _, _, _⟩) rfl (fun K' hK' => ?_) (AllReadyH.nil)
            refine (if_pos (by rfl)).mpr ?_
            refine wp_stB 43 _ _ ?_
            have E2 := E1
            refine ⟨_, _, _, ⟨_, _, _, Try.sizeOf43, rfl, E1, rpA_over _ zeroR⟩, ?_⟩
            intro y2 F g2
            have D2 := tr_st g2 D1 (by omega)
            have ho2 := owns_ne ho1 g2 E2 (by decide)
            have hb2 := bl_st hb1 g2 hz1 hq
            refine hK'.out _ _ hb2 (fun _ => ?_)
            refine wpAnyH_take (i := 11) (oi := ⟨_, _, _, _, _, _⟩) (v := ?_) rfl (by kernel_rfl) (by kernel_rfl) (by kernel_rfl) (fun _ _ _ h => h) (Or.inl ⟨by rfl, ?_⟩) (by assumption) ?_
            rotate_left
            · intro wS hSw
              go_simp; (try with_reducible rfl)
            (try simp only [Act.put])
            (try simp only [List.setIfInBounds_toArray])
            (try simp only [List.set_cons_succ])
            (try simp only [List.set_cons_zero])
            refine wpAnyH_done (by kernel_rfl) ?_ _
            go_wp2
            go_meet
            rw [HBB.out]
            exact ⟨p, q, a2, c2, rfl, rfl, rfl, D2, F, SlP.of_own1 (l := kvL) ho2, hb2⟩
      · refine (if_pos (by rfl)).mpr ?_
        go_simp
        change K' _ (World.alloc _ (Obj.cells (rpA zeroR) 43))
        have E := heap_alloc_new x1 (Obj.cells (rpA zeroR) 43)
        have hb := hb.trans ((blw _ (Obj.cells (rpA zeroR) 43)).mono hz)
        have hq : B ≤ x1.heap.size := hz
        have hz := Nat.le_trans hz (blw x1 (Obj.cells (rpA zeroR) 43)).size
        refine hK'.out _ _ hb (fun _ => ?_)
        generalize x1.alloc (Obj.cells (rpA zeroR) 43) = x12 at *
        obtain ⟨q, hqn⟩ : ∃ g, x1.heap.size = g := ⟨_, rfl⟩
        simp only [hqn] at E hq ⊢
        clear hqn
        refine wpAnyH_ready (rs := [2, 7]) (by kernel_rfl) (by simp) ?_
        refine AllReadyH.cons (o := ⟨_, _, _, _, _, _⟩) rfl (fun K' hK' => ?_) (AllReadyH.cons (o := ⟨_, _, _, _, _, _⟩) rfl (fun K' hK' => ?_) (AllReadyH.nil))
        · refine (if_pos (by rfl)).mpr ?_
          go_simp
          refine (apply2 a1 c1 _ (HB2 _ hb)).mono ?_
          rintro en x13 ⟨⟨a2, c2, rfl, ho⟩, hbk⟩
          have ho := owns_mono ho hz
          have hb := hb.trans (hbk.mono hz)
          have hz := Nat.le_trans hz hbk.size
          have E := tr_bl hbk E
          clear hbk
          refine hK'.out _ _ hb (fun _ => ?_)
          refine wpAnyH_take (i := 3) (oi := ⟨_, _, _, _, _, _⟩) (v := ?_) rfl (by kernel_rfl) (by kernel_rfl) (by kernel_rfl) (fun _ _ _ h => h) (Or.inl ⟨by rfl, ?_⟩) (by assumption) ?_
          rotate_left
          · intro wS hSw
            go_simp; (try with_reducible rfl)
          (try simp only [Act.put])
          (try simp only [List.setIfInBounds_toArray])
          (try simp only [List.set_cons_succ])
          (try simp only [List.set_cons_zero])
          refine wpAnyH_take (i := 4) (oi := ⟨_, _, _, _, _, _⟩) (v := ?_) rfl (by kernel_rfl) (by kernel_rfl) (by kernel_rfl) (fun _ _ _ h => h) (Or.inl ⟨by rfl, ?_⟩) (by assumption) ?_
          rotate_left
          · intro wS hSw
            go_simp; (try with_reducible rfl)
          (try simp only [Act.put])
          (try simp only [List.setIfInBounds_toArray])
          (try simp only [List.set_cons_succ])
          (try simp only [List.set_cons_zero])
          refine wpAnyH_take (i := 5) (oi := ⟨_, _, _, _, _, _⟩) (v := ?_) rfl (by kernel_rfl) (by kernel_rfl) (by kernel_rfl) (fun _ _ _ h => h) (Or.inl ⟨by rfl, ?_⟩) (by assumption) ?_
          rotate_left
          · intro wS hSw
            go_simp; (try with_reducible rfl)
          (try simp only [Act.put])
          (try simp only [List.setIfInBounds_toArray])
          (try simp only [List.set_cons_succ])
          (try simp only [List.set_cons_zero])
          refine wpAnyH_take (i := 6) (oi := ⟨_, _, _, _, _, _⟩) (v := ?_) rfl (by kernel_rfl) (by kernel_rfl) (by kernel_rfl) (fun _ _ _ h => h) (Or.inl ⟨by rfl, ?_⟩) (by assumption) ?_
          rotate_left
          · intro wS hSw
            go_simp; (try with_reducible rfl)
          (try simp only [Act.put])
          (try simp only [List.setIfInBounds_toArray])
          (try simp only [List.set_cons_succ])
          (try simp only [List.set_cons_zero])
          refine wpAnyH_ready (rs := [7]) (by kernel_rfl) (by simp) ?_
          refine AllReadyH.cons (o := ⟨_, _, _, _, _, _⟩) rfl (fun K' hK' => ?_) (AllReadyH.nil)
          · refine (if_pos (by rfl)).mpr ?_
            go_simp
            change K' _ (World.alloc _ (Obj.cells (imA 0 (.slice none 0 0) zeroT) 49))
            have D := heap_alloc_new x13 (Obj.cells (imA 0 (.slice none 0 0) zeroT) 49)
            have hpq := lt_blk E
            have E := tr_al (Obj.cells (imA 0 (.slice none 0 0) zeroT) 49) E
            have ho := owns_bl ho (blw _ (Obj.cells (imA 0 (.slice none 0 0) zeroT) 49))
            have hb := hb.trans ((blw _ (Obj.cells (imA 0 (.slice none 0 0) zeroT) 49)).mono hz)
            have hp : B ≤ x13.heap.size := hz
            have hz := Nat.le_trans hz (blw x13 (Obj.cells (imA 0 (.slice none 0 0) zeroT) 49)).size
            refine hK'.out _ _ hb (fun _ => ?_)
            generalize x13.alloc (Obj.cells (imA 0 (.slice none 0 0) zeroT) 49) = x14 at *
            obtain ⟨p, hpn⟩ : ∃ g, x13.heap.size = g := ⟨_, rfl⟩
            simp only [hpn] at D hp hpq ⊢
            clear hpn
            refine wpAnyH_ready (rs := [9]) (by kernel_rfl) (by simp) ?_
            refine AllReadyH.cons (o := ⟨_, _, _, _, _, _⟩) rfl (fun K' hK' => ?_) (AllReadyH.nil)
            refine (if_pos (by rfl)).mpr ?_
            refine wp_stB 49 _ _ ?_
            have D0 := D
            refine ⟨_, _, _, ⟨_, _, _, Try.sizeOf49, rfl, D, imA_over _ _ _ _ _ 0 (.slice none 0 0) zeroT⟩, ?_⟩
            intro y1 D1 g1
            have E1 := tr_st g1 E (by omega)
            have ho1 := owns_ne ho g1 D0 (by decide)
            have hb1 := bl_st hb g1 hz hp
            have hz1 := Nat.le_trans hz g1.size
            refine hK'.out _ _ hb1 (fun _ => ?_)
            refine wpAnyH_ready (rs := [10]) (by kernel_rfl) (by simp) ?_
            refine AllReadyH.cons (o := ⟨_, _, _, _, _, _⟩) rfl (fun K' hK' => ?_) (AllReadyH.nil)
            refine (if_pos (by rfl)).mpr ?_
            refine wp_stB 43 _ _ ?_
            have E2 := E1
            refine ⟨_, _, _, ⟨_, _, _, Try.sizeOf43, rfl, E1, rpA_over _ zeroR⟩, ?_⟩
            intro y2 F g2
            have D2 := tr_st g2 D1 (by omega)
            have ho2 := owns_ne ho1 g2 E2 (by decide)
            have hb2 := bl_st hb1 g2 hz1 hq
            refine hK'.out _ _ hb2 (fun _ => ?_)
            refine wpAnyH_take (i := 11) (oi := ⟨_, _, _, _, _, _⟩) (v := ?_) rfl (by kernel_rfl) (by kernel_rfl) (by kernel_rfl) (fun _ _ _ h => h) (Or.inl ⟨by rfl, ?_⟩) (by assumption) ?_
            rotate_left
            · intro wS hSw
              go_simp; (try with_reducible rfl)
            (try simp only [Act.put])
            (try simp only [List.setIfInBounds_toArray])
            (try simp only [List.set_cons_succ])
            (try simp only [List.set_cons_zero])
            refine wpAnyH_done (by kernel_rfl) ?_ _
            go_wp2
            go_meet
            rw [HBB.out]
            exact ⟨p, q, a2, c2, rfl, rfl, rfl, D2, F, SlP.of_own1 (l := kvL) ho2, hb2⟩
        · refine (if_pos (by rfl)).mpr ?_
          go_simp
          change K' _ (World.alloc _ (Obj.cells (imA 0 (.slice none 0 0) zeroT) 49))
          have D := heap_alloc_new x12 (Obj.cells (imA 0 (.slice none 0 0) zeroT) 49)
          have hpq := lt_blk E
          have E := tr_al (Obj.cells (imA 0 (.slice none 0 0) zeroT) 49) E
          have hb := hb.trans ((blw _ (Obj.cells (imA 0 (.slice none 0 0) zeroT) 49)).mono hz)
          have hp : B ≤ x12.heap.size := hz
          have hz := Nat.le_trans hz (blw x12 (Obj.cells (imA 0 (.slice none 0 0) zeroT) 49)).size
          refine hK'.out _ _ hb (fun _ => ?_)
          generalize x12.alloc (Obj.cells (imA 0 (.slice none 0 0) zeroT) 49) = x15 at *
          obtain ⟨p, hpn⟩ : ∃ g, x12.heap.size = g := ⟨_, rfl⟩
          simp only [hpn] at D hp hpq ⊢
          clear hpn
          refine wpAnyH_ready (rs := [2]) (by kernel_rfl) (by simp) ?_
          refine AllReadyH.cons (o := ⟨_, _, _, _, _, _⟩) rfl (fun K' hK' => ?_) (AllReadyH.nil)
          · refine (if_pos (by rfl)).mpr ?_
            go_simp
            refine (apply2 a1 c1 _ (HB2 _ hb)).mono ?_
            rintro en x16 ⟨⟨a2, c2, rfl, ho⟩, hbk⟩
            have ho := owns_mono ho hz
            have hb := hb.trans (hbk.mono hz)
            have hz := Nat.le_trans hz hbk.size
            have D := tr_bl hbk D
            have E := tr_bl hbk E
            clear hbk
            refine hK'.out _ _ hb (fun _ => ?_)
            refine wpAnyH_take (i := 3) (oi := ⟨_, _, _, _, _, _⟩) (v := ?_) rfl (by kernel_rfl) (by kernel_rfl) (by kernel_rfl) (fun _ _ _ h => h) (Or.inl ⟨by rfl, ?_⟩) (by assumption) ?_
            rotate_left
            · intro wS hSw
              go_simp; (try with_reducible rfl)
            (try simp only [Act.put])
            (try simp only [List.setIfInBounds_toArray])
            (try simp only [List.set_cons_succ])
            (try simp only [List.set_cons_zero])
            refine wpAnyH_take (i := 4) (oi := ⟨_, _, _, _, _, _⟩) (v := ?_) rfl (by kernel_rfl) (by kernel_rfl) (by kernel_rfl) (fun _ _ _ h => h) (Or.inl ⟨by rfl, ?_⟩) (by assumption) ?_
            rotate_left
            · intro wS hSw
              go_simp; (try with_reducible rfl)
            (try simp only [Act.put])
            (try simp only [List.setIfInBounds_toArray])
            (try simp only [List.set_cons_succ])
            (try simp only [List.set_cons_zero])
            refine wpAnyH_take (i := 5) (oi := ⟨_, _, _, _, _, _⟩) (v := ?_) rfl (by kernel_rfl) (by kernel_rfl) (by kernel_rfl) (fun _ _ _ h => h) (Or.inl ⟨by rfl, ?_⟩) (by assumption) ?_
            rotate_left
            · intro wS hSw
              go_simp; (try with_reducible rfl)
            (try simp only [Act.put])
            (try simp only [List.setIfInBounds_toArray])
            (try simp only [List.set_cons_succ])
            (try simp only [List.set_cons_zero])
            refine wpAnyH_take (i := 6) (oi := ⟨_, _, _, _, _, _⟩) (v := ?_) rfl (by kernel_rfl) (by kernel_rfl) (by kernel_rfl) (fun _ _ _ h => h) (Or.inl ⟨by rfl, ?_⟩) (by assumption) ?_
            rotate_left
            · intro wS hSw
              go_simp; (try with_reducible rfl)
            (try simp only [Act.put])
            (try simp only [List.setIfInBounds_toArray])
            (try simp only [List.set_cons_succ])
            (try simp only [List.set_cons_zero])
            refine wpAnyH_ready (rs := [9]) (by kernel_rfl) (by simp) ?_
            refine AllReadyH.cons (o := ⟨_, _, _, _, _, _⟩) rfl (fun K' hK' => ?_) (AllReadyH.nil)
            refine (if_pos (by rfl)).mpr ?_
            refine wp_stB 49 _ _ ?_
            have D0 := D
            refine ⟨_, _, _, ⟨_, _, _, Try.sizeOf49, rfl, D, imA_over _ _ _ _ _ 0 (.slice none 0 0) zeroT⟩, ?_⟩
            intro y1 D1 g1
            have E1 := tr_st g1 E (by omega)
            have ho1 := owns_ne ho g1 D0 (by decide)
            have hb1 := bl_st hb g1 hz hp
            have hz1 := Nat.le_trans hz g1.size
            refine hK'.out _ _ hb1 (fun _ => ?_)
            refine wpAnyH_ready (rs := [10]) (by kernel_rfl) (by simp) ?_
            refine AllReadyH.cons (o := ⟨_, _, _, _, _, _⟩) rfl (fun K' hK' => ?_) (AllReadyH.nil)
            refine (if_pos (by rfl)).mpr ?_
            refine wp_stB 43 _ _ ?_
            have E2 := E1
            refine ⟨_, _, _, ⟨_, _, _, Try.sizeOf43, rfl, E1, rpA_over _ zeroR⟩, ?_⟩
            intro y2 F g2
            have D2 := tr_st g2 D1 (by omega)
            have ho2 := owns_ne ho1 g2 E2 (by decide)
            have hb2 := bl_st hb1 g2 hz1 hq
            refine hK'.out _ _ hb2 (fun _ => ?_)
            refine wpAnyH_take (i := 11) (oi := ⟨_, _, _, _, _, _⟩) (v := ?_) rfl (by kernel_rfl) (by kernel_rfl) (by kernel_rfl) (fun _ _ _ h => h) (Or.inl ⟨by rfl, ?_⟩) (by assumption) ?_
            rotate_left
            · intro wS hSw
              go_simp; (try with_reducible rfl)
            (try simp only [Act.put])
            (try simp only [List.setIfInBounds_toArray])
            (try simp only [List.set_cons_succ])
            (try simp only [List.set_cons_zero])
            refine wpAnyH_done (by kernel_rfl) ?_ _
            go_wp2
            go_meet
            rw [HBB.out]
            exact ⟨p, q, a2, c2, rfl, rfl, rfl, D2, F, SlP.of_own1 (l := kvL) ho2, hb2⟩
    · refine (if_pos (by rfl)).mpr ?_
      go_simp
      change K' _ (World.alloc _ (Obj.cells (imA 0 (.slice none 0 0) zeroT) 49))
      have D := heap_alloc_new x0 (Obj.cells (imA 0 (.slice none 0 0) zeroT) 49)
      have hb := hb.trans ((blw _ (Obj.cells (imA 0 (.slice none 0 0) zeroT) 49)).mono hz)
      have hp : B ≤ x0.heap.size := hz
      have hz := Nat.le_trans hz (blw x0 (Obj.cells (imA 0 (.slice none 0 0) zeroT) 49)).size
      refine hK'.out _ _ hb (fun _ => ?_)
      generalize x0.alloc (Obj.cells (imA 0 (.slice none 0 0) zeroT) 49) = x17 at *
      obtain ⟨p, hpn⟩ : ∃ g, x0.heap.size = g := ⟨_, rfl⟩
      simp only [hpn] at D hp ⊢
      clear hpn
      refine wpAnyH_ready (rs := [1, 8]) (by kernel_rfl) (by simp) ?_
      refine AllReadyH.cons (o := ⟨_, _, _, _, _, _⟩) rfl (fun K' hK' => ?_) (AllReadyH.cons (o := ⟨_, _, _, _, _, _⟩) rfl (fun K' hK' => ?_) (AllReadyH.nil))
      · refine (if_pos (by rfl)).mpr ?_
        go_simp
        refine (putE_any 3 _).mono ?_
        rintro en x18 ⟨rfl, hbk⟩
        have hb := hb.trans (hbk.mono hz)
        have hz := Nat.le_trans hz hbk.size
        have D := tr_bl hbk D
        clear hbk
        refine hK'.out _ _ hb (fun _ => ?_)
        refine wpAnyH_ready (rs := [2, 8]) (by kernel_rfl) (by simp) ?_
        refine AllReadyH.cons (o := ⟨_, _, _, _, _, _⟩) rfl (fun K' hK' => ?_) (AllReadyH.cons (o := ⟨_, _, _, _, _, _⟩) rfl (fun K' hK' => ?_) (AllReadyH.nil))
        · refine (if_pos (by rfl)).mpr ?_
          go_simp
          refine (apply2 a1 c1 _ (HB2 _ hb)).mono ?_
          rintro en x19 ⟨⟨a2, c2, rfl, ho⟩, hbk⟩
          have ho := owns_mono ho hz
          have hb := hb.trans (hbk.mono hz)
          have hz := Nat.le_trans hz hbk.size
          have D := tr_bl hbk D
          clear hbk
          refine hK'.out _ _ hb (fun _ => ?_)
          refine wpAnyH_take (i := 3) (oi := ⟨_, _, _, _, _, _⟩) (v := ?_) rfl (by kernel_rfl) (by kernel_rfl) (by kernel_rfl) (fun _ _ _ h => h) (Or.inl ⟨by rfl, ?_⟩) (by assumption) ?_
          rotate_left
          · intro wS hSw
            go_simp; (try with_reducible rfl)
          (try simp only [Act.put])
          (try simp only [List.setIfInBounds_toArray])
          (try simp only [List.set_cons_succ])
          (try simp only [List.set_cons_zero])
          refine wpAnyH_take (i := 4) (oi := ⟨_, _, _, _, _, _⟩) (v := ?_) rfl (by kernel_rfl) (by kernel_rfl) (by kernel_rfl) (fun _ _ _ h => h) (Or.inl ⟨by rfl, ?_⟩) (by assumption) ?_
          rotate_left
          · intro wS hSw
            go_simp; (try with_reducible rfl)
          (try simp only [Act.put])
          (try simp only [List.setIfInBounds_toArray])
          (try simp only [List.set_cons_succ])
          (try simp only [List.set_cons_zero])
          refine wpAnyH_take (i := 5) (oi := ⟨_, _, _, _, _, _⟩) (v := ?_) rfl (by kernel_rfl) (by kernel_rfl) (by kernel_rfl) (fun _ _ _ h => h) (Or.inl ⟨by rfl, ?_⟩) (by assumption) ?_
          rotate_left
          · intro wS hSw
            go_simp; (try with_reducible rfl)
          (try simp only [Act.put])
          (try simp only [List.setIfInBounds_toArray])
          (try simp only [List.set_cons_succ])
          (try simp only [List.set_cons_zero])
          refine wpAnyH_take (i := 6) (oi := ⟨_, _, _, _, _, _⟩) (v := ?_) rfl (by kernel_rfl) (by kernel_rfl) (by kernel_rfl) (fun _ _ _ h => h) (Or.inl ⟨by rfl, ?_⟩) (by assumption) ?_
          rotate_left
          · intro wS hSw
            go_simp; (try with_reducible rfl)
          (try simp only [Act.put])
          (try simp only [List.setIfInBounds_toArray])
          (try simp only [List.set_cons_succ])
          (try simp only [List.set_cons_zero])
          refine wpAnyH_ready (rs := [8]) (by kernel_rfl) (by simp) ?_
          refine AllReadyH.cons (o := ⟨_, _, _, _, _, _⟩) rfl (fun K' hK' => ?_) (AllReadyH.nil)
          · refine (if_pos (by rfl)).mpr ?_
            go_simp
            change K' _ (World.alloc _ (Obj.cells (rpA zeroR) 43))
            have E := heap_alloc_new x19 (Obj.cells (rpA zeroR) 43)
            have hpq := lt_blk D
            have D := tr_al (Obj.cells (rpA zeroR) 43) D
            have ho := owns_bl ho (blw _ (Obj.cells (rpA zeroR) 43))
            have hb := hb.trans ((blw _ (Obj.cells (rpA zeroR) 43)).mono hz)
            have hq : B ≤ x19.heap.size := hz
            have hz := Nat.le_trans hz (blw x19 (Obj.cells (rpA zeroR) 43)).size
            refine hK'.out _ _ hb (fun _ => ?_)
            generalize x19.alloc (Obj.cells (rpA zeroR) 43) = x20 at *
            obtain ⟨q, hqn⟩ : ∃ g, x19.heap.size = g := ⟨_, rfl⟩
            simp only [hqn] at E hq hpq ⊢
            clear hqn
            refine wpAnyH_ready (rs := [9]) (by kernel_rfl) (by simp) ?_
            refine AllReadyH.cons (o := ⟨_, _, _, _, _, _⟩) rfl (fun K' hK' => ?_) (AllReadyH.nil)
            refine (if_pos (by rfl)).mpr ?_
            refine wp_stB 49 _ _ ?_
            have D0 := D
            refine ⟨_, _, _, ⟨_, _, _, Try.sizeOf49, rfl, D, imA_over _ _ _ _ _ 0 (.slice none 0 0) zeroT⟩, ?_⟩
            intro y1 D1 g1
            have E1 := tr_st g1 E (by omega)
            have ho1 := owns_ne ho g1 D0 (by decide)
            have hb1 := bl_st hb g1 hz hp
            have hz1 := Nat.le_trans hz g1.size
            refine hK'.out _ _ hb1 (fun _ => ?_)
            refine wpAnyH_ready (rs := [10]) (by kernel_rfl) (by simp) ?_
            refine AllReadyH.cons (o := ⟨_, _, _, _, _, _⟩) rfl (fun K' hK' => ?_) (AllReadyH.nil)
            refine (if_pos (by rfl)).mpr ?_
            refine wp_stB 43 _ _ ?_
            have E2 := E1
            refine ⟨_, _, _, ⟨_, _, _, Try.sizeOf43, rfl, E1, rpA_over _ zeroR⟩, ?_⟩
            intro y2 F g2
            have D2 := tr_st g2 D1 (by omega)
            have ho2 := owns_ne ho1 g2 E2 (by decide)
            have hb2 := bl_st hb1 g2 hz1 hq
            refine hK'.out _ _ hb2 (fun _ => ?_)
            refine wpAnyH_take (i := 11) (oi := ⟨_, _, _, _, _, _⟩) (v := ?_) rfl (by kernel_rfl) (by kernel_rfl) (by kernel_rfl) (fun _ _ _ h => h) (Or.inl ⟨by rfl, ?_⟩) (by assumption) ?_
            rotate_left
            · intro wS hSw
              go_simp; (try with_reducible rfl)
            (try simp only [Act.put])
            (try simp only [List.setIfInBounds_toArray])
            (try simp only [List.set_cons_succ])
            (try simp only [List.set_cons_zero])
            refine wpAnyH_done (by kernel_rfl) ?_ _
            go_wp2
            go_meet
            rw [HBB.out]
            exact ⟨p, q, a2, c2, rfl, rfl, rfl, D2, F, SlP.of_own1 (l := kvL) ho2, hb2⟩
        · refine (if_pos (by rfl)).mpr ?_
          go_simp
          change K' _ (World.alloc _ (Obj.cells (rpA zeroR) 43))
          have E := heap_alloc_new x18 (Obj.cells (rpA zeroR) 43)
          have hpq := lt_blk D
          have D := tr_al (Obj.cells (rpA zeroR) 43) D
          have hb := hb.trans ((blw _ (Obj.cells (rpA zeroR) 43)).mono hz)
          have hq : B ≤ x18.heap.size := hz
          have hz := Nat.le_trans hz (blw x18 (Obj.cells (rpA zeroR) 43)).size
          refine hK'.out _ _ hb (fun _ => ?_)
          generalize x18.alloc (Obj.cells (rpA zeroR) 43) = x21 at *
          obtain ⟨q, hqn⟩ : ∃ g, x18.heap.size = g := ⟨_, rfl⟩
          simp only [hqn] at E hq hpq ⊢
          clear hqn
          refine wpAnyH_ready (rs := [2]) (by kernel_rfl) (by simp) ?_
          refine AllReadyH.cons (o := ⟨_, _, _, _, _, _⟩) rfl (fun K' hK' => ?_) (AllReadyH.nil)
          · refine (if_pos (by rfl)).mpr ?_
            go_simp
            refine (apply2 a1 c1 _ (HB2 _ hb)).mono ?_
            rintro en x22 ⟨⟨a2, c2, rfl, ho⟩, hbk⟩
            have ho := owns_mono ho hz
            have hb := hb.trans (hbk.mono hz)
            have hz := Nat.le_trans hz hbk.size
            have D := tr_bl hbk D
            have E := tr_bl hbk E
            clear hbk
            refine hK'.out _ _ hb (fun _ => ?_)
            refine wpAnyH_take (i := 3) (oi := ⟨_, _, _, _, _, _⟩) (v := ?_) rfl (by kernel_rfl) (by kernel_rfl) (by kernel_rfl) (fun _ _ _ h => h) (Or.inl ⟨by rfl, ?_⟩) (by assumption) ?_
            rotate_left
            · intro wS hSw
              go_simp; (try with_reducible rfl)
            (try simp only [Act.put])
            (try simp only [List.setIfInBounds_toArray])
            (try simp only [List.set_cons_succ])
            (try simp only [List.set_cons_zero])
            refine wpAnyH_take (i := 4) (oi := ⟨_, _, _, _, _, _⟩) (v := ?_) rfl (by kernel_rfl) (by kernel_rfl) (by kernel_rfl) (fun _ _ _ h => h) (Or.inl ⟨by rfl, ?_⟩) (by assumption) ?_
            rotate_left
            · intro wS hSw
              go_simp; (try with_reducible rfl)
            (try simp only [Act.put])
            (try simp only [List.setIfInBounds_toArray])
            (try simp only [List.set_cons_succ])
            (try simp only [List.set_cons_zero])
            refine wpAnyH_take (i := 5) (oi := ⟨_, _, _, _, _, _⟩) (v := ?_) rfl (by kernel_rfl) (by kernel_rfl) (by kernel_rfl) (fun _ _ _ h => h) (Or.inl ⟨by rfl, ?_⟩) (by assumption) ?_
            rotate_left
            · intro wS hSw
              go_simp; (try with_reducible rfl)
            (try simp only [Act.put])
            (try simp only [List.setIfInBounds_toArray])
            (try simp only [List.set_cons_succ])
            (try simp only [List.set_cons_zero])
            refine wpAnyH_take (i := 6) (oi := ⟨_, _, _, _, _, _⟩) (v := ?_) rfl (by kernel_rfl) (by kernel_rfl) (by kernel_rfl) (fun _ _ _ h => h) (Or.inl ⟨by rfl, ?_⟩) (by assumption) ?_
            rotate_left
            · intro wS hSw
              go_simp; (try with_reducible rfl)
            (try simp only [Act.put])
            (try simp only [List.setIfInBounds_toArray])
            (try simp only [List.set_cons_succ])
            (try simp only [List.set_cons_zero])
            refine wpAnyH_ready (rs := [9]) (by kernel_rfl) (by simp) ?_
            refine AllReadyH.cons (o := ⟨_, _, _, _, _, _⟩) rfl (fun K' hK' => ?_) (AllReadyH.nil)
            refine (if_pos (by rfl)).mpr ?_
            refine wp_stB 49 _ _ ?_
            have D0 := D
            refine ⟨_, _, _, ⟨_, _, _, Try.sizeOf49, rfl, D, imA_over _ _ _ _ _ 0 (.slice none 0 0) zeroT⟩, ?_⟩
            intro y1 D1 g1
            have E1 := tr_st g1 E (by omega)
            have ho1 := owns_ne ho g1 D0 (by decide)
            have hb1 := bl_st hb g1 hz hp
            have hz1 := Nat.le_trans hz g1.size
            refine hK'.out _ _ hb1 (fun _ => ?_)
            refine wpAnyH_ready (rs := [10]) (by kernel_rfl) (by simp) ?_
            refine AllReadyH.cons (o := ⟨_, _, _, _, _, _⟩) rfl (fun K' hK' => ?_) (AllReadyH.nil)
            refine (if_pos (by rfl)).mpr ?_
            refine wp_stB 43 _ _ ?_
            have E2 := E1
            refine ⟨_, _, _, ⟨_, _, _, Try.sizeOf43, rfl, E1, rpA_over _ zeroR⟩, ?_⟩
            intro y2 F g2
            have D2 := tr_st g2 D1 (by omega)
            have ho2 := owns_ne ho1 g2 E2 (by decide)
            have hb2 := bl_st hb1 g2 hz1 hq
            refine hK'.out _ _ hb2 (fun _ => ?_)
            refine wpAnyH_take (i := 11) (oi := ⟨_, _, _, _, _, _⟩) (v := ?_) rfl (by kernel_rfl) (by kernel_rfl) (by kernel_rfl) (fun _ _ _ h => h) (Or.inl ⟨by rfl, ?_⟩) (by assumption) ?_
            rotate_left
            · intro wS hSw
              go_simp; (try with_reducible rfl)
            (try simp only [Act.put])
            (try simp only [List.setIfInBounds_toArray])
            (try simp only [List.set_cons_succ])
            (try simp only [List.set_cons_zero])
            refine wpAnyH_done (by kernel_rfl) ?_ _
            go_wp2
            go_meet
            rw [HBB.out]
            exact ⟨p, q, a2, c2, rfl, rfl, rfl, D2, F, SlP.of_own1 (l := kvL) ho2, hb2⟩
      · refine (if_pos (by rfl)).mpr ?_
        go_simp
        change K' _ (World.alloc _ (Obj.cells (rpA zeroR) 43))
        have E := heap_alloc_new x17 (Obj.cells (rpA zeroR) 43)
        have hpq := lt_blk D
        have D := tr_al (Obj.cells (rpA zeroR) 43) D
        have hb := hb.trans ((blw _ (Obj.cells (rpA zeroR) 43)).mono hz)
        have hq : B ≤ x17.heap.size := hz
        have hz := Nat.le_trans hz (blw x17 (Obj.cells (rpA zeroR) 43)).size
        refine hK'.out _ _ hb (fun _ => ?_)
        generalize x17.alloc (Obj.cells (rpA zeroR) 43) = x23 at *
        obtain ⟨q, hqn⟩ : ∃ g, x17.heap.size = g := ⟨_, rfl⟩
        simp only [hqn] at E hq hpq ⊢
        clear hqn
        refine wpAnyH_ready (rs := [1]) (by kernel_rfl) (by simp) ?_
        refine AllReadyH.cons (o := ⟨_, _, _, _, _, _⟩) rfl (fun K' hK' => ?_) (AllReadyH.nil)
        · refine (if_pos (by rfl)).mpr ?_
          go_simp
          refine (putE_any 3 _).mono ?_
          rintro en x24 ⟨rfl, hbk⟩
          have hb := hb.trans (hbk.mono hz)
          have hz := Nat.le_trans hz hbk.size
          have D := tr_bl hbk D
          have E := tr_bl hbk E
          clear hbk
          refine hK'.out _ _ hb (fun _ => ?_)
          refine wpAnyH_ready (rs := [2]) (by kernel_rfl) (by simp) ?_
          refine AllReadyH.cons (o := ⟨_, _, _, _, _, _⟩) rfl (fun K' hK' => ?_) (AllReadyH.nil)
          · refine (if_pos (by rfl)).mpr ?_
            go_simp
            refine (apply2 a1 c1 _ (HB2 _ hb)).mono ?_
            rintro en x25 ⟨⟨a2, c2, rfl, ho⟩, hbk⟩
            have ho := owns_mono ho hz
            have hb := hb.trans (hbk.mono hz)
            have hz := Nat.le_trans hz hbk.size
            have D := tr_bl hbk D
            have E := tr_bl hbk E
            clear hbk
            refine hK'.out _ _ hb (fun _ => ?_)
            refine wpAnyH_take (i := 3) (oi := ⟨_, _, _, _, _, _⟩) (v := ?_) rfl (by kernel_rfl) (by kernel_rfl) (by kernel_rfl) (fun _ _ _ h => h) (Or.inl ⟨by rfl, ?_⟩) (by assumption) ?_
            rotate_left
            · intro wS hSw
              go_simp; (try with_reducible rfl)
            (try simp only [Act.put])
            (try simp only [List.setIfInBounds_toArray])
            (try simp only [List.set_cons_succ])
            (try simp only [List.set_cons_zero])
            refine wpAnyH_take (i := 4) (oi := ⟨_, _, _, _, _, _⟩) (v := ?_) rfl (by kernel_rfl) (by kernel_rfl) (by kernel_rfl) (fun _ _ _ h => h) (Or.inl ⟨by rfl, ?_⟩) (by assumption) ?_
            rotate_left
            · intro wS hSw
              go_simp; (try with_reducible rfl)
            (try simp only [Act.put])
            (try simp only [List.setIfInBounds_toArray])
            (try simp only [List.set_cons_succ])
            (try simp only [List.set_cons_zero])
            refine wpAnyH_take (i := 5) (oi := ⟨_, _, _, _, _, _⟩) (v := ?_) rfl (by kernel_rfl) (by kernel_rfl) (by kernel_rfl) (fun _ _ _ h => h) (Or.inl ⟨by rfl, ?_⟩) (by assumption) ?_
            rotate_left
            · intro wS hSw
              go_simp; (try with_reducible rfl)
            (try simp only [Act.put])
            (try simp only [List.setIfInBounds_toArray])
            (try simp only [List.set_cons_succ])
            (try simp only [List.set_cons_zero])
            refine wpAnyH_take (i := 6) (oi := ⟨_, _, _, _, _, _⟩) (v := ?_) rfl (by kernel_rfl) (by kernel_rfl) (by kernel_rfl) (fun _ _ _ h => h) (Or.inl ⟨by rfl, ?_⟩) (by assumption) ?_
            rotate_left
            · intro wS hSw
              go_simp; (try with_reducible rfl)
            (try simp only [Act.put])
            (try simp only [List.setIfInBounds_toArray])
            (try simp only [List.set_cons_succ])
            (try simp only [List.set_cons_zero])
            refine wpAnyH_ready (rs := [9]) (by kernel_rfl) (by simp) ?_
            refine AllReadyH.cons (o := ⟨_, _, _, _, _, _⟩) rfl (fun K' hK' => ?_) (AllReadyH.nil)
            refine (if_pos (by rfl)).mpr ?_
            refine wp_stB 49 _ _ ?_
            have D0 := D
            refine ⟨_, _, _, ⟨_, _, _, Try.sizeOf49, rfl, D, imA_over _ _ _ _ _ 0 (.slice none 0 0) zeroT⟩, ?_⟩
            intro y1 D1 g1
            have E1 := tr_st g1 E (by omega)
            have ho1 := owns_ne ho g1 D0 (by decide)
            have hb1 := bl_st hb g1 hz hp
            have hz1 := Nat.le_trans hz g1.size
            refine hK'.out _ _ hb1 (fun _ => ?_)
            refine wpAnyH_ready (rs := [10]) (by kernel_rfl) (by simp) ?_
            refine AllReadyH.cons (o := ⟨_, _, _, _, _, _⟩) rfl (fun K' hK' => ?_) (AllReadyH.nil)
            refine (if_pos (by rfl)).mpr ?_
            refine wp_stB 43 _ _ ?_
            have E2 := E1
            refine ⟨_, _, _, ⟨_, _, _, Try.sizeOf43, rfl, E1, rpA_over _ zeroR⟩, ?_⟩
            intro y2 F g2
            have D2 := tr_st g2 D1 (by omega)
            have ho2 := owns_ne ho1 g2 E2 (by decide)
            have hb2 := bl_st hb1 g2 hz1 hq
            refine hK'.out _ _ hb2 (fun _ => ?_)
            refine wpAnyH_take (i := 11) (oi := ⟨_, _, _, _, _, _⟩) (v := ?_) rfl (by kernel_rfl) (by kernel_rfl) (by kernel_rfl) (fun _ _ _ h => h) (Or.inl ⟨by rfl, ?_⟩) (by assumption) ?_
            rotate_left
            · intro wS hSw
              go_simp; (try with_reducible rfl)
            (try simp only [Act.put])
            (try simp only [List.setIfInBounds_toArray])
            (try simp only [List.set_cons_succ])
            (try simp only [List.set_cons_zero])
            refine wpAnyH_done (by kernel_rfl) ?_ _
            go_wp2
            go_meet
            rw [HBB.out]
            exact ⟨p, q, a2, c2, rfl, rfl, rfl, D2, F, SlP.of_own1 (l := kvL) ho2, hb2⟩
    · refine (if_pos (by rfl)).mpr ?_
      go_simp
      change K' _ (World.alloc _ (Obj.cells (rpA zeroR) 43))
      have E := heap_alloc_new x0 (Obj.cells (rpA zeroR) 43)
      have hb := hb.trans ((blw _ (Obj.cells (rpA zeroR) 43)).mono hz)
      have hq : B ≤ x0.heap.size := hz
      have hz := Nat.le_trans hz (blw x0 (Obj.cells (rpA zeroR) 43)).size
      refine hK'.out _ _ hb (fun _ => ?_)
      generalize x0.alloc (Obj.cells (rpA zeroR) 43) = x26 at *
      obtain ⟨q, hqn⟩ : ∃ g, x0.heap.size = g := ⟨_, rfl⟩
      simp only [hqn] at E hq ⊢
      clear hqn
      refine wpAnyH_ready (rs := [1, 7]) (by kernel_rfl) (by simp) ?_
      refine AllReadyH.cons (o := ⟨_, _, _, _, _, _⟩) rfl (fun K' hK' => ?_) (AllReadyH.cons (o := ⟨_, _, _, _, _, _⟩) rfl (fun K' hK' => ?_) (AllReadyH.nil))
      · refine (if_pos (by rfl)).mpr ?_
        go_simp
        refine (putE_any 3 _).mono ?_
        rintro en x27 ⟨rfl, hbk⟩
        have hb := hb.trans (hbk.mono hz)
        have hz := Nat.le_trans hz hbk.size
        have E := tr_bl hbk E
        clear hbk
        refine hK'.out _ _ hb (fun _ => ?_)
        refine wpAnyH_ready (rs := [2, 7]) (by kernel_rfl) (by simp) ?_
        refine AllReadyH.cons (o := ⟨_, _, _, _, _, _⟩) rfl (fun K' hK' => ?_) (AllReadyH.cons (o := ⟨_, _, _, _, _, _⟩) rfl (fun K' hK' => ?_) (AllReadyH.nil))
        · refine (if_pos (by rfl)).mpr ?_
          go_simp
          refine (apply2 a1 c1 _ (HB2 _ hb)).mono ?_
          rintro en x28 ⟨⟨a2, c2, rfl, ho⟩, hbk⟩
          have ho := owns_mono ho hz
          have hb := hb.trans (hbk.mono hz)
          have hz := Nat.le_trans hz hbk.size
          have E := tr_bl hbk E
          clear hbk
          refine hK'.out _ _ hb (fun _ => ?_)
          refine wpAnyH_take (i := 3) (oi := ⟨_, _, _, _, _, _⟩) (v := ?_) rfl (by kernel_rfl) (by kernel_rfl) (by kernel_rfl) (fun _ _ _ h => h) (Or.inl ⟨by rfl, ?_⟩) (by assumption) ?_
          rotate_left
          · intro wS hSw
            go_simp; (try with_reducible rfl)
          (try simp only [Act.put])
          (try simp only [List.setIfInBounds_toArray])
          (try simp only [List.set_cons_succ])
          (try simp only [List.set_cons_zero])
          refine wpAnyH_take (i := 4) (oi := ⟨_, _, _, _, _, _⟩) (v := ?_) rfl (by kernel_rfl) (by kernel_rfl) (by kernel_rfl) (fun _ _ _ h => h) (Or.inl ⟨by rfl, ?_⟩) (by assumption) ?_
          rotate_left
          · intro wS hSw
            go_simp; (try with_reducible rfl)
          (try simp only [Act.put])
          (try simp only [List.setIfInBounds_toArray])
          (try simp only [List.set_cons_succ])
          (try simp only [List.set_cons_zero])
          refine wpAnyH_take (i := 5) (oi := ⟨_, _, _, _, _, _⟩) (v := ?_) rfl (by kernel_rfl) (by kernel_rfl) (by kernel_rfl) (fun _ _ _ h => h) (Or.inl ⟨by rfl, ?_⟩) (by assumption) ?_
          rotate_left
          · intro wS hSw
            go_simp; (try with_reducible rfl)
          (try simp only [Act.put])
          (try simp only [List.setIfInBounds_toArray])
          (try simp only [List.set_cons_succ])
          (try simp only [List.set_cons_zero])
          refine wpAnyH_take (i := 6) (oi := ⟨_, _, _, _, _, _⟩) (v := ?_) rfl (by kernel_rfl) (by kernel_rfl) (by kernel_rfl) (fun _ _ _ h => h) (Or.inl ⟨by rfl, ?_⟩) (by assumption) ?_
          rotate_left
          · intro wS hSw
            go_simp; (try with_reducible rfl)
          (try simp only [Act.put])
          (try simp only [List.setIfInBounds_toArray])
          (try simp only [List.set_cons_succ])
          (try simp only [List.set_cons_zero])
          refine wpAnyH_ready (rs := [7]) (by kernel_rfl) (by simp) ?_
          refine AllReadyH.cons (o := ⟨_, _, _, _, _, _⟩) rfl (fun K' hK' => ?_) (AllReadyH.nil)
          · refine (if_pos (by rfl)).mpr ?_
            go_simp
            change K' _ (World.alloc _ (Obj.cells (imA 0 (.slice none 0 0) zeroT) 49))
            have D := heap_alloc_new x28 (Obj.cells (imA 0 (.slice none 0 0) zeroT) 49)
            have hpq := lt_blk E
            have E := tr_al (Obj.cells (imA 0 (.slice none 0 0) zeroT) 49) E
            have ho := owns_bl ho (blw _ (Obj.cells (imA 0 (.slice none 0 0) zeroT) 49))
            have hb := hb.trans ((blw _ (Obj.cells (imA 0 (.slice none 0 0) zeroT) 49)).mono hz)
            have hp : B ≤ x28.heap.size := hz
            have hz := Nat.le_trans hz (blw x28 (Obj.cells (imA 0 (.slice none 0 0) zeroT) 49)).size
            refine hK'.out _ _ hb (fun _ => ?_)
            generalize x28.alloc (Obj.cells (imA 0 (.slice none 0 0) zeroT) 49) = x29 at *
            obtain ⟨p, hpn⟩ : ∃ g, x28.heap.size = g := ⟨_, rfl⟩
            simp only [hpn] at D hp hpq ⊢
            clear hpn
            refine wpAnyH_ready (rs := [9]) (by kernel_rfl) (by simp) ?_
            refine AllReadyH.cons (o := ⟨_, _, _, _, _, _⟩) rfl (fun K' hK' => ?_) (AllReadyH.nil)
            refine (if_pos (by rfl)).mpr ?_
            refine wp_stB 49 _ _ ?_
            have D0 := D
            refine ⟨_, _, _, ⟨_, _, _, Try.sizeOf49, rfl, D, imA_over _ _ _ _ _ 0 (.slice none 0 0) zeroT⟩, ?_⟩
            intro y1 D1 g1
            have E1 := tr_st g1 E (by omega)
            have ho1 := owns_ne ho g1 D0 (by decide)
            have hb1 := bl_st hb g1 hz hp
            have hz1 := Nat.le_trans hz g1.size
            refine hK'.out _ _ hb1 (fun _ => ?_)
            refine wpAnyH_ready (rs := [10]) (by kernel_rfl) (by simp) ?_
            refine AllReadyH.cons (o := ⟨_, _, _, _, _, _⟩) rfl (fun K' hK' => ?_) (AllReadyH.nil)
            refine (if_pos (by rfl)).mpr ?_
            refine wp_stB 43 _ _ ?_
            have E2 := E1
            refine ⟨_, _, _, ⟨_, _, _, Try.sizeOf43, rfl, E1, rpA_over _ zeroR⟩, ?_⟩
            intro y2 F g2
            have D2 := tr_st g2 D1 (by omega)
            have ho2 := owns_ne ho1 g2 E2 (by decide)
            have hb2 := bl_st hb1 g2 hz1 hq
            refine hK'.out _ _ hb2 (fun _ => ?_)
            refine wpAnyH_take (i := 11) (oi := ⟨_, _, _, _, _, _⟩) (v := ?_) rfl (by kernel_rfl) (by kernel_rfl) (by kernel_rfl) (fun _ _ _ h => h) (Or.inl ⟨by rfl, ?_⟩) (by assumption) ?_
            rotate_left
            · intro wS hSw
              go_simp; (try with_reducible rfl)
            (try simp only [Act.put])
            (try simp only [List.setIfInBounds_toArray])
            (try simp only [List.set_cons_succ])
            (try simp only [List.set_cons_zero])
            refine wpAnyH_done (by kernel_rfl) ?_ _
            go_wp2
            go_meet
            rw [HBB.out]
            exact ⟨p, q, a2, c2, rfl, rfl, rfl, D2, F, SlP.of_own1 (l := kvL) ho2, hb2⟩
        · refine (if_pos (by rfl)).mpr ?_
          go_simp
          change K' _ (World.alloc _ (Obj.cells (imA 0 (.slice none 0 0) zeroT) 49))
          have D := heap_alloc_new x27 (Obj.cells (imA 0 (.slice none 0 0) zeroT) 49)
          have hpq := lt_blk E
          have E := tr_al (Obj.cells (imA 0 (.slice none 0 0) zeroT) 49) E
          have hb := hb.trans ((blw _ (Obj.cells (imA 0 (.slice none 0 0) zeroT) 49)).mono hz)
          have hp : B ≤ x27.heap.size := hz
          have hz := Nat.le_trans hz (blw x27 (Obj.cells (imA 0 (.slice none 0 0) zeroT) 49)).size
          refine hK'.out _ _ hb (fun _ => ?_)
          generalize x27.alloc (Obj.cells (imA 0 (.slice none 0 0) zeroT) 49) = x30 at *
          obtain ⟨p, hpn⟩ : ∃ g, x27.heap.size = g := ⟨_, rfl⟩
          simp only [hpn] at D hp hpq ⊢
          clear hpn
          refine wpAnyH_ready (rs := [2]) (by kernel_rfl) (by simp) ?_
          refine AllReadyH.cons (o := ⟨_, _, _, _, _, _⟩) rfl (fun K' hK' => ?_) (AllReadyH.nil)
          · refine (if_pos (by rfl)).mpr ?_
            go_simp
            refine (apply2 a1 c1 _ (HB2 _ hb)).mono ?_
            rintro en x31 ⟨⟨a2, c2, rfl, ho⟩, hbk⟩
            have ho := owns_mono ho hz
            have hb := hb.trans (hbk.mono hz)
            have hz := Nat.le_trans hz hbk.size
            have D := tr_bl hbk D
            have E := tr_bl hbk E
            clear hbk
            refine hK'.out _ _ hb (fun _ => ?_)
            refine wpAnyH_take (i := 3) (oi := ⟨_, _, _, _, _, _⟩) (v := ?_) rfl (by kernel_rfl) (by kernel_rfl) (by kernel_rfl) (fun _ _ _ h => h) (Or.inl ⟨by rfl, ?_⟩) (by assumption) ?_
            rotate_left
            · intro wS hSw
              go_simp; (try with_reducible rfl)
            (try simp only [Act.put])
            (try simp only [List.setIfInBounds_toArray])
            (try simp only [List.set_cons_succ])
            (try simp only [List.set_cons_zero])
            refine wpAnyH_take (i := 4) (oi := ⟨_, _, _, _, _, _⟩) (v := ?_) rfl (by kernel_rfl) (by kernel_rfl) (by kernel_rfl) (fun _ _ _ h => h) (Or.inl ⟨by rfl, ?_⟩) (by assumption) ?_
            rotate_left
            · intro wS hSw
              go_simp; (try with_reducible rfl)
            (try simp only [Act.put])
            (try simp only [List.setIfInBounds_toArray])
            (try simp only [List.set_cons_succ])
            (try simp only [List.set_cons_zero])
            refine wpAnyH_take (i := 5) (oi := ⟨_, _, _, _, _, _⟩) (v := ?_) rfl (by kernel_rfl) (by kernel_rfl) (by kernel_rfl) (fun _ _ _ h => h) (Or.inl ⟨by rfl, ?_⟩) (by assumption) ?_
            rotate_left
            · intro wS hSw
              go_simp; (try with_reducible rfl)
            (try simp only [Act.put])
            (try simp only [List.setIfInBounds_toArray])
            (try simp only [List.set_cons_succ])
            (try simp only [List.set_cons_zero])
            refine wpAnyH_take (i := 6) (oi := ⟨_, _, _, _, _, _⟩) (v := ?_) rfl (by kernel_rfl) (by kernel_rfl) (by kernel_rfl) (fun _ _ _ h => h) (Or.inl ⟨by rfl, ?_⟩) (by assumption) ?_
            rotate_left
            · intro wS hSw
              go_simp; (try with_reducible rfl)
            (try simp only [Act.put])
            (try simp only [List.setIfInBounds_toArray])
            (try simp only [List.set_cons_succ])
            (try simp only [List.set_cons_zero])
            refine wpAnyH_ready (rs := [9]) (by kernel_rfl) (by simp) ?_
            refine AllReadyH.cons (o := ⟨_, _, _, _, _, _⟩) rfl (fun K' hK' => ?_) (AllReadyH.nil)
            refine (if_pos (by rfl)).mpr ?_
            refine wp_stB 49 _ _ ?_
            have D0 := D
            refine ⟨_, _, _, ⟨_, _, _, Try.sizeOf49, rfl, D, imA_over _ _ _ _ _ 0 (.slice none 0 0) zeroT⟩, ?_⟩
            intro y1 D1 g1
            have E1 := tr_st g1 E (by omega)
            have ho1 := owns_ne ho g1 D0 (by decide)
            have hb1 := bl_st hb g1 hz hp
            have hz1 := Nat.le_trans hz g1.size
            refine hK'.out _ _ hb1 (fun _ => ?_)
            refine wpAnyH_ready (rs := [10]) (by kernel_rfl) (by simp) ?_
            refine AllReadyH.cons (o := ⟨_, _, _, _, _, _⟩) rfl (fun K' hK' => ?_) (AllReadyH.nil)
            refine (if_pos (by rfl)).mpr ?_
            refine wp_stB 43 _ _ ?_
            have E2 := E1
            refine ⟨_, _, _, ⟨_, _, _, Try.sizeOf43, rfl, E1, rpA_over _ zeroR⟩, ?_⟩
            intro y2 F g2
            have D2 := tr_st g2 D1 (by omega)
            have ho2 := owns_ne ho1 g2 E2 (by decide)
            have hb2 := bl_st hb1 g2 hz1 hq
            refine hK'.out _ _ hb2 (fun _ => ?_)
            refine wpAnyH_take (i := 11) (oi := ⟨_, _, _, _, _, _⟩) (v := ?_) rfl (by kernel_rfl) (by kernel_rfl) (by kernel_rfl) (fun _ _ _ h => h) (Or.inl ⟨by rfl, ?_⟩) (by assumption) ?_
            rotate_left
            · intro wS hSw
              go_simp; (try with_reducible rfl)
            (try simp only [Act.put])
            (try simp only [List.setIfInBounds_toArray])
            (try simp only [List.set_cons_succ])
            (try simp only [List.set_cons_zero])
            refine wpAnyH_done (by kernel_rfl) ?_ _
            go_wp2
            go_meet
            rw [HBB.out]
            exact ⟨p, q, a2, c2, rfl, rfl, rfl, D2, F, SlP.of_own1 (l := kvL) ho2, hb2⟩
      · refine (if_pos (by rfl)).mpr ?_
        go_simp
        change K' _ (World.alloc _ (Obj.cells (imA 0 (.slice none 0 0) zeroT) 49))
        have D := heap_alloc_new x26 (Obj.cells (imA 0 (.slice none 0 0) zeroT) 49)
        have hpq := lt_blk E
        have E := tr_al (Obj.cells (imA 0 (.slice none 0 0) zeroT) 49) E
        have hb := hb.trans ((blw _ (Obj.cells (imA 0 (.slice none 0 0) zeroT) 49)).mono hz)
        have hp : B ≤ x26.heap.size := hz
        have hz := Nat.le_trans hz (blw x26 (Obj.cells (imA 0 (.slice none 0 0) zeroT) 49)).size
        refine hK'.out _ _ hb (fun _ => ?_)
        generalize x26.alloc (Obj.cells (imA 0 (.slice none 0 0) zeroT) 49) = x32 at *
        obtain ⟨p, hpn⟩ : ∃ g, x26.heap.size = g := ⟨_, rfl⟩
        simp only [hpn] at D hp hpq ⊢
        clear hpn
        refine wpAnyH_ready (rs := [1]) (by kernel_rfl) (by simp) ?_
        refine AllReadyH.cons (o := ⟨_, _, _, _, _, _⟩) rfl (fun K' hK' => ?_) (AllReadyH.nil)
        · refine (if_pos (by rfl)).mpr ?_
          go_simp
          refine (putE_any 3 _).mono ?_
          rintro en x33 ⟨rfl, hbk⟩
          have hb := hb.trans (hbk.mono hz)
          have hz := Nat.le_trans hz hbk.size
          have D := tr_bl hbk D
          have E := tr_bl hbk E
          clear hbk
          refine hK'.out _ _ hb (fun _ => ?_)
          refine wpAnyH_ready (rs := [2]) (by kernel_rfl) (by simp) ?_
          refine AllReadyH.cons (o := ⟨_, _, _, _, _, _⟩) rfl (fun K' hK' => ?_) (AllReadyH.nil)
          · refine (if_pos (by rfl)).mpr ?_
            go_simp
            refine (apply2 a1 c1 _ (HB2 _ hb)).mono ?_
            rintro en x34 ⟨⟨a2, c2, rfl, ho⟩, hbk⟩
            have ho := owns_mono ho hz
            have hb := hb.trans (hbk.mono hz)
            have hz := Nat.le_trans hz hbk.size
            have D := tr_bl hbk D
            have E := tr_bl hbk E
            clear hbk
            refine hK'.out _ _ hb (fun _ => ?_)
            refine wpAnyH_take (i := 3) (oi := ⟨_, _, _, _, _, _⟩) (v := ?_) rfl (by kernel_rfl) (by kernel_rfl) (by kernel_rfl) (fun _ _ _ h => h) (Or.inl ⟨by rfl, ?_⟩) (by assumption) ?_
            rotate_left
            · intro wS hSw
              go_simp; (try with_reducible rfl)
            (try simp only [Act.put])
            (try simp only [List.setIfInBounds_toArray])
            (try simp only [List.set_cons_succ])
            (try simp only [List.set_cons_zero])
            refine wpAnyH_take (i := 4) (oi := ⟨_, _, _, _, _, _⟩) (v := ?_) rfl (by kernel_rfl) (by kernel_rfl) (by kernel_rfl) (fun _ _ _ h => h) (Or.inl ⟨by rfl, ?_⟩) (by assumption) ?_
            rotate_left
            · intro wS hSw
              go_simp; (try with_reducible rfl)
            (try simp only [Act.put])
            (try simp only [List.setIfInBounds_toArray])
            (try simp only [List.set_cons_succ])
            (try simp only [List.set_cons_zero])
            refine wpAnyH_take (i := 5) (oi := ⟨_, _, _, _, _, _⟩) (v := ?_) rfl (by kernel_rfl) (by kernel_rfl) (by kernel_rfl) (fun _ _ _ h => h) (Or.inl ⟨by rfl, ?_⟩) (by assumption) ?_
            rotate_left
            · intro wS hSw
              go_simp; (try with_reducible rfl)
            (try simp only [Act.put])
            (try simp only [List.setIfInBounds_toArray])
            (try simp only [List.set_cons_succ])
            (try simp only [List.set_cons_zero])
            refine wpAnyH_take (i := 6) (oi := ⟨_, _, _, _, _, _⟩) (v := ?_) rfl (by kernel_rfl) (by kernel_rfl) (by kernel_rfl) (fun _ _ _ h => h) (Or.inl ⟨by rfl, ?_⟩) (by assumption) ?_
            rotate_left
            · intro wS hSw
              go_simp; (try with_reducible rfl)
            (try simp only [Act.put])
            (try simp only [List.setIfInBounds_toArray])
            (try simp only [List.set_cons_succ])
            (try simp only [List.set_cons_zero])
            refine wpAnyH_ready (rs := [9]) (by kernel_rfl) (by simp) ?_
            refine AllReadyH.cons (o := ⟨_, _, _, _, _, _⟩) rfl (fun K' hK' => ?_) (AllReadyH.nil)
            refine (if_pos (by rfl)).mpr ?_
            refine wp_stB 49 _ _ ?_
            have D0 := D
            refine ⟨_, _, _, ⟨_, _, _, Try.sizeOf49, rfl, D, imA_over _ _ _ _ _ 0 (.slice none 0 0) zeroT⟩, ?_⟩
            intro y1 D1 g1
            have E1 := tr_st g1 E (by omega)
            have ho1 := owns_ne ho g1 D0 (by decide)
            have hb1 := bl_st hb g1 hz hp
            have hz1 := Nat.le_trans hz g1.size
            refine hK'.out _ _ hb1 (fun _ => ?_)
            refine wpAnyH_ready (rs := [10]) (by kernel_rfl) (by simp) ?_
            refine AllReadyH.cons (o := ⟨_, _, _, _, _, _⟩) rfl (fun K' hK' => ?_) (AllReadyH.nil)
            refine (if_pos (by rfl)).mpr ?_
            refine wp_stB 43 _ _ ?_
            have E2 := E1
            refine ⟨_, _, _, ⟨_, _, _, Try.sizeOf43, rfl, E1, rpA_over _ zeroR⟩, ?_⟩
            intro y2 F g2
            have D2 := tr_st g2 D1 (by omega)
            have ho2 := owns_ne ho1 g2 E2 (by decide)
            have hb2 := bl_st hb1 g2 hz1 hq
            refine hK'.out _ _ hb2 (fun _ => ?_)
            refine wpAnyH_take (i := 11) (oi := ⟨_, _, _, _, _, _⟩) (v := ?_) rfl (by kernel_rfl) (by kernel_rfl) (by kernel_rfl) (fun _ _ _ h => h) (Or.inl ⟨by rfl, ?_⟩) (by assumption) ?_
            rotate_left
            · intro wS hSw
              go_simp; (try with_reducible rfl)
            (try simp only [Act.put])
            (try simp only [List.setIfInBounds_toArray])
            (try simp only [List.set_cons_succ])
            (try simp only [List.set_cons_zero])
            refine wpAnyH_done (by kernel_rfl) ?_ _
            go_wp2
            go_meet
            rw [HBB.out]
            exact ⟨p, q, a2, c2, rfl, rfl, rfl, D2, F, SlP.of_own1 (l := kvL) ho2, hb2⟩
  obtain ⟨g6, g7, a2, c2, rfl, rfl, rfl, F6, F7, s2, hbc⟩ := hcut
  refine hK _ _ ?_; clear hK
  have E3 := tr_bl hbc E3
  have E4 := tr_bl hbc E4
  have sz := sz.below hbc
  have s1 := s1.below hbc
  have hb := step_b hb hbc
  clear hbc
  refine wp_seq_k (fun K hK => ?_)
  have HK := Lib.hid hK
  clear hK
  go_wp2_with ((first | (with_reducible refine wpList_stNew 80 _ _ ?_) | (with_reducible refine wp_stNew 80 _ _ ?_)); refine ⟨_, _, ⟨Try.sizeOf80, rfl, enA_new lastE⟩, rfl, ?_⟩)
  refine HK.out _ _ ?_
  clear HK
  have Fe := heap_alloc_new wc (Obj.cells (enA lastE) 80)
  have F6 := tr_al (Obj.cells (enA lastE) 80) F6
  have F7 := tr_al (Obj.cells (enA lastE) 80) F7
  have E3 := tr_al (Obj.cells (enA lastE) 80) E3
  have E4 := tr_al (Obj.cells (enA lastE) 80) E4
  have sz := sz.below (blw wc (Obj.cells (enA lastE) 80))
  have s1 := s1.below (blw wc (Obj.cells (enA lastE) 80))
  have s2 := s2.below (blw wc (Obj.cells (enA lastE) 80))
  have hb := step_b hb (blw wc (Obj.cells (enA lastE) 80))
  generalize wc.alloc (Obj.cells (enA lastE) 80) = w8 at *
  obtain ⟨ge, hge⟩ : ∃ g, wc.heap.size = g := ⟨_, rfl⟩
  simp only [hge] at Fe ⊢
  clear hge
  refine wp_seq_k (fun K hK => ?_)
  have HK := Lib.hid hK
  clear hK
  go_wp2_with (first
      | ((with_reducible refine wpList_ldB 49 _ ?_); refine ⟨rfl, _, ⟨_, _, _, _, _, Try.isAgg49, Try.sizeOf49, rfl, ‹_›, imA_all _ _ _⟩, ?_⟩)
      | ((with_reducible refine wpList_ldB 80 _ ?_); refine ⟨rfl, _, ⟨_, _, _, _, _, Try.isAgg80, Try.sizeOf80, rfl, ‹_›, enA_all _⟩, ?_⟩)
      | (go_at_call 48; refine (apply3 _ _ _ s2).mono ?_; rintro e w9 ⟨⟨a3, c3, rfl, ho⟩, hb9⟩)
      | ((with_reducible refine wpList_stB 49 _ _ ?_); refine ⟨_, _, _, ⟨_, _, _, Try.sizeOf49, rfl, tr_al _ (heap_alloc_new _ _), imA_over _ _ _ _ _ 0 (.slice none 0 0) zeroT⟩, ?_⟩; intro w10 D8 g10; have D9 := tr_st g10 (heap_alloc2_new w9 _ _) (by omega))
      | ((with_reducible refine wpList_stB 43 _ _ ?_); refine ⟨_, _, _, ⟨_, _, _, Try.sizeOf43, rfl, D9, rpA_over _ zeroR⟩, ?_⟩; intro w11 H11 g11; have H10 := tr_st g11 D8 (by omega)))
  refine HK.out _ _ ?_
  clear HK
  have hbn := step_b hb9 (bl_two g10 g11)
  have s3 := (SlP.of_own1 (l := kvL) ho).below (bl_two g10 g11)
  have F6 := tr_bl hbn F6
  have F7 := tr_bl hbn F7
  have E3 := tr_bl hbn E3
  have E4 := tr_bl hbn E4
  have sz := sz.below hbn
  have s1 := s1.below hbn
  have hb := step_b hb hbn
  obtain ⟨g8, hg8⟩ : ∃ g, w9.heap.size = g := ⟨_, rfl⟩
  simp only [hg8] at H10 H11 ⊢
  clear hg8 g10 g11 D8 D9 hb9 hbn ho s2 Fe
  refine wp_seq_k (fun K hK => ?_)
  have HK := Lib.hid hK
  clear hK
  go_wp2_with (first
      | ((with_reducible refine wpList_ldB 49 _ ?_); refine ⟨rfl, _, ⟨_, _, _, _, _, Try.isAgg49, Try.sizeOf49, rfl, ‹_›, imA_all _ _ _⟩, ?_⟩)
      | (go_at_call 48; refine (apply4 _ _ _ s3).mono ?_; rintro e w12 ⟨⟨a4, c4, rfl, ho⟩, hb12⟩)
      | ((with_reducible refine wpList_stB 49 _ _ ?_); refine ⟨_, _, _, ⟨_, _, _, Try.sizeOf49, rfl, tr_al _ (heap_alloc_new _ _), imA_over _ _ _ _ _ 0 (.slice none 0 0) zeroT⟩, ?_⟩; intro w13 D8 g13; have D9 := tr_st g13 (heap_alloc2_new w12 _ _) (by omega))
      | ((with_reducible refine wpList_stB 43 _ _ ?_); refine ⟨_, _, _, ⟨_, _, _, Try.sizeOf43, rfl, D9, rpA_over _ zeroR⟩, ?_⟩; intro w14 _ g14))
  refine HK.out _ _ ?_
  clear HK
  have hbn := step_b hb12 (bl_two g13 g14)
  have H10 := tr_bl hbn H10
  have H11 := tr_bl hbn H11
  have s3 := s3.below hbn
  have F6 := tr_bl hbn F6
  have F7 := tr_bl hbn F7
  have E3 := tr_bl hbn E3
  have E4 := tr_bl hbn E4
  have sz := sz.below hbn
  have s1 := s1.below hbn
  have hb := step_b hb hbn
  clear g13 g14 D8 D9 hb12 hbn ho
  refine wp_seq_k (fun K hK => ?_)
  have HK := Lib.hid hK
  clear hK
  go_wp2_with (first
    | (at_make; refine wpList_zeros 46 (by decide) (by kernel_rfl) rfl _ _ rfl rfl rfl ?_; intro w15 sz46 hb15)
    | (go_at_call 26; refine (parse46 _ _ _ sz46).mono ?_; rintro e w16 ⟨rfl, hb16⟩)
    | ((first | (with_reducible refine wpList_stNew 49 _ _ ?_) | (with_reducible refine wp_stNew 49 _ _ ?_)); refine ⟨_, _, ⟨Try.sizeOf49, rfl, imA_new 0 none 0 0 zeroT⟩, rfl, ?_⟩))
  refine HK.out _ _ ?_
  clear HK
  have hbn := step_b (step_b hb15 hb16) (blw w16 (Obj.cells (imA 0 (.slice none 0 0) zeroT) 49))
  have H10 := tr_bl hbn H10
  have H11 := tr_bl hbn H11
  have s3 := s3.below hbn
  have F6 := tr_bl hbn F6
  have F7 := tr_bl hbn F7
  have E3 := tr_bl hbn E3
  have E4 := tr_bl hbn E4
  have sz := sz.below hbn
  have s1 := s1.below hbn
  have hb := step_b hb hbn
  clear hb15 hb16 hbn sz46
  generalize w16.alloc (Obj.cells (imA 0 (.slice none 0 0) zeroT) 49) = w17 at *
  refine wp_seq_k (fun K hK => ?_)
  have HK := Lib.hid hK
  clear hK
  go_wp2_with fail
  refine wp_region_held_drew (S := fun w' => Below w17.heap.size w17 w') (by kernel_rfl) (Below.refl _ _).drew (fun hS0 => ?_)
  generalize w17.drew = x0 at *
  refine wpAnyH_take (i := 0) (oi := ⟨_, _, _, _, _, _⟩) (v := ?_) rfl (by kernel_rfl) (by kernel_rfl) (by kernel_rfl) (fun _ _ _ h => h) (Or.inl ⟨by rfl, ?_⟩) (by assumption) ?_
  rotate_left
  · intro wS hSw
    go_simp; (try with_reducible rfl)
  (try simp only [Act.put])
  (try simp only [List.setIfInBounds_toArray])
  (try simp only [List.set_cons_succ])
  (try simp only [List.set_cons_zero])
  refine wpAnyH_take (i := 1) (oi := ⟨_, _, _, _, _, _⟩) (v := ?_) rfl (by kernel_rfl) (by kernel_rfl) (by kernel_rfl) (fun _ _ _ h => h) (Or.inl ⟨by rfl, ?_⟩) (by assumption) ?_
  rotate_left
  · intro wS hSw
    go_simp; (try with_reducible rfl)
  (try simp only [Act.put])
  (try simp only [List.setIfInBounds_toArray])
  (try simp only [List.set_cons_succ])
  (try simp only [List.set_cons_zero])
  refine wpAnyH_take (i := 2) (oi := ⟨_, _, _, _, _, _⟩) (v := ?_) rfl (by kernel_rfl) (by kernel_rfl) (by kernel_rfl) (fun _ _ _ h => h) (Or.inl ⟨by rfl, ?_⟩) (by assumption) ?_
  rotate_left
  · intro wS hSw
    go_simp; (try with_reducible rfl)
  (try simp only [Act.put])
  (try simp only [List.setIfInBounds_toArray])
  (try simp only [List.set_cons_succ])
  (try simp only [List.set_cons_zero])
  refine wpAnyH_take (i := 3) (oi := ⟨_, _, _, _, _, _⟩) (v := ?_) rfl (by kernel_rfl) (by kernel_rfl) (by kernel_rfl) (fun _ _ _ h => h) (Or.inl ⟨by rfl, ?_⟩) (by assumption) ?_
  rotate_left
  · intro wS hSw
    go_simp; (try with_reducible rfl)
  (try simp only [Act.put])
  (try simp only [List.setIfInBounds_toArray])
  (try simp only [List.set_cons_succ])
  (try simp only [List.set_cons_zero])
  refine wpAnyH_take (i := 4) (oi := ⟨_, _, _, _, _, _⟩) (v := ?_) rfl (by kernel_rfl) (by kernel_rfl) (by kernel_rfl) (fun _ _ _ h => h) (Or.inl ⟨by rfl, ?_⟩) (by assumption) ?_
  rotate_left
  · intro wS hSw
    go_simp; (try with_reducible rfl)
  (try simp only [Act.put])
  (try simp only [List.setIfInBounds_toArray])
  (try simp only [List.set_cons_succ])
  (try simp only [List.set_cons_zero])
  refine wpAnyH_take (i := 5) (oi := ⟨_, _, _, _, _, _⟩) (v := ?_) rfl (by kernel_rfl) (by kernel_rfl) (by kernel_rfl) (fun _ _ _ h => h) (Or.inl ⟨by rfl, ?_⟩) (by assumption) ?_
  rotate_left
  · intro wS hSw
    go_simp; (try with_reducible rfl)
  (try simp only [Act.put])
  (try simp only [List.setIfInBounds_toArray])
  (try simp only [List.set_cons_succ])
  (try simp only [List.set_cons_zero])
  refine wpAnyH_take (i := 6) (oi := ⟨_, _, _, _, _, _⟩) (v := ?_) rfl (by kernel_rfl) (by kernel_rfl) (by kernel_rfl) (fun _ _ _ h => h) (Or.inl ⟨by rfl, ?_⟩) (by assumption) ?_
  rotate_left
  · intro wS hSw
    go_simp; (try with_reducible rfl)
  (try simp only [Act.put])
  (try simp only [List.setIfInBounds_toArray])
  (try simp only [List.set_cons_succ])
  (try simp only [List.set_cons_zero])
  refine wpAnyH_take (i := 7) (oi := ⟨_, _, _, _, _, _⟩) (v := ?_) rfl (by kernel_rfl) (by kernel_rfl) (by kernel_rfl) (fun _ _ _ h => h) (Or.inl ⟨by rfl, ?_⟩) (by assumption) ?_
  rotate_left
  · intro wS hSw
    go_simp; (try with_reducible rfl)
  (try simp only [Act.put])
  (try simp only [List.setIfInBounds_toArray])
  (try simp only [List.set_cons_succ])
  (try simp only [List.set_cons_zero])
  refine wpAnyH_take (i := 8) (oi := ⟨_, _, _, _, _, _⟩) (v := ?_) rfl (by kernel_rfl) (by kernel_rfl) (by kernel_rfl) (fun _ _ _ h => h) (Or.inl ⟨by rfl, ?_⟩) (by assumption) ?_
  rotate_left
  · intro wS hSw
    go_simp; (try with_reducible rfl)
  (try simp only [Act.put])
  (try simp only [List.setIfInBounds_toArray])
  (try simp only [List.set_cons_succ])
  (try simp only [List.set_cons_zero])
  refine wpAnyH_take (i := 9) (oi := ⟨_, _, _, _, _, _⟩) (v := .string (txOf (zerosB 47))) rfl (by kernel_rfl) (by kernel_rfl) (by kernel_rfl) (fun _ _ _ h => h) (Or.inl ⟨by rfl, fun wS hSw => ?_⟩) (by assumption) ?_
  · exact exec_conv _ az cz 47 _ List.length_replicate rfl (sz.below hSw).row
  (try simp only [Act.put])
  (try simp only [List.setIfInBounds_toArray])
  (try simp only [List.set_cons_succ])
  (try simp only [List.set_cons_zero])
  refine wpAnyH_ready (rs := [10]) (by kernel_rfl) (by simp) ?_
  refine AllReadyH.cons (o := ⟨_, _, _, _, _, _⟩) rfl (fun K' hK' => ?_) AllReadyH.nil
  refine (if_pos (by rfl)).mpr ?_
  refine wp_zeros 47 (by decide) (by kernel_rfl) _ _ rfl rfl rfl ?_
  intro x1 sq hq
  have hS1 := step_b hS0 hq
  refine hK'.out _ _ hS1 (fun _ => ?_)
  refine wpAnyH_ready (rs := [11]) (by kernel_rfl) (by simp) ?_
  refine AllReadyH.cons (o := ⟨_, _, _, _, _, _⟩) rfl (fun K' hK' => ?_) AllReadyH.nil
  refine (if_pos (by rfl)).mpr ?_
  refine wp_conv _ _ 47 47 (zerosB 47) List.length_replicate rfl sq.row ?_
  refine hK'.out _ _ hS1 (fun _ => ?_)
  refine wpAnyH_take (i := 12) (oi := ⟨_, _, _, _, _, _⟩) (v := .bool false) rfl (by kernel_rfl) (by kernel_rfl) (by kernel_rfl) (fun _ _ _ h => h) (Or.inl ⟨by rfl, fun wS hSw => ?_⟩) (by assumption) ?_
  · go_simp
  (try simp only [Act.put])
  (try simp only [List.setIfInBounds_toArray])
  (try simp only [List.set_cons_succ])
  (try simp only [List.set_cons_zero])
  refine wpAnyH_take (i := 13) (oi := ⟨_, _, _, _, _, _⟩) (v := ?_) rfl (by kernel_rfl) (by kernel_rfl) (by kernel_rfl) (fun _ _ _ h => h) (Or.inl ⟨by rfl, ?_⟩) (by assumption) ?_
  rotate_left
  · intro wS hSw
    go_simp; (try with_reducible rfl)
  (try simp only [Act.put])
  (try simp only [List.setIfInBounds_toArray])
  (try simp only [List.set_cons_succ])
  (try simp only [List.set_cons_zero])
  refine wpAnyH_take (i := 14) (oi := ⟨_, _, _, _, _, _⟩) (v := ?_) rfl (by kernel_rfl) (by kernel_rfl) (by kernel_rfl) (fun _ _ _ h => h) (Or.inl ⟨by rfl, ?_⟩) (by assumption) ?_
  rotate_left
  · intro wS hSw
    go_simp; (try with_reducible rfl)
  (try simp only [Act.put])
  (try simp only [List.setIfInBounds_toArray])
  (try simp only [List.set_cons_succ])
  (try simp only [List.set_cons_zero])
  refine wpAnyH_take (i := 15) (oi := ⟨_, _, _, _, _, _⟩) (v := ?_) rfl (by kernel_rfl) (by kernel_rfl) (by kernel_rfl) (fun _ _ _ h => h) (Or.inl ⟨by rfl, ?_⟩) (by assumption) ?_
  rotate_left
  · intro wS hSw
    go_simp; (try with_reducible rfl)
  (try simp only [Act.put])
  (try simp only [List.setIfInBounds_toArray])
  (try simp only [List.set_cons_succ])
  (try simp only [List.set_cons_zero])
  refine wpAnyH_take (i := 16) (oi := ⟨_, _, _, _, _, _⟩) (v := ?_) rfl (by kernel_rfl) (by kernel_rfl) (by kernel_rfl) (fun _ _ _ h => h) (Or.inl ⟨by rfl, ?_⟩) (by assumption) ?_
  rotate_left
  · intro wS hSw
    go_simp; (try with_reducible rfl)
  (try simp only [Act.put])
  (try simp only [List.setIfInBounds_toArray])
  (try simp only [List.set_cons_succ])
  (try simp only [List.set_cons_zero])
  refine wpAnyH_take (i := 17) (oi := ⟨_, _, _, _, _, _⟩) (v := ?_) rfl (by kernel_rfl) (by kernel_rfl) (by kernel_rfl) (fun _ _ _ h => h) (Or.inl ⟨by rfl, ?_⟩) (by assumption) ?_
  rotate_left
  · intro wS hSw
    go_simp; (try with_reducible rfl)
  (try simp only [Act.put])
  (try simp only [List.setIfInBounds_toArray])
  (try simp only [List.set_cons_succ])
  (try simp only [List.set_cons_zero])
  refine wpAnyH_take (i := 18) (oi := ⟨_, _, _, _, _, _⟩) (v := ?_) rfl (by kernel_rfl) (by kernel_rfl) (by kernel_rfl) (fun _ _ _ h => h) (Or.inl ⟨by rfl, ?_⟩) (by assumption) ?_
  rotate_left
  · intro wS hSw
    go_simp; (try with_reducible rfl)
  (try simp only [Act.put])
  (try simp only [List.setIfInBounds_toArray])
  (try simp only [List.set_cons_succ])
  (try simp only [List.set_cons_zero])
  refine wpAnyH_take (i := 19) (oi := ⟨_, _, _, _, _, _⟩) (v := ?_) rfl (by kernel_rfl) (by kernel_rfl) (by kernel_rfl) (fun _ _ _ h => h) (Or.inl ⟨by rfl, ?_⟩) (by assumption) ?_
  rotate_left
  · intro wS hSw
    go_simp; (try with_reducible rfl)
  (try simp only [Act.put])
  (try simp only [List.setIfInBounds_toArray])
  (try simp only [List.set_cons_succ])
  (try simp only [List.set_cons_zero])
  refine wpAnyH_take (i := 20) (oi := ⟨_, _, _, _, _, _⟩) (v := ?_) rfl (by kernel_rfl) (by kernel_rfl) (by kernel_rfl) (fun _ _ _ h => h) (Or.inl ⟨by rfl, ?_⟩) (by assumption) ?_
  rotate_left
  · intro wS hSw
    go_simp; (try with_reducible rfl)
  (try simp only [Act.put])
  (try simp only [List.setIfInBounds_toArray])
  (try simp only [List.set_cons_succ])
  (try simp only [List.set_cons_zero])
  refine wpAnyH_take (i := 21) (oi := ⟨_, _, _, _, _, _⟩) (v := ?_) rfl (by kernel_rfl) (by kernel_rfl) (by kernel_rfl) (fun _ _ _ h => h) (Or.inl ⟨by rfl, ?_⟩) (by assumption) ?_
  rotate_left
  · intro wS hSw
    go_simp; (try with_reducible rfl)
  (try simp only [Act.put])
  (try simp only [List.setIfInBounds_toArray])
  (try simp only [List.set_cons_succ])
  (try simp only [List.set_cons_zero])
  refine wpAnyH_take (i := 22) (oi := ⟨_, _, _, _, _, _⟩) (v := ?_) rfl (by kernel_rfl) (by kernel_rfl) (by kernel_rfl) (fun _ _ _ h => h) (Or.inl ⟨by rfl, ?_⟩) (by assumption) ?_
  rotate_left
  · intro wS hSw
    go_simp; (try with_reducible rfl)
  (try simp only [Act.put])
  (try simp only [List.setIfInBounds_toArray])
  (try simp only [List.set_cons_succ])
  (try simp only [List.set_cons_zero])
  refine wpAnyH_take (i := 23) (oi := ⟨_, _, _, _, _, _⟩) (v := ?_) rfl (by kernel_rfl) (by kernel_rfl) (by kernel_rfl) (fun _ _ _ h => h) (Or.inl ⟨by rfl, ?_⟩) (by assumption) ?_
  rotate_left
  · intro wS hSw
    go_simp; (try with_reducible rfl)
  (try simp only [Act.put])
  (try simp only [List.setIfInBounds_toArray])
  (try simp only [List.set_cons_succ])
  (try simp only [List.set_cons_zero])
  refine wpAnyH_take (i := 24) (oi := ⟨_, _, _, _, _, _⟩) (v := ?_) rfl (by kernel_rfl) (by kernel_rfl) (by kernel_rfl) (fun _ _ _ h => h) (Or.inl ⟨by rfl, ?_⟩) (by assumption) ?_
  rotate_left
  · intro wS hSw
    go_simp; (try with_reducible rfl)
  (try simp only [Act.put])
  (try simp only [List.setIfInBounds_toArray])
  (try simp only [List.set_cons_succ])
  (try simp only [List.set_cons_zero])
  refine wpAnyH_take (i := 25) (oi := ⟨_, _, _, _, _, _⟩) (v := ?_) rfl (by kernel_rfl) (by kernel_rfl) (by kernel_rfl) (fun _ _ _ h => h) (Or.inl ⟨by rfl, ?_⟩) (by assumption) ?_
  rotate_left
  · intro wS hSw
    go_simp; (try with_reducible rfl)
  (try simp only [Act.put])
  (try simp only [List.setIfInBounds_toArray])
  (try simp only [List.set_cons_succ])
  (try simp only [List.set_cons_zero])
  refine wpAnyH_take (i := 26) (oi := ⟨_, _, _, _, _, _⟩) (v := ?_) rfl (by kernel_rfl) (by kernel_rfl) (by kernel_rfl) (fun _ _ _ h => h) (Or.inl ⟨by rfl, ?_⟩) (by assumption) ?_
  rotate_left
  · intro wS hSw
    go_simp; (try with_reducible rfl)
  (try simp only [Act.put])
  (try simp only [List.setIfInBounds_toArray])
  (try simp only [List.set_cons_succ])
  (try simp only [List.set_cons_zero])
  refine wpAnyH_take (i := 27) (oi := ⟨_, _, _, _, _, _⟩) (v := ?_) rfl (by kernel_rfl) (by kernel_rfl) (by kernel_rfl) (fun _ _ _ h => h) (Or.inl ⟨by rfl, ?_⟩) (by assumption) ?_
  rotate_left
  · intro wS hSw
    go_simp; (try with_reducible rfl)
  (try simp only [Act.put])
  (try simp only [List.setIfInBounds_toArray])
  (try simp only [List.set_cons_succ])
  (try simp only [List.set_cons_zero])
  refine wpAnyH_take (i := 28) (oi := ⟨_, _, _, _, _, _⟩) (v := ?_) rfl (by kernel_rfl) (by kernel_rfl) (by kernel_rfl) (fun _ _ _ h => h) (Or.inl ⟨by rfl, ?_⟩) (by assumption) ?_
  rotate_left
  · intro wS hSw
    go_simp; (try with_reducible rfl)
  (try simp only [Act.put])
  (try simp only [List.setIfInBounds_toArray])
  (try simp only [List.set_cons_succ])
  (try simp only [List.set_cons_zero])
  refine wpAnyH_take (i := 29) (oi := ⟨_, _, _, _, _, _⟩) (v := ?_) rfl (by kernel_rfl) (by kernel_rfl) (by kernel_rfl) (fun _ _ _ h => h) (Or.inl ⟨by rfl, ?_⟩) (by assumption) ?_
  rotate_left
  · intro wS hSw
    go_simp; (try with_reducible rfl)
  (try simp only [Act.put])
  (try simp only [List.setIfInBounds_toArray])
  (try simp only [List.set_cons_succ])
  (try simp only [List.set_cons_zero])
  refine wpAnyH_take (i := 30) (oi := ⟨_, _, _, _, _, _⟩) (v := ?_) rfl (by kernel_rfl) (by kernel_rfl) (by kernel_rfl) (fun _ _ _ h => h) (Or.inl ⟨by rfl, ?_⟩) (by assumption) ?_
  rotate_left
  · intro wS hSw
    go_simp; (try with_reducible rfl)
  (try simp only [Act.put])
  (try simp only [List.setIfInBounds_toArray])
  (try simp only [List.set_cons_succ])
  (try simp only [List.set_cons_zero])
  refine wpAnyH_take (i := 31) (oi := ⟨_, _, _, _, _, _⟩) (v := ?_) rfl (by kernel_rfl) (by kernel_rfl) (by kernel_rfl) (fun _ _ _ h => h) (Or.inl ⟨by rfl, ?_⟩) (by assumption) ?_
  rotate_left
  · intro wS hSw
    go_simp; (try with_reducible rfl)
  (try simp only [Act.put])
  (try simp only [List.setIfInBounds_toArray])
  (try simp only [List.set_cons_succ])
  (try simp only [List.set_cons_zero])
  refine wpAnyH_take (i := 32) (oi := ⟨_, _, _, _, _, _⟩) (v := ?_) rfl (by kernel_rfl) (by kernel_rfl) (by kernel_rfl) (fun _ _ _ h => h) (Or.inl ⟨by rfl, ?_⟩) (by assumption) ?_
  rotate_left
  · intro wS hSw
    go_simp; (try with_reducible rfl)
  (try simp only [Act.put])
  (try simp only [List.setIfInBounds_toArray])
  (try simp only [List.set_cons_succ])
  (try simp only [List.set_cons_zero])
  refine wpAnyH_take (i := 33) (oi := ⟨_, _, _, _, _, _⟩) (v := ?_) rfl (by kernel_rfl) (by kernel_rfl) (by kernel_rfl) (fun _ _ _ h => h) (Or.inl ⟨by rfl, ?_⟩) (by assumption) ?_
  rotate_left
  · intro wS hSw
    go_simp; (try with_reducible rfl)
  (try simp only [Act.put])
  (try simp only [List.setIfInBounds_toArray])
  (try simp only [List.set_cons_succ])
  (try simp only [List.set_cons_zero])
  refine wpAnyH_done (by kernel_rfl) ?_ _
  go_wp2
  refine HK.out _ _ ?_
  clear HK
  have H10 := tr_bl hS1 H10
  have H11 := tr_bl hS1 H11
  have s3 := s3.below hS1
  have F6 := tr_bl hS1 F6
  have F7 := tr_bl hS1 F7
  have E3 := tr_bl hS1 E3
  have E4 := tr_bl hS1 E4
  have s1 := s1.below hS1
  have hb := step_b hb hS1
  clear hS1 hS0 hq sq sz
  have q1 := imA_c0 E3
  have q2 := imA_c0 F6
  have q3 := imA_c0 H10
  have q4 : x1.cell? ⟨g3, 10, none⟩ = some (.int .i64 3) := blk_cell E3 10 _ rfl
  have ht : tbEq t1T t1T = true := tbEq_iff.2 rfl
  refine wp_seq_k (fun K hK => ?_)
  have HK := Lib.hid hK
  clear hK
  go_wp2_with (first
      | ((with_reducible refine wpList_ldB 43 _ ?_); refine ⟨rfl, _, ⟨_, _, _, _, _, Try.isAgg43, Try.sizeOf43, rfl, ‹_›, rpA_z⟩, ?_⟩)
      | ((with_reducible refine wpList_ldB 43 _ ?_); refine ⟨rfl, _, ⟨_, _, _, _, _, Try.isAgg43, Try.sizeOf43, rfl, ‹_›, rpA_o⟩, ?_⟩)
      | ((with_reducible refine wpList_ldB 47 _ ?_); refine ⟨rfl, _, ⟨_, _, _, _, _, Try.isAgg47, Try.sizeOf47, rfl, ‹_›, imA_tb _ _ _⟩, ?_⟩))
  refine HK.out _ _ ?_
  clear HK
  have d1 := imA_c1 E3
  have d3 := imA_c1 H10
  clear q1 q2 q3 q4 ht F6 F7 E4 H11
  have hbA := blw x1 (Obj.cells #[.string ⟨#[107]⟩, .string ⟨#[118]⟩] 74)
  have sA : SlP (x1.alloc (Obj.cells #[.string ⟨#[107]⟩, .string ⟨#[118]⟩] 74)) (some ⟨x1.heap.size, 0, none⟩) 1 kvL := slP_blk (l := kvL) (heap_alloc_new x1 _) (by decide)
  go_wp2_with (first
    | (go_at_call 37; (with_reducible refine (same_kv a1 (some ⟨x1.heap.size, 0, none⟩) c1 1 _ (s1.below hbA) sA).mono ?_); rintro e w18 ⟨rfl, hb18⟩; have hbx := step_b hbA hb18; have d1 := imA_c1 (tr_bl hbx E3); have d3 := imA_c1 (tr_bl hbx H10))
    | (go_at_call 37; refine (same_kv a1 a3 _ _ _ (s1.below hbx) (s3.below hbx)).mono ?_; rintro e w19 ⟨rfl, hb19⟩))
  go_ret
  exact ⟨rfl, step_b hb (step_b hbx hb19)⟩
end Go.Proofs.Ytmnjmjbmnhppfaa

namespace Go.Proofs.Ytmnjmjbmnhppfaa
open Go.RowKit

theorem torn_n (x : Int) (L : Nat) (h1 : 1 ≤ L) (h2 : L ≤ 1000000) : ∃ s : Nat, 1 ≤ s ∧ s ≤ L ∧ wrap64 (1 + wrap64 ((IntKind.u64.wrap x).tmod L)) = s := by
  have h0 := wrap_u64_nonneg x
  generalize IntKind.u64.wrap x = y at *
  have e1 : y.tmod L = y % L := Int.tmod_eq_emod_of_nonneg h0
  have e2 := Int.emod_nonneg y (show (L : Int) ≠ 0 by omega)
  have e3 := Int.emod_lt_of_pos y (show (0 : Int) < L by omega)
  rw [e1]
  generalize y % (L : Int) = z at *
  unfold wrap64
  exact ⟨(1 + z).toNat, by omega, by omega, by omega⟩
theorem pairsB_le26 {l : List Pr} (h : ∀ p ∈ l, p.1.size ≤ 8 ∧ p.2.size ≤ 16) : (pairsB l).length ≤ 26 * l.length := by
  induction l with
  | nil => simp [pairsB]
  | cons p l ih =>
    have h0 := h p (by simp)
    have := ih (fun q hq => h q (by simp [hq]))
    simp only [pairsB, List.flatMap_cons, List.length_append, List.length_cons, pairB_len] at this ⊢
    omega
theorem imB_len {m : Im} (h : mayI m = true) : 1 ≤ (imB m).length ∧ (imB m).length ≤ 319 := by
  obtain ⟨_, _, hs, ht⟩ := mayI_parts h
  obtain ⟨h8, _, hk⟩ := may_spec hs
  have h1 : (pairsB m.st).length ≤ 26 * m.st.length := pairsB_le26 (fun p hp => by
    obtain ⟨a, b⟩ := hk p hp
    unfold keyOk at a
    unfold valOk at b
    simp at a b
    omega)
  have h2 := rowsB_le (l := m.tb.list) (fun r hr => (rows_ok ht r hr).2.2.2.2)
  have h3 : m.tb.list.length = 4 := rfl
  simp only [imB, List.length_append, le_len]
  omega
theorem torn_none {m : Im} (h : mayI m = true) {k : Nat} (hk : k < (imB m).length) : parseI ((imB m).take k) = none := by
  cases hp : parseI ((imB m).take k) with
  | none => rfl
  | some n =>
    obtain ⟨h1, h2⟩ := (parse_iff _ _).1 hp
    have := im_prefix h h1 (post := (imB m).drop k) (by rw [h2, List.take_append_drop])
    have := congrArg List.length this
    simp at this
    omega
theorem more_none {m : Im} (h : mayI m = true) (x : UInt8) : parseI (imB m ++ [x]) = none := by
  cases hp : parseI (imB m ++ [x]) with
  | none => rfl
  | some n =>
    obtain ⟨h1, h2⟩ := (parse_iff _ _).1 hp
    have := im_prefix h1 h h2
    cases this
theorem SlB.take {w : World} {a : Option Addr} {cap : Nat} {l : List UInt8} (h : SlB w a cap l) (k : Nat) : SlB w a cap (l.take k) := by
  refine ⟨?_, ?_, h.max, h.nil⟩
  · have := h.row.take k
    have e : bys (l.take k) = (bys l).take k := by simp [bys, List.map_take]
    rw [e]
    exact this
  · have := h.le
    rw [List.length_take]
    omega

theorem print_may (m : Im) (a : Option Addr) (cap : Nat) (l : List UInt8) (hm : mayI m = true) (hl : imB m = l) (w : World) (hs : SlP w a cap m.st) :
    Calls Try.prog 24 #[.agg (imA m.idx (.slice a m.st.length cap) m.tb)] w fun e w' => (∃ ax cx, e = .returned (.tuple #[.slice ax l.length cx, .int .i64 0]) ∧ SlB w' ax cx l) ∧ Below w.heap.size w w' := by
  have h8 := (may_spec (mayI_parts hm).2.2.1).1
  refine (print_any m a cap w hs (by omega)).mono ?_
  rintro e w' ⟨h, hb⟩
  unfold PrintRes at h
  rw [if_pos hm, hl] at h
  obtain ⟨v, rfl, ho⟩ := h
  obtain ⟨ax, cx, rfl, hx⟩ := ho.open
  exact ⟨⟨ax, cx, rfl, hx⟩, hb⟩
theorem print_not (m : Im) (a : Option Addr) (cap : Nat) (hm : mayI m = false) (w : World) (hs : SlP w a cap m.st) (h8 : m.st.length ≤ 1000) :
    Calls Try.prog 24 #[.agg (imA m.idx (.slice a m.st.length cap) m.tb)] w fun e w' => e = .returned (.tuple #[.slice none 0 0, .int .i64 2]) ∧ Below w.heap.size w w' := by
  refine (print_any m a cap w hs h8).mono ?_
  rintro e w' ⟨h, hb⟩
  unfold PrintRes at h
  rw [hm] at h
  exact ⟨h, hb⟩
theorem parse_no (a : Option Addr) (cap n : Nat) (l : List UInt8) (hn : l.length = n) (h0 : parseI l = none) (hl : n ≤ 1000000) (w : World) (hs : SlB w a cap l) :
    Calls Try.prog 26 #[.slice a n cap] w fun e w' => e = .returned (.tuple #[.agg (imA 0 (.slice none 0 0) zeroT), .int .i64 230]) ∧ Below w.heap.size w w' := by
  subst hn
  refine (parse_any a cap l w hs hl).mono ?_
  rintro e w' ⟨h, hb⟩
  unfold ParseRes at h
  rw [h0] at h
  exact ⟨h, hb⟩
theorem parse_yes (a : Option Addr) (cap n : Nat) (l : List UInt8) (m : Im) (hn : l.length = n) (h0 : parseI l = some m) (hl : n ≤ 1000000) (w : World) (hs : SlB w a cap l) :
    Calls Try.prog 26 #[.slice a n cap] w fun e w' => (∃ ax cx, e = .returned (.tuple #[.agg (imA m.idx (.slice ax m.st.length cx) m.tb), .int .i64 0]) ∧ w'.ownsRow w.heap.size 74 2 (.slice ax m.st.length cx) m.st.length (prs m.st)) ∧ Below w.heap.size w w' := by
  subst hn
  refine (parse_any a cap l w hs hl).mono ?_
  rintro e w' ⟨h, hb⟩
  unfold ParseRes at h
  rw [h0] at h
  exact ⟨h, hb⟩
end Go.Proofs.Ytmnjmjbmnhppfaa

namespace Go.Proofs.Ytmnjmjbmnhppfaa
open Go.RowKit

theorem app_own {w : World} {base : Nat} {e : TypeId} {v : Value} {l : List UInt8} {x : UInt8} (h : w.ownsRow base e 1 v (0 + l.length + 1) ([] ++ bys l ++ bys [x])) : w.ownsRow base e 1 v (l ++ [x]).length (bys (l ++ [x])) := by
  rw [Nat.zero_add, List.nil_append, ← bys_app] at h
  rw [List.length_append]
  exact h

set_option maxRecDepth 100000 in
set_option maxHeartbeats 1000000 in
theorem torn_law (m : Im) (a : Option Addr) (cap : Nat) (mis : Int) (x : UInt8) (w : World) (hs : SlP w a cap m.st) :
    Calls Try.prog 12 #[.agg (imA m.idx (.slice a m.st.length cap) m.tb), .int .i64 mis, .int .u8 x.toNat] w fun en w' => en = .returned (.bool true) ∧ Below w.heap.size w w' := by
  have hb0 := blw w (Obj.cells (imA m.idx (.slice a m.st.length cap) m.tb) 49)
  have B3 := heap_alloc_new w (Obj.cells (imA m.idx (.slice a m.st.length cap) m.tb) 49)
  have hs0 := hs.below hb0
  go_enter Try.func12, Try.ntmps12
  refine wp_seq_k (fun K hK => ?_)
  have HK := Lib.hid hK
  clear hK
  go_wp2
  refine HK.out _ _ ?_
  clear HK
  change Code.wp _ _ _ _ (w.alloc (Obj.cells (imA m.idx (.slice a m.st.length cap) m.tb) 49))
  generalize w.alloc (Obj.cells (imA m.idx (.slice a m.st.length cap) m.tb) 49) = w0 at *
  refine wp_seq_k (fun K hK => ?_)
  have HK := Lib.hid hK
  clear hK
  go_wp2_with (go_at_call 51; refine (awake_any _).mono ?_; rintro en wa ⟨rfl, hba⟩)
  refine HK.out _ _ ?_
  clear HK
  have B3 := tr_bl hba B3
  have hs1 := hs0.below hba
  have hb1 := step_b hb0 hba
  clear hs hs0 hb0 hba
  cases hg : greatI m
  case true =>
    have HG := Lib.hid hg
    clear hg
    go_wp2_with (first
      | ((with_reducible refine wpList_ldB 49 _ ?_); refine ⟨rfl, _, ⟨_, _, _, _, _, Try.isAgg49, Try.sizeOf49, rfl, ‹_›, imA_all _ _ _⟩, ?_⟩)
      | (go_at_call 23; refine (greatI_any _ _ _ _ hs1 _ HG.out).mono ?_; rintro en w1 ⟨rfl, hb2⟩))
    go_ret
    exact ⟨rfl, step_b hb1 hb2⟩
  case false =>
    have HG := Lib.hid hg
    have hgs : greatB m.st = false := by
      unfold greatI at hg
      rw [Bool.or_eq_false_iff] at hg
      exact hg.2
    have hl40 := (great_no hgs).1
    clear hg hgs
    cases hm : mayI m
    case false =>
      have HM := Lib.hid hm
      clear hm
      go_wp2_with (first
        | ((with_reducible refine wpList_ldB 49 _ ?_); refine ⟨rfl, _, ⟨_, _, _, _, _, Try.isAgg49, Try.sizeOf49, rfl, ‹_›, imA_all _ _ _⟩, ?_⟩)
        | (go_at_call 23; refine (greatI_any _ _ _ _ hs1 _ HG.out).mono ?_; rintro en w1 ⟨rfl, hb2⟩; have B3 := tr_bl hb2 B3)
        | (go_at_call 49; refine (imay_any _ _ _ _ _ _ (hs1.below hb2).row (by omega) _ HM.out).mono ?_; rintro en w2 ⟨rfl, hb3⟩))
      go_ret
      exact ⟨rfl, step_b (step_b hb1 hb2) hb3⟩
    case true =>
      have HM := Lib.hid hm
      obtain ⟨hL1, hL2⟩ := imB_len hm
      obtain ⟨l, hl⟩ : ∃ l, imB m = l := ⟨_, rfl⟩
      rw [hl] at hL1 hL2
      have HL := Lib.hid hl
      clear hm hl
      refine wp_seq_k (fun K hK => ?_)
      have HK := Lib.hid hK
      clear hK
      go_wp2_with (first
              | ((with_reducible refine wpList_ldB 49 _ ?_); refine ⟨rfl, _, ⟨_, _, _, _, _, Try.isAgg49, Try.sizeOf49, rfl, ‹_›, imA_all _ _ _⟩, ?_⟩)
              | (go_at_call 23; refine (greatI_any _ _ _ _ hs1 _ HG.out).mono ?_; rintro en w1 ⟨rfl, hb2⟩; have B3 := tr_bl hb2 B3)
              | (go_at_call 49; refine (imay_any _ _ _ _ _ _ (hs1.below hb2).row (by omega) _ HM.out).mono ?_; rintro en w2 ⟨rfl, hb3⟩))
      refine HK.out _ _ ?_
      clear HK
      have B3 := tr_bl hb3 B3
      have hs3 := (hs1.below hb2).below hb3
      have hb3 := step_b (step_b hb1 hb2) hb3
      clear hs1 hb1 hb2
      refine wp_seq_k (fun K hK => ?_)
      have HK := Lib.hid hK
      clear hK
      go_wp2_with (first
              | ((with_reducible refine wpList_ldB 49 _ ?_); refine ⟨rfl, _, ⟨_, _, _, _, _, Try.isAgg49, Try.sizeOf49, rfl, ‹_›, imA_all _ _ _⟩, ?_⟩)
              | (go_at_call 24; refine (print_may m _ _ l HM.out HL.out _ hs3).mono ?_; rintro en w4 ⟨⟨ax, cx, rfl, sx⟩, hb4⟩))
      refine HK.out _ _ ?_
      clear HK
      have hb4 := step_b hb3 hb4
      clear hb3 hs3 B3
      refine wp_seq_k (fun K hK => ?_)
      have HK := Lib.hid hK
      clear hK
      go_wp2
      refine HK.out _ _ ?_
      clear HK
      obtain ⟨s, hs1, hs2, hse⟩ := torn_n mis l.length hL1 (by omega)
      have HSE := Lib.hid hse
      clear hse
      refine wp_seq_k (fun K hK => ?_)
      have HK := Lib.hid hK
      clear hK
      go_wp2
      refine HK.out _ _ ?_
      clear HK
      simp only [HSE.out]
      have hk : (l.take (l.length - s)).length = l.length - s := by rw [List.length_take]; omega
      have hno : parseI (l.take (l.length - s)) = none := by rw [← HL.out]; exact torn_none HM.out (by rw [HL.out]; omega)
      have hmo : parseI (l ++ [x]) = none := by rw [← HL.out]; exact more_none HM.out x
      have HNO := Lib.hid hno
      have HMO := Lib.hid hmo
      have HK1 := Lib.hid hk
      clear hno hk hmo
      have hlx := sx.le
      have hmx := sx.max
      unfold maxLen at hmx
      refine wp_seq_k (fun K hK => ?_)
      have HK := Lib.hid hK
      clear hK
      go_wp2_with (first
              | (go_at_call 26; (with_reducible refine (parse_no ax cx (l.length - s) (l.take (l.length - s)) HK1.out HNO.out (by omega) _ (sx.take _)).mono ?_); rintro en w5 ⟨rfl, hb5⟩)
              | ((first | (with_reducible refine wpList_stNew 49 _ _ ?_) | (with_reducible refine wp_stNew 49 _ _ ?_)); refine ⟨_, _, ⟨Try.sizeOf49, rfl, imA_new 0 none 0 0 zeroT⟩, rfl, ?_⟩))
      refine HK.out _ _ ?_
      clear HK
      have sx5 := (sx.below hb5).below (blw w5 (Obj.cells (imA 0 (.slice none 0 0) zeroT) 49))
      have hb5 := step_b (step_b hb4 hb5) (blw w5 (Obj.cells (imA 0 (.slice none 0 0) zeroT) 49))
      generalize w5.alloc (Obj.cells (imA 0 (.slice none 0 0) zeroT) 49) = w7 at *
      clear hb4 sx
      refine wp_seq_k (fun K hK => ?_)
      have HK := Lib.hid hK
      clear hK
      go_wp2_with (first
              | (at_builtin; refine wpList_app_gb rfl _ _ 26 5 elByte rfl w7.heap.size _ 0 [] rfl (owns_empty w7 5 1) ax l.length cx (bys l) rfl (by rw [bys_len]; omega) (by rw [bys_len]; omega) (sx5.below (blw w7 _)).row bys_one (by omega) (by decide) (by simp) ?_; intro v8 w8 ho8 hg8)
              | (at_builtin; refine wpList_app_gb rfl _ _ 26 5 elByte rfl w7.heap.size _ (0 + l.length) ([] ++ bys l) rfl (owns_bl ho8 (blw w8 _)) (some ⟨w8.heap.size, 0, none⟩) 1 1 (bys [x]) rfl rfl (by simp [bys]) (Row.of_block (cs := bys [x]) (heap_alloc_new w8 _) 0 (fun i u hu => by rw [Nat.zero_add]; exact hu)) bys_one (by omega) (by decide) (by have := hg8.size; simp at this ⊢; omega) ?_; intro v9 w9 ho9 hg9)
              | (go_at_call 26; obtain ⟨ay, cy, rfl, sy⟩ := SlB.of_owns (l := l ++ [x]) (app_own ho9); refine (parse_no ay cy (l ++ [x]).length (l ++ [x]) rfl HMO.out (by simp; omega) _ sy).mono ?_; rintro en w10 ⟨rfl, hb10⟩)
              | ((first | (with_reducible refine wpList_stNew 49 _ _ ?_) | (with_reducible refine wp_stNew 49 _ _ ?_)); refine ⟨_, _, ⟨Try.sizeOf49, rfl, imA_new 0 none 0 0 zeroT⟩, rfl, ?_⟩))
      refine HK.out _ _ ?_
      clear HK
      have hb8 : Below w7.heap.size w7 w8 := (blw w7 _).trans (gb_to_below hg8 (by simp) (fun k hk => ((owns_empty w7 5 1).lt k hk).1))
      have hb9 : Below w7.heap.size w7 w9 := (hb8.trans ((blw w8 _).mono hb8.size)).trans (gb_to_below hg9 (by have := hb8.size; simp; omega) (fun k hk => (ho8.lt k hk).1))
      have hb := step_b (step_b hb5 hb9) (hb10.trans ((blw w10 (Obj.cells (imA 0 (.slice none 0 0) zeroT) 49)).mono hb10.size))
      generalize w10.alloc (Obj.cells (imA 0 (.slice none 0 0) zeroT) 49) = w11 at *
      go_wp2
      go_ret
      exact ⟨rfl, hb⟩
end Go.Proofs.Ytmnjmjbmnhppfaa

namespace Go.Proofs.Ytmnjmjbmnhppfaa
open Go.ChangeShapes Go.WideShapes Go.ChangeAt Go.RowKit

theorem cellsU8 : Try.prog.cellsOf 5 = 1 := by kernel_rfl
set_option maxRecDepth 100000 in
theorem open_bytes {H : Type} {enc : TypeId × Value → H} {W : World} {base : Nat} {sp : Nat → Bool} {hd : Bool} {b0 : Nat} {v : Value} {d : DataW H} {p : List MemPlace}
    (hv : Value.okWide Try.prog W .any base 26 v) (h : DataW.Trod enc Try.prog W b0 sp hd 26 v d p) : ∃ (a : Option Addr) (l : List UInt8) (cap : Nat), v = .slice a l.length cap ∧ SlB W a cap l := by
  obtain ⟨a, l, cap, rfl, hr, hl, hc, hw⟩ := open_row_ints Try.underlying26 Try.underlying5 cellsU8 hv h
  have hnil : a = none → cap = 0 := by
    rintro rfl
    obtain ⟨fuel, hf⟩ := h
    rcases open_ints Try.underlying26 Try.underlying5 cellsU8 hf with ⟨hcs, hx⟩ | ⟨a, len', cap', zs, hcs, _⟩
    · simp [Value.cells] at hcs
      exact hcs.2
    · simp [Value.cells] at hcs
  have hb : ∀ n ∈ l, 0 ≤ n ∧ n < 256 := fun n hn => by
    have h1 := hw n hn
    have m0 : IntKind.u8.min = 0 := by decide
    have m1 : IntKind.u8.max = 255 := by decide
    replace h1 : (decide (IntKind.u8.min ≤ n) && decide (n ≤ IntKind.u8.max)) = true := h1
    rw [m0, m1, Bool.and_eq_true, decide_eq_true_eq, decide_eq_true_eq] at h1
    omega
  refine ⟨a, l.map (fun n => UInt8.ofNat n.toNat), cap, by simp, ?_, by simpa using hl, hc, hnil⟩
  have e : bys (l.map (fun n => UInt8.ofNat n.toNat)) = l.map (Value.int .u8) := by
    unfold bys
    rw [List.map_map]
    refine List.map_congr_left fun n hn => ?_
    have := hb n hn
    simp only [Function.comp, byv]
    rw [show ((UInt8.ofNat n.toNat).toNat : Int) = n by rw [UInt8.toNat_ofNat']; omega]
  rw [e]
  exact hr

theorem open_u8 {H : Type} {enc : TypeId × Value → H} {W : World} {sp : Nat → Bool} {hd : Bool} {b0 : Nat} {v : Value} {d : DataW H} {p : List MemPlace} (hv : ∃ x, v = .int .u8 x)
    (h : DataW.Trod enc Try.prog W b0 sp hd 5 v d p) : ∃ x : UInt8, v = .int .u8 x.toNat := by
  obtain ⟨y, rfl⟩ := hv
  obtain ⟨fuel, hf⟩ := h
  obtain ⟨n, q, hw, h1⟩ := DataW.trod_int Try.underlying5 hf
  simp [Value.cells] at q
  subst q
  have m0 : IntKind.u8.min = 0 := by decide
  have m1 : IntKind.u8.max = 255 := by decide
  replace h1 : (decide (IntKind.u8.min ≤ y) && decide (y ≤ IntKind.u8.max)) = true := h1
  rw [m0, m1, Bool.and_eq_true, decide_eq_true_eq, decide_eq_true_eq] at h1
  exact ⟨UInt8.ofNat y.toNat, by rw [show ((UInt8.ofNat y.toNat).toNat : Int) = y by rw [UInt8.toNat_ofNat']; omega]⟩
end Go.Proofs.Ytmnjmjbmnhppfaa

