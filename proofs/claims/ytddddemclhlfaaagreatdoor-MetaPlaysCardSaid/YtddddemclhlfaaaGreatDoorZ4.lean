/- Texts that the claim leans on, part 4: D15, D16a, D16, D17, D18, D19, D20, D21. -/
import Derived.Test.YtddddemclhlfaaaGreatDoorZ1
import Derived.Test.YtddddemclhlfaaaGreatDoorZ2
import Derived.Test.YtddddemclhlfaaaGreatDoorZ3
import Derived.Test.YtddddemclhlfaaaGreatDoorRows
import Derived.WalkKit
import Derived.WalkSpells
import Derived.WalkLawsBesides
import Derived.Handy
import Derived.Deep.QuietTactic
import Derived.BigQuiet
import Derived.Deep.DeepCutAuto
import Derived.Lib.Hide
import Derived.RegionTactic
import Derived.ChangeAlike
import Derived.Laws.ResultCell
import Derived.Outline
import Derived.Great.BuildSlice
import Derived.Great.FillDense
import Derived.Laws.Rows
import Derived.Deep.Quiet
import Derived.Deep.RegionHeld3
import Derived.ProofKit
import Derived.OpenShut
import Derived.Laws.CopyOwn
import Derived.Laws.CopyRow
import Derived.Laws.NewBlocks
import Derived.Deep.RegionLaw
namespace Go.Proofs.YtddddemclhlfaaaGreatDoor
open Go.RowKit
theorem elWrite : ElemT Tryz.prog 100 164 65 72 := ElemT.of (.agg (wtC ([], 0)).toArray) Tryz.underlying100 (by kernel_rfl) (by kernel_rfl) (by decide)
theorem wt_one (x : List UInt8 × Nat) : ∀ u ∈ wtC x, u.oneCell' = true := by
  intro u hu
  unfold wtC at hu
  rcases List.mem_append.1 hu with h | h
  · exact bys_one u h
  · rw [List.mem_singleton.1 h]; rfl
theorem dk_waits (gp : Nat) (wv : Value) (d : Dk) (a : Option Addr) (n c : Nat) : 1 + 1 ≤ (dkA gp wv d).size ∧ (Value.slice a n c).cells.size = 1 ∧ (∀ u ∈ (Value.slice a n c).cells.toList, u.oneCell' = true) ∧ ((dkA gp wv d).toList.take 1 ++ (Value.slice a n c).cells.toList ++ (dkA gp wv d).toList.drop (1 + 1)).toArray = dkA gp (.slice a n c) d :=
  ⟨by show _ ≤ 5; omega, rfl, by simp [Value.cells, Value.oneCell'], rfl⟩
theorem Kt.app {B n : Nat} {w w' : World} {v : Value} {xs : List Value} (h : w.ownsRow B 164 65 v n xs) (hg : w.grownBy w' v.ownBlock) (hB : B ≤ w.heap.size) : Kt B w w' :=
  ⟨gb_to_below hg hB (fun k e => (h.lt k e).1), fun _ _ _ hc _ _ h3 => tr_gb hg hc (own_ne h hc (Ne.symm h3))⟩
theorem DiskB.wrote {B g gp k len : Nat} {wv : Value} {d : Dk} {w w8 w9 : World} {b : List UInt8} {a : Option Addr} {c : Nat} {pl : List Pl} (h : DiskB B g gp wv d w) (_ : d.pl = pl) (hb : b.length = 64) (hk : k < d.pl.length) (ho : w8.ownsRow B 164 65 (.slice a len c) (d.waits.length + 1) (d.waits.flatMap wtC ++ wtC (b, k))) (hg : w.grownBy w8 wv.ownBlock)
    (hB : w9.heap[g]? = some (.cells (dkA gp (.slice a len c) d) 102 (0, 0))) (hg9 : w8.grownBy w9 (some g)) (hz : B ≤ w.heap.size) : DiskB B g gp (.slice a len c) { d with waits := d.waits ++ [(b, k)] } w9 ∧ Kt B w w9 := by
  have b8 := tr_gb hg h.box (own_ne h.wts h.box (by decide))
  have p8 := tr_gb hg h.pls (own_ne h.wts h.pls (by decide))
  have hne : g ≠ gp := by
    rintro rfl
    have := h.box.symm.trans h.pls
    injection this with this
    injection this with _ e
    revert e
    decide
  refine ⟨⟨hB, tr_st hg9 p8 hne, ?_, h.gb, h.pb, h.n0, h.nl, h.lo, h.hi, h.ok, ?_⟩, (Kt.app h.wts hg hz).trans (Kt.st hg9 b8 (.inl rfl) h.gb)⟩
  · have := owns_ne ho hg9 b8 (by decide)
    simp only [List.length_append, List.length_singleton, List.flatMap_append, List.flatMap_cons, List.flatMap_nil, List.append_nil]
    exact this
  · intro x hx
    rcases List.mem_append.1 hx with hx | hx
    · exact h.wk x hx
    · rw [List.mem_singleton.1 hx]; exact ⟨hb, hk⟩
theorem exec_write {a : Act} {w : World} {dst : Option Tmp} {ty' : TypeId} {pos : String} {af : Array Edge} {gd : Option (Nat × Bool)} {x y : Operand} {b : List UInt8} {k : Nat} (h : b.length = 64) (hx : a.eval x = .agg (bys b).toArray) (hy : a.eval y = .int .i64 (k : Int)) :
    (execOp a.eval (Oper.mk dst (.build 164 #[(0, x), (1, y)]) ty' pos af gd)).run Tryz.prog w = .ok (.value (.agg (wtC (b, k)).toArray)) w := by
  have hb := build_write (x := (b, k)) h w
  unfold execOp
  simp [hx, hy, hb]
theorem arr_at (a : Option Addr) (c : Nat) (w : World) : (Instr.arrayAt 148 (.slice a 64 c)).run Tryz.prog w = .ok (.pointer a) w := by
  simp [Instr.arrayAt, run_underlying Tryz.underlying148]
section
variable {B g gp : Nat} {wv : Value} {d : Dk} {w : World}
set_option maxRecDepth 100000 in
set_option maxHeartbeats 1000000 in
theorem write_any (h : DiskB B g gp wv d w) (hb : B ≤ w.heap.size) (s : Int) (ba : Option Addr) (bc : Nat) (b : List UInt8) (hs : ∀ w', Kt B w w' → SlB w' ba bc b) (hw : d.waits.length ≤ 1000000) :
    Calls Tryz.prog 41 #[.pointer (some ⟨g, 0, none⟩), .int .i64 s, .slice ba b.length bc] w fun e w' => e = .returned (.int .i64 (writeD d s b).2) ∧ (∃ wv', DiskB B g gp wv' (writeD d s b).1 w') ∧ Kt B w w' := by
  have hbA := blw w (Obj.cells #[.int .i64 s] 3)
  have hA := h.below hbA
  have hkA := Kt.of hbA hb
  have hq : (w.alloc (Obj.cells #[.int .i64 s] 3)).cell? ⟨w.heap.size, 0, none⟩ = some (.int .i64 s) := blk_cell (heap_alloc_new w _) 0 _ rfl
  have ht := live_1 hA s w.heap.size hq
  by_cases h0 : liveD d s = 0
  case neg =>
    rw [show writeD d s b = (d, liveD d s) by unfold writeD; rw [if_pos h0]]
    have h0b : (liveD d s != 0) = true := by simpa using h0
    go_enter Tryz.func41, Tryz.ntmps41
    go_wp2_with (go_at_call 93; refine ht.mono ?_; rintro e w1 ⟨rfl, rfl⟩)
    go_ret
    exact ⟨rfl, ⟨_, hA⟩, hkA⟩
  case pos =>
    rw [h0] at ht
    have hsr : 0 ≤ s ∧ s < d.pl.length := by
      unfold liveD at h0
      split at h0
      · cases h0
      · unfold thereD at h0
        split at h0
        · cases h0
        · split at h0
          · cases h0
          · omega
    by_cases h64 : b.length = 64
    case neg =>
      rw [show writeD d s b = (d, 2) by unfold writeD; rw [if_neg (by simpa using h0), if_pos h64]]
      have hnb : ((b.length : Int) != 64) = true := by rw [bne_iff_ne]; omega
      go_enter Tryz.func41, Tryz.ntmps41
      go_wp2_with (go_at_call 93; refine ht.mono ?_; rintro e w1 ⟨rfl, rfl⟩)
      go_ret
      exact ⟨rfl, ⟨_, hA⟩, hkA⟩
    case pos =>
      have hsp := spend_any hA
      obtain ⟨⟨d1, e1⟩, hsd⟩ : ∃ x, spendD d = x := ⟨_, rfl⟩
      rw [hsd] at hsp
      have hwr : writeD d s b = if e1 ≠ 0 then (d1, e1) else ({ d1 with waits := d1.waits ++ [(b, s.toNat)] }, 0) := by
        unfold writeD
        rw [if_neg (by simpa using h0), if_neg (by simpa using h64), hsd]
      rw [hwr]
      have hd1 : d1.pl = d.pl ∧ d1.waits = d.waits := by
        unfold spendD at hsd
        split at hsd
        · injection hsd with a _; rw [← a]; exact ⟨rfl, rfl⟩
        · split at hsd
          · injection hsd with a _; rw [← a]; exact ⟨rfl, rfl⟩
          · injection hsd with a _; rw [← a]; exact ⟨rfl, rfl⟩
      have HD1 := Lib.hid hd1
      clear hsd hwr h0 hd1
      by_cases he : e1 = 0
      case neg =>
        rw [if_pos he]
        have heb : (e1 != 0) = true := by simpa using he
        go_enter Tryz.func41, Tryz.ntmps41
        rw [h64]
        go_wp2_with (first
          | (go_at_call 93; refine ht.mono ?_; rintro e w1 ⟨rfl, rfl⟩)
          | (go_at_call 94; refine hsp.mono ?_; rintro e w2 ⟨rfl, hd2, hk2⟩))
        go_ret
        exact ⟨rfl, ⟨_, hd2⟩, hkA.trans hk2⟩
      case pos =>
        subst he
        rw [if_neg (by simp)]
        obtain ⟨k, rfl⟩ : ∃ k : Nat, s = k := ⟨s.toNat, by omega⟩
        simp only [Int.toNat_natCast]
        go_enter Tryz.func41, Tryz.ntmps41
        rw [h64]
        refine wp_seq_k (fun K hK => ?_)
        have HK := Lib.hid hK
        clear hK
        go_wp2
        refine HK.out _ _ ?_
        clear HK
        refine wp_seq_k (fun K hK => ?_)
        have HK := Lib.hid hK
        clear hK
        go_wp2_with (go_at_call 93; refine ht.mono ?_; rintro e w1 ⟨rfl, rfl⟩)
        refine HK.out _ _ ?_
        clear HK
        refine wp_seq_k (fun K hK => ?_)
        have HK := Lib.hid hK
        clear hK
        go_wp2
        refine HK.out _ _ ?_
        clear HK
        refine wp_seq_k (fun K hK => ?_)
        have HK := Lib.hid hK
        clear hK
        go_wp2_with (go_at_call 94; refine hsp.mono ?_; rintro e w2 ⟨rfl, hd2, hk2⟩)
        refine HK.out _ _ ?_
        clear HK
        have hk3 := hkA.trans hk2
        have hsl := hs _ hk3
        clear hs hsp ht hA hkA hk2
        refine wp_seq_k (fun K hK => ?_)
        have HK := Lib.hid hK
        clear hK
        refine wp_region_held_drew (S := fun _ => True) (by kernel_rfl) trivial (fun _ => ?_)
        have hdc := hd2.below (Below.refl w2.heap.size w2).drew
        have hs3 := hsl.below (Below.refl w2.heap.size w2).drew
        have hz2 : B ≤ w2.heap.size := Nat.le_trans hb hk3.bl.size
        have hkc := hk3.trans (Kt.of (Below.refl w2.heap.size w2).drew hz2)
        have hbc : B ≤ w2.drew.heap.size := hz2
        obtain ⟨o1, o2, rfl, hr3⟩ := hs3.row.at (k := 0) (by rw [bys_len]; omega)
        generalize w2.drew = x0 at *
        clear hk3 hsl hs3 hd2 hz2 hb
        refine wpAnyH_take (i := 0) (oi := ⟨_, _, _, _, _, _⟩) (v := ?_) rfl (by kernel_rfl) (by kernel_rfl) (by kernel_rfl) (fun _ _ _ h => h) (Or.inl ⟨by rfl, ?_⟩) (by assumption) ?_
        rotate_left
        · intro wS hSw; go_simp; (try with_reducible rfl)
        (try simp only [Act.put]); (try simp only [List.setIfInBounds_toArray]); (try simp only [List.set_cons_succ]); (try simp only [List.set_cons_zero])
        refine wpAnyH_take (i := 1) (oi := ⟨_, _, _, _, _, _⟩) (v := ?_) rfl (by kernel_rfl) (by kernel_rfl) (by kernel_rfl) (fun _ _ _ h => h) (Or.inl ⟨by rfl, ?_⟩) (by assumption) ?_
        rotate_left
        · intro wS hSw; go_simp; (try with_reducible rfl)
        (try simp only [Act.put]); (try simp only [List.setIfInBounds_toArray]); (try simp only [List.set_cons_succ]); (try simp only [List.set_cons_zero])
        refine wpAnyH_take (i := 2) (oi := ⟨_, _, _, _, _, _⟩) (v := ?_) rfl (by kernel_rfl) (by kernel_rfl) (by kernel_rfl) (fun _ _ _ h => h) (Or.inl ⟨by rfl, ?_⟩) (by assumption) ?_
        rotate_left
        · intro wS hSw; go_simp; (try with_reducible rfl)
        (try simp only [Act.put]); (try simp only [List.setIfInBounds_toArray]); (try simp only [List.set_cons_succ]); (try simp only [List.set_cons_zero])
        refine wpAnyH_take (i := 3) (oi := ⟨_, _, _, _, _, _⟩) (v := ?_) rfl (by kernel_rfl) (by kernel_rfl) (by kernel_rfl) (fun _ _ _ h => h) (Or.inl ⟨by rfl, ?_⟩) (by assumption) ?_
        rotate_left
        · intro wS hSw; go_simp; (try with_reducible rfl)
        (try simp only [Act.put]); (try simp only [List.setIfInBounds_toArray]); (try simp only [List.set_cons_succ]); (try simp only [List.set_cons_zero])
        refine wpAnyH_take (i := 5) (oi := ⟨_, _, _, _, _, _⟩) (v := ?_) rfl (by kernel_rfl) (by kernel_rfl) (by kernel_rfl) (fun _ _ _ h => h) (Or.inl ⟨by rfl, ?_⟩) (by assumption) ?_
        rotate_left
        · intro wS hSw; go_simp; (try with_reducible rfl)
        (try simp only [Act.put]); (try simp only [List.setIfInBounds_toArray]); (try simp only [List.set_cons_succ]); (try simp only [List.set_cons_zero])
        refine wpAnyH_take (i := 6) (oi := ⟨_, _, _, _, _, _⟩) (v := .pointer (some ⟨o1, o2, none⟩)) rfl (by kernel_rfl) (by kernel_rfl) (by kernel_rfl) (fun _ _ _ h => h) (Or.inl ⟨by rfl, fun wS hSw => ?_⟩) (by assumption) ?_
        · go_simp; rw [arr_at]; rfl
        (try simp only [Act.put]); (try simp only [List.setIfInBounds_toArray]); (try simp only [List.set_cons_succ]); (try simp only [List.set_cons_zero])
        refine wpAnyH_take (i := 8) (oi := ⟨_, _, _, _, _, _⟩) (v := ?_) rfl (by kernel_rfl) (by kernel_rfl) (by kernel_rfl) (fun _ _ _ h => h) (Or.inl ⟨by rfl, ?_⟩) (by assumption) ?_
        rotate_left
        · intro wS hSw; go_simp; (try with_reducible rfl)
        (try simp only [Act.put]); (try simp only [List.setIfInBounds_toArray]); (try simp only [List.set_cons_succ]); (try simp only [List.set_cons_zero])
        obtain ⟨wa, wc, rfl, _⟩ := Row.of_owns hdc.wts
        refine wpAnyH_ready (rs := [4, 7]) (by kernel_rfl) (by simp) ?_
        refine AllReadyH.cons (o := ⟨_, _, _, _, _, _⟩) rfl (fun K' hK' => ?_) (AllReadyH.cons (o := ⟨_, _, _, _, _, _⟩) rfl (fun K' hK' => ?_) (AllReadyH.nil))
        · refine (if_pos (by rfl)).mpr ?_
          have c := hdc.c1
          go_simp
          clear c
          refine hK'.out _ _ trivial (fun _ => ?_)
          refine wpAnyH_ready (rs := [7]) (by kernel_rfl) (by simp) ?_
          refine AllReadyH.cons (o := ⟨_, _, _, _, _, _⟩) rfl (fun K' hK' => ?_) (AllReadyH.nil)
          · refine (if_pos (by rfl)).mpr ?_
            refine wp_ldC 148 _ (v := (bys b).toArray) ⟨_, _, _, Tryz.isAgg148, Tryz.sizeOf148, rfl, by rw [List.size_toArray, bys_len]; exact h64, fun j u hu => hr3 j u (by rw [List.getElem?_toArray] at hu; exact hu)⟩ ?_
            refine hK'.out _ _ trivial (fun _ => ?_)
            refine wpAnyH_take (i := 9) (oi := ⟨_, _, _, _, _, _⟩) (v := .agg (wtC (b, k)).toArray) rfl (by kernel_rfl) (by kernel_rfl) (by kernel_rfl) (fun _ _ _ h => h) (Or.inl ⟨by rfl, fun wS hSw => ?_⟩) (by assumption) ?_
            · exact exec_write h64 rfl rfl
            (try simp only [Act.put]); (try simp only [List.setIfInBounds_toArray]); (try simp only [List.set_cons_succ]); (try simp only [List.set_cons_zero])
            refine wpAnyH_ready (rs := [10]) (by kernel_rfl) (by simp) ?_
            refine AllReadyH.cons (o := ⟨_, _, _, _, _, _⟩) rfl (fun K' hK' => ?_) (AllReadyH.nil)
            · refine (if_pos (by rfl)).mpr ?_
              refine wp_build1 _ rfl (wtC (b, k)).toArray (by rw [List.size_toArray, wtC_len]) rfl ?_
              have hnc := heap_alloc_new x0 (Obj.cells (wtC (b, k)).toArray 164)
              have hdc := hdc.below (blw x0 (Obj.cells (wtC (b, k)).toArray 164))
              have hkc := hkc.trans (Kt.of (blw x0 (Obj.cells (wtC (b, k)).toArray 164)) hbc)
              have hbc := Nat.le_trans hbc (blw x0 (Obj.cells (wtC (b, k)).toArray 164)).size
              refine hK'.out _ _ trivial (fun _ => ?_)
              refine wpAnyH_ready (rs := [11]) (by kernel_rfl) (by simp) ?_
              refine AllReadyH.cons (o := ⟨_, _, _, _, _, _⟩) rfl (fun K' hK' => ?_) (AllReadyH.nil)
              refine (if_pos (by rfl)).mpr ?_
              refine wp_appN _ _ 100 100 164 164 elWrite Tryz.underlying100 rfl B _ _ _ rfl hdc.wts ⟨x0.heap.size, 0, none⟩ 1 1 (wtC (b, k)) rfl (wtC_len _) (fun j u hu => ?_) (wt_one _) (by rw [HD1.out.2]; omega) (by decide) hbc ?_
              · rw [addr_add]
                exact blk_cell hnc _ u (by rw [Nat.zero_add, List.getElem?_toArray]; exact hu)
              intro v8 x8 ho8 hg8
              obtain ⟨a8, c8, rfl, _⟩ := Row.of_owns ho8
              refine hK'.out _ _ trivial (fun _ => ?_)
              refine wpAnyH_take (i := 12) (oi := ⟨_, _, _, _, _, _⟩) (v := ?_) rfl (by kernel_rfl) (by kernel_rfl) (by kernel_rfl) (fun _ _ _ h => h) (Or.inl ⟨by rfl, ?_⟩) (by assumption) ?_
              rotate_left
              · intro wS hSw; go_simp; (try with_reducible rfl)
              (try simp only [Act.put]); (try simp only [List.setIfInBounds_toArray]); (try simp only [List.set_cons_succ]); (try simp only [List.set_cons_zero])
              refine wpAnyH_take (i := 13) (oi := ⟨_, _, _, _, _, _⟩) (v := ?_) rfl (by kernel_rfl) (by kernel_rfl) (by kernel_rfl) (fun _ _ _ h => h) (Or.inl ⟨by rfl, ?_⟩) (by assumption) ?_
              rotate_left
              · intro wS hSw; go_simp; (try with_reducible rfl)
              (try simp only [Act.put]); (try simp only [List.setIfInBounds_toArray]); (try simp only [List.set_cons_succ]); (try simp only [List.set_cons_zero])
              refine wpAnyH_ready (rs := [14]) (by kernel_rfl) (by simp) ?_
              refine AllReadyH.cons (o := ⟨_, _, _, _, _, _⟩) rfl (fun K' hK' => ?_) (AllReadyH.nil)
              refine (if_pos (by rfl)).mpr ?_
              have box8 := tr_gb hg8 hdc.box (own_ne hdc.wts hdc.box (by decide))
              refine wp_stB 100 _ _ ?_
              refine ⟨_, _, _, ⟨_, _, _, Tryz.sizeOf100, rfl, box8, dk_waits _ _ _ _ _ _⟩, ?_⟩
              intro x9 B9 g9
              refine hK'.out _ _ trivial (fun _ => ?_)
              refine wpAnyH_done (by kernel_rfl) ?_ _
              refine HK.out _ _ ?_
              clear HK
              go_wp2
              go_ret
              have hfin := hdc.wrote HD1.out.1 h64 (by rw [HD1.out.1]; omega) ho8 hg8 B9 g9 hbc
              exact ⟨rfl, ⟨_, hfin.1⟩, (hkc.trans hfin.2)⟩
        · refine (if_pos (by rfl)).mpr ?_
          refine wp_ldC 148 _ (v := (bys b).toArray) ⟨_, _, _, Tryz.isAgg148, Tryz.sizeOf148, rfl, by rw [List.size_toArray, bys_len]; exact h64, fun j u hu => hr3 j u (by rw [List.getElem?_toArray] at hu; exact hu)⟩ ?_
          refine hK'.out _ _ trivial (fun _ => ?_)
          refine wpAnyH_take (i := 9) (oi := ⟨_, _, _, _, _, _⟩) (v := .agg (wtC (b, k)).toArray) rfl (by kernel_rfl) (by kernel_rfl) (by kernel_rfl) (fun _ _ _ h => h) (Or.inl ⟨by rfl, fun wS hSw => ?_⟩) (by assumption) ?_
          · exact exec_write h64 rfl rfl
          (try simp only [Act.put]); (try simp only [List.setIfInBounds_toArray]); (try simp only [List.set_cons_succ]); (try simp only [List.set_cons_zero])
          refine wpAnyH_ready (rs := [4, 10]) (by kernel_rfl) (by simp) ?_
          refine AllReadyH.cons (o := ⟨_, _, _, _, _, _⟩) rfl (fun K' hK' => ?_) (AllReadyH.cons (o := ⟨_, _, _, _, _, _⟩) rfl (fun K' hK' => ?_) (AllReadyH.nil))
          · refine (if_pos (by rfl)).mpr ?_
            have c := hdc.c1
            go_simp
            clear c
            refine hK'.out _ _ trivial (fun _ => ?_)
            refine wpAnyH_ready (rs := [10]) (by kernel_rfl) (by simp) ?_
            refine AllReadyH.cons (o := ⟨_, _, _, _, _, _⟩) rfl (fun K' hK' => ?_) (AllReadyH.nil)
            · refine (if_pos (by rfl)).mpr ?_
              refine wp_build1 _ rfl (wtC (b, k)).toArray (by rw [List.size_toArray, wtC_len]) rfl ?_
              have hnc := heap_alloc_new x0 (Obj.cells (wtC (b, k)).toArray 164)
              have hdc := hdc.below (blw x0 (Obj.cells (wtC (b, k)).toArray 164))
              have hkc := hkc.trans (Kt.of (blw x0 (Obj.cells (wtC (b, k)).toArray 164)) hbc)
              have hbc := Nat.le_trans hbc (blw x0 (Obj.cells (wtC (b, k)).toArray 164)).size
              refine hK'.out _ _ trivial (fun _ => ?_)
              refine wpAnyH_ready (rs := [11]) (by kernel_rfl) (by simp) ?_
              refine AllReadyH.cons (o := ⟨_, _, _, _, _, _⟩) rfl (fun K' hK' => ?_) (AllReadyH.nil)
              refine (if_pos (by rfl)).mpr ?_
              refine wp_appN _ _ 100 100 164 164 elWrite Tryz.underlying100 rfl B _ _ _ rfl hdc.wts ⟨x0.heap.size, 0, none⟩ 1 1 (wtC (b, k)) rfl (wtC_len _) (fun j u hu => ?_) (wt_one _) (by rw [HD1.out.2]; omega) (by decide) hbc ?_
              · rw [addr_add]
                exact blk_cell hnc _ u (by rw [Nat.zero_add, List.getElem?_toArray]; exact hu)
              intro v8 x8 ho8 hg8
              obtain ⟨a8, c8, rfl, _⟩ := Row.of_owns ho8
              refine hK'.out _ _ trivial (fun _ => ?_)
              refine wpAnyH_take (i := 12) (oi := ⟨_, _, _, _, _, _⟩) (v := ?_) rfl (by kernel_rfl) (by kernel_rfl) (by kernel_rfl) (fun _ _ _ h => h) (Or.inl ⟨by rfl, ?_⟩) (by assumption) ?_
              rotate_left
              · intro wS hSw; go_simp; (try with_reducible rfl)
              (try simp only [Act.put]); (try simp only [List.setIfInBounds_toArray]); (try simp only [List.set_cons_succ]); (try simp only [List.set_cons_zero])
              refine wpAnyH_take (i := 13) (oi := ⟨_, _, _, _, _, _⟩) (v := ?_) rfl (by kernel_rfl) (by kernel_rfl) (by kernel_rfl) (fun _ _ _ h => h) (Or.inl ⟨by rfl, ?_⟩) (by assumption) ?_
              rotate_left
              · intro wS hSw; go_simp; (try with_reducible rfl)
              (try simp only [Act.put]); (try simp only [List.setIfInBounds_toArray]); (try simp only [List.set_cons_succ]); (try simp only [List.set_cons_zero])
              refine wpAnyH_ready (rs := [14]) (by kernel_rfl) (by simp) ?_
              refine AllReadyH.cons (o := ⟨_, _, _, _, _, _⟩) rfl (fun K' hK' => ?_) (AllReadyH.nil)
              refine (if_pos (by rfl)).mpr ?_
              have box8 := tr_gb hg8 hdc.box (own_ne hdc.wts hdc.box (by decide))
              refine wp_stB 100 _ _ ?_
              refine ⟨_, _, _, ⟨_, _, _, Tryz.sizeOf100, rfl, box8, dk_waits _ _ _ _ _ _⟩, ?_⟩
              intro x9 B9 g9
              refine hK'.out _ _ trivial (fun _ => ?_)
              refine wpAnyH_done (by kernel_rfl) ?_ _
              refine HK.out _ _ ?_
              clear HK
              go_wp2
              go_ret
              have hfin := hdc.wrote HD1.out.1 h64 (by rw [HD1.out.1]; omega) ho8 hg8 B9 g9 hbc
              exact ⟨rfl, ⟨_, hfin.1⟩, (hkc.trans hfin.2)⟩
          · refine (if_pos (by rfl)).mpr ?_
            refine wp_build1 _ rfl (wtC (b, k)).toArray (by rw [List.size_toArray, wtC_len]) rfl ?_
            have hnc := heap_alloc_new x0 (Obj.cells (wtC (b, k)).toArray 164)
            have hdc := hdc.below (blw x0 (Obj.cells (wtC (b, k)).toArray 164))
            have hkc := hkc.trans (Kt.of (blw x0 (Obj.cells (wtC (b, k)).toArray 164)) hbc)
            have hbc := Nat.le_trans hbc (blw x0 (Obj.cells (wtC (b, k)).toArray 164)).size
            refine hK'.out _ _ trivial (fun _ => ?_)
            refine wpAnyH_ready (rs := [4]) (by kernel_rfl) (by simp) ?_
            refine AllReadyH.cons (o := ⟨_, _, _, _, _, _⟩) rfl (fun K' hK' => ?_) (AllReadyH.nil)
            · refine (if_pos (by rfl)).mpr ?_
              have c := hdc.c1
              go_simp
              clear c
              refine hK'.out _ _ trivial (fun _ => ?_)
              refine wpAnyH_ready (rs := [11]) (by kernel_rfl) (by simp) ?_
              refine AllReadyH.cons (o := ⟨_, _, _, _, _, _⟩) rfl (fun K' hK' => ?_) (AllReadyH.nil)
              refine (if_pos (by rfl)).mpr ?_
              refine wp_appN _ _ 100 100 164 164 elWrite Tryz.underlying100 rfl B _ _ _ rfl hdc.wts ⟨x0.heap.size, 0, none⟩ 1 1 (wtC (b, k)) rfl (wtC_len _) (fun j u hu => ?_) (wt_one _) (by rw [HD1.out.2]; omega) (by decide) hbc ?_
              · rw [addr_add]
                exact blk_cell hnc _ u (by rw [Nat.zero_add, List.getElem?_toArray]; exact hu)
              intro v8 x8 ho8 hg8
              obtain ⟨a8, c8, rfl, _⟩ := Row.of_owns ho8
              refine hK'.out _ _ trivial (fun _ => ?_)
              refine wpAnyH_take (i := 12) (oi := ⟨_, _, _, _, _, _⟩) (v := ?_) rfl (by kernel_rfl) (by kernel_rfl) (by kernel_rfl) (fun _ _ _ h => h) (Or.inl ⟨by rfl, ?_⟩) (by assumption) ?_
              rotate_left
              · intro wS hSw; go_simp; (try with_reducible rfl)
              (try simp only [Act.put]); (try simp only [List.setIfInBounds_toArray]); (try simp only [List.set_cons_succ]); (try simp only [List.set_cons_zero])
              refine wpAnyH_take (i := 13) (oi := ⟨_, _, _, _, _, _⟩) (v := ?_) rfl (by kernel_rfl) (by kernel_rfl) (by kernel_rfl) (fun _ _ _ h => h) (Or.inl ⟨by rfl, ?_⟩) (by assumption) ?_
              rotate_left
              · intro wS hSw; go_simp; (try with_reducible rfl)
              (try simp only [Act.put]); (try simp only [List.setIfInBounds_toArray]); (try simp only [List.set_cons_succ]); (try simp only [List.set_cons_zero])
              refine wpAnyH_ready (rs := [14]) (by kernel_rfl) (by simp) ?_
              refine AllReadyH.cons (o := ⟨_, _, _, _, _, _⟩) rfl (fun K' hK' => ?_) (AllReadyH.nil)
              refine (if_pos (by rfl)).mpr ?_
              have box8 := tr_gb hg8 hdc.box (own_ne hdc.wts hdc.box (by decide))
              refine wp_stB 100 _ _ ?_
              refine ⟨_, _, _, ⟨_, _, _, Tryz.sizeOf100, rfl, box8, dk_waits _ _ _ _ _ _⟩, ?_⟩
              intro x9 B9 g9
              refine hK'.out _ _ trivial (fun _ => ?_)
              refine wpAnyH_done (by kernel_rfl) ?_ _
              refine HK.out _ _ ?_
              clear HK
              go_wp2
              go_ret
              have hfin := hdc.wrote HD1.out.1 h64 (by rw [HD1.out.1]; omega) ho8 hg8 B9 g9 hbc
              exact ⟨rfl, ⟨_, hfin.1⟩, (hkc.trans hfin.2)⟩
end
end Go.Proofs.YtddddemclhlfaaaGreatDoor
namespace Go.Proofs.YtddddemclhlfaaaGreatDoor
open Go.RowKit Go
theorem fill_at {place : Nat → Option (Nat × Nat)} {cells : Array Value} {v : Value} {i s : Nat} (hs : 0 < s) (h0 : place i = some (i * s, s)) (hv : v.cells.size = s) (hc : (i + 1) * s ≤ cells.size) (rest : List (Nat × Value)) :
    ∃ r : Array Value, Instr.fill place cells ((i, v) :: rest) = Instr.fill place r rest ∧ r.size = cells.size ∧ ∀ k, r[k]? = if i * s ≤ k ∧ k < (i + 1) * s then v.cells[k % s]? else cells[k]? := by
  obtain ⟨r, hr, hsz, hk⟩ := Great.fill_dense hs [v] i cells (by intro x hx; rw [List.mem_singleton.1 hx]; exact hv) (by simpa using hc)
  refine ⟨r, ?_, hsz, fun k => ?_⟩
  · have hr' : Instr.fill (fun i => some (i * s, s)) cells [(i, v)] = some r := hr
    simp only [Instr.fill] at hr'
    simp only [Instr.fill, h0]
    by_cases hb : v.cells.size ≠ s ∨ i * s + v.cells.size > cells.size
    · rw [if_pos (by simpa using hb)] at hr'
      cases hr'
    · rw [if_neg (by simpa using hb)] at hr' ⊢
      injection hr' with hr'
      rw [hr']
  · rw [hk k]
    by_cases h : i * s ≤ k ∧ k < (i + 1) * s
    · rw [if_pos h, if_pos (by simpa using h)]
      have : k / s = i := by
        apply Nat.div_eq_of_lt_le
        · exact h.1
        · exact h.2
      simp [this]
    · rw [if_neg h, if_neg (by simpa using h)]
theorem fill_place {place : Nat → Option (Nat × Nat)} {cells : Array Value} {b : List UInt8} (h0 : place 0 = some (0 * 64, 64)) (h1 : place 1 = some (1 * 64, 64)) (hb : b.length = 64) (hc : cells.size = 129) (hz : cells[128]? = some (.bool false)) :
    Instr.fill place cells [(0, .agg (bys b).toArray), (1, .agg (bys b).toArray)] = some (plC ⟨b, b, false⟩).toArray := by
  have hbl : (bys b).length = 64 := by rw [bys_len]; exact hb
  have hsz : (Value.agg (bys b).toArray).cells.size = 64 := by show (bys b).toArray.size = 64; rw [List.size_toArray]; exact hbl
  obtain ⟨r, hr, hs, hk⟩ := fill_at (cells := cells) (by decide) h0 hsz (by omega) [(1, Value.agg (bys b).toArray)]
  obtain ⟨r2, hr2, hs2, hk2⟩ := fill_at (cells := r) (by decide) h1 hsz (by omega) []
  rw [hr, hr2]
  simp only [Instr.fill]
  congr 1
  apply Array.ext_getElem?
  intro k
  have er : ((plC ⟨b, b, false⟩).toArray)[k]? = (plC ⟨b, b, false⟩)[k]? := by simp
  rw [er, hk2 k, hk k]
  unfold plC
  simp only
  rw [fix64_of hb]
  have hag : ∀ j : Nat, (Value.agg (bys b).toArray).cells[j]? = (bys b)[j]? := fun j => by show (bys b).toArray[j]? = _; simp
  rcases (show k < 64 ∨ (64 ≤ k ∧ k < 128) ∨ k = 128 ∨ 128 < k by omega) with h | h | h | h
  · rw [if_neg (by omega), if_pos (by omega), hag, Nat.mod_eq_of_lt h, List.getElem?_append_left (by omega)]
  · rw [if_pos (by omega), hag, show k % 64 = k - 64 by omega, List.getElem?_append_right (by omega), hbl, List.getElem?_append_left (by omega)]
  · subst h
    rw [if_neg (by omega), if_neg (by omega), hz, List.getElem?_append_right (by omega), hbl, List.getElem?_append_right (by omega), hbl]
    rfl
  · rw [if_neg (by omega), if_neg (by omega), Array.getElem?_eq_none (by omega), List.getElem?_eq_none (by simp [hbl]; omega)]
theorem build_place {b : List UInt8} (hb : b.length = 64) (w : World) : (Instr.build 150 #[(0, .agg (bys b).toArray), (1, .agg (bys b).toArray)]).run Tryz.prog w = .ok (.agg (plC ⟨b, b, false⟩).toArray) w := by
  have hz : ∃ z, (zeroValue 150).run Tryz.prog w = .ok z w ∧ z.cells.size = 129 ∧ z.cells[128]? = some (.bool false) := ⟨_, Tryz.zeroValue150 w, by kernel_rfl, by kernel_rfl⟩
  obtain ⟨z, hz, hzs, hzf⟩ := hz
  simp only [Instr.build, Sem.run_bind, hz, Result.andThen_ok, run_underlying Tryz.underlying150]
  have hm : ∀ w, (Array.mapM (fun (f : Field) => do let n ← sizeOf f.type; pure (f.offset, n)) #[{ name := "rest", type := 148, offset := 0, embedded := false, tag := "", pkgPath := "sexton/disk", byteOffset := 0 }, { name := "meant", type := 148, offset := 64, embedded := false, tag := "", pkgPath := "sexton/disk", byteOffset := 64 }, { name := "lost", type := 4, offset := 128, embedded := false, tag := "", pkgPath := "sexton/disk", byteOffset := 128 }]).run Tryz.prog w = .ok #[(0, 64), (64, 64), (128, 1)] w := fun _ => by kernel_rfl
  rw [hm]
  simp only [Result.andThen_ok]
  rw [fill_place rfl rfl hb hzs hzf]
  rfl
theorem pls_whole {l : List Pl} {s : Nat} {p p' : Pl} (h : l[s]? = some p) : s * 129 + 129 ≤ (plsV l).size ∧ (Value.agg (plC p').toArray).cells.size = 129 ∧ (∀ u ∈ (Value.agg (plC p').toArray).cells.toList, u.oneCell' = true) ∧ ((plsV l).toList.take (s * 129) ++ (Value.agg (plC p').toArray).cells.toList ++ (plsV l).toList.drop (s * 129 + 129)).toArray = plsV (l.set s p') := by
  have hsz : (Value.agg (plC p').toArray).cells.size = 129 := by show (plC p').toArray.size = 129; rw [List.size_toArray, plC_len]
  have hone : ∀ u ∈ (Value.agg (plC p').toArray).cells.toList, u.oneCell' = true := by
    intro u hu
    have hu2 : u ∈ plC p' := hu
    unfold plC at hu2
    rcases List.mem_append.1 hu2 with h1 | h1
    · exact bys_one u h1
    · rcases List.mem_append.1 h1 with h1 | h1
      · exact bys_one u h1
      · rw [List.mem_singleton.1 h1]; rfl
  have hv : (plC p).take 0 ++ (Value.agg (plC p').toArray).cells.toList ++ (plC p).drop (0 + 129) = plC p' := by
    rw [List.drop_of_length_le (by rw [plC_len]; omega), List.take_zero, List.nil_append, List.append_nil]
    rfl
  have := pls_part (r := 0) (n := 129) h hsz (by omega) hone hv
  simpa using this
theorem wt_rest {x : List UInt8 × Nat} (hx : x.1.length = 64) : 0 + 64 ≤ (wtC x).toArray.size ∧ (wtC x).toArray.extract 0 (0 + 64) = (bys x.1).toArray := by
  have hbl : (bys x.1).length = 64 := by rw [bys_len]; exact hx
  refine ⟨by rw [List.size_toArray, wtC_len]; omega, ?_⟩
  apply Array.toList_inj.1
  rw [Array.toList_extract]
  show List.take (0 + 64 - 0) (List.drop 0 (wtC x)) = bys x.1
  unfold wtC
  rw [fix64_of hx, List.drop_zero, show 0 + 64 - 0 = (bys x.1).length by omega, List.take_left]
end Go.Proofs.YtddddemclhlfaaaGreatDoor
namespace Go.Proofs.YtddddemclhlfaaaGreatDoor
open Go.RowKit
theorem flush1_any (k : Int) (w : World) : Calls Tryz.prog 123 #[.int .i64 k] w fun e w' => e = .returned (.bool true) ∧ w = w' := by
  go_enter Tryz.func123, Tryz.ntmps123
  go_wp2
  go_ret
  exact ⟨rfl, rfl⟩
theorem wt_new (x : List UInt8 × Nat) : (Value.agg (wtC x).toArray).cells = (wtC x).toArray ∧ (wtC x).toArray.size = 65 ∧ ∀ u ∈ (wtC x).toArray.toList, u.oneCell' = true := ⟨rfl, by rw [List.size_toArray, wtC_len], wt_one x⟩
theorem dkA_c0 {w : World} {g gp : Nat} {wv : Value} {d : Dk} {T : TypeId} (h : w.heap[g]? = some (.cells (dkA gp wv d) T (0, 0))) : w.cell? ⟨g, 0, none⟩ = some (.slice (some ⟨gp, 0, none⟩) d.pl.length d.pl.length) := blk_cell h 0 _ rfl
theorem wt_c64 {w : World} {q : Nat} {x : List UInt8 × Nat} {T : TypeId} (h : w.heap[q]? = some (.cells (wtC x).toArray T (0, 0))) : w.cell? ⟨q, 64, none⟩ = some (.int .i64 (x.2 : Int)) := blk_cell h 64 _ (by simp [wt_sec])
theorem exec_place {a : Act} {w : World} {dst : Option Tmp} {ty' : TypeId} {pos : String} {af : Array Edge} {gd : Option (Nat × Bool)} {x y : Operand} {b : List UInt8} (h : b.length = 64) (hx : a.eval x = .agg (bys b).toArray) (hy : a.eval y = .agg (bys b).toArray) :
    (execOp a.eval (Oper.mk dst (.build 150 #[(0, x), (1, y)]) ty' pos af gd)).run Tryz.prog w = .ok (.value (.agg (plC ⟨b, b, false⟩).toArray)) w := by
  have hb := build_place h w
  unfold execOp
  simp [hx, hy, hb]
theorem thru_step {pl : List Pl} {x : List UInt8 × Nat} {l : List (List UInt8 × Nat)} {k : Nat} {is : Nat → Bool} (h : is k = true) : thruD pl (x :: l) k is = thruD (pl.set x.2 ⟨x.1, x.1, false⟩) l (k + 1) is := by
  obtain ⟨b, s⟩ := x
  simp only [thruD]
  rw [if_pos h]
section
variable {B g gp : Nat} {wv : Value} {d : Dk} {w : World}
set_option maxRecDepth 100000 in
set_option maxHeartbeats 1000000 in
theorem through_all (h : DiskB B g gp wv d w) (hb : B ≤ w.heap.size) : Calls Tryz.prog 122 #[.pointer (some ⟨g, 0, none⟩), .func (.func 123) #[] #[]] w fun e w' => e = .returned (.tuple #[]) ∧ DiskB B g gp (.slice none 0 0) { d with pl := thruD d.pl d.waits 0 (fun _ => true), waits := [] } w' ∧ Kt B w w' := by
  obtain ⟨wa, wc, rfl, _, hwl, hwm⟩ := Row.of_owns h.wts
  unfold maxLen at hwm
  have c1 := h.c1
  obtain ⟨R, hR⟩ : ∃ R, thruD d.pl d.waits 0 (fun _ => true) = R := ⟨_, rfl⟩
  rw [hR]
  have HR := Lib.hid hR
  clear hR
  go_enter Tryz.func122, Tryz.ntmps122
  refine wp_seq_k (fun K hK => ?_)
  have HK := Lib.hid hK
  clear hK
  go_wp2_with fail
  go_loopw [11, 4, 5] (fun i _ _ wr => ∃ (j : Nat) (pl : List Pl), j ≤ d.waits.length ∧ i = .int .i64 (j : Nat) ∧ Hid (pl.length = d.pl.length) ∧ DiskB B g gp (.slice wa d.waits.length wc) { d with pl := pl } wr ∧ Kt B w wr ∧ Hid (thruD pl (d.waits.drop j) j (fun _ => true) = R)) (fun i _ _ _ => d.waits.length - (intOf i).toNat)
  case atStart => exact ⟨0, d.pl, by omega, rfl, Lib.hid rfl, h, Kt.refl _ _, HR⟩
  case round =>
    obtain ⟨j, pl, hj, rfl, hpl, hd, hk, hth⟩ := hrel
    by_cases hlt : j < d.waits.length
    case neg =>
      have hRpl : R = pl := by
        have h := hth.out
        rw [List.drop_of_length_le (by omega)] at h
        exact h.symm
      have HRP := Lib.hid hRpl
      have hB := hd.box
      clear hRpl hth
      go_wp2
      refine HK.out _ _ ?_
      clear HK
      go_wp2_with ((first | (with_reducible refine wpList_stB 100 _ _ ?_) | (with_reducible refine wp_stB 100 _ _ ?_)); refine ⟨_, _, _, ⟨_, _, _, Tryz.sizeOf100, rfl, ‹_›, dk_waits _ _ _ none 0 0⟩, ?_⟩; intro w5 B5 g5)
      go_end0
      have b8 := tr_st g5 hd.pls (by rintro rfl; have := hd.box.symm.trans hd.pls; injection this with this; injection this with _ e; revert e; decide)
      refine ⟨rfl, ?_, hk.trans (Kt.st g5 hd.box (.inl rfl) hd.gb)⟩
      rw [HRP.out]
      exact ⟨B5, b8, World.ownsRow_nil _ _ _ _, hd.gb, hd.pb, hd.n0, hd.nl, hd.lo, hd.hi, hd.ok, fun _ hx => by cases hx⟩
    case pos =>
      have hat : d.waits[j]? = some d.waits[j] := List.getElem?_eq_getElem hlt
      have hxk := hd.wk _ (List.getElem_mem hlt)
      have hdr := List.drop_eq_getElem_cons hlt
      generalize d.waits[j] = x at *
      have hrow := Row.of_owns hd.wts
      obtain ⟨wa', wc', hv, hwr, _⟩ := hrow
      injection hv with e1 e2 e3
      subst e1 e3
      obtain ⟨b, off, rfl, hbl, hc0, hcs⟩ := hwr.flat0 wtC_len (by decide) hat
      have hbq : B ≤ wr.heap.size := Nat.le_trans hb hk.bl.size
      have HDR := Lib.hid hdr
      clear hdr hat hwr e2
      have hx2 : x.2 < pl.length := hxk.2
      have hx3 : (x.2 : Int) < pl.length := by omega
      have hpx : pl[x.2]? = some pl[x.2] := List.getElem?_eq_getElem hx2
      generalize pl[x.2] = px at *
      go_wp2_with (first
        | ((with_reducible refine wpList_ldC 164 _ ?_); refine ⟨rfl, _, ⟨_, _, _, Tryz.isAgg164, Tryz.sizeOf164, rfl, (show (wtC x).toArray.size = 65 by rw [List.size_toArray, wtC_len]), fun j u hu => hcs j u (by simpa using hu)⟩, ?_⟩)
        | ((first | (with_reducible refine wpList_stNew 164 _ _ ?_) | (with_reducible refine wp_stNew 164 _ _ ?_)); refine ⟨_, _, ⟨Tryz.sizeOf164, rfl, wt_new x⟩, rfl, ?_⟩)
        | (go_at_call 123; refine (flush1_any _ _).mono ?_; rintro e w5 ⟨rfl, rfl⟩))
      have hbX := blw wr (Obj.cells (wtC x).toArray 164)
      have hdX := hd.below hbX
      have hkX := hk.trans (Kt.of hbX hbq)
      have hqX := heap_alloc_new wr (Obj.cells (wtC x).toArray 164)
      clear hd hk hcs hc0 hbl hbq hbX
      generalize wr.alloc (Obj.cells (wtC x).toArray 164) = wq at *
      obtain ⟨q, hq⟩ : ∃ q, wr.heap.size = q := ⟨_, rfl⟩
      simp only [hq] at hqX ⊢
      clear hq
      have hdD := hdX.below (Below.refl wq.heap.size wq).drew
      have hqD := tr_bl (Below.refl wq.heap.size wq).drew hqX
      have hkD := hkX.trans (Kt.of (Below.refl wq.heap.size wq).drew (Nat.le_trans hb hkX.bl.size))
      have hne1 : gp ≠ g := by rintro rfl; have := hdD.box.symm.trans hdD.pls; injection this with this; injection this with _ e; revert e; decide
      have hne2 : gp ≠ q := by rintro rfl; have := hqD.symm.trans hdD.pls; injection this with this; injection this with _ e; revert e; decide
      refine wp_region_held_drew (S := fun w' => w'.heap[g]? = some (.cells (dkA gp (.slice (some ⟨b, off, none⟩) d.waits.length wc) { d with pl := pl }) 102 (0, 0)) ∧ w'.heap[q]? = some (.cells (wtC x).toArray 164 (0, 0))) (by kernel_rfl) ⟨hdD.box, hqD⟩ (fun hS0 => ?_)
      generalize wq.drew = x0 at *
      clear hdX hkX hqX
      refine wpAnyH_take (i := 0) (oi := ⟨_, _, _, _, _, _⟩) (v := ?_) rfl (by kernel_rfl) (by kernel_rfl) (by kernel_rfl) (fun _ _ _ h => h) (Or.inl ⟨by rfl, ?_⟩) (by assumption) ?_
      rotate_left
      · intro wS hSw; go_simp; (try with_reducible rfl)
      (try simp only [Act.put]); (try simp only [List.setIfInBounds_toArray]); (try simp only [List.set_cons_succ]); (try simp only [List.set_cons_zero])
      refine wpAnyH_take (i := 1) (oi := ⟨_, _, _, _, _, _⟩) (v := ?_) rfl (by kernel_rfl) (by kernel_rfl) (by kernel_rfl) (fun _ _ _ h => h) (Or.inl ⟨by rfl, ?_⟩) (by assumption) ?_
      rotate_left
      · intro wS hSw; go_simp; (try with_reducible rfl)
      (try simp only [Act.put]); (try simp only [List.setIfInBounds_toArray]); (try simp only [List.set_cons_succ]); (try simp only [List.set_cons_zero])
      refine wpAnyH_take (i := 2) (oi := ⟨_, _, _, _, _, _⟩) (v := ?_) rfl (by kernel_rfl) (by kernel_rfl) (by kernel_rfl) (fun _ _ _ h => h) (Or.inl ⟨by rfl, ?_⟩) (by assumption) ?_
      rotate_left
      · intro wS hSw; go_simp; (try with_reducible rfl)
      (try simp only [Act.put]); (try simp only [List.setIfInBounds_toArray]); (try simp only [List.set_cons_succ]); (try simp only [List.set_cons_zero])
      refine wpAnyH_take (i := 3) (oi := ⟨_, _, _, _, _, _⟩) (v := ?_) rfl (by kernel_rfl) (by kernel_rfl) (by kernel_rfl) (fun _ _ _ h => h) (Or.inl ⟨by rfl, ?_⟩) (by assumption) ?_
      rotate_left
      · intro wS hSw
        have c := dkA_c0 hSw.1; go_simp; (try with_reducible rfl)
      (try simp only [Act.put]); (try simp only [List.setIfInBounds_toArray]); (try simp only [List.set_cons_succ]); (try simp only [List.set_cons_zero])
      refine wpAnyH_take (i := 4) (oi := ⟨_, _, _, _, _, _⟩) (v := ?_) rfl (by kernel_rfl) (by kernel_rfl) (by kernel_rfl) (fun _ _ _ h => h) (Or.inl ⟨by rfl, ?_⟩) (by assumption) ?_
      rotate_left
      · intro wS hSw; go_simp; (try with_reducible rfl)
      (try simp only [Act.put]); (try simp only [List.setIfInBounds_toArray]); (try simp only [List.set_cons_succ]); (try simp only [List.set_cons_zero])
      refine wpAnyH_take (i := 5) (oi := ⟨_, _, _, _, _, _⟩) (v := ?_) rfl (by kernel_rfl) (by kernel_rfl) (by kernel_rfl) (fun _ _ _ h => h) (Or.inl ⟨by rfl, ?_⟩) (by assumption) ?_
      rotate_left
      · intro wS hSw
        have c := wt_c64 hSw.2; go_simp; (try with_reducible rfl)
      (try simp only [Act.put]); (try simp only [List.setIfInBounds_toArray]); (try simp only [List.set_cons_succ]); (try simp only [List.set_cons_zero])
      refine wpAnyH_take (i := 6) (oi := ⟨_, _, _, _, _, _⟩) (v := ?_) rfl (by kernel_rfl) (by kernel_rfl) (by kernel_rfl) (fun _ _ _ h => h) (Or.inl ⟨by rfl, ?_⟩) (by assumption) ?_
      rotate_left
      · intro wS hSw; go_simp; (try with_reducible rfl)
      (try simp only [Act.put]); (try simp only [List.setIfInBounds_toArray]); (try simp only [List.set_cons_succ]); (try simp only [List.set_cons_zero])
      refine wpAnyH_take (i := 7) (oi := ⟨_, _, _, _, _, _⟩) (v := .agg ((bys x.1).toArray)) rfl (by kernel_rfl) (by kernel_rfl) (by kernel_rfl) (fun _ _ _ h => h) (Or.inl ⟨by rfl, fun wS hSw => ?_⟩) (by assumption) ?_
      · exact exec_ldB 148 _ ⟨_, _, _, _, _, Tryz.isAgg148, Tryz.sizeOf148, rfl, hSw.2, wt_rest hxk.1⟩
      (try simp only [Act.put]); (try simp only [List.setIfInBounds_toArray]); (try simp only [List.set_cons_succ]); (try simp only [List.set_cons_zero])
      refine wpAnyH_take (i := 8) (oi := ⟨_, _, _, _, _, _⟩) (v := ?_) rfl (by kernel_rfl) (by kernel_rfl) (by kernel_rfl) (fun _ _ _ h => h) (Or.inl ⟨by rfl, ?_⟩) (by assumption) ?_
      rotate_left
      · intro wS hSw; go_simp; (try with_reducible rfl)
      (try simp only [Act.put]); (try simp only [List.setIfInBounds_toArray]); (try simp only [List.set_cons_succ]); (try simp only [List.set_cons_zero])
      refine wpAnyH_take (i := 9) (oi := ⟨_, _, _, _, _, _⟩) (v := .agg ((bys x.1).toArray)) rfl (by kernel_rfl) (by kernel_rfl) (by kernel_rfl) (fun _ _ _ h => h) (Or.inl ⟨by rfl, fun wS hSw => ?_⟩) (by assumption) ?_
      · exact exec_ldB 148 _ ⟨_, _, _, _, _, Tryz.isAgg148, Tryz.sizeOf148, rfl, hSw.2, wt_rest hxk.1⟩
      (try simp only [Act.put]); (try simp only [List.setIfInBounds_toArray]); (try simp only [List.set_cons_succ]); (try simp only [List.set_cons_zero])
      refine wpAnyH_take (i := 10) (oi := ⟨_, _, _, _, _, _⟩) (v := .agg (plC ⟨x.1, x.1, false⟩).toArray) rfl (by kernel_rfl) (by kernel_rfl) (by kernel_rfl) (fun _ _ _ h => h) (Or.inl ⟨by rfl, fun wS hSw => ?_⟩) (by assumption) ?_
      · exact exec_place hxk.1 rfl rfl
      (try simp only [Act.put]); (try simp only [List.setIfInBounds_toArray]); (try simp only [List.set_cons_succ]); (try simp only [List.set_cons_zero])
      refine wpAnyH_take (i := 11) (oi := ⟨_, _, _, _, _, _⟩) (v := ?_) rfl (by kernel_rfl) (by kernel_rfl) (by kernel_rfl) (fun _ _ _ h => h) (Or.inl ⟨by rfl, ?_⟩) (by assumption) ?_
      rotate_left
      · intro wS hSw; go_simp; (try with_reducible rfl)
      (try simp only [Act.put]); (try simp only [List.setIfInBounds_toArray]); (try simp only [List.set_cons_succ]); (try simp only [List.set_cons_zero])
      refine wpAnyH_ready (rs := [12]) (by kernel_rfl) (by simp) ?_
      refine AllReadyH.cons (o := ⟨_, _, _, _, _, _⟩) rfl (fun K' hK' => ?_) (AllReadyH.nil)
      refine (if_pos (by rfl)).mpr ?_
      refine wp_stB 150 _ _ ?_
      refine ⟨_, _, _, ⟨_, _, _, Tryz.sizeOf150, rfl, hdD.pls, pls_whole hpx⟩, ?_⟩
      intro w6 B6 g6
      have hfin := hdD.sect B6 g6 ⟨hxk.1, hxk.1⟩
      refine hK'.out _ _ ⟨tr_st g6 hS0.1 hne1, tr_st g6 hS0.2 hne2⟩ (fun _ => ?_)
      refine wpAnyH_done (by kernel_rfl) ?_ _
      go_wp2
      go_roundw
      case rel => exact ⟨j + 1, _, by omega, by go_num, Lib.hid (by rw [List.length_set]; exact hpl.out), hfin.1, hkD.trans hfin.2, Lib.hid (by have h := hth.out; rw [HDR.out, thru_step rfl] at h; exact h)⟩
      case measure => simp [intOf]; omega
end
end Go.Proofs.YtddddemclhlfaaaGreatDoor
namespace Go.Proofs.YtddddemclhlfaaaGreatDoor
open Go.RowKit
section
variable {B g gp : Nat} {wv : Value} {d : Dk} {w : World}
set_option maxRecDepth 100000 in
theorem flush_any (h : DiskB B g gp wv d w) (hb : B ≤ w.heap.size) : Calls Tryz.prog 80 #[.pointer (some ⟨g, 0, none⟩)] w fun e w' => e = .returned (.int .i64 (flushD d).2) ∧ (∃ wv', DiskB B g gp wv' (flushD d).1 w') ∧ Kt B w w' := by
  have hlv := live_no h
  have hsp := spend_any h
  obtain ⟨r, hr⟩ : ∃ r, live0 d = r := ⟨_, rfl⟩
  rw [hr] at hlv
  by_cases h0 : r = 0
  case neg =>
    rw [show flushD d = (d, r) by unfold flushD; rw [hr, if_pos h0]]
    have h0b : (r != 0) = true := by simpa using h0
    go_enter Tryz.func80, Tryz.ntmps80
    go_wp2_with (go_at_call 93; refine hlv.mono ?_; rintro e w1 ⟨rfl, rfl⟩)
    go_ret
    exact ⟨rfl, ⟨_, h⟩, Kt.refl _ _⟩
  case pos =>
    subst h0
    obtain ⟨⟨d1, e1⟩, hsd⟩ : ∃ x, spendD d = x := ⟨_, rfl⟩
    rw [hsd] at hsp
    have hfl : flushD d = if e1 ≠ 0 then (d1, e1) else ({ d1 with pl := thruD d1.pl d1.waits 0 (fun _ => true), waits := [] }, 0) := by
      unfold flushD
      rw [hr, if_neg (by simp), hsd]
    rw [hfl]
    clear hfl hsd hr
    by_cases he : e1 = 0
    case neg =>
      rw [if_pos he]
      have heb : (e1 != 0) = true := by simpa using he
      go_enter Tryz.func80, Tryz.ntmps80
      go_wp2_with (first
        | (go_at_call 93; refine hlv.mono ?_; rintro e w1 ⟨rfl, rfl⟩)
        | (go_at_call 94; refine hsp.mono ?_; rintro e w2 ⟨rfl, hd2, hk2⟩))
      go_ret
      exact ⟨rfl, ⟨_, hd2⟩, hk2⟩
    case pos =>
      subst he
      rw [if_neg (by simp)]
      go_enter Tryz.func80, Tryz.ntmps80
      go_wp2_with (first
        | (go_at_call 93; refine hlv.mono ?_; rintro e w1 ⟨rfl, rfl⟩)
        | (go_at_call 94; refine hsp.mono ?_; rintro e w2 ⟨rfl, hd2, hk2⟩)
        | (go_at_call 122; refine (through_all hd2 (Nat.le_trans hb hk2.bl.size)).mono ?_; rintro e w3 ⟨rfl, hd3, hk3⟩))
      go_ret
      exact ⟨rfl, ⟨_, hd3⟩, hk2.trans hk3⟩
end
end Go.Proofs.YtddddemclhlfaaaGreatDoor
namespace Go.Proofs.YtddddemclhlfaaaGreatDoor
open Go.RowKit
theorem thru_skip {pl : List Pl} {x : List UInt8 × Nat} {l : List (List UInt8 × Nat)} {k : Nat} {is : Nat → Bool} (h : is k = false) : thruD pl (x :: l) k is = thruD pl l (k + 1) is := by
  obtain ⟨b, s⟩ := x
  simp only [thruD]
  rw [h]
  rfl
set_option maxRecDepth 100000 in
theorem crash1_any (k : Nat) (qk : Nat) (ka : Option Addr) (kc : Nat) (keep : List Bool) (w : World) (hq : w.cell? ⟨qk, 0, none⟩ = some (.slice ka keep.length kc)) (hr : Row w ka (keep.map Value.bool)) :
    Calls Tryz.prog 124 #[.int .i64 (k : Int), .pointer (some ⟨qk, 0, none⟩)] w fun e w' => e = .returned (.bool (keepB keep k)) ∧ w = w' := by
  by_cases h : k < keep.length
  · obtain ⟨b, off, rfl, hc⟩ := hr.at (k := k) (by simpa using h)
    have hck := hc k (.bool keep[k]) (by simp [h])
    have hv : keepB keep k = keep[k] := by simp [keepB, List.getD, h]
    rw [hv]
    generalize keep[k] = z at *
    clear hc hr hv
    have hI : (k : Int) < keep.length := by omega
    go_enter Tryz.func124, Tryz.ntmps124
    go_wp2
    go_ret
    exact ⟨rfl, rfl⟩
  · have hv : keepB keep k = false := by simp [keepB, List.getD, h]
    rw [hv]
    clear hv
    have hI : ¬ (k : Int) < keep.length := by omega
    go_enter Tryz.func124, Tryz.ntmps124
    go_wp2
    go_ret
    exact ⟨rfl, rfl⟩
section
variable {B g gp : Nat} {wv : Value} {d : Dk} {w : World}
set_option maxRecDepth 100000 in
set_option maxHeartbeats 1000000 in
theorem through_keep (h : DiskB B g gp wv d w) (hb : B ≤ w.heap.size) (qk : Nat) (ka : Option Addr) (kc : Nat) (keep : List Bool) (hqk : w.heap[qk]? = some (.cells #[.slice ka keep.length kc] 35 (0, 0))) (hkr : ∀ w', Kt B w w' → Row w' ka (keep.map Value.bool)) : Calls Tryz.prog 122 #[.pointer (some ⟨g, 0, none⟩), .func (.func 124) #[] #[.pointer (some ⟨qk, 0, none⟩)]] w fun e w' => e = .returned (.tuple #[]) ∧ DiskB B g gp (.slice none 0 0) { d with pl := thruD d.pl d.waits 0 (keepB keep), waits := [] } w' ∧ Kt B w w' := by
  obtain ⟨wa, wc, rfl, _, hwl, hwm⟩ := Row.of_owns h.wts
  unfold maxLen at hwm
  have c1 := h.c1
  obtain ⟨R, hR⟩ : ∃ R, thruD d.pl d.waits 0 (keepB keep) = R := ⟨_, rfl⟩
  rw [hR]
  have HR := Lib.hid hR
  clear hR
  go_enter Tryz.func122, Tryz.ntmps122
  refine wp_seq_k (fun K hK => ?_)
  have HK := Lib.hid hK
  clear hK
  go_wp2_with fail
  go_loopw [11, 4, 5] (fun i _ _ wr => ∃ (j : Nat) (pl : List Pl), j ≤ d.waits.length ∧ i = .int .i64 (j : Nat) ∧ Hid (pl.length = d.pl.length) ∧ DiskB B g gp (.slice wa d.waits.length wc) { d with pl := pl } wr ∧ Kt B w wr ∧ Hid (thruD pl (d.waits.drop j) j (keepB keep) = R)) (fun i _ _ _ => d.waits.length - (intOf i).toNat)
  case atStart => exact ⟨0, d.pl, by omega, rfl, Lib.hid rfl, h, Kt.refl _ _, HR⟩
  case round =>
    obtain ⟨j, pl, hj, rfl, hpl, hd, hk, hth⟩ := hrel
    by_cases hlt : j < d.waits.length
    case neg =>
      have hRpl : R = pl := by
        have h := hth.out
        rw [List.drop_of_length_le (by omega)] at h
        exact h.symm
      have HRP := Lib.hid hRpl
      have hB := hd.box
      clear hRpl hth
      go_wp2
      refine HK.out _ _ ?_
      clear HK
      go_wp2_with ((first | (with_reducible refine wpList_stB 100 _ _ ?_) | (with_reducible refine wp_stB 100 _ _ ?_)); refine ⟨_, _, _, ⟨_, _, _, Tryz.sizeOf100, rfl, ‹_›, dk_waits _ _ _ none 0 0⟩, ?_⟩; intro w5 B5 g5)
      go_end0
      have b8 := tr_st g5 hd.pls (by rintro rfl; have := hd.box.symm.trans hd.pls; injection this with this; injection this with _ e; revert e; decide)
      refine ⟨rfl, ?_, hk.trans (Kt.st g5 hd.box (.inl rfl) hd.gb)⟩
      rw [HRP.out]
      exact ⟨B5, b8, World.ownsRow_nil _ _ _ _, hd.gb, hd.pb, hd.n0, hd.nl, hd.lo, hd.hi, hd.ok, fun _ hx => by cases hx⟩
    case pos =>
      have hat : d.waits[j]? = some d.waits[j] := List.getElem?_eq_getElem hlt
      have hxk := hd.wk _ (List.getElem_mem hlt)
      have hdr := List.drop_eq_getElem_cons hlt
      generalize d.waits[j] = x at *
      have hrow := Row.of_owns hd.wts
      obtain ⟨wa', wc', hv, hwr, _⟩ := hrow
      injection hv with e1 e2 e3
      subst e1 e3
      obtain ⟨b, off, rfl, hbl, hc0, hcs⟩ := hwr.flat0 wtC_len (by decide) hat
      have hbq : B ≤ wr.heap.size := Nat.le_trans hb hk.bl.size
      have HDR := Lib.hid hdr
      clear hdr hat hwr e2
      have hx2 : x.2 < pl.length := hxk.2
      have hx3 : (x.2 : Int) < pl.length := by omega
      have hpx : pl[x.2]? = some pl[x.2] := List.getElem?_eq_getElem hx2
      generalize pl[x.2] = px at *
      have hbX := blw wr (Obj.cells (wtC x).toArray 164)
      have hdX := hd.below hbX
      have hkX := hk.trans (Kt.of hbX hbq)
      have hqX := heap_alloc_new wr (Obj.cells (wtC x).toArray 164)
      have hqq : (wr.alloc (Obj.cells (wtC x).toArray 164)).cell? ⟨qk, 0, none⟩ = some (.slice ka keep.length kc) := blk_cell (hkX.ty _ _ _ hqk (by decide) (by decide) (by decide)) 0 _ rfl
      have hcr := crash1_any j qk ka kc keep (wr.alloc (Obj.cells (wtC x).toArray 164)) hqq (hkr _ hkX)
      obtain ⟨z, hz⟩ : ∃ z, keepB keep j = z := ⟨_, rfl⟩
      rw [hz] at hcr
      have HZ := Lib.hid hz
      clear hz hqq
      go_wp2_with (first
        | ((with_reducible refine wpList_ldC 164 _ ?_); refine ⟨rfl, _, ⟨_, _, _, Tryz.isAgg164, Tryz.sizeOf164, rfl, (show (wtC x).toArray.size = 65 by rw [List.size_toArray, wtC_len]), fun j u hu => hcs j u (by simpa using hu)⟩, ?_⟩)
        | ((first | (with_reducible refine wpList_stNew 164 _ _ ?_) | (with_reducible refine wp_stNew 164 _ _ ?_)); refine ⟨_, _, ⟨Tryz.sizeOf164, rfl, wt_new x⟩, rfl, ?_⟩)
        | (go_at_call 124; refine hcr.mono ?_; rintro e w5 ⟨rfl, rfl⟩; cases z))
      case roundEnd =>
        go_roundw
        case rel => exact ⟨j + 1, pl, by omega, by go_num, hpl, hdX, hkX, Lib.hid (by have h := hth.out; rw [HDR.out, thru_skip HZ.out] at h; exact h)⟩
        case measure => simp [intOf]; omega
      clear hd hk hcs hc0 hbl hbq hbX hcr
      generalize wr.alloc (Obj.cells (wtC x).toArray 164) = wq at *
      obtain ⟨q, hq⟩ : ∃ q, wr.heap.size = q := ⟨_, rfl⟩
      simp only [hq] at hqX ⊢
      clear hq
      have hdD := hdX.below (Below.refl wq.heap.size wq).drew
      have hqD := tr_bl (Below.refl wq.heap.size wq).drew hqX
      have hkD := hkX.trans (Kt.of (Below.refl wq.heap.size wq).drew (Nat.le_trans hb hkX.bl.size))
      have hne1 : gp ≠ g := by rintro rfl; have := hdD.box.symm.trans hdD.pls; injection this with this; injection this with _ e; revert e; decide
      have hne2 : gp ≠ q := by rintro rfl; have := hqD.symm.trans hdD.pls; injection this with this; injection this with _ e; revert e; decide
      refine wp_region_held_drew (S := fun w' => w'.heap[g]? = some (.cells (dkA gp (.slice (some ⟨b, off, none⟩) d.waits.length wc) { d with pl := pl }) 102 (0, 0)) ∧ w'.heap[q]? = some (.cells (wtC x).toArray 164 (0, 0))) (by kernel_rfl) ⟨hdD.box, hqD⟩ (fun hS0 => ?_)
      generalize wq.drew = x0 at *
      clear hdX hkX hqX
      refine wpAnyH_take (i := 0) (oi := ⟨_, _, _, _, _, _⟩) (v := ?_) rfl (by kernel_rfl) (by kernel_rfl) (by kernel_rfl) (fun _ _ _ h => h) (Or.inl ⟨by rfl, ?_⟩) (by assumption) ?_
      rotate_left
      · intro wS hSw; go_simp; (try with_reducible rfl)
      (try simp only [Act.put]); (try simp only [List.setIfInBounds_toArray]); (try simp only [List.set_cons_succ]); (try simp only [List.set_cons_zero])
      refine wpAnyH_take (i := 1) (oi := ⟨_, _, _, _, _, _⟩) (v := ?_) rfl (by kernel_rfl) (by kernel_rfl) (by kernel_rfl) (fun _ _ _ h => h) (Or.inl ⟨by rfl, ?_⟩) (by assumption) ?_
      rotate_left
      · intro wS hSw; go_simp; (try with_reducible rfl)
      (try simp only [Act.put]); (try simp only [List.setIfInBounds_toArray]); (try simp only [List.set_cons_succ]); (try simp only [List.set_cons_zero])
      refine wpAnyH_take (i := 2) (oi := ⟨_, _, _, _, _, _⟩) (v := ?_) rfl (by kernel_rfl) (by kernel_rfl) (by kernel_rfl) (fun _ _ _ h => h) (Or.inl ⟨by rfl, ?_⟩) (by assumption) ?_
      rotate_left
      · intro wS hSw; go_simp; (try with_reducible rfl)
      (try simp only [Act.put]); (try simp only [List.setIfInBounds_toArray]); (try simp only [List.set_cons_succ]); (try simp only [List.set_cons_zero])
      refine wpAnyH_take (i := 3) (oi := ⟨_, _, _, _, _, _⟩) (v := ?_) rfl (by kernel_rfl) (by kernel_rfl) (by kernel_rfl) (fun _ _ _ h => h) (Or.inl ⟨by rfl, ?_⟩) (by assumption) ?_
      rotate_left
      · intro wS hSw
        have c := dkA_c0 hSw.1; go_simp; (try with_reducible rfl)
      (try simp only [Act.put]); (try simp only [List.setIfInBounds_toArray]); (try simp only [List.set_cons_succ]); (try simp only [List.set_cons_zero])
      refine wpAnyH_take (i := 4) (oi := ⟨_, _, _, _, _, _⟩) (v := ?_) rfl (by kernel_rfl) (by kernel_rfl) (by kernel_rfl) (fun _ _ _ h => h) (Or.inl ⟨by rfl, ?_⟩) (by assumption) ?_
      rotate_left
      · intro wS hSw; go_simp; (try with_reducible rfl)
      (try simp only [Act.put]); (try simp only [List.setIfInBounds_toArray]); (try simp only [List.set_cons_succ]); (try simp only [List.set_cons_zero])
      refine wpAnyH_take (i := 5) (oi := ⟨_, _, _, _, _, _⟩) (v := ?_) rfl (by kernel_rfl) (by kernel_rfl) (by kernel_rfl) (fun _ _ _ h => h) (Or.inl ⟨by rfl, ?_⟩) (by assumption) ?_
      rotate_left
      · intro wS hSw
        have c := wt_c64 hSw.2; go_simp; (try with_reducible rfl)
      (try simp only [Act.put]); (try simp only [List.setIfInBounds_toArray]); (try simp only [List.set_cons_succ]); (try simp only [List.set_cons_zero])
      refine wpAnyH_take (i := 6) (oi := ⟨_, _, _, _, _, _⟩) (v := ?_) rfl (by kernel_rfl) (by kernel_rfl) (by kernel_rfl) (fun _ _ _ h => h) (Or.inl ⟨by rfl, ?_⟩) (by assumption) ?_
      rotate_left
      · intro wS hSw; go_simp; (try with_reducible rfl)
      (try simp only [Act.put]); (try simp only [List.setIfInBounds_toArray]); (try simp only [List.set_cons_succ]); (try simp only [List.set_cons_zero])
      refine wpAnyH_take (i := 7) (oi := ⟨_, _, _, _, _, _⟩) (v := .agg ((bys x.1).toArray)) rfl (by kernel_rfl) (by kernel_rfl) (by kernel_rfl) (fun _ _ _ h => h) (Or.inl ⟨by rfl, fun wS hSw => ?_⟩) (by assumption) ?_
      · exact exec_ldB 148 _ ⟨_, _, _, _, _, Tryz.isAgg148, Tryz.sizeOf148, rfl, hSw.2, wt_rest hxk.1⟩
      (try simp only [Act.put]); (try simp only [List.setIfInBounds_toArray]); (try simp only [List.set_cons_succ]); (try simp only [List.set_cons_zero])
      refine wpAnyH_take (i := 8) (oi := ⟨_, _, _, _, _, _⟩) (v := ?_) rfl (by kernel_rfl) (by kernel_rfl) (by kernel_rfl) (fun _ _ _ h => h) (Or.inl ⟨by rfl, ?_⟩) (by assumption) ?_
      rotate_left
      · intro wS hSw; go_simp; (try with_reducible rfl)
      (try simp only [Act.put]); (try simp only [List.setIfInBounds_toArray]); (try simp only [List.set_cons_succ]); (try simp only [List.set_cons_zero])
      refine wpAnyH_take (i := 9) (oi := ⟨_, _, _, _, _, _⟩) (v := .agg ((bys x.1).toArray)) rfl (by kernel_rfl) (by kernel_rfl) (by kernel_rfl) (fun _ _ _ h => h) (Or.inl ⟨by rfl, fun wS hSw => ?_⟩) (by assumption) ?_
      · exact exec_ldB 148 _ ⟨_, _, _, _, _, Tryz.isAgg148, Tryz.sizeOf148, rfl, hSw.2, wt_rest hxk.1⟩
      (try simp only [Act.put]); (try simp only [List.setIfInBounds_toArray]); (try simp only [List.set_cons_succ]); (try simp only [List.set_cons_zero])
      refine wpAnyH_take (i := 10) (oi := ⟨_, _, _, _, _, _⟩) (v := .agg (plC ⟨x.1, x.1, false⟩).toArray) rfl (by kernel_rfl) (by kernel_rfl) (by kernel_rfl) (fun _ _ _ h => h) (Or.inl ⟨by rfl, fun wS hSw => ?_⟩) (by assumption) ?_
      · exact exec_place hxk.1 rfl rfl
      (try simp only [Act.put]); (try simp only [List.setIfInBounds_toArray]); (try simp only [List.set_cons_succ]); (try simp only [List.set_cons_zero])
      refine wpAnyH_take (i := 11) (oi := ⟨_, _, _, _, _, _⟩) (v := ?_) rfl (by kernel_rfl) (by kernel_rfl) (by kernel_rfl) (fun _ _ _ h => h) (Or.inl ⟨by rfl, ?_⟩) (by assumption) ?_
      rotate_left
      · intro wS hSw; go_simp; (try with_reducible rfl)
      (try simp only [Act.put]); (try simp only [List.setIfInBounds_toArray]); (try simp only [List.set_cons_succ]); (try simp only [List.set_cons_zero])
      refine wpAnyH_ready (rs := [12]) (by kernel_rfl) (by simp) ?_
      refine AllReadyH.cons (o := ⟨_, _, _, _, _, _⟩) rfl (fun K' hK' => ?_) (AllReadyH.nil)
      refine (if_pos (by rfl)).mpr ?_
      refine wp_stB 150 _ _ ?_
      refine ⟨_, _, _, ⟨_, _, _, Tryz.sizeOf150, rfl, hdD.pls, pls_whole hpx⟩, ?_⟩
      intro w6 B6 g6
      have hfin := hdD.sect B6 g6 ⟨hxk.1, hxk.1⟩
      refine hK'.out _ _ ⟨tr_st g6 hS0.1 hne1, tr_st g6 hS0.2 hne2⟩ (fun _ => ?_)
      refine wpAnyH_done (by kernel_rfl) ?_ _
      go_wp2
      go_roundw
      case rel => exact ⟨j + 1, _, by omega, by go_num, Lib.hid (by rw [List.length_set]; exact hpl.out), hfin.1, hkD.trans hfin.2, Lib.hid (by have h := hth.out; rw [HDR.out, thru_step HZ.out] at h; exact h)⟩
      case measure => simp [intOf]; omega
end
end Go.Proofs.YtddddemclhlfaaaGreatDoor
namespace Go.Proofs.YtddddemclhlfaaaGreatDoor
open Go.RowKit
section
variable {B g gp : Nat} {wv : Value} {d : Dk} {w : World}
set_option maxRecDepth 100000 in
theorem crash_any (h : DiskB B g gp wv d w) (hb : B ≤ w.heap.size) (ka : Option Addr) (kc : Nat) (keep : List Bool) (hkr : ∀ w', Kt B w w' → Row w' ka (keep.map Value.bool)) : Calls Tryz.prog 81 #[.pointer (some ⟨g, 0, none⟩), .slice ka keep.length kc] w fun e w' => e = .returned (.int .i64 (crashD d keep).2) ∧ (∃ wv', DiskB B g gp wv' (crashD d keep).1 w') ∧ Kt B w w' := by
  have hn := h.n0
  have h0 : (0 : Int) < d.pl.length := by omega
  have hz := decide_eq_true h0
  have hbX := blw w (Obj.cells #[.slice ka keep.length kc] 35)
  have hdX := h.below hbX
  have hkX : Kt B w (w.alloc (Obj.cells #[.slice ka keep.length kc] 35)) := Kt.of hbX hb
  have hqX := heap_alloc_new w (Obj.cells #[.slice ka keep.length kc] 35)
  have c2 := hdX.c2
  have ht := there_no hdX
  have hth := through_keep hdX (Nat.le_trans hb hkX.bl.size) w.heap.size ka kc keep hqX (fun w' hk' => hkr w' (hkX.trans hk'))
  cases hdn : d.down
  case true =>
    rw [hdn] at c2
    rw [show crashD d keep = (d, 5) by unfold crashD; rw [if_pos ⟨by omega, hdn⟩]]
    go_enter Tryz.func81, Tryz.ntmps81
    go_wp2_with (go_at_call 46; refine (dsize hdX).mono ?_; rintro e w1 ⟨rfl, rfl⟩)
    go_ret
    exact ⟨rfl, ⟨_, hdX⟩, hkX⟩
  case false =>
    rw [hdn] at c2
    rw [show crashD d keep = ({ d with pl := thruD d.pl d.waits 0 (keepB keep), waits := [], down := true }, 0) by unfold crashD there0; rw [if_neg (by rw [hdn]; simp), if_neg (show ¬ d.pl.length = 0 by omega), if_neg (by simp)]]
    go_enter Tryz.func81, Tryz.ntmps81
    go_wp2_with (first
      | (go_at_call 46; refine (dsize hdX).mono ?_; rintro e w1 ⟨rfl, rfl⟩)
      | (go_at_call 77; refine ht.mono ?_; rintro e w1 ⟨rfl, rfl⟩)
      | (go_at_call 122; refine hth.mono ?_; rintro e w3 ⟨rfl, hd3, hk3⟩; have hB3 := hd3.box)
      | ((first | (with_reducible refine wpList_stB 4 _ _ ?_) | (with_reducible refine wp_stB 4 _ _ ?_)); refine ⟨_, _, _, ⟨_, _, _, Tryz.sizeOf4, rfl, ‹_›, dk_down _ _ _ true⟩, ?_⟩; intro w5 B5 g5; have D5 := hd3.turn B5 g5 rfl rfl h.lo h.hi))
    go_ret
    exact ⟨rfl, ⟨_, D5.1⟩, (hkX.trans hk3).trans D5.2⟩
end
end Go.Proofs.YtddddemclhlfaaaGreatDoor
namespace Go.Proofs.YtddddemclhlfaaaGreatDoor
open Go.RowKit
def RestRes (base : Nat) (r : List UInt8 × Bool × Int) (e : Ending) (w' : World) : Prop :=
  if r.2.2 = 0 ∧ r.2.1 = false then ∃ a c, e = .returned (.tuple #[.slice a 64 c, .bool false, .int .i64 0]) ∧ w'.ownsRow base 5 1 (.slice a 64 c) 64 (bys r.1) else e = .returned (.tuple #[.slice none 0 0, .bool r.2.1, .int .i64 r.2.2])
section
variable {B g gp : Nat} {wv : Value} {d : Dk} {w : World}
theorem there_in {d : Dk} {s : Int} (h0 : thereD d s = 0) : 0 ≤ s ∧ s < d.pl.length := by
  unfold thereD at h0
  split at h0
  · cases h0
  · split at h0
    · cases h0
    · omega
set_option maxRecDepth 100000 in
theorem rest_any (h : DiskB B g gp wv d w) (s : Int) : Calls Tryz.prog 34 #[.pointer (some ⟨g, 0, none⟩), .int .i64 s] w fun e w' => RestRes w.heap.size (restD d s) e w' ∧ Below w.heap.size w w' := by
  have hbA := blw w (Obj.cells #[.int .i64 s] 3)
  have hA := h.below hbA
  have hq : (w.alloc (Obj.cells #[.int .i64 s] 3)).cell? ⟨w.heap.size, 0, none⟩ = some (.int .i64 s) := blk_cell (heap_alloc_new w _) 0 _ rfl
  have ht := there_1 hA s w.heap.size hq
  have c0 := hA.c0
  have hP := hA.pls
  have hwA : w.heap.size ≤ (w.alloc (Obj.cells #[.int .i64 s] 3)).heap.size := hbA.size
  unfold restD
  by_cases h0 : thereD d s = 0
  · rw [if_neg (by simpa using h0)]
    rw [h0] at ht
    have hsr := there_in h0
    clear h0 hq
    obtain ⟨k, rfl⟩ : ∃ k : Nat, s = k := ⟨s.toNat, by omega⟩
    have hk2 : k < d.pl.length := by omega
    have hpk : d.pl[k]? = some d.pl[k] := List.getElem?_eq_getElem hk2
    simp only [Int.toNat_natCast]
    rw [show d.pl.getD k zeroPl = d.pl[k] by rw [List.getD_eq_getElem?_getD, hpk]; rfl]
    have hok := h.ok _ (List.getElem_mem hk2)
    generalize d.pl[k] = p at *
    have cl : (w.alloc (Obj.cells #[.int .i64 (k : Int)] 3)).cell? ⟨gp, k * 129 + 128, none⟩ = some (.bool p.lost) := blk_cell hP _ _ (pls_at hpk (pl_lostAt p))
    cases hlo : p.lost
    case true =>
      rw [hlo] at cl
      rw [if_pos rfl]
      go_enter Tryz.func34, Tryz.ntmps34
      go_wp2_with (go_at_call 77; refine ht.mono ?_; rintro e w1 ⟨rfl, rfl⟩)
      go_ret3
      exact ⟨by unfold RestRes; rw [if_neg (by simp)]; rfl, hbA⟩
    case false =>
      rw [hlo] at cl
      rw [if_neg (by simp)]
      go_enter Tryz.func34, Tryz.ntmps34
      go_wp2_with (first
        | (go_at_call 77; refine ht.mono ?_; rintro e w1 ⟨rfl, rfl⟩)
        | ((with_reducible refine wpList_ldB 148 _ ?_); refine ⟨rfl, _, ⟨_, _, _, _, _, Tryz.isAgg148, Tryz.sizeOf148, rfl, ‹_›, pl_rest hpk hok.1⟩, ?_⟩)
        | (go_at_call 78; refine (own_any _ hok.1 _).mono ?_; rintro e w5 ⟨⟨a5, c5, rfl, ho5⟩, hb5⟩))
      go_ret3
      exact ⟨by unfold RestRes; rw [if_pos ⟨rfl, rfl⟩]; exact ⟨a5, c5, rfl, owns_mono ho5 hwA⟩, hbA.trans (hb5.mono hwA)⟩
  · rw [if_pos (by simpa using h0)]
    have h0b : (thereD d s != 0) = true := by simpa using h0
    go_enter Tryz.func34, Tryz.ntmps34
    go_wp2_with (go_at_call 77; refine ht.mono ?_; rintro e w1 ⟨rfl, rfl⟩)
    go_ret3
    exact ⟨by unfold RestRes; rw [if_neg (fun hh => h0 hh.1)]; rfl, hbA⟩
end
end Go.Proofs.YtddddemclhlfaaaGreatDoor
namespace Go.Proofs.YtddddemclhlfaaaGreatDoor
open Go.RowKit
theorem pl_bit (p : Pl) (hp : p.rest.length = 64) (i : Nat) (hi : i < 64) (v : UInt8) : (plC p).take i ++ bys [v] ++ (plC p).drop (i + 1) = plC { p with rest := p.rest.set i v } := by
  have h64 : (bys p.rest).length = 64 := by rw [bys_len]; exact hp
  have hb : bys (p.rest.set i v) = (bys p.rest).take i ++ bys [v] ++ (bys p.rest).drop (i + 1) := by
    unfold bys
    rw [List.set_eq_take_append_cons_drop, if_pos (by omega)]
    simp only [List.map_append, List.map_cons, List.map_nil, List.map_take, List.map_drop, List.append_assoc, List.cons_append, List.nil_append]
  unfold plC
  simp only
  rw [fix64_of hp, fix64_of (show (p.rest.set i v).length = 64 by rw [List.length_set]; exact hp), hb]
  simp only [List.append_assoc]
  rw [List.take_append_of_le_length (by omega), List.drop_append_of_le_length (by omega)]
end Go.Proofs.YtddddemclhlfaaaGreatDoor
