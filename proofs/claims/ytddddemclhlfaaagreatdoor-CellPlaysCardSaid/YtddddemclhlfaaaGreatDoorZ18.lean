/- Texts that the claim leans on, part 18: C31, C32, C33, C34. -/
import Derived.Test.YtddddemclhlfaaaGreatDoorZ1
import Derived.Test.YtddddemclhlfaaaGreatDoorZ2
import Derived.Test.YtddddemclhlfaaaGreatDoorZ3
import Derived.Test.YtddddemclhlfaaaGreatDoorZ4
import Derived.Test.YtddddemclhlfaaaGreatDoorZ5
import Derived.Test.YtddddemclhlfaaaGreatDoorZ6
import Derived.Test.YtddddemclhlfaaaGreatDoorZ7
import Derived.Test.YtddddemclhlfaaaGreatDoorZ8
import Derived.Test.YtddddemclhlfaaaGreatDoorZ9
import Derived.Test.YtddddemclhlfaaaGreatDoorZ10
import Derived.Test.YtddddemclhlfaaaGreatDoorZ11
import Derived.Test.YtddddemclhlfaaaGreatDoorZ12
import Derived.Test.YtddddemclhlfaaaGreatDoorZ13
import Derived.Test.YtddddemclhlfaaaGreatDoorZ14
import Derived.Test.YtddddemclhlfaaaGreatDoorZ15
import Derived.Test.YtddddemclhlfaaaGreatDoorZ17
import Derived.Test.YtddddemclhlfaaaGreatDoorRows
import Derived.WalkKit
import Derived.WalkSpells
import Derived.WalkLawsBesides
import Derived.Handy
import Derived.Deep.QuietTactic
import Derived.BigQuiet
import Derived.Deep.DeepCutAuto
import Derived.Lib.Hide
import Derived.RegionTactic
import Derived.ChangeAlike
import Derived.Laws.ResultCell
import Derived.Outline
import Derived.IntWalk
import Derived.RangeFuncNested
import Derived.RangeFuncBound
import Derived.RangeFuncCalls
import Derived.RangeFuncLeaves
import Derived.RangeFuncBox
import Derived.Laws.MakeOwn
import Derived.Laws.OwnMore
import Derived.Laws.IdiomStrings
import Derived.Laws.BytesArg
import Derived.Laws.BitsAllLaws
import Derived.Lib.SliceRun
import Derived.Great.BuildSlice
import Derived.Great.FillDense
import Derived.Laws.Rows
import Derived.Deep.Quiet
import Derived.Deep.RegionHeld3
import Derived.ProofKit
import Derived.OpenShut
import Derived.Laws.CopyOwn
import Derived.Laws.CopyRow
import Derived.Laws.NewBlocks
import Derived.Deep.RegionLaw
import Derived.ChangeSlices
import Derived.Lib.SmallJoins
import Derived.Deep.Slices
import Derived.Shelf.Abstract
import Derived.Shelf.RegionOpen
import Derived.OwnWalkIn
import Derived.TacticsInMore
import Derived.LoopNIn
import Derived.LoopIn
import Derived.Maps.AppendAt
namespace Go.Proofs.YtddddemclhlfaaaGreatDoor
open Go.RowKit
section
variable {B g g2 gp : Nat} {wv : Value} {q : RQ} {d : Dk} {w w' : World}
set_option maxRecDepth 100000 in
set_option maxHeartbeats 2000000 in
theorem alike_any (D : DiskB B g gp wv d w) (R : RefB B g2 q d w) : Calls Tryz.prog 28 #[.pointer (some ⟨g, 0, none⟩), .pointer (some ⟨g2, 0, none⟩)] w fun e w' => e = .returned (.bool true) ∧ Below w.heap.size w w' := by
  go_enter Tryz.func28, Tryz.ntmps28
  refine wp_seq_k (fun K hK => ?_)
  have HK := Lib.hid hK
  clear hK
  go_wp2
  refine HK.out _ _ ?_
  clear HK
  have hnl := R.nl
  refine wp_seq_k (fun K hK => ?_)
  go_cut [] (fun wx => Below w.heap.size w wx)
  case first =>
    go_wp2
    go_loopw [5] (fun i wr => ∃ k : Nat, k ≤ d.pl.length ∧ i = .int .i64 (k : Int) ∧ Below w.heap.size w wr) (fun i _ => d.pl.length - (intOf i).toNat)
    case atStart => exact ⟨0, by omega, rfl, Below.refl _ _⟩
    case round =>
      obtain ⟨k, hk, rfl, hbr⟩ := hrel
      have D1 := D.below hbr
      have R1 := R.below hbr
      have c0 := R1.c0
      by_cases hlt : k < d.pl.length
      case neg =>
        clear D1 R1
        go_wp2
        go_meet
        exact hbr
      case pos =>
        have hr := rest_sl D1 k
        have ha := fun (w' : World) (hb : Below wr.heap.size wr w') => rat_any (R1.below hb) k
        have hlen : (restD d (k : Int)).1.length ≤ 1000000 := by
          have h64 := (R1.ok _ (List.getElem_mem hlt)).1
          unfold restD
          split
          · simp
          · split
            · simp
            · rw [Int.toNat_natCast, List.getD_eq_getElem?_getD, List.getElem?_eq_getElem hlt, Option.getD_some]
              simp only
              omega
        obtain ⟨⟨rb, rl, re⟩, hres⟩ : ∃ r, restD d (k : Int) = r := ⟨_, rfl⟩
        rw [hres] at hr ha hlen
        simp only at hr ha hlen
        clear hres D1 R1
        refine wp_seq_k (fun K hK => ?_)
        have HK := Lib.hid hK
        clear hK
        go_wp2
        refine HK.out _ _ ?_
        clear HK
        refine wp_seq_k (fun K hK => ?_)
        have HK1 := Lib.hid hK
        clear hK
        refine wp_block ?_
        refine wp_seq_k (fun K hK => ?_)
        have HK := Lib.hid hK
        clear hK
        go_wp2_with (go_at_call 34; refine hr.mono ?_; rintro e w5 ⟨⟨a5, c5, rfl, s5⟩, hb5⟩)
        refine HK.out _ _ ?_
        clear HK
        have ha5 := ha _ hb5
        have hb6 := hbr.trans (hb5.mono hbr.size)
        clear ha hr hbr hb5 c0
        refine wp_seq_k (fun K hK => ?_)
        have HK := Lib.hid hK
        clear hK
        go_wp2_with (go_at_call 35; refine ha5.mono ?_; rintro e w7 ⟨⟨a7, c7, rfl, s7⟩, hb7⟩)
        refine HK.out _ _ ?_
        clear HK
        have hb8 := hb6.trans (hb7.mono hb6.size)
        have hsm := rsame_any a5 a7 c5 c7 rb rb w7 (s5.below hb7).row s7.row hlen
        rw [decide_eq_true rfl] at hsm
        clear ha5 s5 s7 hb6 hb7 hlen
        refine wp_seq_k (fun K hK => ?_)
        have HK := Lib.hid hK
        clear hK
        go_wp2_with (go_at_call 19; refine hsm.mono ?_; rintro e w9 ⟨rfl, hb9⟩)
        refine HK.out _ _ ?_
        clear HK
        go_wp2
        (try simp only [Exit.inBlock, Exit.then])
        refine HK1.out _ _ ?_
        go_wp2
        go_roundw
        case rel => exact ⟨k + 1, by omega, by go_num, hb8.trans (hb9.mono hb8.size)⟩
        case measure => simp [intOf]; omega
  have D9 := D.below hcut
  have R9 := R.below hcut
  have hwa := fun z => waits_any (D9.below (under_below wc z))
  have c3 := R9.c3
  obtain ⟨qa, qc, hqw, _, hwl, hwm⟩ := Row.of_owns R9.wts
  rw [hqw] at c3
  have u3 := under_cell c3
  refine hK _ _ ?_
  clear hK hqw D9 R9 D R c3
  go_wp2_with fail
  refine wp_region_under (by kernel_rfl) (by kernel_rfl) ?_
  repeat (go_big_quiet_step ((go_at_call 36; exact under_same (hwa _))))
  refine wpQuiet_nil ?_
  intro _ hw'
  obtain ⟨xU, hw''⟩ := hw'
  subst hw''
  have hbU := under_below wc xU
  go_wp2
  go_ret
  exact ⟨rfl, hcut.trans (hbU.mono hcut.size)⟩
end
end Go.Proofs.YtddddemclhlfaaaGreatDoor
namespace Go.Proofs.YtddddemclhlfaaaGreatDoor
open Go.RowKit
structure A7 where
  kind : Nat
  n : Int
  ba : Option Addr
  body : List UInt8
  bc : Nat
  ot : A6
def a7L (x : A7) : List Value := [.int .u8 (x.kind : Int), .int .i64 x.n, .slice x.ba x.body.length x.bc] ++ a6L x.ot
def a7A (x : A7) : Array Value := (a7L x).toArray
structure A7in (w : World) (x : A7) : Prop where
  b : SlB w x.ba x.bc x.body
  d : A6in w x.ot
  k : x.kind < 256
theorem A7in.below {w w' : World} {x : A7} (h : A7in w x) (hb : Below w.heap.size w w') : A7in w' x := ⟨h.b.below hb, h.d.below hb, h.k⟩
structure Acts7 (w : World) (a : Option Addr) (l : List A7) : Prop where
  each : ∀ (j : Nat) (hj : j < l.length), ∃ b off, a = some ⟨b, off, none⟩ ∧ (∀ r u, (a7L l[j])[r]? = some u → w.cell? ⟨b, off + j * 15 + r, none⟩ = some u) ∧ A7in w l[j]
theorem Acts7.below {w w' : World} {a : Option Addr} {l : List A7} (h : Acts7 w a l) (hb : Below w.heap.size w w') : Acts7 w' a l :=
  ⟨fun j hj => by
    obtain ⟨b, off, e, hc, hi⟩ := h.each j hj
    exact ⟨b, off, e, fun r u hu => cell_later hb (hc r u hu), hi.below hb⟩⟩
def gr7x (x : A7) : Bool := decide (100 < x.body.length) || gr6 [x.ot]
def gr7 (l : List A7) : Bool := decide (40 < l.length) || l.any gr7x
theorem gr7_no {l : List A7} (h : gr7 l = false) : l.length ≤ 40 ∧ ∀ x ∈ l, x.body.length ≤ 100 ∧ (x.ot.body.length ≤ 100 ∧ x.ot.dk.bytes.length ≤ 200 ∧ x.ot.dk.keep.length ≤ 100) := by
  unfold gr7 at h
  rw [Bool.or_eq_false_iff] at h
  refine ⟨by have := of_decide_eq_false h.1; omega, fun x hx => ?_⟩
  have h2 := List.any_eq_false.1 h.2 x hx
  unfold gr7x at h2
  rw [Bool.or_eq_true, not_or] at h2
  refine ⟨by have := h2.1; simp at this; omega, (gr6_no (by simpa using h2.2)).2 _ (by simp)⟩
theorem any_snoc7 {l : List A7} {j : Nat} (h : j < l.length) (f : A7 → Bool) : (l.take (j + 1)).any f = ((l.take j).any f || f l[j]) := by
  rw [List.take_succ_eq_append_getElem h, List.any_append, List.any_cons, List.any_nil, Bool.or_false]
theorem acts_one {w : World} {q : Nat} {x : A6} {T : TypeId} (hq : w.heap[q]? = some (.cells (a6A x) T (0, 0))) (hi : A6in w x) : Acts w (some ⟨q, 0, none⟩) [x] :=
  ⟨fun j hj => by
    obtain rfl : j = 0 := by simp at hj; omega
    refine ⟨q, 0, rfl, fun r u hu => ?_, hi⟩
    have := blk_cell hq r u (by simpa [a6A] using hu)
    simpa using this⟩
set_option maxRecDepth 100000 in
set_option maxHeartbeats 2000000 in
theorem great7_any (a : Option Addr) (cap : Nat) (l : List A7) (w : World) (hp : Acts7 w a l) : Calls Tryz.prog 20 #[.slice a l.length cap] w fun e w' => e = .returned (.bool (gr7 l)) ∧ Below w.heap.size w w' := by
  unfold gr7
  by_cases h60 : 40 < l.length
  case pos =>
    rw [decide_eq_true h60, Bool.true_or]
    have hI : (40 : Int) < l.length := by omega
    go_enter Tryz.func20, Tryz.ntmps20
    go_wp2
    go_ret
    exact ⟨rfl, Below.refl _ _⟩
  case neg =>
    rw [decide_eq_false h60, Bool.false_or]
    have hI : ¬ (40 : Int) < l.length := by omega
    obtain ⟨r, hr⟩ : ∃ r, l.any gr7x = r := ⟨_, rfl⟩
    rw [hr]
    have HR := Lib.hid hr
    clear hr
    go_enter Tryz.func20, Tryz.ntmps20
    refine wp_seq_k (fun K hK => ?_)
    have HK := Lib.hid hK
    clear hK
    go_wp2
    refine HK.out _ _ ?_
    clear HK
    refine wp_seq_k (fun K hK => ?_)
    have HK := Lib.hid hK
    clear hK
    go_wp2
    refine HK.out _ _ ?_
    clear HK
    refine wp_seq_k (fun K hK => ?_)
    have HK := Lib.hid hK
    clear hK
    go_wp2_with fail
    go_loopw [3] (fun i wr => ∃ j : Nat, j ≤ l.length ∧ i = .int .i64 (j : Nat) ∧ Hid ((l.take j).any gr7x = false) ∧ Below w.heap.size w wr) (fun i _ => l.length - (intOf i).toNat)
    case atStart => exact ⟨0, by omega, rfl, Lib.hid rfl, Below.refl _ _⟩
    case round =>
      obtain ⟨j, hj, rfl, ha, hbr⟩ := hrel
      by_cases hlt : j < l.length
      case neg =>
        obtain rfl : j = l.length := by omega
        have hrf : r = false := by have h := ha.out; rw [List.take_length] at h; exact HR.out.symm.trans h
        subst hrf
        clear ha HR
        go_wp2
        refine HK.out _ _ ?_
        clear HK
        go_wp2
        go_ret
        exact ⟨rfl, hbr⟩
      case pos =>
        obtain ⟨b, off, rfl, hc, hi⟩ := (hp.below hbr).each j hlt
        have hsn := any_snoc7 hlt gr7x
        rw [ha.out, Bool.false_or] at hsn
        have hmem := List.getElem_mem hlt
        have hrt : gr7x l[j] = true → r = true := fun h => by
          rw [← HR.out, List.any_eq_true]
          exact ⟨_, hmem, h⟩
        generalize l[j] = x at *
        have c2 := hc 2 _ rfl
        have HSN := Lib.hid hsn
        have HRT := Lib.hid hrt
        clear hsn hrt hmem ha
        by_cases h1 : 100 < x.body.length
        · have hI2 : (100 : Int) < x.body.length := by omega
          obtain rfl := HRT.out (by unfold gr7x; rw [decide_eq_true h1]; rfl)
          clear HRT HSN HR hc
          go_wp2
          go_ret
          exact ⟨rfl, hbr⟩
        · have hI2 : ¬ (100 : Int) < x.body.length := by omega
          have hx : gr7x x = gr6 [x.ot] := by unfold gr7x; rw [decide_eq_false h1, Bool.false_or]
          obtain ⟨gx, hgx⟩ : ∃ gx, gr6 [x.ot] = gx := ⟨_, rfl⟩
          rw [hgx] at hx
          have HGX := Lib.hid hgx
          have HX := Lib.hid hx
          clear hgx hx
          have hbx := blw wr (Obj.cells (a6A x.ot) 39)
          have hg5 := lgreat_any (some ⟨wr.heap.size, 0, none⟩) 1 [x.ot] (wr.alloc (Obj.cells (a6A x.ot) 39)) (acts_one (heap_alloc_new wr (Obj.cells (a6A x.ot) 39)) (hi.d.below hbx))
          rw [HGX.out] at hg5
          have c3 := hc 3 _ rfl
          have c4 := hc 4 _ rfl
          have c5 := hc 5 _ rfl
          have c6 := hc 6 _ rfl
          have c7 := hc 7 _ rfl
          have c8 := hc 8 _ rfl
          have c9 := hc 9 _ rfl
          have c10 := hc 10 _ rfl
          have c11 := hc 11 _ rfl
          have c12 := hc 12 _ rfl
          have c13 := hc 13 _ rfl
          have c14 := hc 14 _ rfl
          clear hc hi
          cases gx
          · go_wp2_with (go_at_call 6; refine hg5.mono ?_; rintro e w5 ⟨rfl, hb5⟩)
            go_roundw
            case rel => exact ⟨j + 1, by omega, by go_num, Lib.hid (by rw [HSN.out]; exact HX.out), hbr.trans ((hbx.trans (hb5.mono hbx.size)).mono hbr.size)⟩
            case measure => simp [intOf]; omega
          · obtain rfl := HRT.out HX.out
            clear HRT HSN HR
            go_wp2_with (go_at_call 6; refine hg5.mono ?_; rintro e w5 ⟨rfl, hb5⟩)
            go_ret
            exact ⟨rfl, hbr.trans ((hbx.trans (hb5.mono hbx.size)).mono hbr.size)⟩
end Go.Proofs.YtddddemclhlfaaaGreatDoor
namespace Go.Proofs.YtddddemclhlfaaaGreatDoor
open Go.RowKit
def do7 (d : Dk) (rep reg : Int) (x : A7) : Dk := if x.kind % 4 = 0 then (storeC d rep reg x.n x.body).1 else if x.kind % 4 = 1 then (healC d rep reg).1 else do6 d x.ot
def Pl2 (d : Dk) (r : Dk × Int) : Prop := r.1.pl.length = d.pl.length ∧ r.1.waits.length ≤ d.waits.length + 2
theorem pl2_self (d : Dk) (x : Int) : Pl2 d (d, x) := ⟨rfl, by show d.waits.length ≤ d.waits.length + 2; omega⟩
theorem pl2_ite {d : Dk} {c : Prop} [Decidable c] {a b : Dk × Int} (ha : Pl2 d a) (hb : Pl2 d b) : Pl2 d (if c then a else b) := by
  by_cases h : c
  · rw [if_pos h]; exact ha
  · rw [if_neg h]; exact hb
theorem pl2_put (d : Dk) (t : Tg) (body : List UInt8) : Pl2 d (putC d t body) := by
  have h := put_pl d t body
  exact ⟨h.1, by have := h.2; omega⟩
theorem pl2_two (d : Dk) (t t2 : Tg) (body : List UInt8) : Pl2 d (if (putC d t body).2 ≠ 0 then putC d t body else putC (putC d t body).1 t2 body) := by
  refine pl2_ite (pl2_put d t body) ?_
  have h := put_pl d t body
  have h2 := put_pl (putC d t body).1 t2 body
  exact ⟨h2.1.trans h.1, by have := h.2; have := h2.2; omega⟩
theorem store_pl (d : Dk) (rep reg inc : Int) (body : List UInt8) : Pl2 d (storeC d rep reg inc body) := by
  unfold storeC
  exact pl2_ite (pl2_self _ _) (pl2_ite (pl2_self _ _) (pl2_ite (pl2_self _ _) (pl2_ite (pl2_self _ _) (pl2_ite (pl2_self _ _) (pl2_ite (pl2_self _ _) (pl2_two _ _ _ _))))))
theorem heal_pl (d : Dk) (rep reg : Int) : Pl2 d (healC d rep reg) := by
  unfold healC
  exact pl2_ite (pl2_self _ _) (pl2_ite (pl2_self _ _) (pl2_ite (pl2_self _ _) (pl2_put _ _ _)))
theorem do7_wk {d : Dk} {m : Nat} (h : Wk d m) (rep reg : Int) (x : A7) : Wk (do7 d rep reg x) (m + 2) := by
  unfold do7
  split
  · have h2 := store_pl d rep reg x.n x.body
    exact ⟨h2.1.trans h.len, by have := h.wt; have := h2.2; omega⟩
  · split
    · have h2 := heal_pl d rep reg
      exact ⟨h2.1.trans h.len, by have := h.wt; have := h2.2; omega⟩
    · exact do6_wk h x.ot
theorem load_len {B g : Nat} {q : RQ} {d : Dk} {w : World} (h : RefB B g q d w) (rep reg : Int) : (loadC d rep reg).2.1.length ≤ 43 := by
  have hc : ∀ i, (copyC d rep reg i).body.length ≤ 43 := by
    intro i
    rcases rcopy_tag h rep reg i with ⟨_, _, hz⟩ | ⟨_, _, hm⟩
    · rw [hz]; simp
    · exact hm
  unfold loadC
  split
  · simp
  · split
    · simp
    · unfold pickC
      split
      · exact hc 1
      · exact hc 0
end Go.Proofs.YtddddemclhlfaaaGreatDoor
namespace Go.Proofs.YtddddemclhlfaaaGreatDoor
open Go.RowKit
theorem a7_new (x : A7) : (Value.agg (a7A x)).cells = a7A x ∧ (a7A x).size = 15 ∧ ∀ u ∈ (a7A x).toList, u.oneCell' = true := ⟨rfl, rfl, by simp [a7A, a7L, a6L, Value.oneCell']⟩
theorem a7_ot (x : A7) : 3 + 12 ≤ (a7A x).size ∧ (a7A x).extract 3 (3 + 12) = a6A x.ot := ⟨Nat.le_refl 15, rfl⟩
set_option maxRecDepth 100000 in
set_option maxHeartbeats 4000000 in
theorem plays7_law (rep reg : Int) (a : Option Addr) (cap : Nat) (l : List A7) (w : World) (hp : Acts7 w a l) :
    Calls Tryz.prog 4 #[.int .i64 rep, .int .i64 reg, .slice a l.length cap] w fun e w' => e = .returned (.bool true) ∧ Below w.heap.size w w' := by
  cases hg : gr7 l
  case true =>
    have HG := Lib.hid hg
    clear hg
    go_enter Tryz.func4, Tryz.ntmps4
    go_wp2_with (go_at_call 20; refine (great7_any a cap l _ hp).mono ?_; rintro e w2 ⟨rfl, hb2⟩; rw [HG.out])
    go_ret
    exact ⟨rfl, hb2⟩
  case false =>
  obtain ⟨hl40, hl7⟩ := gr7_no hg
  have HG := Lib.hid hg
  have HL7 := Lib.hid hl7
  clear hg hl7
  go_enter Tryz.func4, Tryz.ntmps4
  refine wp_seq_k (fun K hK => ?_)
  have HK := Lib.hid hK
  clear hK
  go_wp2
  refine HK.out _ _ ?_
  clear HK
  refine wp_seq_k (fun K hK => ?_)
  have HK := Lib.hid hK
  clear hK
  go_wp2_with (go_at_call 20; refine (great7_any a cap l _ hp).mono ?_; rintro e w2 ⟨rfl, hb2⟩; rw [HG.out])
  refine HK.out _ _ ?_
  clear HK
  refine wp_seq_k (fun K hK => ?_)
  have HK := Lib.hid hK
  clear hK
  go_wp2_with (go_at_call 7; refine (new156 (B := w.heap.size) hb2.size).mono ?_; rintro e w3 ⟨⟨g, gp, rfl, D3⟩, hb3⟩)
  refine HK.out _ _ ?_
  clear HK
  have hb3b := hb2.trans (hb3.mono hb2.size)
  refine wp_seq_k (fun K hK => ?_)
  have HK := Lib.hid hK
  clear hK
  go_wp2_with (go_at_call 8; refine (rnew_any 156 (by decide) (by decide) w3).mono ?_; rintro e w4 ⟨g2, rfl, ⟨q2, R4⟩, hb4⟩)
  refine HK.out _ _ ?_
  clear HK
  have hb4b := hb3b.trans (hb4.mono hb3b.size)
  have D4 := D3.below hb4
  have R5 := R4.mono hb3b.size
  clear D3 R4 hb2 hb3 hb3b hb4
  refine wp_seq_k (fun K hK => ?_)
  have HK := Lib.hid hK
  clear hK
  go_wp2
  refine HK.out _ _ ?_
  clear HK
  refine wp_seq_k (fun K hK => ?_)
  go_cut [] (fun wx => Below w.heap.size w wx)
  case first =>
    go_wp2
    go_loopw [11] (fun i wr => ∃ (j : Nat) (d : Dk) (wv : Value) (q : RQ), j ≤ l.length ∧ i = .int .i64 (j : Nat) ∧ DiskB w.heap.size g gp wv d wr ∧ RefB w.heap.size g2 q d wr ∧ Wk d (2 * j) ∧ Below w.heap.size w wr) (fun i _ => l.length - (intOf i).toNat)
    case atStart => exact ⟨0, _, _, _, by omega, rfl, D4, R5, new_wk 0, hb4b⟩
    case round =>
      clear D4 R5 hb4b
      obtain ⟨j, d, wv, q, hj, rfl, D, R, hwk, hbr⟩ := hrel
      by_cases hlt : j < l.length
      case neg =>
        clear D R hwk
        go_wp2
        go_meet
        exact hbr
      case pos =>
        obtain ⟨b, off, rfl, hc, hi⟩ := (hp.below hbr).each j hlt
        have hx := HL7.out _ (List.getElem_mem hlt)
        have HI : ∀ w', Below w.heap.size w w' → A7in w' l[j] := fun w' hk => by
          obtain ⟨_, _, _, _, h⟩ := (hp.below hk).each j hlt
          exact h
        generalize l[j] = x at *
        have hcA : ∀ r u, (a7A x)[r]? = some u → wr.cell? ⟨b, off + j * 15 + r, none⟩ = some u := fun r u hu => hc r u (by simpa [a7A] using hu)
        have W5 := do7_wk hwk rep reg x
        have hwt := hwk.wt
        have hkd := hi.k
        clear hc hi hwk
        refine wp_seq_k (fun K hK => ?_)
        have HK := Lib.hid hK
        clear hK
        go_wp2
        refine HK.out _ _ ?_
        clear HK
        refine wp_seq_k (fun K hK => ?_)
        have HK1 := Lib.hid hK
        clear hK
        refine wp_block ?_
        refine wp_seq_k (fun K hK => ?_)
        have HK := Lib.hid hK
        clear hK
        go_wp2_with (first
                  | ((with_reducible refine wpList_ldC 61 _ ?_); refine ⟨rfl, _, ⟨_, _, _, Tryz.isAgg61, Tryz.sizeOf61, rfl, (show (a7A x).size = 15 from rfl), hcA⟩, ?_⟩)
                  | ((first | (with_reducible refine wpList_stNew 61 _ _ ?_) | (with_reducible refine wp_stNew 61 _ _ ?_)); refine ⟨_, _, ⟨Tryz.sizeOf61, rfl, a7_new x⟩, rfl, ?_⟩))
        refine HK.out _ _ ?_
        clear HK
        have X4 := heap_alloc_new wr (Obj.cells (a7A x) 61)
        have D4 := D.below (blw wr (Obj.cells (a7A x) 61))
        have R4 := R.below (blw wr (Obj.cells (a7A x) 61))
        have hb4 := hbr.trans ((blw wr (Obj.cells (a7A x) 61)).mono hbr.size)
        clear D R hcA hbr
        generalize wr.alloc (Obj.cells (a7A x) 61) = w4 at *
        generalize wr.heap.size = q4 at *
        refine wp_seq_k (fun K hK => ?_)
        go_cut [] (fun wx => ∃ (wv : Value) (q : RQ), DiskB w.heap.size g gp wv (do7 d rep reg x) wx ∧ RefB w.heap.size g2 q (do7 d rep reg x) wx ∧ Below w.heap.size w wx)
        case first =>
          have c0 := blk_cell X4 0 (.int .u8 (x.kind : Int)) rfl
          by_cases h0 : x.kind % 4 = 0
          case pos =>
            have hd7 : do7 d rep reg x = (storeC d rep reg x.n x.body).1 := if_pos h0
            have HD7 := Lib.hid hd7
            have e0 : (x.kind : Int) % 4 = 0 := by omega
            have f0 : (x.kind : Int).tmod 4 = 0 := by rw [Int.tmod_eq_emod_of_nonneg (by omega)]; exact e0
            clear h0 hd7
            have c2 := blk_cell X4 2 (.slice x.ba x.body.length x.bc) rfl
            go_wp2_with (go_at_call 21; refine (copy_any x.ba x.bc x.body _ (HI _ hb4).b (by omega)).mono ?_; rintro e w5 ⟨⟨v5, rfl, o5⟩, hb5⟩)
            obtain ⟨sa, sc, rfl, _⟩ := SlB.of_owns o5
            have hbd := hb5.trans ((Below.refl w5.heap.size w5).drew.mono hb5.size)
            have D5 := D4.below hbd
            have R5 := R4.below hbd
            have X5 := tr_bl hbd X4
            have o6 := owns_bl o5 (Below.refl w5.heap.size w5).drew
            have hb6 := hb4.trans (hbd.mono hb4.size)
            clear D4 R4 X4 o5 hb4 hb5 hbd c0 c2
            refine wp_region_held_drew (S := fun w' => w'.heap[q4]? = some (.cells (a7A x) 61 (0, 0))) (by kernel_rfl) X5 (fun hS0 => ?_)
            generalize w5.drew = x0 at *
            refine wpAnyH_take (i := 0) (oi := ⟨_, _, _, _, _, _⟩) (v := ?_) rfl (by kernel_rfl) (by kernel_rfl) (by kernel_rfl) (fun _ _ _ h => h) (Or.inl ⟨by rfl, ?_⟩) (by assumption) ?_
            rotate_left
            · intro wS hSw; go_simp; (try with_reducible rfl)
            (try simp only [Act.put]); (try simp only [List.setIfInBounds_toArray]); (try simp only [List.set_cons_succ]); (try simp only [List.set_cons_zero])
            refine wpAnyH_take (i := 1) (oi := ⟨_, _, _, _, _, _⟩) (v := ?_) rfl (by kernel_rfl) (by kernel_rfl) (by kernel_rfl) (fun _ _ _ h => h) (Or.inl ⟨by rfl, ?_⟩) (by assumption) ?_
            rotate_left
            · intro wS hSw; go_simp; (try with_reducible rfl)
            (try simp only [Act.put]); (try simp only [List.setIfInBounds_toArray]); (try simp only [List.set_cons_succ]); (try simp only [List.set_cons_zero])
            refine wpAnyH_take (i := 2) (oi := ⟨_, _, _, _, _, _⟩) (v := ?_) rfl (by kernel_rfl) (by kernel_rfl) (by kernel_rfl) (fun _ _ _ h => h) (Or.inl ⟨by rfl, ?_⟩) (by assumption) ?_
            rotate_left
            · intro wS hSw; go_simp; (try with_reducible rfl)
            (try simp only [Act.put]); (try simp only [List.setIfInBounds_toArray]); (try simp only [List.set_cons_succ]); (try simp only [List.set_cons_zero])
            refine wpAnyH_take (i := 3) (oi := ⟨_, _, _, _, _, _⟩) (v := ?_) rfl (by kernel_rfl) (by kernel_rfl) (by kernel_rfl) (fun _ _ _ h => h) (Or.inl ⟨by rfl, ?_⟩) (by assumption) ?_
            rotate_left
            · intro wS hSw; go_simp; (try with_reducible rfl)
            (try simp only [Act.put]); (try simp only [List.setIfInBounds_toArray]); (try simp only [List.set_cons_succ]); (try simp only [List.set_cons_zero])
            refine wpAnyH_take (i := 4) (oi := ⟨_, _, _, _, _, _⟩) (v := ?_) rfl (by kernel_rfl) (by kernel_rfl) (by kernel_rfl) (fun _ _ _ h => h) (Or.inl ⟨by rfl, ?_⟩) (by assumption) ?_
            rotate_left
            · intro wS hSw
              have c := blk_cell hSw 1 (.int .i64 x.n) rfl; go_simp; (try with_reducible rfl)
            (try simp only [Act.put]); (try simp only [List.setIfInBounds_toArray]); (try simp only [List.set_cons_succ]); (try simp only [List.set_cons_zero])
            refine wpAnyH_take (i := 5) (oi := ⟨_, _, _, _, _, _⟩) (v := ?_) rfl (by kernel_rfl) (by kernel_rfl) (by kernel_rfl) (fun _ _ _ h => h) (Or.inl ⟨by rfl, ?_⟩) (by assumption) ?_
            rotate_left
            · intro wS hSw; go_simp; (try with_reducible rfl)
            (try simp only [Act.put]); (try simp only [List.setIfInBounds_toArray]); (try simp only [List.set_cons_succ]); (try simp only [List.set_cons_zero])
            refine wpAnyH_take (i := 7) (oi := ⟨_, _, _, _, _, _⟩) (v := ?_) rfl (by kernel_rfl) (by kernel_rfl) (by kernel_rfl) (fun _ _ _ h => h) (Or.inl ⟨by rfl, ?_⟩) (by assumption) ?_
            rotate_left
            · intro wS hSw; go_simp; (try with_reducible rfl)
            (try simp only [Act.put]); (try simp only [List.setIfInBounds_toArray]); (try simp only [List.set_cons_succ]); (try simp only [List.set_cons_zero])
            refine wpAnyH_take (i := 8) (oi := ⟨_, _, _, _, _, _⟩) (v := ?_) rfl (by kernel_rfl) (by kernel_rfl) (by kernel_rfl) (fun _ _ _ h => h) (Or.inl ⟨by rfl, ?_⟩) (by assumption) ?_
            rotate_left
            · intro wS hSw; go_simp; (try with_reducible rfl)
            (try simp only [Act.put]); (try simp only [List.setIfInBounds_toArray]); (try simp only [List.set_cons_succ]); (try simp only [List.set_cons_zero])
            refine wpAnyH_take (i := 9) (oi := ⟨_, _, _, _, _, _⟩) (v := ?_) rfl (by kernel_rfl) (by kernel_rfl) (by kernel_rfl) (fun _ _ _ h => h) (Or.inl ⟨by rfl, ?_⟩) (by assumption) ?_
            rotate_left
            · intro wS hSw; go_simp; (try with_reducible rfl)
            (try simp only [Act.put]); (try simp only [List.setIfInBounds_toArray]); (try simp only [List.set_cons_succ]); (try simp only [List.set_cons_zero])
            refine wpAnyH_take (i := 10) (oi := ⟨_, _, _, _, _, _⟩) (v := ?_) rfl (by kernel_rfl) (by kernel_rfl) (by kernel_rfl) (fun _ _ _ h => h) (Or.inl ⟨by rfl, ?_⟩) (by assumption) ?_
            rotate_left
            · intro wS hSw; go_simp; (try with_reducible rfl)
            (try simp only [Act.put]); (try simp only [List.setIfInBounds_toArray]); (try simp only [List.set_cons_succ]); (try simp only [List.set_cons_zero])
            refine wpAnyH_take (i := 11) (oi := ⟨_, _, _, _, _, _⟩) (v := ?_) rfl (by kernel_rfl) (by kernel_rfl) (by kernel_rfl) (fun _ _ _ h => h) (Or.inl ⟨by rfl, ?_⟩) (by assumption) ?_
            rotate_left
            · intro wS hSw
              have c := blk_cell hSw 1 (.int .i64 x.n) rfl; go_simp; (try with_reducible rfl)
            (try simp only [Act.put]); (try simp only [List.setIfInBounds_toArray]); (try simp only [List.set_cons_succ]); (try simp only [List.set_cons_zero])
            refine wpAnyH_take (i := 12) (oi := ⟨_, _, _, _, _, _⟩) (v := ?_) rfl (by kernel_rfl) (by kernel_rfl) (by kernel_rfl) (fun _ _ _ h => h) (Or.inl ⟨by rfl, ?_⟩) (by assumption) ?_
            rotate_left
            · intro wS hSw; go_simp; (try with_reducible rfl)
            (try simp only [Act.put]); (try simp only [List.setIfInBounds_toArray]); (try simp only [List.set_cons_succ]); (try simp only [List.set_cons_zero])
            refine wpAnyH_take (i := 13) (oi := ⟨_, _, _, _, _, _⟩) (v := ?_) rfl (by kernel_rfl) (by kernel_rfl) (by kernel_rfl) (fun _ _ _ h => h) (Or.inl ⟨by rfl, ?_⟩) (by assumption) ?_
            rotate_left
            · intro wS hSw
              have c := blk_cell hSw 2 (.slice x.ba x.body.length x.bc) rfl; go_simp; (try with_reducible rfl)
            (try simp only [Act.put]); (try simp only [List.setIfInBounds_toArray]); (try simp only [List.set_cons_succ]); (try simp only [List.set_cons_zero])
            refine wpAnyH_ready (rs := [6]) (by kernel_rfl) (by simp) ?_
            refine AllReadyH.cons (o := ⟨_, _, _, _, _, _⟩) rfl (fun K' hK' => ?_) AllReadyH.nil
            refine (if_pos (by rfl)).mpr ?_
            go_simp
            refine (cstore_any D5 hb6.size rep reg x.n sa sc x.body (fun w' hk => by obtain ⟨_, _, e, h⟩ := SlB.of_owns (owns_kt o6 hk); cases e; exact h) (by omega) (by omega)).mono ?_
            rintro e w7 ⟨rfl, ⟨wv7, D7⟩, k7⟩
            have R7 := R5.kt k7
            have X7 := k7.ty _ _ _ X5 (by decide) (by decide) (by decide)
            have o7 := owns_kt o6 k7
            have hb7 := hb6.trans k7.bl
            refine hK'.out _ _ X7 (fun _ => ?_)
            clear hK' D5 R5 X5 o6 hb6 k7 hS0
            (try simp only [Act.put]); (try simp only [List.setIfInBounds_toArray]); (try simp only [List.set_cons_succ]); (try simp only [List.set_cons_zero])
            refine wpAnyH_ready (rs := [14]) (by kernel_rfl) (by simp) ?_
            refine AllReadyH.cons (o := ⟨_, _, _, _, _, _⟩) rfl (fun K' hK' => ?_) AllReadyH.nil
            refine (if_pos (by rfl)).mpr ?_
            go_simp
            refine (rstore7_any R7 hb7.size rep reg x.n x.ba x.bc x.body (fun w' hk => (HI _ (hb7.trans hk.bl)).b) (by omega) (by omega)).mono ?_
            rintro e w8 ⟨rfl, ⟨q8, R8⟩, k8⟩
            have D8 := D7.kx k8.f
            have X8 := k8.ty _ _ _ X7 (by decide)
            have o8 := owns_kx o7 k8 (by decide)
            have hb8 := hb7.trans k8.bl
            refine hK'.out _ _ X8 (fun _ => ?_)
            clear hK' D7 R7 X7 o7 hb7 k8
            (try simp only [Act.put]); (try simp only [List.setIfInBounds_toArray]); (try simp only [List.set_cons_succ]); (try simp only [List.set_cons_zero])
            refine wpAnyH_take (i := 15) (oi := ⟨_, _, _, _, _, _⟩) (v := .bool false) rfl (by kernel_rfl) (by kernel_rfl) (by kernel_rfl) (fun _ _ _ h => h) (Or.inl ⟨by rfl, fun wS hSw => ?_⟩) (by assumption) ?_
            · go_simp; (try simp)
            (try simp only [Act.put]); (try simp only [List.setIfInBounds_toArray]); (try simp only [List.set_cons_succ]); (try simp only [List.set_cons_zero])
            refine wpAnyH_take (i := 16) (oi := ⟨_, _, _, _, _, _⟩) (v := ?_) rfl (by kernel_rfl) (by kernel_rfl) (by kernel_rfl) (fun _ _ _ h => h) (Or.inl ⟨by rfl, ?_⟩) (by assumption) ?_
            rotate_left
            · intro wS hSw; go_simp; (try with_reducible rfl)
            (try simp only [Act.put]); (try simp only [List.setIfInBounds_toArray]); (try simp only [List.set_cons_succ]); (try simp only [List.set_cons_zero])
            refine wpAnyH_take (i := 17) (oi := ⟨_, _, _, _, _, _⟩) (v := ?_) rfl (by kernel_rfl) (by kernel_rfl) (by kernel_rfl) (fun _ _ _ h => h) (Or.inl ⟨by rfl, ?_⟩) (by assumption) ?_
            rotate_left
            · intro wS hSw; go_simp; (try with_reducible rfl)
            (try simp only [Act.put]); (try simp only [List.setIfInBounds_toArray]); (try simp only [List.set_cons_succ]); (try simp only [List.set_cons_zero])
            refine wpAnyH_take (i := 18) (oi := ⟨_, _, _, _, _, _⟩) (v := ?_) rfl (by kernel_rfl) (by kernel_rfl) (by kernel_rfl) (fun _ _ _ h => h) (Or.inl ⟨by rfl, ?_⟩) (by assumption) ?_
            rotate_left
            · intro wS hSw; go_simp; (try with_reducible rfl)
            (try simp only [Act.put]); (try simp only [List.setIfInBounds_toArray]); (try simp only [List.set_cons_succ]); (try simp only [List.set_cons_zero])
            refine wpAnyH_take (i := 19) (oi := ⟨_, _, _, _, _, _⟩) (v := ?_) rfl (by kernel_rfl) (by kernel_rfl) (by kernel_rfl) (fun _ _ _ h => h) (Or.inl ⟨by rfl, ?_⟩) (by assumption) ?_
            rotate_left
            · intro wS hSw
              have c := blk_cell hSw 2 (.slice x.ba x.body.length x.bc) rfl; go_simp; (try with_reducible rfl)
            (try simp only [Act.put]); (try simp only [List.setIfInBounds_toArray]); (try simp only [List.set_cons_succ]); (try simp only [List.set_cons_zero])
            refine wpAnyH_ready (rs := [20]) (by kernel_rfl) (by simp) ?_
            refine AllReadyH.cons (o := ⟨_, _, _, _, _, _⟩) rfl (fun K' hK' => ?_) AllReadyH.nil
            refine (if_pos (by rfl)).mpr ?_
            have s8 : SlB w8 sa sc x.body := by obtain ⟨_, _, e, h⟩ := SlB.of_owns o8; cases e; exact h
            have hsm := rsame_any sa x.ba sc x.bc x.body x.body w8 s8.row (HI _ hb8).b.row (by omega)
            rw [decide_eq_true rfl] at hsm
            go_simp
            refine hsm.mono ?_
            rintro e w9 ⟨rfl, hb9⟩
            have D9 := D8.below hb9
            have R9 := R8.below hb9
            have X9 := tr_bl hb9 X8
            have hb10 := hb8.trans (hb9.mono hb8.size)
            refine hK'.out _ _ X9 (fun _ => ?_)
            clear hK' D8 R8 X8 o8 s8 hsm hb8 hb9
            (try simp only [Act.put]); (try simp only [List.setIfInBounds_toArray]); (try simp only [List.set_cons_succ]); (try simp only [List.set_cons_zero])
            refine wpAnyH_take (i := 21) (oi := ⟨_, _, _, _, _, _⟩) (v := ?_) rfl (by kernel_rfl) (by kernel_rfl) (by kernel_rfl) (fun _ _ _ h => h) (Or.inl ⟨by rfl, ?_⟩) (by assumption) ?_
            rotate_left
            · intro wS hSw; go_simp; (try with_reducible rfl)
            (try simp only [Act.put]); (try simp only [List.setIfInBounds_toArray]); (try simp only [List.set_cons_succ]); (try simp only [List.set_cons_zero])
            refine wpAnyH_take (i := 22) (oi := ⟨_, _, _, _, _, _⟩) (v := ?_) rfl (by kernel_rfl) (by kernel_rfl) (by kernel_rfl) (fun _ _ _ h => h) (Or.inl ⟨by rfl, ?_⟩) (by assumption) ?_
            rotate_left
            · intro wS hSw; go_simp; (try with_reducible rfl)
            (try simp only [Act.put]); (try simp only [List.setIfInBounds_toArray]); (try simp only [List.set_cons_succ]); (try simp only [List.set_cons_zero])
            refine wpAnyH_done (by kernel_rfl) ?_ _
            (try simp only [Exit.then])
            go_wp2
            (try simp only [Exit.inBlock, Exit.then])
            go_meet
            rw [HD7.out]
            exact ⟨_, _, D9, R9, hb10⟩
          case neg =>
          by_cases h1 : x.kind % 4 = 1
          case pos =>
            have hd7 : do7 d rep reg x = (healC d rep reg).1 := by unfold do7; rw [if_neg h0, if_pos h1]
            have HD7 := Lib.hid hd7
            have e0 : (x.kind : Int) % 4 = 1 := by omega
            have f0 : (x.kind : Int).tmod 4 = 1 := by rw [Int.tmod_eq_emod_of_nonneg (by omega)]; exact e0
            clear h0 h1 hd7
            have hh := cheal_any D4 hb4.size rep reg (by omega)
            go_wp2_with (go_at_call 24; refine hh.mono ?_; rintro e w5 ⟨rfl, ⟨wv5, D5⟩, k5⟩)
            have R5 := R4.kt k5
            have hb5 := hb4.trans k5.bl
            have hh2 := rheal7_any R5 hb5.size rep reg (by omega)
            clear D4 R4 hb4 hh k5
            go_wp2_with (go_at_call 25; refine hh2.mono ?_; rintro e w6 ⟨rfl, ⟨q6, R6⟩, k6⟩)
            have D6 := D5.kx k6.f
            have hb6 := hb5.trans k6.bl
            clear D5 R5 hb5 hh2
            go_wp2
            (try simp only [Exit.inBlock, Exit.then])
            go_meet
            rw [HD7.out]
            exact ⟨_, _, D6, R6, hb6⟩
          case neg =>
            have hd7 : do7 d rep reg x = do6 d x.ot := by unfold do7; rw [if_neg h0, if_neg h1]
            have HD7 := Lib.hid hd7
            have i0 : ((x.kind : Int) % 4 == 0) = false := by rw [beq_eq_false_iff_ne]; omega
            have i1 : ((x.kind : Int) % 4 == 1) = false := by rw [beq_eq_false_iff_ne]; omega
            have ft : (x.kind : Int).tmod 4 = (x.kind : Int) % 4 := Int.tmod_eq_emod_of_nonneg (by omega)
            clear h0 h1 hd7
            have hdo := ldo_any D4 hb4.size x.ot (fun w' hk => (HI _ (hb4.trans hk.bl)).d) hx.2 (by omega)
            go_wp2_with (first
              | ((with_reducible refine wpList_ldB 39 _ ?_); refine ⟨rfl, _, ⟨_, _, _, _, _, Tryz.isAgg39, Tryz.sizeOf39, rfl, ‹_›, a7_ot x⟩, ?_⟩)
              | (go_at_call 9; refine hdo.mono ?_; rintro e w5 ⟨⟨v5, rfl⟩, ⟨wv5, D5⟩, k5⟩; have X5 := k5.ty _ _ _ X4 (by decide) (by decide) (by decide); have R5 := R4.kt k5; have hb5 := hb4.trans k5.bl; clear X4 c0 hdo D4 R4 hb4; have hsm := same6_any R5 hb5.size x.ot (fun w' hk => (HI _ (hb5.trans hk.bl)).d) hx.2 (by omega))
              | (go_at_call 10; refine hsm.mono ?_; rintro e w6 ⟨⟨v6, rfl⟩, ⟨q6, R6⟩, k6⟩))
            have D6 := D5.kx k6
            have hb6 := hb5.trans k6.bl
            clear D5 R5 hb5 hsm
            (try simp only [Exit.inBlock, Exit.then])
            go_meet
            rw [HD7.out]
            exact ⟨_, _, D6, R6, hb6⟩
        clear D4 R4 hb4 X4
        obtain ⟨wv9, q9, D9, R9, hb9⟩ := hcut
        refine hK _ _ ?_
        clear hK
        generalize do7 d rep reg x = d9 at *
        have hl1 := cload_any D9 rep reg
        have hl2 := fun (w' : World) (hb : Below wc.heap.size wc w') => rload_any (R9.below hb) rep reg
        have hln := load_len R9 rep reg
        generalize loadC d9 rep reg = ld at *
        obtain ⟨v, bl, er⟩ := ld
        have HLN := Lib.hid hln
        clear hln
        refine wp_seq_k (fun K hK => ?_)
        have HK := Lib.hid hK
        clear hK
        go_wp2_with (go_at_call 26; refine hl1.mono ?_; rintro e w10 ⟨⟨a10, c10, rfl, o10⟩, hb10⟩)
        refine HK.out _ _ ?_
        clear HK
        have hb11 := hb9.trans (hb10.mono hb9.size)
        have hl3 := hl2 _ hb10
        have D10 := D9.below hb10
        have R10 := R9.below hb10
        clear hl1 hl2 D9 R9 hb9 hb10
        refine wp_seq_k (fun K hK => ?_)
        have HK := Lib.hid hK
        clear hK
        go_wp2_with (go_at_call 27; refine hl3.mono ?_; rintro e w12 ⟨⟨a12, c12, rfl, s12⟩, hb12⟩)
        refine HK.out _ _ ?_
        clear HK
        have hb13 := hb11.trans (hb12.mono hb11.size)
        have D12 := D10.below hb12
        have R12 := R10.below hb12
        have hsm := rsame_any a10 a12 c10 c12 bl bl w12 (o10.below hb12).slb.row s12.row (by have := HLN.out; omega)
        rw [decide_eq_true rfl] at hsm
        have hal := fun (w' : World) (hb : Below w12.heap.size w12 w') => alike_any (D12.below hb) (R12.below hb)
        clear hl3 D10 R10 hb11 hb12 o10 s12
        go_wp2_with (first
          | (go_at_call 19; refine hsm.mono ?_; rintro e w14 ⟨rfl, hb14⟩)
          | (go_at_call 28; refine (hal _ hb14).mono ?_; rintro e w15 ⟨rfl, hb15⟩))
        have hb16 := hb14.trans (hb15.mono hb14.size)
        have hb17 := hb13.trans (hb16.mono hb13.size)
        have D16 := D12.below hb16
        have R16 := R12.below hb16
        (try simp only [Exit.inBlock, Exit.then])
        refine HK1.out _ _ ?_
        go_wp2
        go_roundw
        case rel => exact ⟨j + 1, _, _, _, by omega, by go_num, D16, R16, W5, hb17⟩
        case measure => simp [intOf]; omega
  refine hK _ _ ?_
  clear hK
  go_wp2
  go_ret
  exact ⟨rfl, hcut⟩
end Go.Proofs.YtddddemclhlfaaaGreatDoor
