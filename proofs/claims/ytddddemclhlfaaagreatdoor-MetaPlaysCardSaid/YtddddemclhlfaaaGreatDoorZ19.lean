/- Texts that the claim leans on, part 19: C41, N1, N3, N4, N6, X10, X11, N7. -/
import Derived.Test.YtddddemclhlfaaaGreatDoorZ1
import Derived.Test.YtddddemclhlfaaaGreatDoorZ2
import Derived.Test.YtddddemclhlfaaaGreatDoorZ3
import Derived.Test.YtddddemclhlfaaaGreatDoorZ4
import Derived.Test.YtddddemclhlfaaaGreatDoorZ5
import Derived.Test.YtddddemclhlfaaaGreatDoorZ6
import Derived.Test.YtddddemclhlfaaaGreatDoorZ7
import Derived.Test.YtddddemclhlfaaaGreatDoorZ8
import Derived.Test.YtddddemclhlfaaaGreatDoorZ9
import Derived.Test.YtddddemclhlfaaaGreatDoorZ10
import Derived.Test.YtddddemclhlfaaaGreatDoorZ11
import Derived.Test.YtddddemclhlfaaaGreatDoorZ12
import Derived.Test.YtddddemclhlfaaaGreatDoorZ13
import Derived.Test.YtddddemclhlfaaaGreatDoorZ14
import Derived.Test.YtddddemclhlfaaaGreatDoorZ15
import Derived.Test.YtddddemclhlfaaaGreatDoorZ17
import Derived.Test.YtddddemclhlfaaaGreatDoorZ18
import Derived.Test.YtddddemclhlfaaaGreatDoorRows
import Derived.WalkKit
import Derived.WalkSpells
import Derived.WalkLawsBesides
import Derived.Handy
import Derived.Deep.QuietTactic
import Derived.BigQuiet
import Derived.Deep.DeepCutAuto
import Derived.Lib.Hide
import Derived.RegionTactic
import Derived.ChangeAlike
import Derived.Laws.ResultCell
import Derived.Outline
import Derived.IntWalk
import Derived.Laws.StructEq
import Derived.StillTailTactics
import Derived.Deep.RegionWith
import Derived.RangeFuncNested
import Derived.RangeFuncBound
import Derived.RangeFuncCalls
import Derived.RangeFuncLeaves
import Derived.RangeFuncBox
import Derived.Laws.MakeOwn
import Derived.Laws.OwnMore
import Derived.Laws.IdiomStrings
import Derived.Laws.BytesArg
import Derived.Laws.BitsAllLaws
import Derived.Lib.SliceRun
import Derived.Great.BuildSlice
import Derived.Great.FillDense
import Derived.Laws.Rows
import Derived.Deep.Quiet
import Derived.Deep.RegionHeld3
import Derived.ProofKit
import Derived.OpenShut
import Derived.Laws.CopyOwn
import Derived.Laws.CopyRow
import Derived.Laws.NewBlocks
import Derived.Deep.RegionLaw
import Derived.ChangeSlices
import Derived.Lib.SmallJoins
import Derived.Deep.Slices
import Derived.Shelf.Abstract
import Derived.Shelf.RegionOpen
import Derived.OwnWalkIn
import Derived.TacticsInMore
import Derived.LoopNIn
import Derived.LoopIn
import Derived.Maps.AppendAt
namespace Go.Proofs.YtddddemclhlfaaaGreatDoor
open Go.RowKit
structure A8 where
  kind : Nat
  br : Int
  bp : Int
  ot : A6
def a8L (x : A8) : List Value := [.int .u8 (x.kind : Int), .int .i64 x.br, .int .i64 x.bp] ++ a6L x.ot
def a8A (x : A8) : Array Value := (a8L x).toArray
structure A8in (w : World) (x : A8) : Prop where
  d : A6in w x.ot
  k : x.kind < 256
theorem A8in.below {w w' : World} {x : A8} (h : A8in w x) (hb : Below w.heap.size w w') : A8in w' x := ⟨h.d.below hb, h.k⟩
structure Acts8 (w : World) (a : Option Addr) (l : List A8) : Prop where
  each : ∀ (j : Nat) (hj : j < l.length), ∃ b off, a = some ⟨b, off, none⟩ ∧ (∀ r u, (a8L l[j])[r]? = some u → w.cell? ⟨b, off + j * 15 + r, none⟩ = some u) ∧ A8in w l[j]
theorem Acts8.below {w w' : World} {a : Option Addr} {l : List A8} (h : Acts8 w a l) (hb : Below w.heap.size w w') : Acts8 w' a l :=
  ⟨fun j hj => by
    obtain ⟨b, off, e, hc, hi⟩ := h.each j hj
    exact ⟨b, off, e, fun r u hu => cell_later hb (hc r u hu), hi.below hb⟩⟩
def gr8x (x : A8) : Bool := gr6 [x.ot]
def gr8 (l : List A8) : Bool := decide (40 < l.length) || l.any gr8x
theorem gr8_no {l : List A8} (h : gr8 l = false) : l.length ≤ 40 ∧ ∀ x ∈ l, (x.ot.body.length ≤ 100 ∧ x.ot.dk.bytes.length ≤ 200 ∧ x.ot.dk.keep.length ≤ 100) := by
  unfold gr8 at h
  rw [Bool.or_eq_false_iff] at h
  refine ⟨by have := of_decide_eq_false h.1; omega, fun x hx => ?_⟩
  have h2 := List.any_eq_false.1 h.2 x hx
  unfold gr8x at h2
  exact (gr6_no (by simpa using h2)).2 _ (by simp)
theorem any_snoc8 {l : List A8} {j : Nat} (h : j < l.length) (f : A8 → Bool) : (l.take (j + 1)).any f = ((l.take j).any f || f l[j]) := by
  rw [List.take_succ_eq_append_getElem h, List.any_append, List.any_cons, List.any_nil, Bool.or_false]
set_option maxRecDepth 100000 in
set_option maxHeartbeats 2000000 in
theorem great8_any (a : Option Addr) (cap : Nat) (l : List A8) (w : World) (hp : Acts8 w a l) : Calls Tryz.prog 29 #[.slice a l.length cap] w fun e w' => e = .returned (.bool (gr8 l)) ∧ Below w.heap.size w w' := by
  unfold gr8
  by_cases h60 : 40 < l.length
  case pos =>
    rw [decide_eq_true h60, Bool.true_or]
    have hI : (40 : Int) < l.length := by omega
    go_enter Tryz.func29, Tryz.ntmps29
    go_wp2
    go_ret
    exact ⟨rfl, Below.refl _ _⟩
  case neg =>
    rw [decide_eq_false h60, Bool.false_or]
    have hI : ¬ (40 : Int) < l.length := by omega
    obtain ⟨r, hr⟩ : ∃ r, l.any gr8x = r := ⟨_, rfl⟩
    rw [hr]
    have HR := Lib.hid hr
    clear hr
    go_enter Tryz.func29, Tryz.ntmps29
    refine wp_seq_k (fun K hK => ?_)
    have HK := Lib.hid hK
    clear hK
    go_wp2
    refine HK.out _ _ ?_
    clear HK
    refine wp_seq_k (fun K hK => ?_)
    have HK := Lib.hid hK
    clear hK
    go_wp2
    refine HK.out _ _ ?_
    clear HK
    refine wp_seq_k (fun K hK => ?_)
    have HK := Lib.hid hK
    clear hK
    go_wp2_with fail
    go_loopw [3] (fun i wr => ∃ j : Nat, j ≤ l.length ∧ i = .int .i64 (j : Nat) ∧ Hid ((l.take j).any gr8x = false) ∧ Below w.heap.size w wr) (fun i _ => l.length - (intOf i).toNat)
    case atStart => exact ⟨0, by omega, rfl, Lib.hid rfl, Below.refl _ _⟩
    case round =>
      obtain ⟨j, hj, rfl, ha, hbr⟩ := hrel
      by_cases hlt : j < l.length
      case neg =>
        obtain rfl : j = l.length := by omega
        have hrf : r = false := by have h := ha.out; rw [List.take_length] at h; exact HR.out.symm.trans h
        subst hrf
        clear ha HR
        go_wp2
        refine HK.out _ _ ?_
        clear HK
        go_wp2
        go_ret
        exact ⟨rfl, hbr⟩
      case pos =>
        obtain ⟨b, off, rfl, hc, hi⟩ := (hp.below hbr).each j hlt
        have hsn := any_snoc8 hlt gr8x
        rw [ha.out, Bool.false_or] at hsn
        have hmem := List.getElem_mem hlt
        have hrt : gr8x l[j] = true → r = true := fun h => by
          rw [← HR.out, List.any_eq_true]
          exact ⟨_, hmem, h⟩
        generalize l[j] = x at *
        have HSN := Lib.hid hsn
        have HRT := Lib.hid hrt
        clear hsn hrt hmem ha
        · have hx : gr8x x = gr6 [x.ot] := rfl
          obtain ⟨gx, hgx⟩ : ∃ gx, gr6 [x.ot] = gx := ⟨_, rfl⟩
          rw [hgx] at hx
          have HGX := Lib.hid hgx
          have HX := Lib.hid hx
          clear hgx hx
          have hbx := blw wr (Obj.cells (a6A x.ot) 39)
          have hg5 := lgreat_any (some ⟨wr.heap.size, 0, none⟩) 1 [x.ot] (wr.alloc (Obj.cells (a6A x.ot) 39)) (acts_one (heap_alloc_new wr (Obj.cells (a6A x.ot) 39)) (hi.d.below hbx))
          rw [HGX.out] at hg5
          have c3 := hc 3 _ rfl
          have c4 := hc 4 _ rfl
          have c5 := hc 5 _ rfl
          have c6 := hc 6 _ rfl
          have c7 := hc 7 _ rfl
          have c8 := hc 8 _ rfl
          have c9 := hc 9 _ rfl
          have c10 := hc 10 _ rfl
          have c11 := hc 11 _ rfl
          have c12 := hc 12 _ rfl
          have c13 := hc 13 _ rfl
          have c14 := hc 14 _ rfl
          clear hc hi
          cases gx
          · go_wp2_with (go_at_call 6; refine hg5.mono ?_; rintro e w5 ⟨rfl, hb5⟩)
            go_roundw
            case rel => exact ⟨j + 1, by omega, by go_num, Lib.hid (by rw [HSN.out]; exact HX.out), hbr.trans ((hbx.trans (hb5.mono hbx.size)).mono hbr.size)⟩
            case measure => simp [intOf]; omega
          · obtain rfl := HRT.out HX.out
            clear HRT HSN HR
            go_wp2_with (go_at_call 6; refine hg5.mono ?_; rintro e w5 ⟨rfl, hb5⟩)
            go_ret
            exact ⟨rfl, hbr.trans ((hbx.trans (hb5.mono hbx.size)).mono hbr.size)⟩
end Go.Proofs.YtddddemclhlfaaaGreatDoor
namespace Go.Proofs.YtddddemclhlfaaaGreatDoor
open Go.RowKit
def balB (r p : Int) : Bool := decide (1 ≤ r) && decide (r ≤ 1099511627776) && decide (0 ≤ p) && decide (p < 7)
theorem balB_yes {r p : Int} (h : 1 ≤ r ∧ r ≤ 1099511627776 ∧ 0 ≤ p ∧ p < 7) : balB r p = true := by simp [balB, h]
theorem balB_no {r p : Int} (h : ¬ (1 ≤ r ∧ r ≤ 1099511627776 ∧ 0 ≤ p ∧ p < 7)) : balB r p = false := by
  cases hb : balB r p
  · rfl
  · simp [balB] at hb; omega
def mayM (r p i : Int) : Bool := (decide (r = 0) && decide (p = 0) || balB r p) && decide (1 ≤ i) && decide (i ≤ 1099511627776)
theorem ballot_any (r p : Int) (w : World) : Calls Tryz.prog 72 #[.agg #[.int .i64 r, .int .i64 p]] w fun e w' => e = .returned (.bool (balB r p)) ∧ w' = w.alloc (Obj.cells #[.int .i64 r, .int .i64 p] 74) := by
  by_cases h1 : 1 ≤ r
  · by_cases h2 : r ≤ 1099511627776
    · by_cases h3 : 0 ≤ p
      · by_cases h4 : p < 7
        all_goals
          go_enter Tryz.func72, Tryz.ntmps72
          go_wp2
          go_ret
          exact ⟨ret_bool (by first | rw [balB_yes (by omega)] | rw [balB_no (by omega)]), rfl⟩
      · go_enter Tryz.func72, Tryz.ntmps72
        go_wp2
        go_ret
        exact ⟨ret_bool (by rw [balB_no (by omega)]), rfl⟩
    · go_enter Tryz.func72, Tryz.ntmps72
      go_wp2
      go_ret
      exact ⟨ret_bool (by rw [balB_no (by omega)]), rfl⟩
  · go_enter Tryz.func72, Tryz.ntmps72
    go_wp2
    go_ret
    exact ⟨ret_bool (by rw [balB_no (by omega)]), rfl⟩
@[go_sem] theorem eqBallot (a b c d : Int) (w : World) : (Op.equalIn 10000 74 (.agg #[.int .i64 a, .int .i64 b]) (.agg #[.int .i64 c, .int .i64 d])).run Tryz.prog w = .ok (a == c && b == d) w := by
  have u3 := Tryz.underlying3
  have a3 := Tryz.isAgg3
  have z3 := Tryz.sizeOf3
  have hS : Tryz.prog.underlying 74 = some (.struct (Tryz.prog.fieldsOf 74)) := by kernel_rfl
  rw [show (10000 : Nat) = 9999 + 1 from rfl, run_equalIn_agg w 9999 74 _ _ hS (by kernel_rfl)]
  simp only [Program.fieldsOf, Tryz.underlying74]
  go_simp
  by_cases h1 : a = c <;> by_cases h2 : b = d <;> simp [h1, h2]
set_option maxRecDepth 20000 in
set_option maxHeartbeats 4000000 in
theorem may_any (r p i : Int) (w : World) : Calls Tryz.prog 71 #[.agg #[.int .i64 r, .int .i64 p, .int .i64 i]] w fun e w' => e = .returned (.bool (mayM r p i)) ∧ Below w.heap.size w w' := by
  unfold mayM
  have hcs : (1 ≤ i ∧ i ≤ 1099511627776) ∨ (1 ≤ i ∧ ¬ i ≤ 1099511627776) ∨ (¬ 1 ≤ i ∧ i ≤ 1099511627776) := by omega
  rcases hcs with ⟨hi, hj⟩ | ⟨hi, hj⟩ | ⟨hi, hj⟩
  all_goals
    by_cases hr : r = 0
    · subst hr
      by_cases hp : p = 0
      · subst hp
        go_enter Tryz.func71, Tryz.ntmps71
        go_wp2
        go_ret
        exact ⟨ret_bool (by simp [hi, hj]), by (repeat' (first | (with_reducible exact Below.refl _ _) | (with_reducible assumption) | (with_reducible refine Below.alloc ?_ ?_ _) | (with_reducible refine Below.drew ?_) | (with_reducible refine below_drewN ?_ _) | (with_reducible refine Below.setCell ?_ ?_ _) | (with_reducible refine Below.trans ?_ (by assumption)) | go_size))⟩
      · have HB := Lib.hid (show balB 0 p = false from balB_no (by omega))
        go_enter Tryz.func71, Tryz.ntmps71
        go_wp2_with (go_at_call 72; refine (ballot_any _ _ _).mono ?_; rintro e w' ⟨rfl, rfl⟩; rw [HB.out])
        go_ret
        exact ⟨ret_bool (by simp [hp, HB.out]), by (repeat' (first | (with_reducible exact Below.refl _ _) | (with_reducible assumption) | (with_reducible refine Below.alloc ?_ ?_ _) | (with_reducible refine Below.drew ?_) | (with_reducible refine below_drewN ?_ _) | (with_reducible refine Below.setCell ?_ ?_ _) | (with_reducible refine Below.trans ?_ (by assumption)) | go_size))⟩
    · cases hb : balB r p
      all_goals
        have HB := Lib.hid hb
        clear hb
        go_enter Tryz.func71, Tryz.ntmps71
        go_wp2_with (go_at_call 72; refine (ballot_any _ _ _).mono ?_; rintro e w' ⟨rfl, rfl⟩; rw [HB.out])
        go_ret
        exact ⟨ret_bool (by simp [hi, hj, hr]), by (repeat' (first | (with_reducible exact Below.refl _ _) | (with_reducible assumption) | (with_reducible refine Below.alloc ?_ ?_ _) | (with_reducible refine Below.drew ?_) | (with_reducible refine below_drewN ?_ _) | (with_reducible refine Below.setCell ?_ ?_ _) | (with_reducible refine Below.trans ?_ (by assumption)) | go_size))⟩
end Go.Proofs.YtddddemclhlfaaaGreatDoor
namespace Go.Proofs.YtddddemclhlfaaaGreatDoor
open Go.RowKit
def metaL (r p i : Int) : List UInt8 := if mayM r p i = true then le 6 r.toNat ++ le 1 p.toNat ++ le 6 i.toNat else []
def metaE (r p i : Int) : Int := if mayM r p i = true then 0 else 2
theorem may_bd {r p i : Int} (h : mayM r p i = true) : 0 ≤ r ∧ r ≤ 1099511627776 ∧ 0 ≤ p ∧ p < 7 ∧ 1 ≤ i ∧ i ≤ 1099511627776 := by
  simp [mayM, balB] at h
  omega
theorem put6 (n : Nat) (h : n ≤ 1099511627776) : oputL 6 n = le 6 n ∧ oputE 6 n = 0 := by
  have hf : fitsB 6 n = true := by simp [fitsB, manyI]; omega
  unfold oputL oputE
  rw [if_pos hf, if_pos hf]
  exact ⟨by simp, rfl⟩
theorem put1 (n : Nat) (h : n < 7) : oputL 1 n = le 1 n ∧ oputE 1 n = 0 := by
  have hf : fitsB 1 n = true := by simp [fitsB, manyI]; omega
  unfold oputL oputE
  rw [if_pos hf, if_pos hf]
  exact ⟨by simp, rfl⟩
theorem bys_le1 (n : Nat) (h : n < 7) : bys (le 1 n) = [.int .u8 (n : Int)] := by
  have : le 1 n = [UInt8.ofNat (n % 256)] := rfl
  rw [this]
  simp only [bys, List.map_cons, List.map_nil, byv_low]
  rw [show (n : Int) % 256 = n by omega]
end Go.Proofs.YtddddemclhlfaaaGreatDoor
namespace Go.Proofs.YtddddemclhlfaaaGreatDoor
open Go.RowKit
def pre (r p i j : Nat) : List UInt8 := if j = 0 then [] else if j = 1 then le 6 r else if j = 2 then le 6 r ++ le 1 p else le 6 r ++ le 1 p ++ le 6 i
def fieldsV (b : Nat) : Value := .agg #[.pointer (some ⟨b, 0, none⟩), .int .i64 6, .pointer (some ⟨b, 1, none⟩), .int .i64 1, .pointer (some ⟨b, 2, none⟩), .int .i64 6]
@[go_sem] theorem indexF0 (a b c d e f : Value) (w : World) : (Instr.index 179 (.agg #[a, b, c, d, e, f]) (.int .i64 0)).run Tryz.prog w = .ok (.agg #[a, b]) w := by
  have u := Tryz.underlying179
  simp [Instr.index, run_underlying u, asIntOf, part, go_sem]
@[go_sem] theorem indexF1 (a b c d e f : Value) (w : World) : (Instr.index 179 (.agg #[a, b, c, d, e, f]) (.int .i64 1)).run Tryz.prog w = .ok (.agg #[c, d]) w := by
  have u := Tryz.underlying179
  simp [Instr.index, run_underlying u, asIntOf, part, go_sem]
@[go_sem] theorem indexF2 (a b c d e f : Value) (w : World) : (Instr.index 179 (.agg #[a, b, c, d, e, f]) (.int .i64 2)).run Tryz.prog w = .ok (.agg #[e, f]) w := by
  have u := Tryz.underlying179
  simp [Instr.index, run_underlying u, asIntOf, part, go_sem]
set_option maxRecDepth 20000 in
set_option maxHeartbeats 4000000 in
theorem fields_any (b : Nat) (w : World) : Calls Tryz.prog 117 #[.pointer (some ⟨b, 0, none⟩)] w fun e w' => e = .returned (fieldsV b) ∧ Below w.heap.size w w' := by
  go_enter Tryz.func117, Tryz.ntmps117
  refine wp_seq_k (fun K hK => ?_)
  have HK := Lib.hid hK
  clear hK
  go_wp2
  refine HK.out _ _ ?_
  clear HK
  go_wp2
  go_still_tail 15, (by kernel_rfl)
  show wpList _ _ _ _ _ (World.alloc w.drew _)
  rw [show w.heap.size = w.drew.heap.size from rfl]
  have hbd : Below w.heap.size w w.drew := (Below.refl _ _).drew
  have hsz : w.heap.size ≤ w.drew.heap.size := Nat.le_refl _
  generalize w.drew = wd at *
  go_wp2
  (try simp only [Exit.inBlock, Exit.then])
  refine bodyPost_ret (v := fieldsV b) ?hr rfl ?_
  case hr =>
    simp only [results, Tryz.results117, fieldsV]
    go_simp
  · exact ⟨rfl, by (repeat' (first | (with_reducible exact Below.refl _ _) | (with_reducible assumption) | (with_reducible refine Below.alloc ?_ ?_ _) | (with_reducible refine Below.drew ?_) | (with_reducible refine below_drewN ?_ _) | (with_reducible refine Below.setCell ?_ ?_ _) | (with_reducible refine Below.trans ?_ (by assumption)) | go_size))⟩
set_option maxRecDepth 20000 in
set_option maxHeartbeats 4000000 in
theorem print_any (r p i : Int) (w : World) : Calls Tryz.prog 119 #[.agg #[.int .i64 r, .int .i64 p, .int .i64 i]] w fun e w' => OwnBytes w.heap.size (metaL r p i) (metaE r p i) e w' ∧ Below w.heap.size w w' := by
  unfold metaL metaE
  cases hm : mayM r p i
  · rw [if_neg (by simp), if_neg (by simp)]
    have HM := Lib.hid hm
    clear hm
    go_enter Tryz.func119, Tryz.ntmps119
    go_wp2_with (go_at_call 71; refine (may_any _ _ _ _).mono ?_; rintro e w1 ⟨rfl, hb1⟩; rw [HM.out])
    go_ret2
    exact ⟨⟨.slice none 0 0, rfl, World.ownsRow_nil _ _ _ _⟩, ((Below.refl _ _).alloc (Nat.le_refl _) _).trans (hb1.mono (by simp))⟩
  · rw [if_pos rfl, if_pos rfl]
    obtain ⟨hr0, hr1, hp0, hp1, hi0, hi1⟩ := may_bd hm
    obtain ⟨r, rfl⟩ : ∃ rn : Nat, r = rn := ⟨r.toNat, by omega⟩
    obtain ⟨p, rfl⟩ : ∃ rn : Nat, p = rn := ⟨p.toNat, by omega⟩
    obtain ⟨i, rfl⟩ : ∃ rn : Nat, i = rn := ⟨i.toNat, by omega⟩
    simp only [Int.toNat_natCast]
    have hl1 := put6 r (by omega)
    have hl3 := put6 i (by omega)
    have hl2 := put1 p (by omega)
    have HM := Lib.hid hm
    have H1 := Lib.hid hl1
    have H2 := Lib.hid hl2
    have H3 := Lib.hid hl3
    clear hm hl1 hl2 hl3
    go_enter Tryz.func119, Tryz.ntmps119
    refine wp_seq_k (fun K hK => ?_)
    have HK := Lib.hid hK
    clear hK
    go_wp2
    refine HK.out _ _ ?_
    clear HK
    refine wp_seq_k (fun K hK => ?_)
    have HK := Lib.hid hK
    clear hK
    go_wp2_with (go_at_call 71; refine (may_any _ _ _ _).mono ?_; rintro e w1 ⟨rfl, hb1⟩; rw [HM.out])
    refine HK.out _ _ ?_
    clear HK
    have c0 := cell_later (a := ⟨w.heap.size, 0, none⟩) hb1 (by simp [go_sem]; rfl)
    have c1 := cell_later (a := ⟨w.heap.size, 1, none⟩) hb1 (by simp [go_sem]; rfl)
    have c2 := cell_later (a := ⟨w.heap.size, 2, none⟩) hb1 (by simp [go_sem]; rfl)
    refine wp_seq_k (fun K hK => ?_)
    have HK := Lib.hid hK
    clear hK
    go_wp2
    refine HK.out _ _ ?_
    clear HK
    refine wp_seq_k (fun K hK => ?_)
    go_cut [4] (fun out wx => ∃ w2, Below w1.heap.size w1 w2 ∧ Below w2.heap.size w2 wx ∧ wx.ownsRow w2.heap.size 5 1 out 13 (bys (le 6 r ++ le 1 p ++ le 6 i)))
    case first =>
      refine wp_seq_k (fun K hK => ?_)
      have HK := Lib.hid hK
      clear hK
      go_wp2_with (go_at_call 117; refine (fields_any _ _).mono ?_; rintro e w2 ⟨rfl, hb2⟩; unfold fieldsV)
      refine HK.out _ _ ?_
      clear HK
      have d0 := cell_later hb2 c0
      have d1 := cell_later hb2 c1
      have d2 := cell_later hb2 c2
      go_wp2_with fail
      go_loopw [4, 13] (fun out k wr => ∃ j : Nat, j ≤ 3 ∧ k = .int .i64 j ∧ wr.ownsRow w2.heap.size 5 1 out (pre r p i j).length (bys (pre r p i j)) ∧ Below w2.heap.size w2 wr) (fun _ k _ => 3 - (intOf k).toNat)
      case atStart => exact ⟨0, by omega, rfl, World.ownsRow_nil _ _ _ _, Below.refl _ _⟩
      case round =>
        obtain ⟨j, hj, rfl, hown, hbr⟩ := hrel
        have e0 := cell_later hbr d0
        have e1 := cell_later hbr d1
        have e2 := cell_later hbr d2
        rcases (show j = 0 ∨ j = 1 ∨ j = 2 ∨ j = 3 by omega) with rfl | rfl | rfl | rfl
        · go_wp2
          rename_i hK10
          have HK := Lib.hid hK10
          clear hK10
          have hza : Below wr.heap.size wr (wr.alloc (Obj.cells #[.pointer (some ⟨w.heap.size, 0, none⟩), .int .i64 6] 178)) := (Below.refl _ _).alloc (Nat.le_refl _) _
          have z0 : (wr.alloc (Obj.cells #[.pointer (some ⟨w.heap.size, 0, none⟩), .int .i64 6] 178)).cell? ⟨wr.heap.size, 0, none⟩ = some (.pointer (some ⟨w.heap.size, 0, none⟩)) := by simp [go_sem]
          have z1 : (wr.alloc (Obj.cells #[.pointer (some ⟨w.heap.size, 0, none⟩), .int .i64 6] 178)).cell? ⟨wr.heap.size, 1, none⟩ = some (.int .i64 6) := by simp [go_sem]
          have z2 := cell_later hza e0
          have ho1 := hown.alloc (Obj.cells #[.pointer (some ⟨w.heap.size, 0, none⟩), .int .i64 6] 178)
          have hzs : wr.heap.size ≤ (wr.alloc (Obj.cells #[.pointer (some ⟨w.heap.size, 0, none⟩), .int .i64 6] 178)).heap.size := by simp
          have hln : (pre r p i 0).length = 0 := by simp [pre]
          have hst : pre r p i (1) = pre r p i 0 ++ le 6 r := by simp [pre]
          have HST := Lib.hid hst
          clear hst
          generalize wr.alloc (Obj.cells #[.pointer (some ⟨w.heap.size, 0, none⟩), .int .i64 6] 178) = wz at *
          go_cut [7, 8] (fun bv ev wx => ev = .int .i64 0 ∧ wx.ownsRow wz.heap.size 5 1 bv 6 (bys (le 6 r)) ∧ Below wz.heap.size wz wx)
          case first =>
            go_region_with (go_at_call 138; refine (put_any _ _ _).mono ?_; rintro e w4 ⟨⟨v4, rfl, hown4⟩, hb4⟩; rw [H1.out.2]; rw [H1.out.1, le_len] at hown4)
            all_goals
              go_wp2_with fail
              go_meet
              exact ⟨rfl, hown4, ((Below.refl _ _).drew).trans hb4⟩
          obtain ⟨rfl, ho7, hb7⟩ := hcut
          obtain ⟨ma, mcap, rfl, hmr, _, _⟩ := Row.of_owns ho7
          have ho1c := owns_after ho1 hb7
          have hs1 := hbr.size
          have hs2 := hb7.size
          refine HK.out _ _ ?_
          clear HK
          go_wp2_with (at_builtin; refine wpList_append_row rfl _ _ 34 5 elByte rfl w2.heap.size _ _ _ rfl ho1c _ _ _ _ rfl (by simp [bys_len, le_len]) hmr bys_one (by omega) (by omega) (by omega) ?_; intro v5 w5 hown5 hb5)
          refine ⟨⟨1, by omega, by go_num, ?_, ?_⟩, by simp [intOf]⟩
          · rw [HST.out, bys_app, List.length_append, le_len]
            exact hown5
          · exact ((hbr.trans (hza.mono hs1)).trans (hb7.mono (by omega))).trans hb5
        · go_wp2
          rename_i hK10
          have HK := Lib.hid hK10
          clear hK10
          have hza : Below wr.heap.size wr (wr.alloc (Obj.cells #[.pointer (some ⟨w.heap.size, 1, none⟩), .int .i64 1] 178)) := (Below.refl _ _).alloc (Nat.le_refl _) _
          have z0 : (wr.alloc (Obj.cells #[.pointer (some ⟨w.heap.size, 1, none⟩), .int .i64 1] 178)).cell? ⟨wr.heap.size, 0, none⟩ = some (.pointer (some ⟨w.heap.size, 1, none⟩)) := by simp [go_sem]
          have z1 : (wr.alloc (Obj.cells #[.pointer (some ⟨w.heap.size, 1, none⟩), .int .i64 1] 178)).cell? ⟨wr.heap.size, 1, none⟩ = some (.int .i64 1) := by simp [go_sem]
          have z2 := cell_later hza e1
          have ho1 := hown.alloc (Obj.cells #[.pointer (some ⟨w.heap.size, 1, none⟩), .int .i64 1] 178)
          have hzs : wr.heap.size ≤ (wr.alloc (Obj.cells #[.pointer (some ⟨w.heap.size, 1, none⟩), .int .i64 1] 178)).heap.size := by simp
          have hln : (pre r p i 1).length = 6 := by simp [pre, le_len]
          have hst : pre r p i (2) = pre r p i 1 ++ le 1 p := by simp [pre]
          have HST := Lib.hid hst
          clear hst
          generalize wr.alloc (Obj.cells #[.pointer (some ⟨w.heap.size, 1, none⟩), .int .i64 1] 178) = wz at *
          go_cut [7, 8] (fun bv ev wx => ev = .int .i64 0 ∧ wx.ownsRow wz.heap.size 5 1 bv 1 (bys (le 1 p)) ∧ Below wz.heap.size wz wx)
          case first =>
            go_region_with (go_at_call 138; refine (put_any _ _ _).mono ?_; rintro e w4 ⟨⟨v4, rfl, hown4⟩, hb4⟩; rw [H2.out.2]; rw [H2.out.1, le_len] at hown4)
            all_goals
              go_wp2_with fail
              go_meet
              exact ⟨rfl, hown4, ((Below.refl _ _).drew).trans hb4⟩
          obtain ⟨rfl, ho7, hb7⟩ := hcut
          obtain ⟨ma, mcap, rfl, hmr, _, _⟩ := Row.of_owns ho7
          have ho1c := owns_after ho1 hb7
          have hs1 := hbr.size
          have hs2 := hb7.size
          refine HK.out _ _ ?_
          clear HK
          go_wp2_with (at_builtin; refine wpList_append_row rfl _ _ 34 5 elByte rfl w2.heap.size _ _ _ rfl ho1c _ _ _ _ rfl (by simp [bys_len, le_len]) hmr bys_one (by omega) (by omega) (by omega) ?_; intro v5 w5 hown5 hb5)
          refine ⟨⟨2, by omega, by go_num, ?_, ?_⟩, by simp [intOf]⟩
          · rw [HST.out, bys_app, List.length_append, le_len]
            exact hown5
          · exact ((hbr.trans (hza.mono hs1)).trans (hb7.mono (by omega))).trans hb5
        · go_wp2
          rename_i hK10
          have HK := Lib.hid hK10
          clear hK10
          have hza : Below wr.heap.size wr (wr.alloc (Obj.cells #[.pointer (some ⟨w.heap.size, 2, none⟩), .int .i64 6] 178)) := (Below.refl _ _).alloc (Nat.le_refl _) _
          have z0 : (wr.alloc (Obj.cells #[.pointer (some ⟨w.heap.size, 2, none⟩), .int .i64 6] 178)).cell? ⟨wr.heap.size, 0, none⟩ = some (.pointer (some ⟨w.heap.size, 2, none⟩)) := by simp [go_sem]
          have z1 : (wr.alloc (Obj.cells #[.pointer (some ⟨w.heap.size, 2, none⟩), .int .i64 6] 178)).cell? ⟨wr.heap.size, 1, none⟩ = some (.int .i64 6) := by simp [go_sem]
          have z2 := cell_later hza e2
          have ho1 := hown.alloc (Obj.cells #[.pointer (some ⟨w.heap.size, 2, none⟩), .int .i64 6] 178)
          have hzs : wr.heap.size ≤ (wr.alloc (Obj.cells #[.pointer (some ⟨w.heap.size, 2, none⟩), .int .i64 6] 178)).heap.size := by simp
          have hln : (pre r p i 2).length = 7 := by simp [pre, le_len]
          have hst : pre r p i (3) = pre r p i 2 ++ le 6 i := by simp [pre]
          have HST := Lib.hid hst
          clear hst
          generalize wr.alloc (Obj.cells #[.pointer (some ⟨w.heap.size, 2, none⟩), .int .i64 6] 178) = wz at *
          go_cut [7, 8] (fun bv ev wx => ev = .int .i64 0 ∧ wx.ownsRow wz.heap.size 5 1 bv 6 (bys (le 6 i)) ∧ Below wz.heap.size wz wx)
          case first =>
            go_region_with (go_at_call 138; refine (put_any _ _ _).mono ?_; rintro e w4 ⟨⟨v4, rfl, hown4⟩, hb4⟩; rw [H3.out.2]; rw [H3.out.1, le_len] at hown4)
            all_goals
              go_wp2_with fail
              go_meet
              exact ⟨rfl, hown4, ((Below.refl _ _).drew).trans hb4⟩
          obtain ⟨rfl, ho7, hb7⟩ := hcut
          obtain ⟨ma, mcap, rfl, hmr, _, _⟩ := Row.of_owns ho7
          have ho1c := owns_after ho1 hb7
          have hs1 := hbr.size
          have hs2 := hb7.size
          refine HK.out _ _ ?_
          clear HK
          go_wp2_with (at_builtin; refine wpList_append_row rfl _ _ 34 5 elByte rfl w2.heap.size _ _ _ rfl ho1c _ _ _ _ rfl (by simp [bys_len, le_len]) hmr bys_one (by omega) (by omega) (by omega) ?_; intro v5 w5 hown5 hb5)
          refine ⟨⟨3, by omega, by go_num, ?_, ?_⟩, by simp [intOf]⟩
          · rw [HST.out, bys_app, List.length_append, le_len]
            exact hown5
          · exact ((hbr.trans (hza.mono hs1)).trans (hb7.mono (by omega))).trans hb5
        · go_wp2
          go_meet
          exact ⟨w2, hb2, hbr, by simpa [pre, le_len] using hown⟩
    obtain ⟨w2, hb2, hbx, hown⟩ := hcut
    refine hK _ _ ?_; clear hK
    have hb01 : Below w.heap.size w w1 := ((Below.refl _ _).alloc (Nat.le_refl _) _).trans (hb1.mono (by simp))
    have hs1 := hb01.size
    have hs2 := hb2.size
    go_wp2
    go_ret2
    refine ⟨⟨_, rfl, ?_⟩, (hb01.trans (hb2.mono hs1)).trans (hbx.mono (by omega))⟩
    have hx := owns_mono hown (show w.heap.size ≤ w2.heap.size by omega)
    simpa [le_len] using hx
end Go.Proofs.YtddddemclhlfaaaGreatDoor
namespace Go.Proofs.YtddddemclhlfaaaGreatDoor
open Go.RowKit
def parM (l : List UInt8) : Bool := decide (l.length = 13) && mayM (getN l 0 6) (getN l 6 1) (getN l 7 6)
def parV (l : List UInt8) : Value := if parM l = true then .agg #[.int .i64 (getN l 0 6), .int .i64 (getN l 6 1), .int .i64 (getN l 7 6)] else .agg #[.int .i64 0, .int .i64 0, .int .i64 0]
def parE (l : List UInt8) : Int := if parM l = true then 0 else 80
theorem getN_one (l : List UInt8) (i : Nat) (h : i < l.length) : getN l i 1 = l[i].toNat := by
  unfold getN
  rw [List.drop_eq_getElem_cons h, List.take_succ_cons]
  simp [ofLe]
theorem tri_cells {w : World} {g : Nat} {x y z : Value} {T : TypeId} (h : w.heap[g]? = some (.cells #[x, y, z] T (0, 0))) :
    w.cell? ⟨g, 0, none⟩ = some x ∧ w.cell? ⟨g, 1, none⟩ = some y ∧ w.cell? ⟨g, 2, none⟩ = some z ∧ w.frozen? ⟨g, 0, none⟩ = false ∧ w.frozen? ⟨g, 1, none⟩ = false ∧ w.frozen? ⟨g, 2, none⟩ = false := by
  refine ⟨?_, ?_, ?_, ?_, ?_, ?_⟩
  all_goals simp [World.cell?, World.frozen?, h]
theorem two_metas {w w1 : World} {x y z x' y' z' : Value} {T T' : TypeId} (hb : Below ((w.alloc (.cells #[x, y, z] T)).alloc (.cells #[x', y', z'] T')).heap.size ((w.alloc (.cells #[x, y, z] T)).alloc (.cells #[x', y', z'] T')) w1) :
    w1.cell? ⟨w.heap.size, 0, none⟩ = some x ∧ w1.cell? ⟨w.heap.size, 1, none⟩ = some y ∧ w1.cell? ⟨w.heap.size, 2, none⟩ = some z ∧ w1.frozen? ⟨w.heap.size, 0, none⟩ = false ∧ w1.frozen? ⟨w.heap.size, 1, none⟩ = false ∧ w1.frozen? ⟨w.heap.size, 2, none⟩ = false ∧
    w1.cell? ⟨w.heap.size + 1, 0, none⟩ = some x' ∧ w1.cell? ⟨w.heap.size + 1, 1, none⟩ = some y' ∧ w1.cell? ⟨w.heap.size + 1, 2, none⟩ = some z' ∧ w1.frozen? ⟨w.heap.size + 1, 0, none⟩ = false ∧ w1.frozen? ⟨w.heap.size + 1, 1, none⟩ = false ∧ w1.frozen? ⟨w.heap.size + 1, 2, none⟩ = false := by
  have h1 : w1.heap[w.heap.size]? = some (.cells #[x, y, z] T (0, 0)) := by
    rw [hb.block _ (by simp; omega), heap_alloc_old _ _ (by simp), heap_alloc_new]
  have h2 : w1.heap[w.heap.size + 1]? = some (.cells #[x', y', z'] T' (0, 0)) := by
    rw [hb.block _ (by simp), heap_alloc2_new]
  obtain ⟨a1, a2, a3, a4, a5, a6⟩ := tri_cells h1
  obtain ⟨b1, b2, b3, b4, b5, b6⟩ := tri_cells h2
  exact ⟨a1, a2, a3, a4, a5, a6, b1, b2, b3, b4, b5, b6⟩
theorem below_two {w w1 : World} {A B : Obj} (hb : Below ((w.alloc A).alloc B).heap.size ((w.alloc A).alloc B) w1) : Below w.heap.size w w1 :=
  (((Below.refl _ _).alloc (Nat.le_refl _) A).alloc (by simp) B).trans (hb.mono (by simp; omega))
theorem get_w (a : Option Addr) (cap : Nat) (l : List UInt8) (at_ k : Nat) (w : World) (hs : SlB w a cap l) (hk : k = 1 ∨ k = 2 ∨ k = 4 ∨ k = 6) (h : at_ + k ≤ l.length) (at' k' s : Int) (hat : at' = at_) (hk' : k' = k) (hs' : s = at' + k') :
    Calls Tryz.prog 118 #[.slice a l.length cap, .int .i64 at', .int .i64 k'] w fun e w' => e = .returned (.tuple #[.int .i64 (getN l at_ k), .int .i64 s, .int .i64 0]) ∧ Below w.heap.size w w' := by
  subst hat hk' hs'
  exact get_ok a cap l at_ k w hs hk h
def pos (j : Nat) : Nat := if j = 0 then 0 else if j = 1 then 6 else if j = 2 then 7 else 13
def pv (l : List UInt8) (j : Nat) : Array Value := #[.int .i64 (if 0 < j then (getN l 0 6 : Int) else 0), .int .i64 (if 1 < j then (getN l 6 1 : Int) else 0), .int .i64 (if 2 < j then (getN l 7 6 : Int) else 0)]
theorem two_cells {w : World} {g : Nat} {x y : Value} {T : TypeId} (h : w.heap[g]? = some (.cells #[x, y] T (0, 0))) : w.cell? ⟨g, 0, none⟩ = some x ∧ w.cell? ⟨g, 1, none⟩ = some y := by
  constructor <;> simp [World.cell?, h]
theorem behind_get {w wr w3 : World} {x y z x' y' z' u v : Value} {T T' : TypeId} (hbr : Below w.heap.size w wr) (hlo : w.heap.size + 1 < wr.heap.size)
    (hB0 : wr.heap[w.heap.size]? = some (.cells #[x, y, z] T (0, 0))) (hB1 : wr.heap[w.heap.size + 1]? = some (.cells #[x', y', z'] T (0, 0)))
    (hb3 : Below (wr.alloc (.cells #[u, v] T')).heap.size (wr.alloc (.cells #[u, v] T')) w3) :
    w3.heap[w.heap.size]? = some (.cells #[x, y, z] T (0, 0)) ∧ w3.heap[w.heap.size + 1]? = some (.cells #[x', y', z'] T (0, 0)) ∧ w3.cell? ⟨wr.heap.size, 0, none⟩ = some u ∧ w3.cell? ⟨wr.heap.size, 1, none⟩ = some v ∧
    w3.cell? ⟨w.heap.size + 1, 0, none⟩ = some x' ∧ w3.cell? ⟨w.heap.size + 1, 1, none⟩ = some y' ∧ w3.cell? ⟨w.heap.size + 1, 2, none⟩ = some z' ∧ w3.frozen? ⟨w.heap.size + 1, 0, none⟩ = false ∧ w3.frozen? ⟨w.heap.size + 1, 1, none⟩ = false ∧ w3.frozen? ⟨w.heap.size + 1, 2, none⟩ = false ∧ Below w.heap.size w w3 := by
  have k1 : w3.heap[w.heap.size]? = some (.cells #[x, y, z] T (0, 0)) := by rw [hb3.block _ (by simp; omega), heap_alloc_old _ _ (by omega)]; exact hB0
  have k2 : w3.heap[w.heap.size + 1]? = some (.cells #[x', y', z'] T (0, 0)) := by rw [hb3.block _ (by simp; omega), heap_alloc_old _ _ (by omega)]; exact hB1
  have k3 : w3.heap[wr.heap.size]? = some (.cells #[u, v] T' (0, 0)) := by rw [hb3.block _ (by simp), heap_alloc_new]
  obtain ⟨b1, b2, b3, b4, b5, b6⟩ := tri_cells k2
  obtain ⟨c0, c1⟩ := two_cells k3
  exact ⟨k1, k2, c0, c1, b1, b2, b3, b4, b5, b6, (hbr.alloc (by omega) _).trans (hb3.mono (by simp; omega))⟩
set_option maxRecDepth 20000 in
set_option maxHeartbeats 800000 in
theorem parse_any (a : Option Addr) (cap : Nat) (l : List UInt8) (w : World) (hs : SlB w a cap l) :
    Calls Tryz.prog 67 #[.slice a l.length cap] w fun e w' => e = .returned (.tuple #[parV l, .int .i64 (parE l)]) ∧ Below w.heap.size w w' := by
  have hmx := hs.max
  unfold maxLen at hmx
  have hle := hs.le
  go_enter Tryz.func67, Tryz.ntmps67
  refine wp_seq_k (fun K hK => ?_)
  have HK := Lib.hid hK
  clear hK
  go_wp2
  refine HK.out _ _ ?_
  clear HK
  refine wp_seq_k (fun K hK => ?_)
  have HK := Lib.hid hK
  clear hK
  go_wp2
  refine HK.out _ _ ?_
  clear HK
  refine wp_seq_k (fun K hK => ?_)
  have HK := Lib.hid hK
  clear hK
  go_wp2
  refine HK.out _ _ ?_
  clear HK
  refine wp_seq_k (fun K hK => ?_)
  go_cut [5] (fun at_ wx => at_ = .int .i64 13 ∧ 13 ≤ l.length ∧ wx.heap[w.heap.size]? = some (.cells (pv l 0) 76 (0, 0)) ∧ wx.heap[w.heap.size + 1]? = some (.cells (pv l 3) 76 (0, 0)) ∧ Below w.heap.size w wx)
  case first =>
    refine wp_seq_k (fun K hK => ?_)
    have HK := Lib.hid hK
    clear hK
    go_wp2_with (go_at_call 117; refine (fields_any _ _).mono ?_; rintro e w2 ⟨rfl, hb2⟩; unfold fieldsV)
    refine HK.out _ _ ?_
    clear HK
    have hbw := below_two hb2
    have h0 : w2.heap[w.heap.size]? = some (.cells (pv l 0) 76 (0, 0)) := by
      rw [hb2.block _ (by simp; omega), heap_alloc_old _ _ (by simp), heap_alloc_new]; rfl
    have h1 : w2.heap[w.heap.size + 1]? = some (.cells (pv l 0) 76 (0, 0)) := by
      rw [hb2.block _ (by simp), heap_alloc2_new]; rfl
    go_wp2_with fail
    go_loopw [5, 12] (fun at_ k wr => ∃ j : Nat, j ≤ 3 ∧ k = .int .i64 j ∧ at_ = .int .i64 (pos j) ∧ pos j ≤ l.length ∧ wr.heap[w.heap.size]? = some (.cells (pv l 0) 76 (0, 0)) ∧ wr.heap[w.heap.size + 1]? = some (.cells (pv l j) 76 (0, 0)) ∧ Below w.heap.size w wr) (fun _ k _ => 3 - (intOf k).toNat)
    case atStart => exact ⟨0, by omega, rfl, rfl, Nat.zero_le _, h0, h1, hbw⟩
    case round =>
      clear h0 h1 hbw hb2
      obtain ⟨j, hj, rfl, rfl, hpl, hB0, hB1, hbr⟩ := hrel
      have hsr := hs.below hbr
      have hlo : w.heap.size + 1 < wr.heap.size := (Array.getElem?_eq_some_iff.1 hB1).1
      rcases (show j = 0 ∨ j = 1 ∨ j = 2 ∨ j = 3 by omega) with rfl | rfl | rfl | rfl
      all_goals simp only [pos, pv] at hpl hB0 hB1 ⊢
      all_goals simp at hpl hB0 hB1
      · by_cases hok : 0 + 6 ≤ l.length
        · go_wp2_with (go_at_call 118; refine (get_w _ cap l 0 6 _ (hsr.below ((Below.refl _ _).alloc (Nat.le_refl _) _)) (by omega) hok 0 6 6 rfl rfl rfl).mono ?_; rintro e w3 ⟨rfl, hb3⟩; obtain ⟨k1, k2, c0, c1, q0, q1, q2, f0, f1, f2, hb4⟩ := behind_get hbr hlo hB0 hB1 hb3)
          refine ⟨⟨1, by omega, by go_num, rfl, by show 6 ≤ l.length; omega, ?_, ?_, ?_⟩, by simp [intOf]⟩
          · rw [heap_setCell_other _ ⟨w.heap.size + 1, 0, none⟩ _ _ (by simp)]; exact k1
          · rw [heap_setCell_same _ _ _ _ _ _ k2]; simp
          · exact hb4.setCell (by simp) _
        · have hpe : parM l = false := by
            unfold parM
            rw [decide_eq_false (by omega)]
            rfl
          have hge : getE l.length 0 6 ≠ 0 := by
            unfold getE pieceE
            rw [if_neg (by simp [manyI])]
            split
            · omega
            · rw [if_pos (by omega)]; omega
          have hne : (getE l.length 0 6 != 0) = true := by rw [bne_iff_ne]; exact hge
          have hgb := fun w => get_bad a l.length cap 0 6 w (by unfold maxLen; omega) hge
          have hpv : parV l = .agg #[.int .i64 0, .int .i64 0, .int .i64 0] := by unfold parV; rw [hpe]; rfl
          have hpr : parE l = 80 := by unfold parE; rw [hpe]; rfl
          clear hpe
          generalize getE l.length 0 6 = er at *
          have HGB := Lib.hid hgb
          clear hgb
          go_wp2_with (go_at_call 118; refine (HGB.out _).mono ?_; rintro e w3 ⟨rfl, hb3⟩; obtain ⟨k1, k2, c0, c1, q0, q1, q2, f0, f1, f2, hb4⟩ := behind_get hbr hlo hB0 hB1 hb3; obtain ⟨z0, z1, z2, g0, g1, g2⟩ := tri_cells k1)
          (try simp only [Exit.inBlock, Exit.then])
          rw [hpv, hpr]
          refine bodyPost_ret ?hr rfl ⟨rfl, ?_⟩
          case hr =>
            simp only [results, Tryz.results67]
            go_simp
          (repeat' (first | (with_reducible exact Below.refl _ _) | (with_reducible assumption) | (with_reducible refine Below.alloc ?_ ?_ _) | (with_reducible refine Below.drew ?_) | (with_reducible refine below_drewN ?_ _) | (with_reducible refine Below.setCell ?_ ?_ _) | (with_reducible refine Below.trans ?_ (by assumption)) | go_size))
      · by_cases hok : 6 + 1 ≤ l.length
        · go_wp2_with (go_at_call 118; refine (get_w _ cap l 6 1 _ (hsr.below ((Below.refl _ _).alloc (Nat.le_refl _) _)) (by omega) hok 6 1 7 rfl rfl rfl).mono ?_; rintro e w3 ⟨rfl, hb3⟩; obtain ⟨k1, k2, c0, c1, q0, q1, q2, f0, f1, f2, hb4⟩ := behind_get hbr hlo hB0 hB1 hb3)
          refine ⟨⟨2, by omega, by go_num, rfl, by show 7 ≤ l.length; omega, ?_, ?_, ?_⟩, by simp [intOf]⟩
          · rw [heap_setCell_other _ ⟨w.heap.size + 1, 1, none⟩ _ _ (by simp)]; exact k1
          · rw [heap_setCell_same _ _ _ _ _ _ k2]; simp
          · exact hb4.setCell (by simp) _
        · have hpe : parM l = false := by
            unfold parM
            rw [decide_eq_false (by omega)]
            rfl
          have hge : getE l.length 6 1 ≠ 0 := by
            unfold getE pieceE
            rw [if_neg (by simp [manyI])]
            split
            · omega
            · rw [if_pos (by omega)]; omega
          have hne : (getE l.length 6 1 != 0) = true := by rw [bne_iff_ne]; exact hge
          have hgb := fun w => get_bad a l.length cap 6 1 w (by unfold maxLen; omega) hge
          have hpv : parV l = .agg #[.int .i64 0, .int .i64 0, .int .i64 0] := by unfold parV; rw [hpe]; rfl
          have hpr : parE l = 80 := by unfold parE; rw [hpe]; rfl
          clear hpe
          generalize getE l.length 6 1 = er at *
          have HGB := Lib.hid hgb
          clear hgb
          go_wp2_with (go_at_call 118; refine (HGB.out _).mono ?_; rintro e w3 ⟨rfl, hb3⟩; obtain ⟨k1, k2, c0, c1, q0, q1, q2, f0, f1, f2, hb4⟩ := behind_get hbr hlo hB0 hB1 hb3; obtain ⟨z0, z1, z2, g0, g1, g2⟩ := tri_cells k1)
          (try simp only [Exit.inBlock, Exit.then])
          rw [hpv, hpr]
          refine bodyPost_ret ?hr rfl ⟨rfl, ?_⟩
          case hr =>
            simp only [results, Tryz.results67]
            go_simp
          (repeat' (first | (with_reducible exact Below.refl _ _) | (with_reducible assumption) | (with_reducible refine Below.alloc ?_ ?_ _) | (with_reducible refine Below.drew ?_) | (with_reducible refine below_drewN ?_ _) | (with_reducible refine Below.setCell ?_ ?_ _) | (with_reducible refine Below.trans ?_ (by assumption)) | go_size))
      · by_cases hok : 7 + 6 ≤ l.length
        · go_wp2_with (go_at_call 118; refine (get_w _ cap l 7 6 _ (hsr.below ((Below.refl _ _).alloc (Nat.le_refl _) _)) (by omega) hok 7 6 13 rfl rfl rfl).mono ?_; rintro e w3 ⟨rfl, hb3⟩; obtain ⟨k1, k2, c0, c1, q0, q1, q2, f0, f1, f2, hb4⟩ := behind_get hbr hlo hB0 hB1 hb3)
          refine ⟨⟨3, by omega, by go_num, rfl, by show 13 ≤ l.length; omega, ?_, ?_, ?_⟩, by simp [intOf]⟩
          · rw [heap_setCell_other _ ⟨w.heap.size + 1, 2, none⟩ _ _ (by simp)]; exact k1
          · rw [heap_setCell_same _ _ _ _ _ _ k2]; simp
          · exact hb4.setCell (by simp) _
        · have hpe : parM l = false := by
            unfold parM
            rw [decide_eq_false (by omega)]
            rfl
          have hge : getE l.length 7 6 ≠ 0 := by
            unfold getE pieceE
            rw [if_neg (by simp [manyI])]
            split
            · omega
            · rw [if_pos (by omega)]; omega
          have hne : (getE l.length 7 6 != 0) = true := by rw [bne_iff_ne]; exact hge
          have hgb := fun w => get_bad a l.length cap 7 6 w (by unfold maxLen; omega) hge
          have hpv : parV l = .agg #[.int .i64 0, .int .i64 0, .int .i64 0] := by unfold parV; rw [hpe]; rfl
          have hpr : parE l = 80 := by unfold parE; rw [hpe]; rfl
          clear hpe
          generalize getE l.length 7 6 = er at *
          have HGB := Lib.hid hgb
          clear hgb
          go_wp2_with (go_at_call 118; refine (HGB.out _).mono ?_; rintro e w3 ⟨rfl, hb3⟩; obtain ⟨k1, k2, c0, c1, q0, q1, q2, f0, f1, f2, hb4⟩ := behind_get hbr hlo hB0 hB1 hb3; obtain ⟨z0, z1, z2, g0, g1, g2⟩ := tri_cells k1)
          (try simp only [Exit.inBlock, Exit.then])
          rw [hpv, hpr]
          refine bodyPost_ret ?hr rfl ⟨rfl, ?_⟩
          case hr =>
            simp only [results, Tryz.results67]
            go_simp
          (repeat' (first | (with_reducible exact Below.refl _ _) | (with_reducible assumption) | (with_reducible refine Below.alloc ?_ ?_ _) | (with_reducible refine Below.drew ?_) | (with_reducible refine below_drewN ?_ _) | (with_reducible refine Below.setCell ?_ ?_ _) | (with_reducible refine Below.trans ?_ (by assumption)) | go_size))
      · go_wp2
        go_meet
        exact ⟨rfl, hpl, hB0, hB1, hbr⟩
  obtain ⟨rfl, h13, hB0, hB1, hbw⟩ := hcut
  refine hK _ _ ?_; clear hK
  simp [pv] at hB0 hB1
  have hlo : w.heap.size + 1 < wc.heap.size := (Array.getElem?_eq_some_iff.1 hB1).1
  by_cases h14 : l.length = 13
  · have hpe : parM l = mayM (getN l 0 6) (getN l 6 1) (getN l 7 6) := by simp [parM, h14]
    unfold parV parE
    rw [hpe]
    clear hpe
    cases hm : mayM (getN l 0 6) (getN l 6 1) (getN l 7 6)
    all_goals
      have HM := Lib.hid hm
      clear hm
      first | rw [if_pos rfl, if_pos rfl] | rw [if_neg (by simp), if_neg (by simp)]
      obtain ⟨x0, x1, x2, -, -, -⟩ := tri_cells hB1
      go_wp2_with (go_at_call 71; refine (may_any _ _ _ _).mono ?_; rintro e w1 ⟨rfl, hb1⟩; rw [HM.out]; obtain ⟨z0, z1, z2, g0, g1, g2⟩ := tri_cells ((hb1.block _ (by omega)).trans hB0); obtain ⟨q0, q1, q2, f0, f1, f2⟩ := tri_cells ((hb1.block _ hlo).trans hB1); have hb4 := hbw.trans (hb1.mono (by omega)))
      (try simp only [Exit.inBlock, Exit.then])
      refine bodyPost_ret ?hr rfl ⟨rfl, ?_⟩
      case hr =>
        simp only [results, Tryz.results67]
        go_simp
      (repeat' (first | (with_reducible exact Below.refl _ _) | (with_reducible assumption) | (with_reducible refine Below.alloc ?_ ?_ _) | (with_reducible refine Below.drew ?_) | (with_reducible refine below_drewN ?_ _) | (with_reducible refine Below.setCell ?_ ?_ _) | (with_reducible refine Below.trans ?_ (by assumption)) | go_size))
  · have hpe : parM l = false := by simp [parM, h14]
    unfold parV parE
    rw [if_neg (by simp [hpe]), if_neg (by simp [hpe])]
    obtain ⟨z0, z1, z2, g0, g1, g2⟩ := tri_cells hB0
    go_wp2
    (try simp only [Exit.inBlock, Exit.then])
    refine bodyPost_ret ?hr rfl ⟨rfl, ?_⟩
    case hr =>
      simp only [results, Tryz.results67]
      go_simp
    (repeat' (first | (with_reducible exact Below.refl _ _) | (with_reducible assumption) | (with_reducible refine Below.alloc ?_ ?_ _) | (with_reducible refine Below.drew ?_) | (with_reducible refine below_drewN ?_ _) | (with_reducible refine Below.setCell ?_ ?_ _) | (with_reducible refine Below.trans ?_ (by assumption)) | go_size))
end Go.Proofs.YtddddemclhlfaaaGreatDoor
namespace Go.Proofs.YtddddemclhlfaaaGreatDoor
section
variable {d : Dk} {k : Nat}
end
section
variable {d : Dk} {rep reg v c : Int} {b : List UInt8} {i : Nat} {x : Cp}
end
end Go.Proofs.YtddddemclhlfaaaGreatDoor
namespace Go.Proofs.YtddddemclhlfaaaGreatDoor
section
variable {d : Dk} {rep reg inc : Int} {body : List UInt8} {o : Vo}
end
end Go.Proofs.YtddddemclhlfaaaGreatDoor
namespace Go.Proofs.YtddddemclhlfaaaGreatDoor
open Go.RowKit
structure Mt where
  r : Int
  p : Int
  i : Int
def zM : Mt := ⟨0, 0, 0⟩
def abvB (r p r' p' : Int) : Bool := decide (r' < r) || (decide (r = r') && decide (p' < p))
def storeM (d : Dk) (rep : Int) (m : Mt) : Dk × Mt × Int :=
  if mayM m.r m.p m.i = false then (d, zM, 2) else
  if (storeC d rep 1 m.i (metaL m.r m.p m.i)).2 ≠ 0 then ((storeC d rep 1 m.i (metaL m.r m.p m.i)).1, zM, (storeC d rep 1 m.i (metaL m.r m.p m.i)).2) else
  ((storeC d rep 1 m.i (metaL m.r m.p m.i)).1, m, 0)
def mV (m : Mt) : Value := .agg #[.int .i64 m.r, .int .i64 m.p, .int .i64 m.i]
def MRes (B g gp : Nat) (w : World) (r : Dk × Mt × Int) (e : Ending) (w' : World) : Prop :=
  e = .returned (.tuple #[mV r.2.1, .int .i64 r.2.2]) ∧ (∃ wv', DiskB B g gp wv' r.1 w') ∧ Kt B w w'
theorem metaL_len (r p i : Int) : (metaL r p i).length ≤ 13 := by
  unfold metaL
  split
  · simp [le_len]
  · simp
theorem metaL_one {r p i : Int} (h : mayM r p i = true) : (metaL r p i).length = 13 := by
  unfold metaL
  rw [if_pos h]
  simp [le_len]
theorem Kt.new {B q : Nat} {w w1 w2 : World} (h : Kt B w w1) (hg : w1.grownBy w2 (some q)) (hq : w.heap.size ≤ q) (hB : B ≤ w.heap.size) : Kt B w w2 :=
  ⟨h.bl.grown hg (Nat.le_trans hB h.bl.size) (fun k e => by cases e; omega), fun j cs T a b c e => tr_st hg (h.ty j cs T a b c e) (by have := lt_blk a; omega)⟩
theorem OwnB.cap {w : World} {base : Nat} {v : Value} {l : List UInt8} (h : w.ownsRow base 5 1 v l.length (bys l)) (hv : l ≠ []) : ∃ a c, v = .slice a l.length c ∧ OwnB w base a c l := by
  rcases h.2 with ⟨h1, h2⟩ | ⟨g, cap, cur, h1, h2, h3, h4, h5, h6, h7⟩
  · cases l with
    | nil => exact absurd rfl hv
    | cons x l => simp at h2
  · refine ⟨_, cap, h1, .inr ⟨g, cur.toList.drop (bys l).length, rfl, h2, h4, h5, ?_⟩⟩
    rw [Nat.mul_one] at h7
    have e : bys l ++ cur.toList.drop (bys l).length = cur.toList := by
      rw [bys_len, ← h7, List.take_append_drop]
    rw [e, Array.toArray_toList]
    exact h3
theorem DiskB.st {B g gp q : Nat} {wv : Value} {d : Dk} {w w' : World} {cs : Array Value} (h : DiskB B g gp wv d w) (hg : w.grownBy w' (some q)) (hc : w.heap[q]? = some (.cells cs 76 (0, 0))) : DiskB B g gp wv d w' := by
  have hne : ∀ {j : Nat} {xs : Array Value} {T : TypeId}, w.heap[j]? = some (.cells xs T (0, 0)) → T ≠ 76 → q ≠ j := fun hj hT e => by
    subst e
    rw [hc] at hj
    injection hj with hj
    injection hj with _ e
    exact hT e.symm
  exact ⟨tr_st hg h.box (hne h.box (by decide)), tr_st hg h.pls (hne h.pls (by decide)), owns_ne h.wts hg hc (by decide), h.gb, h.pb, h.n0, h.nl, h.lo, h.hi, h.ok, h.wk⟩
theorem st3 (x : Array Value) (hx : x.size = 3) (a b c : Int) : 0 + 3 ≤ x.size ∧ (Value.agg #[.int .i64 a, .int .i64 b, .int .i64 c]).cells.size = 3 ∧ (∀ u ∈ (Value.agg #[.int .i64 a, .int .i64 b, .int .i64 c]).cells.toList, u.oneCell' = true) ∧ (x.toList.take 0 ++ (Value.agg #[.int .i64 a, .int .i64 b, .int .i64 c]).cells.toList ++ x.toList.drop (0 + 3)).toArray = #[.int .i64 a, .int .i64 b, .int .i64 c] := by
  refine ⟨by omega, rfl, by simp [Value.cells, Value.oneCell'], ?_⟩
  rw [List.drop_of_length_le (by rw [Array.length_toList]; omega)]
  rfl
theorem ld3 (a b c : Int) : 0 + 3 ≤ (#[Value.int .i64 a, .int .i64 b, .int .i64 c]).size ∧ (#[Value.int .i64 a, .int .i64 b, .int .i64 c]).extract 0 (0 + 3) = #[Value.int .i64 a, .int .i64 b, .int .i64 c] := ⟨Nat.le_refl 3, rfl⟩
set_option maxHeartbeats 1000000 in
theorem above_any (r p r' p' : Int) (w : World) : Calls Tryz.prog 73 #[.agg #[.int .i64 r, .int .i64 p], .agg #[.int .i64 r', .int .i64 p']] w fun e w' => e = .returned (.bool (abvB r p r' p')) ∧ Below w.heap.size w w' := by
  unfold abvB
  by_cases h1 : r' < r
  · go_enter Tryz.func73, Tryz.ntmps73
    go_wp2
    go_ret
    exact ⟨ret_bool (by simp [h1]), by (repeat' (first | (with_reducible exact Below.refl _ _) | (with_reducible assumption) | (with_reducible refine Below.alloc ?_ ?_ _) | (with_reducible refine Below.drew ?_) | (with_reducible refine below_drewN ?_ _) | (with_reducible refine Below.setCell ?_ ?_ _) | (with_reducible refine Below.trans ?_ (by assumption)) | go_size))⟩
  · by_cases h2 : r = r'
    · subst h2
      by_cases h3 : p' < p
      all_goals
        go_enter Tryz.func73, Tryz.ntmps73
        go_wp2
        go_ret
        exact ⟨ret_bool (by simp [h3]), by (repeat' (first | (with_reducible exact Below.refl _ _) | (with_reducible assumption) | (with_reducible refine Below.alloc ?_ ?_ _) | (with_reducible refine Below.drew ?_) | (with_reducible refine below_drewN ?_ _) | (with_reducible refine Below.setCell ?_ ?_ _) | (with_reducible refine Below.trans ?_ (by assumption)) | go_size))⟩
    · go_enter Tryz.func73, Tryz.ntmps73
      go_wp2
      go_ret
      exact ⟨ret_bool (by simp [h1]), by (repeat' (first | (with_reducible exact Below.refl _ _) | (with_reducible assumption) | (with_reducible refine Below.alloc ?_ ?_ _) | (with_reducible refine Below.drew ?_) | (with_reducible refine below_drewN ?_ _) | (with_reducible refine Below.setCell ?_ ?_ _) | (with_reducible refine Below.trans ?_ (by assumption)) | go_size))⟩
section
variable {B g gp : Nat} {wv : Value} {d : Dk} {w : World}
set_option maxRecDepth 100000 in
set_option maxHeartbeats 1000000 in
theorem mstore_any (h : DiskB B g gp wv d w) (hb : B ≤ w.heap.size) (hw : d.waits.length ≤ 1000) (rep r p i : Int) : Calls Tryz.prog 68 #[.pointer (some ⟨g, 0, none⟩), .int .i64 rep, .agg #[.int .i64 r, .int .i64 p, .int .i64 i]] w (MRes B g gp w (storeM d rep ⟨r, p, i⟩)) := by
  unfold storeM
  simp only
  cases hm : mayM r p i
  case false =>
    rw [if_pos rfl]
    have HE := Lib.hid (show metaE r p i = 2 by unfold metaE; rw [hm]; rfl)
    clear hm
    go_enter Tryz.func68, Tryz.ntmps68
    refine wp_seq_k (fun K hK => ?_)
    have HK := Lib.hid hK
    clear hK
    go_wp2
    refine HK.out _ _ ?_
    clear HK
    have hb0 := (blw w (Obj.cells #[.int .i64 r, .int .i64 p, .int .i64 i] 76)).alloc (by simp) (Obj.cells #[.int .i64 0, .int .i64 0, .int .i64 0] 76)
    have B1 := tr_al (Obj.cells #[.int .i64 0, .int .i64 0, .int .i64 0] 76) (heap_alloc_new w (Obj.cells #[.int .i64 r, .int .i64 p, .int .i64 i] 76))
    have R1 := heap_alloc_new (w.alloc (Obj.cells #[.int .i64 r, .int .i64 p, .int .i64 i] 76)) (Obj.cells #[.int .i64 0, .int .i64 0, .int .i64 0] 76)
    rw [show (w.alloc (Obj.cells #[.int .i64 r, .int .i64 p, .int .i64 i] 76)).heap.size = w.heap.size + 1 by simp] at R1
    change Code.wp _ _ _ _ ((w.alloc (Obj.cells #[.int .i64 r, .int .i64 p, .int .i64 i] 76)).alloc (Obj.cells #[.int .i64 0, .int .i64 0, .int .i64 0] 76))
    generalize (w.alloc (Obj.cells #[.int .i64 r, .int .i64 p, .int .i64 i] 76)).alloc (Obj.cells #[.int .i64 0, .int .i64 0, .int .i64 0] 76) = w0 at *
    obtain ⟨q0, q1, q2, -, -, -⟩ := tri_cells B1
    refine wp_seq_k (fun K hK => ?_)
    have HK := Lib.hid hK
    clear hK
    go_wp2_with (go_at_call 119; refine (print_any r p i _).mono ?_; rintro e w1 ⟨⟨v1, rfl, hown⟩, hb1⟩; rw [HE.out])
    refine HK.out _ _ ?_
    clear HK
    clear q0 q1 q2
    have B2 := tr_bl hb1 B1
    have R2 := tr_bl hb1 R1
    have hb2 := hb0.trans (hb1.mono hb0.size)
    have D2 := h.below hb2
    have k2 := Kt.of hb2 hb
    clear B1 R1 hb0
    go_wp2_with ((with_reducible refine wpList_stB 76 _ _ ?_); refine ⟨_, _, _, ⟨_, _, _, Tryz.sizeOf76, rfl, R2, st3 _ rfl 0 0 0⟩, ?_⟩; intro w5 R5 g5)
    refine bodyPost_ret (results_c1t1 rfl rfl (run_loadVar_all Tryz.isAgg76 Tryz.sizeOf76 R5 rfl)) rfl ⟨rfl, ⟨_, D2.st g5 R2⟩, k2.new g5 (by omega) hb⟩
  case true =>
    rw [if_neg (by simp)]
    have HE := Lib.hid (show metaE r p i = 0 by unfold metaE; rw [hm]; rfl)
    have HL := Lib.hid (metaL_one hm)
    clear hm
    obtain ⟨d3, e3, hsr⟩ : ∃ d3 e3, storeC d rep 1 i (metaL r p i) = (d3, e3) := ⟨_, _, rfl⟩
    rw [hsr]
    simp only
    have HS := Lib.hid hsr
    clear hsr
    go_enter Tryz.func68, Tryz.ntmps68
    refine wp_seq_k (fun K hK => ?_)
    have HK := Lib.hid hK
    clear hK
    go_wp2
    refine HK.out _ _ ?_
    clear HK
    have hb0 := (blw w (Obj.cells #[.int .i64 r, .int .i64 p, .int .i64 i] 76)).alloc (by simp) (Obj.cells #[.int .i64 0, .int .i64 0, .int .i64 0] 76)
    have B1 := tr_al (Obj.cells #[.int .i64 0, .int .i64 0, .int .i64 0] 76) (heap_alloc_new w (Obj.cells #[.int .i64 r, .int .i64 p, .int .i64 i] 76))
    have R1 := heap_alloc_new (w.alloc (Obj.cells #[.int .i64 r, .int .i64 p, .int .i64 i] 76)) (Obj.cells #[.int .i64 0, .int .i64 0, .int .i64 0] 76)
    rw [show (w.alloc (Obj.cells #[.int .i64 r, .int .i64 p, .int .i64 i] 76)).heap.size = w.heap.size + 1 by simp] at R1
    change Code.wp _ _ _ _ ((w.alloc (Obj.cells #[.int .i64 r, .int .i64 p, .int .i64 i] 76)).alloc (Obj.cells #[.int .i64 0, .int .i64 0, .int .i64 0] 76))
    generalize (w.alloc (Obj.cells #[.int .i64 r, .int .i64 p, .int .i64 i] 76)).alloc (Obj.cells #[.int .i64 0, .int .i64 0, .int .i64 0] 76) = w0 at *
    obtain ⟨q0, q1, q2, -, -, -⟩ := tri_cells B1
    refine wp_seq_k (fun K hK => ?_)
    have HK := Lib.hid hK
    clear hK
    go_wp2_with (go_at_call 119; refine (print_any r p i _).mono ?_; rintro e w1 ⟨⟨v1, rfl, hown⟩, hb1⟩; rw [HE.out])
    refine HK.out _ _ ?_
    clear HK
    clear q0 q1 q2
    have B2 := tr_bl hb1 B1
    have R2 := tr_bl hb1 R1
    have hb2 := hb0.trans (hb1.mono hb0.size)
    have D2 := h.below hb2
    have k2 := Kt.of hb2 hb
    clear B1 R1 hb0
    obtain ⟨va, vc, rfl, O2⟩ := OwnB.cap hown (by intro e; have hl := HL.out; rw [e] at hl; cases hl)
    have c0 := blk_cell B2 2 _ rfl
    have hst := cstore_any D2 (Nat.le_trans hb k2.bl.size) rep 1 i va vc (metaL r p i) (fun w' hk => (O2.kt hk).slb) (Nat.le_trans (metaL_len r p i) (by decide)) hw
    rw [HS.out] at hst
    simp only at hst
    clear hown
    by_cases h0 : e3 = 0
    · subst h0
      rw [if_neg (by simp)]
      refine wp_seq_k (fun K hK => ?_)
      have HK := Lib.hid hK
      clear hK
      go_wp2
      refine HK.out _ _ ?_
      clear HK
      refine wp_seq_k (fun K hK => ?_)
      have HK := Lib.hid hK
      clear hK
      go_wp2_with (go_at_call 22; refine hst.mono ?_; rintro e w3 ⟨rfl, ⟨wv3, D3⟩, hk3⟩)
      refine HK.out _ _ ?_
      clear HK
      have R3 := hk3.ty _ _ _ R2 (by decide) (by decide) (by decide)
      have k3 := k2.trans hk3
      clear hst c0
      have B3 := hk3.ty _ _ _ B2 (by decide) (by decide) (by decide)
      obtain ⟨q0, q1, q2, -, -, -⟩ := tri_cells B3
      go_wp2_with ((with_reducible refine wpList_stB 76 _ _ ?_); refine ⟨_, _, _, ⟨_, _, _, Tryz.sizeOf76, rfl, R3, st3 _ rfl r p i⟩, ?_⟩; intro w5 R5 g5)
      refine bodyPost_ret (results_c1t1 rfl rfl (run_loadVar_all Tryz.isAgg76 Tryz.sizeOf76 R5 rfl)) rfl ⟨rfl, ⟨_, D3.st g5 R3⟩, k3.new g5 (by omega) hb⟩
    · rw [if_pos h0]
      have hn : (e3 != 0) = true := by rw [bne_iff_ne]; exact h0
      refine wp_seq_k (fun K hK => ?_)
      have HK := Lib.hid hK
      clear hK
      go_wp2
      refine HK.out _ _ ?_
      clear HK
      go_wp2_with (first
        | (go_at_call 22; refine hst.mono ?_; rintro e w3 ⟨rfl, ⟨wv3, D3⟩, hk3⟩; have R3 := hk3.ty _ _ _ R2 (by decide) (by decide) (by decide); have k3 := k2.trans hk3; clear hst c0)
        | ((with_reducible refine wpList_stB 76 _ _ ?_); refine ⟨_, _, _, ⟨_, _, _, Tryz.sizeOf76, rfl, R3, st3 _ rfl 0 0 0⟩, ?_⟩; intro w5 R5 g5))
      refine bodyPost_ret (results_c1t1 rfl rfl (run_loadVar_all Tryz.isAgg76 Tryz.sizeOf76 R5 rfl)) rfl ⟨rfl, ⟨_, D3.st g5 R3⟩, k3.new g5 (by omega) hb⟩
end
end Go.Proofs.YtddddemclhlfaaaGreatDoor
