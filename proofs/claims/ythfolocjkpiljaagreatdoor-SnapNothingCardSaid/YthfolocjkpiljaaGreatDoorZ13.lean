/- Texts that the claim leans on, part 13: X31, S12, S13, S14, S15, D50, S16, S17, S18. -/
import Derived.Test.YthfolocjkpiljaaGreatDoorZ1
import Derived.Test.YthfolocjkpiljaaGreatDoorZ2
import Derived.Test.YthfolocjkpiljaaGreatDoorZ3
import Derived.Test.YthfolocjkpiljaaGreatDoorZ4
import Derived.Test.YthfolocjkpiljaaGreatDoorZ5
import Derived.Test.YthfolocjkpiljaaGreatDoorZ6
import Derived.Test.YthfolocjkpiljaaGreatDoorZ7
import Derived.Test.YthfolocjkpiljaaGreatDoorZ8
import Derived.Test.YthfolocjkpiljaaGreatDoorZ9
import Derived.Test.YthfolocjkpiljaaGreatDoorZ10
import Derived.Test.YthfolocjkpiljaaGreatDoorZ11
import Derived.Test.YthfolocjkpiljaaGreatDoorZ12
import Derived.Test.YthfolocjkpiljaaGreatDoorRows
import Derived.WalkKit
import Derived.WalkSpells
import Derived.WalkLawsBesides
import Derived.Handy
import Derived.Deep.QuietTactic
import Derived.BigQuiet
import Derived.Deep.DeepCutAuto
import Derived.Lib.Hide
import Derived.RegionTactic
import Derived.ChangeAlike
import Derived.Laws.ResultCell
import Derived.Outline
import Derived.IntWalk
import Derived.Shelf.Abstract
import Derived.Shelf.RegionOpen
import Derived.OwnWalkIn
import Derived.TacticsInMore
import Derived.LoopNIn
import Derived.LoopIn
import Derived.Maps.AppendAt
import Derived.Lib.SliceRun
import Derived.Laws.IdiomStrings
import Derived.Laws.BytesArg
import Derived.Carry
import Derived.Maps.Own
import Derived.Maps.Keyed
import Derived.RangeFuncNested
import Derived.RangeFuncBound
import Derived.RangeFuncCalls
import Derived.RangeFuncLeaves
import Derived.RangeFuncBox
import Derived.RangeFuncRecord
import Derived.OrdersIn
import Derived.OrdersHeld
import Derived.Laws.MakeOwn
import Derived.Laws.BitsAllLaws
import Derived.Great.BuildSlice
import Derived.Great.FillDense
import Derived.Laws.Rows
import Derived.Deep.Quiet
import Derived.Deep.RegionHeld3
import Derived.ProofKit
import Derived.OpenShut
import Derived.Laws.CopyOwn
import Derived.Laws.CopyRow
import Derived.Laws.NewBlocks
import Derived.Deep.RegionLaw
namespace Go.Proofs.YthfolocjkpiljaaGreatDoor

section
variable {d : Dk}
theorem flush_clean (h : CleanL d.pl) : CleanL (flushD d).1.pl := by
  rcases flush_pl d with ⟨e, _⟩ | ⟨e, _⟩
  · rw [e]; exact h
  · rw [e]; exact clean_thru _ _ _ _ h
theorem putC_clean (h : CleanL d.pl) (t : Tg) (body : List UInt8) : CleanL (putC d t body).1.pl := by
  have hw := (write_pl d (firstN t.reg t.pla) (sealF t body 64)).1
  unfold putC
  split
  · rw [hw]; exact h
  · exact flush_clean (by rw [hw]; exact h)
theorem two_clean (h : CleanL d.pl) (t t' : Tg) (body : List UInt8) : CleanL (if (putC d t body).2 ≠ 0 then putC d t body else putC (putC d t body).1 t' body).1.pl := by
  split
  · exact putC_clean h _ _
  · exact putC_clean (putC_clean h _ _) _ _
theorem storeC_clean (h : CleanL d.pl) (rep reg inc : Int) (body : List UInt8) : CleanL (storeC d rep reg inc body).1.pl := by
  unfold storeC
  split
  · exact h
  · split
    · exact h
    · split
      · exact h
      · split
        · exact h
        · simp only
          split
          · exact h
          · split
            · exact h
            · exact two_clean h _ _ _
theorem putS_pl (d : Dk) (s : Sh) (k : Int) (c : List UInt8) : (putS d s k c).1.pl = d.pl := by
  unfold putS
  split
  · exact (write_pl _ _ _).1
  · exact ((write_pl _ _ _).1).trans (write_pl _ _ _).1
theorem putsS_pl (s : Sh) : ∀ (l : List (List UInt8)) (d : Dk) (k : Nat), (putsS d s k l).1.pl = d.pl
  | [], _, _ => rfl
  | c :: l, d, k => by
    rw [putsS_cons]
    split
    · exact putS_pl d s k c
    · exact (putsS_pl s l _ (k + 1)).trans (putS_pl d s k c)
theorem install_clean (h : CleanL d.pl) (s : Sh) (idx : Int) (b : List UInt8) : CleanL (installS d s idx b).1.pl := by
  have hp : ∀ m : Sh, CleanL (putsS d m 0 (splitC b)).1.pl := fun m => by rw [putsS_pl]; exact h
  unfold installS
  split
  · exact h
  · split
    · exact h
    · split
      · exact h
      · simp only
        split
        · exact hp _
        · split
          · exact flush_clean (hp _)
          · split
            · exact storeC_clean (flush_clean (hp _)) _ _ _ _
            · exact storeC_clean (flush_clean (hp _)) _ _ _ _
end
end Go.Proofs.YthfolocjkpiljaaGreatDoor

namespace Go.Proofs.YthfolocjkpiljaaGreatDoor
open Go.RowKit

theorem shM_ld (i a c r n : Int) (p : Value) : 0 + 3 ≤ (#[Value.int .i64 i, .int .i64 a, .int .i64 c, p, .int .i64 r, .int .i64 n]).size ∧ (#[Value.int .i64 i, .int .i64 a, .int .i64 c, p, .int .i64 r, .int .i64 n]).extract 0 (0 + 3) = #[Value.int .i64 i, .int .i64 a, .int .i64 c] := ⟨by simp, rfl⟩
section
variable {B g gp q : Nat} {wv : Value} {d : Dk} {w : World} {s : Sh}
set_option maxRecDepth 100000 in
set_option maxHeartbeats 1000000 in
theorem smend_any (h : ShB w q g s) (hd : DiskB B g gp wv d w) (hb : B ≤ w.heap.size) (hok : ShOk s) (k : Int) (a : Option Addr) (cap : Nat) (c : List UInt8) (hs : SlB w a cap c) (hw : d.waits.length ≤ 1000) :
    Calls Tryz.prog 66 #[.pointer (some ⟨q, 0, none⟩), .int .i64 k, .slice a c.length cap] w (Does2 B g gp w (mendS d s k c)) := by
  have ha := sasked_any h hd k
  have hfi := sfits_any k s.cnt a cap c w hs
  have c2 := h.c2
  obtain ⟨ak, hak⟩ : ∃ ak, askedS d s k = ak := ⟨_, rfl⟩
  rw [hak] at ha
  have hm : mendS d s k c = if ak = 2 ∨ fitsC k s.cnt c.length = false then (d, 2) else if ak ≠ 0 then (d, ak) else if (readS d s k).2 = true then (d, 2) else if (putS d s k c).2 ≠ 0 then putS d s k c else flushD (putS d s k c).1 := by
    unfold mendS
    rw [hak]
  rw [hm]
  clear hm
  have h1 : ak ≠ 1 := by
    rw [← hak]
    unfold askedS
    split
    · decide
    · split <;> decide
  have e1 : (ak == 1) = false := by rw [beq_eq_false_iff_ne]; exact h1
  clear h1
  by_cases h2 : ak = 2
  · rw [if_pos (.inl h2)]
    subst h2
    clear hak
    go_enter Tryz.func66, Tryz.ntmps66
    go_wp2_with (go_at_call 156; refine ha.mono ?_; rintro e w1 ⟨rfl, rfl⟩)
    go_ret
    exact Does2.of rfl ⟨_, hd⟩ (Kt.of (Below.refl _ _) hb)
  have e2 : (ak == 2) = false := by rw [beq_eq_false_iff_ne]; exact h2
  cases hft : fitsC k s.cnt c.length
  · rw [if_pos (.inr rfl)]
    rw [hft] at hfi
    clear hak hft h2
    go_enter Tryz.func66, Tryz.ntmps66
    go_wp2_with (first
      | (go_at_call 156; refine ha.mono ?_; rintro e w1 ⟨rfl, rfl⟩)
      | (go_at_call 157; refine hfi.mono ?_; rintro e w2 ⟨rfl, hb2⟩))
    go_ret
    exact Does2.of rfl ⟨_, hd.below hb2⟩ (Kt.of hb2 hb)
  rw [if_neg (by simp [h2])]
  rw [hft] at hfi
  have hcl : c.length ≤ 80 := by
    unfold fitsC at hft
    split at hft
    · cases hft
    · omega
  clear hft h2
  by_cases h0 : ak = 0
  case neg =>
    rw [if_pos h0]
    have e0 : (ak != 0) = true := by rw [bne_iff_ne]; exact h0
    clear hak h0
    go_enter Tryz.func66, Tryz.ntmps66
    go_wp2_with (first
      | (go_at_call 156; refine ha.mono ?_; rintro e w1 ⟨rfl, rfl⟩)
      | (go_at_call 157; refine hfi.mono ?_; rintro e w2 ⟨rfl, hb2⟩))
    go_ret
    exact Does2.of rfl ⟨_, hd.below hb2⟩ (Kt.of hb2 hb)
  case pos =>
    subst h0
    rw [if_neg (by simp)]
    obtain ⟨k1, k2, _⟩ := asked_ok hak
    have hk8 : 0 ≤ k ∧ k < 8 := ⟨k1, by have := hok.c; omega⟩
    have hal : Alike s s := ⟨hok, by omega, rfl, rfl⟩
    have hbk := fun w' (hb2 : Below w.heap.size w w') => sbroken_any (h.below hb2) (hd.below hb2) hok k hk8
    clear hak e1 e2
    cases hrd : (readS d s k).2
    case true =>
      rw [if_pos rfl]
      rw [hrd] at hbk
      clear hrd
      go_enter Tryz.func66, Tryz.ntmps66
      go_wp2_with (first
        | (go_at_call 156; refine ha.mono ?_; rintro e w1 ⟨rfl, rfl⟩)
        | (go_at_call 157; refine hfi.mono ?_; rintro e w2 ⟨rfl, hb2⟩)
        | (go_at_call 158; refine (hbk _ hb2).mono ?_; rintro e w3 ⟨rfl, hb3⟩; have hb4 := hb2.trans (hb3.mono hb2.size)))
      go_ret
      exact Does2.of rfl ⟨_, hd.below hb4⟩ (Kt.of hb4 hb)
    case false =>
      rw [if_neg (by simp)]
      rw [hrd] at hbk
      clear hrd
      have hpt := fun w' (hb4 : Below w.heap.size w w') => sput_any (h.below hb4) (hd.below hb4) (Nat.le_trans hb hb4.size) hal k hk8 a cap c (hs.below hb4) hcl hw
      obtain ⟨d1, x1, hp⟩ : ∃ d1 x1, putS d s k c = (d1, x1) := ⟨_, _, rfl⟩
      rw [hp] at hpt ⊢
      clear hp
      simp only
      by_cases hx : x1 = 0
      case neg =>
        rw [if_pos hx]
        have ex : (x1 != 0) = true := by rw [bne_iff_ne]; exact hx
        clear hx
        go_enter Tryz.func66, Tryz.ntmps66
        refine wp_seq_k (fun K hK => ?_)
        have HK := Lib.hid hK
        clear hK
        go_wp2
        refine HK.out _ _ ?_
        clear HK
        refine wp_seq_k (fun K hK => ?_)
        have HK := Lib.hid hK
        clear hK
        go_wp2_with (go_at_call 156; refine ha.mono ?_; rintro e w1 ⟨rfl, rfl⟩)
        refine HK.out _ _ ?_
        clear HK
        refine wp_seq_k (fun K hK => ?_)
        have HK := Lib.hid hK
        clear hK
        go_wp2_with (first
          | (go_at_call 157; refine hfi.mono ?_; rintro e w2 ⟨rfl, hb2⟩)
          | (go_at_call 158; refine (hbk _ hb2).mono ?_; rintro e w3 ⟨rfl, hb3⟩; have hb4 := hb2.trans (hb3.mono hb2.size)))
        refine HK.out _ _ ?_
        clear HK
        have S4 : ShB w3 q g s := h.below hb4
        have SB : w3.heap[q]? = some (.cells #[.int .i64 s.idx, .int .i64 s.area, .int .i64 s.cnt, .pointer (some ⟨g, 0, none⟩), .int .i64 s.rep, .int .i64 s.inc] 239 (0, 0)) := S4
        have hpt4 := hpt _ hb4
        clear c2 hpt hbk hfi ha
        go_wp2_with (first
          | ((with_reducible refine wpList_ldB 237 _ ?_); refine ⟨rfl, _, ⟨_, _, _, _, _, Tryz.isAgg237, Tryz.sizeOf237, rfl, ‹_›, shM_ld _ _ _ _ _ _⟩, ?_⟩)
          | (go_at_call 143; refine hpt4.mono ?_; rintro e w5 ⟨rfl, ⟨wv5, D5⟩, k5⟩; have S5 := S4.kt k5; have c3 := S5.c3; have hfl := flush_any D5 (Nat.le_trans hb ((Kt.of hb4 hb).trans k5).bl.size))
          | (go_at_call 144; refine hfl.mono ?_; rintro e w6 ⟨rfl, D6, k6⟩))
        go_ret
        exact Does2.of rfl ⟨_, D5⟩ ((Kt.of hb4 hb).trans k5)
      case pos =>
        subst hx
        rw [if_neg (by simp)]
        go_enter Tryz.func66, Tryz.ntmps66
        refine wp_seq_k (fun K hK => ?_)
        have HK := Lib.hid hK
        clear hK
        go_wp2
        refine HK.out _ _ ?_
        clear HK
        refine wp_seq_k (fun K hK => ?_)
        have HK := Lib.hid hK
        clear hK
        go_wp2_with (go_at_call 156; refine ha.mono ?_; rintro e w1 ⟨rfl, rfl⟩)
        refine HK.out _ _ ?_
        clear HK
        refine wp_seq_k (fun K hK => ?_)
        have HK := Lib.hid hK
        clear hK
        go_wp2_with (first
          | (go_at_call 157; refine hfi.mono ?_; rintro e w2 ⟨rfl, hb2⟩)
          | (go_at_call 158; refine (hbk _ hb2).mono ?_; rintro e w3 ⟨rfl, hb3⟩; have hb4 := hb2.trans (hb3.mono hb2.size)))
        refine HK.out _ _ ?_
        clear HK
        have S4 : ShB w3 q g s := h.below hb4
        have SB : w3.heap[q]? = some (.cells #[.int .i64 s.idx, .int .i64 s.area, .int .i64 s.cnt, .pointer (some ⟨g, 0, none⟩), .int .i64 s.rep, .int .i64 s.inc] 239 (0, 0)) := S4
        have hpt4 := hpt _ hb4
        clear c2 hpt hbk hfi ha
        go_wp2_with (first
          | ((with_reducible refine wpList_ldB 237 _ ?_); refine ⟨rfl, _, ⟨_, _, _, _, _, Tryz.isAgg237, Tryz.sizeOf237, rfl, ‹_›, shM_ld _ _ _ _ _ _⟩, ?_⟩)
          | (go_at_call 143; refine hpt4.mono ?_; rintro e w5 ⟨rfl, ⟨wv5, D5⟩, k5⟩; have S5 := S4.kt k5; have c3 := S5.c3; have hfl := flush_any D5 (Nat.le_trans hb ((Kt.of hb4 hb).trans k5).bl.size))
          | (go_at_call 144; refine hfl.mono ?_; rintro e w6 ⟨rfl, D6, k6⟩))
        go_ret
        exact ⟨rfl, D6, ((Kt.of hb4 hb).trans k5).trans k6⟩
end
end Go.Proofs.YthfolocjkpiljaaGreatDoor

namespace Go.Proofs.YthfolocjkpiljaaGreatDoor
open Go.RowKit

/-- What stays beside a disk and a shelf. -/
structure Kq (B : Nat) (w w' : World) : Prop where
  bl : Below B w w'
  ty : ∀ (j : Nat) (cs : Array Value) (T : TypeId), w.heap[j]? = some (.cells cs T (0, 0)) → T ≠ 175 → T ≠ 218 → T ≠ 278 → T ≠ 239 → w'.heap[j]? = some (.cells cs T (0, 0))
section
variable {B g gp q base c : Nat} {wv : Value} {d : Dk} {w w' w'' : World} {s : Sh} {a : Option Addr} {l : List UInt8}
theorem Kt.kq (h : Kt B w w') : Kq B w w' := ⟨h.bl, fun j cs T a b c d _ => h.ty j cs T a b c d⟩
theorem Kq.trans (h : Kq B w w') (k : Kq B w' w'') : Kq B w w'' := ⟨h.bl.trans k.bl, fun j cs T a b c d e => k.ty j cs T (h.ty j cs T a b c d e) b c d e⟩
theorem Kq.st (hS : ShB w q g s) (hg : w.grownBy w' (some q)) (hB : B ≤ q) : Kq B w w' := by
  refine ⟨(Below.refl B w).grown hg (by have := lt_blk hS; omega) (fun k e => by cases e; exact hB), fun j cs T h _ _ _ h4 => tr_st hg h ?_⟩
  rintro rfl
  rw [hS] at h
  injection h with h
  injection h with _ e
  exact h4 e.symm
theorem OwnB.kq (h : OwnB w base a c l) (hk : Kq B w w') : OwnB w' base a c l := by
  rcases h with h | ⟨g, ys, h1, h2, h3, h4, h5⟩
  · exact .inl h
  · exact .inr ⟨g, ys, h1, h2, h3, h4, hk.ty _ _ _ h5 (by decide) (by decide) (by decide) (by decide)⟩
theorem OwnS.kq (h : OwnS w base a c l) (hk : Kq B w w') : OwnS w' base a c l := ⟨h.1.kq hk, h.2⟩
theorem DiskB.sh (h : DiskB B g gp wv d w) (hS : ShB w q g s) (hg : w.grownBy w' (some q)) : DiskB B g gp wv d w' := by
  have hne : ∀ {j : Nat} {xs : Array Value} {T : TypeId}, w.heap[j]? = some (.cells xs T (0, 0)) → T ≠ 239 → q ≠ j := fun hj hT e => by
    subst e
    rw [hS] at hj
    injection hj with hj
    injection hj with _ e
    exact hT e.symm
  exact ⟨tr_st hg h.box (hne h.box (by decide)), tr_st hg h.pls (hne h.pls (by decide)), owns_ne h.wts hg hS (by decide), h.gb, h.pb, h.n0, h.nl, h.lo, h.hi, h.ok, h.wk⟩
theorem st6s (i a c r n : Int) (p : Value) (i' a' c' : Int) : 0 + 3 ≤ (#[Value.int .i64 i, .int .i64 a, .int .i64 c, p, .int .i64 r, .int .i64 n]).size ∧ (Value.agg #[.int .i64 i', .int .i64 a', .int .i64 c']).cells.size = 3 ∧ (∀ u ∈ (Value.agg #[.int .i64 i', .int .i64 a', .int .i64 c']).cells.toList, u.oneCell' = true) ∧ ((#[Value.int .i64 i, .int .i64 a, .int .i64 c, p, .int .i64 r, .int .i64 n]).toList.take 0 ++ (Value.agg #[.int .i64 i', .int .i64 a', .int .i64 c']).cells.toList ++ (#[Value.int .i64 i, .int .i64 a, .int .i64 c, p, .int .i64 r, .int .i64 n]).toList.drop (0 + 3)).toArray = #[.int .i64 i', .int .i64 a', .int .i64 c', p, .int .i64 r, .int .i64 n] :=
  ⟨by simp, rfl, by simp [Value.cells, Value.oneCell'], rfl⟩
/-- What Install hands back. -/
def IRes (B g gp q : Nat) (w : World) (r : Dk × Sh × Int) (e : Ending) (w' : World) : Prop := e = .returned (.int .i64 r.2.2) ∧ (∃ wv', DiskB B g gp wv' r.1 w') ∧ ShB w' q g r.2.1 ∧ Kq B w w'
theorem IRes.of {r : Dk × Sh × Int} {x : Int} (hr : r = (d, s, x)) (hd : ∃ wv', DiskB B g gp wv' d w') (hs : ShB w' q g s) (hk : Kq B w w') : IRes B g gp q w r (.returned (.int .i64 x)) w' := by
  subst hr
  exact ⟨rfl, hd, hs, hk⟩
theorem nextS_alike {s : Sh} (hok : ShOk s) {idx : Int} {n : Nat} (h1 : s.idx < idx) (h2 : idx ≤ 1099511627752) (h3 : 1 ≤ n) (h4 : n ≤ 8) : Alike s (nextS s idx n) := by
  have hi := hok.i
  have ha := hok.a
  refine ⟨⟨⟨?_, h2⟩, ?_, ⟨?_, ?_⟩, hok.r, hok.n⟩, ?_, rfl, rfl⟩
  · show 0 ≤ idx; omega
  · show 0 ≤ (if 0 < s.idx then 1 - s.area else 0) ∧ (if 0 < s.idx then 1 - s.area else 0) ≤ 1
    split <;> omega
  · show (0 : Int) ≤ n; omega
  · show (n : Int) ≤ 8; omega
  · show (1 : Int) ≤ n; omega
set_option maxRecDepth 100000 in
theorem sinst_bad (h : ShB w q g s) (hd : DiskB B g gp wv d w) (hb : B ≤ w.heap.size) (idx : Int) (a : Option Addr) (cap : Nat) (b : List UInt8) (hi : idx ≤ s.idx ∨ 1099511627752 < idx) :
    Calls Tryz.prog 55 #[.pointer (some ⟨q, 0, none⟩), .int .i64 idx, .slice a b.length cap] w (IRes B g gp q w (d, s, 2)) := by
  have c0 := h.c0
  by_cases h1 : idx ≤ s.idx
  · clear hi
    go_enter Tryz.func55, Tryz.ntmps55
    go_wp2_with (go_at_call 141; refine (snone_any h).mono ?_; rintro e w1 ⟨rfl, rfl⟩)
    go_ret
    exact IRes.of rfl ⟨_, hd⟩ h (Kt.of (Below.refl _ _) hb).kq
  · have h2 : 1099511627752 < idx := by omega
    clear hi
    go_enter Tryz.func55, Tryz.ntmps55
    go_wp2_with (go_at_call 141; refine (snone_any h).mono ?_; rintro e w1 ⟨rfl, rfl⟩)
    go_ret
    exact IRes.of rfl ⟨_, hd⟩ h (Kt.of (Below.refl _ _) hb).kq
set_option maxRecDepth 100000 in
theorem sinst_no (h : ShB w q g s) (hd : DiskB B g gp wv d w) (hb : B ≤ w.heap.size) (idx : Int) (a : Option Addr) (cap : Nat) (b : List UInt8) (hs : SlB w a cap b) (hi : ¬ (idx ≤ s.idx ∨ 1099511627752 < idx)) (hl : 640 < b.length ∨ upD d = false) :
    Calls Tryz.prog 55 #[.pointer (some ⟨q, 0, none⟩), .int .i64 idx, .slice a b.length cap] w (IRes B g gp q w (d, s, if 640 < b.length then 3 else 5)) := by
  have c0 := h.c0
  have i1 : ¬ idx ≤ s.idx := by omega
  have i2 : ¬ 1099511627752 < idx := by omega
  have hsp := split_any a cap b w hs
  clear hi
  by_cases h6 : 640 < b.length
  · rw [if_pos h6]
    clear hl
    go_enter Tryz.func55, Tryz.ntmps55
    go_wp2_with (first
      | (go_at_call 141; refine (snone_any h).mono ?_; rintro e w1 ⟨rfl, rfl⟩)
      | (go_at_call 142; refine hsp.mono ?_; rintro e w2 ⟨hr2, hb2⟩; unfold SplRes at hr2; rw [if_pos h6] at hr2; subst hr2))
    go_ret
    exact IRes.of rfl ⟨_, hd.below hb2⟩ (h.below hb2) (Kt.of hb2 hb).kq
  · rw [if_neg h6]
    have hu : upD d = false := hl.resolve_left h6
    clear hl
    go_enter Tryz.func55, Tryz.ntmps55
    go_wp2_with (first
      | (go_at_call 141; refine (snone_any h).mono ?_; rintro e w1 ⟨rfl, rfl⟩)
      | (go_at_call 142; refine hsp.mono ?_; rintro e w2 ⟨hr2, hb2⟩; unfold SplRes at hr2; rw [if_neg h6] at hr2; obtain ⟨a2, c2, rfl, hc2⟩ := hr2; have cc3 := (h.below hb2).c3)
      | (go_at_call 129; refine (up_any (hd.below hb2)).mono ?_; rintro e w3 ⟨rfl, rfl⟩; rw [hu]))
    go_ret
    exact IRes.of rfl ⟨_, hd.below hb2⟩ (h.below hb2) (Kt.of hb2 hb).kq
end
end Go.Proofs.YthfolocjkpiljaaGreatDoor

namespace Go.Proofs.YthfolocjkpiljaaGreatDoor
open Go.RowKit

section
variable {B g gp q mb base : Nat} {wv v : Value} {d : Dk} {w w1 w2 : World} {s : Sh} {T : TypeId} {cs : Array Value} {l : List (List UInt8)}
theorem ne_ty {j : Nat} {xs : Array Value} {T' : TypeId} (hc : w.heap[mb]? = some (.cells cs T (0, 0))) (hj : w.heap[j]? = some (.cells xs T' (0, 0))) (hT : T' ≠ T) : mb ≠ j := fun e => by
  subst e
  rw [hc] at hj
  injection hj with hj
  injection hj with _ e
  exact hT e.symm
theorem DiskB.ot (h : DiskB B g gp wv d w) (hg : w.grownBy w1 (some mb)) (hc : w.heap[mb]? = some (.cells cs T (0, 0))) (h1 : 175 ≠ T) (h2 : 218 ≠ T) (h3 : 278 ≠ T) : DiskB B g gp wv d w1 :=
  ⟨tr_st hg h.box (ne_ty hc h.box h1), tr_st hg h.pls (ne_ty hc h.pls h2), owns_ne h.wts hg hc h3, h.gb, h.pb, h.n0, h.nl, h.lo, h.hi, h.ok, h.wk⟩
theorem ShB.ot (h : ShB w q g s) (hg : w.grownBy w1 (some mb)) (hc : w.heap[mb]? = some (.cells cs T (0, 0))) (h1 : 239 ≠ T) : ShB w1 q g s := tr_st hg h (ne_ty hc h h1)
theorem Kt.nw (h : Kt B w w1) (hg : w1.grownBy w2 (some mb)) (hq : w.heap.size ≤ mb) (hB : B ≤ w.heap.size) : Kt B w w2 :=
  ⟨h.bl.grown hg (Nat.le_trans hB h.bl.size) (fun k e => by cases e; omega), fun j cs T a b c e => tr_st hg (h.ty j cs T a b c e) (by have := lt_blk a; omega)⟩
theorem ChIn.ot (h : ChIn w base v l) (hg : w.grownBy w1 (some mb)) (hc : w.heap[mb]? = some (.cells cs T (0, 0))) (h1 : 34 ≠ T) (h2 : 5 ≠ T) : ChIn w1 base v l := by
  obtain ⟨es, r1, r2, r3⟩ := h
  refine ⟨es, ⟨r1.1, ?_⟩, r2, fun e he => ⟨?_, (r3 e he).2⟩⟩
  · rcases r1.2 with h4 | ⟨g, cap, cur, h4, h5, h6, h7⟩
    · exact .inl h4
    · exact .inr ⟨g, cap, cur, h4, h5, tr_st hg h6 (ne_ty hc h6 h1), h7⟩
  · rcases (r3 e he).1 with h4 | ⟨g, ys, h4, h5, h6, h7, h8⟩
    · exact .inl h4
    · exact .inr ⟨g, ys, h4, h5, h6, h7, tr_st hg h8 (ne_ty hc h8 h2)⟩
theorem man_set {i a c a' : Int} (h : w.heap[mb]? = some (.cells #[.int .i64 i, .int .i64 a, .int .i64 c] T (0, 0))) : (w.setCell ⟨mb, 1, none⟩ (.int .i64 a')).heap[mb]? = some (.cells #[.int .i64 i, .int .i64 a', .int .i64 c] T (0, 0)) := by
  obtain ⟨hlt, hk⟩ := Array.getElem?_eq_some_iff.1 h
  show (w.heap.modify mb _)[mb]? = _
  rw [Array.getElem?_eq_getElem (by rw [Array.size_modify]; exact hlt), Array.getElem_modify_self, hk]
  rfl
theorem gb_set (w : World) (mb k : Nat) (v : Value) : w.grownBy (w.setCell ⟨mb, k, none⟩ v) (some mb) :=
  ⟨rfl, rfl, rfl, (KeepsWalks.setCell w _ v).size, fun k _ hk => Below.heap_setCell _ _ _ k (fun e => hk (by rw [e]))⟩
theorem nextS_area (s : Sh) (idx : Int) (n : Nat) : (nextS s idx n).area = if 0 < s.idx then 1 - s.area else 0 := rfl
set_option maxRecDepth 100000 in
set_option maxHeartbeats 4000000 in
theorem sinst_ok (h : ShB w q g s) (hd : DiskB B g gp wv d w) (hb : B ≤ w.heap.size) (hq : B ≤ q) (hok : ShOk s) (idx : Int) (a : Option Addr) (cap : Nat) (b : List UInt8) (hs : SlB w a cap b) (i1 : s.idx < idx) (i2 : idx ≤ 1099511627752) (hl : b.length ≤ 640) (hu : upD d = true) (hw : d.waits.length ≤ 900) :
    Calls Tryz.prog 55 #[.pointer (some ⟨q, 0, none⟩), .int .i64 idx, .slice a b.length cap] w (IRes B g gp q w (installS d s idx b)) := by
  have hn8 := numC_le hl
  have hal := nextS_alike hok (n := numC b.length) i1 i2 hn8.1 hn8.2
  have hin : installS d s idx b = if (putsS d (nextS s idx (numC b.length)) 0 (splitC b)).2 ≠ 0 then ((putsS d (nextS s idx (numC b.length)) 0 (splitC b)).1, s, (putsS d (nextS s idx (numC b.length)) 0 (splitC b)).2) else
      if (flushD (putsS d (nextS s idx (numC b.length)) 0 (splitC b)).1).2 ≠ 0 then ((flushD (putsS d (nextS s idx (numC b.length)) 0 (splitC b)).1).1, s, (flushD (putsS d (nextS s idx (numC b.length)) 0 (splitC b)).1).2) else
      if (storeC (flushD (putsS d (nextS s idx (numC b.length)) 0 (splitC b)).1).1 s.rep 2 s.inc (manB idx (nextS s idx (numC b.length)).area (numC b.length))).2 ≠ 0 then ((storeC (flushD (putsS d (nextS s idx (numC b.length)) 0 (splitC b)).1).1 s.rep 2 s.inc (manB idx (nextS s idx (numC b.length)).area (numC b.length))).1, s, (storeC (flushD (putsS d (nextS s idx (numC b.length)) 0 (splitC b)).1).1 s.rep 2 s.inc (manB idx (nextS s idx (numC b.length)).area (numC b.length))).2) else
      ((storeC (flushD (putsS d (nextS s idx (numC b.length)) 0 (splitC b)).1).1 s.rep 2 s.inc (manB idx (nextS s idx (numC b.length)).area (numC b.length))).1, nextS s idx (numC b.length), 0) := by
    unfold installS
    rw [if_neg (by omega), if_neg (by omega), if_neg (by simp [hu])]
    rfl
  obtain ⟨r, hr⟩ : ∃ r, installS d s idx b = r := ⟨_, rfl⟩
  rw [hr]
  rw [hr] at hin
  have HIN := Lib.hid hin
  clear hr hin
  have hsl := splitC_len b
  have hsat := fun j (hj : j < (splitC b).length) => splitC_at b hj
  have hpl := fun k => pcC_len b k
  have hsp := split_any a cap b w hs
  have i1' : ¬ idx ≤ s.idx := by omega
  have i2' : ¬ 1099511627752 < idx := by omega
  have h6 : ¬ 640 < b.length := by omega
  have c0 := h.c0
  obtain ⟨n, hn⟩ : ∃ n, numC b.length = n := ⟨_, rfl⟩
  rw [hn] at hn8 hal hsl
  have HNN := Lib.hid hn
  have HSL := Lib.hid hsl
  have HI := Lib.hid (And.intro i1 i2)
  have HSA := Lib.hid hsat
  have HPC := Lib.hid hpl
  clear hn hsl i1 i2 hs hsat hpl
  have ci := hok.a
  go_enter Tryz.func55, Tryz.ntmps55
  refine wp_seq_k (fun K hK => ?_)
  have HK := Lib.hid hK
  clear hK
  go_wp2
  refine HK.out _ _ ?_
  clear HK
  refine wp_seq_k (fun K hK => ?_)
  have HK := Lib.hid hK
  clear hK
  go_wp2_with (go_at_call 141; refine (snone_any h).mono ?_; rintro e w1 ⟨rfl, rfl⟩)
  refine HK.out _ _ ?_
  clear HK
  refine wp_seq_k (fun K hK => ?_)
  have HK := Lib.hid hK
  clear hK
  go_wp2_with (go_at_call 142; refine hsp.mono ?_; rintro e w2 ⟨hr2, hb2⟩; unfold SplRes at hr2; rw [if_neg h6, HNN.out] at hr2; obtain ⟨a2, c2, rfl, hc2⟩ := hr2)
  refine HK.out _ _ ?_
  clear HK
  have S2 := h.below hb2
  have D2 := hd.below hb2
  have cc3 := S2.c3
  have hup := up_any D2
  rw [hu] at hup
  clear c0 hsp hd
  refine wp_seq_k (fun K hK => ?_)
  have HK := Lib.hid hK
  clear hK
  go_wp2_with (go_at_call 129; refine hup.mono ?_; rintro e w3 ⟨rfl, rfl⟩)
  refine HK.out _ _ ?_
  clear HK
  clear cc3 hup
  refine wp_seq_k (fun K hK => ?_)
  have HK := Lib.hid hK
  clear hK
  go_wp2_with ((first | (with_reducible refine wpList_stNew 237 _ _ ?_) | (with_reducible refine wp_stNew 237 _ _ ?_)); refine ⟨_, _, ⟨Tryz.sizeOf237, rfl, new3s _ _ _⟩, rfl, ?_⟩)
  refine HK.out _ _ ?_
  clear HK
  have M3 := heap_alloc_new w2 (Obj.cells #[.int .i64 idx, .int .i64 0, .int .i64 (n : Int)] 237)
  have hbn := blw w2 (Obj.cells #[.int .i64 idx, .int .i64 0, .int .i64 (n : Int)] 237)
  have S3 := S2.below hbn
  have D3 := D2.below hbn
  have C3 := hc2.below hbn
  have hwm := hb2.size
  have k3 := (Kt.of hb2 hb).trans (Kt.of hbn (Nat.le_trans hb hb2.size))
  clear S2 D2 hc2 hb2 hbn
  generalize w2.alloc (Obj.cells #[.int .i64 idx, .int .i64 0, .int .i64 (n : Int)] 237) = w3 at *
  generalize w2.heap.size = mb at *
  have hna := nextS_area s idx n
  have c0 := S3.c0
  have c1 := S3.c1
  have m1 := (man_cells M3).2.1
  have mf : w3.frozen? ⟨mb, 1, none⟩ = false := by simp [World.frozen?, M3]
  obtain ⟨ar, har⟩ : ∃ ar, (nextS s idx n).area = ar := ⟨_, rfl⟩
  rw [har] at hna
  have HAR := Lib.hid har
  clear har
  refine wp_seq_k (fun K hK => ?_)
  go_cut [] (fun wx => DiskB B g gp wv d wx ∧ ShB wx q g s ∧ wx.heap[mb]? = some (.cells #[.int .i64 idx, .int .i64 ar, .int .i64 (n : Int)] 237 (0, 0)) ∧ ChIn wx w.heap.size (.slice a2 n c2) (splitC b) ∧ Kt B w wx)
  case first =>
    by_cases h0 : 0 < s.idx
    · rw [if_pos h0] at hna
      subst hna
      go_wp2
      go_meet
      exact ⟨D3.ot (gb_set _ _ _ _) M3 (by decide) (by decide) (by decide), S3.ot (gb_set _ _ _ _) M3 (by decide), man_set M3, C3.ot (gb_set _ _ _ _) M3 (by decide) (by decide), k3.nw (gb_set _ _ _ _) hwm hb⟩
    · rw [if_neg h0] at hna
      subst hna
      go_wp2
      go_meet
      exact ⟨D3, S3, M3, C3, k3⟩
  obtain ⟨D4, S4, M4, C4, k4⟩ := hcut
  refine hK _ _ ?_
  clear hK c0 c1 m1 mf hna D3 S3 M3 C3 k3 hwm ci
  obtain ⟨es, e1, e2, e3⟩ := id C4
  have hwb : Below w.heap.size w w := Below.refl _ _
  clear e1 e2 e3 es hwb
  refine wp_seq_k (fun K hK => ?_)
  have HK := Lib.hid hK
  clear hK
  go_wp2_with fail
  go_loopw [65] (fun i wr => ∃ (j : Nat) (dj : Dk), j ≤ n ∧ i = .int .i64 (j : Nat) ∧ Hid (putsS d (nextS s idx n) 0 ((splitC b).take j) = (dj, 0)) ∧ (∃ wv', DiskB B g gp wv' dj wr) ∧ ShB wr q g s ∧ wr.heap[mb]? = some (.cells #[.int .i64 idx, .int .i64 ar, .int .i64 (n : Int)] 237 (0, 0)) ∧ ChIn wr w.heap.size (.slice a2 n c2) (splitC b) ∧ Kt B w wr) (fun i _ => n - (intOf i).toNat)
  case atStart => exact ⟨0, d, by omega, rfl, Lib.hid rfl, ⟨_, D4⟩, S4, M4, C4, k4⟩
  case round =>
    clear D4 S4 M4 C4 k4
    obtain ⟨j, dj, hj, rfl, hpj, ⟨wvj, D5⟩, S5, M5, C5, k5⟩ := hrel
    by_cases hlt : j < n
    case neg =>
      obtain rfl : j = n := by omega
      have hall : putsS d (nextS s idx j) 0 (splitC b) = (dj, 0) := by
        have h1 := hpj.out
        rw [← HSL.out, List.take_length, HSL.out] at h1
        exact h1
      have hwj : dj.waits.length ≤ 1000 := by
        have h1 := puts_waits (nextS s idx j) (splitC b) d 0
        rw [hall, HSL.out] at h1
        simp only at h1
        omega
      have hB5 := Nat.le_trans hb k5.bl.size
      have hfl := flush_any D5 hB5
      obtain ⟨d6, x6, hf6⟩ : ∃ d6 x6, flushD dj = (d6, x6) := ⟨_, _, rfl⟩
      rw [hf6] at hfl
      have hw6 : d6.waits.length ≤ 1000 := by
        rcases flush_pl dj with ⟨_, h1⟩ | ⟨_, h1⟩ <;> rw [hf6] at h1 <;> simp only at h1 <;> rw [h1]
        · exact hwj
        · simp
      have hin := HIN.out
      rw [HNN.out, hall] at hin
      simp only [not_true_eq_false, if_false] at hin
      rw [hf6] at hin
      simp only at hin
      have HIN2 := Lib.hid hin
      clear hin hall hpj HIN hf6
      have c3 := S5.c3
      go_wp2
      refine HK.out _ _ ?_
      clear HK
      by_cases hx : x6 = 0
      case neg =>
        have ex : (x6 != 0) = true := by rw [bne_iff_ne]; exact hx
        have hrr : r = (d6, s, x6) := by
          rw [HIN2.out]
          exact if_pos hx
        clear HIN2 hx
        go_wp2_with (go_at_call 144; refine hfl.mono ?_; rintro e w7 ⟨rfl, ⟨wv7, D7⟩, k7⟩)
        go_ret
        exact IRes.of hrr ⟨_, D7⟩ (S5.kt k7) (k5.trans k7).kq
      case pos =>
        subst hx
        refine wp_seq_k (fun K hK => ?_)
        have HK := Lib.hid hK
        clear hK
        go_wp2_with (go_at_call 144; refine hfl.mono ?_; rintro e w7 ⟨rfl, ⟨wv7, D7⟩, k7⟩)
        refine HK.out _ _ ?_
        clear HK
        have S7 := S5.kt k7
        have M7 := k7.ty _ _ _ M5 (by decide) (by decide) (by decide)
        have k8 := k5.trans k7
        have hB7 := Nat.le_trans hb k8.bl.size
        clear c3 hfl D5 S5 M5 C5 k5 k7 hB5
        refine wp_seq_k (fun K hK => ?_)
        have HK1 := Lib.hid hK
        clear hK
        refine wp_seq_k (fun K hK => ?_)
        have HK2 := Lib.hid hK
        clear hK
        go_wp2_with fail
        have hbd := (Below.refl w7.heap.size w7).drew
        have D9 := D7.below hbd
        have S9 := S7.below hbd
        have M9 := tr_bl hbd M7
        have k9 := k8.trans (Kt.of hbd hB7)
        have hB9 := Nat.le_trans hB7 hbd.size
        refine wp_region_held_drew (S := fun w' => ShB w' q g s ∧ w'.heap[mb]? = some (.cells #[.int .i64 idx, .int .i64 ar, .int .i64 (j : Int)] 237 (0, 0))) (by kernel_rfl) ⟨S9, M9⟩ (fun hS0 => ?_)
        clear hbd D7 S7 M7 k8 hB7
        generalize w7.drew = x0 at *
        refine wpAnyH_take (i := 0) (oi := ⟨_, _, _, _, _, _⟩) (v := ?_) rfl (by kernel_rfl) (by kernel_rfl) (by kernel_rfl) (fun _ _ _ h => h) (Or.inl ⟨by rfl, ?_⟩) (by assumption) ?_
        rotate_left
        · intro wS hSw
          go_simp; (try with_reducible rfl)
        (try simp only [Act.put])
        (try simp only [List.setIfInBounds_toArray])
        (try simp only [List.set_cons_succ])
        (try simp only [List.set_cons_zero])
        refine wpAnyH_take (i := 1) (oi := ⟨_, _, _, _, _, _⟩) (v := ?_) rfl (by kernel_rfl) (by kernel_rfl) (by kernel_rfl) (fun _ _ _ h => h) (Or.inl ⟨by rfl, ?_⟩) (by assumption) ?_
        rotate_left
        · intro wS hSw
          go_simp; (try with_reducible rfl)
        (try simp only [Act.put])
        (try simp only [List.setIfInBounds_toArray])
        (try simp only [List.set_cons_succ])
        (try simp only [List.set_cons_zero])
        refine wpAnyH_take (i := 2) (oi := ⟨_, _, _, _, _, _⟩) (v := ?_) rfl (by kernel_rfl) (by kernel_rfl) (by kernel_rfl) (fun _ _ _ h => h) (Or.inl ⟨by rfl, ?_⟩) (by assumption) ?_
        rotate_left
        · intro wS hSw
          go_simp; (try with_reducible rfl)
        (try simp only [Act.put])
        (try simp only [List.setIfInBounds_toArray])
        (try simp only [List.set_cons_succ])
        (try simp only [List.set_cons_zero])
        refine wpAnyH_take (i := 3) (oi := ⟨_, _, _, _, _, _⟩) (v := ?_) rfl (by kernel_rfl) (by kernel_rfl) (by kernel_rfl) (fun _ _ _ h => h) (Or.inl ⟨by rfl, ?_⟩) (by assumption) ?_
        rotate_left
        · intro wS hSw
          have c := hSw.1.c3; go_simp; (try with_reducible rfl)
        (try simp only [Act.put])
        (try simp only [List.setIfInBounds_toArray])
        (try simp only [List.set_cons_succ])
        (try simp only [List.set_cons_zero])
        refine wpAnyH_take (i := 4) (oi := ⟨_, _, _, _, _, _⟩) (v := ?_) rfl (by kernel_rfl) (by kernel_rfl) (by kernel_rfl) (fun _ _ _ h => h) (Or.inl ⟨by rfl, ?_⟩) (by assumption) ?_
        rotate_left
        · intro wS hSw
          go_simp; (try with_reducible rfl)
        (try simp only [Act.put])
        (try simp only [List.setIfInBounds_toArray])
        (try simp only [List.set_cons_succ])
        (try simp only [List.set_cons_zero])
        refine wpAnyH_take (i := 5) (oi := ⟨_, _, _, _, _, _⟩) (v := ?_) rfl (by kernel_rfl) (by kernel_rfl) (by kernel_rfl) (fun _ _ _ h => h) (Or.inl ⟨by rfl, ?_⟩) (by assumption) ?_
        rotate_left
        · intro wS hSw
          go_simp; (try with_reducible rfl)
        (try simp only [Act.put])
        (try simp only [List.setIfInBounds_toArray])
        (try simp only [List.set_cons_succ])
        (try simp only [List.set_cons_zero])
        refine wpAnyH_take (i := 6) (oi := ⟨_, _, _, _, _, _⟩) (v := ?_) rfl (by kernel_rfl) (by kernel_rfl) (by kernel_rfl) (fun _ _ _ h => h) (Or.inl ⟨by rfl, ?_⟩) (by assumption) ?_
        rotate_left
        · intro wS hSw
          go_simp; (try with_reducible rfl)
        (try simp only [Act.put])
        (try simp only [List.setIfInBounds_toArray])
        (try simp only [List.set_cons_succ])
        (try simp only [List.set_cons_zero])
        refine wpAnyH_take (i := 7) (oi := ⟨_, _, _, _, _, _⟩) (v := ?_) rfl (by kernel_rfl) (by kernel_rfl) (by kernel_rfl) (fun _ _ _ h => h) (Or.inl ⟨by rfl, ?_⟩) (by assumption) ?_
        rotate_left
        · intro wS hSw
          have c := hSw.1.c4; go_simp; (try with_reducible rfl)
        (try simp only [Act.put])
        (try simp only [List.setIfInBounds_toArray])
        (try simp only [List.set_cons_succ])
        (try simp only [List.set_cons_zero])
        refine wpAnyH_take (i := 8) (oi := ⟨_, _, _, _, _, _⟩) (v := ?_) rfl (by kernel_rfl) (by kernel_rfl) (by kernel_rfl) (fun _ _ _ h => h) (Or.inl ⟨by rfl, ?_⟩) (by assumption) ?_
        rotate_left
        · intro wS hSw
          go_simp; (try with_reducible rfl)
        (try simp only [Act.put])
        (try simp only [List.setIfInBounds_toArray])
        (try simp only [List.set_cons_succ])
        (try simp only [List.set_cons_zero])
        refine wpAnyH_take (i := 9) (oi := ⟨_, _, _, _, _, _⟩) (v := ?_) rfl (by kernel_rfl) (by kernel_rfl) (by kernel_rfl) (fun _ _ _ h => h) (Or.inl ⟨by rfl, ?_⟩) (by assumption) ?_
        rotate_left
        · intro wS hSw
          go_simp; (try with_reducible rfl)
        (try simp only [Act.put])
        (try simp only [List.setIfInBounds_toArray])
        (try simp only [List.set_cons_succ])
        (try simp only [List.set_cons_zero])
        refine wpAnyH_take (i := 10) (oi := ⟨_, _, _, _, _, _⟩) (v := ?_) rfl (by kernel_rfl) (by kernel_rfl) (by kernel_rfl) (fun _ _ _ h => h) (Or.inl ⟨by rfl, ?_⟩) (by assumption) ?_
        rotate_left
        · intro wS hSw
          go_simp; (try with_reducible rfl)
        (try simp only [Act.put])
        (try simp only [List.setIfInBounds_toArray])
        (try simp only [List.set_cons_succ])
        (try simp only [List.set_cons_zero])
        refine wpAnyH_take (i := 11) (oi := ⟨_, _, _, _, _, _⟩) (v := ?_) rfl (by kernel_rfl) (by kernel_rfl) (by kernel_rfl) (fun _ _ _ h => h) (Or.inl ⟨by rfl, ?_⟩) (by assumption) ?_
        rotate_left
        · intro wS hSw
          have c := hSw.1.c5; go_simp; (try with_reducible rfl)
        (try simp only [Act.put])
        (try simp only [List.setIfInBounds_toArray])
        (try simp only [List.set_cons_succ])
        (try simp only [List.set_cons_zero])
        refine wpAnyH_take (i := 12) (oi := ⟨_, _, _, _, _, _⟩) (v := .agg (#[.int .i64 idx, .int .i64 ar, .int .i64 (j : Int)])) rfl (by kernel_rfl) (by kernel_rfl) (by kernel_rfl) (fun _ _ _ h => h) (Or.inl ⟨by rfl, fun wS hSw => ?_⟩) (by assumption) ?_
        · exact exec_ldB 237 _ ⟨_, _, _, _, _, Tryz.isAgg237, Tryz.sizeOf237, rfl, hSw.2, ld3s _ _ _⟩
        (try simp only [Act.put])
        (try simp only [List.setIfInBounds_toArray])
        (try simp only [List.set_cons_succ])
        (try simp only [List.set_cons_zero])
        refine wpAnyH_ready (rs := [13]) (by kernel_rfl) (by simp) ?_
        refine AllReadyH.cons (o := ⟨_, _, _, _, _, _⟩) rfl (fun K' hK' => ?_) AllReadyH.nil
        refine (if_pos (by rfl)).mpr ?_
        go_simp
        have hmm : mayMan idx ar (j : Int) := by
          have h1 := hal.ok.a
          rw [HAR.out] at h1
          have h2 := HI.out
          have h3 := hok.i
          exact ⟨by omega, h2.2, h1.1, h1.2, by omega, by omega⟩
        refine (sbody_any idx ar (j : Int) hmm _).mono ?_
        rintro e w10 ⟨⟨a10, c10, rfl, hO10⟩, hb10⟩
        have D10 := D9.below hb10
        have S10 := S9.below hb10
        have M10 := tr_bl hb10 M9
        have k10 := k9.trans (Kt.of hb10 hB9)
        have hB10 := Nat.le_trans hB9 hb10.size
        refine hK'.out _ _ ⟨S10, M10⟩ (fun _ => ?_)
        clear hK' D9 S9 M9 k9 hB9 hb10 hS0
        (try simp only [Act.put])
        (try simp only [List.setIfInBounds_toArray])
        (try simp only [List.set_cons_succ])
        (try simp only [List.set_cons_zero])
        refine wpAnyH_ready (rs := [14]) (by kernel_rfl) (by simp) ?_
        refine AllReadyH.cons (o := ⟨_, _, _, _, _, _⟩) rfl (fun K' hK' => ?_) AllReadyH.nil
        refine (if_pos (by rfl)).mpr ?_
        go_simp
        have hst := cstore_any D10 hB10 s.rep 2 s.inc a10 c10 (manB idx ar (j : Int)) (fun w' hk => (hO10.kt hk).slb) (by rw [manB_len]; omega) hw6
        rw [manB_len] at hst
        obtain ⟨d11, x11, hd11⟩ : ∃ d11 x11, storeC d6 s.rep 2 s.inc (manB idx ar (j : Int)) = (d11, x11) := ⟨_, _, rfl⟩
        rw [hd11] at hst
        have hin := HIN2.out
        rw [HAR.out, hd11] at hin
        simp only [not_true_eq_false, if_false] at hin
        have HIN3 := Lib.hid hin
        clear hin HIN2 hd11
        refine hst.mono ?_
        rintro e w11 ⟨rfl, ⟨wv11, D11⟩, hk11⟩
        have S11 := S10.kt hk11
        have M11 := hk11.ty _ _ _ M10 (by decide) (by decide) (by decide)
        have k11 := k10.trans hk11
        refine hK'.out _ _ ⟨S11, M11⟩ (fun _ => ?_)
        clear hK' D10 S10 M10 k10 hB10 hk11 hst hO10
        (try simp only [Act.put])
        (try simp only [List.setIfInBounds_toArray])
        (try simp only [List.set_cons_succ])
        (try simp only [List.set_cons_zero])
        refine wpAnyH_take (i := 15) (oi := ⟨_, _, _, _, _, _⟩) (v := ?_) rfl (by kernel_rfl) (by kernel_rfl) (by kernel_rfl) (fun _ _ _ h => h) (Or.inl ⟨by rfl, ?_⟩) (by assumption) ?_
        rotate_left
        · intro wS hSw
          go_simp; (try with_reducible rfl)
        (try simp only [Act.put])
        (try simp only [List.setIfInBounds_toArray])
        (try simp only [List.set_cons_succ])
        (try simp only [List.set_cons_zero])
        refine wpAnyH_done (by kernel_rfl) ?_ _
        refine HK2.out _ _ ?_
        clear HK2
        by_cases hy : x11 = 0
        case neg =>
          have ey : (x11 != 0) = true := by rw [bne_iff_ne]; exact hy
          have hrr : r = (d11, s, x11) := by
            rw [HIN3.out]
            exact if_pos hy
          clear HIN3 hy HK1
          go_wp2
          go_ret
          exact IRes.of rfl ⟨_, D11⟩ S11 k11.kq
        case pos =>
          subst hy
          have hrr : r = (d11, nextS s idx j, 0) := by
            rw [HIN3.out]
            exact if_neg (by simp)
          clear HIN3
          go_wp2
          refine HK1.out _ _ ?_
          clear HK1
          have SB : w11.heap[q]? = some (.cells #[.int .i64 s.idx, .int .i64 s.area, .int .i64 s.cnt, .pointer (some ⟨g, 0, none⟩), .int .i64 s.rep, .int .i64 s.inc] 239 (0, 0)) := S11
          go_wp2_with (first
            | ((with_reducible refine wpList_ldB 237 _ ?_); refine ⟨rfl, _, ⟨_, _, _, _, _, Tryz.isAgg237, Tryz.sizeOf237, rfl, ‹_›, ld3s _ _ _⟩, ?_⟩)
            | ((with_reducible refine wpList_stB 237 _ _ ?_); refine ⟨_, _, _, ⟨_, _, _, Tryz.sizeOf237, rfl, SB, st6s _ _ _ _ _ _ idx ar (j : Int)⟩, ?_⟩; intro w12 Z12 g12))
          go_ret
          exact IRes.of hrr ⟨_, D11.sh S11 g12⟩ (by rw [← HAR.out] at Z12; exact Z12) (k11.kq.trans (Kq.st S11 g12 hq))
    case pos =>
      have hlt2 : j < (splitC b).length := by rw [HSL.out]; exact hlt
      obtain ⟨es, e1, e2, e3⟩ := id C5
      have hel : es.length = n := by have := congrArg List.length e2; rw [List.length_map, HSL.out] at this; exact this
      have hje : j < es.length := by omega
      have hej : es[j].2.2 = pcC b j := by
        have h1 : (es.map (·.2.2))[j]? = some es[j].2.2 := by simp [hje]
        rw [e2, List.getElem?_eq_getElem hlt2, HSA.out j hlt2] at h1
        exact (Option.some.inj h1).symm
      have hO := e3 es[j] (List.getElem_mem hje)
      rw [hej] at hO
      obtain ⟨ba, bc, hv, hrw, _, _⟩ := Row.of_owns e1
      injection hv with hv1 hv2 hv3
      clear hv2 hv3
      subst hv1
      obtain ⟨rb, ro, rfl, hcs⟩ := hrw.at (k := j) (by rw [List.length_map]; exact hje)
      have hcj := hcs j (.slice es[j].1 (pcC b j).length es[j].2.1) (by
        rw [List.getElem?_map, List.getElem?_eq_getElem hje]
        show some (ekV es[j]) = _
        unfold ekV
        rw [hej])
      obtain ⟨ea, ec, hee⟩ : ∃ ea ec, es[j].1 = ea ∧ es[j].2.1 = ec := ⟨_, _, rfl, rfl⟩
      rw [hee.1, hee.2] at hO hcj
      have hB5 := Nat.le_trans hb k5.bl.size
      have hwj : dj.waits.length ≤ 1000 := by
        have h1 := puts_waits (nextS s idx n) ((splitC b).take j) d 0
        rw [hpj.out, List.length_take, Nat.min_eq_left (by omega)] at h1
        simp only at h1
        omega
      have hpt := sput_any S5 D5 hB5 hal (j : Int) (by omega) ea ec (pcC b j) hO.slb (by rw [HPC.out]; exact Nat.min_le_left _ _) hwj
      obtain ⟨d6, x6, hp6⟩ : ∃ d6 x6, putS dj (nextS s idx n) (j : Int) (pcC b j) = (d6, x6) := ⟨_, _, rfl⟩
      rw [hp6, show (nextS s idx n).idx = idx from rfl, HAR.out, show (nextS s idx n).cnt = (n : Int) from rfl] at hpt
      have hnx : putsS d (nextS s idx n) 0 ((splitC b).take (j + 1)) = (d6, x6) := puts_next hlt2 hpj.out (by rw [HSA.out j hlt2]; exact hp6)
      have HNX := Lib.hid hnx
      have hI : (j : Int) < (n : Int) := by omega
      clear hp6 hnx hcs hrw e1 e2 e3 hej hee hje hel hO
      by_cases hx : x6 = 0
      case neg =>
        have ex : (x6 != 0) = true := by rw [bne_iff_ne]; exact hx
        have hrr : r = (d6, s, x6) := by
          rw [HIN.out, HNN.out, puts_stop HNX.out hx]
          exact if_pos hx
        clear HIN HK hx
        go_wp2_with (first
          | ((with_reducible refine wpList_ldB 237 _ ?_); refine ⟨rfl, _, ⟨_, _, _, _, _, Tryz.isAgg237, Tryz.sizeOf237, rfl, ‹_›, ld3s _ _ _⟩, ?_⟩)
          | (go_at_call 143; refine hpt.mono ?_; rintro e w7 ⟨rfl, ⟨wv7, D7⟩, k7⟩))
        go_ret
        exact IRes.of hrr ⟨_, D7⟩ (S5.kt k7) (k5.trans k7).kq
      case pos =>
        subst hx
        go_wp2_with (first
          | ((with_reducible refine wpList_ldB 237 _ ?_); refine ⟨rfl, _, ⟨_, _, _, _, _, Tryz.isAgg237, Tryz.sizeOf237, rfl, ‹_›, ld3s _ _ _⟩, ?_⟩)
          | (go_at_call 143; refine hpt.mono ?_; rintro e w7 ⟨rfl, ⟨wv7, D7⟩, k7⟩))
        go_roundw
        case rel => exact ⟨j + 1, d6, by omega, by go_num, HNX, ⟨_, D7⟩, S5.kt k7, k7.ty _ _ _ M5 (by decide) (by decide) (by decide), C5.kt k7, k5.trans k7⟩
        case measure => simp [intOf]; omega
end
end Go.Proofs.YthfolocjkpiljaaGreatDoor

namespace Go.Proofs.YthfolocjkpiljaaGreatDoor
open Go.RowKit

/-- What Open hands back. -/
def OpRes (B g gp : Nat) (w : World) (r : Dk × Sh × Int) (e : Ending) (w' : World) : Prop :=
  ((r.2.2 = 0 ∧ ∃ q, e = .returned (.tuple #[.pointer (some ⟨q, 0, none⟩), .int .i64 0]) ∧ w.heap.size ≤ q ∧ ShB w' q g r.2.1) ∨ (r.2.2 ≠ 0 ∧ e = .returned (.tuple #[.pointer none, .int .i64 r.2.2]))) ∧ (∃ wv', DiskB B g gp wv' r.1 w') ∧ Kt B w w'
section
variable {B g gp : Nat} {wv : Value} {d : Dk} {w w' : World}
theorem OpRes.err {r : Dk × Sh × Int} {s : Sh} {x : Int} (hr : r = (d, s, x)) (hx : x ≠ 0) (hd : ∃ wv', DiskB B g gp wv' d w') (hk : Kt B w w') : OpRes B g gp w r (.returned (.tuple #[.pointer none, .int .i64 x])) w' := by
  subst hr
  exact ⟨.inr ⟨hx, rfl⟩, hd, hk⟩
theorem OpRes.ok {r : Dk × Sh × Int} {s : Sh} {q : Nat} (hr : r = (d, s, 0)) (hq : w.heap.size ≤ q) (hs : ShB w' q g s) (hd : ∃ wv', DiskB B g gp wv' d w') (hk : Kt B w w') : OpRes B g gp w r (.returned (.tuple #[.pointer (some ⟨q, 0, none⟩), .int .i64 0])) w' := by
  subst hr
  exact ⟨.inl ⟨rfl, q, rfl, hq, hs⟩, hd, hk⟩
theorem load_len2 (hd : DiskB B g gp wv d w) (rep reg : Int) : (loadC d rep reg).2.1.length ≤ 64 := by
  have hc : ∀ i : Int, (copyC d rep reg i).body.length ≤ 64 := fun i => by
    have h1 := mine_len (readD d (firstN reg i)).1 rep reg i
    have h2 := read_len hd (firstN reg i)
    show (mineF (readD d (firstN reg i)).1 rep reg i).2.2.length ≤ 64
    by_cases h0 : (readD d (firstN reg i)).2 = 0
    · have := h2.1 h0; omega
    · have := h2.2 h0; rw [this] at h1 ⊢; exact Nat.le_trans h1 (by simp)
  unfold loadC
  split
  · simp
  · split
    · simp
    · unfold pickC
      simp only
      split
      · exact hc 1
      · exact hc 0
set_option maxRecDepth 100000 in
set_option maxHeartbeats 2000000 in
theorem sopen_any (hd : DiskB B g gp wv d w) (hb : B ≤ w.heap.size) (rep inc : Int) (hw : d.waits.length ≤ 1000) : Calls Tryz.prog 58 #[.pointer (some ⟨g, 0, none⟩), .int .i64 rep, .int .i64 inc] w (OpRes B g gp w (openS d rep inc)) := by
  have hn0 := hd.n0
  have e0 : (0 : Int) < d.pl.length := by omega
  obtain ⟨r, hr⟩ : ∃ r, openS d rep inc = r := ⟨_, rfl⟩
  rw [hr]
  have HR := Lib.hid hr
  clear hr
  by_cases j1 : d.pl.length < 156
  · have e1 : (d.pl.length : Int) < 156 := by omega
    have hin : r = (d, ⟨0, 0, 0, rep, inc⟩, 2) := by
      rw [← HR.out]
      unfold openS
      simp only
      rw [if_pos ⟨hn0, .inl j1⟩]
    clear HR
    go_enter Tryz.func58, Tryz.ntmps58
    go_wp2_with (first
      | (go_at_call 93; refine (dsize hd).mono ?_; rintro e w1 ⟨rfl, rfl⟩)
      | (go_at_call 127; refine (all_any _).mono ?_; rintro e w1 ⟨rfl, hb1⟩))
    go_ret2
    exact OpRes.err hin (by decide) ⟨_, hd.below hb1⟩ (Kt.of hb1 hb)
  have e1 : ¬ (d.pl.length : Int) < 156 := by omega
  by_cases j2 : rep < 0
  · skip
    have hin : r = (d, ⟨0, 0, 0, rep, inc⟩, 2) := by
      rw [← HR.out]
      unfold openS
      simp only
      rw [if_pos ⟨hn0, .inr (.inl j2)⟩]
    clear HR
    go_enter Tryz.func58, Tryz.ntmps58
    go_wp2_with (first
      | (go_at_call 93; refine (dsize hd).mono ?_; rintro e w1 ⟨rfl, rfl⟩)
      | (go_at_call 127; refine (all_any _).mono ?_; rintro e w1 ⟨rfl, hb1⟩))
    go_ret2
    exact OpRes.err hin (by decide) ⟨_, hd.below hb1⟩ (Kt.of hb1 hb)
  by_cases j3 : 7 ≤ rep
  · skip
    have hin : r = (d, ⟨0, 0, 0, rep, inc⟩, 2) := by
      rw [← HR.out]
      unfold openS
      simp only
      rw [if_pos ⟨hn0, .inr (.inr (.inl j3))⟩]
    clear HR
    go_enter Tryz.func58, Tryz.ntmps58
    go_wp2_with (first
      | (go_at_call 93; refine (dsize hd).mono ?_; rintro e w1 ⟨rfl, rfl⟩)
      | (go_at_call 127; refine (all_any _).mono ?_; rintro e w1 ⟨rfl, hb1⟩))
    go_ret2
    exact OpRes.err hin (by decide) ⟨_, hd.below hb1⟩ (Kt.of hb1 hb)
  by_cases j4 : inc < 1
  · skip
    have hin : r = (d, ⟨0, 0, 0, rep, inc⟩, 2) := by
      rw [← HR.out]
      unfold openS
      simp only
      rw [if_pos ⟨hn0, .inr (.inr (.inr (.inl j4)))⟩]
    clear HR
    go_enter Tryz.func58, Tryz.ntmps58
    go_wp2_with (first
      | (go_at_call 93; refine (dsize hd).mono ?_; rintro e w1 ⟨rfl, rfl⟩)
      | (go_at_call 127; refine (all_any _).mono ?_; rintro e w1 ⟨rfl, hb1⟩))
    go_ret2
    exact OpRes.err hin (by decide) ⟨_, hd.below hb1⟩ (Kt.of hb1 hb)
  by_cases j5 : 1099511627776 < inc
  · skip
    have hin : r = (d, ⟨0, 0, 0, rep, inc⟩, 2) := by
      rw [← HR.out]
      unfold openS
      simp only
      rw [if_pos ⟨hn0, .inr (.inr (.inr (.inr j5)))⟩]
    clear HR
    go_enter Tryz.func58, Tryz.ntmps58
    go_wp2_with (first
      | (go_at_call 93; refine (dsize hd).mono ?_; rintro e w1 ⟨rfl, rfl⟩)
      | (go_at_call 127; refine (all_any _).mono ?_; rintro e w1 ⟨rfl, hb1⟩))
    go_ret2
    exact OpRes.err hin (by decide) ⟨_, hd.below hb1⟩ (Kt.of hb1 hb)
  have hin : r = openS d rep inc := HR.out.symm
  unfold openS at hin
  simp only at hin
  rw [if_neg (by omega)] at hin
  have hll := load_len2 hd rep 2
  have hhe := fun w' wv' (D : DiskB B g gp wv' d w') hB => cheal_any D hB rep 2 hw
  obtain ⟨ver, body, le, hlc⟩ : ∃ ver body le, loadC d rep 2 = (ver, body, le) := ⟨_, _, _, rfl⟩
  rw [hlc] at hin hll
  obtain ⟨d7, x7, hhc⟩ : ∃ d7 x7, healC d rep 2 = (d7, x7) := ⟨_, _, rfl⟩
  rw [hhc] at hin
  simp only [hhc] at hhe
  simp only at hin hll
  have hld : ∀ w' wv', DiskB B g gp wv' d w' → Calls Tryz.prog 33 #[.pointer (some ⟨g, 0, none⟩), .int .i64 rep, .int .i64 2] w' fun e w'' => (∃ a c, e = .returned (.tuple #[.int .i64 ver, .slice a body.length c, .int .i64 le]) ∧ OwnB w'' w'.heap.size a c body) ∧ Below w'.heap.size w' w'' := fun w' wv' D => by
    have hc := cload_any D rep 2
    rw [hlc] at hc
    exact hc
  clear hlc hhc HR
  have HIN := Lib.hid hin
  clear hin
  by_cases hle : le = 0
  case neg =>
    have ee : (le != 0) = true := by rw [bne_iff_ne]; exact hle
    have hrr : Hid (r = (d, ⟨0, 0, 0, rep, inc⟩, le)) := Lib.hid (by rw [HIN.out, if_pos hle])
    clear HIN
    go_enter Tryz.func58, Tryz.ntmps58
    go_wp2_with (first
      | (go_at_call 93; refine (dsize hd).mono ?_; rintro e w1 ⟨rfl, rfl⟩)
      | (go_at_call 127; refine (all_any _).mono ?_; rintro e w1 ⟨rfl, hb1⟩; have D1 := hd.below hb1)
      | (go_at_call 33; refine (hld _ _ D1).mono ?_; rintro e w2 ⟨⟨a2, c2, rfl, hO2⟩, hb2⟩))
    go_ret2
    have hb3 := hb1.trans (hb2.mono hb1.size)
    exact OpRes.err hrr.out hle ⟨_, hd.below hb3⟩ (Kt.of hb3 hb)
  case pos =>
    subst hle
    obtain ⟨i, ai, ci, x, hpm⟩ : ∃ i ai ci x, parseMan body = ((i, ai, ci), x) := ⟨_, _, _, _, rfl⟩
    have hpa : ∀ w' a c, SlB w' a c body → Calls Tryz.prog 148 #[.slice a body.length c] w' fun e w'' => e = .returned (.tuple #[.agg #[.int .i64 i, .int .i64 ai, .int .i64 ci], .int .i64 x]) ∧ Below w'.heap.size w' w'' := fun w' a c hs => by
      have hc := sparse_any a c body w' hs (by omega)
      rw [hpm] at hc
      exact hc
    have hin := HIN.out
    rw [if_neg (by simp), hpm] at hin
    simp only at hin
    clear HIN hpm hll
    by_cases hv : 0 < ver
    case pos =>
      by_cases hx : x = 0
      case neg =>
        have ex : (x != 0) = true := by rw [bne_iff_ne]; exact hx
        have hrr : Hid (r = (d, ⟨0, 0, 0, rep, inc⟩, x)) := Lib.hid (by rw [hin, if_pos ⟨hv, hx⟩])
        clear hin
        go_enter Tryz.func58, Tryz.ntmps58
        refine wp_seq_k (fun K hK => ?_)
        have HK := Lib.hid hK
        clear hK
        go_wp2
        refine HK.out _ _ ?_
        clear HK
        refine wp_seq_k (fun K hK => ?_)
        have HK := Lib.hid hK
        clear hK
        go_wp2_with (first
          | (go_at_call 93; refine (dsize hd).mono ?_; rintro e w1 ⟨rfl, rfl⟩)
          | (go_at_call 127; refine (all_any _).mono ?_; rintro e w1 ⟨rfl, hb1⟩; have D1 := hd.below hb1))
        refine HK.out _ _ ?_
        clear HK
        refine wp_seq_k (fun K hK => ?_)
        have HK := Lib.hid hK
        clear hK
        go_wp2_with (go_at_call 33; refine (hld _ _ D1).mono ?_; rintro e w2 ⟨⟨a2, c2, rfl, hO2⟩, hb2⟩)
        refine HK.out _ _ ?_
        clear HK
        refine wp_seq_k (fun K hK => ?_)
        have HK := Lib.hid hK
        clear hK
        go_wp2
        refine HK.out _ _ ?_
        clear HK
        refine wp_seq_k (fun K hK => ?_)
        have HK := Lib.hid hK
        clear hK
        go_wp2
        refine HK.out _ _ ?_
        clear HK
        have hbx := blw w2 (Obj.cells #[.int .i64 0, .int .i64 0, .int .i64 0, .pointer (some ⟨g, 0, none⟩), .int .i64 rep, .int .i64 inc] 239)
        have S3 : ShB (w2.alloc (Obj.cells #[.int .i64 0, .int .i64 0, .int .i64 0, .pointer (some ⟨g, 0, none⟩), .int .i64 rep, .int .i64 inc] 239)) w2.heap.size g ⟨0, 0, 0, rep, inc⟩ := heap_alloc_new w2 (Obj.cells #[.int .i64 0, .int .i64 0, .int .i64 0, .pointer (some ⟨g, 0, none⟩), .int .i64 rep, .int .i64 inc] 239)
        have hs3 := (hO2.below hbx).slb
        have hb3 := hb1.trans (hb2.mono hb1.size)
        have hb4 := hb3.trans (hbx.mono hb3.size)
        have hqb := hb3.size
        clear hb1 hb2 hb3 D1 hO2 hbx hld
        generalize w2.alloc (Obj.cells #[.int .i64 0, .int .i64 0, .int .i64 0, .pointer (some ⟨g, 0, none⟩), .int .i64 rep, .int .i64 inc] 239) = w3 at *
        generalize w2.heap.size = qb at *
        go_wp2_with (first
          | (go_at_call 148; refine (hpa _ a2 c2 hs3).mono ?_; rintro e w4 ⟨rfl, hb5⟩; have S4 := S3.below hb5; have SB : w4.heap[qb]? = some (.cells #[.int .i64 0, .int .i64 0, .int .i64 0, .pointer (some ⟨g, 0, none⟩), .int .i64 rep, .int .i64 inc] 239 (0, 0)) := S4)
          | ((with_reducible refine wpList_stB 237 _ _ ?_); refine ⟨_, _, _, ⟨_, _, _, Tryz.sizeOf237, rfl, SB, st6s _ _ _ _ _ _ i ai ci⟩, ?_⟩; intro w5 Z5 g5))
        go_ret2
        have hb6 := hb4.trans (hb5.mono hb4.size)
        exact OpRes.err hrr.out hx ⟨_, (hd.below hb6).sh S4 g5⟩ ((Kt.of hb6 hb).nw g5 hqb hb)
      case pos =>
        subst hx
        have hrr : Hid (r = (d7, ⟨i, ai, ci, rep, inc⟩, x7)) := Lib.hid (by rw [hin, if_neg (by simp), if_pos hv])
        clear hin
        go_enter Tryz.func58, Tryz.ntmps58
        refine wp_seq_k (fun K hK => ?_)
        have HK := Lib.hid hK
        clear hK
        go_wp2
        refine HK.out _ _ ?_
        clear HK
        refine wp_seq_k (fun K hK => ?_)
        have HK := Lib.hid hK
        clear hK
        go_wp2_with (first
          | (go_at_call 93; refine (dsize hd).mono ?_; rintro e w1 ⟨rfl, rfl⟩)
          | (go_at_call 127; refine (all_any _).mono ?_; rintro e w1 ⟨rfl, hb1⟩; have D1 := hd.below hb1))
        refine HK.out _ _ ?_
        clear HK
        refine wp_seq_k (fun K hK => ?_)
        have HK := Lib.hid hK
        clear hK
        go_wp2_with (go_at_call 33; refine (hld _ _ D1).mono ?_; rintro e w2 ⟨⟨a2, c2, rfl, hO2⟩, hb2⟩)
        refine HK.out _ _ ?_
        clear HK
        refine wp_seq_k (fun K hK => ?_)
        have HK := Lib.hid hK
        clear hK
        go_wp2
        refine HK.out _ _ ?_
        clear HK
        refine wp_seq_k (fun K hK => ?_)
        have HK := Lib.hid hK
        clear hK
        go_wp2
        refine HK.out _ _ ?_
        clear HK
        have hbx := blw w2 (Obj.cells #[.int .i64 0, .int .i64 0, .int .i64 0, .pointer (some ⟨g, 0, none⟩), .int .i64 rep, .int .i64 inc] 239)
        have S3 : ShB (w2.alloc (Obj.cells #[.int .i64 0, .int .i64 0, .int .i64 0, .pointer (some ⟨g, 0, none⟩), .int .i64 rep, .int .i64 inc] 239)) w2.heap.size g ⟨0, 0, 0, rep, inc⟩ := heap_alloc_new w2 (Obj.cells #[.int .i64 0, .int .i64 0, .int .i64 0, .pointer (some ⟨g, 0, none⟩), .int .i64 rep, .int .i64 inc] 239)
        have hs3 := (hO2.below hbx).slb
        have hb3 := hb1.trans (hb2.mono hb1.size)
        have hb4 := hb3.trans (hbx.mono hb3.size)
        have hqb := hb3.size
        clear hb1 hb2 hb3 D1 hO2 hbx hld
        generalize w2.alloc (Obj.cells #[.int .i64 0, .int .i64 0, .int .i64 0, .pointer (some ⟨g, 0, none⟩), .int .i64 rep, .int .i64 inc] 239) = w3 at *
        generalize w2.heap.size = qb at *
        refine wp_seq_k (fun K hK => ?_)
        have HK := Lib.hid hK
        clear hK
        go_wp2_with (first
                  | (go_at_call 148; refine (hpa _ a2 c2 hs3).mono ?_; rintro e w4 ⟨rfl, hb5⟩; have S4 := S3.below hb5; have SB : w4.heap[qb]? = some (.cells #[.int .i64 0, .int .i64 0, .int .i64 0, .pointer (some ⟨g, 0, none⟩), .int .i64 rep, .int .i64 inc] 239 (0, 0)) := S4)
                  | ((with_reducible refine wpList_stB 237 _ _ ?_); refine ⟨_, _, _, ⟨_, _, _, Tryz.sizeOf237, rfl, SB, st6s _ _ _ _ _ _ i ai ci⟩, ?_⟩; intro w5 Z5 g5))
        refine HK.out _ _ ?_
        clear HK
        have hb6 := hb4.trans (hb5.mono hb4.size)
        have D5 := (hd.below hb6).sh S4 g5
        have k5 := (Kt.of hb6 hb).nw g5 hqb hb
        have S5 : ShB w5 qb g ⟨i, ai, ci, rep, inc⟩ := Z5
        have hhe5 := hhe _ _ D5 (Nat.le_trans hb k5.bl.size)
        by_cases hx7 : x7 = 0
        case neg =>
          have ex7 : (x7 != 0) = true := by rw [bne_iff_ne]; exact hx7
          go_wp2_with (go_at_call 31; refine hhe5.mono ?_; rintro e w7 ⟨rfl, D7, k7⟩)
          go_ret2
          exact OpRes.err hrr.out hx7 D7 (k5.trans k7)
        case pos =>
          subst hx7
          go_wp2_with (go_at_call 31; refine hhe5.mono ?_; rintro e w7 ⟨rfl, D7, k7⟩)
          go_ret2
          exact OpRes.ok hrr.out hqb (S5.kt k7) D7 (k5.trans k7)
    case neg =>
      have hrr : Hid (r = (d7, ⟨0, 0, 0, rep, inc⟩, x7)) := Lib.hid (by rw [hin, if_neg (by omega), if_neg hv])
      clear hin
      go_enter Tryz.func58, Tryz.ntmps58
      refine wp_seq_k (fun K hK => ?_)
      have HK := Lib.hid hK
      clear hK
      go_wp2
      refine HK.out _ _ ?_
      clear HK
      refine wp_seq_k (fun K hK => ?_)
      have HK := Lib.hid hK
      clear hK
      go_wp2_with (first
        | (go_at_call 93; refine (dsize hd).mono ?_; rintro e w1 ⟨rfl, rfl⟩)
        | (go_at_call 127; refine (all_any _).mono ?_; rintro e w1 ⟨rfl, hb1⟩; have D1 := hd.below hb1))
      refine HK.out _ _ ?_
      clear HK
      refine wp_seq_k (fun K hK => ?_)
      have HK := Lib.hid hK
      clear hK
      go_wp2_with (go_at_call 33; refine (hld _ _ D1).mono ?_; rintro e w2 ⟨⟨a2, c2, rfl, hO2⟩, hb2⟩)
      refine HK.out _ _ ?_
      clear HK
      refine wp_seq_k (fun K hK => ?_)
      have HK := Lib.hid hK
      clear hK
      go_wp2
      refine HK.out _ _ ?_
      clear HK
      refine wp_seq_k (fun K hK => ?_)
      have HK := Lib.hid hK
      clear hK
      go_wp2
      refine HK.out _ _ ?_
      clear HK
      have hbx := blw w2 (Obj.cells #[.int .i64 0, .int .i64 0, .int .i64 0, .pointer (some ⟨g, 0, none⟩), .int .i64 rep, .int .i64 inc] 239)
      have S3 : ShB (w2.alloc (Obj.cells #[.int .i64 0, .int .i64 0, .int .i64 0, .pointer (some ⟨g, 0, none⟩), .int .i64 rep, .int .i64 inc] 239)) w2.heap.size g ⟨0, 0, 0, rep, inc⟩ := heap_alloc_new w2 (Obj.cells #[.int .i64 0, .int .i64 0, .int .i64 0, .pointer (some ⟨g, 0, none⟩), .int .i64 rep, .int .i64 inc] 239)
      have hs3 := (hO2.below hbx).slb
      have hb3 := hb1.trans (hb2.mono hb1.size)
      have hb4 := hb3.trans (hbx.mono hb3.size)
      have hqb := hb3.size
      clear hb1 hb2 hb3 D1 hO2 hbx hld
      generalize w2.alloc (Obj.cells #[.int .i64 0, .int .i64 0, .int .i64 0, .pointer (some ⟨g, 0, none⟩), .int .i64 rep, .int .i64 inc] 239) = w3 at *
      generalize w2.heap.size = qb at *
      refine wp_seq_k (fun K hK => ?_)
      have HK := Lib.hid hK
      clear hK
      go_wp2
      refine HK.out _ _ ?_
      clear HK
      have D5 := hd.below hb4
      have k5 := Kt.of hb4 hb
      have S5 : ShB w3 qb g ⟨0, 0, 0, rep, inc⟩ := S3
      have hhe5 := hhe _ _ D5 (Nat.le_trans hb k5.bl.size)
      by_cases hx7 : x7 = 0
      case neg =>
        have ex7 : (x7 != 0) = true := by rw [bne_iff_ne]; exact hx7
        go_wp2_with (go_at_call 31; refine hhe5.mono ?_; rintro e w7 ⟨rfl, D7, k7⟩)
        go_ret2
        exact OpRes.err hrr.out hx7 D7 (k5.trans k7)
      case pos =>
        subst hx7
        go_wp2_with (go_at_call 31; refine hhe5.mono ?_; rintro e w7 ⟨rfl, D7, k7⟩)
        go_ret2
        exact OpRes.ok hrr.out hqb (S5.kt k7) D7 (k5.trans k7)
end
end Go.Proofs.YthfolocjkpiljaaGreatDoor

namespace Go.Proofs.YthfolocjkpiljaaGreatDoor
open Go.RowKit

theorem take_eq_snoc {l m : List UInt8} {j : Nat} (h : l.take j = m.take j) (hl : j < l.length) (hm : j < m.length) (e : l[j] = m[j]) : l.take (j + 1) = m.take (j + 1) := by
  rw [List.take_succ_eq_append_getElem hl, List.take_succ_eq_append_getElem hm, h, e]
set_option maxRecDepth 100000 in
set_option maxHeartbeats 1000000 in
theorem rsame_any (a b : Option Addr) (c k : Nat) (l m : List UInt8) (w : World) (hl : Row w a (bys l)) (hm : Row w b (bys m)) (hb : l.length ≤ 1000000) : Calls Tryz.prog 26 #[.slice a l.length c, .slice b m.length k] w fun e w' => e = .returned (.bool (decide (l = m))) ∧ Below w.heap.size w w' := by
  by_cases hlen : l.length = m.length
  case neg =>
    rw [decide_eq_false (fun e => hlen (by rw [e]))]
    have e1 : ((l.length : Int) != (m.length : Int)) = true := by rw [bne_iff_ne]; omega
    go_enter Tryz.func26, Tryz.ntmps26
    go_wp2
    go_ret
    exact ⟨rfl, Below.refl _ _⟩
  case pos =>
    have e1 : ((l.length : Int) != (m.length : Int)) = false := by rw [bne_eq_false_iff_eq]; omega
    have HLE := Lib.hid hlen
    clear hlen
    obtain ⟨r, hr⟩ : ∃ r, decide (l = m) = r := ⟨_, rfl⟩
    rw [hr]
    have HR := Lib.hid hr
    clear hr
    go_enter Tryz.func26, Tryz.ntmps26
    refine wp_seq_k (fun K hK => ?_)
    have HK := Lib.hid hK
    clear hK
    go_wp2
    refine HK.out _ _ ?_
    clear HK
    refine wp_seq_k (fun K hK => ?_)
    have HK := Lib.hid hK
    clear hK
    go_wp2
    refine HK.out _ _ ?_
    clear HK
    refine wp_seq_k (fun K hK => ?_)
    have HK := Lib.hid hK
    clear hK
    go_wp2_with fail
    go_loopw [5] (fun i wr => ∃ j : Nat, j ≤ l.length ∧ i = .int .i64 (j : Nat) ∧ Hid (l.take j = m.take j) ∧ Below w.heap.size w wr) (fun i _ => l.length - (intOf i).toNat)
    case atStart => exact ⟨0, by omega, rfl, Lib.hid rfl, Below.refl _ _⟩
    case round =>
      obtain ⟨j, hj, rfl, ht, hbr⟩ := hrel
      by_cases hlt : j < l.length
      case neg =>
        obtain rfl : j = l.length := by omega
        have hlm : l = m := by
          have h := ht.out
          rw [List.take_length, HLE.out, List.take_length] at h
          exact h
        have hrt : r = true := by rw [← HR.out, decide_eq_true hlm]
        have HRT := Lib.hid hrt
        clear hrt hlm e1
        go_wp2
        refine HK.out _ _ ?_
        clear HK
        go_wp2
        go_ret
        exact ⟨by rw [HRT.out]; rfl, hbr⟩
      case pos =>
        have hltm : j < m.length := by have := HLE.out; omega
        obtain ⟨b1, f1, rfl, hc1⟩ := (hl.below0 hbr).byte hlt
        obtain ⟨b2, f2, rfl, hc2⟩ := (hm.below0 hbr).byte hltm
        have hsn := fun e => take_eq_snoc ht.out hlt hltm e
        have hnt : l[j] ≠ m[j] → r = false := fun hne => by
          rw [← HR.out, decide_eq_false]
          intro e
          exact hne (by simp only [e])
        generalize l[j] = x at *
        generalize m[j] = y at *
        have HNT := Lib.hid hnt
        have HSN := Lib.hid hsn
        clear hnt hsn ht
        go_wp2_with fail
        have hbd := (Below.refl wr.heap.size wr).drew
        have hlm : (j : Int) < m.length := by omega
        refine wp_region_cls (C := fun w' => Below wr.heap.size wr w') (by kernel_rfl) (by kernel_rfl) hbd ?_
        clear hbd
        refine wpQuiet_val (by rfl) ?_ ?_ ?_
        rotate_left
        · intro wS hSw
          go_simp
          (try with_reducible rfl)
        (try simp only [Act.put])
        (try simp only [List.setIfInBounds_toArray])
        (try simp only [List.set_cons_succ])
        (try simp only [List.set_cons_zero])
        refine wpQuiet_val (by rfl) ?_ ?_ ?_
        rotate_left
        · intro wS hSw
          go_simp
          (try with_reducible rfl)
        (try simp only [Act.put])
        (try simp only [List.setIfInBounds_toArray])
        (try simp only [List.set_cons_succ])
        (try simp only [List.set_cons_zero])
        refine wpQuiet_val (by rfl) ?_ ?_ ?_
        rotate_left
        · intro wS hSw
          go_simp
          (try with_reducible rfl)
        (try simp only [Act.put])
        (try simp only [List.setIfInBounds_toArray])
        (try simp only [List.set_cons_succ])
        (try simp only [List.set_cons_zero])
        refine wpQuiet_val (by rfl) ?_ ?_ ?_
        rotate_left
        · intro wS hSw
          have c := (hSw.cell (World.block_lt_of_cell? _ _ hc1)).trans hc1
          go_simp
          (try with_reducible rfl)
        (try simp only [Act.put])
        (try simp only [List.setIfInBounds_toArray])
        (try simp only [List.set_cons_succ])
        (try simp only [List.set_cons_zero])
        refine wpQuiet_val (by rfl) ?_ ?_ ?_
        rotate_left
        · intro wS hSw
          go_simp
          (try with_reducible rfl)
        (try simp only [Act.put])
        (try simp only [List.setIfInBounds_toArray])
        (try simp only [List.set_cons_succ])
        (try simp only [List.set_cons_zero])
        refine wpQuiet_val (by rfl) ?_ ?_ ?_
        rotate_left
        · intro wS hSw
          go_simp
          (try with_reducible rfl)
        (try simp only [Act.put])
        (try simp only [List.setIfInBounds_toArray])
        (try simp only [List.set_cons_succ])
        (try simp only [List.set_cons_zero])
        refine wpQuiet_val (by rfl) ?_ ?_ ?_
        rotate_left
        · intro wS hSw
          go_simp
          (try with_reducible rfl)
        (try simp only [Act.put])
        (try simp only [List.setIfInBounds_toArray])
        (try simp only [List.set_cons_succ])
        (try simp only [List.set_cons_zero])
        refine wpQuiet_val (by rfl) ?_ ?_ ?_
        rotate_left
        · intro wS hSw
          have c := (hSw.cell (World.block_lt_of_cell? _ _ hc2)).trans hc2
          go_simp
          (try with_reducible rfl)
        (try simp only [Act.put])
        (try simp only [List.setIfInBounds_toArray])
        (try simp only [List.set_cons_succ])
        (try simp only [List.set_cons_zero])
        refine wpQuiet_val (by rfl) ?_ ?_ ?_
        rotate_left
        · intro wS hSw
          go_simp
          (try with_reducible rfl)
        (try simp only [Act.put])
        (try simp only [List.setIfInBounds_toArray])
        (try simp only [List.set_cons_succ])
        (try simp only [List.set_cons_zero])
        refine wpQuiet_nil ?_
        intro wE hE
        have hbE := hbr.trans (hE.mono hbr.size)
        by_cases hxy : x = y
        · subst hxy
          have e2 : ((x.toNat : Int) != (x.toNat : Int)) = false := by simp
          go_wp2
          go_roundw
          case rel => exact ⟨j + 1, by omega, by go_num, Lib.hid (HSN.out rfl), hbE⟩
          case measure => simp [intOf]; omega
        · have e2 : ((x.toNat : Int) != (y.toNat : Int)) = true := by
            rw [bne_iff_ne]
            intro e
            exact hxy (UInt8.toNat_inj.1 (by omega))
          obtain rfl := HNT.out hxy
          go_wp2
          go_ret
          exact ⟨rfl, hbE⟩
/-- Is that loaded, of that version? -/
def loadsD (d : Dk) (reg ver : Int) (body : List UInt8) : Bool := decide ((loadC d 0 reg).2.2 = 0) && (decide ((loadC d 0 reg).1 = ver) && decide ((loadC d 0 reg).2.1 = body))
end Go.Proofs.YthfolocjkpiljaaGreatDoor

namespace Go.Proofs.YthfolocjkpiljaaGreatDoor
open Go.RowKit

section
variable {B g gp q : Nat} {wv : Value} {d : Dk} {w : World} {s : Sh} {b c : List UInt8} {o : Vo}
set_option maxRecDepth 100000 in
set_option maxHeartbeats 1000000 in
/-- A shelf that tells bytes, asked for these, by this index. -/
theorem lholds_t (h : ShB w q g s) (hd : DiskB B g gp wv d w) (ht : Tells d s c) (a : Option Addr) (cap : Nat) (hs : SlB w a cap b) (idx : Int) : Calls Tryz.prog 59 #[.pointer (some ⟨q, 0, none⟩), .int .i64 idx, .slice a b.length cap] w fun e w' => e = .returned (.bool (decide (s.idx = idx) && decide (c = b))) ∧ Below w.heap.size w w' := by
  have hby := sbytes_any h hd ht.ok
  rw [ht.byt] at hby
  by_cases hi : s.idx = idx
  case neg =>
    rw [decide_eq_false hi, Bool.false_and]
    have hix := fun w' (hb : Below w.heap.size w w') => sindex_any (h.below hb)
    go_enter Tryz.func59, Tryz.ntmps59
    refine wp_seq_k (fun K hK => ?_)
    have HK := Lib.hid hK
    clear hK
    go_wp2
    refine HK.out _ _ ?_
    clear HK
    refine wp_seq_k (fun K hK => ?_)
    have HK := Lib.hid hK
    clear hK
    go_wp2_with (go_at_call 83; refine hby.mono ?_; rintro e w1 ⟨⟨a1, c1, rfl, hO⟩, hb1⟩)
    refine HK.out _ _ ?_
    clear HK
    go_wp2_with (first
      | (go_at_call 80; refine (hix _ hb1).mono ?_; rintro e w2 ⟨rfl, rfl⟩))
    go_ret
    exact ⟨rfl, hb1⟩
  case pos =>
    subst hi
    rw [decide_eq_true rfl, Bool.true_and]
    have hbl : c.length ≤ 1000000 := by have := ht.ln; omega
    have hhu := fun w' (hb : Below w.heap.size w w') => shurt_any (h.below hb) (hd.below hb) ht.ok
    simp only [ht.hu] at hhu
    by_cases hcb : c = b
    case neg =>
      have hsa := fun (a1 : Option Addr) (c1 : Nat) (w1 : World) (r : Row w1 a1 (bys c)) (hb1 : Below w.heap.size w w1) => rsame_any a1 a c1 cap c b w1 r (hs.below hb1).row hbl
      rw [decide_eq_false hcb] at hsa
      rw [decide_eq_false hcb]
      have hix := fun w' (hb : Below w.heap.size w w') => sindex_any (h.below hb)
      go_enter Tryz.func59, Tryz.ntmps59
      refine wp_seq_k (fun K hK => ?_)
      have HK := Lib.hid hK
      clear hK
      go_wp2
      refine HK.out _ _ ?_
      clear HK
      refine wp_seq_k (fun K hK => ?_)
      have HK := Lib.hid hK
      clear hK
      go_wp2_with (go_at_call 83; refine hby.mono ?_; rintro e w1 ⟨⟨a1, c1, rfl, hO⟩, hb1⟩)
      refine HK.out _ _ ?_
      clear HK
      have hsb := hsa a1 c1 w1 hO.slb.row hb1
      go_wp2_with (first
        | (go_at_call 80; refine (hix _ hb1).mono ?_; rintro e w2 ⟨rfl, rfl⟩)
        | (go_at_call 26; refine hsb.mono ?_; rintro e w3 ⟨rfl, hb3⟩; have hb4 := hb1.trans (hb3.mono hb1.size)))
      go_ret
      exact ⟨rfl, hb4⟩
    case pos =>
      subst hcb
      rw [decide_eq_true rfl]
      have hix := fun w' (hb : Below w.heap.size w w') => sindex_any (h.below hb)
      go_enter Tryz.func59, Tryz.ntmps59
      refine wp_seq_k (fun K hK => ?_)
      have HK := Lib.hid hK
      clear hK
      go_wp2
      refine HK.out _ _ ?_
      clear HK
      refine wp_seq_k (fun K hK => ?_)
      have HK := Lib.hid hK
      clear hK
      go_wp2_with (go_at_call 83; refine hby.mono ?_; rintro e w1 ⟨⟨a1, c1, rfl, hO⟩, hb1⟩)
      refine HK.out _ _ ?_
      clear HK
      have hsa := rsame_any a1 a c1 cap c c w1 hO.slb.row (hs.below hb1).row hbl
      rw [decide_eq_true rfl] at hsa
      go_wp2_with (first
        | (go_at_call 80; refine (hix _ hb1).mono ?_; rintro e w2 ⟨rfl, rfl⟩)
        | (go_at_call 26; refine hsa.mono ?_; rintro e w3 ⟨rfl, hb3⟩; have hb4 := hb1.trans (hb3.mono hb1.size))
        | (go_at_call 81; refine (hhu _ hb4).mono ?_; rintro e w5 ⟨⟨a5, c5, rfl, _⟩, hb5⟩))
      go_ret
      exact ⟨rfl, hb4.trans (hb5.mono hb4.size)⟩
theorem lholds_any (h : ShB w q g s) (hd : DiskB B g gp wv d w) (hh : Holds d s b o) (a : Option Addr) (cap : Nat) (hs : SlB w a cap b) : Calls Tryz.prog 59 #[.pointer (some ⟨q, 0, none⟩), .int .i64 s.idx, .slice a b.length cap] w fun e w' => e = .returned (.bool true) ∧ Below w.heap.size w w' := by
  have := lholds_t h hd hh.tells a cap hs s.idx
  rw [decide_eq_true rfl, decide_eq_true rfl] at this
  exact this
end
end Go.Proofs.YthfolocjkpiljaaGreatDoor

namespace Go.Proofs.YthfolocjkpiljaaGreatDoor
open Go.RowKit

/-- The bytes that were installed last. -/
def lastP (ls : List Part) : Nat → List UInt8
  | 0 => []
  | j + 1 => (ls.getD j (none, 0, [])).2.2
/-- The area that holds the chunks, behind so many. -/
def areaP : Nat → Int
  | 0 => 0
  | j + 1 => ((j % 2 : Nat) : Int)
/-- A shelf into which so many were installed. -/
def Insd (B g gp q : Nat) (ls : List Part) (j : Nat) (w' : World) : Prop := ∃ d s o, (∃ wv', DiskB B g gp wv' d w') ∧ ShB w' q g s ∧ Holds d s (lastP ls j) o ∧ s.idx = 8 * (j : Int) ∧ verO o = (j : Int) ∧ s.rep = 2 ∧ s.inc = 1 ∧ s.area = areaP j ∧ CleanL d.pl
theorem area_next {s : Sh} {j : Nat} (hi : s.idx = 8 * (j : Int)) (ha : s.area = areaP j) (idx : Int) (n : Nat) : (nextS s idx n).area = areaP (j + 1) := by
  show (if 0 < s.idx then 1 - s.area else 0) = ((j % 2 : Nat) : Int)
  cases j with
  | zero => rw [if_neg (by omega)]; rfl
  | succ j =>
    rw [if_pos (by omega), ha]
    show 1 - ((j % 2 : Nat) : Int) = _
    omega
section
variable {B g gp : Nat} {wv : Value} {w : World} {ls : List Part}
set_option maxRecDepth 100000 in
set_option maxHeartbeats 1000000 in
theorem linst_any (hd : DiskB B g gp wv (newDk 156) w) (hb : B ≤ w.heap.size) (a : Option Addr) (cap : Nat) (hp : ∀ w', Kq B w w' → Parts w' a ls) (h6 : ls.length ≤ 6) (hl : ∀ x ∈ ls, x.2.2.length ≤ 640) : Calls Tryz.prog 53 #[.pointer (some ⟨g, 0, none⟩), .slice a ls.length cap] w fun e w' =>
    (∃ q, e = .returned (.pointer (some ⟨q, 0, none⟩)) ∧ w.heap.size ≤ q ∧ Insd B g gp q ls ls.length w') ∧ Kq B w w' := by
  have hop := sopen_any hd hb 2 1 (by show ([] : List (List UInt8 × Nat)).length ≤ 1000; simp)
  have hh0 := holds_new (rep := 2) (inc := 1) (by decide) (by decide)
  have hoe : openS (newDk 156) 2 1 = (newDk 156, ⟨0, 0, 0, 2, 1⟩, 0) := by
    have hL := hh0.live
    have h1 := hh0.fr.load hL (by decide) (.inr rfl)
    have h2 := heal_same hL (by decide) (.inr rfl) hh0.fr
    unfold openS
    simp only
    rw [if_neg (by simp [newDk]), h1, h2]
    simp [verO]
  rw [hoe] at hop
  go_enter Tryz.func53, Tryz.ntmps53
  refine wp_seq_k (fun K hK => ?_)
  have HK := Lib.hid hK
  clear hK
  go_wp2
  refine HK.out _ _ ?_
  clear HK
  refine wp_seq_k (fun K hK => ?_)
  have HK := Lib.hid hK
  clear hK
  go_wp2_with (go_at_call 58; refine hop.mono ?_; rintro e w1 ⟨⟨_, q, rfl, hq, S1⟩ | ⟨hx, _⟩, ⟨wv1, D1⟩, k1⟩; rotate_left; exact absurd rfl hx)
  refine HK.out _ _ ?_
  clear HK
  refine wp_seq_k (fun K hK => ?_)
  have HK := Lib.hid hK
  clear hK
  go_wp2
  refine HK.out _ _ ?_
  clear HK
  have hin0 : Insd B g gp q ls 0 w1 := ⟨_, _, _, ⟨_, D1⟩, S1, hh0, rfl, rfl, rfl, rfl, rfl, new_clean 156⟩
  have kq1 := k1.kq
  have hBq : B ≤ q := Nat.le_trans hb hq
  clear hd hop hh0 hoe D1 S1 k1
  refine wp_seq_k (fun K hK => ?_)
  have HK := Lib.hid hK
  clear hK
  go_wp2_with fail
  go_loopw [7] (fun i wr => ∃ j : Nat, j ≤ ls.length ∧ i = .int .i64 (j : Nat) ∧ Insd B g gp q ls j wr ∧ Kq B w wr) (fun i _ => ls.length - (intOf i).toNat)
  case atStart => exact ⟨0, by omega, rfl, hin0, kq1⟩
  case round =>
    clear hin0 kq1
    obtain ⟨j, hj, rfl, hin, kq⟩ := hrel
    by_cases hlt : j < ls.length
    case neg =>
      obtain rfl : j = ls.length := by omega
      go_wp2
      refine HK.out _ _ ?_
      clear HK
      go_wp2
      go_ret
      exact ⟨⟨q, rfl, hq, hin⟩, kq⟩
    case pos =>
      obtain ⟨d, s, o, ⟨wvj, D2⟩, S2, hh, hi, hv, hr, hc, har, hcl⟩ := hin
      have P := hp _ kq
      obtain ⟨rb, ro, rfl, hcs⟩ := P.row.at (k := j) (by rw [List.length_map]; exact hlt)
      have hcj := hcs j (partV ls[j]) (by rw [List.getElem?_map, List.getElem?_eq_getElem hlt]; rfl)
      have hsj := P.each _ (List.getElem_mem hlt)
      have hlj := hl _ (List.getElem_mem hlt)
      have hla : lastP ls (j + 1) = ls[j].2.2 := by
        show (ls.getD j (none, 0, [])).2.2 = _
        rw [List.getD_eq_getElem?_getD, List.getElem?_eq_getElem hlt]
        rfl
      have HLA := Lib.hid hla
      clear hla hcs P
      generalize ls[j] = x at *
      obtain ⟨xa, xc, xb⟩ := x
      have hcj2 : _ = some (Value.slice xa xb.length xc) := hcj
      simp only at hsj hlj
      have hB2 := Nat.le_trans hb kq.bl.size
      obtain ⟨d', he, hh'⟩ := install_holds hh (idx := 8 * (j : Int) + 8) (b' := xb) (by omega) (by omega) hlj (by omega)
      have hio := sinst_ok S2 D2 hB2 hBq hh.ok (8 * (j : Int) + 8) xa xc xb hsj (by omega) (by omega) hlj (pow_up hh.pow) (by rw [hh.live.w]; simp)
      rw [he] at hio
      have hI : (j : Int) < (ls.length : Int) := by omega
      have hnv := next_ver o s.inc (manB (8 * (j : Int) + 8) (nextS s (8 * (j : Int) + 8) (numC xb.length)).area (numC xb.length : Nat))
      have HV := Lib.hid (show verO (nextO o s.inc (manB (8 * (j : Int) + 8) (nextS s (8 * (j : Int) + 8) (numC xb.length)).area (numC xb.length : Nat))) = ((j + 1 : Nat) : Int) by rw [hnv, hv]; omega)
      have HII := Lib.hid hi
      have HCL := Lib.hid (show CleanL d'.pl by have := install_clean hcl s (8 * (j : Int) + 8) xb; rw [he] at this; exact this)
      have HAR := Lib.hid (area_next hi har (8 * (j : Int) + 8) (numC xb.length))
      clear he hnv hv hcj hi har hcl
      go_wp2_with (go_at_call 55; refine hio.mono ?_; rintro e w3 ⟨rfl, D3, S3, k3⟩)
      go_roundw
      case rel => exact ⟨j + 1, by omega, by go_num, ⟨d', _, _, D3, S3, by rw [HLA.out]; exact hh', by show 8 * (j : Int) + 8 = _; omega, HV.out, hr, hc, HAR.out, HCL.out⟩, kq.trans k3⟩
      case measure => simp [intOf]; omega
end
end Go.Proofs.YthfolocjkpiljaaGreatDoor

namespace Go.Proofs.YthfolocjkpiljaaGreatDoor
open Go.RowKit

def grS (ls : List Part) : Bool := decide (6 < ls.length) || ls.any (fun x => decide (640 < x.2.2.length))
theorem grS_no {ls : List Part} (h : grS ls = false) : ls.length ≤ 6 ∧ ∀ x ∈ ls, x.2.2.length ≤ 640 := by
  unfold grS at h
  rw [Bool.or_eq_false_iff] at h
  refine ⟨by have := of_decide_eq_false h.1; omega, fun x hx => ?_⟩
  have := List.any_eq_false.1 h.2 x hx
  simp at this
  omega
set_option maxRecDepth 100000 in
set_option maxHeartbeats 1000000 in
theorem lgreatS_any (a : Option Addr) (cap : Nat) (ls : List Part) (w : World) (hp : Parts w a ls) : Calls Tryz.prog 52 #[.slice a ls.length cap] w fun e w' => e = .returned (.bool (grS ls)) ∧ Below w.heap.size w w' := by
  unfold grS
  by_cases h6 : 6 < ls.length
  case pos =>
    rw [decide_eq_true h6, Bool.true_or]
    have hI : (6 : Int) < ls.length := by omega
    go_enter Tryz.func52, Tryz.ntmps52
    go_wp2
    go_ret
    exact ⟨rfl, Below.refl _ _⟩
  case neg =>
    rw [decide_eq_false h6, Bool.false_or]
    have hI : ¬ (6 : Int) < ls.length := by omega
    obtain ⟨r, hr⟩ : ∃ r, ls.any (fun x => decide (640 < x.2.2.length)) = r := ⟨_, rfl⟩
    rw [hr]
    have HR := Lib.hid hr
    clear hr
    go_enter Tryz.func52, Tryz.ntmps52
    refine wp_seq_k (fun K hK => ?_)
    have HK := Lib.hid hK
    clear hK
    go_wp2
    refine HK.out _ _ ?_
    clear HK
    refine wp_seq_k (fun K hK => ?_)
    have HK := Lib.hid hK
    clear hK
    go_wp2
    refine HK.out _ _ ?_
    clear HK
    refine wp_seq_k (fun K hK => ?_)
    have HK := Lib.hid hK
    clear hK
    go_wp2_with fail
    go_loopw [3] (fun i wr => ∃ j : Nat, j ≤ ls.length ∧ i = .int .i64 (j : Nat) ∧ Hid (∀ t (ht : t < ls.length), t < j → ls[t].2.2.length ≤ 640) ∧ Below w.heap.size w wr) (fun i _ => ls.length - (intOf i).toNat)
    case atStart => exact ⟨0, by omega, rfl, Lib.hid (fun t ht h => absurd h (by omega)), Below.refl _ _⟩
    case round =>
      obtain ⟨j, hj, rfl, ha, hbr⟩ := hrel
      by_cases hlt : j < ls.length
      case neg =>
        obtain rfl : j = ls.length := by omega
        have hrf : r = false := by
          rw [← HR.out, List.any_eq_false]
          intro x hx
          obtain ⟨t, ht, rfl⟩ := List.getElem_of_mem hx
          have := ha.out t ht ht
          simp; omega
        subst hrf
        clear ha HR
        go_wp2
        refine HK.out _ _ ?_
        clear HK
        go_wp2
        go_ret
        exact ⟨rfl, hbr⟩
      case pos =>
        obtain ⟨rb, ro, rfl, hcs⟩ := (hp.row.below0 hbr).at (k := j) (by rw [List.length_map]; exact hlt)
        have hcj := hcs j (partV ls[j]) (by rw [List.getElem?_map, List.getElem?_eq_getElem hlt]; rfl)
        obtain ⟨xa, xc, xb, hx⟩ : ∃ xa xc xb, ls[j] = (xa, xc, xb) := ⟨_, _, _, rfl⟩
        rw [hx] at hcj
        have hcj2 : _ = some (Value.slice xa xb.length xc) := hcj
        have hI2 : (j : Int) < (ls.length : Int) := by omega
        clear hcj hcs
        by_cases h1 : 640 < xb.length
        · have hrt : r = true := by
            rw [← HR.out, List.any_eq_true]
            exact ⟨ls[j], List.getElem_mem hlt, by rw [hx]; simpa using h1⟩
          subst hrt
          have hI3 : (640 : Int) < xb.length := by omega
          clear ha HR hx
          go_wp2
          go_ret
          exact ⟨rfl, hbr⟩
        · have hI3 : ¬ (640 : Int) < xb.length := by omega
          have ha2 : Hid (∀ t (ht : t < ls.length), t < j + 1 → ls[t].2.2.length ≤ 640) := Lib.hid (fun t ht h => by
            by_cases htj : t < j
            · exact ha.out t ht htj
            · obtain rfl : t = j := by omega
              rw [hx]
              simp only
              omega)
          clear hx ha
          go_wp2
          go_roundw
          case rel => exact ⟨j + 1, by omega, by go_num, ha2, hbr⟩
          case measure => simp [intOf]; omega
end Go.Proofs.YthfolocjkpiljaaGreatDoor

