/- Insert and Delete on a row of the call's own; the program's Note. -/
import Derived.Test.YtjolhdlnjdmbeaaN4
import Derived.Test.YtjolhdlnjdmbeaaRows
import Derived.WalkKit
import Derived.WalkSpells
import Derived.WalkLawsBesides
import Derived.Handy
import Derived.Deep.QuietTactic
import Derived.BigQuiet
import Derived.Deep.DeepCutAuto
import Derived.Lib.Hide
import Derived.RegionTactic
import Derived.ChangeAlike
namespace Go.Proofs.Ytjolhdlnjdmbeaa
open Go.RowKit

theorem insert_own (base n i : Nat) (v : Value) (xs : List Value) (w : World) (hown : w.ownsRow base 3 1 v n xs) (vb : Nat) (x : Value) (e' : TypeId) (hx : w.heap[vb]? = some (.cells #[x] e' (0, 0))) (hne : v.ownBlock ≠ some vb)
    (h1 : x.oneCell' = true) (h2 : ∀ u ∈ xs, u.oneCell' = true) (hn : n ≤ 1000000) (hi : i ≤ n) (hbase : base ≤ w.heap.size) :
    Calls Try.prog 19 #[v, .int .i64 i, .slice (some ⟨vb, 0, none⟩) 1 1] w fun e w' => OwnRes base 3 1 (n + 1) (xs.take i ++ x :: xs.drop i) e w' ∧ Below base w w' := by
  have hxl : xs.length = n := by simpa using hown.1
  by_cases hin : i = n
  · subst hin
    rw [List.take_of_length_le (by omega), List.drop_of_length_le (by omega)]
    exact insert_end base i v xs w hown vb x e' hx h1 hn hbase
  · obtain ⟨hl, ⟨rfl, rfl⟩ | ⟨g, cap, cur, rfl, hg, hgc, hnc, hm, hs, ht⟩⟩ := hown
    · omega
    · simp only [Nat.mul_one] at hl hs ht
      by_cases hc : n = cap
      · subst hc
        have hcur : cur = xs.toArray := by
          apply Array.ext'
          rw [← ht, List.take_of_length_le (by simp; omega)]
        rw [hcur] at hgc
        exact insert_grow base n i n g xs w hxl hgc hg vb x e' hx h1 h2 hn (by omega) rfl hbase
      · have hcur : cur = (xs.take i ++ xs.drop i ++ cur.toList.drop n).toArray := by
          apply Array.ext'
          rw [List.take_append_drop]
          simp only
          conv => lhs; rw [← List.take_append_drop n cur.toList, ht]
        rw [hcur] at hgc
        exact insert_shift base n i cap g (xs.take i) (xs.drop i) (cur.toList.drop n) w (by rw [List.length_take]; omega) (by rw [List.length_drop]; omega) (by simp; omega) hgc hg vb x e' hx
          (fun e => hne (by simp [Value.ownBlock, e])) h1 (fun u hu => h2 u (List.mem_of_mem_drop hu)) hn (by omega) (by omega) hm hbase

theorem delete_own (base n i : Nat) (v : Value) (xs : List Value) (w : World) (hown : w.ownsRow base 3 1 v n xs)
    (h2 : ∀ u ∈ xs, u.oneCell' = true) (hn : n ≤ 1000000) (hi : i < n) (hbase : base ≤ w.heap.size) :
    Calls Try.prog 20 #[v, .int .i64 i, .int .i64 ((i : Int) + 1)] w fun e w' => OwnRes base 3 1 (n - 1) (xs.take i ++ xs.drop (i + 1)) e w' ∧ Below base w w' := by
  have hxl : xs.length = n := by simpa using hown.1
  obtain ⟨hl, ⟨rfl, rfl⟩ | ⟨g, cap, cur, rfl, hg, hgc, hnc, hm, hs, ht⟩⟩ := hown
  · omega
  · simp only [Nat.mul_one] at hl hs ht
    have hcur : cur = (xs.take i ++ [xs[i]] ++ xs.drop (i + 1) ++ cur.toList.drop n).toArray := by
      apply Array.ext'
      have e : xs.take i ++ [xs[i]] ++ xs.drop (i + 1) = xs := by simp
      rw [e]
      simp only
      conv => lhs; rw [← List.take_append_drop n cur.toList, ht]
    rw [hcur] at hgc
    exact delete_one base n i cap g (xs.take i) (xs.drop (i + 1)) (cur.toList.drop n) xs[i] w (by rw [List.length_take]; omega) (by rw [List.length_drop]; omega) (by simp; omega) hgc hg
      (fun u hu => h2 u (List.mem_of_mem_drop hu)) hn hi hnc hm hbase

def liveB (sn x : Int) : Bool := decide (sn < x ∧ x ≤ sn + 24)
theorem live_b (i sn : Int) (p : Addr) (w : World) (hp : w.cell? p = some (.int .i64 sn)) (hs : 0 ≤ sn ∧ sn ≤ 1099511627752) (b : Bool) (hb : liveB sn i = b) :
    Calls Try.prog 17 #[.int .i64 i, .pointer (some p)] w fun e w' => e = .returned (.bool b) ∧ w = w' := by
  subst hb
  exact live_any i sn p w hp hs

/-- What the program notes: of the rising live ones, the index put in or struck. -/
def pnoteL (sn idx : Int) (corrupt : Bool) (l : List Int) : List Int :=
  let o := (nst (liveB sn) l l.length).2
  if liveB sn idx = true then
    if corrupt = true then (if idx ∈ o then o else o.take (bsPos o idx) ++ idx :: o.drop (bsPos o idx))
    else (if idx ∈ o then o.take (bsPos o idx) ++ o.drop (bsPos o idx + 1) else o)
  else o

set_option maxRecDepth 100000 in
set_option maxHeartbeats 1000000 in
theorem pnote_any (ad : Option Addr) (cap : Nat) (l : List Int) (snap index : Int) (corrupt : Bool) (w : World) (hr : Row w ad (l.map (Value.int .i64))) (hl : l.length ≤ 1000) (res : List Int)
    (hN : res = pnoteL (wthn snap 0 1099511627752) index corrupt l) :
    Calls Try.prog 10 #[.slice ad l.length cap, .int .i64 snap, .int .i64 index, .bool corrupt] w fun e w' => OwnInts w.heap.size res e w' ∧ Below w.heap.size w w' := by
  have HN := Lib.hid hN
  clear hN
  have b3 := wthn_bd snap 0 1099511627752 (by omega)
  generalize e3 : wthn snap 0 1099511627752 = sn at *
  have E3 := Lib.hid e3
  clear e3
  go_enter Try.func10, Try.ntmps10
  refine wp_seq_k (fun K hK => ?_)
  have HK := Lib.hid hK
  clear hK
  go_wp2
  refine HK.out _ _ ?_
  clear HK
  refine wp_seq_k (fun K hK => ?_)
  have HK := Lib.hid hK
  clear hK
  go_wp2_with (go_at_call 15; refine (within_any _ _ _ _).mono ?_; rintro e w' ⟨rfl, rfl⟩; rw [E3.out])
  refine HK.out _ _ ?_
  clear HK
  refine wp_seq_k (fun K hK => ?_)
  have HK := Lib.hid hK
  clear hK
  go_wp2
  refine HK.out _ _ ?_
  clear HK
  refine wp_seq_k (fun K hK => ?_)
  have HK := Lib.hid hK
  clear hK
  go_wp2
  refine HK.out _ _ ?_
  clear HK
  refine wp_seq_k (fun K hK => ?_)
  have HK := Lib.hid hK
  clear hK
  go_wp2
  refine HK.out _ _ ?_
  clear HK
  have hbox : (w.alloc (Obj.cells #[.int .i64 sn] 3)).cell? ⟨w.heap.size, 0, none⟩ = some (.int .i64 sn) := by simp [go_sem]
  have hbw : Below w.heap.size w (w.alloc (Obj.cells #[.int .i64 sn] 3)) := (Below.refl _ _).alloc (Nat.le_refl _) _
  have hr1 := hr.below0 hbw
  have hsz : (w.alloc (Obj.cells #[.int .i64 sn] 3)).heap.size = w.heap.size + 1 := by simp
  generalize w.alloc (Obj.cells #[.int .i64 sn] 3) = w1 at *
  have HSZ := Lib.hid hsz
  clear hsz hr
  refine wp_seq_k (fun K hK => ?_)
  go_cut [10] (fun out wc => wc.ownsRow w1.heap.size 3 1 out (nst (liveB sn) l l.length).2.length ((nst (liveB sn) l l.length).2.map (Value.int .i64)) ∧ Below w1.heap.size w1 wc)
  case first =>
    go_wp2_with fail
    go_loopw [10, 11, 13, 21] (fun out la _ i wr => ∃ k : Nat, k ≤ l.length ∧ i = .int .i64 k ∧ la = .int .i64 (nst (liveB sn) l k).1 ∧ wr.ownsRow w1.heap.size 3 1 out (nst (liveB sn) l k).2.length ((nst (liveB sn) l k).2.map (Value.int .i64)) ∧ Below w1.heap.size w1 wr)
      (fun _ _ _ i _ => l.length - (intOf i).toNat)
    case atStart => exact ⟨0, Nat.zero_le _, rfl, by rw [nst_zero], by rw [nst_zero]; exact World.ownsRow_nil _ _ _ _, Below.refl _ _⟩
    case round =>
      obtain ⟨k, hk, rfl, rfl, hown, hb⟩ := hrel
      have hle := nst_len (liveB sn) l k
      have hbx := cell_later hb hbox
      by_cases hlt : k < l.length
      · obtain ⟨b, off, x, rfl, hx, hc⟩ := (hr1.below0 hb).int hlt
        have hs := nst_succ (liveB sn) l k x hx
        generalize nst (liveB sn) l k = s at hown hle hs ⊢
        obtain ⟨la, o⟩ := s
        have HS := Lib.hid hs
        clear hs hx
        have hbs := hb.size
        simp only at hle hown
        by_cases hxl : x ≤ la
        · go_wp2
          refine ⟨⟨k + 1, by omega, by go_num, ?_, ?_, hb⟩, by simp [intOf]; omega⟩
          · rw [HS.out, nstep_le hxl]
          · rw [HS.out, nstep_le hxl]; exact hown
        · cases hlv : liveB sn x
          · have HL := Lib.hid hlv
            clear hlv
            go_wp2_with (go_at_call 17; refine (live_b _ _ _ _ hbx b3 _ HL.out).mono ?_; rintro e w' ⟨rfl, rfl⟩)
            refine ⟨⟨k + 1, by omega, by go_num, ?_, ?_, hb⟩, by simp [intOf]; omega⟩
            · rw [HS.out, nstep_no (by omega) HL.out]
            · rw [HS.out, nstep_no (by omega) HL.out]; exact hown
          · have HL := Lib.hid hlv
            clear hlv
            go_wp2_with (first | (go_at_call 17; refine (live_b _ _ _ _ hbx b3 _ HL.out).mono ?_; rintro e w' ⟨rfl, rfl⟩) | (at_builtin; refine wpList_append1 rfl _ _ 28 3 elInt rfl w1.heap.size _ _ _ rfl hown #[.int .i64 x] rfl (by simp; rfl) _ rfl (by omega) (by omega) (by omega) ?_))
            intro v' w' hown' hb' _
            have hb2 := hb.trans hb'
            go_wp2
            refine ⟨⟨k + 1, by omega, by go_num, ?_, ?_, hb2⟩, by simp [intOf]; omega⟩
            · rw [HS.out, nstep_put (by omega) HL.out]
            · rw [HS.out, nstep_put (by omega) HL.out]; simpa using hown'
      · go_wp2
        go_meet
        obtain rfl : k = l.length := by omega
        exact ⟨hown, hb⟩
  obtain ⟨hown, hb⟩ := hcut
  refine hK _ _ ?_; clear hK
  have hso := (nst_sorted (liveB sn) l l.length).1
  have hle := nst_len (liveB sn) l l.length
  unfold pnoteL at HN
  simp only at HN
  generalize ho : (nst (liveB sn) l l.length).2 = o at *
  clear ho
  have hbx := cell_later hb hbox
  have hbs := hb.size
  have hsz1 := HSZ.out
  have hbB : Below w.heap.size w wc := hbw.trans (hb.mono (by omega))
  obtain ⟨oa, ocap, rfl, hor, hoc, hom⟩ := Row.of_owns hown
  have HSO := Lib.hid hso
  have hpos : bsPos o index ≤ o.length := List.length_filter_le _ _
  have h1o : ∀ u ∈ o.map (Value.int .i64), u.oneCell' = true := by
    intro u hu
    simp only [List.mem_map] at hu
    obtain ⟨z, _, rfl⟩ := hu
    rfl
  have H1 := Lib.hid h1o
  clear hso h1o
  refine wp_seq_k (fun K hK => ?_)
  have HK := Lib.hid hK
  clear hK
  go_wp2_with (go_at_call 18; refine (bs_any _ _ _ _ _ hor (by omega) HSO.out).mono ?_; rintro e w' ⟨rfl, m, rfl⟩)
  refine HK.out _ _ ?_
  clear HK
  have hbx2 : (wc.drewN m).cell? ⟨w.heap.size, 0, none⟩ = some (.int .i64 sn) := hbx
  have hown2 : (wc.drewN m).ownsRow w1.heap.size 3 1 (.slice oa o.length ocap) o.length (o.map (Value.int .i64)) := hown
  have hbB2 : Below w.heap.size w (wc.drewN m) := below_drewN hbB m
  have hsz2 : w.heap.size + 1 ≤ (wc.drewN m).heap.size := by show _ ≤ wc.heap.size; omega
  have HRES := HN
  clear hbx hown hbB
  generalize wc.drewN m = w2 at *
  have hmd : (decide (index ∈ o)) = decide (index ∈ o) := rfl
  generalize hmem : decide (index ∈ o) = mb at hmd ⊢
  have HM := Lib.hid hmem
  clear hmd hmem
  cases hlv : liveB sn index
  · have HL := Lib.hid hlv
    clear hlv
    go_wp2_with (go_at_call 17; refine (live_b _ _ _ _ hbx2 b3 _ HL.out).mono ?_; rintro e w' ⟨rfl, rfl⟩)
    go_ret
    have hres := HN.out
    rw [HL.out, if_neg (by simp)] at hres
    rw [hres]
    exact ⟨⟨_, rfl, owns_mono hown2 (by omega)⟩, hbB2⟩
  · have HL := Lib.hid hlv
    clear hlv
    have hres := HN.out
    rw [HL.out, if_pos rfl] at hres
    have HR := Lib.hid hres
    clear hres HN
    cases corrupt
    all_goals cases mb
    all_goals go_wp2_with (go_at_call 17; refine (live_b _ _ _ _ hbx2 b3 _ HL.out).mono ?_; rintro e w' ⟨rfl, rfl⟩)
    · go_ret
      have hr := HR.out
      rw [if_neg (by simp), if_neg (of_decide_eq_false HM.out)] at hr
      rw [hr]
      exact ⟨⟨_, rfl, owns_mono hown2 (by omega)⟩, hbB2⟩
    · have hr := HR.out
      have hmem := of_decide_eq_true HM.out
      rw [if_neg (by simp), if_pos hmem] at hr
      have hlt : bsPos o index < o.length := by
        obtain ⟨j, hj⟩ := List.getElem?_of_mem hmem
        have h1 := filter_lt_take (x := index) HSO.out j index hj
        have h2 : j < o.length := by rw [List.getElem?_eq_some_iff] at hj; exact hj.1
        omega
      have hH := Lib.hid hr
      clear hr
      refine (delete_own w1.heap.size o.length (bsPos o index) _ _ w2 hown2 H1.out (by omega) hlt (by omega)).mono ?_
      rintro e w3 ⟨⟨v, rfl, ho3⟩, hb3⟩
      have hb4 := hbB2.trans (hb3.mono (by omega))
      go_wp2
      go_ret
      refine ⟨⟨_, rfl, ?_⟩, hb4⟩
      rw [hH.out]
      have e1 : (List.take (bsPos o index) o ++ List.drop (bsPos o index + 1) o).length = o.length - 1 := by simp; omega
      rw [e1]
      have h5 := owns_mono (base' := w.heap.size) ho3 (by omega)
      simpa using h5
    · have hr := HR.out
      have hmem := of_decide_eq_false HM.out
      rw [if_pos trivial, if_neg hmem] at hr
      have hH := Lib.hid hr
      clear hr
      have hne : (Value.slice oa o.length ocap).ownBlock ≠ some w2.heap.size := fun e => by
        have := (hown2.lt _ e).2
        omega
      have hb5 : Below w.heap.size w (w2.alloc (Obj.cells #[Value.int IntKind.i64 index] 3)) := hbB2.alloc (by omega) _
      refine (insert_own w1.heap.size o.length (bsPos o index) _ _ _ (hown2.alloc _) w2.heap.size (.int .i64 index) _ (heap_alloc_new w2 _) hne rfl H1.out (by omega) hpos (by simp; omega)).mono ?_
      rintro e w3 ⟨⟨v, rfl, ho3⟩, hb3⟩
      have hb4 := hb5.trans (hb3.mono (by omega))
      go_wp2
      go_ret
      refine ⟨⟨_, rfl, ?_⟩, hb4⟩
      rw [hH.out]
      have e1 : (List.take (bsPos o index) o ++ index :: List.drop (bsPos o index) o).length = o.length + 1 := by simp; omega
      rw [e1]
      have h5 := owns_mono (base' := w.heap.size) ho3 (by omega)
      simpa using h5
    · go_ret
      have hr := HR.out
      rw [if_pos trivial, if_pos (of_decide_eq_true HM.out)] at hr
      rw [hr]
      exact ⟨⟨_, rfl, owns_mono hown2 (by omega)⟩, hbB2⟩
end Go.Proofs.Ytjolhdlnjdmbeaa
