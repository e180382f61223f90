/- The reference's Note. -/
import Derived.Test.YtjolhdlnjdmbeaaN0
import Derived.Test.YtjolhdlnjdmbeaaL1
import Derived.Test.YtjolhdlnjdmbeaaRows
import Derived.WalkKit
import Derived.WalkSpells
import Derived.WalkLawsBesides
import Derived.Handy
import Derived.Deep.QuietTactic
import Derived.BigQuiet
import Derived.Deep.DeepCutAuto
import Derived.Lib.Hide
import Derived.RegionTactic
import Derived.ChangeAlike
namespace Go.Proofs.Ytjolhdlnjdmbeaa
open Go.RowKit

theorem elInt : ElemT Try.prog 28 3 1 8 := ElemT.of (.int .i64 0) Try.underlying28 (by kernel_rfl) rfl (by decide)

def OwnInts (base : Nat) (l : List Int) (e : Ending) (w' : World) : Prop := ∃ v, e = .returned v ∧ w'.ownsRow base 3 1 v l.length (l.map (Value.int .i64))

def keptB (sn idx : Int) (x : Int) : Bool := decide (sn < x) && decide (x ≤ sn + 24) && decide (x ≠ idx)

theorem nstep_le {p : Int → Bool} {la x : Int} {o : List Int} (h : x ≤ la) : nstep p (la, o) x = (la, o) := by simp [nstep, h]
theorem nstep_put {p : Int → Bool} {la x : Int} {o : List Int} (h : la < x) (hp : p x = true) : nstep p (la, o) x = (x, o ++ [x]) := by
  simp [nstep, hp]; omega
theorem nstep_no {p : Int → Bool} {la x : Int} {o : List Int} (h : la < x) (hp : p x = false) : nstep p (la, o) x = (x, o) := by
  simp [nstep, hp]; omega
theorem keptB_yes {sn idx x : Int} (h1 : sn < x) (h2 : x ≤ sn + 24) (h3 : (x != idx) = true) : keptB sn idx x = true := by simp at h3; simp [keptB, h1, h2, h3]
theorem keptB_eq {sn idx x : Int} (h3 : (x != idx) = false) : keptB sn idx x = false := by simp at h3; simp [keptB, h3]
theorem keptB_no {sn idx x : Int} (h : x ≤ sn ∨ sn + 24 < x) : keptB sn idx x = false := by
  unfold keptB
  by_cases h1 : sn < x <;> by_cases h2 : x ≤ sn + 24 <;> simp [h1, h2] <;> omega

def rnoteL (sn idx : Int) (corrupt : Bool) (l : List Int) : List Int :=
  if sn < idx ∧ idx ≤ sn + 24 ∧ corrupt = true then pend idx (pst idx (nst (keptB sn idx) l l.length).2 (nst (keptB sn idx) l l.length).2.length) else (nst (keptB sn idx) l l.length).2

set_option maxHeartbeats 1000000 in
set_option maxRecDepth 100000 in
theorem rnote_any (ad : Option Addr) (cap : Nat) (l : List Int) (snap index : Int) (corrupt : Bool) (w : World) (hr : Row w ad (l.map (Value.int .i64))) (hl : l.length ≤ 1000) (res : List Int)
    (hN : res = rnoteL (wthn snap 0 1099511627752) index corrupt l) :
    Calls Try.prog 12 #[.slice ad l.length cap, .int .i64 snap, .int .i64 index, .bool corrupt] w fun e w' => OwnInts w.heap.size res e w' ∧ Below w.heap.size w w' := by
  have HN := Lib.hid hN
  clear hN
  have b3 := wthn_bd snap 0 1099511627752 (by omega)
  unfold rnoteL at HN
  generalize e3 : wthn snap 0 1099511627752 = sn at *
  have E3 := Lib.hid e3
  clear e3
  go_enter Try.func12, Try.ntmps12
  refine wp_seq_k (fun K hK => ?_)
  have HK := Lib.hid hK
  clear hK
  go_wp2
  refine HK.out _ _ ?_
  clear HK
  refine wp_seq_k (fun K hK => ?_)
  have HK := Lib.hid hK
  clear hK
  go_wp2_with (go_at_call 16; refine (snap_any _ _).mono ?_; rintro e w' ⟨rfl, rfl⟩; rw [E3.out])
  refine HK.out _ _ ?_
  clear HK
  refine wp_seq_k (fun K hK => ?_)
  have HK := Lib.hid hK
  clear hK
  go_wp2
  refine HK.out _ _ ?_
  clear HK
  refine wp_seq_k (fun K hK => ?_)
  have HK := Lib.hid hK
  clear hK
  go_wp2
  refine HK.out _ _ ?_
  clear HK
  refine wp_seq_k (fun K hK => ?_)
  go_cut [9] (fun out wc => wc.ownsRow w.heap.size 3 1 out (nst (keptB sn index) l l.length).2.length ((nst (keptB sn index) l l.length).2.map (Value.int .i64)) ∧ Below w.heap.size w wc)
  case first =>
    go_wp2_with fail
    go_loopw [9, 10, 11] (fun out la i wr => ∃ k : Nat, k ≤ l.length ∧ i = .int .i64 k ∧ la = .int .i64 (nst (keptB sn index) l k).1 ∧ wr.ownsRow w.heap.size 3 1 out (nst (keptB sn index) l k).2.length ((nst (keptB sn index) l k).2.map (Value.int .i64)) ∧ Below w.heap.size w wr)
      (fun _ _ i _ => l.length - (intOf i).toNat)
    case atStart => exact ⟨0, Nat.zero_le _, rfl, by rw [nst_zero], by rw [nst_zero]; exact World.ownsRow_nil _ _ _ _, Below.refl _ _⟩
    case round =>
      obtain ⟨k, hk, rfl, rfl, hown, hb⟩ := hrel
      have hle := nst_len (keptB sn index) l k
      by_cases hlt : k < l.length
      · obtain ⟨b, off, x, rfl, hx, hc⟩ := (hr.below0 hb).int hlt
        have hs := nst_succ (keptB sn index) l k x hx
        generalize nst (keptB sn index) l k = s at hown hle hs ⊢
        obtain ⟨la, o⟩ := s
        have HS := Lib.hid hs
        clear hs hx
        have hbs := hb.size
        go_wp2_with (at_builtin; refine wpList_append1 rfl _ _ 28 3 elInt rfl w.heap.size _ _ _ rfl hown #[.int .i64 x] rfl (by simp; rfl) _ rfl (by omega) (by omega) (by omega) ?_)
        rotate_left
        · intro v' w' hown' hb' _
          have hb2 := hb.trans hb'
          go_wp2
          refine ⟨⟨k + 1, by omega, by go_num, ?_, ?_, hb2⟩, by simp [intOf]; omega⟩
          · rw [HS.out, nstep_put (by omega) (keptB_yes (by omega) (by omega) ‹_›)]
          · rw [HS.out, nstep_put (by omega) (keptB_yes (by omega) (by omega) ‹_›)]
            simpa using hown'
        all_goals refine ⟨⟨k + 1, by omega, by go_num, ?_, ?_, hb⟩, by simp [intOf]; omega⟩
        all_goals rw [HS.out]
        all_goals first
          | rw [nstep_le (by omega)]
          | rw [nstep_no (by omega) (keptB_no (by omega))]
          | rw [nstep_no (by omega) (keptB_eq ‹_›)]
        all_goals first | rfl | exact hown
      · go_wp2
        go_meet
        obtain rfl : k = l.length := by omega
        exact ⟨hown, hb⟩
  obtain ⟨hown, hb⟩ := hcut
  refine hK _ _ ?_; clear hK
  generalize ho : (nst (keptB sn index) l l.length).2 = o at hown
  have hle := nst_len (keptB sn index) l l.length
  rw [ho] at hle
  have HO := Lib.hid ho
  clear ho
  have hbs := hb.size
  have hrow := Row.of_owns hown
  obtain ⟨oa, ocap, rfl, hor, hoc, hom⟩ := hrow
  refine wp_seq_k (fun K hK => ?_)
  go_cut [] (fun wx => Hid (wx = wc ∧ sn < index ∧ index ≤ sn + 24 ∧ corrupt = true))
  case first =>
    cases corrupt
    all_goals go_wp2
    all_goals first
      | (go_ret; refine ⟨⟨_, rfl, ?_⟩, hb⟩; rw [HN.out, HO.out, if_neg (by first | omega | simp)]; exact hown)
      | (go_meet; exact Lib.hid ⟨rfl, by omega, by omega, by first | trivial | rfl⟩)
  obtain ⟨rfl, hi1, hi2, rfl⟩ := hcut.out
  refine hK _ _ ?_; clear hK
  refine wp_seq_k (fun K hK => ?_)
  have HK := Lib.hid hK
  clear hK
  go_wp2
  refine HK.out _ _ ?_
  clear HK
  refine wp_seq_k (fun K hK => ?_)
  have HK := Lib.hid hK
  clear hK
  go_wp2
  refine HK.out _ _ ?_
  clear HK
  obtain ⟨wo, rfl⟩ : ∃ wo : World, wo = wc := ⟨_, rfl⟩
  refine wp_seq_k (fun K hK => ?_)
  go_cut [12, 13] (fun all put wx => put = .bool (pst index o o.length).2 ∧ wx.ownsRow wo.heap.size 3 1 all (pst index o o.length).1.length ((pst index o o.length).1.map (Value.int .i64)) ∧ Below wo.heap.size wo wx)
  case first =>
    go_wp2_with fail
    go_loopw [12, 13, 14] (fun all put i wr => ∃ k : Nat, k ≤ o.length ∧ i = .int .i64 k ∧ put = .bool (pst index o k).2 ∧ wr.ownsRow wo.heap.size 3 1 all (pst index o k).1.length ((pst index o k).1.map (Value.int .i64)) ∧ Below wo.heap.size wo wr)
      (fun _ _ i _ => o.length - (intOf i).toNat)
    case atStart => exact ⟨0, Nat.zero_le _, rfl, by rw [pst_zero], by rw [pst_zero]; exact World.ownsRow_nil _ _ _ _, Below.refl _ _⟩
    case round =>
      obtain ⟨k, hk, rfl, rfl, hown2, hb2⟩ := hrel
      have hle2 := pst_len index o k
      by_cases hlt : k < o.length
      · obtain ⟨b, off, x, rfl, hx, hc⟩ := (hor.below0 hb2).int hlt
        have hs := pst_succ index o k x hx
        generalize pst index o k = s at hown2 hle2 hs ⊢
        obtain ⟨al, pt⟩ := s
        have HS := Lib.hid hs
        have HX := Lib.hid hx
        clear hs hx
        have hbs2 := hb2.size
        simp only at hown2 hle2
        by_cases hp : pt = false ∧ index < x
        · obtain ⟨rfl, hix⟩ := hp
          go_wp2_with (at_builtin; refine wpList_append1 rfl _ _ 28 3 elInt rfl wo.heap.size _ _ _ rfl hown2 #[.int .i64 index] rfl (by simp; rfl) _ rfl (by omega) (by omega) (by omega) ?_)
          intro v1 w1 hown3 hb3 _
          have hb4 := hb2.trans hb3
          have hbs3 := hb3.size
          have hc2 := (hor.below0 hb4).intAt HX.out
          go_wp2_with (at_builtin; refine wpList_append1 rfl _ _ 28 3 elInt rfl wo.heap.size _ _ _ rfl hown3 #[.int .i64 x] rfl (by simp; rfl) _ rfl (by omega) (by omega) (by omega) ?_)
          intro v2 w2 hown5 hb5 _
          have hb6 := hb4.trans hb5
          go_wp2
          refine ⟨⟨k + 1, by omega, by go_num, ?_, ?_, hb6⟩, by simp [intOf]; omega⟩
          · rw [HS.out, pstep_yes hix]
          · rw [HS.out, pstep_yes hix]
            simpa [List.append_assoc] using hown5
        · have hp3 : pt = true ∨ x ≤ index := by
            cases pt
            · right; simp at hp; omega
            · left; rfl
          clear hp
          have hp5 : pstep index (al, pt) x = (al ++ [x], pt) := pstep_no hp3
          have HP := Lib.hid hp5
          clear hp5
          cases pt
          all_goals try (have hp4 : x ≤ index := by simpa using hp3)
          all_goals clear hp3
          all_goals
            go_wp2_with (at_builtin; refine wpList_append1 rfl _ _ 28 3 elInt rfl wo.heap.size _ _ _ rfl hown2 #[.int .i64 x] rfl (by simp; rfl) _ rfl (by omega) (by omega) (by omega) ?_)
            intro v2 w2 hown5 hb5 _
            have hb6 := hb2.trans hb5
            go_wp2
            refine ⟨⟨k + 1, by omega, by go_num, ?_, ?_, hb6⟩, by simp [intOf]; omega⟩
            · rw [HS.out, HP.out]
            · rw [HS.out, HP.out]
              simpa using hown5
      · go_wp2
        go_meet
        obtain rfl : k = o.length := by omega
        exact ⟨rfl, hown2, hb2⟩
  obtain ⟨rfl, hown2, hb2⟩ := hcut
  refine hK _ _ ?_; clear hK
  have hle2 := pst_len index o o.length
  have hbs2 := hb2.size
  have hfin : pend index (pst index o o.length) = res := by rw [HN.out, HO.out, if_pos ⟨hi1, hi2, by first | trivial | rfl⟩]
  generalize pst index o o.length = s at hown2 hle2 hfin ⊢
  obtain ⟨al, pt⟩ := s
  unfold pend at hfin
  have HF := Lib.hid hfin
  clear hfin
  simp only at hown2 hle2
  have hbB : Below w.heap.size w _ := hb.trans (hb2.mono hbs)
  cases pt
  · go_wp2_with (at_builtin; refine wpList_append1 rfl _ _ 28 3 elInt rfl wo.heap.size _ _ _ rfl hown2 #[.int .i64 index] rfl (by simp; rfl) _ rfl (by omega) (by omega) (by omega) ?_)
    intro v2 w2 hown5 hb5 _
    have hb6 := hbB.trans (hb5.mono hbs)
    go_wp2
    go_ret
    refine ⟨⟨_, rfl, ?_⟩, hb6⟩
    have hF := HF.out
    simp at hF
    rw [← hF]
    exact owns_mono (by simpa using hown5) hbs
  · go_wp2
    go_ret
    refine ⟨⟨_, rfl, ?_⟩, hbB⟩
    have hF := HF.out
    simp at hF
    rw [← hF]
    exact owns_mono hown2 hbs
end Go.Proofs.Ytjolhdlnjdmbeaa
