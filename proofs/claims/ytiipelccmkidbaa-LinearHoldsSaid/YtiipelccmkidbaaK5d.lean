/- The reference's with. -/
import Derived.Test.YtiipelccmkidbaaK5c
import Derived.Test.YtiipelccmkidbaaRows
import Derived.WalkKit
import Derived.WalkSpells
import Derived.WalkLawsBesides
import Derived.Handy
import Derived.Deep.QuietTactic
import Derived.BigQuiet
import Derived.Deep.DeepCutAuto
import Derived.Lib.Hide
import Derived.RegionTactic
import Derived.ChangeAlike
namespace Go.Proofs.Ytiipelccmkidbaa
open Go.RowKit

set_option maxRecDepth 100000 in
set_option maxHeartbeats 8000000 in
theorem with_any (a : Option Addr) (cap : Nat) (l : List Pr) (key v : Tx) (w : World) (hr : Row w a (prs l)) (hl : l.length ≤ 1000) (hso : Rises l) (hsm : ∀ p ∈ l, p.1.size ≤ 100000) (hks : key.size ≤ 100000) :
    Calls Try.prog 21 #[.slice a l.length cap, .string key, .string v] w fun e w' => OwnPrs w.heap.size (putL l key v) e w' ∧ Below w.heap.size w w' := by
  go_enter Try.func21, Try.ntmps21
  refine wp_seq_k (fun K hK => ?_)
  have HK := Lib.hid hK
  clear hK
  go_wp2
  refine HK.out _ _ ?_
  clear HK
  refine wp_seq_k (fun K hK => ?_)
  have HK := Lib.hid hK
  clear hK
  go_wp2
  refine HK.out _ _ ?_
  clear HK
  refine wp_seq_k (fun K hK => ?_)
  have HK := Lib.hid hK
  clear hK
  go_wp2
  refine HK.out _ _ ?_
  clear HK
  refine wp_seq_k (fun K hK => ?_)
  go_cut [7, 8] (fun o b wx => ∃ s : List Pr × Bool, wend key v s = putL l key v ∧ s.1.length ≤ 2000 ∧ b = .bool s.2 ∧ PairsOf wx w.heap.size o s.1 ∧ Below w.heap.size w wx)
  case first =>
    go_wp2_with fail
    go_loopw [7, 8, 9] (fun o b i wr => ∃ k : Nat, k ≤ l.length ∧ i = .int .i64 k ∧ b = .bool (wst key v l k).2 ∧ PairsOf wr w.heap.size o (wst key v l k).1 ∧ Below w.heap.size w wr) (fun _ _ i _ => l.length - (intOf i).toNat)
    case atStart => exact ⟨0, by omega, rfl, rfl, World.ownsRow_nil _ _ _ _, Below.refl _ _⟩
    case round =>
      obtain ⟨k, hk, rfl, rfl, hown, hbr⟩ := hrel
      have hwl := wst_len key v l k
      by_cases hlt : k < l.length
      · obtain ⟨bb, off, rfl, hblt, hcs⟩ := hr.pair (List.getElem?_eq_getElem hlt)
        obtain ⟨cw0, cw1⟩ := hcs _ _ (List.getElem?_eq_getElem hlt)
        have c0 := (hbr.cell (p := ⟨bb, off + k * 2, none⟩) hblt).trans cw0
        have c1 := (hbr.cell (p := ⟨bb, off + k * 2 + 1, none⟩) hblt).trans cw1
        have hstep := wst_succ key v l k _ (List.getElem?_eq_getElem hlt)
        have hys := pr_small hsm (List.getElem?_eq_getElem hlt)
        clear hcs
        generalize l[k] = y at *
        obtain ⟨y1, y2⟩ := y
        have hbs := hbr.size
        cases hb : (wst key v l k).2
        all_goals
          generalize hst : wst key v l k = st at *
          obtain ⟨o1, b1⟩ := st
          simp only at hb hown hwl
          subst hb
          have HST := Lib.hid hst
          clear hst
          unfold PairsOf at hown
        · cases hkl : kl y1 key
          · by_cases hy : y1 = key
            · have hyb : (y1.toList == key.toList) = true := by rw [tx_eq]; exact decide_eq_true hy
              rw [wstep_eq hy] at hstep
              have HS := Lib.hid hstep
              clear hy hstep
              go_wp2_with (first
                | (go_at_call 29; refine (rless_any _ _ _ hys hks).mono ?_; rintro e w1 ⟨rfl, m, rfl⟩)
                | (at_builtin; refine wpList_append1 rfl (.tmp 28) (.tmp 32) 35 46 elPair rfl w.heap.size _ _ _ rfl hown #[.string key, .string v] rfl (by simp; exact ⟨rfl, rfl⟩) _ rfl (by omega) (by omega) (by simpa using hbs) ?_; intro v5 w5 hown5 hb5 _; have hbw5 := (below_drewN hbr m).trans hb5; have e0 := (hbw5.cell (p := ⟨bb, off + k * 2, none⟩) hblt).trans cw0; have e1 := (hbw5.cell (p := ⟨bb, off + k * 2 + 1, none⟩) hblt).trans cw1))
              go_roundw
              case rel => exact ⟨k + 1, by omega, by go_num, by rw [HS.out], by rw [HS.out]; exact PairsOf.snoc (p := (key, v)) hown5, (below_drewN hbr m).trans hb5⟩
              case measure => simp [intOf]; omega
            · have hyb : (y1.toList == key.toList) = false := by rw [tx_eq]; exact decide_eq_false hy
              rw [wstep_put hkl hy] at hstep
              have HS := Lib.hid hstep
              clear hy hstep
              go_wp2_with (first
                | (go_at_call 29; refine (rless_any _ _ _ hys hks).mono ?_; rintro e w1 ⟨rfl, m, rfl⟩)
                | (at_builtin; refine wpList_append1 rfl (.tmp 28) (.tmp 32) 35 46 elPair rfl w.heap.size _ _ _ rfl hown #[.string key, .string v] rfl (by simp; exact ⟨rfl, rfl⟩) _ rfl (by omega) (by omega) (by simpa using hbs) ?_; intro v5 w5 hown5 hb5 _; have hbw5 := (below_drewN hbr m).trans hb5; have e0 := (hbw5.cell (p := ⟨bb, off + k * 2, none⟩) hblt).trans cw0; have e1 := (hbw5.cell (p := ⟨bb, off + k * 2 + 1, none⟩) hblt).trans cw1; have hbs5 := hbw5.size)
                | (at_builtin; refine wpList_append1 rfl (.tmp 41) (.tmp 46) 35 46 elPair rfl w.heap.size _ _ _ rfl hown5 #[.string y1, .string y2] rfl (by simp; exact ⟨rfl, rfl⟩) _ rfl (by omega) (by omega) (by simpa using hbs5) ?_; intro v6 w6 hown6 hb6 _))
              go_roundw
              case rel => exact ⟨k + 1, by omega, by go_num, by rw [HS.out], by rw [HS.out]; exact PairsOf.snoc (p := (y1, y2)) (by simp only [List.length_append, List.length_singleton, prs_app]; exact hown6), hbw5.trans hb6⟩
              case measure => simp [intOf]; omega
          · have hy : y1 ≠ key := kl_ne hkl
            have hyb : (y1.toList == key.toList) = false := by rw [tx_eq]; exact decide_eq_false hy
            rw [wstep_lt hkl] at hstep
            have HS := Lib.hid hstep
            clear hy hstep
            go_wp2_with (first
              | (go_at_call 29; refine (rless_any _ _ _ hys hks).mono ?_; rintro e w1 ⟨rfl, m, rfl⟩)
              | (at_builtin; refine wpList_append1 rfl _ _ 35 46 elPair rfl w.heap.size _ _ _ rfl hown #[.string y1, .string y2] rfl (by simp; exact ⟨rfl, rfl⟩) _ rfl (by omega) (by omega) (by simpa using hbs) ?_; intro v5 w5 hown5 hb5 _))
            go_roundw
            case rel => exact ⟨k + 1, by omega, by go_num, by rw [HS.out], by rw [HS.out]; exact PairsOf.snoc (p := (y1, y2)) hown5, (below_drewN hbr m).trans hb5⟩
            case measure => simp [intOf]; omega
        · by_cases hy : y1 = key
          · have hyb : (y1.toList == key.toList) = true := by rw [tx_eq]; exact decide_eq_true hy
            rw [wstep_no hy] at hstep
            have HS := Lib.hid hstep
            clear hy hstep
            go_wp2
            go_roundw
            case rel => exact ⟨k + 1, by omega, by go_num, by rw [HS.out], by rw [HS.out]; exact hown, hbr⟩
            case measure => simp [intOf]; omega
          · have hyb : (y1.toList == key.toList) = false := by rw [tx_eq]; exact decide_eq_false hy
            rw [wstep_on hy] at hstep
            have HS := Lib.hid hstep
            clear hy hstep
            go_wp2_with (at_builtin; refine wpList_append1 rfl _ _ 35 46 elPair rfl w.heap.size _ _ _ rfl hown #[.string y1, .string y2] rfl (by simp; exact ⟨rfl, rfl⟩) _ rfl (by omega) (by omega) (by simpa using hbs) ?_; intro v5 w5 hown5 hb5 _)
            go_roundw
            case rel => exact ⟨k + 1, by omega, by go_num, by rw [HS.out], by rw [HS.out]; exact PairsOf.snoc (p := (y1, y2)) hown5, hbr.trans hb5⟩
            case measure => simp [intOf]; omega
      · go_wp2
        go_meet
        exact ⟨wst key v l k, by rw [show k = l.length by omega]; exact wst_all key v hso, by omega, rfl, hown, hbr⟩
  obtain ⟨s, hend, hsl, rfl, hown, hbx⟩ := hcut
  obtain ⟨o1, b1⟩ := s
  unfold PairsOf at hown
  refine hK _ _ ?_; clear hK
  have hbs := hbx.size
  cases b1
  · have HE := Lib.hid hend
    clear hend
    go_wp2_with (at_builtin; refine wpList_append1 rfl _ _ 35 46 elPair rfl w.heap.size _ _ _ rfl hown #[.string key, .string v] rfl (by simp; exact ⟨rfl, rfl⟩) _ rfl (by omega) (by omega) (by simpa using hbs) ?_; intro v5 w5 hown5 hb5 _)
    go_ret
    refine ⟨⟨_, rfl, ?_⟩, hbx.trans hb5⟩
    rw [← HE.out]
    exact PairsOf.snoc (p := (key, v)) hown5
  · have HE := Lib.hid hend
    clear hend
    go_wp2
    go_ret
    refine ⟨⟨_, rfl, ?_⟩, hbx⟩
    rw [← HE.out]
    exact hown
end Go.Proofs.Ytiipelccmkidbaa
