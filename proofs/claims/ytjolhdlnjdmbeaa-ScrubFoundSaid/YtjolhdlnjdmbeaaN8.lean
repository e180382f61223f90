/- The law ScrubNotes, walked. -/
import Derived.Test.YtjolhdlnjdmbeaaN7
import Derived.Test.YtjolhdlnjdmbeaaRows
import Derived.WalkKit
import Derived.WalkSpells
import Derived.WalkLawsBesides
import Derived.Handy
import Derived.Deep.QuietTactic
import Derived.BigQuiet
import Derived.Deep.DeepCutAuto
import Derived.Lib.Hide
import Derived.RegionTactic
import Derived.ChangeAlike
namespace Go.Proofs.Ytjolhdlnjdmbeaa
open Go.RowKit

theorem ints_one {l : List Int} : ∀ u ∈ l.map (Value.int .i64), u.oneCell' = true := by
  intro u hu
  simp only [List.mem_map] at hu
  obtain ⟨z, _, rfl⟩ := hu
  rfl

theorem pnote_len (sn idx : Int) (corrupt : Bool) (l : List Int) : (pnoteL sn idx corrupt l).length ≤ l.length + 1 := by
  have h := nst_len (liveB sn) l l.length
  unfold pnoteL
  simp only
  generalize (nst (liveB sn) l l.length).2 = o at *
  have h2 : bsPos o idx ≤ o.length := List.length_filter_le _ _
  split
  · split
    · split
      · omega
      · simp only [List.length_append, List.length_take, List.length_cons, List.length_drop]; omega
    · split
      · simp only [List.length_append, List.length_take, List.length_drop]; omega
      · omega
  · omega

theorem owns_later {w w' : World} {base n size : Nat} {e : TypeId} {v : Value} {xs : List Value} (h : w.ownsRow base e size v n xs) (hb : Below w.heap.size w w') : w'.ownsRow base e size v n xs := by
  obtain ⟨hl, h | ⟨g, cap, cur, hv, hg, hc, r⟩⟩ := h
  · exact ⟨hl, .inl h⟩
  · exact ⟨hl, .inr ⟨g, cap, cur, hv, hg, (hb.block g (Array.getElem?_eq_some_iff.1 hc).1).trans hc, r⟩⟩

set_option maxHeartbeats 2000000 in
theorem notes_law (ad : Option Addr) (cap : Nat) (l : List Int) (snap index : Int) (corrupt : Bool) (w : World) (hr : Row w ad (l.map (Value.int .i64))) (hl : l.length ≤ maxLen) :
    Calls Try.prog 4 #[.slice ad l.length cap, .int .i64 snap, .int .i64 index, .bool corrupt] w fun e w' => e = .returned (.bool true) ∧ Below w.heap.size w w' := by
  unfold maxLen at hl
  by_cases h100 : 100 < l.length
  · go_enter Try.func4, Try.ntmps4
    go_wp2
    go_ret
    exact ⟨rfl, Below.refl _ _⟩
  · go_enter Try.func4, Try.ntmps4
    refine wp_seq_k (fun K hK => ?_)
    have HK := Lib.hid hK
    clear hK
    go_wp2
    refine HK.out _ _ ?_
    clear HK
    refine wp_seq_k (fun K hK => ?_)
    have HK := Lib.hid hK
    clear hK
    go_wp2
    refine HK.out _ _ ?_
    clear HK
    have hbe : Below w.heap.size w (w.alloc (Obj.cells #[] 3)) := (Below.refl _ _).alloc (Nat.le_refl _) _
    have hre := hr.below0 hbe
    have hoe := owns_empty w 3 1
    refine wp_seq_k (fun K hK => ?_)
    have HK := Lib.hid hK
    clear hK
    go_wp2_with (at_builtin; refine wpList_append_row rfl _ _ 28 3 elInt rfl w.heap.size _ _ _ rfl hoe ad l.length cap (l.map (Value.int .i64)) rfl (by simp) hre ints_one (by omega) (by omega) (by simp) ?_)
    intro mv wm hom hbm
    go_wp2
    refine HK.out _ _ ?_
    clear HK
    obtain ⟨ma, mcap, rfl, hmr, _, _⟩ := Row.of_owns hom
    have hbw : Below w.heap.size w wm := hbe.trans hbm
    have hsm := hbm.size
    simp only [World.size_alloc] at hsm
    clear hbe hre hoe hbm
    have hlr : l.length ≤ 1000 := by omega
    refine wp_seq_k (fun K hK => ?_)
    have HK := Lib.hid hK
    clear hK
    go_wp2_with (go_at_call 10; refine (pnote_any ma mcap l snap index corrupt wm hmr hlr _ rfl).mono ?_; rintro e w2 ⟨⟨lv, rfl, hown2⟩, hb2⟩)
    refine HK.out _ _ ?_
    clear HK
    have hs2 := hb2.size
    have hbw2 : Below w.heap.size w w2 := hbw.trans (hb2.mono (by omega))
    have hr2 := hr.below0 hbw2
    have hmr2 := hmr.below0 hb2
    obtain ⟨la, lcap, rfl, hlrow, _, _⟩ := Row.of_owns hown2
    generalize hres : pnoteL (wthn snap 0 1099511627752) index corrupt l = res at *
    have hrl : res.length ≤ 1000000 := by
      have := pnote_len (wthn snap 0 1099511627752) index corrupt l
      rw [hres] at this
      omega
    have hres2 : res = rnoteL (wthn snap 0 1099511627752) index corrupt l := by rw [← hres, note_same]
    have HRES := Lib.hid hres2
    clear hres hres2
    refine wp_seq_k (fun K hK => ?_)
    go_cut [] (fun wx => Below w2.heap.size w2 wx)
    case first =>
      go_wp2_with (go_at_call 12; refine (rnote_any ad cap l snap index corrupt w2 hr2 hlr res HRES.out).mono ?_; rintro e w3 ⟨⟨rv, rfl, hown3⟩, hb3⟩)
      obtain ⟨ra, rcap, rfl, hrrow, _, _⟩ := Row.of_owns hown3
      have hlrow3 := hlrow.below0 hb3
      go_wp2_with (go_at_call 11; refine (ints_any la ra lcap rcap res res _ hlrow3 hrrow hrl hrl true (by simp)).mono ?_; rintro e w4 ⟨rfl, q, rfl⟩)
      go_meet
      exact below_drewN hb3 q
    refine hK _ _ ?_; clear hK
    have hownc := owns_later hown2 hcut
    have hbmc : Below wm.heap.size wm wc := hb2.trans (hcut.mono (by omega))
    have hsc := hbmc.size
    refine wp_seq_k (fun K hK => ?_)
    go_cut [] (fun wx => Below wm.heap.size wm wx)
    case first =>
      go_wp2_with fail
      go_loopw [11] (fun i wr => ∃ k : Nat, k ≤ res.length ∧ i = .int .i64 k ∧ Below wm.heap.size wm wr ∧ ∃ xs, wr.ownsRow wm.heap.size 3 1 (.slice la res.length lcap) res.length xs) (fun i _ => res.length - (intOf i).toNat)
      case atStart => exact ⟨0, Nat.zero_le _, rfl, hbmc, _, hownc⟩
      case round =>
        obtain ⟨k, hk, rfl, hbr, xs, hor⟩ := hrel
        by_cases hlt : k < res.length
        · obtain ⟨g, gc, hv, hg⟩ := owns_some hor (by omega)
          simp only [Value.slice.injEq, true_and] at hv
          obtain ⟨rfl, rfl⟩ := hv
          have hxl : xs.length = res.length := by simpa using hor.1
          have hc0 := hor.cellAt k (by omega)
          rw [List.getElem?_eq_getElem (by omega)] at hc0
          have hf0 := hor.frozenAt k
          have hst := hor.stored k (.int .i64 (-5))
          have HST := Lib.hid hst
          generalize xs[k] = x0 at hc0
          clear hst
          have hsr := hbr.size
          go_wp2
          have hst := HST.out
          exact ⟨⟨k + 1, by omega, by go_num, hbr.trans (grown_below hst.2 hsr (fun j hj => by cases hj; exact hg)), _, hst.1⟩, by simp [intOf]; omega⟩
        · go_wp2
          go_meet
          exact hbr
    refine hK _ _ ?_; clear hK
    have hmrc := hmr.below0 hcut
    have hrc := hr.below0 (hbw.trans (hcut.mono (by omega)))
    go_wp2_with (go_at_call 11; refine (ints_any ma ad mcap cap l l _ hmrc hrc (by omega) (by omega) true (by simp)).mono ?_; rintro e w4 ⟨rfl, q, rfl⟩)
    go_ret
    exact ⟨rfl, below_drewN (hbw.trans (hcut.mono (by omega))) q⟩
end Go.Proofs.Ytjolhdlnjdmbeaa
