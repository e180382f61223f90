/- Texts that the claim leans on, part 11: X11, D59, D60, OBC. -/
import Derived.Test.YtejjneamngkmoaaDoorZ1
import Derived.Test.YtejjneamngkmoaaDoorZ2
import Derived.Test.YtejjneamngkmoaaDoorZ3
import Derived.Test.YtejjneamngkmoaaDoorZ4
import Derived.Test.YtejjneamngkmoaaDoorZ5
import Derived.Test.YtejjneamngkmoaaDoorZ6
import Derived.Test.YtejjneamngkmoaaDoorZ7
import Derived.Test.YtejjneamngkmoaaDoorZ8
import Derived.Test.YtejjneamngkmoaaDoorZ9
import Derived.Test.YtejjneamngkmoaaDoorZ10
import Derived.Test.YtejjneamngkmoaaDoorRows
import Derived.WalkKit
import Derived.WalkSpells
import Derived.WalkLawsBesides
import Derived.Handy
import Derived.Deep.QuietTactic
import Derived.BigQuiet
import Derived.Deep.DeepCutAuto
import Derived.Lib.Hide
import Derived.RegionTactic
import Derived.ChangeAlike
import Derived.Laws.ResultCell
import Derived.Outline
import Derived.OpenShut
import Derived.ChangeSlices
import Derived.ProofKit
import Derived.Lib.SmallJoins
import Derived.Deep.Slices
import Derived.Laws.IdiomStrings
import Derived.Laws.BytesArg
import Derived.Laws.MakeOwn
import Derived.Lib.SliceRun
import Derived.Laws.BitsAllLaws
import Derived.Great.BuildSlice
import Derived.Great.FillDense
import Derived.Laws.Rows
import Derived.Deep.Quiet
import Derived.Deep.RegionHeld3
import Derived.Laws.CopyOwn
import Derived.Laws.CopyRow
import Derived.Laws.NewBlocks
import Derived.Deep.RegionLaw
namespace Go.Proofs.YtejjneamngkmoaaDoor

section
variable {d : Dk} {rep reg inc : Int} {body : List UInt8} {o : Vo}
theorem next_ver (o : Vo) (inc : Int) (body : List UInt8) : verO (nextO o inc body) = verO o + 1 := rfl
theorem next_bod (o : Vo) (inc : Int) (body : List UInt8) : bodO (nextO o inc body) = body := rfl
theorem coR_old {o : Vo} {i : Nat} : (coR rep reg i o).st ≠ 1 ∨ (coR rep reg i o).tg.idx < verO o + 1 := by
  match o with
  | none => exact .inl (by simp [coR])
  | some (v, c, b) => exact .inr (by simp only [coR, verO]; omega)
/-- What a crash behind a store leaves: what is loaded then is what was there, or what was stored; it is healed. -/
theorem crash_heal (h : Live d) (hp : 0 ≤ rep ∧ rep ≤ 6) (hr : reg = 1 ∨ reg = 2) (hi : 1 ≤ inc ∧ inc ≤ 1099511627776) (hb : body.length ≤ 43) (hf : Fr d rep reg o) (hv : verO o + 1 ≤ 1099511627776) (hl : 0 ≤ d.left) (keep : List Bool) :
    ∃ d6 d7 d8, storeC d rep reg inc body = (d6, if 4 ≤ d.left then 0 else 5) ∧ crashD d6 keep = (d7, 0) ∧ startD d7 = (d8, 0) ∧ Live d8 ∧ d8.left = -1 ∧ (∀ j : Nat, j < 156 → j ≠ secC reg 0 → j ≠ secC reg 1 → readD d8 j = readD d j) ∧
      ∃ o', ((¬ 4 ≤ d.left ∧ o' = o) ∨ o' = nextO o inc body) ∧ okO o' ∧ loadC d8 rep reg = (verO o', bodO o', 0) ∧ ∃ d9, healC d8 rep reg = (d9, 0) ∧ Live d9 ∧ d9.left < 0 ∧ Fr d9 rep reg o' ∧ (∀ j : Nat, j < 156 → j ≠ secC reg 0 → j ≠ secC reg 1 → readD d9 j = readD d8 j) := by
  obtain ⟨e1, e2, e3, e4, e5⟩ := store_crash h hp hr hi hb hf hv hl keep
  obtain ⟨c1, c2⟩ := crash_start (d := (storeC d rep reg inc body).1) keep e2 e3
  have hL8 := anew_live (d := (storeC d rep reg inc body).1) keep e2
  have hok := next_ok hf.ok hv hi hb
  refine ⟨(storeC d rep reg inc body).1, (crashD (storeC d rep reg inc body).1 keep).1, anew (storeC d rep reg inc body).1 keep, ?_, ?_, c2, hL8, rfl, e5, ?_⟩
  · rw [← e1]
  · rw [← c1]
  · have hleft : (anew (storeC d rep reg inc body).1 keep).left < 0 := by show (-1 : Int) < 0; decide
    rcases e4 with ⟨hn, hf8⟩ | hf8 | ⟨hn, f, hf2, _, r1, r2⟩
    · exact ⟨o, .inl ⟨hn, rfl⟩, hf.ok, hf8.load hL8 hp hr, _, heal_same hL8 hp hr hf8, hL8, hleft, hf8, fun _ _ _ _ => rfl⟩
    · exact ⟨_, .inr rfl, hok, hf8.load hL8 hp hr, _, heal_same hL8 hp hr hf8, hL8, hleft, hf8, fun _ _ _ _ => rfl⟩
    · have k1 := cop_fr hp hr hf2 hok r1
      have k2 := cop_fr hp hr (by omega) hf.ok r2
      have hold : (cop (anew (storeC d rep reg inc body).1 keep) rep reg (1 - f)).st ≠ 1 ∨ (cop (anew (storeC d rep reg inc body).1 keep) rep reg (1 - f)).tg.idx < verO o + 1 := by rw [k2]; exact coR_old
      obtain ⟨d9, g1, g2, g3, g4, g5⟩ := heal_one (v := verO o + 1) (c := inc) (b := body) hL8 hp hr hf2 hok hleft r1 hold
      exact ⟨nextO o inc body, .inr rfl, hok, load_one hL8 hp hr hf2 k1 hold, d9, g1, g2, by rw [g3]; exact hleft, g4, g5⟩
/-- A copy is lost, that is healed, the other one is lost: the same is loaded. -/
theorem lose_heal {v c : Int} {b : List UInt8} (h : Live d) (hp : 0 ≤ rep ∧ rep ≤ 6) (hr : reg = 1 ∨ reg = 2) (hf : Fr d rep reg (some (v, c, b))) (hl : d.left < 0) {i : Nat} (hi : i < 2) :
    ∃ d1 d2 d3, loseD d (secC reg i) = (d1, 0) ∧ loadC d1 rep reg = (v, b, 0) ∧ healC d1 rep reg = (d2, 0) ∧ loseD d2 (secC reg (1 - i)) = (d3, 0) ∧ loadC d3 rep reg = (v, b, 0) := by
  have hs1 := sec_lt hr hi
  have hs2 := sec_lt hr (i := 1 - i) (by omega)
  have hne : secC reg (1 - i) ≠ secC reg i := by unfold secC; omega
  have hrd : ∀ {d : Dk}, Fr d rep reg (some (v, c, b)) → ∀ j, j < 2 → readD d (secC reg j) = (fraC rep reg v c b j, 0) := by
    intro d hf j hj
    rcases (show j = 0 ∨ j = 1 by omega) with rfl | rfl
    · exact hf.r0
    · exact hf.r1
  obtain ⟨d1, e1, l1, f1, r1, o1⟩ := lose_at h hs1
  have c1 : cop d1 rep reg i = badR := cop_none r1
  have q1 : readD d1 (secC reg (1 - i)) = (fraC rep reg v c b (1 - i), 0) := (o1 _ hs2 hne).trans (hrd hf _ (by omega))
  have c1' := cop_fr hp hr (i := 1 - i) (by omega) hf.ok (show readD d1 (secC reg (1 - i)) = (frR rep reg (1 - i) (some (v, c, b)), 0) from q1)
  have hii : 1 - (1 - i) = i := by omega
  have hb1 : (cop d1 rep reg (1 - (1 - i))).st ≠ 1 ∨ (cop d1 rep reg (1 - (1 - i))).tg.idx < v := by rw [hii, c1]; exact .inl (by decide)
  obtain ⟨d2, g1, g2, g3, g4, _⟩ := heal_one l1 hp hr (i := 1 - i) (by omega) hf.ok (by rw [f1]; exact hl) q1 hb1
  obtain ⟨d3, e3, l3, _, r3, o3⟩ := lose_at g2 hs2
  have c3 : cop d3 rep reg (1 - i) = badR := cop_none r3
  have q3 : readD d3 (secC reg i) = (fraC rep reg v c b i, 0) := (o3 _ hs1 (Ne.symm hne)).trans (hrd g4 _ hi)
  have c3' := cop_fr hp hr (i := i) hi hf.ok (show readD d3 (secC reg i) = (frR rep reg i (some (v, c, b)), 0) from q3)
  exact ⟨d1, d2, d3, e1, load_one l1 hp hr (by omega) c1' hb1, g1, e3, load_one l3 hp hr hi c3' (.inl (by rw [c3]; decide))⟩
end
end Go.Proofs.YtejjneamngkmoaaDoor

namespace Go.Proofs.YtejjneamngkmoaaDoor
open Go.RowKit

theorem bodO_len {o : Vo} (h : okO o) : (bodO o).length ≤ 43 := by
  match o, h with
  | none, _ => simp [bodO]
  | some (v, c, b), ⟨_, _, _, _, h5⟩ => exact h5
theorem row_kt {w w' : World} {a : Option Addr} {xs : List Value} (h : Row w a xs) (hb : Below w.heap.size w w') : Row w' a xs := h.below0 hb
set_option maxRecDepth 100000 in
set_option maxHeartbeats 4000000 in
theorem either_law (two : Bool) (a ba ka : Option Addr) (c bc kc : Nat) (ls : List Part) (body : List UInt8) (pw : UInt8) (keep : List Bool) (w : World) (hl : Parts w a ls) (hs : SlB w ba bc body) (hk : Row w ka (keep.map Value.bool)) :
    Calls Tryd.prog 9 #[.bool two, .slice a ls.length c, .slice ba body.length bc, .int .u8 (pw.toNat : Int), .slice ka keep.length kc] w fun e w' => e = .returned (.bool true) ∧ Below w.heap.size w w' := by
  cases hg : grB ls
  case true =>
    have HG := Lib.hid hg
    clear hg
    go_enter Tryd.func9, Tryd.ntmps9
    go_wp2_with fail
    refine (awake_any _).mono ?_
    rintro e w1 ⟨rfl, hb1⟩
    go_wp2_with fail
    refine (great_any a c ls _ (parts_kt hl hb1)).mono ?_
    rintro e w2 ⟨rfl, rfl⟩
    rw [HG.out]
    go_wp2
    go_ret
    exact ⟨rfl, hb1⟩
  case false =>
  obtain ⟨hl20, hl43⟩ := grB_no hg
  have HG := Lib.hid hg
  have HL43 := Lib.hid hl43
  clear hg hl43
  by_cases hb43 : body.length ≤ 43
  case neg =>
    have hI : (43 : Int) < body.length := by omega
    go_enter Tryd.func9, Tryd.ntmps9
    go_wp2_with fail
    refine (awake_any _).mono ?_
    rintro e w1 ⟨rfl, hb1⟩
    go_wp2_with fail
    refine (great_any a c ls _ (parts_kt hl hb1)).mono ?_
    rintro e w2 ⟨rfl, rfl⟩
    rw [HG.out]
    go_wp2
    go_ret
    exact ⟨rfl, hb1⟩
  case pos =>
  have hI : ¬ (43 : Int) < body.length := by omega
  by_cases hk10 : keep.length ≤ 10
  case neg =>
    have hI2 : (10 : Int) < keep.length := by omega
    go_enter Tryd.func9, Tryd.ntmps9
    go_wp2_with fail
    refine (awake_any _).mono ?_
    rintro e w1 ⟨rfl, hb1⟩
    go_wp2_with fail
    refine (great_any a c ls _ (parts_kt hl hb1)).mono ?_
    rintro e w2 ⟨rfl, rfl⟩
    rw [HG.out]
    go_wp2
    go_ret
    exact ⟨rfl, hb1⟩
  case pos =>
  have hI2 : ¬ (10 : Int) < keep.length := by omega
  obtain ⟨p, hp, hp6⟩ : ∃ p : Nat, pw.toNat % 6 = p ∧ p < 6 := ⟨_, rfl, Nat.mod_lt _ (by decide)⟩
  have hpe : (pw.toNat : Int) % 6 = (p : Int) := by omega
  have hpt : (pw.toNat : Int).tmod 6 = (p : Int) := by rw [Int.tmod_eq_emod_of_nonneg (by omega)]; exact hpe
  have hpu := pw.toNat_lt
  clear hp
  go_enter Tryd.func9, Tryd.ntmps9
  go_wp2_with fail
  refine (awake_any _).mono ?_
  rintro e w1 ⟨rfl, hb1⟩
  go_wp2_with fail
  refine (great_any a c ls _ (parts_kt hl hb1)).mono ?_
  rintro e w2 ⟨rfl, rfl⟩
  rw [HG.out]
  cases two
  case true =>
    go_wp2_with fail
    refine (new156 (B := w.heap.size) hb1.size).mono ?_
    rintro e w3 ⟨⟨g, gp, rfl, D3⟩, hb3⟩
    have k3 := (Kt.of hb1 (Nat.le_refl w.heap.size)).trans (Kt.of hb3 hb1.size)
    clear hb1 hb3
    go_wp2_with fail
    refine (stored_any D3 k3.bl.size 2 (.inr rfl) a c ls (fun w' hk => parts_kt hl (k3.trans hk).bl) hl20 HL43.out new_live (by decide) (new_fr 0 (.inr rfl))).mono ?_
    rintro e w4 ⟨rfl, d4, wv4, D4, hk4, A4⟩
    have k4 := k3.trans hk4
    clear D3 k3 hk4
    have hL4 := A4.live
    have hf4 := A4.fr
    clear A4
    have hpw := power_any D4 (p : Int) (by omega)
    rw [power_live hL4 (show (0 : Int) ≤ (p : Int) by omega)] at hpw
    simp only at hpw
    have hver := stO_ver (bodsP ls)
    rw [show (bodsP ls).length = ls.length by simp [bodsP]] at hver
    obtain ⟨d6, d7, d8, e6, e7, e8, hL8, _, _, o', ho', hok', hlo, _⟩ := crash_heal (inc := 99) (body := body) (live_left hL4 (p : Int)) (show (0 : Int) ≤ 0 ∧ (0 : Int) ≤ 6 by omega) (.inr rfl) (by omega) hb43 (fr_left hf4 (p : Int)) (by rw [hver]; omega) (show (0 : Int) ≤ (p : Int) by omega) keep
    simp only at e6 ho'
    have hbl : (loadC d8 0 2).2.1.length ≤ 1000000 := by rw [hlo]; have := bodO_len hok'; simp only; omega
    have HLO := Lib.hid hlo
    have HVR := Lib.hid hver
    clear hlo hver
    go_wp2_with fail
    refine hpw.mono ?_
    rintro e w5 ⟨rfl, D5, hk5⟩
    have k5 := k4.trans hk5
    clear D4 k4 hk5 hpw
    have hst := cstore_any D5 k5.bl.size 0 2 99 ba bc body (fun w' hk => hs.below (k5.trans hk).bl) (by omega) (by rw [hL4.w]; simp)
    rw [e6] at hst
    simp only at hst
    have HE7 := Lib.hid e7
    have HE8 := Lib.hid e8
    clear e6 e7 e8
    by_cases h0 : ls.length = 0
    case pos =>
      have HB := Lib.hid (show bodO (stO (bodsP ls)) = [] by rw [stO_nil h0]; rfl)
      have hI0 : ¬ (0 : Int) < ls.length := by omega
      clear h0
      by_cases hp4 : (4 : Int) ≤ p
      case pos =>
        rw [if_pos hp4] at hst
        have ho2 : o' = nextO (stO (bodsP ls)) 99 body := by
          rcases ho' with ⟨hn, _⟩ | h
          · exact absurd hp4 (by omega)
          · exact h
        subst ho2
        have hls : loadsD d8 2 ((ls.length : Int) + 1) body = true := by
          have := HLO.out
          rw [next_ver, HVR.out, next_bod] at this
          exact loadsD_of this
        have HLS := Lib.hid hls
        clear ho' hls
        go_wp2_with fail
        refine hst.mono ?_
        rintro e w6 ⟨rfl, ⟨wv6, D6⟩, hk6⟩
        have k6 := k5.trans hk6
        clear hst D5 k5 hk6
        have hcr := crash_any D6 k6.bl.size ka kc keep (fun w' hk' => row_kt hk (k6.trans hk').bl)
        rw [HE7.out] at hcr
        go_wp2_with fail
        refine hcr.mono ?_
        rintro e w7 ⟨rfl, ⟨wv7, D7⟩, hk7⟩
        (try simp only at D7)
        have k7 := k6.trans hk7
        clear hcr D6 k6 hk7
        have hsa := start_any D7
        rw [HE8.out] at hsa
        go_wp2_with fail
        refine hsa.mono ?_
        rintro e w8 ⟨rfl, D8, hk8⟩
        (try simp only at D8)
        have k8 := k7.trans hk8
        clear hsa D7 k7 hk8
        go_wp2_with fail
        refine (loads_any D8 2 ((ls.length : Int) + 1) ba bc body (hs.below k8.bl) hbl).mono ?_
        rintro e w9 ⟨rfl, hb9⟩
        rw [HLS.out]
        go_wp2
        go_ret
        exact ⟨rfl, (k8.trans (Kt.of hb9 k8.bl.size)).bl⟩
      case neg =>
        rw [if_neg hp4] at hst
        rcases ho' with ⟨_, rfl⟩ | rfl
        · have hls : loadsD d8 2 (ls.length : Int) [] = true := by
            have := HLO.out
            rw [HVR.out, show bodO (stO (bodsP ls)) = [] from HB.out] at this
            exact loadsD_of this
          have HLS := Lib.hid hls
          clear hls
          go_wp2_with fail
          refine hst.mono ?_
          rintro e w6 ⟨rfl, ⟨wv6, D6⟩, hk6⟩
          have k6 := k5.trans hk6
          clear hst D5 k5 hk6
          have hcr := crash_any D6 k6.bl.size ka kc keep (fun w' hk' => row_kt hk (k6.trans hk').bl)
          rw [HE7.out] at hcr
          go_wp2_with fail
          refine hcr.mono ?_
          rintro e w7 ⟨rfl, ⟨wv7, D7⟩, hk7⟩
          (try simp only at D7)
          have k7 := k6.trans hk7
          clear hcr D6 k6 hk7
          have hsa := start_any D7
          rw [HE8.out] at hsa
          go_wp2_with fail
          refine hsa.mono ?_
          rintro e w8 ⟨rfl, D8, hk8⟩
          (try simp only at D8)
          have k8 := k7.trans hk8
          clear hsa D7 k7 hk8
          go_wp2_with fail
          refine (loads_any D8 2 (ls.length : Int) none 0 [] ((fun w' _ => sl_nil w') _ k8.bl) hbl).mono ?_
          rintro e w9 ⟨rfl, hb9⟩
          rw [HLS.out]
          go_wp2
          go_ret
          exact ⟨rfl, (k8.trans (Kt.of hb9 k8.bl.size)).bl⟩
        · have hlo2 : loadC d8 0 2 = ((ls.length : Int) + 1, body, 0) := by
            have := HLO.out
            rw [next_ver, HVR.out, next_bod] at this
            exact this
          have hls : loadsD d8 2 (ls.length : Int) [] = false := by
            unfold loadsD
            rw [hlo2]
            simp only
            rw [decide_eq_false (show ¬ (ls.length : Int) + 1 = (ls.length : Int) by omega)]
            simp
          have HLS := Lib.hid hls
          have HLS2 := Lib.hid (loadsD_of hlo2)
          clear hls hlo2
          go_wp2_with fail
          refine hst.mono ?_
          rintro e w6 ⟨rfl, ⟨wv6, D6⟩, hk6⟩
          have k6 := k5.trans hk6
          clear hst D5 k5 hk6
          have hcr := crash_any D6 k6.bl.size ka kc keep (fun w' hk' => row_kt hk (k6.trans hk').bl)
          rw [HE7.out] at hcr
          go_wp2_with fail
          refine hcr.mono ?_
          rintro e w7 ⟨rfl, ⟨wv7, D7⟩, hk7⟩
          (try simp only at D7)
          have k7 := k6.trans hk7
          clear hcr D6 k6 hk7
          have hsa := start_any D7
          rw [HE8.out] at hsa
          go_wp2_with fail
          refine hsa.mono ?_
          rintro e w8 ⟨rfl, D8, hk8⟩
          (try simp only at D8)
          have k8 := k7.trans hk8
          clear hsa D7 k7 hk8
          go_wp2_with fail
          refine (loads_any D8 2 (ls.length : Int) none 0 [] ((fun w' _ => sl_nil w') _ k8.bl) hbl).mono ?_
          rintro e w9 ⟨rfl, hb9⟩
          rw [HLS.out]
          have D9 := D8.below hb9
          have k9 := k8.trans (Kt.of hb9 k8.bl.size)
          go_wp2_with fail
          refine (loads_any D9 2 ((ls.length : Int) + 1) ba bc body (hs.below k9.bl) hbl).mono ?_
          rintro e w10 ⟨rfl, hb10⟩
          rw [HLS2.out]
          go_wp2
          go_ret
          exact ⟨rfl, (k9.trans (Kt.of hb10 k9.bl.size)).bl⟩
    case neg =>
      obtain ⟨m, hm1⟩ : ∃ m, ls.length = m + 1 := ⟨ls.length - 1, by omega⟩
      have hmlt : m < ls.length := by omega
      have hsl := stO_last hm1
      obtain ⟨b1, o1, rfl⟩ := hl.addr (by omega)
      have hcell := fun w' (hb : Below w.heap.size w w') => (parts_kt hl hb).cell hmlt
      have hx := fun w' (hb : Below w.heap.size w w') => (parts_kt hl hb).each _ (List.getElem_mem hmlt)
      generalize ls[m] = x at *
      obtain ⟨xa, xc, xl⟩ := x
      simp only at hsl hx
      unfold partV at hcell
      simp only at hcell
      have HB := Lib.hid (show bodO (stO (bodsP ls)) = xl by rw [hsl]; rfl)
      have hI0 : (0 : Int) < ls.length := by omega
      have hc5 := hcell _ k5.bl
      have HX := Lib.hid hx
      have hsub : (ls.length : Int) - 1 = (m : Int) := by omega
      have HM := Lib.hid hm1
      clear h0 hx hcell hm1 hsl
      by_cases hp4 : (4 : Int) ≤ p
      case pos =>
        rw [if_pos hp4] at hst
        have ho2 : o' = nextO (stO (bodsP ls)) 99 body := by
          rcases ho' with ⟨hn, _⟩ | h
          · exact absurd hp4 (by omega)
          · exact h
        subst ho2
        have hls : loadsD d8 2 ((ls.length : Int) + 1) body = true := by
          have := HLO.out
          rw [next_ver, HVR.out, next_bod] at this
          exact loadsD_of this
        have HLS := Lib.hid hls
        clear ho' hls
        go_wp2_with fail
        refine hst.mono ?_
        rintro e w6 ⟨rfl, ⟨wv6, D6⟩, hk6⟩
        have k6 := k5.trans hk6
        clear hst D5 k5 hk6
        have hcr := crash_any D6 k6.bl.size ka kc keep (fun w' hk' => row_kt hk (k6.trans hk').bl)
        rw [HE7.out] at hcr
        go_wp2_with fail
        refine hcr.mono ?_
        rintro e w7 ⟨rfl, ⟨wv7, D7⟩, hk7⟩
        (try simp only at D7)
        have k7 := k6.trans hk7
        clear hcr D6 k6 hk7
        have hsa := start_any D7
        rw [HE8.out] at hsa
        go_wp2_with fail
        refine hsa.mono ?_
        rintro e w8 ⟨rfl, D8, hk8⟩
        (try simp only at D8)
        have k8 := k7.trans hk8
        clear hsa D7 k7 hk8
        go_wp2_with fail
        refine (loads_any D8 2 ((ls.length : Int) + 1) ba bc body (hs.below k8.bl) hbl).mono ?_
        rintro e w9 ⟨rfl, hb9⟩
        rw [HLS.out]
        go_wp2
        go_ret
        exact ⟨rfl, (k8.trans (Kt.of hb9 k8.bl.size)).bl⟩
      case neg =>
        rw [if_neg hp4] at hst
        rcases ho' with ⟨_, rfl⟩ | rfl
        · have hls : loadsD d8 2 (ls.length : Int) xl = true := by
            have := HLO.out
            rw [HVR.out, show bodO (stO (bodsP ls)) = xl from HB.out] at this
            exact loadsD_of this
          have HLS := Lib.hid hls
          clear hls
          go_wp2_with fail
          refine hst.mono ?_
          rintro e w6 ⟨rfl, ⟨wv6, D6⟩, hk6⟩
          have k6 := k5.trans hk6
          clear hst D5 k5 hk6
          have hcr := crash_any D6 k6.bl.size ka kc keep (fun w' hk' => row_kt hk (k6.trans hk').bl)
          rw [HE7.out] at hcr
          go_wp2_with fail
          refine hcr.mono ?_
          rintro e w7 ⟨rfl, ⟨wv7, D7⟩, hk7⟩
          (try simp only at D7)
          have k7 := k6.trans hk7
          clear hcr D6 k6 hk7
          have hsa := start_any D7
          rw [HE8.out] at hsa
          go_wp2_with fail
          refine hsa.mono ?_
          rintro e w8 ⟨rfl, D8, hk8⟩
          (try simp only at D8)
          have k8 := k7.trans hk8
          clear hsa D7 k7 hk8
          go_wp2_with fail
          refine (loads_any D8 2 (ls.length : Int) xa xc xl (HX.out _ k8.bl) hbl).mono ?_
          rintro e w9 ⟨rfl, hb9⟩
          rw [HLS.out]
          go_wp2
          go_ret
          exact ⟨rfl, (k8.trans (Kt.of hb9 k8.bl.size)).bl⟩
        · have hlo2 : loadC d8 0 2 = ((ls.length : Int) + 1, body, 0) := by
            have := HLO.out
            rw [next_ver, HVR.out, next_bod] at this
            exact this
          have hls : loadsD d8 2 (ls.length : Int) xl = false := by
            unfold loadsD
            rw [hlo2]
            simp only
            rw [decide_eq_false (show ¬ (ls.length : Int) + 1 = (ls.length : Int) by omega)]
            simp
          have HLS := Lib.hid hls
          have HLS2 := Lib.hid (loadsD_of hlo2)
          clear hls hlo2
          go_wp2_with fail
          refine hst.mono ?_
          rintro e w6 ⟨rfl, ⟨wv6, D6⟩, hk6⟩
          have k6 := k5.trans hk6
          clear hst D5 k5 hk6
          have hcr := crash_any D6 k6.bl.size ka kc keep (fun w' hk' => row_kt hk (k6.trans hk').bl)
          rw [HE7.out] at hcr
          go_wp2_with fail
          refine hcr.mono ?_
          rintro e w7 ⟨rfl, ⟨wv7, D7⟩, hk7⟩
          (try simp only at D7)
          have k7 := k6.trans hk7
          clear hcr D6 k6 hk7
          have hsa := start_any D7
          rw [HE8.out] at hsa
          go_wp2_with fail
          refine hsa.mono ?_
          rintro e w8 ⟨rfl, D8, hk8⟩
          (try simp only at D8)
          have k8 := k7.trans hk8
          clear hsa D7 k7 hk8
          go_wp2_with fail
          refine (loads_any D8 2 (ls.length : Int) xa xc xl (HX.out _ k8.bl) hbl).mono ?_
          rintro e w9 ⟨rfl, hb9⟩
          rw [HLS.out]
          have D9 := D8.below hb9
          have k9 := k8.trans (Kt.of hb9 k8.bl.size)
          go_wp2_with fail
          refine (loads_any D9 2 ((ls.length : Int) + 1) ba bc body (hs.below k9.bl) hbl).mono ?_
          rintro e w10 ⟨rfl, hb10⟩
          rw [HLS2.out]
          go_wp2
          go_ret
          exact ⟨rfl, (k9.trans (Kt.of hb10 k9.bl.size)).bl⟩
  case false =>
    go_wp2_with fail
    refine (new156 (B := w.heap.size) hb1.size).mono ?_
    rintro e w3 ⟨⟨g, gp, rfl, D3⟩, hb3⟩
    have k3 := (Kt.of hb1 (Nat.le_refl w.heap.size)).trans (Kt.of hb3 hb1.size)
    clear hb1 hb3
    go_wp2_with fail
    refine (stored_any D3 k3.bl.size 1 (.inl rfl) a c ls (fun w' hk => parts_kt hl (k3.trans hk).bl) hl20 HL43.out new_live (by decide) (new_fr 0 (.inl rfl))).mono ?_
    rintro e w4 ⟨rfl, d4, wv4, D4, hk4, A4⟩
    have k4 := k3.trans hk4
    clear D3 k3 hk4
    have hL4 := A4.live
    have hf4 := A4.fr
    clear A4
    have hpw := power_any D4 (p : Int) (by omega)
    rw [power_live hL4 (show (0 : Int) ≤ (p : Int) by omega)] at hpw
    simp only at hpw
    have hver := stO_ver (bodsP ls)
    rw [show (bodsP ls).length = ls.length by simp [bodsP]] at hver
    obtain ⟨d6, d7, d8, e6, e7, e8, hL8, _, _, o', ho', hok', hlo, _⟩ := crash_heal (inc := 99) (body := body) (live_left hL4 (p : Int)) (show (0 : Int) ≤ 0 ∧ (0 : Int) ≤ 6 by omega) (.inl rfl) (by omega) hb43 (fr_left hf4 (p : Int)) (by rw [hver]; omega) (show (0 : Int) ≤ (p : Int) by omega) keep
    simp only at e6 ho'
    have hbl : (loadC d8 0 1).2.1.length ≤ 1000000 := by rw [hlo]; have := bodO_len hok'; simp only; omega
    have HLO := Lib.hid hlo
    have HVR := Lib.hid hver
    clear hlo hver
    go_wp2_with fail
    refine hpw.mono ?_
    rintro e w5 ⟨rfl, D5, hk5⟩
    have k5 := k4.trans hk5
    clear D4 k4 hk5 hpw
    have hst := cstore_any D5 k5.bl.size 0 1 99 ba bc body (fun w' hk => hs.below (k5.trans hk).bl) (by omega) (by rw [hL4.w]; simp)
    rw [e6] at hst
    simp only at hst
    have HE7 := Lib.hid e7
    have HE8 := Lib.hid e8
    clear e6 e7 e8
    by_cases h0 : ls.length = 0
    case pos =>
      have HB := Lib.hid (show bodO (stO (bodsP ls)) = [] by rw [stO_nil h0]; rfl)
      have hI0 : ¬ (0 : Int) < ls.length := by omega
      clear h0
      by_cases hp4 : (4 : Int) ≤ p
      case pos =>
        rw [if_pos hp4] at hst
        have ho2 : o' = nextO (stO (bodsP ls)) 99 body := by
          rcases ho' with ⟨hn, _⟩ | h
          · exact absurd hp4 (by omega)
          · exact h
        subst ho2
        have hls : loadsD d8 1 ((ls.length : Int) + 1) body = true := by
          have := HLO.out
          rw [next_ver, HVR.out, next_bod] at this
          exact loadsD_of this
        have HLS := Lib.hid hls
        clear ho' hls
        go_wp2_with fail
        refine hst.mono ?_
        rintro e w6 ⟨rfl, ⟨wv6, D6⟩, hk6⟩
        have k6 := k5.trans hk6
        clear hst D5 k5 hk6
        have hcr := crash_any D6 k6.bl.size ka kc keep (fun w' hk' => row_kt hk (k6.trans hk').bl)
        rw [HE7.out] at hcr
        go_wp2_with fail
        refine hcr.mono ?_
        rintro e w7 ⟨rfl, ⟨wv7, D7⟩, hk7⟩
        (try simp only at D7)
        have k7 := k6.trans hk7
        clear hcr D6 k6 hk7
        have hsa := start_any D7
        rw [HE8.out] at hsa
        go_wp2_with fail
        refine hsa.mono ?_
        rintro e w8 ⟨rfl, D8, hk8⟩
        (try simp only at D8)
        have k8 := k7.trans hk8
        clear hsa D7 k7 hk8
        go_wp2_with fail
        refine (loads_any D8 1 ((ls.length : Int) + 1) ba bc body (hs.below k8.bl) hbl).mono ?_
        rintro e w9 ⟨rfl, hb9⟩
        rw [HLS.out]
        go_wp2
        go_ret
        exact ⟨rfl, (k8.trans (Kt.of hb9 k8.bl.size)).bl⟩
      case neg =>
        rw [if_neg hp4] at hst
        rcases ho' with ⟨_, rfl⟩ | rfl
        · have hls : loadsD d8 1 (ls.length : Int) [] = true := by
            have := HLO.out
            rw [HVR.out, show bodO (stO (bodsP ls)) = [] from HB.out] at this
            exact loadsD_of this
          have HLS := Lib.hid hls
          clear hls
          go_wp2_with fail
          refine hst.mono ?_
          rintro e w6 ⟨rfl, ⟨wv6, D6⟩, hk6⟩
          have k6 := k5.trans hk6
          clear hst D5 k5 hk6
          have hcr := crash_any D6 k6.bl.size ka kc keep (fun w' hk' => row_kt hk (k6.trans hk').bl)
          rw [HE7.out] at hcr
          go_wp2_with fail
          refine hcr.mono ?_
          rintro e w7 ⟨rfl, ⟨wv7, D7⟩, hk7⟩
          (try simp only at D7)
          have k7 := k6.trans hk7
          clear hcr D6 k6 hk7
          have hsa := start_any D7
          rw [HE8.out] at hsa
          go_wp2_with fail
          refine hsa.mono ?_
          rintro e w8 ⟨rfl, D8, hk8⟩
          (try simp only at D8)
          have k8 := k7.trans hk8
          clear hsa D7 k7 hk8
          go_wp2_with fail
          refine (loads_any D8 1 (ls.length : Int) none 0 [] ((fun w' _ => sl_nil w') _ k8.bl) hbl).mono ?_
          rintro e w9 ⟨rfl, hb9⟩
          rw [HLS.out]
          go_wp2
          go_ret
          exact ⟨rfl, (k8.trans (Kt.of hb9 k8.bl.size)).bl⟩
        · have hlo2 : loadC d8 0 1 = ((ls.length : Int) + 1, body, 0) := by
            have := HLO.out
            rw [next_ver, HVR.out, next_bod] at this
            exact this
          have hls : loadsD d8 1 (ls.length : Int) [] = false := by
            unfold loadsD
            rw [hlo2]
            simp only
            rw [decide_eq_false (show ¬ (ls.length : Int) + 1 = (ls.length : Int) by omega)]
            simp
          have HLS := Lib.hid hls
          have HLS2 := Lib.hid (loadsD_of hlo2)
          clear hls hlo2
          go_wp2_with fail
          refine hst.mono ?_
          rintro e w6 ⟨rfl, ⟨wv6, D6⟩, hk6⟩
          have k6 := k5.trans hk6
          clear hst D5 k5 hk6
          have hcr := crash_any D6 k6.bl.size ka kc keep (fun w' hk' => row_kt hk (k6.trans hk').bl)
          rw [HE7.out] at hcr
          go_wp2_with fail
          refine hcr.mono ?_
          rintro e w7 ⟨rfl, ⟨wv7, D7⟩, hk7⟩
          (try simp only at D7)
          have k7 := k6.trans hk7
          clear hcr D6 k6 hk7
          have hsa := start_any D7
          rw [HE8.out] at hsa
          go_wp2_with fail
          refine hsa.mono ?_
          rintro e w8 ⟨rfl, D8, hk8⟩
          (try simp only at D8)
          have k8 := k7.trans hk8
          clear hsa D7 k7 hk8
          go_wp2_with fail
          refine (loads_any D8 1 (ls.length : Int) none 0 [] ((fun w' _ => sl_nil w') _ k8.bl) hbl).mono ?_
          rintro e w9 ⟨rfl, hb9⟩
          rw [HLS.out]
          have D9 := D8.below hb9
          have k9 := k8.trans (Kt.of hb9 k8.bl.size)
          go_wp2_with fail
          refine (loads_any D9 1 ((ls.length : Int) + 1) ba bc body (hs.below k9.bl) hbl).mono ?_
          rintro e w10 ⟨rfl, hb10⟩
          rw [HLS2.out]
          go_wp2
          go_ret
          exact ⟨rfl, (k9.trans (Kt.of hb10 k9.bl.size)).bl⟩
    case neg =>
      obtain ⟨m, hm1⟩ : ∃ m, ls.length = m + 1 := ⟨ls.length - 1, by omega⟩
      have hmlt : m < ls.length := by omega
      have hsl := stO_last hm1
      obtain ⟨b1, o1, rfl⟩ := hl.addr (by omega)
      have hcell := fun w' (hb : Below w.heap.size w w') => (parts_kt hl hb).cell hmlt
      have hx := fun w' (hb : Below w.heap.size w w') => (parts_kt hl hb).each _ (List.getElem_mem hmlt)
      generalize ls[m] = x at *
      obtain ⟨xa, xc, xl⟩ := x
      simp only at hsl hx
      unfold partV at hcell
      simp only at hcell
      have HB := Lib.hid (show bodO (stO (bodsP ls)) = xl by rw [hsl]; rfl)
      have hI0 : (0 : Int) < ls.length := by omega
      have hc5 := hcell _ k5.bl
      have HX := Lib.hid hx
      have hsub : (ls.length : Int) - 1 = (m : Int) := by omega
      have HM := Lib.hid hm1
      clear h0 hx hcell hm1 hsl
      by_cases hp4 : (4 : Int) ≤ p
      case pos =>
        rw [if_pos hp4] at hst
        have ho2 : o' = nextO (stO (bodsP ls)) 99 body := by
          rcases ho' with ⟨hn, _⟩ | h
          · exact absurd hp4 (by omega)
          · exact h
        subst ho2
        have hls : loadsD d8 1 ((ls.length : Int) + 1) body = true := by
          have := HLO.out
          rw [next_ver, HVR.out, next_bod] at this
          exact loadsD_of this
        have HLS := Lib.hid hls
        clear ho' hls
        go_wp2_with fail
        refine hst.mono ?_
        rintro e w6 ⟨rfl, ⟨wv6, D6⟩, hk6⟩
        have k6 := k5.trans hk6
        clear hst D5 k5 hk6
        have hcr := crash_any D6 k6.bl.size ka kc keep (fun w' hk' => row_kt hk (k6.trans hk').bl)
        rw [HE7.out] at hcr
        go_wp2_with fail
        refine hcr.mono ?_
        rintro e w7 ⟨rfl, ⟨wv7, D7⟩, hk7⟩
        (try simp only at D7)
        have k7 := k6.trans hk7
        clear hcr D6 k6 hk7
        have hsa := start_any D7
        rw [HE8.out] at hsa
        go_wp2_with fail
        refine hsa.mono ?_
        rintro e w8 ⟨rfl, D8, hk8⟩
        (try simp only at D8)
        have k8 := k7.trans hk8
        clear hsa D7 k7 hk8
        go_wp2_with fail
        refine (loads_any D8 1 ((ls.length : Int) + 1) ba bc body (hs.below k8.bl) hbl).mono ?_
        rintro e w9 ⟨rfl, hb9⟩
        rw [HLS.out]
        go_wp2
        go_ret
        exact ⟨rfl, (k8.trans (Kt.of hb9 k8.bl.size)).bl⟩
      case neg =>
        rw [if_neg hp4] at hst
        rcases ho' with ⟨_, rfl⟩ | rfl
        · have hls : loadsD d8 1 (ls.length : Int) xl = true := by
            have := HLO.out
            rw [HVR.out, show bodO (stO (bodsP ls)) = xl from HB.out] at this
            exact loadsD_of this
          have HLS := Lib.hid hls
          clear hls
          go_wp2_with fail
          refine hst.mono ?_
          rintro e w6 ⟨rfl, ⟨wv6, D6⟩, hk6⟩
          have k6 := k5.trans hk6
          clear hst D5 k5 hk6
          have hcr := crash_any D6 k6.bl.size ka kc keep (fun w' hk' => row_kt hk (k6.trans hk').bl)
          rw [HE7.out] at hcr
          go_wp2_with fail
          refine hcr.mono ?_
          rintro e w7 ⟨rfl, ⟨wv7, D7⟩, hk7⟩
          (try simp only at D7)
          have k7 := k6.trans hk7
          clear hcr D6 k6 hk7
          have hsa := start_any D7
          rw [HE8.out] at hsa
          go_wp2_with fail
          refine hsa.mono ?_
          rintro e w8 ⟨rfl, D8, hk8⟩
          (try simp only at D8)
          have k8 := k7.trans hk8
          clear hsa D7 k7 hk8
          go_wp2_with fail
          refine (loads_any D8 1 (ls.length : Int) xa xc xl (HX.out _ k8.bl) hbl).mono ?_
          rintro e w9 ⟨rfl, hb9⟩
          rw [HLS.out]
          go_wp2
          go_ret
          exact ⟨rfl, (k8.trans (Kt.of hb9 k8.bl.size)).bl⟩
        · have hlo2 : loadC d8 0 1 = ((ls.length : Int) + 1, body, 0) := by
            have := HLO.out
            rw [next_ver, HVR.out, next_bod] at this
            exact this
          have hls : loadsD d8 1 (ls.length : Int) xl = false := by
            unfold loadsD
            rw [hlo2]
            simp only
            rw [decide_eq_false (show ¬ (ls.length : Int) + 1 = (ls.length : Int) by omega)]
            simp
          have HLS := Lib.hid hls
          have HLS2 := Lib.hid (loadsD_of hlo2)
          clear hls hlo2
          go_wp2_with fail
          refine hst.mono ?_
          rintro e w6 ⟨rfl, ⟨wv6, D6⟩, hk6⟩
          have k6 := k5.trans hk6
          clear hst D5 k5 hk6
          have hcr := crash_any D6 k6.bl.size ka kc keep (fun w' hk' => row_kt hk (k6.trans hk').bl)
          rw [HE7.out] at hcr
          go_wp2_with fail
          refine hcr.mono ?_
          rintro e w7 ⟨rfl, ⟨wv7, D7⟩, hk7⟩
          (try simp only at D7)
          have k7 := k6.trans hk7
          clear hcr D6 k6 hk7
          have hsa := start_any D7
          rw [HE8.out] at hsa
          go_wp2_with fail
          refine hsa.mono ?_
          rintro e w8 ⟨rfl, D8, hk8⟩
          (try simp only at D8)
          have k8 := k7.trans hk8
          clear hsa D7 k7 hk8
          go_wp2_with fail
          refine (loads_any D8 1 (ls.length : Int) xa xc xl (HX.out _ k8.bl) hbl).mono ?_
          rintro e w9 ⟨rfl, hb9⟩
          rw [HLS.out]
          have D9 := D8.below hb9
          have k9 := k8.trans (Kt.of hb9 k8.bl.size)
          go_wp2_with fail
          refine (loads_any D9 1 ((ls.length : Int) + 1) ba bc body (hs.below k9.bl) hbl).mono ?_
          rintro e w10 ⟨rfl, hb10⟩
          rw [HLS2.out]
          go_wp2
          go_ret
          exact ⟨rfl, (k9.trans (Kt.of hb10 k9.bl.size)).bl⟩
end Go.Proofs.YtejjneamngkmoaaDoor

namespace Go.Proofs.YtejjneamngkmoaaDoor
open Go.RowKit

theorem lose_waits {d : Dk} (s : Int) : (loseD d s).1.waits = d.waits := by
  unfold loseD
  split <;> rfl
set_option maxRecDepth 100000 in
set_option maxHeartbeats 4000000 in
theorem healed_law (a ba ka : Option Addr) (c bc kc : Nat) (ls : List Part) (body : List UInt8) (pw : UInt8) (keep : List Bool) (which : Bool) (w : World) (hl : Parts w a ls) (hs : SlB w ba bc body) (hk : Row w ka (keep.map Value.bool)) :
    Calls Tryd.prog 10 #[.slice a ls.length c, .slice ba body.length bc, .int .u8 (pw.toNat : Int), .slice ka keep.length kc, .bool which] w fun e w' => e = .returned (.bool true) ∧ Below w.heap.size w w' := by
  cases hg : grB ls
  case true =>
    have HG := Lib.hid hg
    clear hg
    go_enter Tryd.func10, Tryd.ntmps10
    go_wp2_with fail
    refine (awake_any _).mono ?_
    rintro e w1 ⟨rfl, hb1⟩
    go_wp2_with fail
    refine (great_any a c ls _ (parts_kt hl hb1)).mono ?_
    rintro e w2 ⟨rfl, rfl⟩
    rw [HG.out]
    go_wp2
    go_ret
    exact ⟨rfl, hb1⟩
  case false =>
  obtain ⟨hl20, hl43⟩ := grB_no hg
  have HG := Lib.hid hg
  have HL43 := Lib.hid hl43
  clear hg hl43
  by_cases hb43 : body.length ≤ 43
  case neg =>
    have hI : (43 : Int) < body.length := by omega
    go_enter Tryd.func10, Tryd.ntmps10
    go_wp2_with fail
    refine (awake_any _).mono ?_
    rintro e w1 ⟨rfl, hb1⟩
    go_wp2_with fail
    refine (great_any a c ls _ (parts_kt hl hb1)).mono ?_
    rintro e w2 ⟨rfl, rfl⟩
    rw [HG.out]
    go_wp2
    go_ret
    exact ⟨rfl, hb1⟩
  case pos =>
  have hI : ¬ (43 : Int) < body.length := by omega
  by_cases hk10 : keep.length ≤ 10
  case neg =>
    have hI2 : (10 : Int) < keep.length := by omega
    go_enter Tryd.func10, Tryd.ntmps10
    go_wp2_with fail
    refine (awake_any _).mono ?_
    rintro e w1 ⟨rfl, hb1⟩
    go_wp2_with fail
    refine (great_any a c ls _ (parts_kt hl hb1)).mono ?_
    rintro e w2 ⟨rfl, rfl⟩
    rw [HG.out]
    go_wp2
    go_ret
    exact ⟨rfl, hb1⟩
  case pos =>
  have hI2 : ¬ (10 : Int) < keep.length := by omega
  obtain ⟨p, hp, hp6⟩ : ∃ p : Nat, pw.toNat % 6 = p ∧ p < 6 := ⟨_, rfl, Nat.mod_lt _ (by decide)⟩
  have hpe : (pw.toNat : Int) % 6 = (p : Int) := by omega
  have hpt : (pw.toNat : Int).tmod 6 = (p : Int) := by rw [Int.tmod_eq_emod_of_nonneg (by omega)]; exact hpe
  have hpu := pw.toNat_lt
  clear hp
  go_enter Tryd.func10, Tryd.ntmps10
  go_wp2_with fail
  refine (awake_any _).mono ?_
  rintro e w1 ⟨rfl, hb1⟩
  go_wp2_with fail
  refine (great_any a c ls _ (parts_kt hl hb1)).mono ?_
  rintro e w2 ⟨rfl, rfl⟩
  rw [HG.out]
  go_wp2_with fail
  refine (new156 (B := w.heap.size) hb1.size).mono ?_
  rintro e w3 ⟨⟨g, gp, rfl, D3⟩, hb3⟩
  have k3 := (Kt.of hb1 (Nat.le_refl w.heap.size)).trans (Kt.of hb3 hb1.size)
  clear hb1 hb3
  go_wp2_with fail
  refine (stored_any D3 k3.bl.size 1 (.inl rfl) a c ls (fun w' hk => parts_kt hl (k3.trans hk).bl) hl20 HL43.out new_live (by decide) (new_fr 0 (.inl rfl))).mono ?_
  rintro e w4 ⟨rfl, d4, wv4, D4, hk4, A4⟩
  have k4 := k3.trans hk4
  clear D3 k3 hk4
  have hL4 := A4.live
  have hf4 := A4.fr
  clear A4
  have hpw := power_any D4 (p : Int) (by omega)
  rw [power_live hL4 (show (0 : Int) ≤ (p : Int) by omega)] at hpw
  simp only at hpw
  have hver := stO_ver (bodsP ls)
  rw [show (bodsP ls).length = ls.length by simp [bodsP]] at hver
  obtain ⟨d6, d7, d8, e6, e7, e8, hL8, _, _, o', ho', hok', hlo, d9, e9, hL9, hl9, hf9, _⟩ := crash_heal (inc := 99) (body := body) (live_left hL4 (p : Int)) (show (0 : Int) ≤ 0 ∧ (0 : Int) ≤ 6 by omega) (.inl rfl) (by omega) hb43 (fr_left hf4 (p : Int)) (by rw [hver]; omega) (show (0 : Int) ≤ (p : Int) by omega) keep
  simp only at e6 ho'
  generalize (if (4 : Int) ≤ (p : Int) then (0 : Int) else 5) = r6 at e6
  have hbo := bodO_len hok'
  have hl9w := hL9.w
  obtain ⟨hls, hbd⟩ := loads_fr hL9 (.inl rfl) hf9
  have hbl : (loadC d9 0 1).2.1.length ≤ 1000000 := by rw [hbd]; omega
  have HLO := Lib.hid hlo
  have HLS := Lib.hid hls
  clear hlo hver hls hbd
  go_wp2_with fail
  refine hpw.mono ?_
  rintro e w5 ⟨rfl, D5, hk5⟩
  have k5 := k4.trans hk5
  clear D4 k4 hk5 hpw
  have hst := cstore_any D5 k5.bl.size 0 1 99 ba bc body (fun w' hk => hs.below (k5.trans hk).bl) (by omega) (by rw [hL4.w]; simp)
  rw [e6] at hst
  simp only at hst
  have HE7 := Lib.hid e7
  have HE8 := Lib.hid e8
  have HE9 := Lib.hid e9
  have HO := Lib.hid ho'
  have HF9 := Lib.hid hf9
  clear e6 e7 e8 e9 ho' hf9
  go_wp2_with fail
  refine hst.mono ?_
  rintro e w6 ⟨rfl, ⟨wv6, D6⟩, hk6⟩
  have k6 := k5.trans hk6
  clear hst D5 k5 hk6
  have hcr := crash_any D6 k6.bl.size ka kc keep (fun w' hk' => row_kt hk (k6.trans hk').bl)
  rw [HE7.out] at hcr
  go_wp2_with fail
  refine hcr.mono ?_
  rintro e w7 ⟨rfl, ⟨wv7, D7⟩, hk7⟩
  (try simp only at D7)
  have k7 := k6.trans hk7
  clear hcr D6 k6 hk7
  have hsa := start_any D7
  rw [HE8.out] at hsa
  go_wp2_with fail
  refine hsa.mono ?_
  rintro e w8 ⟨rfl, D8, hk8⟩
  (try simp only at D8)
  have k8 := k7.trans hk8
  clear hsa D7 k7 hk8
  have hld := cload_any D8 0 1
  rw [HLO.out] at hld
  go_wp2_with fail
  refine hld.mono ?_
  rintro e w9 ⟨⟨a9, c9, rfl, o9⟩, hb9⟩
  (try simp only at o9)
  have D9 := D8.below hb9
  have k9 := k8.trans (Kt.of hb9 k8.bl.size)
  clear hld D8 k8 hb9
  have hhe := cheal_any D9 k9.bl.size 0 1 (by rw [hL8.w]; simp)
  rw [HE9.out] at hhe
  go_wp2_with fail
  refine hhe.mono ?_
  rintro e w10 ⟨rfl, ⟨wv10, D10⟩, hk10⟩
  (try simp only at D10)
  have o10 := o9.kt hk10
  have k10 := k9.trans hk10
  clear hhe D9 k9 hk10 o9
  have hwt := waits_any D10
  rw [hl9w] at hwt
  go_wp2_with fail
  refine hwt.mono ?_
  rintro e w11 ⟨rfl, rfl⟩
  clear hwt
  go_wp2_with fail
  refine (loads_any D10 1 (verO o') a9 c9 (bodO o') o10.slb hbl).mono ?_
  rintro e w11 ⟨rfl, hb11⟩
  rw [HLS.out]
  have D11 := D10.below hb11
  have o11 := o10.below hb11
  have k11 := k10.trans (Kt.of hb11 k10.bl.size)
  clear D10 o10 k10 hb11 hbl hl9w
  match o', hok', hbo, HO, HF9, o11 with
  | none, _, _, HO, _, _ =>
    have hl0 : ls.length = 0 := by
      by_cases h0 : ls.length = 0
      · exact h0
      · obtain ⟨m, hm1⟩ : ∃ m, ls.length = m + 1 := ⟨ls.length - 1, by omega⟩
        rcases HO.out with ⟨_, h⟩ | h
        · rw [stO_last hm1] at h
          cases h
        · cases h
    have hle : ((ls.length : Int) == 0) = true := by rw [beq_iff_eq]; omega
    rw [show verO none = 0 from rfl]
    clear hl0
    go_wp2
    go_ret
    exact ⟨rfl, k11.bl⟩
  | some (v, cc, bb), ⟨hv1, _, _, _, hb5⟩, _, _, HF9, o11 =>
    replace o11 : OwnB w11 _ a9 c9 bb := o11
    rw [show verO (some (v, cc, bb)) = v from rfl, show bodO (some (v, cc, bb)) = bb from rfl]
    have hv0 : (v == 0) = false := by rw [beq_eq_false_iff_ne]; omega
    cases which
    case false =>
      obtain ⟨d10, d11, d12, f1, f2, f3, f4, f5⟩ := lose_heal hL9 (show (0 : Int) ≤ 0 ∧ (0 : Int) ≤ 6 by omega) (.inl rfl) HF9.out hl9 (i := 0) (by decide)
      replace f1 : loseD d9 0 = (d10, 0) := f1
      have WT := Lib.hid (show d10.waits = [] by have := lose_waits (d := d9) 0; rw [f1] at this; exact this.trans hL9.w)
      replace f4 : loseD d11 1 = (d12, 0) := f4
      have l10 : (loadC d10 0 1).2.1.length ≤ 1000000 := by rw [f2]; simp only; omega
      have l12 : (loadC d12 0 1).2.1.length ≤ 1000000 := by rw [f5]; simp only; omega
      have HL1 := Lib.hid (loadsD_of f2)
      have HL2 := Lib.hid (loadsD_of f5)
      have HF1 := Lib.hid f1
      have HF3 := Lib.hid f3
      have HF4 := Lib.hid f4
      clear f1 f2 f3 f4 f5
      go_wp2_with fail
      refine (first_any 1 0 _).mono ?_
      rintro e w12 ⟨rfl, hb12⟩
      rw [show firstN 1 0 = 0 from rfl]
      have D12 := D11.below hb12
      have o12 := o11.below hb12
      have k12 := k11.trans (Kt.of hb12 k11.bl.size)
      clear D11 o11 k11 hb12
      have hlo := lose_any D12 k12.bl.size 0
      rw [HF1.out] at hlo
      go_wp2_with fail
      refine hlo.mono ?_
      rintro e w13 ⟨rfl, D13, hk13⟩
      (try simp only at D13)
      have o13 := o12.kt hk13
      have k13 := k12.trans hk13
      clear D12 o12 k12 hk13 hlo
      go_wp2_with fail
      refine (loads_any D13 1 v a9 c9 bb o13.slb l10).mono ?_
      rintro e w14 ⟨rfl, hb14⟩
      rw [HL1.out]
      have D14 := D13.below hb14
      have o14 := o13.below hb14
      have k14 := k13.trans (Kt.of hb14 k13.bl.size)
      clear D13 o13 k13 hb14
      have hhe := cheal_any D14 k14.bl.size 0 1 (by rw [WT.out]; simp)
      rw [HF3.out] at hhe
      go_wp2_with fail
      refine hhe.mono ?_
      rintro e w15 ⟨rfl, ⟨wv15, D15⟩, hk15⟩
      (try simp only at D15)
      have o15 := o14.kt hk15
      have k15 := k14.trans hk15
      clear D14 o14 k14 hk15 hhe
      go_wp2_with fail
      refine (first_any 1 1 _).mono ?_
      rintro e w16 ⟨rfl, hb16⟩
      rw [show firstN 1 1 = 1 from rfl]
      have D16 := D15.below hb16
      have o16 := o15.below hb16
      have k16 := k15.trans (Kt.of hb16 k15.bl.size)
      clear D15 o15 k15 hb16
      have hlo := lose_any D16 k16.bl.size 1
      rw [HF4.out] at hlo
      go_wp2_with fail
      refine hlo.mono ?_
      rintro e w17 ⟨rfl, D17, hk17⟩
      (try simp only at D17)
      have o17 := o16.kt hk17
      have k17 := k16.trans hk17
      clear D16 o16 k16 hk17 hlo
      go_wp2_with fail
      refine (loads_any D17 1 v a9 c9 bb o17.slb l12).mono ?_
      rintro e w18 ⟨rfl, hb18⟩
      rw [HL2.out]
      go_wp2
      go_ret
      exact ⟨rfl, (k17.trans (Kt.of hb18 k17.bl.size)).bl⟩
    case true =>
      obtain ⟨d10, d11, d12, f1, f2, f3, f4, f5⟩ := lose_heal hL9 (show (0 : Int) ≤ 0 ∧ (0 : Int) ≤ 6 by omega) (.inl rfl) HF9.out hl9 (i := 1) (by decide)
      replace f1 : loseD d9 1 = (d10, 0) := f1
      have WT := Lib.hid (show d10.waits = [] by have := lose_waits (d := d9) 1; rw [f1] at this; exact this.trans hL9.w)
      replace f4 : loseD d11 0 = (d12, 0) := f4
      have l10 : (loadC d10 0 1).2.1.length ≤ 1000000 := by rw [f2]; simp only; omega
      have l12 : (loadC d12 0 1).2.1.length ≤ 1000000 := by rw [f5]; simp only; omega
      have HL1 := Lib.hid (loadsD_of f2)
      have HL2 := Lib.hid (loadsD_of f5)
      have HF1 := Lib.hid f1
      have HF3 := Lib.hid f3
      have HF4 := Lib.hid f4
      clear f1 f2 f3 f4 f5
      go_wp2_with fail
      refine (first_any 1 1 _).mono ?_
      rintro e w12 ⟨rfl, hb12⟩
      rw [show firstN 1 1 = 1 from rfl]
      have D12 := D11.below hb12
      have o12 := o11.below hb12
      have k12 := k11.trans (Kt.of hb12 k11.bl.size)
      clear D11 o11 k11 hb12
      have hlo := lose_any D12 k12.bl.size 1
      rw [HF1.out] at hlo
      go_wp2_with fail
      refine hlo.mono ?_
      rintro e w13 ⟨rfl, D13, hk13⟩
      (try simp only at D13)
      have o13 := o12.kt hk13
      have k13 := k12.trans hk13
      clear D12 o12 k12 hk13 hlo
      go_wp2_with fail
      refine (loads_any D13 1 v a9 c9 bb o13.slb l10).mono ?_
      rintro e w14 ⟨rfl, hb14⟩
      rw [HL1.out]
      have D14 := D13.below hb14
      have o14 := o13.below hb14
      have k14 := k13.trans (Kt.of hb14 k13.bl.size)
      clear D13 o13 k13 hb14
      have hhe := cheal_any D14 k14.bl.size 0 1 (by rw [WT.out]; simp)
      rw [HF3.out] at hhe
      go_wp2_with fail
      refine hhe.mono ?_
      rintro e w15 ⟨rfl, ⟨wv15, D15⟩, hk15⟩
      (try simp only at D15)
      have o15 := o14.kt hk15
      have k15 := k14.trans hk15
      clear D14 o14 k14 hk15 hhe
      go_wp2_with fail
      refine (first_any 1 0 _).mono ?_
      rintro e w16 ⟨rfl, hb16⟩
      rw [show firstN 1 0 = 0 from rfl]
      have D16 := D15.below hb16
      have o16 := o15.below hb16
      have k16 := k15.trans (Kt.of hb16 k15.bl.size)
      clear D15 o15 k15 hb16
      have hlo := lose_any D16 k16.bl.size 0
      rw [HF4.out] at hlo
      go_wp2_with fail
      refine hlo.mono ?_
      rintro e w17 ⟨rfl, D17, hk17⟩
      (try simp only at D17)
      have o17 := o16.kt hk17
      have k17 := k16.trans hk17
      clear D16 o16 k16 hk17 hlo
      go_wp2_with fail
      refine (loads_any D17 1 v a9 c9 bb o17.slb l12).mono ?_
      rintro e w18 ⟨rfl, hb18⟩
      rw [HL2.out]
      go_wp2
      go_ret
      exact ⟨rfl, (k17.trans (Kt.of hb18 k17.bl.size)).bl⟩
end Go.Proofs.YtejjneamngkmoaaDoor

namespace Go.Proofs.YtejjneamngkmoaaDoor
open Go.ChangeShapes Go.WideShapes Go.ChangeAt Go.RowKit

section
variable {H : Type} {enc : TypeId × Value → H} {P : Program} {W : World} {base : Nat} {sp : Nat → Bool} {hd : Bool} {b0 : Nat} {v : Value} {d : DataW H} {p : List MemPlace}
theorem open_pair {t e : TypeId} (ht : P.underlying t = some (.array 2 e)) (hce : P.cellsOf e = 1) (hct : P.cellsOf t = 2) (hv : Value.okWide P W .any base t v) (h : DataW.Trod enc P W b0 sp hd t v d p) :
    ∃ c0 c1 n y0 y1, v = .agg #[c0, c1] ∧ DataW.trod enc P W b0 sp hd n e [c0] = some y0 ∧ DataW.trod enc P W b0 sp hd n e [c1] = some y1 := by
  unfold Value.okWide at hv
  rw [ht] at hv
  obtain ⟨⟨cs⟩, rfl, hsz, _⟩ := hv
  obtain ⟨fuel, hf⟩ := h
  have hf' : DataW.trod enc P W b0 sp hd fuel t cs = some (d, p) := hf
  obtain ⟨xs, m, _, _, hl, hx, hel⟩ := DataW.trod_array ht hf'
  rw [hct] at hl
  match cs, hl with
  | [c0, c1], _ =>
    have h0 := hel 0 (by decide)
    have h1 := hel 1 (by decide)
    rw [hce] at h0 h1
    match xs, hx with
    | [y0, y1], _ => exact ⟨c0, c1, m, y0, y1, rfl, h0, h1⟩
end
theorem u16_of {H : Type} {enc : TypeId × Value → H} {W : World} {sp : Nat → Bool} {hd : Bool} {b0 fuel : Nat} {v : Value} {x : DataW H × List MemPlace} (h : DataW.trod enc Tryd.prog W b0 sp hd fuel 75 [v] = some x) : ∃ n : Nat, v = .int .u16 (n : Int) ∧ n < 65536 := by
  obtain ⟨y, q, _, h2⟩ := DataW.trod_int Tryd.underlying75 h
  simp at q
  subst q
  have m0 : IntKind.u16.min = 0 := by decide
  have m1 : IntKind.u16.max = 65535 := by decide
  replace h2 : (decide (IntKind.u16.min ≤ y) && decide (y ≤ IntKind.u16.max)) = true := h2
  rw [m0, m1, Bool.and_eq_true, decide_eq_true_eq, decide_eq_true_eq] at h2
  exact ⟨y.toNat, by rw [show ((y.toNat : Nat) : Int) = y by omega], by omega⟩
theorem bool_of {H : Type} {enc : TypeId × Value → H} {W : World} {sp : Nat → Bool} {hd : Bool} {b0 fuel : Nat} {v : Value} {x : DataW H × List MemPlace} (h : DataW.trod enc Tryd.prog W b0 sp hd fuel 4 [v] = some x) : ∃ z, v = .bool z := by
  obtain ⟨z, q, _⟩ := DataW.trod_bool Tryd.underlying4 h
  simp only [List.cons.injEq, and_true] at q
  exact ⟨z, q⟩
theorem cellsBl : Tryd.prog.cellsOf 4 = 1 := by kernel_rfl
theorem cells16 : Tryd.prog.cellsOf 75 = 1 := by kernel_rfl
theorem cells162 : Tryd.prog.cellsOf 76 = 2 := by kernel_rfl
theorem cellsBl2 : Tryd.prog.cellsOf 77 = 2 := by kernel_rfl
set_option maxRecDepth 100000 in
theorem open_bools {H : Type} {enc : TypeId × Value → H} {W : World} {base : Nat} {sp : Nat → Bool} {hd : Bool} {b0 : Nat} {v : Value} {d : DataW H} {p : List MemPlace}
    (hv : Value.okWide Tryd.prog W .any base 47 v) (h : DataW.Trod enc Tryd.prog W b0 sp hd 47 v d p) : ∃ (a : Option Addr) (l : List Bool) (cap : Nat), v = .slice a l.length cap ∧ Row W a (l.map Value.bool) := by
  obtain ⟨a0, len, cap, rfl⟩ := okWide_slice Tryd.underlying47 hv
  obtain ⟨fuel, hf⟩ := h
  rcases Go.Deep.open_slice1 Tryd.underlying47 cellsBl hf with ⟨hcs, hx⟩ | ⟨a, len', cap', m, n, V, D, Pl, hcs, _, hl, hm, hmm, hx, hel⟩
  · simp [Value.cells] at hcs
    obtain ⟨rfl, rfl, rfl⟩ := hcs
    exact ⟨none, [], 0, rfl, .inl rfl⟩
  · simp [Value.cells] at hcs
    obtain ⟨rfl, rfl, rfl⟩ := hcs
    have hlm : len ≤ m := by rw [hmm]; split <;> omega
    have hex : ∀ i, i < len → ∃ y : Bool, W.cell? (a.add i) = some (.bool y) := by
      intro i hi
      obtain ⟨hc, ht⟩ := hel i (by omega)
      obtain ⟨y, e⟩ := bool_of ht
      exact ⟨y, by rw [hc, e]⟩
    obtain ⟨f, hf2⟩ := Go.Deep.choose_lt hex
    refine ⟨some a, (List.range len).map f, cap, by simp, ?_⟩
    by_cases h0 : len = 0
    · left
      subst h0
      rfl
    · right
      obtain ⟨b, off, spot⟩ := a
      have hspot : spot = none := by
        have := World.cell?_spot (hf2 0 (by omega))
        simpa [Addr.add] using this
      subst hspot
      refine ⟨b, off, rfl, fun i u hu => ?_⟩
      have hi := (List.getElem?_eq_some_iff.1 hu).1
      simp only [List.length_map, List.length_range] at hi
      have := hf2 i hi
      rw [addr_add] at this
      rw [this]
      simp only [List.map_map, List.getElem?_map, List.getElem?_range hi, Option.map_some, Function.comp] at hu
      exact hu
end Go.Proofs.YtejjneamngkmoaaDoor

