/- Texts that the claim leans on, part 12: D57. -/
import Derived.Test.YtejjneamngkmoaaDoorZ1
import Derived.Test.YtejjneamngkmoaaDoorZ2
import Derived.Test.YtejjneamngkmoaaDoorZ3
import Derived.Test.YtejjneamngkmoaaDoorZ4
import Derived.Test.YtejjneamngkmoaaDoorZ5
import Derived.Test.YtejjneamngkmoaaDoorZ6
import Derived.Test.YtejjneamngkmoaaDoorZ7
import Derived.Test.YtejjneamngkmoaaDoorZ8
import Derived.Test.YtejjneamngkmoaaDoorZ9
import Derived.Test.YtejjneamngkmoaaDoorZ10
import Derived.Test.YtejjneamngkmoaaDoorZ11
import Derived.Test.YtejjneamngkmoaaDoorRows
import Derived.WalkKit
import Derived.WalkSpells
import Derived.WalkLawsBesides
import Derived.Handy
import Derived.Deep.QuietTactic
import Derived.BigQuiet
import Derived.Deep.DeepCutAuto
import Derived.Lib.Hide
import Derived.RegionTactic
import Derived.ChangeAlike
import Derived.Laws.ResultCell
import Derived.Outline
import Derived.OpenShut
import Derived.ChangeSlices
import Derived.ProofKit
import Derived.Lib.SmallJoins
import Derived.Deep.Slices
import Derived.Laws.IdiomStrings
import Derived.Laws.BytesArg
import Derived.Laws.MakeOwn
import Derived.Lib.SliceRun
import Derived.Laws.BitsAllLaws
import Derived.Great.BuildSlice
import Derived.Great.FillDense
import Derived.Laws.Rows
import Derived.Deep.Quiet
import Derived.Deep.RegionHeld3
import Derived.Laws.CopyOwn
import Derived.Laws.CopyRow
import Derived.Laws.NewBlocks
import Derived.Deep.RegionLaw
namespace Go.Proofs.YtejjneamngkmoaaDoor
open Go.RowKit

/-- A copy of the one version is bad, or its frame. -/
def Pk (body : List UInt8) (d : Dk) (k : Nat) : Bool → Prop
  | true => cop d 0 2 k = badR
  | false => readD d (secC 2 k) = (fraC 0 2 1 5 body k, 0)
section
variable {body : List UInt8} {d : Dk} {k : Nat}
theorem Pk.keep {d' : Dk} {b : Bool} (h : Pk body d k b) (hr : readD d' (secC 2 k) = readD d (secC 2 k)) : Pk body d' k b := by
  cases b
  · exact hr.trans h
  · exact (cop_read hr).trans h
theorem Pk.lose (h : Live d) (hk : k < 2) {b : Bool} (ho : Pk body d (1 - k) b) : ∃ d', loseD d (firstN 2 k) = (d', 0) ∧ Live d' ∧ Pk body d' k true ∧ Pk body d' (1 - k) b := by
  have hr : (2 : Int) = 1 ∨ (2 : Int) = 2 := .inr rfl
  obtain ⟨d', e, hL, _, r, o⟩ := lose_at h (sec_lt hr hk)
  rw [← (sec_first hr hk).1] at e
  exact ⟨d', e, hL, cop_none r, ho.keep (o _ (sec_lt hr (i := 1 - k) (by omega)) (by unfold secC; omega))⟩
theorem Pk.flip (h : Live d) (hk : k < 2) (hb : body.length ≤ 43) (bit : Nat) {b : Bool} (hf : Pk body d k false) (ho : Pk body d (1 - k) b) : ∃ d', flipD d (firstN 2 k) bit = (d', 0) ∧ Live d' ∧ Pk body d' k true ∧ Pk body d' (1 - k) b := by
  have hr : (2 : Int) = 1 ∨ (2 : Int) = 2 := .inr rfl
  obtain ⟨d', e, hL, _, r, o⟩ := flip_at h (sec_lt hr hk) (bit := bit) hf
  rw [← (sec_first hr hk).1] at e
  exact ⟨d', e, hL, cop_turned (v := 1) (c := 5) (b := body) (by omega) hr hk ⟨by omega, by omega, by omega, by omega, hb⟩ r, ho.keep (o _ (sec_lt hr (i := 1 - k) (by omega)) (by unfold secC; omega))⟩
theorem Pk.good (hk : k < 2) (hb : body.length ≤ 43) (hf : Pk body d k false) : cop d 0 2 k = coR 0 2 k (some (1, 5, body)) :=
  cop_fr (o := some (1, 5, body)) (by omega) (.inr rfl) hk ⟨by omega, by omega, by omega, by omega, hb⟩ hf
end
set_option maxRecDepth 100000 in
set_option maxHeartbeats 4000000 in
theorem one_law (a : Option Addr) (c : Nat) (body : List UInt8) (y0 y1 : Nat) (hy0 : y0 < 65536) (hy1 : y1 < 65536) (z0 z1 both second : Bool) (w : World) (hs : SlB w a c body) : Calls Tryd.prog 8 #[.slice a body.length c, .agg #[.int .u16 (y0 : Int), .int .u16 (y1 : Int)], .agg #[.bool z0, .bool z1], .bool both, .bool second] w fun e w' => e = .returned (.bool true) ∧ Below w.heap.size w w' := by
  have hm := hs.max
  have hle := hs.le
  unfold maxLen at hm
  by_cases hb43 : body.length ≤ 43
  case neg =>
    have hI : (43 : Int) < body.length := by omega
    go_enter Tryd.func8, Tryd.ntmps8
    refine wp_seq_k (fun K hK => ?_)
    have HK := Lib.hid hK
    clear hK
    go_wp2
    refine HK.out _ _ ?_
    clear HK
    have hx := tr_al (Obj.cells #[.bool z0, .bool z1] 77) (heap_alloc_new w (Obj.cells #[.int .u16 (y0 : Int), .int .u16 (y1 : Int)] 76))
    have hz := heap_alloc_new (w.alloc (Obj.cells #[.int .u16 (y0 : Int), .int .u16 (y1 : Int)] 76)) (Obj.cells #[.bool z0, .bool z1] 77)
    rw [show (w.alloc (Obj.cells #[.int .u16 (y0 : Int), .int .u16 (y1 : Int)] 76)).heap.size = w.heap.size + 1 by simp] at hz
    have hb0 := (blw w (Obj.cells #[.int .u16 (y0 : Int), .int .u16 (y1 : Int)] 76)).alloc (by simp) (Obj.cells #[.bool z0, .bool z1] 77)
    change Code.wp _ _ _ _ ((w.alloc (Obj.cells #[.int .u16 (y0 : Int), .int .u16 (y1 : Int)] 76)).alloc (Obj.cells #[.bool z0, .bool z1] 77))
    generalize (w.alloc (Obj.cells #[.int .u16 (y0 : Int), .int .u16 (y1 : Int)] 76)).alloc (Obj.cells #[.bool z0, .bool z1] 77) = w0 at *
    refine wp_seq_k (fun K hK => ?_)
    have HK := Lib.hid hK
    clear hK
    go_wp2_with (go_at_call 22; refine (awake_any _).mono ?_; rintro e w1 ⟨rfl, hb1⟩)
    refine HK.out _ _ ?_
    clear HK
    have hx1 := tr_bl hb1 hx
    have hz1 := tr_bl hb1 hz
    have hb01 := hb0.trans (hb1.mono hb0.size)
    clear hx hz hb0 hb1
    go_wp2
    go_ret
    exact ⟨rfl, hb01⟩
  case pos =>
    have hI : ¬ (43 : Int) < body.length := by omega
    obtain ⟨d1, hst1, hL1, hl1, hf1, _⟩ := store_fr (inc := 5) (body := body) new_live (show (0 : Int) ≤ 0 ∧ (0 : Int) ≤ 6 by omega) (.inr rfl) (by omega) hb43 (new_fr 0 (.inr rfl)) (by decide) (by decide)
    have HST := Lib.hid hst1
    clear hst1
    cases both
    case true =>
      cases second
      all_goals
        go_enter Tryd.func8, Tryd.ntmps8
        refine wp_seq_k (fun K hK => ?_)
        have HK := Lib.hid hK
        clear hK
        go_wp2
        refine HK.out _ _ ?_
        clear HK
        have hx := tr_al (Obj.cells #[.bool z0, .bool z1] 77) (heap_alloc_new w (Obj.cells #[.int .u16 (y0 : Int), .int .u16 (y1 : Int)] 76))
        have hz := heap_alloc_new (w.alloc (Obj.cells #[.int .u16 (y0 : Int), .int .u16 (y1 : Int)] 76)) (Obj.cells #[.bool z0, .bool z1] 77)
        rw [show (w.alloc (Obj.cells #[.int .u16 (y0 : Int), .int .u16 (y1 : Int)] 76)).heap.size = w.heap.size + 1 by simp] at hz
        have hb0 := (blw w (Obj.cells #[.int .u16 (y0 : Int), .int .u16 (y1 : Int)] 76)).alloc (by simp) (Obj.cells #[.bool z0, .bool z1] 77)
        change Code.wp _ _ _ _ ((w.alloc (Obj.cells #[.int .u16 (y0 : Int), .int .u16 (y1 : Int)] 76)).alloc (Obj.cells #[.bool z0, .bool z1] 77))
        generalize (w.alloc (Obj.cells #[.int .u16 (y0 : Int), .int .u16 (y1 : Int)] 76)).alloc (Obj.cells #[.bool z0, .bool z1] 77) = w0 at *
        refine wp_seq_k (fun K hK => ?_)
        have HK := Lib.hid hK
        clear hK
        go_wp2_with (go_at_call 22; refine (awake_any _).mono ?_; rintro e w1 ⟨rfl, hb1⟩)
        refine HK.out _ _ ?_
        clear HK
        have hx1 := tr_bl hb1 hx
        have hz1 := tr_bl hb1 hz
        have hb01 := hb0.trans (hb1.mono hb0.size)
        clear hx hz hb0 hb1
        refine wp_seq_k (fun K hK => ?_)
        have HK := Lib.hid hK
        clear hK
        go_wp2
        refine HK.out _ _ ?_
        clear HK
        refine wp_seq_k (fun K hK => ?_)
        have HK := Lib.hid hK
        clear hK
        go_wp2_with (go_at_call 14; refine (new156 (B := w.heap.size) hb01.size).mono ?_; rintro e w2 ⟨⟨g, gp, rfl, D2⟩, hb2⟩)
        refine HK.out _ _ ?_
        clear HK
        have hx2 := tr_bl hb2 hx1
        have hz2 := tr_bl hb2 hz1
        have k2 := (Kt.of hb01 (Nat.le_refl w.heap.size)).trans (Kt.of hb2 hb01.size)
        have hst := cstore_any D2 k2.bl.size 0 2 5 a c body (fun w' hk => hs.below (k2.trans hk).bl) (by omega) (by decide)
        rw [HST.out] at hst
        refine wp_seq_k (fun K hK => ?_)
        have HK := Lib.hid hK
        clear hK
        go_wp2_with (go_at_call 38; refine hst.mono ?_; rintro e w3 ⟨rfl, ⟨wv3, D3⟩, hk3⟩)
        refine HK.out _ _ ?_
        clear HK
        have hx := hk3.ty _ _ _ hx2 (by decide) (by decide) (by decide)
        have hz := hk3.ty _ _ _ hz2 (by decide) (by decide) (by decide)
        have k3 := k2.trans hk3
        clear hst D2 hx1 hz1 hb01 hb2 hx2 hz2 k2 hk3
        refine wp_seq_k (fun K hK => ?_)
        have HK := Lib.hid hK
        clear hK
        go_wp2_with fail
        go_loopw [13, 14] (fun i _ wr => ∃ (j : Nat) (dj : Dk) (wvj : Value), j ≤ 2 ∧ i = .int .i64 (j : Nat) ∧ DiskB w.heap.size g gp wvj dj wr ∧ Kt w.heap.size w wr ∧ Live dj ∧ wr.heap[w.heap.size]? = some (.cells #[.int .u16 (y0 : Int), .int .u16 (y1 : Int)] 76 (0, 0)) ∧ wr.heap[w.heap.size + 1]? = some (.cells #[.bool z0, .bool z1] 77 (0, 0)) ∧ Pk body dj 0 (decide (0 < j) && true) ∧ Pk body dj 1 (decide (1 < j) && true)) (fun i _ _ => 2 - (intOf i).toNat)
        case atStart => exact ⟨0, d1, wv3, by omega, rfl, D3, k3, hL1, hx, hz, hf1.r0, hf1.r1⟩
        case round =>
          clear D3 k3 hx hz HST
          obtain ⟨j, dj, wvj, hj, rfl, hd, hk, hLj, hx, hz, pk0, pk1⟩ := hrel
          have cz0 := blk_cell hz 0 _ rfl
          have cz1 := blk_cell hz 1 _ rfl
          have h3 : j = 0 ∨ j = 1 ∨ j = 2 := by omega
          rcases h3 with rfl | rfl | rfl
          · replace pk0 : Pk body dj 0 false := pk0
            replace pk1 : Pk body dj 1 false := pk1
            cases z0
            case true =>
              obtain ⟨d', e', hL', p', o'⟩ := Pk.lose hLj (k := 0) (by decide) pk1
              have E' := Lib.hid (show loseD dj 2 = (d', 0) from e')
              clear e'
              go_wp2_with (first
                | (go_at_call 32; refine (first_any 2 0 _).mono ?_; rintro e w1 ⟨rfl, hb1⟩; rw [show firstN 2 0 = 2 from rfl]; have hx1 := tr_bl hb1 hx; have hz1 := tr_bl hb1 hz; have cz1 := blk_cell hz1 0 _ rfl; have hd1 := hd.below hb1; have hk1 := hk.trans (Kt.of hb1 hk.bl.size); have hlo1 := lose_any hd1 hk1.bl.size 2; rw [E'.out] at hlo1)
                | (go_at_call 39; refine hlo1.mono ?_; rintro e w2 ⟨rfl, hd2, hk2⟩))
              go_roundw
              case rel => exact ⟨0 + 1, d', _, by omega, by rfl, hd2, hk1.trans hk2, hL', hk2.ty _ _ _ hx1 (by decide) (by decide) (by decide), hk2.ty _ _ _ hz1 (by decide) (by decide) (by decide), p', o'⟩
              case measure => simp [intOf]
            case false =>
              obtain ⟨d', e', hL', p', o'⟩ := Pk.flip hLj (k := 0) (by decide) hb43 y0 pk0 pk1
              have E' := Lib.hid (show flipD dj 2 (y0 : Int) = (d', 0) from e')
              clear e'
              go_wp2_with (first
                | (go_at_call 32; refine (first_any 2 0 _).mono ?_; rintro e w1 ⟨rfl, hb1⟩; rw [show firstN 2 0 = 2 from rfl]; have hx1 := tr_bl hb1 hx; have hz1 := tr_bl hb1 hz; have cz1 := blk_cell hz1 0 _ rfl; have cx1 := blk_cell hx1 0 _ rfl; have hd1 := hd.below hb1; have hk1 := hk.trans (Kt.of hb1 hk.bl.size); have hlo1 := flip_any hd1 hk1.bl.size 2 (y0 : Int); rw [E'.out] at hlo1)
                | (go_at_call 40; refine hlo1.mono ?_; rintro e w2 ⟨rfl, hd2, hk2⟩))
              go_roundw
              case rel => exact ⟨0 + 1, d', _, by omega, by rfl, hd2, hk1.trans hk2, hL', hk2.ty _ _ _ hx1 (by decide) (by decide) (by decide), hk2.ty _ _ _ hz1 (by decide) (by decide) (by decide), p', o'⟩
              case measure => simp [intOf]
          · replace pk0 : Pk body dj 0 true := pk0
            replace pk1 : Pk body dj 1 false := pk1
            cases z1
            case true =>
              obtain ⟨d', e', hL', p', o'⟩ := Pk.lose hLj (k := 1) (by decide) pk0
              have E' := Lib.hid (show loseD dj 3 = (d', 0) from e')
              clear e'
              go_wp2_with (first
                | (go_at_call 32; refine (first_any 2 1 _).mono ?_; rintro e w1 ⟨rfl, hb1⟩; rw [show firstN 2 1 = 3 from rfl]; have hx1 := tr_bl hb1 hx; have hz1 := tr_bl hb1 hz; have cz1 := blk_cell hz1 1 _ rfl; have hd1 := hd.below hb1; have hk1 := hk.trans (Kt.of hb1 hk.bl.size); have hlo1 := lose_any hd1 hk1.bl.size 3; rw [E'.out] at hlo1)
                | (go_at_call 39; refine hlo1.mono ?_; rintro e w2 ⟨rfl, hd2, hk2⟩))
              go_roundw
              case rel => exact ⟨1 + 1, d', _, by omega, by rfl, hd2, hk1.trans hk2, hL', hk2.ty _ _ _ hx1 (by decide) (by decide) (by decide), hk2.ty _ _ _ hz1 (by decide) (by decide) (by decide), o', p'⟩
              case measure => simp [intOf]
            case false =>
              obtain ⟨d', e', hL', p', o'⟩ := Pk.flip hLj (k := 1) (by decide) hb43 y1 pk1 pk0
              have E' := Lib.hid (show flipD dj 3 (y1 : Int) = (d', 0) from e')
              clear e'
              go_wp2_with (first
                | (go_at_call 32; refine (first_any 2 1 _).mono ?_; rintro e w1 ⟨rfl, hb1⟩; rw [show firstN 2 1 = 3 from rfl]; have hx1 := tr_bl hb1 hx; have hz1 := tr_bl hb1 hz; have cz1 := blk_cell hz1 1 _ rfl; have cx1 := blk_cell hx1 1 _ rfl; have hd1 := hd.below hb1; have hk1 := hk.trans (Kt.of hb1 hk.bl.size); have hlo1 := flip_any hd1 hk1.bl.size 3 (y1 : Int); rw [E'.out] at hlo1)
                | (go_at_call 40; refine hlo1.mono ?_; rintro e w2 ⟨rfl, hd2, hk2⟩))
              go_roundw
              case rel => exact ⟨1 + 1, d', _, by omega, by rfl, hd2, hk1.trans hk2, hL', hk2.ty _ _ _ hx1 (by decide) (by decide) (by decide), hk2.ty _ _ _ hz1 (by decide) (by decide) (by decide), o', p'⟩
              case measure => simp [intOf]
          · replace pk0 : Pk body dj 0 true := pk0
            replace pk1 : Pk body dj 1 true := pk1
            clear cz0 cz1
            go_wp2
            refine HK.out _ _ ?_
            clear HK
            have hp6 : (0 : Int) ≤ 0 ∧ (0 : Int) ≤ 6 := by omega
            have hlo := load_none hLj hp6 (.inr rfl) pk0 pk1
            have hst := store_none (inc := 5) (body := body) hLj hp6 (.inr rfl) (by omega) hb43 pk0 pk1
            have hhe := heal_none hLj hp6 (.inr rfl) pk0 pk1
            have hld := cload_any hd 0 2
            rw [hlo] at hld
            have HST2 := Lib.hid hst
            have HHE := Lib.hid hhe
            clear hlo hst hhe
            go_wp2_with fail
            refine hld.mono ?_
            rintro e w7 ⟨⟨a7, c7, rfl, _⟩, hb7⟩
            have D7 := hd.below hb7
            have k7 := hk.trans (Kt.of hb7 hk.bl.size)
            have hst := cstore_any D7 k7.bl.size 0 2 5 a c body (fun w' hk => hs.below (k7.trans hk).bl) (by omega) (by rw [hLj.w]; simp)
            rw [HST2.out] at hst
            go_wp2_with fail
            refine hst.mono ?_
            rintro e w8 ⟨rfl, ⟨wv8, D8⟩, hk8⟩
            have k8 := k7.trans hk8
            have hhe := cheal_any D8 k8.bl.size 0 2 (by rw [hLj.w]; simp)
            rw [HHE.out] at hhe
            go_wp2_with fail
            refine hhe.mono ?_
            rintro e w9 ⟨rfl, _, hk9⟩
            go_wp2
            go_ret
            exact ⟨rfl, (k8.trans hk9).bl⟩
    case false =>
      cases second
      case true =>
        go_enter Tryd.func8, Tryd.ntmps8
        refine wp_seq_k (fun K hK => ?_)
        have HK := Lib.hid hK
        clear hK
        go_wp2
        refine HK.out _ _ ?_
        clear HK
        have hx := tr_al (Obj.cells #[.bool z0, .bool z1] 77) (heap_alloc_new w (Obj.cells #[.int .u16 (y0 : Int), .int .u16 (y1 : Int)] 76))
        have hz := heap_alloc_new (w.alloc (Obj.cells #[.int .u16 (y0 : Int), .int .u16 (y1 : Int)] 76)) (Obj.cells #[.bool z0, .bool z1] 77)
        rw [show (w.alloc (Obj.cells #[.int .u16 (y0 : Int), .int .u16 (y1 : Int)] 76)).heap.size = w.heap.size + 1 by simp] at hz
        have hb0 := (blw w (Obj.cells #[.int .u16 (y0 : Int), .int .u16 (y1 : Int)] 76)).alloc (by simp) (Obj.cells #[.bool z0, .bool z1] 77)
        change Code.wp _ _ _ _ ((w.alloc (Obj.cells #[.int .u16 (y0 : Int), .int .u16 (y1 : Int)] 76)).alloc (Obj.cells #[.bool z0, .bool z1] 77))
        generalize (w.alloc (Obj.cells #[.int .u16 (y0 : Int), .int .u16 (y1 : Int)] 76)).alloc (Obj.cells #[.bool z0, .bool z1] 77) = w0 at *
        refine wp_seq_k (fun K hK => ?_)
        have HK := Lib.hid hK
        clear hK
        go_wp2_with (go_at_call 22; refine (awake_any _).mono ?_; rintro e w1 ⟨rfl, hb1⟩)
        refine HK.out _ _ ?_
        clear HK
        have hx1 := tr_bl hb1 hx
        have hz1 := tr_bl hb1 hz
        have hb01 := hb0.trans (hb1.mono hb0.size)
        clear hx hz hb0 hb1
        refine wp_seq_k (fun K hK => ?_)
        have HK := Lib.hid hK
        clear hK
        go_wp2
        refine HK.out _ _ ?_
        clear HK
        refine wp_seq_k (fun K hK => ?_)
        have HK := Lib.hid hK
        clear hK
        go_wp2_with (go_at_call 14; refine (new156 (B := w.heap.size) hb01.size).mono ?_; rintro e w2 ⟨⟨g, gp, rfl, D2⟩, hb2⟩)
        refine HK.out _ _ ?_
        clear HK
        have hx2 := tr_bl hb2 hx1
        have hz2 := tr_bl hb2 hz1
        have k2 := (Kt.of hb01 (Nat.le_refl w.heap.size)).trans (Kt.of hb2 hb01.size)
        have hst := cstore_any D2 k2.bl.size 0 2 5 a c body (fun w' hk => hs.below (k2.trans hk).bl) (by omega) (by decide)
        rw [HST.out] at hst
        refine wp_seq_k (fun K hK => ?_)
        have HK := Lib.hid hK
        clear hK
        go_wp2_with (go_at_call 38; refine hst.mono ?_; rintro e w3 ⟨rfl, ⟨wv3, D3⟩, hk3⟩)
        refine HK.out _ _ ?_
        clear HK
        have hx := hk3.ty _ _ _ hx2 (by decide) (by decide) (by decide)
        have hz := hk3.ty _ _ _ hz2 (by decide) (by decide) (by decide)
        have k3 := k2.trans hk3
        clear hst D2 hx1 hz1 hb01 hb2 hx2 hz2 k2 hk3
        refine wp_seq_k (fun K hK => ?_)
        have HK := Lib.hid hK
        clear hK
        go_wp2_with fail
        go_loopw [13, 14] (fun i _ wr => ∃ (j : Nat) (dj : Dk) (wvj : Value), j ≤ 2 ∧ i = .int .i64 (j : Nat) ∧ DiskB w.heap.size g gp wvj dj wr ∧ Kt w.heap.size w wr ∧ Live dj ∧ wr.heap[w.heap.size]? = some (.cells #[.int .u16 (y0 : Int), .int .u16 (y1 : Int)] 76 (0, 0)) ∧ wr.heap[w.heap.size + 1]? = some (.cells #[.bool z0, .bool z1] 77 (0, 0)) ∧ Pk body dj 0 (decide (0 < j) && false) ∧ Pk body dj 1 (decide (1 < j) && true)) (fun i _ _ => 2 - (intOf i).toNat)
        case atStart => exact ⟨0, d1, wv3, by omega, rfl, D3, k3, hL1, hx, hz, hf1.r0, hf1.r1⟩
        case round =>
          clear D3 k3 hx hz HST
          obtain ⟨j, dj, wvj, hj, rfl, hd, hk, hLj, hx, hz, pk0, pk1⟩ := hrel
          have cz0 := blk_cell hz 0 _ rfl
          have cz1 := blk_cell hz 1 _ rfl
          have h3 : j = 0 ∨ j = 1 ∨ j = 2 := by omega
          rcases h3 with rfl | rfl | rfl
          · replace pk0 : Pk body dj 0 false := pk0
            replace pk1 : Pk body dj 1 false := pk1
            go_wp2
            go_roundw
            case rel => exact ⟨0 + 1, dj, _, by omega, by rfl, hd, hk, hLj, hx, hz, pk0, pk1⟩
            case measure => simp [intOf]
          · replace pk0 : Pk body dj 0 false := pk0
            replace pk1 : Pk body dj 1 false := pk1
            cases z1
            case true =>
              obtain ⟨d', e', hL', p', o'⟩ := Pk.lose hLj (k := 1) (by decide) pk0
              have E' := Lib.hid (show loseD dj 3 = (d', 0) from e')
              clear e'
              go_wp2_with (first
                | (go_at_call 32; refine (first_any 2 1 _).mono ?_; rintro e w1 ⟨rfl, hb1⟩; rw [show firstN 2 1 = 3 from rfl]; have hx1 := tr_bl hb1 hx; have hz1 := tr_bl hb1 hz; have cz1 := blk_cell hz1 1 _ rfl; have hd1 := hd.below hb1; have hk1 := hk.trans (Kt.of hb1 hk.bl.size); have hlo1 := lose_any hd1 hk1.bl.size 3; rw [E'.out] at hlo1)
                | (go_at_call 39; refine hlo1.mono ?_; rintro e w2 ⟨rfl, hd2, hk2⟩))
              go_roundw
              case rel => exact ⟨1 + 1, d', _, by omega, by rfl, hd2, hk1.trans hk2, hL', hk2.ty _ _ _ hx1 (by decide) (by decide) (by decide), hk2.ty _ _ _ hz1 (by decide) (by decide) (by decide), o', p'⟩
              case measure => simp [intOf]
            case false =>
              obtain ⟨d', e', hL', p', o'⟩ := Pk.flip hLj (k := 1) (by decide) hb43 y1 pk1 pk0
              have E' := Lib.hid (show flipD dj 3 (y1 : Int) = (d', 0) from e')
              clear e'
              go_wp2_with (first
                | (go_at_call 32; refine (first_any 2 1 _).mono ?_; rintro e w1 ⟨rfl, hb1⟩; rw [show firstN 2 1 = 3 from rfl]; have hx1 := tr_bl hb1 hx; have hz1 := tr_bl hb1 hz; have cz1 := blk_cell hz1 1 _ rfl; have cx1 := blk_cell hx1 1 _ rfl; have hd1 := hd.below hb1; have hk1 := hk.trans (Kt.of hb1 hk.bl.size); have hlo1 := flip_any hd1 hk1.bl.size 3 (y1 : Int); rw [E'.out] at hlo1)
                | (go_at_call 40; refine hlo1.mono ?_; rintro e w2 ⟨rfl, hd2, hk2⟩))
              go_roundw
              case rel => exact ⟨1 + 1, d', _, by omega, by rfl, hd2, hk1.trans hk2, hL', hk2.ty _ _ _ hx1 (by decide) (by decide) (by decide), hk2.ty _ _ _ hz1 (by decide) (by decide) (by decide), o', p'⟩
              case measure => simp [intOf]
          · replace pk0 : Pk body dj 0 false := pk0
            replace pk1 : Pk body dj 1 true := pk1
            clear cz0 cz1
            go_wp2
            refine HK.out _ _ ?_
            clear HK
            have hlo := load_one hLj (show (0 : Int) ≤ 0 ∧ (0 : Int) ≤ 6 by omega) (.inr rfl) (i := 0) (v := 1) (c := 5) (b := body) (by decide) (Pk.good (by decide) hb43 pk0) (.inl (by rw [show cop dj 0 2 (1 - 0) = badR from pk1]; decide))
            have hbl : (loadC dj 0 2).2.1.length ≤ 1000000 := by rw [hlo]; simp only; omega
            have HLS := Lib.hid (loadsD_of hlo)
            clear hlo
            go_wp2_with (go_at_call 26; refine (loads_any hd 2 1 a c body (hs.below hk.bl) hbl).mono ?_; rintro e w7 ⟨rfl, hb7⟩; rw [HLS.out])
            go_ret
            exact ⟨rfl, (hk.trans (Kt.of hb7 hk.bl.size)).bl⟩
      case false =>
        go_enter Tryd.func8, Tryd.ntmps8
        refine wp_seq_k (fun K hK => ?_)
        have HK := Lib.hid hK
        clear hK
        go_wp2
        refine HK.out _ _ ?_
        clear HK
        have hx := tr_al (Obj.cells #[.bool z0, .bool z1] 77) (heap_alloc_new w (Obj.cells #[.int .u16 (y0 : Int), .int .u16 (y1 : Int)] 76))
        have hz := heap_alloc_new (w.alloc (Obj.cells #[.int .u16 (y0 : Int), .int .u16 (y1 : Int)] 76)) (Obj.cells #[.bool z0, .bool z1] 77)
        rw [show (w.alloc (Obj.cells #[.int .u16 (y0 : Int), .int .u16 (y1 : Int)] 76)).heap.size = w.heap.size + 1 by simp] at hz
        have hb0 := (blw w (Obj.cells #[.int .u16 (y0 : Int), .int .u16 (y1 : Int)] 76)).alloc (by simp) (Obj.cells #[.bool z0, .bool z1] 77)
        change Code.wp _ _ _ _ ((w.alloc (Obj.cells #[.int .u16 (y0 : Int), .int .u16 (y1 : Int)] 76)).alloc (Obj.cells #[.bool z0, .bool z1] 77))
        generalize (w.alloc (Obj.cells #[.int .u16 (y0 : Int), .int .u16 (y1 : Int)] 76)).alloc (Obj.cells #[.bool z0, .bool z1] 77) = w0 at *
        refine wp_seq_k (fun K hK => ?_)
        have HK := Lib.hid hK
        clear hK
        go_wp2_with (go_at_call 22; refine (awake_any _).mono ?_; rintro e w1 ⟨rfl, hb1⟩)
        refine HK.out _ _ ?_
        clear HK
        have hx1 := tr_bl hb1 hx
        have hz1 := tr_bl hb1 hz
        have hb01 := hb0.trans (hb1.mono hb0.size)
        clear hx hz hb0 hb1
        refine wp_seq_k (fun K hK => ?_)
        have HK := Lib.hid hK
        clear hK
        go_wp2
        refine HK.out _ _ ?_
        clear HK
        refine wp_seq_k (fun K hK => ?_)
        have HK := Lib.hid hK
        clear hK
        go_wp2_with (go_at_call 14; refine (new156 (B := w.heap.size) hb01.size).mono ?_; rintro e w2 ⟨⟨g, gp, rfl, D2⟩, hb2⟩)
        refine HK.out _ _ ?_
        clear HK
        have hx2 := tr_bl hb2 hx1
        have hz2 := tr_bl hb2 hz1
        have k2 := (Kt.of hb01 (Nat.le_refl w.heap.size)).trans (Kt.of hb2 hb01.size)
        have hst := cstore_any D2 k2.bl.size 0 2 5 a c body (fun w' hk => hs.below (k2.trans hk).bl) (by omega) (by decide)
        rw [HST.out] at hst
        refine wp_seq_k (fun K hK => ?_)
        have HK := Lib.hid hK
        clear hK
        go_wp2_with (go_at_call 38; refine hst.mono ?_; rintro e w3 ⟨rfl, ⟨wv3, D3⟩, hk3⟩)
        refine HK.out _ _ ?_
        clear HK
        have hx := hk3.ty _ _ _ hx2 (by decide) (by decide) (by decide)
        have hz := hk3.ty _ _ _ hz2 (by decide) (by decide) (by decide)
        have k3 := k2.trans hk3
        clear hst D2 hx1 hz1 hb01 hb2 hx2 hz2 k2 hk3
        refine wp_seq_k (fun K hK => ?_)
        have HK := Lib.hid hK
        clear hK
        go_wp2_with fail
        go_loopw [13, 14] (fun i _ wr => ∃ (j : Nat) (dj : Dk) (wvj : Value), j ≤ 2 ∧ i = .int .i64 (j : Nat) ∧ DiskB w.heap.size g gp wvj dj wr ∧ Kt w.heap.size w wr ∧ Live dj ∧ wr.heap[w.heap.size]? = some (.cells #[.int .u16 (y0 : Int), .int .u16 (y1 : Int)] 76 (0, 0)) ∧ wr.heap[w.heap.size + 1]? = some (.cells #[.bool z0, .bool z1] 77 (0, 0)) ∧ Pk body dj 0 (decide (0 < j) && true) ∧ Pk body dj 1 (decide (1 < j) && false)) (fun i _ _ => 2 - (intOf i).toNat)
        case atStart => exact ⟨0, d1, wv3, by omega, rfl, D3, k3, hL1, hx, hz, hf1.r0, hf1.r1⟩
        case round =>
          clear D3 k3 hx hz HST
          obtain ⟨j, dj, wvj, hj, rfl, hd, hk, hLj, hx, hz, pk0, pk1⟩ := hrel
          have cz0 := blk_cell hz 0 _ rfl
          have cz1 := blk_cell hz 1 _ rfl
          have h3 : j = 0 ∨ j = 1 ∨ j = 2 := by omega
          rcases h3 with rfl | rfl | rfl
          · replace pk0 : Pk body dj 0 false := pk0
            replace pk1 : Pk body dj 1 false := pk1
            cases z0
            case true =>
              obtain ⟨d', e', hL', p', o'⟩ := Pk.lose hLj (k := 0) (by decide) pk1
              have E' := Lib.hid (show loseD dj 2 = (d', 0) from e')
              clear e'
              go_wp2_with (first
                | (go_at_call 32; refine (first_any 2 0 _).mono ?_; rintro e w1 ⟨rfl, hb1⟩; rw [show firstN 2 0 = 2 from rfl]; have hx1 := tr_bl hb1 hx; have hz1 := tr_bl hb1 hz; have cz1 := blk_cell hz1 0 _ rfl; have hd1 := hd.below hb1; have hk1 := hk.trans (Kt.of hb1 hk.bl.size); have hlo1 := lose_any hd1 hk1.bl.size 2; rw [E'.out] at hlo1)
                | (go_at_call 39; refine hlo1.mono ?_; rintro e w2 ⟨rfl, hd2, hk2⟩))
              go_roundw
              case rel => exact ⟨0 + 1, d', _, by omega, by rfl, hd2, hk1.trans hk2, hL', hk2.ty _ _ _ hx1 (by decide) (by decide) (by decide), hk2.ty _ _ _ hz1 (by decide) (by decide) (by decide), p', o'⟩
              case measure => simp [intOf]
            case false =>
              obtain ⟨d', e', hL', p', o'⟩ := Pk.flip hLj (k := 0) (by decide) hb43 y0 pk0 pk1
              have E' := Lib.hid (show flipD dj 2 (y0 : Int) = (d', 0) from e')
              clear e'
              go_wp2_with (first
                | (go_at_call 32; refine (first_any 2 0 _).mono ?_; rintro e w1 ⟨rfl, hb1⟩; rw [show firstN 2 0 = 2 from rfl]; have hx1 := tr_bl hb1 hx; have hz1 := tr_bl hb1 hz; have cz1 := blk_cell hz1 0 _ rfl; have cx1 := blk_cell hx1 0 _ rfl; have hd1 := hd.below hb1; have hk1 := hk.trans (Kt.of hb1 hk.bl.size); have hlo1 := flip_any hd1 hk1.bl.size 2 (y0 : Int); rw [E'.out] at hlo1)
                | (go_at_call 40; refine hlo1.mono ?_; rintro e w2 ⟨rfl, hd2, hk2⟩))
              go_roundw
              case rel => exact ⟨0 + 1, d', _, by omega, by rfl, hd2, hk1.trans hk2, hL', hk2.ty _ _ _ hx1 (by decide) (by decide) (by decide), hk2.ty _ _ _ hz1 (by decide) (by decide) (by decide), p', o'⟩
              case measure => simp [intOf]
          · replace pk0 : Pk body dj 0 true := pk0
            replace pk1 : Pk body dj 1 false := pk1
            go_wp2
            go_roundw
            case rel => exact ⟨1 + 1, dj, _, by omega, by rfl, hd, hk, hLj, hx, hz, pk0, pk1⟩
            case measure => simp [intOf]
          · replace pk0 : Pk body dj 0 true := pk0
            replace pk1 : Pk body dj 1 false := pk1
            clear cz0 cz1
            go_wp2
            refine HK.out _ _ ?_
            clear HK
            have hlo := load_one hLj (show (0 : Int) ≤ 0 ∧ (0 : Int) ≤ 6 by omega) (.inr rfl) (i := 1) (v := 1) (c := 5) (b := body) (by decide) (Pk.good (by decide) hb43 pk1) (.inl (by rw [show cop dj 0 2 (1 - 1) = badR from pk0]; decide))
            have hbl : (loadC dj 0 2).2.1.length ≤ 1000000 := by rw [hlo]; simp only; omega
            have HLS := Lib.hid (loadsD_of hlo)
            clear hlo
            go_wp2_with (go_at_call 26; refine (loads_any hd 2 1 a c body (hs.below hk.bl) hbl).mono ?_; rintro e w7 ⟨rfl, hb7⟩; rw [HLS.out])
            go_ret
            exact ⟨rfl, (hk.trans (Kt.of hb7 hk.bl.size)).bl⟩
end Go.Proofs.YtejjneamngkmoaaDoor

