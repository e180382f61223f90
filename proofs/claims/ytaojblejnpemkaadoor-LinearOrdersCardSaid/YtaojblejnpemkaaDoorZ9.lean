/- Texts that the claim leans on, part 9: M9, M10, LT. -/
import Derived.Test.YtaojblejnpemkaaDoorZ1
import Derived.Test.YtaojblejnpemkaaDoorZ2
import Derived.Test.YtaojblejnpemkaaDoorZ3
import Derived.Test.YtaojblejnpemkaaDoorZ4
import Derived.Test.YtaojblejnpemkaaDoorZ5
import Derived.Test.YtaojblejnpemkaaDoorZ6
import Derived.Test.YtaojblejnpemkaaDoorZ7
import Derived.Test.YtaojblejnpemkaaDoorZ8
import Derived.Test.YtaojblejnpemkaaDoorRows
import Derived.WalkKit
import Derived.WalkSpells
import Derived.WalkLawsBesides
import Derived.Handy
import Derived.Deep.QuietTactic
import Derived.BigQuiet
import Derived.Deep.DeepCutAuto
import Derived.Lib.Hide
import Derived.RegionTactic
import Derived.ChangeAlike
import Derived.ProofKit
import Derived.Deep.Slices
import Derived.Deep.Strs
import Derived.Lib.SmallJoins
import Derived.Laws.ResultCell
import Derived.Outline
import Derived.IntWalk
import Derived.Lib.LaidU8
import Derived.Lib.LaidPrint
import Derived.PinnedBridge
import Derived.Test.YtaojblejnpemkaaDoorTie
import Derived.Test.YtaojblejnpemkaaDoorCards
import Derived.ChangeMaps5
import Derived.Lay
import Derived.SevenTiedAt
import Derived.LoopN
import Derived.Shelf.Strconv.Quote
import Derived.Shelf.Strings.BuilderK
import Derived.Shelf.Strings.BuilderF
import Derived.Lib.QuoteLoop
import Derived.Lib.MapLaws
import Derived.Laws.BytesArg
import Derived.Maps.OwnSet
import Derived.Maps.Keyed
import Derived.WideKeyEntry
import Derived.DeepKeys4
import Derived.Laws.BitsAllLaws
import Derived.Laws.Shifts
import Derived.Laws.Rows
import Derived.Deep.Quiet
import Derived.Deep.RegionHeld3
import Derived.Laws.EntriesVeiled
import Derived.StillTailTactics
import Derived.Deep.RegionWith
import Derived.Lib.Overlaps
import Derived.OpenShut
import Derived.Laws.Strings
import Derived.Laws.CopyOwn
import Derived.Laws.CopyRow
import Derived.Laws.NewBlocks
import Derived.Deep.RegionLaw
namespace Go.Proofs.YtaojblejnpemkaaDoor
open Go.ChangeShapes Go.WideShapes Go.ChangeAt Go.RowKit
def okB (d : Dn) : Prop := d.ah ≤ 255 ∧ d.be ≤ 255
theorem list8D {α : Type} {l : List α} (h : l.length = 8) : ∃ a0 a1 a2 a3 a4 a5 a6 a7, l = [a0, a1, a2, a3, a4, a5, a6, a7] := by
  match l, h with
  | [a0, a1, a2, a3, a4, a5, a6, a7], _ => exact ⟨a0, a1, a2, a3, a4, a5, a6, a7, rfl⟩
theorem cDoneD : Tryd.prog.cellsOf 55 = 8 := by kernel_rfl
theorem cOpD : Tryd.prog.cellsOf 34 = 4 := by kernel_rfl
theorem cIntD : Tryd.prog.cellsOf 3 = 1 := by kernel_rfl
theorem cU8D : Tryd.prog.cellsOf 5 = 1 := by kernel_rfl
theorem cStrD : Tryd.prog.cellsOf 9 = 1 := by kernel_rfl
theorem cBoolD : Tryd.prog.cellsOf 4 = 1 := by kernel_rfl
set_option maxRecDepth 100000 in
theorem done_ofD {H : Type} {enc : TypeId × Value → H} {W : World} {sp : Nat → Bool} {hd : Bool} {b0 fuel : Nat} {cs : List Value} {x : DataW H × List MemPlace}
    (h : DataW.trod enc Tryd.prog W b0 sp hd fuel 55 cs = some x) : ∃ d : Dn, cs = doneC d ∧ okB d := by
  obtain ⟨y0, y1, y2, y3, y4, n, hl, h0, h1, h2, h3, h4⟩ := trod_st5 Tryd.underlying55 h
  rw [cDoneD] at hl
  obtain ⟨a0, a1, a2, a3, a4, a5, a6, a7, rfl⟩ := list8D hl
  obtain ⟨z0, z1, z2, z3, m, _, _, g0, g1, g2, g3⟩ := Go.Joins.trod_struct4 Tryd.underlying34 h1
  simp [cOpD, cIntD, cU8D, cStrD, cBoolD] at h0 h2 h3 h4 g0 g1 g2 g3
  obtain ⟨cli, q0, _⟩ := DataW.trod_int Tryd.underlying3 h0
  obtain ⟨kd, q1, _⟩ := DataW.trod_int Tryd.underlying5 g0
  obtain ⟨s1, q2, _⟩ := DataW.trod_string Tryd.underlying9 g1
  obtain ⟨s2, q3, _⟩ := DataW.trod_string Tryd.underlying9 g2
  obtain ⟨s3, q4, _⟩ := DataW.trod_string Tryd.underlying9 g3
  obtain ⟨ah, q5, _, w5⟩ := DataW.trod_int Tryd.underlying5 h2
  obtain ⟨be, q6, _, w6⟩ := DataW.trod_int Tryd.underlying5 h3
  obtain ⟨lo, q7, _⟩ := DataW.trod_bool Tryd.underlying4 h4
  simp at q0 q1 q2 q3 q4 q5 q6 q7
  subst q0 q1 q2 q3 q4 q5 q6 q7
  obtain ⟨k5, rfl, b5⟩ := u8_wfS w5
  obtain ⟨k6, rfl, b6⟩ := u8_wfS w6
  exact ⟨⟨cli, ⟨kd, s1, s2, s3⟩, k5, k6, lo⟩, rfl, b5, b6⟩
set_option maxRecDepth 100000 in
theorem open_dones {H : Type} {enc : TypeId × Value → H} {W : World} {base : Nat} {sp : Nat → Bool} {hd : Bool} {b0 : Nat} {v : Value} {d : DataW H} {p : List MemPlace}
    (hv : Value.okWide Tryd.prog W .any base 41 v) (h : DataW.Trod enc Tryd.prog W b0 sp hd 41 v d p) : ∃ (a : Option Addr) (l : List Dn) (cap : Nat), v = .slice a l.length cap ∧ SlD W a cap l ∧ ∀ y ∈ l, okB y := by
  obtain ⟨a0, len, cap, rfl⟩ := okWide_slice Tryd.underlying41 hv
  obtain ⟨fuel, hf⟩ := h
  obtain ⟨a, l, c, hcs, hr, h1, h2, h3⟩ := structsS (ok := okB) (by decide) doneC_len Tryd.underlying41 cDoneD (fun _ _ _ h => done_ofD h) hf
  simp [Value.cells] at hcs
  obtain ⟨rfl, rfl, rfl⟩ := hcs
  exact ⟨_, l, _, rfl, ⟨hr, h1, h2⟩, h3⟩
end Go.Proofs.YtaojblejnpemkaaDoor
namespace Go.Proofs.YtaojblejnpemkaaDoor
open Go.RowKit Go.Maps
theorem SlC.of_owns {w : World} {base : Nat} {v : Value} {l : List Cl} (h : w.ownsRow base 38 10 v l.length (calls l)) : ∃ a cap, v = .slice a l.length cap ∧ SlC w a cap l := by
  obtain ⟨a, cap, rfl, hr, hle, hmx⟩ := Row.of_owns h
  exact ⟨a, cap, rfl, hr, hle, hmx⟩
theorem SlI.of_owns {w : World} {base : Nat} {v : Value} {l : List Int} (h : w.ownsRow base 3 1 v l.length (l.map (Value.int .i64))) : ∃ a cap, v = .slice a l.length cap ∧ SlI w a cap l := by
  obtain ⟨a, cap, rfl, hr, hle, hmx⟩ := Row.of_owns h
  exact ⟨a, cap, rfl, hr, hle, hmx⟩
theorem find_true {l : List Cl} {q : List Int} (h : FindP l q true) : holdsP l q = true := by
  rcases h with ⟨_, h⟩ | ⟨_, _, h⟩ | ⟨_, h, _⟩
  · cases h
  · exact h
  · cases h
theorem greatP_no {l : List Dn} {most : Nat} (h : greatP l most = false) (hb : ∀ y ∈ l, okB y) : l.length ≤ most ∧ OkDn l := by
  unfold greatP at h
  rw [Bool.or_eq_false_iff, Bool.not_eq_false', List.all_eq_true] at h
  exact ⟨by have := of_decide_eq_false h.1; omega, fun d hd => ⟨h.2 d hd, hb d hd⟩⟩
section
variable {T : Lib.PrintTabs}
set_option maxRecDepth 100000 in
set_option maxHeartbeats 4000000 in
theorem was_law (a : Option Addr) (cap : Nat) (l : List Dn) (hb : ∀ y ∈ l, okB y) (w : World) (hs : SlD w a cap l) (hT : Tabs T w) :
    Calls Tryd.prog 7 #[.slice a l.length cap] w fun e w' => e = .returned (.bool true) ∧ Below w.heap.size w w' := by
  have HB := Lib.hid hb
  clear hb
  go_enter Tryd.func7, Tryd.ntmps7
  refine wp_seq_k (fun K hK => ?_)
  have HK := Lib.hid hK
  clear hK
  go_wp2
  refine HK.out _ _ ?_
  clear HK
  refine wp_seq_k (fun K hK => ?_)
  have HK := Lib.hid hK
  clear hK
  go_wp2_with (go_at_call 14; refine (awake_any hT).mono ?_; rintro e w1 ⟨rfl, hA1⟩)
  refine HK.out _ _ ?_
  clear HK
  have hs1 := hs.below hA1.bel
  cases hg : greatP l 12
  case true =>
    have HG := Lib.hid hg
    clear hg
    go_wp2_with (go_at_call 15; refine (great_any a cap l 12 (by decide) w1 hs1).mono ?_; rintro e w2 ⟨rfl, hb2⟩; rw [HG.out])
    go_ret
    exact ⟨rfl, hA1.bel.trans (hb2.mono hA1.bel.size)⟩
  case false =>
    have HG := Lib.hid hg
    obtain ⟨hl, hok⟩ := greatP_no hg HB.out
    have HOK := Lib.hid hok
    clear hg hok
    refine wp_seq_k (fun K hK => ?_)
    have HK := Lib.hid hK
    clear hK
    go_wp2_with (go_at_call 15; refine (great_any a cap l 12 (by decide) w1 hs1).mono ?_; rintro e w2 ⟨rfl, hb2⟩; rw [HG.out])
    refine HK.out _ _ ?_
    clear HK
    have hA2 := hA1.below hb2
    have hs2 := hs1.below hb2
    refine wp_seq_k (fun K hK => ?_)
    have HK := Lib.hid hK
    clear hK
    go_wp2_with (go_at_call 16; refine (history_any a cap l (by omega) HOK.out w2 hs2).mono ?_; rintro e w3 ⟨⟨v, rfl, hO⟩, hb3⟩)
    refine HK.out _ _ ?_
    clear HK
    have hA3 := hA2.below hb3
    have hO' : w3.ownsRow w2.heap.size 38 10 v (hist l).length (calls (hist l)) := by rw [hist_len]; exact hO
    obtain ⟨ha, hcap, rfl, hsH⟩ := SlC.of_owns hO'
    have hLn : (hist l).length = l.length := hist_len l
    have hL12 : (hist l).length ≤ 12 := by omega
    have HLn := Lib.hid hLn
    clear hO hO' hLn hs hs1 hs2 hb2 hb3 hA1 hA2
    refine wp_seq_k (fun K hK => ?_)
    have HK := Lib.hid hK
    clear hK
    go_wp2
    refine HK.out _ _ ?_
    clear HK
    refine wp_seq_k (fun K hK => ?_)
    go_cut [4] (fun o wr => ∃ q cp, o = .slice q (ownQ (hist l).length).length cp ∧ SlI wr q cp (ownQ (hist l).length) ∧ Below w3.heap.size w3 wr)
    case first =>
      go_wp2
      go_loopw [4, 5] (fun o i wr => ∃ k : Nat, k ≤ (hist l).length ∧ i = .int .i64 k ∧ Below w3.heap.size w3 wr ∧ wr.ownsRow w3.heap.size 3 1 o k ((ownQ k).map (Value.int .i64))) (fun _ i _ => (hist l).length - (intOf i).toNat)
      case atStart => exact ⟨0, by omega, rfl, Below.refl _ _, World.ownsRow_nil _ _ _ _⟩
      case round =>
        obtain ⟨k, hk, rfl, hbr, hO⟩ := hrel
        by_cases hlt : k < (hist l).length
        · go_wp2_with (at_builtin; refine wpList_append1 rfl _ _ 30 3 elIntL rfl w3.heap.size _ k _ rfl hO #[.int .i64 k] rfl (by simp [Value.oneCell']) 3 rfl (by omega) (by decide) hbr.size ?_; intro v' w' hO' hb' _)
          go_roundw
          case rel => exact ⟨k + 1, by omega, by go_num, hbr.trans hb', by rw [ownQ_succ, List.map_append]; exact hO'⟩
          case measure => simp [intOf]; omega
        · obtain rfl : k = (hist l).length := by omega
          go_wp2
          go_meet
          obtain ⟨q, cp, rfl, hq⟩ := SlI.of_owns (l := ownQ (hist l).length) (by rw [ownQ_len]; exact hO)
          exact ⟨q, cp, rfl, hq, hbr⟩
    obtain ⟨q, cp, rfl, hq, hbq⟩ := hcut
    refine hK _ _ ?_
    clear hK
    have hA4 := hA3.below hbq
    have hsH4 := hsH.below hbq
    have hfind := lfind_any hA4.tabs hsH4 (grow_fac (hist l)) (fac_room hL12)
    have hw0 := was_holds HOK.out (by have := HLn.out; omega)
    have hc0 := chk_hist HOK.out (by have := HLn.out; omega)
    rw [← HLn.out] at hw0
    have HW := Lib.hid hw0
    have HC := Lib.hid hc0
    clear hw0 hc0 hsH
    refine wp_seq_k (fun K hK => ?_)
    have HK := Lib.hid hK
    clear hK
    go_wp2_with (go_at_call 12; refine hfind.mono ?_; rintro e w5 ⟨⟨rv, fq, b, rfl, hro, hf⟩, hb5⟩; have hbt := bool_iff (b' := true) hf.iff ⟨fun _ => rfl, fun _ => ⟨_, HW.out⟩⟩; subst hbt; rw [HC.out]; have HF := Lib.hid hf; clear hf hfind)
    refine HK.out _ _ ?_
    clear HK
    obtain ⟨fa, fcp, rfl, hfq⟩ := SlI.of_owns hro
    have HT5 := Lib.hid (find_true HF.out)
    have hsH5 := hsH4.below hb5
    have hq5 := hq.below hb5
    have hA5 := hA4.below hb5
    have hh1 := fun u (hb : Below w5.heap.size w5 u) => holds_any ha hcap (hist l) q cp (ownQ (hist l).length) u (hsH5.below hb) (hq5.below hb)
    have hh2 := fun u (hb : Below w5.heap.size w5 u) => holds_any ha hcap (hist l) fa fcp fq u (hsH5.below hb) (hfq.below hb)
    clear hro hsH4 hb5
    go_wp2_with fail
    go_at_call 19
    refine (hh1 _ (Below.refl _ _)).mono ?_
    rintro e w6 ⟨rfl, hb6⟩
    rw [HW.out]
    go_wp2_with fail
    go_at_call 19
    refine (hh2 _ hb6).mono ?_
    rintro e w7 ⟨rfl, hb7⟩
    rw [HT5.out]
    go_wp2
    go_ret
    exact ⟨rfl, hA5.bel.trans ((bl_tr hb6 hb7).mono hA5.bel.size)⟩
end
end Go.Proofs.YtaojblejnpemkaaDoor
namespace Go.Proofs.YtaojblejnpemkaaDoor
open Go.RowKit Go.Maps Go.Shelf Go.Lib
theorem lin_reads {W : World} (hL : laidMet Tryd.prog Rows.linearWasRow.laid W) :
    VarReads Tryd.prog W "unicode/utf8.first" firstData ∧ VarReads Tryd.prog W "unicode/utf8.acceptRanges" acceptData ∧
    VarReads Tryd.prog W "strconv.isPrint16" (sliceData .u16 goPrintTabs.p16) ∧ VarReads Tryd.prog W "strconv.isNotPrint16" (sliceData .u16 goPrintTabs.n16) ∧
    VarReads Tryd.prog W "strconv.isPrint32" (sliceData .u32 goPrintTabs.p32) ∧ VarReads Tryd.prog W "strconv.isNotPrint32" (sliceData .u16 goPrintTabs.n32) := by
  have h0 := Lib.laidMet.reads hL (.head _)
  have h2 := Lib.laidMet.reads hL (.tail _ (.tail _ (.head _)))
  have h3 := Lib.laidMet.reads hL (.tail _ (.tail _ (.tail _ (.head _))))
  have h4 := Lib.laidMet.reads hL (.tail _ (.tail _ (.tail _ (.tail _ (.head _)))))
  have h5 := Lib.laidMet.reads hL (.tail _ (.tail _ (.tail _ (.tail _ (.tail _ (.head _))))))
  have h6 := Lib.laidMet.reads hL (.tail _ (.tail _ (.tail _ (.tail _ (.tail _ (.tail _ (.head _)))))))
  refine ⟨?_, ?_, ?_, ?_, ?_, ?_⟩
  · rw [← Pinned.utf8First_eq]; exact h6
  · exact h0
  · rw [← Pinned.isPrint16_eq]; exact h4
  · rw [← Pinned.isNotPrint16_eq]; exact h2
  · rw [← Pinned.isPrint32_eq]; exact h5
  · rw [← Pinned.isNotPrint32_eq]; exact h3
theorem lin_tabs {W : World} (hL : laidMet Tryd.prog Rows.linearWasRow.laid W) : Tabs goPrintTabs W := by
  obtain ⟨h1, h2, h3, h4, h5, h6⟩ := lin_reads hL
  constructor
  · exact printTabs_of_reads (ρ := ren_n177) { lays_n177 with } ⟨by kernel_rfl, by kernel_rfl, by kernel_rfl, by kernel_rfl, by kernel_rfl, by kernel_rfl, by kernel_rfl, by kernel_rfl, by kernel_rfl, by kernel_rfl⟩ h3 h4 h5 h6
  · exact utf8Tabs_of_reads (ρ := ren_n177) { lays_n177 with } ⟨by kernel_rfl, by kernel_rfl, by kernel_rfl, by kernel_rfl, by kernel_rfl, by kernel_rfl, by kernel_rfl⟩ h1 h2
end Go.Proofs.YtaojblejnpemkaaDoor
