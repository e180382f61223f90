/- Texts that the claim leans on, part 10: X9, D42, D43, D44, D45, D46, D47, D48. -/
import Derived.Test.YtbdonjenekhmdaaGreatDoorZ1
import Derived.Test.YtbdonjenekhmdaaGreatDoorZ2
import Derived.Test.YtbdonjenekhmdaaGreatDoorZ3
import Derived.Test.YtbdonjenekhmdaaGreatDoorZ4
import Derived.Test.YtbdonjenekhmdaaGreatDoorZ5
import Derived.Test.YtbdonjenekhmdaaGreatDoorZ6
import Derived.Test.YtbdonjenekhmdaaGreatDoorZ7
import Derived.Test.YtbdonjenekhmdaaGreatDoorZ8
import Derived.Test.YtbdonjenekhmdaaGreatDoorZ9
import Derived.Test.YtbdonjenekhmdaaGreatDoorRows
import Derived.WalkKit
import Derived.WalkSpells
import Derived.WalkLawsBesides
import Derived.Handy
import Derived.Deep.QuietTactic
import Derived.BigQuiet
import Derived.Deep.DeepCutAuto
import Derived.Lib.Hide
import Derived.RegionTactic
import Derived.ChangeAlike
import Derived.Laws.ResultCell
import Derived.Outline
import Derived.Laws.IdiomStrings
import Derived.Laws.BytesArg
import Derived.Carry
import Derived.Maps.Own
import Derived.Maps.Keyed
import Derived.RangeFuncNested
import Derived.RangeFuncBound
import Derived.RangeFuncCalls
import Derived.RangeFuncLeaves
import Derived.RangeFuncBox
import Derived.RangeFuncRecord
import Derived.Shelf.Abstract
import Derived.Shelf.RegionOpen
import Derived.OwnWalkIn
import Derived.TacticsInMore
import Derived.LoopNIn
import Derived.LoopIn
import Derived.OrdersIn
import Derived.OrdersHeld
import Derived.Maps.AppendAt
import Derived.Lib.SliceRun
import Derived.Laws.MakeOwn
import Derived.IntWalk
import Derived.Laws.BitsAllLaws
import Derived.Great.BuildSlice
import Derived.Great.FillDense
import Derived.Laws.Rows
import Derived.Deep.Quiet
import Derived.Deep.RegionHeld3
import Derived.ProofKit
import Derived.OpenShut
import Derived.Deep.RegionHeld
import Derived.Laws.CopyOwn
import Derived.Laws.CopyRow
import Derived.Laws.NewBlocks
import Derived.Deep.RegionLaw
namespace Go.Proofs.YtbdonjenekhmdaaGreatDoor
def frR (rep reg : Int) (i : Nat) : Vo → List UInt8
 | none => zeros64
 | some (v, c, b) => fraC rep reg v c b i
structure Fr (d : Dk) (rep reg : Int) (o : Vo) : Prop where
 ok : okO o
 r0 : readD d (secC reg 0) = (frR rep reg 0 o, 0)
 r1 : readD d (secC reg 1) = (frR rep reg 1 o, 0)
section
variable {d d' : Dk} {rep reg inc : Int} {body : List UInt8} {o o' : Vo}
theorem cop_fr {i : Nat} {e : Int} (hp : 0 ≤ rep ∧ rep ≤ 6) (hr : reg = 1 ∨ reg = 2) (hi : i < 2) (ho : okO o) (h : readD d (secC reg i) = (frR rep reg i o, e)) : cop d rep reg i = coR rep reg i o := by
 match o, ho, h with
 | none, _, h => exact cop_zero h
 | some (v, c, b), ⟨h1, h2, h3, h4, h5⟩, h => exact cop_fra hp hr hi (by omega) h2 ⟨h3, h4⟩ h5 h
theorem Fr.both (h : Fr d rep reg o) (hp : 0 ≤ rep ∧ rep ≤ 6) (hr : reg = 1 ∨ reg = 2) : Both d rep reg o := ⟨h.ok, cop_fr hp hr (by omega) h.ok h.r0, cop_fr hp hr (by omega) h.ok h.r1⟩
theorem Fr.same (h : Fr d rep reg o) (h0 : readD d' (secC reg 0) = readD d (secC reg 0)) (h1 : readD d' (secC reg 1) = readD d (secC reg 1)) : Fr d' rep reg o := ⟨h.ok, h0.trans h.r0, h1.trans h.r1⟩
theorem Fr.load (h : Fr d rep reg o) (hL : Live d) (hp : 0 ≤ rep ∧ rep ≤ 6) (hr : reg = 1 ∨ reg = 2) : loadC d rep reg = (verO o, bodO o, 0) := both_load hL hp hr (h.both hp hr)
end
end Go.Proofs.YtbdonjenekhmdaaGreatDoor
namespace Go.Proofs.YtbdonjenekhmdaaGreatDoor
open Go.RowKit
section
variable {B g gp : Nat} {wv : Value} {d : Dk} {w : World}
set_option maxRecDepth 100000 in
set_option maxHeartbeats 4000000 in
theorem cput_any (h : DiskB B g gp wv d w) (hb : B ≤ w.heap.size) (q : Nat) (rep reg : Int) (s0 s1 : Nat) (t0 t1 : Tg) (v0 v1 : Value) (hq : w.heap[q]? = some (.cells (ceA g rep reg s0 t0 v0 s1 t1 v1) 181 (0, 0))) (pla ver inc : Int) (hm : mayTg ⟨rep, reg, pla, ver, inc⟩ = true) (a : Option Addr) (c : Nat) (body : List UInt8) (hs : SlB w a c body) (hl : body.length ≤ 43) (hw : d.waits.length ≤ 1000000) :
  Calls Tryz.prog 101 #[.pointer (some ⟨q, 0, none⟩), .int .i64 pla, .int .i64 ver, .int .i64 inc, .slice a body.length c] w fun e w' => e = .returned (.int .i64 (putC d ⟨rep, reg, pla, ver, inc⟩ body).2) ∧ (∃ wv', DiskB B g gp wv' (putC d ⟨rep, reg, pla, ver, inc⟩ body).1 w') ∧ Kt B w w' := by
 have HM := Lib.hid hm
 clear hm
 unfold putC
 simp only
 have hlen := seal64 ⟨rep, reg, pla, ver, inc⟩ hl
 obtain ⟨fr, hfr⟩ : ∃ fr, sealF ⟨rep, reg, pla, ver, inc⟩ body 64 = fr := ⟨_, rfl⟩
 rw [hfr] at hlen ⊢
 obtain ⟨d1, r1, hd1⟩ : ∃ d1 r1, writeD d (firstN reg pla) fr = (d1, r1) := ⟨_, _, rfl⟩
 rw [hd1]
 have HFR := Lib.hid hfr
 have HLN := Lib.hid hlen
 have HD1 := Lib.hid hd1
 clear hfr hlen hd1
 go_enter Tryz.func101, Tryz.ntmps101
 refine seqH (fun K HK => ?_)
 go_wp2
 refine HK.out _ _ ?_
 clear HK
 refine seqH (fun K HK => ?_)
 go_wp2_with fail
 have hbd := (Below.refl w.heap.size w).drew
 have hqd := tr_bl hbd hq
 have hsd := hs.below hbd
 have hdd := h.below hbd
 have hkd := Kt.of hbd hb
 refine wp_region_held_drew (S := fun w' => w'.heap[q]? = some (.cells (ceA g rep reg s0 t0 v0 s1 t1 v1) 181 (0, 0))) (by kernel_rfl) hqd (fun hS0 => ?_)
 generalize w.drew = x0 at *
 refine tkT 0 rfl (by intro wS hSw; go_simp; (try with_reducible rfl)) ?_
 refine tkT 1 rfl (by intro wS hSw; go_simp; (try with_reducible rfl)) ?_
 refine tkT 2 rfl (by intro wS hSw; go_simp; (try with_reducible rfl)) ?_
 refine tkT 3 rfl (by intro wS hSw; have c := ceA_1 hSw; go_simp; (try with_reducible rfl)) ?_
 refine tkT 4 rfl (by intro wS hSw; go_simp; (try with_reducible rfl)) ?_
 refine tkT 5 rfl (by intro wS hSw; go_simp; (try with_reducible rfl)) ?_
 refine tkT 6 rfl (by intro wS hSw; go_simp; (try with_reducible rfl)) ?_
 refine tkT 7 rfl (by intro wS hSw; have c := ceA_2 hSw; go_simp; (try with_reducible rfl)) ?_
 refine tkT 8 rfl (by intro wS hSw; go_simp; (try with_reducible rfl)) ?_
 refine tkT 9 rfl (by intro wS hSw; go_simp; (try with_reducible rfl)) ?_
 refine tkT 10 rfl (by intro wS hSw; go_simp; (try with_reducible rfl)) ?_
 refine tkT 11 rfl (by intro wS hSw; go_simp; (try with_reducible rfl)) ?_
 refine tkT 12 rfl (by intro wS hSw; go_simp; (try with_reducible rfl)) ?_
 refine rdy1 13 rfl (fun K' hK' => ?_)
 go_simp
 refine (seal1 ⟨rep, reg, pla, ver, inc⟩ a c body _ hsd HM.out hl).mono ?_
 rintro e w1 ⟨⟨gs, rfl, hgs, hsb⟩, hb1⟩
 rw [HFR.out] at hsb
 have hq1 := tr_bl hb1 hqd
 have hd1 := hdd.below hb1
 have hk1 := hkd.trans (Kt.of hb1 (Nat.le_trans hb hkd.bl.size))
 refine hK'.out _ _ hq1 (fun _ => ?_)
 clear hK' hb1 hS0 hqd hsd hdd hkd hbd hgs
 (try simp only [Act.put]); (try simp only [List.setIfInBounds_toArray]); (try simp only [List.set_cons_succ]); (try simp only [List.set_cons_zero])
 refine tkT 14 rfl (by intro wS hSw; go_simp; (try with_reducible rfl)) ?_
 refine tkT 15 rfl (by intro wS hSw; go_simp; (try with_reducible rfl)) ?_
 refine tkT 16 rfl (by intro wS hSw; go_simp; (try with_reducible rfl)) ?_
 refine tkT 17 rfl (by intro wS hSw; go_simp; (try with_reducible rfl)) ?_
 refine tkT 18 rfl (by intro wS hSw; go_simp; (try with_reducible rfl)) ?_
 refine wpAnyH_done (by kernel_rfl) ?_ _
 refine HK.out _ _ ?_
 clear HK
 refine seqH (fun K HK => ?_)
 go_wp2
 refine HK.out _ _ ?_
 clear HK
 refine seqH (fun K HK2 => ?_)
 refine seqH (fun K HK => ?_)
 go_wp2_with fail
 have hbd := (Below.refl w1.heap.size w1).drew
 have hb1 := Nat.le_trans hb hk1.bl.size
 have hq2 := tr_bl hbd hq1
 have hd2 := hd1.below hbd
 have hs2 := tr_bl hbd hsb
 have hk2 := hk1.trans (Kt.of hbd hb1)
 have hb2 := Nat.le_trans hb hk2.bl.size
 clear hq1 hd1 hsb hk1 hbd hb1
 refine wp_region_held_drew (S := fun w' => w'.heap[q]? = some (.cells (ceA g rep reg s0 t0 v0 s1 t1 v1) 181 (0, 0))) (by kernel_rfl) hq2 (fun hS0 => ?_)
 generalize w1.drew = x1 at *
 refine tkT 0 rfl (by intro wS hSw; go_simp; (try with_reducible rfl)) ?_
 refine tkT 1 rfl (by intro wS hSw; go_simp; (try with_reducible rfl)) ?_
 refine tkT 2 rfl (by intro wS hSw; go_simp; (try with_reducible rfl)) ?_
 refine tkT 3 rfl (by intro wS hSw; have c := ceA_0 hSw; go_simp; (try with_reducible rfl)) ?_
 refine tkT 4 rfl (by intro wS hSw; go_simp; (try with_reducible rfl)) ?_
 refine tkT 5 rfl (by intro wS hSw; go_simp; (try with_reducible rfl)) ?_
 refine tkT 6 rfl (by intro wS hSw; go_simp; (try with_reducible rfl)) ?_
 refine tkT 7 rfl (by intro wS hSw; have c := ceA_2 hSw; go_simp; (try with_reducible rfl)) ?_
 refine tkT 8 rfl (by intro wS hSw; go_simp; (try with_reducible rfl)) ?_
 refine tkT 10 rfl (by intro wS hSw; go_simp; (try with_reducible rfl)) ?_
 refine rdy1 9 rfl (fun K' hK' => ?_)
 go_simp
 refine (first_any reg pla _).mono ?_
 rintro e w2 ⟨rfl, hb3⟩
 have hq3 := tr_bl hb3 hq2
 have hd3 := hd2.below hb3
 have hs3 := tr_bl hb3 hs2
 have hk3 := hk2.trans (Kt.of hb3 hb2)
 have hb4 := Nat.le_trans hb hk3.bl.size
 refine hK'.out _ _ hq3 (fun _ => ?_)
 clear hK' hb3 hS0 hq2 hd2 hs2 hk2 hb2
 (try simp only [Act.put]); (try simp only [List.setIfInBounds_toArray]); (try simp only [List.set_cons_succ]); (try simp only [List.set_cons_zero])
 refine rdy1 11 rfl (fun K' hK' => ?_)
 go_simp
 have hwr := write_any hd3 hb4 (firstN reg pla) (some ⟨gs, 0, none⟩) 64 fr (fun w' hk => ⟨row_pre (ys := []) (by rw [List.append_nil]; exact hk.ty _ _ _ hs3 (by decide) (by decide) (by decide)), by rw [HLN.out]; omega, by unfold maxLen; omega, fun e => by cases e⟩) hw
 rw [HLN.out, HD1.out] at hwr
 refine hwr.mono ?_
 rintro e w3 ⟨rfl, ⟨wv4, hd4⟩, hk4⟩
 have hq4 := hk4.ty _ _ _ hq3 (by decide) (by decide) (by decide)
 have hk5 := hk3.trans hk4
 have hb5 := Nat.le_trans hb hk5.bl.size
 refine hK'.out _ _ hq4 (fun _ => ?_)
 clear hK' hwr hq3 hd3 hs3 hk3 hb4 hk4
 refine tkT 12 rfl (by intro wS hSw; go_simp; (try with_reducible rfl)) ?_
 refine wpAnyH_done (by kernel_rfl) ?_ _
 refine HK.out _ _ ?_
 clear HK
 simp only at hd4 ⊢
 by_cases h1 : r1 = 0
 case pos =>
  subst h1
  rw [if_neg (by simp)]
  go_wp2
  refine HK2.out _ _ ?_
  clear HK2
  have c0 := ceA_0 hq4
  go_wp2_with (go_at_call 45; refine (flush_any hd4 hb5).mono ?_; rintro e w5 ⟨rfl, hd6, hk6⟩)
  go_ret
  exact ⟨rfl, hd6, hk5.trans hk6⟩
 case neg =>
  rw [if_pos h1]
  have e1 : (r1 != 0) = true := by rw [bne_iff_ne]; exact h1
  go_wp2
  go_ret
  exact ⟨rfl, ⟨_, hd4⟩, hk5⟩
end
end Go.Proofs.YtbdonjenekhmdaaGreatDoor
namespace Go.Proofs.YtbdonjenekhmdaaGreatDoor
open Go.RowKit
theorem ce_s0 (g : Nat) (rep reg : Int) (s0 : Nat) (t0 : Tg) (v0 : Value) (s1 : Nat) (t1 : Tg) (v1 : Value) (s : Nat) : 3 + 1 ≤ (ceA g rep reg s0 t0 v0 s1 t1 v1).size ∧ (Value.int .u8 (s : Int)).cells.size = 1 ∧ (∀ u ∈ (Value.int .u8 (s : Int)).cells.toList, u.oneCell' = true) ∧ ((ceA g rep reg s0 t0 v0 s1 t1 v1).toList.take 3 ++ (Value.int .u8 (s : Int)).cells.toList ++ (ceA g rep reg s0 t0 v0 s1 t1 v1).toList.drop (3 + 1)).toArray = ceA g rep reg s t0 v0 s1 t1 v1 :=
 ⟨by show _ ≤ 17; omega, rfl, by simp [Value.cells, Value.oneCell'], rfl⟩
theorem ce_t0 (g : Nat) (rep reg : Int) (s0 : Nat) (t0 : Tg) (v0 : Value) (s1 : Nat) (t1 : Tg) (v1 : Value) (t : Tg) : 4 + 5 ≤ (ceA g rep reg s0 t0 v0 s1 t1 v1).size ∧ (tgV t).cells.size = 5 ∧ (∀ u ∈ (tgV t).cells.toList, u.oneCell' = true) ∧ ((ceA g rep reg s0 t0 v0 s1 t1 v1).toList.take 4 ++ (tgV t).cells.toList ++ (ceA g rep reg s0 t0 v0 s1 t1 v1).toList.drop (4 + 5)).toArray = ceA g rep reg s0 t v0 s1 t1 v1 :=
 ⟨by show _ ≤ 17; omega, rfl, by simp [Value.cells, Value.oneCell'], rfl⟩
theorem ce_v0 (g : Nat) (rep reg : Int) (s0 : Nat) (t0 : Tg) (v0 : Value) (s1 : Nat) (t1 : Tg) (v1 : Value) (a : Option Addr) (n c : Nat) : 9 + 1 ≤ (ceA g rep reg s0 t0 v0 s1 t1 v1).size ∧ (Value.slice a n c).cells.size = 1 ∧ (∀ u ∈ (Value.slice a n c).cells.toList, u.oneCell' = true) ∧ ((ceA g rep reg s0 t0 v0 s1 t1 v1).toList.take 9 ++ (Value.slice a n c).cells.toList ++ (ceA g rep reg s0 t0 v0 s1 t1 v1).toList.drop (9 + 1)).toArray = ceA g rep reg s0 t0 (.slice a n c) s1 t1 v1 :=
 ⟨by show _ ≤ 17; omega, rfl, by simp [Value.cells, Value.oneCell'], rfl⟩
theorem ce_s1 (g : Nat) (rep reg : Int) (s0 : Nat) (t0 : Tg) (v0 : Value) (s1 : Nat) (t1 : Tg) (v1 : Value) (s : Nat) : 10 + 1 ≤ (ceA g rep reg s0 t0 v0 s1 t1 v1).size ∧ (Value.int .u8 (s : Int)).cells.size = 1 ∧ (∀ u ∈ (Value.int .u8 (s : Int)).cells.toList, u.oneCell' = true) ∧ ((ceA g rep reg s0 t0 v0 s1 t1 v1).toList.take 10 ++ (Value.int .u8 (s : Int)).cells.toList ++ (ceA g rep reg s0 t0 v0 s1 t1 v1).toList.drop (10 + 1)).toArray = ceA g rep reg s0 t0 v0 s t1 v1 :=
 ⟨by show _ ≤ 17; omega, rfl, by simp [Value.cells, Value.oneCell'], rfl⟩
theorem ce_t1 (g : Nat) (rep reg : Int) (s0 : Nat) (t0 : Tg) (v0 : Value) (s1 : Nat) (t1 : Tg) (v1 : Value) (t : Tg) : 11 + 5 ≤ (ceA g rep reg s0 t0 v0 s1 t1 v1).size ∧ (tgV t).cells.size = 5 ∧ (∀ u ∈ (tgV t).cells.toList, u.oneCell' = true) ∧ ((ceA g rep reg s0 t0 v0 s1 t1 v1).toList.take 11 ++ (tgV t).cells.toList ++ (ceA g rep reg s0 t0 v0 s1 t1 v1).toList.drop (11 + 5)).toArray = ceA g rep reg s0 t0 v0 s1 t v1 :=
 ⟨by show _ ≤ 17; omega, rfl, by simp [Value.cells, Value.oneCell'], rfl⟩
theorem ce_v1 (g : Nat) (rep reg : Int) (s0 : Nat) (t0 : Tg) (v0 : Value) (s1 : Nat) (t1 : Tg) (v1 : Value) (a : Option Addr) (n c : Nat) : 16 + 1 ≤ (ceA g rep reg s0 t0 v0 s1 t1 v1).size ∧ (Value.slice a n c).cells.size = 1 ∧ (∀ u ∈ (Value.slice a n c).cells.toList, u.oneCell' = true) ∧ ((ceA g rep reg s0 t0 v0 s1 t1 v1).toList.take 16 ++ (Value.slice a n c).cells.toList ++ (ceA g rep reg s0 t0 v0 s1 t1 v1).toList.drop (16 + 1)).toArray = ceA g rep reg s0 t0 v0 s1 t1 (.slice a n c) :=
 ⟨by show _ ≤ 17; omega, rfl, by simp [Value.cells, Value.oneCell'], rfl⟩
def ceZ (g : Nat) (rep reg : Int) : Array Value := ceA g rep reg 0 zeroTg (.slice none 0 0) 0 zeroTg (.slice none 0 0)
theorem lastW_mem : ∀ {l : List (List UInt8 × Nat)} {s : Nat} {b : List UInt8}, lastW l s = some b → ∃ x ∈ l, x.1 = b
 | [], _, _, h => by cases h
 | (c, k) :: l, s, b, h => by
  unfold lastW at h
  cases hl : lastW l s with
  | some x =>
   rw [hl] at h
   simp only [Option.some.injEq] at h
   subst h
   obtain ⟨y, hy, e⟩ := lastW_mem hl
   exact ⟨y, List.mem_cons_of_mem _ hy, e⟩
  | none =>
   rw [hl] at h
   simp only at h
   split at h
   ·injection h with h
    exact ⟨(c, k), List.mem_cons_self, h⟩
   ·cases h
theorem read_len {B g gp : Nat} {wv : Value} {d : Dk} {w : World} (h : DiskB B g gp wv d w) (s : Int) : ((readD d s).2 = 0 → (readD d s).1.length = 64) ∧ ((readD d s).2 ≠ 0 → (readD d s).1 = []) := by
 unfold readD
 by_cases h0 : liveD d s = 0
 ·rw [if_neg (by simpa using h0)]
  cases hl : lastW d.waits s.toNat with
  | some b =>
   obtain ⟨x, hx, e⟩ := lastW_mem hl
   simp only
   exact ⟨fun _ => by rw [← e]; exact (h.wk x hx).1, fun hh => absurd rfl hh⟩
  | none =>
   simp only
   cases hp : d.pl[s.toNat]? with
   | none => exact ⟨(fun hh => by cases hh), fun _ => rfl⟩
   | some p =>
    simp only
    by_cases hlo : p.lost = true
    ·rw [if_pos hlo]
     exact ⟨(fun hh => by cases hh), fun _ => rfl⟩
    ·rw [if_neg hlo]
     exact ⟨fun _ => (h.ok p (List.mem_of_getElem? hp)).1, fun hh => absurd rfl hh⟩
 ·rw [if_pos (by simpa using h0)]
  exact ⟨fun hh => absurd hh h0, fun _ => rfl⟩
theorem read_slb {B g gp : Nat} {wv : Value} {d : Dk} {w : World} (h : DiskB B g gp wv d w) (s : Int) : Calls Tryz.prog 170 #[.pointer (some ⟨g, 0, none⟩), .int .i64 s] w fun e w' => (∃ a c, e = .returned (.tuple #[.slice a (readD d s).1.length c, .int .i64 (readD d s).2]) ∧ SlB w' a c (readD d s).1) ∧ Below w.heap.size w w' := by
 obtain ⟨h1, h2⟩ := read_len h s
 refine (read_any h s).mono ?_
 rintro e w' ⟨hr, hb⟩
 refine ⟨?_, hb⟩
 unfold ReadRes at hr
 by_cases h0 : (readD d s).2 = 0
 ·rw [if_pos h0] at hr
  obtain ⟨a, c, rfl, ho⟩ := hr
  rw [h1 h0, h0]
  obtain ⟨_, _, e, hs⟩ := SlB.of_owns (l := (readD d s).1) (by rw [h1 h0]; exact ho)
  rw [h1 h0] at e
  cases e
  exact ⟨a, c, rfl, hs⟩
 ·rw [if_neg h0] at hr
  rw [h2 h0]
  exact ⟨none, 0, hr, ⟨.inl rfl, Nat.le_refl _, by simp, fun _ => rfl⟩⟩
end Go.Proofs.YtbdonjenekhmdaaGreatDoor
namespace Go.Proofs.YtbdonjenekhmdaaGreatDoor
open Go.RowKit
def OpenRes (base g : Nat) (d : Dk) (rep reg : Int) (e : Ending) (w' : World) : Prop :=
 if openC d rep reg = 0 then ∃ q a0 k0 a1 k1, e = .returned (.tuple #[.pointer (some ⟨q, 0, none⟩), .int .i64 0]) ∧ base ≤ q ∧
  w'.heap[q]? = some (.cells (ceA g rep reg (copyC d rep reg 0).st (copyC d rep reg 0).tg (.slice a0 (copyC d rep reg 0).body.length k0) (copyC d rep reg 1).st (copyC d rep reg 1).tg (.slice a1 (copyC d rep reg 1).body.length k1)) 181 (0, 0)) ∧
  OwnB w' base a0 k0 (copyC d rep reg 0).body ∧ OwnB w' base a1 k1 (copyC d rep reg 1).body
 else e = .returned (.tuple #[.pointer none, .int .i64 (openC d rep reg)])
theorem OpenRes.err {base g : Nat} {d : Dk} {rep reg x : Int} {w' : World} (h : openC d rep reg = x) (hx : x ≠ 0) : OpenRes base g d rep reg (.returned (.tuple #[.pointer none, .int .i64 x])) w' := by
 unfold OpenRes
 rw [h, if_neg hx]
def CpIn (w' : World) (base q g : Nat) (rep reg : Int) (c0 c1 : Cp) : Nat → Prop
 | 0 => w'.heap[q]? = some (.cells (ceZ g rep reg) 181 (0, 0))
 | 1 => ∃ a0 k0, w'.heap[q]? = some (.cells (ceA g rep reg c0.st c0.tg (.slice a0 c0.body.length k0) 0 zeroTg (.slice none 0 0)) 181 (0, 0)) ∧ OwnB w' base a0 k0 c0.body
 | _ => ∃ a0 k0 a1 k1, w'.heap[q]? = some (.cells (ceA g rep reg c0.st c0.tg (.slice a0 c0.body.length k0) c1.st c1.tg (.slice a1 c1.body.length k1)) 181 (0, 0)) ∧ OwnB w' base a0 k0 c0.body ∧ OwnB w' base a1 k1 c1.body
section
variable {B g gp : Nat} {wv : Value} {d : Dk} {w : World}
set_option maxRecDepth 100000 in
set_option maxHeartbeats 4000000 in
theorem copen_err (h : DiskB B g gp wv d w) (rep reg : Int) (ho : openC d rep reg ≠ 0) : Calls Tryz.prog 97 #[.pointer (some ⟨g, 0, none⟩), .int .i64 rep, .int .i64 reg] w fun e w' => OpenRes w.heap.size g d rep reg e w' ∧ Below w.heap.size w w' := by
 have h0 : ((d.pl.length : Int) == 0) = false := by have := h.n0; rw [beq_eq_false_iff_ne]; omega
 have hn : ¬ d.pl.length = 0 := by have := h.n0; omega
 unfold openC at ho
 rw [if_neg hn] at ho
 by_cases hc : d.pl.length < 156 ∨ (reg ≠ 1 ∧ reg ≠ 2) ∨ rep < 0 ∨ 7 ≤ rep
 case pos =>
  have HO := Lib.hid (show openC d rep reg = 2 by unfold openC; rw [if_neg hn, if_pos hc])
  have HU := Lib.hid (rfl : upD d = upD d)
  clear ho hn
  by_cases k1 : d.pl.length < 156
  case pos =>
   have e1 : (d.pl.length : Int) < 156 := by omega
   go_enter Tryz.func97, Tryz.ntmps97
   go_wp2_with (first
    | (go_at_call 33; refine (dsize ‹_›).mono ?_; rintro e w1 ⟨rfl, rfl⟩)
    | (go_at_call 34; refine (all_any _).mono ?_; rintro e w1 ⟨rfl, hb1⟩; have h1 := h.below hb1)
    | (go_at_call 43; refine (up_any h1).mono ?_; rintro e w2 ⟨rfl, rfl⟩; rw [HU.out]))
   go_ret2
   exact ⟨OpenRes.err HO.out (by decide), hb1⟩
  case neg =>
   have e1 : ¬ (d.pl.length : Int) < 156 := by omega
   by_cases k2 : reg ≠ 1 ∧ reg ≠ 2
   case pos =>
    have e2 : (reg != 1) = true := by rw [bne_iff_ne]; exact k2.1
    have e3 : (reg != 2) = true := by rw [bne_iff_ne]; exact k2.2
    clear k2 hc
    go_enter Tryz.func97, Tryz.ntmps97
    go_wp2_with (first
     | (go_at_call 33; refine (dsize ‹_›).mono ?_; rintro e w1 ⟨rfl, rfl⟩)
     | (go_at_call 34; refine (all_any _).mono ?_; rintro e w1 ⟨rfl, hb1⟩; have h1 := h.below hb1)
     | (go_at_call 43; refine (up_any h1).mono ?_; rintro e w2 ⟨rfl, rfl⟩; rw [HU.out]))
    go_ret2
    exact ⟨OpenRes.err HO.out (by decide), hb1⟩
   case neg =>
    have hc' : rep < 0 ∨ 7 ≤ rep := by
     rcases hc with h | h | h
     ·exact absurd h k1
     ·exact absurd h k2
     ·exact h
    have hr : reg = 1 ∨ reg = 2 := by omega
    clear k2 hc
    rcases hr with rfl | rfl
    ·rcases hc' with k3 | k3
     ·skip
      go_enter Tryz.func97, Tryz.ntmps97
      go_wp2_with (first
       | (go_at_call 33; refine (dsize ‹_›).mono ?_; rintro e w1 ⟨rfl, rfl⟩)
       | (go_at_call 34; refine (all_any _).mono ?_; rintro e w1 ⟨rfl, hb1⟩; have h1 := h.below hb1)
       | (go_at_call 43; refine (up_any h1).mono ?_; rintro e w2 ⟨rfl, rfl⟩; rw [HU.out]))
      go_ret2
      exact ⟨OpenRes.err HO.out (by decide), hb1⟩
     ·have k4 : ¬ rep < 0 := by omega
      go_enter Tryz.func97, Tryz.ntmps97
      go_wp2_with (first
       | (go_at_call 33; refine (dsize ‹_›).mono ?_; rintro e w1 ⟨rfl, rfl⟩)
       | (go_at_call 34; refine (all_any _).mono ?_; rintro e w1 ⟨rfl, hb1⟩; have h1 := h.below hb1)
       | (go_at_call 43; refine (up_any h1).mono ?_; rintro e w2 ⟨rfl, rfl⟩; rw [HU.out]))
      go_ret2
      exact ⟨OpenRes.err HO.out (by decide), hb1⟩
    ·rcases hc' with k3 | k3
     ·skip
      go_enter Tryz.func97, Tryz.ntmps97
      go_wp2_with (first
       | (go_at_call 33; refine (dsize ‹_›).mono ?_; rintro e w1 ⟨rfl, rfl⟩)
       | (go_at_call 34; refine (all_any _).mono ?_; rintro e w1 ⟨rfl, hb1⟩; have h1 := h.below hb1)
       | (go_at_call 43; refine (up_any h1).mono ?_; rintro e w2 ⟨rfl, rfl⟩; rw [HU.out]))
      go_ret2
      exact ⟨OpenRes.err HO.out (by decide), hb1⟩
     ·have k4 : ¬ rep < 0 := by omega
      go_enter Tryz.func97, Tryz.ntmps97
      go_wp2_with (first
       | (go_at_call 33; refine (dsize ‹_›).mono ?_; rintro e w1 ⟨rfl, rfl⟩)
       | (go_at_call 34; refine (all_any _).mono ?_; rintro e w1 ⟨rfl, hb1⟩; have h1 := h.below hb1)
       | (go_at_call 43; refine (up_any h1).mono ?_; rintro e w2 ⟨rfl, rfl⟩; rw [HU.out]))
      go_ret2
      exact ⟨OpenRes.err HO.out (by decide), hb1⟩
 case neg =>
  rw [if_neg hc] at ho
  have hu : upD d = false := by
   cases hu : upD d
   ·rfl
   ·rw [hu] at ho
    simp at ho
  have HO := Lib.hid (show openC d rep reg = 5 by unfold openC; rw [if_neg hn, if_neg hc, if_pos hu])
  have HU := Lib.hid hu
  have e1 : ¬ (d.pl.length : Int) < 156 := by omega
  have k3 : 0 ≤ rep := by omega
  have k4 : rep < 7 := by omega
  have hr : reg = 1 ∨ reg = 2 := by omega
  clear ho hn hc hu
  rcases hr with rfl | rfl
  ·skip
   go_enter Tryz.func97, Tryz.ntmps97
   go_wp2_with (first
    | (go_at_call 33; refine (dsize ‹_›).mono ?_; rintro e w1 ⟨rfl, rfl⟩)
    | (go_at_call 34; refine (all_any _).mono ?_; rintro e w1 ⟨rfl, hb1⟩; have h1 := h.below hb1)
    | (go_at_call 43; refine (up_any h1).mono ?_; rintro e w2 ⟨rfl, rfl⟩; rw [HU.out]))
   go_ret2
   exact ⟨OpenRes.err HO.out (by decide), hb1⟩
  ·skip
   go_enter Tryz.func97, Tryz.ntmps97
   go_wp2_with (first
    | (go_at_call 33; refine (dsize ‹_›).mono ?_; rintro e w1 ⟨rfl, rfl⟩)
    | (go_at_call 34; refine (all_any _).mono ?_; rintro e w1 ⟨rfl, hb1⟩; have h1 := h.below hb1)
    | (go_at_call 43; refine (up_any h1).mono ?_; rintro e w2 ⟨rfl, rfl⟩; rw [HU.out]))
   go_ret2
   exact ⟨OpenRes.err HO.out (by decide), hb1⟩
end
end Go.Proofs.YtbdonjenekhmdaaGreatDoor
namespace Go.Proofs.YtbdonjenekhmdaaGreatDoor
open Go.RowKit
section
variable {B g gp : Nat} {wv : Value} {d : Dk} {w : World}
set_option maxRecDepth 100000 in
set_option maxHeartbeats 8000000 in
theorem copen_ok (h : DiskB B g gp wv d w) (rep reg : Int) (ho : openC d rep reg = 0) : Calls Tryz.prog 97 #[.pointer (some ⟨g, 0, none⟩), .int .i64 rep, .int .i64 reg] w fun e w' => OpenRes w.heap.size g d rep reg e w' ∧ Below w.heap.size w w' := by
 have h0 : ((d.pl.length : Int) == 0) = false := by have := h.n0; rw [beq_eq_false_iff_ne]; omega
 have HO := Lib.hid ho
 unfold openC at ho
 rw [if_neg (by have := h.n0; omega)] at ho
 obtain ⟨e1, hr, k3, k4, hu⟩ : 156 ≤ d.pl.length ∧ (reg = 1 ∨ reg = 2) ∧ 0 ≤ rep ∧ rep < 7 ∧ upD d = true := by
  split at ho
  ·cases ho
  ·split at ho
   ·cases ho
   ·rename_i h1 h2
    refine ⟨by omega, by omega, by omega, by omega, by simpa using h2⟩
 have e2 : ¬ (d.pl.length : Int) < 156 := by omega
 have r1 : ((reg != 1) = true ∧ (reg != 2) = false) ∨ (reg != 1) = false := by
  rcases hr with rfl | rfl
  ·exact .inr rfl
  ·exact .inl ⟨rfl, rfl⟩
 have HU := Lib.hid hu
 have HR := Lib.hid hr
 clear ho hu hr
 go_enter Tryz.func97, Tryz.ntmps97
 refine seqH (fun K HK => ?_)
 go_wp2
 refine HK.out _ _ ?_
 clear HK
 refine wp_seq_k (fun K hK => ?_)
 go_cut [0] (fun v w' => v = .pointer (some ⟨g, 0, none⟩) ∧ Below w.heap.size w w')
 case first =>
  rcases r1 with ⟨r1, r2⟩ | r1
  all_goals
   go_wp2_with (first
    | (go_at_call 33; refine (dsize ‹_›).mono ?_; rintro e w1 ⟨rfl, rfl⟩)
    | (go_at_call 34; refine (all_any _).mono ?_; rintro e w1 ⟨rfl, hb1⟩; have h1 := h.below hb1)
    | (go_at_call 43; refine (up_any h1).mono ?_; rintro e w2 ⟨rfl, rfl⟩; rw [HU.out]))
   go_meet
   exact ⟨rfl, hb1⟩
 obtain ⟨rfl, hbc⟩ := hcut
 refine hK _ _ ?_
 clear hK
 refine seqH (fun K HK => ?_)
 go_wp2
 refine HK.out _ _ ?_
 clear HK
 change Code.wp _ _ _ _ (wc.alloc (Obj.cells (ceZ g rep reg) 181))
 have hbox := heap_alloc_new wc (Obj.cells (ceZ g rep reg) 181)
 have hbr := hbc.alloc hbc.size (Obj.cells (ceZ g rep reg) 181)
 have hq := hbc.size
 generalize wc.alloc (Obj.cells (ceZ g rep reg) 181) = wd at *
 generalize wc.heap.size = q at *
 clear h0 e2 r1 hbc
 refine seqH (fun K HK => ?_)
 go_wp2_with fail
 go_loopw [46] (fun i wr => ∃ j : Nat, j ≤ 2 ∧ i = .int .i64 (j : Nat) ∧ CpIn wr w.heap.size q g rep reg (copyC d rep reg 0) (copyC d rep reg 1) j ∧ Below w.heap.size w wr) (fun i _ => 2 - (intOf i).toNat)
 case atStart => exact ⟨0, by omega, rfl, hbox, hbr⟩
 case round =>
  clear hbox hbr
  obtain ⟨j, hj, rfl, hin, hbr⟩ := hrel
  have h2 : j = 0 ∨ j = 1 ∨ j = 2 := by omega
  rcases h2 with rfl | rfl | rfl
  ·have hbox : wr.heap[q]? = some (.cells (ceZ g rep reg) 181 (0, 0)) := hin
   clear hin
   have hdr := h.below hbr
   obtain ⟨bs, re, hbs⟩ : ∃ bs re, readD d (firstN reg 0) = (bs, re) := ⟨_, _, rfl⟩
   obtain ⟨st, tg, body, hmi⟩ : ∃ st tg body, mineF bs rep reg 0 = (st, tg, body) := ⟨_, _, _, rfl⟩
   have hcp : copyC d rep reg 0 = ⟨st, tg, body⟩ := by unfold copyC; rw [hbs]; simp only; rw [hmi]
   have hbl : bs.length ≤ 1000 := by
    have := read_len hdr (firstN reg 0)
    rw [hbs] at this
    simp only at this
    by_cases h0 : re = 0
    ·rw [this.1 h0]; omega
    ·rw [this.2 h0]; simp
   have HBS := Lib.hid hbs
   have HMI := Lib.hid hmi
   have HCP := Lib.hid hcp
   clear hbs hmi hcp
   refine seqH (fun K HK => ?_)
   go_wp2
   refine HK.out _ _ ?_
   clear HK
   refine seqH (fun K HK => ?_)
   go_wp2
   refine HK.out _ _ ?_
   clear HK
   refine seqH (fun K HK9 => ?_)
   go_wp2_with (first
    | (go_at_call 63; refine (first_any reg 0 _).mono ?_; rintro e w1 ⟨rfl, hb1⟩; have hd1 := hdr.below hb1; have A1 := tr_bl hb1 hbox)
    | (go_at_call 170; have hrd := read_slb hd1 (firstN reg 0); rw [HBS.out] at hrd; refine hrd.mono ?_; rintro e w2 ⟨⟨a2, c2, rfl, hs2⟩, hb2⟩; clear hrd))
   have A2 := tr_bl hb2 A1
   have hb12 := hb1.trans (hb2.mono hb1.size)
   have hb3 := hbr.trans (hb12.mono hbr.size)
   clear A1 hb1 hb2 hd1 hdr
   have hbd := (Below.refl w2.heap.size w2).drew
   have A3 := tr_bl hbd A2
   have hs3 := hs2.below hbd
   have hb4 := hb3.trans (hbd.mono hb3.size)
   refine wp_region_held_drew (S := fun _ => True) (by kernel_rfl) trivial (fun hS0 => ?_)
   clear A2 hs2 hb3
   generalize w2.drew = x0 at *
   refine tkT 0 rfl (by intro wS hSw; go_simp; (try with_reducible rfl)) ?_
   refine tkT 1 rfl (by intro wS hSw; go_simp; (try with_reducible rfl)) ?_
   refine tkT 2 rfl (by intro wS hSw; go_simp; (try with_reducible rfl)) ?_
   refine tkT 3 rfl (by intro wS hSw; go_simp; (try with_reducible rfl)) ?_
   refine tkT 4 rfl (by intro wS hSw; go_simp; (try with_reducible rfl)) ?_
   refine tkT 5 rfl (by intro wS hSw; go_simp; (try with_reducible rfl)) ?_
   refine tkT 6 rfl (by intro wS hSw; go_simp; (try with_reducible rfl)) ?_
   refine tkT 7 rfl (by intro wS hSw; go_simp; (try with_reducible rfl)) ?_
   refine tkT 8 rfl (by intro wS hSw; go_simp; (try with_reducible rfl)) ?_
   refine tkT 9 rfl (by intro wS hSw; go_simp; (try with_reducible rfl)) ?_
   refine tkT 15 rfl (by intro wS hSw; go_simp; (try with_reducible rfl)) ?_
   refine tkT 16 rfl (by intro wS hSw; go_simp; (try with_reducible rfl)) ?_
   refine tkT 20 rfl (by intro wS hSw; go_simp; (try with_reducible rfl)) ?_
   refine tkT 21 rfl (by intro wS hSw; go_simp; (try with_reducible rfl)) ?_
   refine tkT 25 rfl (by intro wS hSw; go_simp; (try with_reducible rfl)) ?_
   refine tkT 26 rfl (by intro wS hSw; go_simp; (try with_reducible rfl)) ?_
   refine rdy1 10 rfl (fun K' hK' => ?_)
   go_simp
   refine (mine_any a2 c2 bs rep reg 0 _ hs3 hbl).mono ?_
   rintro e w3 ⟨⟨a4, c4, rfl, ho4⟩, hb5⟩
   rw [HMI.out] at ho4 ⊢
   simp only at ho4 ⊢
   have A4 := tr_bl hb5 A3
   have hb6 := hb4.trans (hb5.mono hb4.size)
   have ho5 := ho4.mono hb4.size
   have ox := OwnB.none w3 w.heap.size
   refine hK'.out _ _ trivial (fun _ => ?_)
   clear hK' A3 hs3 hb4 hb5 ho4 hbd
   (try simp only [Act.put]); (try simp only [List.setIfInBounds_toArray]); (try simp only [List.set_cons_succ]); (try simp only [List.set_cons_zero])
   refine tkT 11 rfl (by intro wS hSw; go_simp; (try with_reducible rfl)) ?_
   refine tkT 12 rfl (by intro wS hSw; go_simp; (try with_reducible rfl)) ?_
   refine tkT 13 rfl (by intro wS hSw; go_simp; (try with_reducible rfl)) ?_
   refine tkT 14 rfl (by intro wS hSw; go_simp; (try with_reducible rfl)) ?_
   refine tkT 17 rfl (by intro wS hSw; go_simp; (try with_reducible rfl)) ?_
   refine tkT 18 rfl (by intro wS hSw; go_simp; (try with_reducible rfl)) ?_
   refine rdy1 19 rfl (fun K' hK' => ?_)
   refine wp_stB 5 _ _ ?_
   refine ⟨_, _, _, ⟨_, _, _, Tryz.sizeOf5, rfl, A4, ce_s0 _ _ _ _ _ _ _ _ _ st⟩, ?_⟩
   intro w5 A5 g5
   have ho6 := ho5.st g5 A4 (by decide)
   have oy := ox.st g5 A4 (by decide)
   have hb7 := bl_st hb6 g5 hb6.size hq
   refine hK'.out _ _ trivial (fun _ => ?_)
   clear hK' A4 g5 ho5 ox hb6
   (try simp only [Act.put]); (try simp only [List.setIfInBounds_toArray]); (try simp only [List.set_cons_succ]); (try simp only [List.set_cons_zero])
   refine tkT 22 rfl (by intro wS hSw; go_simp; (try with_reducible rfl)) ?_
   refine tkT 23 rfl (by intro wS hSw; go_simp; (try with_reducible rfl)) ?_
   refine rdy1 24 rfl (fun K' hK' => ?_)
   refine wp_stB 39 _ _ ?_
   refine ⟨_, _, _, ⟨_, _, _, Tryz.sizeOf39, rfl, A5, ce_t0 _ _ _ _ _ _ _ _ _ tg⟩, ?_⟩
   intro w6 A6 g6
   have ho7 := ho6.st g6 A5 (by decide)
   have oz := oy.st g6 A5 (by decide)
   have hb8 := bl_st hb7 g6 hb7.size hq
   refine hK'.out _ _ trivial (fun _ => ?_)
   clear hK' A5 g6 ho6 oy hb7
   (try simp only [Act.put]); (try simp only [List.setIfInBounds_toArray]); (try simp only [List.set_cons_succ]); (try simp only [List.set_cons_zero])
   refine tkT 27 rfl (by intro wS hSw; go_simp; (try with_reducible rfl)) ?_
   refine tkT 28 rfl (by intro wS hSw; go_simp; (try with_reducible rfl)) ?_
   refine rdy1 29 rfl (fun K' hK' => ?_)
   refine wp_stB 37 _ _ ?_
   refine ⟨_, _, _, ⟨_, _, _, Tryz.sizeOf37, rfl, A6, ce_v0 _ _ _ _ _ _ _ _ _ a4 body.length c4⟩, ?_⟩
   intro w7 A7 g7
   have ho8 := ho7.st g7 A6 (by decide)
   have ow := oz.st g7 A6 (by decide)
   have hb9 := bl_st hb8 g7 hb8.size hq
   refine hK'.out _ _ trivial (fun _ => ?_)
   clear hK' A6 g7 ho7 oz hb8
   refine wpAnyH_done (by kernel_rfl) ?_ _
   go_wp2
   refine HK9.out _ _ ?_
   clear HK9
   go_wp2
   go_roundw
   case rel => exact ⟨0 + 1, by omega, by rfl, ⟨a4, c4, by rw [HCP.out]; exact A7, by rw [HCP.out]; exact ho8⟩, hb9⟩
   case measure => simp [intOf]
  ·obtain ⟨a0, k0, hbox, hob⟩ : ∃ a0 k0, wr.heap[q]? = some (.cells (ceA g rep reg (copyC d rep reg 0).st (copyC d rep reg 0).tg (.slice a0 (copyC d rep reg 0).body.length k0) 0 zeroTg (.slice none 0 0)) 181 (0, 0)) ∧ OwnB wr w.heap.size a0 k0 (copyC d rep reg 0).body := hin
   generalize copyC d rep reg 0 = cc at *
   have hdr := h.below hbr
   obtain ⟨bs, re, hbs⟩ : ∃ bs re, readD d (firstN reg 1) = (bs, re) := ⟨_, _, rfl⟩
   obtain ⟨st, tg, body, hmi⟩ : ∃ st tg body, mineF bs rep reg 1 = (st, tg, body) := ⟨_, _, _, rfl⟩
   have hcp : copyC d rep reg 1 = ⟨st, tg, body⟩ := by unfold copyC; rw [hbs]; simp only; rw [hmi]
   have hbl : bs.length ≤ 1000 := by
    have := read_len hdr (firstN reg 1)
    rw [hbs] at this
    simp only at this
    by_cases h0 : re = 0
    ·rw [this.1 h0]; omega
    ·rw [this.2 h0]; simp
   have HBS := Lib.hid hbs
   have HMI := Lib.hid hmi
   have HCP := Lib.hid hcp
   clear hbs hmi hcp
   refine seqH (fun K HK => ?_)
   go_wp2
   refine HK.out _ _ ?_
   clear HK
   refine seqH (fun K HK => ?_)
   go_wp2
   refine HK.out _ _ ?_
   clear HK
   refine seqH (fun K HK9 => ?_)
   go_wp2_with (first
    | (go_at_call 63; refine (first_any reg 1 _).mono ?_; rintro e w1 ⟨rfl, hb1⟩; have hd1 := hdr.below hb1; have A1 := tr_bl hb1 hbox)
    | (go_at_call 170; have hrd := read_slb hd1 (firstN reg 1); rw [HBS.out] at hrd; refine hrd.mono ?_; rintro e w2 ⟨⟨a2, c2, rfl, hs2⟩, hb2⟩; clear hrd))
   have A2 := tr_bl hb2 A1
   have hb12 := hb1.trans (hb2.mono hb1.size)
   have hb3 := hbr.trans (hb12.mono hbr.size)
   clear A1 hb1 hb2 hd1 hdr
   have hbd := (Below.refl w2.heap.size w2).drew
   have A3 := tr_bl hbd A2
   have hs3 := hs2.below hbd
   have hb4 := hb3.trans (hbd.mono hb3.size)
   refine wp_region_held_drew (S := fun _ => True) (by kernel_rfl) trivial (fun hS0 => ?_)
   clear A2 hs2 hb3
   generalize w2.drew = x0 at *
   refine tkT 0 rfl (by intro wS hSw; go_simp; (try with_reducible rfl)) ?_
   refine tkT 1 rfl (by intro wS hSw; go_simp; (try with_reducible rfl)) ?_
   refine tkT 2 rfl (by intro wS hSw; go_simp; (try with_reducible rfl)) ?_
   refine tkT 3 rfl (by intro wS hSw; go_simp; (try with_reducible rfl)) ?_
   refine tkT 4 rfl (by intro wS hSw; go_simp; (try with_reducible rfl)) ?_
   refine tkT 5 rfl (by intro wS hSw; go_simp; (try with_reducible rfl)) ?_
   refine tkT 6 rfl (by intro wS hSw; go_simp; (try with_reducible rfl)) ?_
   refine tkT 7 rfl (by intro wS hSw; go_simp; (try with_reducible rfl)) ?_
   refine tkT 8 rfl (by intro wS hSw; go_simp; (try with_reducible rfl)) ?_
   refine tkT 9 rfl (by intro wS hSw; go_simp; (try with_reducible rfl)) ?_
   refine tkT 15 rfl (by intro wS hSw; go_simp; (try with_reducible rfl)) ?_
   refine tkT 16 rfl (by intro wS hSw; go_simp; (try with_reducible rfl)) ?_
   refine tkT 20 rfl (by intro wS hSw; go_simp; (try with_reducible rfl)) ?_
   refine tkT 21 rfl (by intro wS hSw; go_simp; (try with_reducible rfl)) ?_
   refine tkT 25 rfl (by intro wS hSw; go_simp; (try with_reducible rfl)) ?_
   refine tkT 26 rfl (by intro wS hSw; go_simp; (try with_reducible rfl)) ?_
   refine rdy1 10 rfl (fun K' hK' => ?_)
   go_simp
   refine (mine_any a2 c2 bs rep reg 1 _ hs3 hbl).mono ?_
   rintro e w3 ⟨⟨a4, c4, rfl, ho4⟩, hb5⟩
   rw [HMI.out] at ho4 ⊢
   simp only at ho4 ⊢
   have A4 := tr_bl hb5 A3
   have hb6 := hb4.trans (hb5.mono hb4.size)
   have ho5 := ho4.mono hb4.size
   have ox := ((hob.below hb12).below hbd).below hb5
   refine hK'.out _ _ trivial (fun _ => ?_)
   clear hK' A3 hs3 hb4 hb5 ho4 hbd
   (try simp only [Act.put]); (try simp only [List.setIfInBounds_toArray]); (try simp only [List.set_cons_succ]); (try simp only [List.set_cons_zero])
   refine tkT 11 rfl (by intro wS hSw; go_simp; (try with_reducible rfl)) ?_
   refine tkT 12 rfl (by intro wS hSw; go_simp; (try with_reducible rfl)) ?_
   refine tkT 13 rfl (by intro wS hSw; go_simp; (try with_reducible rfl)) ?_
   refine tkT 14 rfl (by intro wS hSw; go_simp; (try with_reducible rfl)) ?_
   refine tkT 17 rfl (by intro wS hSw; go_simp; (try with_reducible rfl)) ?_
   refine tkT 18 rfl (by intro wS hSw; go_simp; (try with_reducible rfl)) ?_
   refine rdy1 19 rfl (fun K' hK' => ?_)
   refine wp_stB 5 _ _ ?_
   refine ⟨_, _, _, ⟨_, _, _, Tryz.sizeOf5, rfl, A4, ce_s1 _ _ _ _ _ _ _ _ _ st⟩, ?_⟩
   intro w5 A5 g5
   have ho6 := ho5.st g5 A4 (by decide)
   have oy := ox.st g5 A4 (by decide)
   have hb7 := bl_st hb6 g5 hb6.size hq
   refine hK'.out _ _ trivial (fun _ => ?_)
   clear hK' A4 g5 ho5 ox hb6
   (try simp only [Act.put]); (try simp only [List.setIfInBounds_toArray]); (try simp only [List.set_cons_succ]); (try simp only [List.set_cons_zero])
   refine tkT 22 rfl (by intro wS hSw; go_simp; (try with_reducible rfl)) ?_
   refine tkT 23 rfl (by intro wS hSw; go_simp; (try with_reducible rfl)) ?_
   refine rdy1 24 rfl (fun K' hK' => ?_)
   refine wp_stB 39 _ _ ?_
   refine ⟨_, _, _, ⟨_, _, _, Tryz.sizeOf39, rfl, A5, ce_t1 _ _ _ _ _ _ _ _ _ tg⟩, ?_⟩
   intro w6 A6 g6
   have ho7 := ho6.st g6 A5 (by decide)
   have oz := oy.st g6 A5 (by decide)
   have hb8 := bl_st hb7 g6 hb7.size hq
   refine hK'.out _ _ trivial (fun _ => ?_)
   clear hK' A5 g6 ho6 oy hb7
   (try simp only [Act.put]); (try simp only [List.setIfInBounds_toArray]); (try simp only [List.set_cons_succ]); (try simp only [List.set_cons_zero])
   refine tkT 27 rfl (by intro wS hSw; go_simp; (try with_reducible rfl)) ?_
   refine tkT 28 rfl (by intro wS hSw; go_simp; (try with_reducible rfl)) ?_
   refine rdy1 29 rfl (fun K' hK' => ?_)
   refine wp_stB 37 _ _ ?_
   refine ⟨_, _, _, ⟨_, _, _, Tryz.sizeOf37, rfl, A6, ce_v1 _ _ _ _ _ _ _ _ _ a4 body.length c4⟩, ?_⟩
   intro w7 A7 g7
   have ho8 := ho7.st g7 A6 (by decide)
   have ow := oz.st g7 A6 (by decide)
   have hb9 := bl_st hb8 g7 hb8.size hq
   refine hK'.out _ _ trivial (fun _ => ?_)
   clear hK' A6 g7 ho7 oz hb8
   refine wpAnyH_done (by kernel_rfl) ?_ _
   go_wp2
   refine HK9.out _ _ ?_
   clear HK9
   go_wp2
   go_roundw
   case rel => exact ⟨1 + 1, by omega, by rfl, ⟨a0, k0, a4, c4, by rw [HCP.out]; exact A7, ow, by rw [HCP.out]; exact ho8⟩, hb9⟩
   case measure => simp [intOf]
  ·obtain ⟨a0, k0, a1, k1, hbox, ho0, ho1⟩ : CpIn wr w.heap.size q g rep reg (copyC d rep reg 0) (copyC d rep reg 1) 2 := hin
   go_wp2
   refine HK.out _ _ ?_
   clear HK
   go_wp2
   go_ret2
   refine ⟨?_, hbr⟩
   unfold OpenRes
   rw [if_pos HO.out]
   exact ⟨q, a0, k0, a1, k1, rfl, hq, hbox, ho0, ho1⟩
end
end Go.Proofs.YtbdonjenekhmdaaGreatDoor
namespace Go.Proofs.YtbdonjenekhmdaaGreatDoor
open Go.RowKit
theorem open_tag (l : List UInt8) : (openF l).2.1 = zeroTg ∧ (openF l).1 ≠ 1 ∧ (openF l).2.2 = [] ∨ (openF l).1 = 1 ∧ mayTg (openF l).2.1 = true ∧ (openF l).2.2.length ≤ roomN l.length := by
 unfold openF
 split
 ·exact .inl ⟨rfl, by decide, rfl⟩
 ·split
  ·exact .inl ⟨rfl, by decide, rfl⟩
  ·split
   ·rename_i h
    exact .inr ⟨rfl, h.1, by rw [List.length_take]; omega⟩
   ·exact .inl ⟨rfl, by decide, rfl⟩
theorem mine_tag (l : List UInt8) (rep reg pla : Int) : (mineF l rep reg pla).2.1 = zeroTg ∧ (mineF l rep reg pla).1 ≠ 1 ∧ (mineF l rep reg pla).2.2 = [] ∨ (mineF l rep reg pla).1 = 1 ∧ mayTg (mineF l rep reg pla).2.1 = true ∧ (mineF l rep reg pla).2.2.length ≤ roomN l.length := by
 unfold mineF
 split
 ·exact .inl ⟨rfl, by decide, rfl⟩
 ·exact open_tag l
section
variable {B g gp : Nat} {wv : Value} {d : Dk} {w : World}
theorem copy_tag (h : DiskB B g gp wv d w) (rep reg i : Int) : (copyC d rep reg i).tg = zeroTg ∧ (copyC d rep reg i).st ≠ 1 ∧ (copyC d rep reg i).body = [] ∨ (copyC d rep reg i).st = 1 ∧ mayTg (copyC d rep reg i).tg = true ∧ (copyC d rep reg i).body.length ≤ 43 := by
 rcases mine_tag (readD d (firstN reg i)).1 rep reg i with hh | ⟨h1, h2, h3⟩
 ·exact .inl hh
 ·refine .inr ⟨h1, h2, Nat.le_trans h3 ?_⟩
  have := read_len h (firstN reg i)
  by_cases h0 : (readD d (firstN reg i)).2 = 0
  ·rw [this.1 h0]; decide
  ·rw [this.2 h0]; decide
theorem copy_idx (h : DiskB B g gp wv d w) (rep reg i : Int) : 0 ≤ (copyC d rep reg i).tg.idx ∧ (copyC d rep reg i).tg.idx ≤ 1099511627776 := by
 rcases copy_tag h rep reg i with ⟨h1, _⟩ | ⟨_, h1, _⟩
 ·rw [h1]; decide
 ·obtain ⟨_, _, _, _, a, b, _⟩ := mayTg_parts h1
  exact ⟨a, b⟩
theorem copen_bad (h : DiskB B g gp wv d w) (rep reg : Int) (ho : openC d rep reg ≠ 0) : Calls Tryz.prog 97 #[.pointer (some ⟨g, 0, none⟩), .int .i64 rep, .int .i64 reg] w fun e w' => e = .returned (.tuple #[.pointer none, .int .i64 (openC d rep reg)]) ∧ Below w.heap.size w w' := by
 refine (copen_err h rep reg ho).mono ?_
 rintro e w' ⟨hr, hb⟩
 unfold OpenRes at hr
 rw [if_neg ho] at hr
 exact ⟨hr, hb⟩
theorem copen_good (h : DiskB B g gp wv d w) (rep reg : Int) (ho : openC d rep reg = 0) : Calls Tryz.prog 97 #[.pointer (some ⟨g, 0, none⟩), .int .i64 rep, .int .i64 reg] w fun e w' => (∃ q a0 k0 a1 k1, e = .returned (.tuple #[.pointer (some ⟨q, 0, none⟩), .int .i64 0]) ∧ w.heap.size ≤ q ∧
  w'.heap[q]? = some (.cells (ceA g rep reg (copyC d rep reg 0).st (copyC d rep reg 0).tg (.slice a0 (copyC d rep reg 0).body.length k0) (copyC d rep reg 1).st (copyC d rep reg 1).tg (.slice a1 (copyC d rep reg 1).body.length k1)) 181 (0, 0)) ∧
  OwnB w' w.heap.size a0 k0 (copyC d rep reg 0).body ∧ OwnB w' w.heap.size a1 k1 (copyC d rep reg 1).body) ∧ Below w.heap.size w w' := by
 refine (copen_ok h rep reg ho).mono ?_
 rintro e w' ⟨hr, hb⟩
 unfold OpenRes at hr
 rw [if_pos ho] at hr
 exact ⟨hr, hb⟩
def LoadRes (base : Nat) (r : Int × List UInt8 × Int) (e : Ending) (w' : World) : Prop := ∃ a c, e = .returned (.tuple #[.int .i64 r.1, .slice a r.2.1.length c, .int .i64 r.2.2]) ∧ OwnB w' base a c r.2.1
set_option maxRecDepth 100000 in
set_option maxHeartbeats 4000000 in
theorem cload_any (h : DiskB B g gp wv d w) (rep reg : Int) : Calls Tryz.prog 35 #[.pointer (some ⟨g, 0, none⟩), .int .i64 rep, .int .i64 reg] w fun e w' => LoadRes w.heap.size (loadC d rep reg) e w' ∧ Below w.heap.size w w' := by
 unfold loadC
 by_cases ho : openC d rep reg = 0
 case neg =>
  rw [if_pos ho]
  have hop := copen_bad h rep reg ho
  generalize openC d rep reg = x at *
  have e1 : (x != 0) = true := by rw [bne_iff_ne]; exact ho
  clear ho
  go_enter Tryz.func35, Tryz.ntmps35
  go_wp2_with (go_at_call 97; refine hop.mono ?_; rintro e w1 ⟨rfl, hb1⟩)
  go_ret3
  exact ⟨⟨none, 0, rfl, OwnB.none _ _⟩, hb1⟩
 case pos =>
  rw [if_neg (by simpa using ho)]
  have hop := copen_good h rep reg ho
  unfold pickC
  generalize copyC d rep reg 0 = c0 at *
  generalize copyC d rep reg 1 = c1 at *
  have hlt := loaded_lt c0 c1
  have hlo := fun q a0 n0 k0 a1 n1 k1 w => loaded_any q g rep reg c0 c1 a0 a1 n0 k0 n1 k1 w
  obtain ⟨i, ok, er, hld⟩ : ∃ i ok er, loadedC c0 c1 = (i, ok, er) := ⟨_, _, _, rfl⟩
  rw [hld] at hlt
  simp only [hld] at hlo ⊢
  simp only at hlt
  clear hld ho
  cases ok
  case false =>
   rw [if_pos rfl]
   go_enter Tryz.func35, Tryz.ntmps35
   go_wp2_with (first
    | (go_at_call 97; refine hop.mono ?_; rintro e w1 ⟨⟨q, a0, k0, a1, k1, rfl, hq, Q1, o0, o1⟩, hb1⟩)
    | (go_at_call 98; refine (hlo q a0 _ k0 a1 _ k1 _ Q1).mono ?_; rintro e w2 ⟨rfl, hb2⟩; have hb3 := hb1.trans (hb2.mono hb1.size)))
   go_ret3
   exact ⟨⟨none, 0, rfl, OwnB.none _ _⟩, hb3⟩
  case true =>
   rw [if_neg (by simp)]
   go_enter Tryz.func35, Tryz.ntmps35
   refine seqH (fun K HK => ?_)
   go_wp2
   refine HK.out _ _ ?_
   clear HK
   refine seqH (fun K HK => ?_)
   go_wp2_with (go_at_call 97; refine hop.mono ?_; rintro e w1 ⟨⟨q, a0, k0, a1, k1, rfl, hq, Q1, o0, o1⟩, hb1⟩)
   refine HK.out _ _ ?_
   clear HK
   refine seqH (fun K HK => ?_)
   go_wp2
   refine HK.out _ _ ?_
   clear HK
   refine seqH (fun K HK => ?_)
   go_wp2_with (go_at_call 98; refine (hlo q a0 _ k0 a1 _ k1 _ Q1).mono ?_; rintro e w2 ⟨rfl, hb2⟩; have hb3 := hb1.trans (hb2.mono hb1.size); have Q2 := tr_bl hb2 Q1; have p0 := o0.below hb2; have p1 := o1.below hb2)
   refine HK.out _ _ ?_
   clear HK
   refine seqH (fun K HK => ?_)
   go_wp2
   refine HK.out _ _ ?_
   clear HK
   clear Q1 o0 o1 hb1 hb2 hlo hop
   rcases (show i = 0 ∨ i = 1 by omega) with rfl | rfl
   ·rw [if_neg (by omega)]
    refine seqH (fun K HK => ?_)
    go_wp2_with fail
    have hbd := (Below.refl w2.heap.size w2).drew
    have Q3 := tr_bl hbd Q2
    have o3 := p0.below hbd
    have hb4 := hb3.trans (hbd.mono hb3.size)
    refine wp_region_held_drew (S := fun w' => w'.heap[q]? = some (.cells (ceA g rep reg c0.st c0.tg (.slice a0 c0.body.length k0) c1.st c1.tg (.slice a1 c1.body.length k1)) 181 (0, 0))) (by kernel_rfl) Q3 (fun hS0 => ?_)
    clear hbd Q2 hb3
    generalize w2.drew = x0 at *
    refine tkT 0 rfl (by intro wS hSw; go_simp; (try with_reducible rfl)) ?_
    refine tkT 1 rfl (by intro wS hSw; go_simp; (try with_reducible rfl)) ?_
    refine tkT 2 rfl (by intro wS hSw; go_simp; (try with_reducible rfl)) ?_
    refine tkT 3 rfl (by intro wS hSw; go_simp; (try with_reducible rfl)) ?_
    refine tkT 4 rfl (by intro wS hSw; go_simp; (try with_reducible rfl)) ?_
    refine tkT 5 rfl (by intro wS hSw; go_simp; (try with_reducible rfl)) ?_
    refine tkT 6 rfl (by intro wS hSw; go_simp; (try with_reducible rfl)) ?_
    refine tkT 7 rfl (by intro wS hSw; have c := ceA_7 hSw; go_simp; (try with_reducible rfl)) ?_
    refine tkT 8 rfl (by intro wS hSw; go_simp; (try with_reducible rfl)) ?_
    refine tkT 9 rfl (by intro wS hSw; go_simp; (try with_reducible rfl)) ?_
    refine tkT 10 rfl (by intro wS hSw; go_simp; (try with_reducible rfl)) ?_
    refine tkT 11 rfl (by intro wS hSw; go_simp; (try with_reducible rfl)) ?_
    refine tkT 12 rfl (by intro wS hSw; go_simp; (try with_reducible rfl)) ?_
    refine tkT 13 rfl (by intro wS hSw; go_simp; (try with_reducible rfl)) ?_
    refine tkT 14 rfl (by intro wS hSw; have c := ceA_9 hSw; go_simp; (try with_reducible rfl)) ?_
    refine tkT 15 rfl (by intro wS hSw; go_simp; (try with_reducible rfl)) ?_
    refine tkT 16 rfl (by intro wS hSw; go_simp; (try with_reducible rfl)) ?_
    refine tkT 17 rfl (by intro wS hSw; go_simp; (try with_reducible rfl)) ?_
    refine wpAnyH_done (by kernel_rfl) ?_ _
    refine HK.out _ _ ?_
    clear HK
    go_wp2
    go_ret3
    exact ⟨⟨_, _, rfl, o3⟩, hb4⟩
   ·rw [if_pos rfl]
    refine seqH (fun K HK => ?_)
    go_wp2_with fail
    have hbd := (Below.refl w2.heap.size w2).drew
    have Q3 := tr_bl hbd Q2
    have o3 := p1.below hbd
    have hb4 := hb3.trans (hbd.mono hb3.size)
    refine wp_region_held_drew (S := fun w' => w'.heap[q]? = some (.cells (ceA g rep reg c0.st c0.tg (.slice a0 c0.body.length k0) c1.st c1.tg (.slice a1 c1.body.length k1)) 181 (0, 0))) (by kernel_rfl) Q3 (fun hS0 => ?_)
    clear hbd Q2 hb3
    generalize w2.drew = x0 at *
    refine tkT 0 rfl (by intro wS hSw; go_simp; (try with_reducible rfl)) ?_
    refine tkT 1 rfl (by intro wS hSw; go_simp; (try with_reducible rfl)) ?_
    refine tkT 2 rfl (by intro wS hSw; go_simp; (try with_reducible rfl)) ?_
    refine tkT 3 rfl (by intro wS hSw; go_simp; (try with_reducible rfl)) ?_
    refine tkT 4 rfl (by intro wS hSw; go_simp; (try with_reducible rfl)) ?_
    refine tkT 5 rfl (by intro wS hSw; go_simp; (try with_reducible rfl)) ?_
    refine tkT 6 rfl (by intro wS hSw; go_simp; (try with_reducible rfl)) ?_
    refine tkT 7 rfl (by intro wS hSw; have c := ceA_14 hSw; go_simp; (try with_reducible rfl)) ?_
    refine tkT 8 rfl (by intro wS hSw; go_simp; (try with_reducible rfl)) ?_
    refine tkT 9 rfl (by intro wS hSw; go_simp; (try with_reducible rfl)) ?_
    refine tkT 10 rfl (by intro wS hSw; go_simp; (try with_reducible rfl)) ?_
    refine tkT 11 rfl (by intro wS hSw; go_simp; (try with_reducible rfl)) ?_
    refine tkT 12 rfl (by intro wS hSw; go_simp; (try with_reducible rfl)) ?_
    refine tkT 13 rfl (by intro wS hSw; go_simp; (try with_reducible rfl)) ?_
    refine tkT 14 rfl (by intro wS hSw; have c := ceA_16 hSw; go_simp; (try with_reducible rfl)) ?_
    refine tkT 15 rfl (by intro wS hSw; go_simp; (try with_reducible rfl)) ?_
    refine tkT 16 rfl (by intro wS hSw; go_simp; (try with_reducible rfl)) ?_
    refine tkT 17 rfl (by intro wS hSw; go_simp; (try with_reducible rfl)) ?_
    refine wpAnyH_done (by kernel_rfl) ?_ _
    refine HK.out _ _ ?_
    clear HK
    go_wp2
    go_ret3
    exact ⟨⟨_, _, rfl, o3⟩, hb4⟩
end
end Go.Proofs.YtbdonjenekhmdaaGreatDoor
namespace Go.Proofs.YtbdonjenekhmdaaGreatDoor
open Go.RowKit
section
variable {B g gp : Nat} {wv : Value} {d : Dk} {w : World}
theorem copen_w (h : DiskB B g gp wv d w) (rep reg : Int) : Calls Tryz.prog 97 #[.pointer (some ⟨g, 0, none⟩), .int .i64 rep, .int .i64 reg] w fun e w' => (∃ p, e = .returned (.tuple #[.pointer p, .int .i64 (openC d rep reg)])) ∧ Below w.heap.size w w' := by
 by_cases ho : openC d rep reg = 0
 ·refine (copen_good h rep reg ho).mono ?_
  rintro e w' ⟨⟨q, _, _, _, _, rfl, _⟩, hb⟩
  exact ⟨⟨_, by rw [ho]⟩, hb⟩
 ·refine (copen_bad h rep reg ho).mono ?_
  rintro e w' ⟨rfl, hb⟩
  exact ⟨⟨_, rfl⟩, hb⟩
theorem loaded_ok {c0 c1 : Cp} {i : Nat} {ok : Bool} {er : Int} (h : loadedC c0 c1 = (i, ok, er)) : i < 2 ∧ (ok = false → i = 0) ∧ (ok = true → er = 0) := by
 have hlt := loaded_lt c0 c1
 rw [h] at hlt
 refine ⟨hlt, ?_, ?_⟩
 all_goals
  rintro rfl
  unfold loadedC at h
  split at h
  ·cases h <;> rfl
  ·split at h
   ·cases h <;> rfl
   ·split at h <;> cases h <;> rfl
theorem flush_waits {d : Dk} (h : (flushD d).2 = 0) : (flushD d).1.waits = [] := by
 unfold flushD at h ⊢
 by_cases h0 : live0 d = 0
 ·rw [if_neg (by simpa using h0)] at h ⊢
  by_cases h1 : (spendD d).2 = 0
  ·rw [if_neg (by simpa using h1)]
  ·rw [if_pos h1] at h
   exact absurd h h1
 ·rw [if_pos h0] at h
  exact absurd h h0
theorem put_waits {d : Dk} {t : Tg} {body : List UInt8} (h : (putC d t body).2 = 0) : (putC d t body).1.waits = [] := by
 unfold putC at h ⊢
 by_cases h0 : (writeD d (firstN t.reg t.pla) (sealF t body 64)).2 = 0
 ·rw [if_neg (by simpa using h0)] at h ⊢
  exact flush_waits h
 ·rw [if_pos h0] at h
  exact absurd h h0
set_option maxRecDepth 100000 in
set_option maxHeartbeats 4000000 in
theorem cstore_err (h : DiskB B g gp wv d w) (hb : B ≤ w.heap.size) (rep reg inc : Int) (a : Option Addr) (c : Nat) (body : List UInt8) (hl : body.length ≤ 1000) (hx : openC d rep reg ≠ 0 ∨ inc < 1 ∨ 1099511627776 < inc ∨ 43 < body.length) :
  Calls Tryz.prog 46 #[.pointer (some ⟨g, 0, none⟩), .int .i64 rep, .int .i64 reg, .int .i64 inc, .slice a body.length c] w fun e w' => e = .returned (.int .i64 (storeC d rep reg inc body).2) ∧ (∃ wv', DiskB B g gp wv' (storeC d rep reg inc body).1 w') ∧ Kt B w w' := by
 have hop := copen_w h rep reg
 unfold storeC
 simp only
 generalize openC d rep reg = x at *
 by_cases h1 : x ≠ 0 ∧ x ≠ 5
 case pos =>
  rw [if_pos h1]
  have e1 : (x != 0) = true := by rw [bne_iff_ne]; exact h1.1
  have e2 : (x != 5) = true := by rw [bne_iff_ne]; exact h1.2
  clear h1 hx
  go_enter Tryz.func46, Tryz.ntmps46
  go_wp2_with (first
   | (go_at_call 97; refine hop.mono ?_; rintro e w1 ⟨⟨p, rfl⟩, hb1⟩)
   | (go_at_call 116; refine (room_any 1 _).mono ?_; rintro e w2 ⟨rfl, rfl⟩))
  go_ret
  exact ⟨rfl, ⟨_, h.below hb1⟩, Kt.of hb1 hb⟩
 case neg =>
  rw [if_neg h1]
  have hx2 : x = 0 ∨ x = 5 := by omega
  clear h1
  by_cases h2 : inc < 1
  case pos =>
   rw [if_pos (.inl h2)]
   clear hx
   rcases hx2 with rfl | rfl
   ·skip
    go_enter Tryz.func46, Tryz.ntmps46
    go_wp2_with (first
     | (go_at_call 97; refine hop.mono ?_; rintro e w1 ⟨⟨p, rfl⟩, hb1⟩)
     | (go_at_call 116; refine (room_any 1 _).mono ?_; rintro e w2 ⟨rfl, rfl⟩))
    go_ret
    exact ⟨rfl, ⟨_, h.below hb1⟩, Kt.of hb1 hb⟩
   ·skip
    go_enter Tryz.func46, Tryz.ntmps46
    go_wp2_with (first
     | (go_at_call 97; refine hop.mono ?_; rintro e w1 ⟨⟨p, rfl⟩, hb1⟩)
     | (go_at_call 116; refine (room_any 1 _).mono ?_; rintro e w2 ⟨rfl, rfl⟩))
    go_ret
    exact ⟨rfl, ⟨_, h.below hb1⟩, Kt.of hb1 hb⟩
  case neg =>
   by_cases h3 : 1099511627776 < inc
   case pos =>
    rw [if_pos (.inr h3)]
    clear hx
    rcases hx2 with rfl | rfl
    ·skip
     go_enter Tryz.func46, Tryz.ntmps46
     go_wp2_with (first
      | (go_at_call 97; refine hop.mono ?_; rintro e w1 ⟨⟨p, rfl⟩, hb1⟩)
      | (go_at_call 116; refine (room_any 1 _).mono ?_; rintro e w2 ⟨rfl, rfl⟩))
     go_ret
     exact ⟨rfl, ⟨_, h.below hb1⟩, Kt.of hb1 hb⟩
    ·skip
     go_enter Tryz.func46, Tryz.ntmps46
     go_wp2_with (first
      | (go_at_call 97; refine hop.mono ?_; rintro e w1 ⟨⟨p, rfl⟩, hb1⟩)
      | (go_at_call 116; refine (room_any 1 _).mono ?_; rintro e w2 ⟨rfl, rfl⟩))
     go_ret
     exact ⟨rfl, ⟨_, h.below hb1⟩, Kt.of hb1 hb⟩
   case neg =>
    rw [if_neg (by omega)]
    by_cases h4 : 43 < body.length
    case pos =>
     rw [if_pos h4]
     have h4i : (43 : Int) < body.length := by omega
     clear hx
     rcases hx2 with rfl | rfl
     ·skip
      go_enter Tryz.func46, Tryz.ntmps46
      go_wp2_with (first
       | (go_at_call 97; refine hop.mono ?_; rintro e w1 ⟨⟨p, rfl⟩, hb1⟩)
       | (go_at_call 116; refine (room_any 1 _).mono ?_; rintro e w2 ⟨rfl, rfl⟩))
      go_ret
      exact ⟨rfl, ⟨_, h.below hb1⟩, Kt.of hb1 hb⟩
     ·skip
      go_enter Tryz.func46, Tryz.ntmps46
      go_wp2_with (first
       | (go_at_call 97; refine hop.mono ?_; rintro e w1 ⟨⟨p, rfl⟩, hb1⟩)
       | (go_at_call 116; refine (room_any 1 _).mono ?_; rintro e w2 ⟨rfl, rfl⟩))
      go_ret
      exact ⟨rfl, ⟨_, h.below hb1⟩, Kt.of hb1 hb⟩
    case neg =>
     rw [if_neg h4]
     have h4i : ¬ (43 : Int) < body.length := by omega
     rcases hx2 with rfl | rfl
     ·exfalso
      omega
     ·rw [if_pos (by decide)]
      clear hx
      go_enter Tryz.func46, Tryz.ntmps46
      go_wp2_with (first
       | (go_at_call 97; refine hop.mono ?_; rintro e w1 ⟨⟨p, rfl⟩, hb1⟩)
       | (go_at_call 116; refine (room_any 1 _).mono ?_; rintro e w2 ⟨rfl, rfl⟩))
      go_ret
      exact ⟨rfl, ⟨_, h.below hb1⟩, Kt.of hb1 hb⟩
end
end Go.Proofs.YtbdonjenekhmdaaGreatDoor
namespace Go.Proofs.YtbdonjenekhmdaaGreatDoor
open Go.RowKit
section
variable {B g gp : Nat} {wv : Value} {d : Dk} {w : World}
theorem room1 (w : World) : Calls Tryz.prog 116 #[.int .i64 1] w fun e w' => e = .returned (.int .i64 43) ∧ w = w' := room_any 1 w
set_option maxRecDepth 100000 in
set_option maxHeartbeats 8000000 in
theorem cstore_ok (h : DiskB B g gp wv d w) (hb : B ≤ w.heap.size) (rep reg inc : Int) (a : Option Addr) (c : Nat) (body : List UInt8) (hs : ∀ w', Kt B w w' → SlB w' a c body) (ho : openC d rep reg = 0) (hi1 : 1 ≤ inc) (hi2 : inc ≤ 1099511627776) (hl43 : body.length ≤ 43) (hw : d.waits.length ≤ 1000) :
  Calls Tryz.prog 46 #[.pointer (some ⟨g, 0, none⟩), .int .i64 rep, .int .i64 reg, .int .i64 inc, .slice a body.length c] w fun e w' => e = .returned (.int .i64 (storeC d rep reg inc body).2) ∧ (∃ wv', DiskB B g gp wv' (storeC d rep reg inc body).1 w') ∧ Kt B w w' := by
 have hop := copen_good h rep reg ho
 obtain ⟨hrg, hrp⟩ : (reg = 1 ∨ reg = 2) ∧ (0 ≤ rep ∧ rep ≤ 6) := by
  unfold openC at ho
  split at ho
  ·cases ho
  ·split at ho
   ·cases ho
   ·omega
 unfold storeC
 rw [ho]
 simp only [ne_eq, not_true, false_and, if_false]
 rw [if_neg (by omega), if_neg (by omega)]
 unfold pickC
 have hi0 := copy_idx h rep reg 0
 have hi1' := copy_idx h rep reg 1
 generalize copyC d rep reg 0 = c0 at *
 generalize copyC d rep reg 1 = c1 at *
 have hlo := fun q a0 n0 k0 a1 n1 k1 w => loaded_any q g rep reg c0 c1 a0 a1 n0 k0 n1 k1 w
 obtain ⟨i, ok, er, hld⟩ : ∃ i ok er, loadedC c0 c1 = (i, ok, er) := ⟨_, _, _, rfl⟩
 obtain ⟨hlt, hlf, hle⟩ := loaded_ok hld
 simp only [hld] at hlo ⊢
 clear hld ho
 have hlb : ¬ (43 : Int) < body.length := by omega
 by_cases her : er = 0
 case neg =>
  rw [if_pos her]
  have e1 : (er != 0) = true := by rw [bne_iff_ne]; exact her
  clear her
  go_enter Tryz.func46, Tryz.ntmps46
  refine seqH (fun K HK => ?_)
  go_wp2
  refine HK.out _ _ ?_
  clear HK
  refine seqH (fun K HK => ?_)
  go_wp2_with (go_at_call 97; refine hop.mono ?_; rintro e w1 ⟨⟨q, a0, k0, a1, k1, rfl, hq, Q1, o0, o1⟩, hb1⟩)
  refine HK.out _ _ ?_
  clear HK
  refine seqH (fun K HK => ?_)
  go_wp2_with (go_at_call 116; refine (room1 _).mono ?_; rintro e w2 ⟨rfl, rfl⟩)
  refine HK.out _ _ ?_
  clear HK
  refine seqH (fun K HK => ?_)
  go_wp2_with (go_at_call 98; refine (hlo q a0 _ k0 a1 _ k1 _ Q1).mono ?_; rintro e w2 ⟨rfl, hb2⟩)
  refine HK.out _ _ ?_
  clear HK
  have Q2 := tr_bl hb2 Q1
  have hb3 := hb1.trans (hb2.mono hb1.size)
  have hd3 := h.below hb3
  have hk3 := Kt.of hb3 hb
  have hB3 := Nat.le_trans hb hk3.bl.size
  clear Q1 o0 o1 hb1 hb2 hlo hop
  go_wp2
  go_ret
  exact ⟨rfl, ⟨_, hd3⟩, hk3⟩
 case pos =>
  subst her
  rw [if_neg (by simp)]
  have z01 : ((0 : Nat) = 1) = False := by simp
  have z11 : ((1 : Nat) = 1) = True := by simp
  have zft : (false = true) = False := by simp
  cases ok
  case false =>
   obtain rfl := hlf rfl
   simp only [z01, zft, if_false, show (1 : Int) - 0 = 1 from rfl]
   clear z01 z11 zft hlf hle
   go_enter Tryz.func46, Tryz.ntmps46
   refine seqH (fun K HK => ?_)
   go_wp2
   refine HK.out _ _ ?_
   clear HK
   refine seqH (fun K HK => ?_)
   go_wp2_with (go_at_call 97; refine hop.mono ?_; rintro e w1 ⟨⟨q, a0, k0, a1, k1, rfl, hq, Q1, o0, o1⟩, hb1⟩)
   refine HK.out _ _ ?_
   clear HK
   refine seqH (fun K HK => ?_)
   go_wp2_with (go_at_call 116; refine (room1 _).mono ?_; rintro e w2 ⟨rfl, rfl⟩)
   refine HK.out _ _ ?_
   clear HK
   refine seqH (fun K HK => ?_)
   go_wp2_with (go_at_call 98; refine (hlo q a0 _ k0 a1 _ k1 _ Q1).mono ?_; rintro e w2 ⟨rfl, hb2⟩)
   refine HK.out _ _ ?_
   clear HK
   have Q2 := tr_bl hb2 Q1
   have hb3 := hb1.trans (hb2.mono hb1.size)
   have hd3 := h.below hb3
   have hk3 := Kt.of hb3 hb
   have hB3 := Nat.le_trans hb hk3.bl.size
   clear Q1 o0 o1 hb1 hb2 hlo hop
   have cx := ceA_7 Q2
   by_cases hv : 1099511627776 < c0.tg.idx + 1
   case pos =>
    rw [if_pos hv]
    go_wp2
    go_ret
    exact ⟨rfl, ⟨_, hd3⟩, hk3⟩
   case neg =>
    rw [if_neg hv]
    have hm1 := may_cell2 (rep := rep) (reg := reg) (v := c0.tg.idx + 1) (c := inc) (i := 0) hrp hrg (by omega) (by omega) (by omega) hi1 hi2
    have hm2 := may_cell2 (rep := rep) (reg := reg) (v := c0.tg.idx + 1) (c := inc) (i := 1) hrp hrg (by omega) (by omega) (by omega) hi1 hi2
    simp only [Int.natCast_zero, Int.natCast_one] at hm1 hm2
    have hput := cput_any hd3 hB3 q rep reg _ _ _ _ _ _ Q2 0 (c0.tg.idx + 1) inc hm1 a c body (hs _ hk3) hl43 (by omega)
    obtain ⟨d1, r1, hp1⟩ : ∃ d1 r1, putC d ⟨rep, reg, 0, c0.tg.idx + 1, inc⟩ body = (d1, r1) := ⟨_, _, rfl⟩
    rw [hp1] at hput ⊢
    simp only at hput ⊢
    have hwt := @put_waits d ⟨rep, reg, 0, c0.tg.idx + 1, inc⟩ body
    rw [hp1] at hwt
    have HW := Lib.hid hwt
    clear hwt hp1 hm1
    have hvn : c0.tg.idx + 1 ≤ 1099511627776 := by omega
    refine seqH (fun K HK => ?_)
    go_wp2
    refine HK.out _ _ ?_
    clear HK
    refine seqH (fun K HK => ?_)
    go_wp2
    refine HK.out _ _ ?_
    clear HK
    refine seqH (fun K HK => ?_)
    go_wp2
    refine HK.out _ _ ?_
    clear HK
    refine seqH (fun K HK => ?_)
    go_wp2
    refine HK.out _ _ ?_
    clear HK
    refine seqH (fun K HK => ?_)
    go_wp2
    refine HK.out _ _ ?_
    clear HK
    refine seqH (fun K HK => ?_)
    refine seqH (fun K HK2 => ?_)
    go_wp2_with (go_at_call 101; refine hput.mono ?_; rintro e w5 ⟨rfl, ⟨wv5, hd5⟩, hk5⟩)
    refine HK2.out _ _ ?_
    clear HK2 hput
    have Q5 := hk5.ty _ _ _ Q2 (by decide) (by decide) (by decide)
    have hk6 := hk3.trans hk5
    have hB6 := Nat.le_trans hb hk6.bl.size
    by_cases hr1 : r1 = 0
    case neg =>
     rw [if_pos hr1]
     have e1 : (r1 != 0) = true := by rw [bne_iff_ne]; exact hr1
     go_wp2
     go_ret
     exact ⟨rfl, ⟨_, hd5⟩, hk6⟩
    case pos =>
     subst hr1
     rw [if_neg (by simp)]
     have hput2 := cput_any hd5 hB6 q rep reg _ _ _ _ _ _ Q5 1 (c0.tg.idx + 1) inc hm2 a c body (hs _ hk6) hl43 (by rw [HW.out rfl]; simp)
     go_wp2
     refine HK.out _ _ ?_
     clear HK
     go_wp2_with (go_at_call 101; refine hput2.mono ?_; rintro e w7 ⟨rfl, hd7, hk7⟩)
     go_ret
     exact ⟨rfl, hd7, hk6.trans hk7⟩
  case true =>
   clear hlf hle
   rcases (show i = 0 ∨ i = 1 by omega) with rfl | rfl
   ·simp only [z01, if_false, if_true, show (1 : Int) - ((0 : Nat) : Int) = 1 from rfl, show (1 : Int) - 1 = 0 from rfl]
    clear z01 z11 zft
    go_enter Tryz.func46, Tryz.ntmps46
    refine seqH (fun K HK => ?_)
    go_wp2
    refine HK.out _ _ ?_
    clear HK
    refine seqH (fun K HK => ?_)
    go_wp2_with (go_at_call 97; refine hop.mono ?_; rintro e w1 ⟨⟨q, a0, k0, a1, k1, rfl, hq, Q1, o0, o1⟩, hb1⟩)
    refine HK.out _ _ ?_
    clear HK
    refine seqH (fun K HK => ?_)
    go_wp2_with (go_at_call 116; refine (room1 _).mono ?_; rintro e w2 ⟨rfl, rfl⟩)
    refine HK.out _ _ ?_
    clear HK
    refine seqH (fun K HK => ?_)
    go_wp2_with (go_at_call 98; refine (hlo q a0 _ k0 a1 _ k1 _ Q1).mono ?_; rintro e w2 ⟨rfl, hb2⟩)
    refine HK.out _ _ ?_
    clear HK
    have Q2 := tr_bl hb2 Q1
    have hb3 := hb1.trans (hb2.mono hb1.size)
    have hd3 := h.below hb3
    have hk3 := Kt.of hb3 hb
    have hB3 := Nat.le_trans hb hk3.bl.size
    clear Q1 o0 o1 hb1 hb2 hlo hop
    have cx := ceA_7 Q2
    by_cases hv : 1099511627776 < c0.tg.idx + 1
    case pos =>
     rw [if_pos hv]
     go_wp2
     go_ret
     exact ⟨rfl, ⟨_, hd3⟩, hk3⟩
    case neg =>
     rw [if_neg hv]
     have hm1 := may_cell2 (rep := rep) (reg := reg) (v := c0.tg.idx + 1) (c := inc) (i := 1) hrp hrg (by omega) (by omega) (by omega) hi1 hi2
     have hm2 := may_cell2 (rep := rep) (reg := reg) (v := c0.tg.idx + 1) (c := inc) (i := 0) hrp hrg (by omega) (by omega) (by omega) hi1 hi2
     simp only [Int.natCast_zero, Int.natCast_one] at hm1 hm2
     have hput := cput_any hd3 hB3 q rep reg _ _ _ _ _ _ Q2 1 (c0.tg.idx + 1) inc hm1 a c body (hs _ hk3) hl43 (by omega)
     obtain ⟨d1, r1, hp1⟩ : ∃ d1 r1, putC d ⟨rep, reg, 1, c0.tg.idx + 1, inc⟩ body = (d1, r1) := ⟨_, _, rfl⟩
     rw [hp1] at hput ⊢
     simp only at hput ⊢
     have hwt := @put_waits d ⟨rep, reg, 1, c0.tg.idx + 1, inc⟩ body
     rw [hp1] at hwt
     have HW := Lib.hid hwt
     clear hwt hp1 hm1
     have hvn : c0.tg.idx + 1 ≤ 1099511627776 := by omega
     refine seqH (fun K HK => ?_)
     go_wp2
     refine HK.out _ _ ?_
     clear HK
     refine seqH (fun K HK => ?_)
     go_wp2
     refine HK.out _ _ ?_
     clear HK
     refine seqH (fun K HK => ?_)
     go_wp2
     refine HK.out _ _ ?_
     clear HK
     refine seqH (fun K HK => ?_)
     go_wp2
     refine HK.out _ _ ?_
     clear HK
     refine seqH (fun K HK => ?_)
     go_wp2
     refine HK.out _ _ ?_
     clear HK
     refine seqH (fun K HK => ?_)
     refine seqH (fun K HK2 => ?_)
     go_wp2_with (go_at_call 101; refine hput.mono ?_; rintro e w5 ⟨rfl, ⟨wv5, hd5⟩, hk5⟩)
     refine HK2.out _ _ ?_
     clear HK2 hput
     have Q5 := hk5.ty _ _ _ Q2 (by decide) (by decide) (by decide)
     have hk6 := hk3.trans hk5
     have hB6 := Nat.le_trans hb hk6.bl.size
     by_cases hr1 : r1 = 0
     case neg =>
      rw [if_pos hr1]
      have e1 : (r1 != 0) = true := by rw [bne_iff_ne]; exact hr1
      go_wp2
      go_ret
      exact ⟨rfl, ⟨_, hd5⟩, hk6⟩
     case pos =>
      subst hr1
      rw [if_neg (by simp)]
      have hput2 := cput_any hd5 hB6 q rep reg _ _ _ _ _ _ Q5 0 (c0.tg.idx + 1) inc hm2 a c body (hs _ hk6) hl43 (by rw [HW.out rfl]; simp)
      go_wp2
      refine HK.out _ _ ?_
      clear HK
      go_wp2_with (go_at_call 101; refine hput2.mono ?_; rintro e w7 ⟨rfl, hd7, hk7⟩)
      go_ret
      exact ⟨rfl, hd7, hk6.trans hk7⟩
   ·simp only [if_true, show (1 : Int) - ((1 : Nat) : Int) = 0 from rfl, show (1 : Int) - 0 = 1 from rfl]
    clear z01 z11 zft
    go_enter Tryz.func46, Tryz.ntmps46
    refine seqH (fun K HK => ?_)
    go_wp2
    refine HK.out _ _ ?_
    clear HK
    refine seqH (fun K HK => ?_)
    go_wp2_with (go_at_call 97; refine hop.mono ?_; rintro e w1 ⟨⟨q, a0, k0, a1, k1, rfl, hq, Q1, o0, o1⟩, hb1⟩)
    refine HK.out _ _ ?_
    clear HK
    refine seqH (fun K HK => ?_)
    go_wp2_with (go_at_call 116; refine (room1 _).mono ?_; rintro e w2 ⟨rfl, rfl⟩)
    refine HK.out _ _ ?_
    clear HK
    refine seqH (fun K HK => ?_)
    go_wp2_with (go_at_call 98; refine (hlo q a0 _ k0 a1 _ k1 _ Q1).mono ?_; rintro e w2 ⟨rfl, hb2⟩)
    refine HK.out _ _ ?_
    clear HK
    have Q2 := tr_bl hb2 Q1
    have hb3 := hb1.trans (hb2.mono hb1.size)
    have hd3 := h.below hb3
    have hk3 := Kt.of hb3 hb
    have hB3 := Nat.le_trans hb hk3.bl.size
    clear Q1 o0 o1 hb1 hb2 hlo hop
    have cx := ceA_14 Q2
    by_cases hv : 1099511627776 < c1.tg.idx + 1
    case pos =>
     rw [if_pos hv]
     go_wp2
     go_ret
     exact ⟨rfl, ⟨_, hd3⟩, hk3⟩
    case neg =>
     rw [if_neg hv]
     have hm1 := may_cell2 (rep := rep) (reg := reg) (v := c1.tg.idx + 1) (c := inc) (i := 0) hrp hrg (by omega) (by omega) (by omega) hi1 hi2
     have hm2 := may_cell2 (rep := rep) (reg := reg) (v := c1.tg.idx + 1) (c := inc) (i := 1) hrp hrg (by omega) (by omega) (by omega) hi1 hi2
     simp only [Int.natCast_zero, Int.natCast_one] at hm1 hm2
     have hput := cput_any hd3 hB3 q rep reg _ _ _ _ _ _ Q2 0 (c1.tg.idx + 1) inc hm1 a c body (hs _ hk3) hl43 (by omega)
     obtain ⟨d1, r1, hp1⟩ : ∃ d1 r1, putC d ⟨rep, reg, 0, c1.tg.idx + 1, inc⟩ body = (d1, r1) := ⟨_, _, rfl⟩
     rw [hp1] at hput ⊢
     simp only at hput ⊢
     have hwt := @put_waits d ⟨rep, reg, 0, c1.tg.idx + 1, inc⟩ body
     rw [hp1] at hwt
     have HW := Lib.hid hwt
     clear hwt hp1 hm1
     have hvn : c1.tg.idx + 1 ≤ 1099511627776 := by omega
     refine seqH (fun K HK => ?_)
     go_wp2
     refine HK.out _ _ ?_
     clear HK
     refine seqH (fun K HK => ?_)
     go_wp2
     refine HK.out _ _ ?_
     clear HK
     refine seqH (fun K HK => ?_)
     go_wp2
     refine HK.out _ _ ?_
     clear HK
     refine seqH (fun K HK => ?_)
     go_wp2
     refine HK.out _ _ ?_
     clear HK
     refine seqH (fun K HK => ?_)
     go_wp2
     refine HK.out _ _ ?_
     clear HK
     refine seqH (fun K HK => ?_)
     refine seqH (fun K HK2 => ?_)
     go_wp2_with (go_at_call 101; refine hput.mono ?_; rintro e w5 ⟨rfl, ⟨wv5, hd5⟩, hk5⟩)
     refine HK2.out _ _ ?_
     clear HK2 hput
     have Q5 := hk5.ty _ _ _ Q2 (by decide) (by decide) (by decide)
     have hk6 := hk3.trans hk5
     have hB6 := Nat.le_trans hb hk6.bl.size
     by_cases hr1 : r1 = 0
     case neg =>
      rw [if_pos hr1]
      have e1 : (r1 != 0) = true := by rw [bne_iff_ne]; exact hr1
      go_wp2
      go_ret
      exact ⟨rfl, ⟨_, hd5⟩, hk6⟩
     case pos =>
      subst hr1
      rw [if_neg (by simp)]
      have hput2 := cput_any hd5 hB6 q rep reg _ _ _ _ _ _ Q5 1 (c1.tg.idx + 1) inc hm2 a c body (hs _ hk6) hl43 (by rw [HW.out rfl]; simp)
      go_wp2
      refine HK.out _ _ ?_
      clear HK
      go_wp2_with (go_at_call 101; refine hput2.mono ?_; rintro e w7 ⟨rfl, hd7, hk7⟩)
      go_ret
      exact ⟨rfl, hd7, hk6.trans hk7⟩
end
end Go.Proofs.YtbdonjenekhmdaaGreatDoor
