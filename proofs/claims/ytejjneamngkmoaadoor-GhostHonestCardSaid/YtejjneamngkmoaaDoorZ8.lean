/- Texts that the claim leans on, part 8: X6, X7, X8, X9, D42, D43, D44, D45. -/
import Derived.Test.YtejjneamngkmoaaDoorZ1
import Derived.Test.YtejjneamngkmoaaDoorZ2
import Derived.Test.YtejjneamngkmoaaDoorZ3
import Derived.Test.YtejjneamngkmoaaDoorZ4
import Derived.Test.YtejjneamngkmoaaDoorZ5
import Derived.Test.YtejjneamngkmoaaDoorZ6
import Derived.Test.YtejjneamngkmoaaDoorZ7
import Derived.Test.YtejjneamngkmoaaDoorRows
import Derived.WalkKit
import Derived.WalkSpells
import Derived.WalkLawsBesides
import Derived.Handy
import Derived.Deep.QuietTactic
import Derived.BigQuiet
import Derived.Deep.DeepCutAuto
import Derived.Lib.Hide
import Derived.RegionTactic
import Derived.ChangeAlike
import Derived.Laws.ResultCell
import Derived.Outline
import Derived.Laws.IdiomStrings
import Derived.Laws.BytesArg
import Derived.Laws.MakeOwn
import Derived.Lib.SliceRun
import Derived.Laws.BitsAllLaws
import Derived.Great.BuildSlice
import Derived.Great.FillDense
import Derived.Laws.Rows
import Derived.Deep.Quiet
import Derived.Deep.RegionHeld3
import Derived.ProofKit
import Derived.OpenShut
import Derived.Laws.CopyOwn
import Derived.Laws.CopyRow
import Derived.Laws.NewBlocks
import Derived.Deep.RegionLaw
namespace Go.Proofs.YtejjneamngkmoaaDoor

section
variable {d : Dk} {k j : Nat}
theorem read_live (h : Live d) (hj : j < 156) : readD d j = match d.pl[j]? with | none => ([], 2) | some p => if p.lost = true then ([], 50) else (p.rest, 0) := by
  unfold readD
  rw [live_at h hj, h.w]
  rfl
/-- A disk that is up, of whose places one is another. -/
theorem live_set (h : Live d) (p : Pl) (x : Int) : Live { d with pl := d.pl.set k p, waits := [], left := x } := ⟨by simp [h.len], rfl, h.dn, h.de⟩
theorem read_set (h : Live d) (p : Pl) (x : Int) (hj : j < 156) (hk : k < 156) : readD { d with pl := d.pl.set k p, waits := [], left := x } j = if j = k then (if p.lost = true then ([], 50) else (p.rest, 0)) else readD d j := by
  rw [read_live (live_set h p x) hj, read_live h hj]
  by_cases e : j = k
  · subst e
    simp [List.getElem?_set_self (show j < d.pl.length by rw [h.len]; exact hj)]
  · rw [if_neg e]
    simp only
    rw [List.getElem?_set_ne (Ne.symm e)]
end

/-- What is written to a place, and comes through. -/
def putP (d : Dk) (k : Nat) (f : List UInt8) : Dk := { d with pl := d.pl.set k ⟨f, f, false⟩, waits := [], left := (if 0 < d.left then d.left - 2 else d.left) }
theorem putP_live {d : Dk} (h : Live d) (k : Nat) (f : List UInt8) : Live (putP d k f) := live_set h _ _
theorem putP_read {d : Dk} (h : Live d) {k j : Nat} (f : List UInt8) (hj : j < 156) (hk : k < 156) : readD (putP d k f) j = if j = k then (f, 0) else readD d j := by
  unfold putP
  rw [read_set h _ _ hj hk]
  rfl
theorem putP_left (d : Dk) (k : Nat) (f : List UInt8) : (putP d k f).left = if 0 < d.left then d.left - 2 else d.left := rfl

/-! Places of a cell. -/
def secC (reg : Int) (i : Nat) : Nat := (if reg = 1 then 0 else 2) + i
theorem sec_first {reg : Int} (hr : reg = 1 ∨ reg = 2) {i : Nat} (hi : i < 2) : firstN reg (i : Int) = ((secC reg i : Nat) : Int) ∧ secC reg i < 4 := by
  rcases hr with rfl | rfl <;> rcases (show i = 0 ∨ i = 1 by omega) with rfl | rfl <;> decide
def cop (d : Dk) (rep reg : Int) (i : Nat) : Cp := ⟨(mineF (readD d (secC reg i)).1 rep reg i).1, (mineF (readD d (secC reg i)).1 rep reg i).2.1, (mineF (readD d (secC reg i)).1 rep reg i).2.2⟩
theorem copy_cop {d : Dk} {rep reg : Int} (hr : reg = 1 ∨ reg = 2) : copyC d rep reg 0 = cop d rep reg 0 ∧ copyC d rep reg 1 = cop d rep reg 1 := by
  have a := (sec_first hr (i := 0) (by omega)).1
  have b := (sec_first hr (i := 1) (by omega)).1
  constructor
  · unfold copyC cop
    rw [← a]
    rfl
  · unfold copyC cop
    rw [← b]
    rfl
theorem cop_read {d d' : Dk} {rep reg : Int} {i : Nat} (h : readD d' (secC reg i) = readD d (secC reg i)) : cop d' rep reg i = cop d rep reg i := by unfold cop; rw [h]
theorem cop_frame {d : Dk} {rep reg v c : Int} {b : List UInt8} {i : Nat} {e : Int} (h : readD d (secC reg i) = (sealF ⟨rep, reg, i, v, c⟩ b 64, e)) (hm : mayTg ⟨rep, reg, i, v, c⟩ = true) (hb : b.length ≤ 43) : cop d rep reg i = ⟨1, ⟨rep, reg, i, v, c⟩, b⟩ := by
  unfold cop
  rw [h]
  simp only
  have := mine_seal (n := 64) hm (by decide) (show b.length ≤ roomN 64 from hb)
  simp only at this
  rw [this]
theorem cop_zero {d : Dk} {rep reg : Int} {i : Nat} {e : Int} (h : readD d (secC reg i) = (zeros64, e)) : cop d rep reg i = ⟨0, zeroTg, []⟩ := by
  unfold cop
  rw [h]
  rfl
theorem cop_none {d : Dk} {rep reg : Int} {i : Nat} {e : Int} (h : readD d (secC reg i) = ([], e)) : cop d rep reg i = ⟨2, zeroTg, []⟩ := by
  unfold cop
  rw [h]
  rfl
theorem may_cell2 {rep reg v c : Int} {i : Nat} (hp : 0 ≤ rep ∧ rep ≤ 6) (hr : reg = 1 ∨ reg = 2) (hi : i < 2) (h1 : 0 ≤ v) (h2 : v ≤ 1099511627776) (h3 : 1 ≤ c) (h4 : c ≤ 1099511627776) : mayTg ⟨rep, reg, i, v, c⟩ = true := by
  have hpl : placesN reg = 2 := by rcases hr with rfl | rfl <;> rfl
  have a2 : ((i : Nat) : Int) < 2 := by omega
  simp [mayTg, hpl, hp.1, hp.2, a2, h1, h2, h3, h4]
theorem open_live {d : Dk} {rep reg : Int} (h : Live d) (hp : 0 ≤ rep ∧ rep ≤ 6) (hr : reg = 1 ∨ reg = 2) : openC d rep reg = 0 := by
  have hu : upD d = true := by unfold upD; rw [h.len, h.dn, h.de]; rfl
  unfold openC
  rw [h.len, hu]
  have a : ¬ rep < 0 := by omega
  have b : ¬ 7 ≤ rep := by omega
  rcases hr with rfl | rfl <;> simp [a, b]
/-- A load, by what both copies are. -/
theorem load_live {d : Dk} {rep reg : Int} (h : Live d) (hp : 0 ≤ rep ∧ rep ≤ 6) (hr : reg = 1 ∨ reg = 2) : loadC d rep reg = if (loadedC (cop d rep reg 0) (cop d rep reg 1)).2.1 = false then (0, [], (loadedC (cop d rep reg 0) (cop d rep reg 1)).2.2) else ((pickC (cop d rep reg 0) (cop d rep reg 1)).tg.idx, (pickC (cop d rep reg 0) (cop d rep reg 1)).body, 0) := by
  unfold loadC
  rw [open_live h hp hr, (copy_cop hr).1, (copy_cop hr).2]
  simp

/-! A store: where there is power for all of it. -/
def firstP (c0 c1 : Cp) : Nat := if (loadedC c0 c1).2.1 = true then 1 - (loadedC c0 c1).1 else 0
theorem loaded_lt (c0 c1 : Cp) : (loadedC c0 c1).1 < 2 := by
  unfold loadedC
  split
  · simp
  · split
    · simp
    · split <;> simp
theorem firstP_lt (c0 c1 : Cp) : firstP c0 c1 < 2 := by unfold firstP; split <;> omega
section
variable {d : Dk} {rep reg inc : Int} {body : List UInt8}
theorem store_red (h : Live d) (hp : 0 ≤ rep ∧ rep ≤ 6) (hr : reg = 1 ∨ reg = 2) (hi : 1 ≤ inc ∧ inc ≤ 1099511627776) (hb : body.length ≤ 43) (he : (loadedC (cop d rep reg 0) (cop d rep reg 1)).2.2 = 0) (hv : (pickC (cop d rep reg 0) (cop d rep reg 1)).tg.idx + 1 ≤ 1099511627776) :
    storeC d rep reg inc body = (if (putC d ⟨rep, reg, (firstP (cop d rep reg 0) (cop d rep reg 1) : Nat), (pickC (cop d rep reg 0) (cop d rep reg 1)).tg.idx + 1, inc⟩ body).2 ≠ 0 then putC d ⟨rep, reg, (firstP (cop d rep reg 0) (cop d rep reg 1) : Nat), (pickC (cop d rep reg 0) (cop d rep reg 1)).tg.idx + 1, inc⟩ body
      else putC (putC d ⟨rep, reg, (firstP (cop d rep reg 0) (cop d rep reg 1) : Nat), (pickC (cop d rep reg 0) (cop d rep reg 1)).tg.idx + 1, inc⟩ body).1 ⟨rep, reg, ((1 - firstP (cop d rep reg 0) (cop d rep reg 1) : Nat) : Int), (pickC (cop d rep reg 0) (cop d rep reg 1)).tg.idx + 1, inc⟩ body) := by
  have hf : (if (loadedC (cop d rep reg 0) (cop d rep reg 1)).2.1 = true then 1 - ((loadedC (cop d rep reg 0) (cop d rep reg 1)).1 : Int) else 0) = ((firstP (cop d rep reg 0) (cop d rep reg 1) : Nat) : Int) := by
    have := loaded_lt (cop d rep reg 0) (cop d rep reg 1)
    unfold firstP
    split <;> omega
  have hf2 : (1 : Int) - ((firstP (cop d rep reg 0) (cop d rep reg 1) : Nat) : Int) = ((1 - firstP (cop d rep reg 0) (cop d rep reg 1) : Nat) : Int) := by
    have := firstP_lt (cop d rep reg 0) (cop d rep reg 1)
    omega
  unfold storeC
  rw [open_live h hp hr, (copy_cop hr).1, (copy_cop hr).2]
  simp only [ne_eq, not_true, false_and, if_false]
  rw [if_neg (by omega), if_neg (by omega), he]
  simp only [not_true, if_false]
  rw [if_neg (by omega), hf, hf2]
end
end Go.Proofs.YtejjneamngkmoaaDoor

namespace Go.Proofs.YtejjneamngkmoaaDoor

def rdP (pl : List Pl) (j : Nat) : List UInt8 × Int := match pl[j]? with | none => ([], 2) | some p => if p.lost = true then ([], 50) else (p.rest, 0)
theorem rd_live {d : Dk} {j : Nat} (h : Live d) (hj : j < 156) : readD d j = rdP d.pl j := read_live h hj
theorem rd_set {pl : List Pl} {k : Nat} (f : List UInt8) (hk : k < pl.length) (j : Nat) : rdP (pl.set k ⟨f, f, false⟩) j = if j = k then (f, 0) else rdP pl j := by
  unfold rdP
  by_cases e : j = k
  · subst e
    simp [List.getElem?_set_self hk]
  · rw [if_neg e, List.getElem?_set_ne (Ne.symm e)]
/-- Behind a crash, and a start. -/
def anew (d : Dk) (keep : List Bool) : Dk := ⟨thruD d.pl d.waits 0 (keepB keep), [], false, false, -1⟩
theorem thru_len : ∀ (l : List (List UInt8 × Nat)) (pl : List Pl) (k : Nat) (is : Nat → Bool), (thruD pl l k is).length = pl.length
  | [], _, _, _ => rfl
  | (b, s) :: l, pl, k, is => by
    simp only [thruD]
    rw [thru_len l]
    split
    · rw [List.length_set]
    · rfl
theorem crash_start {d : Dk} (keep : List Bool) (hl : d.pl.length = 156) (hd : d.down = false) : (crashD d keep).2 = 0 ∧ startD (crashD d keep).1 = (anew d keep, 0) := by
  have h1 : crashD d keep = ({ d with pl := thruD d.pl d.waits 0 (keepB keep), waits := [], down := true }, 0) := by
    unfold crashD there0
    rw [hl, hd]
    simp
  rw [h1]
  refine ⟨rfl, ?_⟩
  unfold startD there0
  simp only
  rw [thru_len, hl]
  simp [anew]
theorem anew_live {d : Dk} (keep : List Bool) (hl : d.pl.length = 156) : Live (anew d keep) := ⟨by simp only [anew]; rw [thru_len, hl], rfl, rfl, rfl⟩

section
variable {d : Dk} {rep reg inc v : Int} {body : List UInt8}
/-- The frame of a place of a cell. -/
def fraC (rep reg v inc : Int) (body : List UInt8) (i : Nat) : List UInt8 := sealF ⟨rep, reg, i, v, inc⟩ body 64
/-- Two puts, the one place's first. -/
def twoP (d : Dk) (rep reg v inc : Int) (body : List UInt8) (f : Nat) : Dk × Int :=
  if (putC d ⟨rep, reg, (f : Nat), v, inc⟩ body).2 ≠ 0 then putC d ⟨rep, reg, (f : Nat), v, inc⟩ body else putC (putC d ⟨rep, reg, (f : Nat), v, inc⟩ body).1 ⟨rep, reg, ((1 - f : Nat) : Int), v, inc⟩ body
theorem put_p (h : Live d) (hr : reg = 1 ∨ reg = 2) (hb : body.length ≤ 43) {i : Nat} (hi : i < 2) (h0 : d.left ≠ 0) (h1 : d.left ≠ 1) : putC d ⟨rep, reg, i, v, inc⟩ body = (putP d (secC reg i) (fraC rep reg v inc body i), 0) :=
  put_n h h0 h1 (sec_first hr hi).1 (by have := (sec_first hr hi).2; omega) hb
theorem two_all (h : Live d) (hr : reg = 1 ∨ reg = 2) (hb : body.length ≤ 43) {f : Nat} (hf : f < 2) (hl : d.left < 0 ∨ 4 ≤ d.left) : twoP d rep reg v inc body f = (putP (putP d (secC reg f) (fraC rep reg v inc body f)) (secC reg (1 - f)) (fraC rep reg v inc body (1 - f)), 0) := by
  unfold twoP
  rw [put_p h hr hb hf (by omega) (by omega)]
  simp only [ne_eq, not_true, if_false]
  have hl2 : (putP d (secC reg f) (fraC rep reg v inc body f)).left = if 0 < d.left then d.left - 2 else d.left := rfl
  exact put_p (putP_live h _ _) hr hb (by omega) (by rw [hl2]; split <;> omega) (by rw [hl2]; split <;> omega)
theorem two_crash (h : Live d) (hr : reg = 1 ∨ reg = 2) (hb : body.length ≤ 43) {f : Nat} (hf : f < 2) (hl : 0 ≤ d.left) (keep : List Bool) :
    (twoP d rep reg v inc body f).2 = (if 4 ≤ d.left then 0 else 5) ∧ (twoP d rep reg v inc body f).1.pl.length = 156 ∧ (twoP d rep reg v inc body f).1.down = false ∧
    ∃ n m : Bool, (4 ≤ d.left → n = true ∧ m = true) ∧ (m = true → n = true) ∧ ∀ j : Nat, j < 156 → readD (anew (twoP d rep reg v inc body f).1 keep) j = if j = secC reg (1 - f) ∧ m = true then (fraC rep reg v inc body (1 - f), 0) else if j = secC reg f ∧ n = true then (fraC rep reg v inc body f, 0) else readD d j := by
  obtain ⟨ef, lf⟩ := sec_first hr hf
  obtain ⟨eo, lo⟩ := sec_first hr (i := 1 - f) (by omega)
  have hne : secC reg (1 - f) ≠ secC reg f := by unfold secC; omega
  have hlen := h.len
  by_cases h0 : d.left = 0
  · have e : twoP d rep reg v inc body f = ({ d with dead := true }, 5) := by
      unfold twoP
      rw [put_0 h h0 ef (by omega) hb]
      simp
    rw [e, h0]
    refine ⟨rfl, hlen, h.dn, false, false, by simp, by simp, fun j hj => ?_⟩
    rw [rd_live (anew_live keep (by exact hlen)) hj, rd_live h hj]
    simp [anew, h.w, thruD]
  by_cases h1 : d.left = 1
  · have e : twoP d rep reg v inc body f = ({ d with left := 0, waits := [(fraC rep reg v inc body f, secC reg f)], dead := true }, 5) := by
      unfold twoP
      rw [put_1 h h1 ef (by omega) hb]
      simp [fraC]
    rw [e, h1]
    refine ⟨rfl, hlen, h.dn, keepB keep 0, false, by simp, by simp, fun j hj => ?_⟩
    rw [rd_live (anew_live keep (by exact hlen)) hj, rd_live h hj]
    simp only [anew, thruD, and_false, if_false, Bool.false_eq_true]
    cases hk : keepB keep 0 with
    | false => simp
    | true =>
      simp only [if_true, and_true]
      rw [rd_set _ (by omega)]
  have hp := put_p (v := v) (rep := rep) (inc := inc) h hr hb hf h0 h1
  have hL := putP_live h (secC reg f) (fraC rep reg v inc body f)
  have hl2 : (putP d (secC reg f) (fraC rep reg v inc body f)).left = d.left - 2 := by rw [putP_left, if_pos (by omega)]
  by_cases h2 : d.left = 2
  · have e : twoP d rep reg v inc body f = ({ putP d (secC reg f) (fraC rep reg v inc body f) with dead := true }, 5) := by
      unfold twoP
      rw [hp]
      simp only [ne_eq, not_true, if_false]
      exact put_0 hL (by rw [hl2]; omega) eo (by omega) hb
    rw [e, h2]
    refine ⟨rfl, hL.len, hL.dn, true, false, by simp, by simp, fun j hj => ?_⟩
    rw [rd_live (anew_live keep (by exact hL.len)) hj, rd_live h hj]
    simp only [anew, putP, thruD, and_false, if_false, Bool.false_eq_true, and_true]
    rw [rd_set _ (by omega)]
  by_cases h3 : d.left = 3
  · have e : twoP d rep reg v inc body f = ({ putP d (secC reg f) (fraC rep reg v inc body f) with left := 0, waits := [(fraC rep reg v inc body (1 - f), secC reg (1 - f))], dead := true }, 5) := by
      unfold twoP
      rw [hp]
      simp only [ne_eq, not_true, if_false]
      exact put_1 hL (by rw [hl2]; omega) eo (by omega) hb
    rw [e, h3]
    refine ⟨rfl, hL.len, hL.dn, true, keepB keep 0, by simp, by simp, fun j hj => ?_⟩
    rw [rd_live (anew_live keep (by exact hL.len)) hj, rd_live h hj]
    simp only [anew, putP, thruD, and_true]
    cases hk : keepB keep 0 with
    | false =>
      simp only [Bool.false_eq_true, if_false, and_false]
      rw [rd_set _ (by omega)]
    | true =>
      simp only [if_true, and_true]
      rw [rd_set _ (by rw [List.length_set]; omega), rd_set _ (by omega)]
  · have e := two_all (rep := rep) (v := v) (inc := inc) h hr hb hf (.inr (by omega))
    have hL2 := putP_live hL (secC reg (1 - f)) (fraC rep reg v inc body (1 - f))
    rw [e, if_pos (by omega)]
    refine ⟨rfl, hL2.len, hL2.dn, true, true, by simp, by simp, fun j hj => ?_⟩
    rw [rd_live (anew_live keep (by exact hL2.len)) hj, rd_live h hj]
    simp only [anew, putP, thruD, and_true]
    rw [rd_set _ (by rw [List.length_set]; omega), rd_set _ (by omega)]
end
end Go.Proofs.YtejjneamngkmoaaDoor

namespace Go.Proofs.YtejjneamngkmoaaDoor

/-- A good copy of a version, or a blank one. -/
def coR (rep reg : Int) (i : Nat) : Vo → Cp
  | none => ⟨0, zeroTg, []⟩
  | some (v, c, b) => ⟨1, ⟨rep, reg, i, v, c⟩, b⟩
def badR : Cp := ⟨2, zeroTg, []⟩
theorem verO_pos {o : Vo} (h : okO o) : 0 ≤ verO o := by
  match o, h with
  | none, _ => exact Int.le_refl 0
  | some (v, c, b), ⟨h1, _⟩ => simp only [verO]; omega
theorem verO_le {o : Vo} (h : okO o) : verO o ≤ 1099511627776 := by
  match o, h with
  | none, _ => simp [verO]
  | some (v, c, b), ⟨_, h2, _⟩ => exact h2
/-! What counts of two copies. -/
section
variable {rep reg : Int} {o p : Vo}
theorem loaded_same (o : Vo) : loadedC (coR rep reg 0 o) (coR rep reg 1 o) = (0, o.isSome, 0) ∧ pickC (coR rep reg 0 o) (coR rep reg 1 o) = coR rep reg 0 o ∧ firstP (coR rep reg 0 o) (coR rep reg 1 o) = (if o.isSome = true then 1 else 0) := by
  match o with
  | none => exact ⟨rfl, rfl, rfl⟩
  | some (v, c, b) =>
    have h1 : loadedC (coR rep reg 0 (some (v, c, b))) (coR rep reg 1 (some (v, c, b))) = (0, true, 0) := by simp [loadedC, overC, coR]
    refine ⟨h1, ?_, ?_⟩
    · unfold pickC
      rw [h1]
      simp
    · unfold firstP
      rw [h1]
      simp
/-- The second one is ahead. -/
theorem loaded_second {v c : Int} {b : List UInt8} (h : verO o < v) : loadedC (coR rep reg 0 o) (coR rep reg 1 (some (v, c, b))) = (1, true, 0) ∧ pickC (coR rep reg 0 o) (coR rep reg 1 (some (v, c, b))) = coR rep reg 1 (some (v, c, b)) := by
  have h1 : loadedC (coR rep reg 0 o) (coR rep reg 1 (some (v, c, b))) = (1, true, 0) := by
    match o, h with
    | none, _ => simp [loadedC, overC, coR]
    | some (v', c', b'), h => simp only [verO] at h; simp [loadedC, overC, coR, h]
  exact ⟨h1, by unfold pickC; rw [h1]; simp⟩
/-- The first one is. -/
theorem loaded_first {v c : Int} {b : List UInt8} (h : verO o < v) : loadedC (coR rep reg 0 (some (v, c, b))) (coR rep reg 1 o) = (0, true, 0) ∧ pickC (coR rep reg 0 (some (v, c, b))) (coR rep reg 1 o) = coR rep reg 0 (some (v, c, b)) := by
  have h1 : loadedC (coR rep reg 0 (some (v, c, b))) (coR rep reg 1 o) = (0, true, 0) := by
    match o, h with
    | none, _ => simp [loadedC, overC, coR]
    | some (v', c', b'), h =>
      simp only [verO] at h
      have : ¬ v < v' := by omega
      simp [loadedC, overC, coR, this]
  exact ⟨h1, by unfold pickC; rw [h1]; simp⟩
theorem loaded_bad0 {v c : Int} {b : List UInt8} : loadedC badR (coR rep reg 1 (some (v, c, b))) = (1, true, 0) ∧ pickC badR (coR rep reg 1 (some (v, c, b))) = coR rep reg 1 (some (v, c, b)) := by
  have h1 : loadedC badR (coR rep reg 1 (some (v, c, b))) = (1, true, 0) := by simp [loadedC, overC, coR, badR]
  exact ⟨h1, by unfold pickC; rw [h1]; simp⟩
theorem loaded_bad1 {v c : Int} {b : List UInt8} : loadedC (coR rep reg 0 (some (v, c, b))) badR = (0, true, 0) ∧ pickC (coR rep reg 0 (some (v, c, b))) badR = coR rep reg 0 (some (v, c, b)) := by
  have h1 : loadedC (coR rep reg 0 (some (v, c, b))) badR = (0, true, 0) := by simp [loadedC, overC, coR, badR]
  exact ⟨h1, by unfold pickC; rw [h1]; simp⟩
theorem loaded_bad : loadedC badR badR = (0, false, 70) := rfl
end

/-- Both copies say the same. -/
structure Both (d : Dk) (rep reg : Int) (o : Vo) : Prop where
  ok : okO o
  c0 : cop d rep reg 0 = coR rep reg 0 o
  c1 : cop d rep reg 1 = coR rep reg 1 o
theorem both_load {d : Dk} {rep reg : Int} {o : Vo} (h : Live d) (hp : 0 ≤ rep ∧ rep ≤ 6) (hr : reg = 1 ∨ reg = 2) (hB : Both d rep reg o) : loadC d rep reg = (verO o, bodO o, 0) := by
  obtain ⟨e1, e2, _⟩ := loaded_same (rep := rep) (reg := reg) o
  rw [load_live h hp hr, hB.c0, hB.c1, e1, e2]
  match o with
  | none => rfl
  | some (v, c, b) => rfl
theorem rd_rep {n j : Nat} (h : j < n) : rdP (List.replicate n zeroPl) j = (zeros64, 0) := by
  unfold rdP
  rw [List.getElem?_replicate, if_pos h]
  rfl
theorem new_live : Live (newDk 156) := ⟨List.length_replicate, rfl, rfl, rfl⟩
theorem new_read {j : Nat} (hj : j < 156) : readD (newDk 156) j = (zeros64, 0) := by
  rw [rd_live new_live hj]
  exact rd_rep hj
theorem sec_lt {reg : Int} (hr : reg = 1 ∨ reg = 2) {i : Nat} (hi : i < 2) : secC reg i < 156 := by have := (sec_first hr hi).2; omega
theorem new_both (rep : Int) {reg : Int} (hr : reg = 1 ∨ reg = 2) : Both (newDk 156) rep reg none := ⟨trivial, cop_zero (new_read (sec_lt hr (by omega))), cop_zero (new_read (sec_lt hr (by omega)))⟩

section
variable {d : Dk} {rep reg inc : Int} {body : List UInt8} {o : Vo}
/-- The version that is stored. -/
def nextO (o : Vo) (inc : Int) (body : List UInt8) : Vo := some (verO o + 1, inc, body)
theorem next_ok (h : okO o) (hv : verO o + 1 ≤ 1099511627776) (hi : 1 ≤ inc ∧ inc ≤ 1099511627776) (hb : body.length ≤ 43) : okO (nextO o inc body) := ⟨by have := verO_pos h; omega, hv, hi.1, hi.2, hb⟩
theorem pick_idx (o : Vo) : (coR rep reg 0 o).tg.idx = verO o := by match o with | none => rfl | some (v, c, b) => rfl
theorem store_two (h : Live d) (hp : 0 ≤ rep ∧ rep ≤ 6) (hr : reg = 1 ∨ reg = 2) (hi : 1 ≤ inc ∧ inc ≤ 1099511627776) (hb : body.length ≤ 43) (hB : Both d rep reg o) (hv : verO o + 1 ≤ 1099511627776) : storeC d rep reg inc body = twoP d rep reg (verO o + 1) inc body (if o.isSome = true then 1 else 0) := by
  obtain ⟨e1, e2, e3⟩ := loaded_same (rep := rep) (reg := reg) o
  have hr2 := store_red h hp hr hi hb (by rw [hB.c0, hB.c1, e1]) (by rw [hB.c0, hB.c1, e2, pick_idx]; exact hv)
  rw [hr2, hB.c0, hB.c1, e2, e3, pick_idx]
  rfl
theorem cop_fra {d : Dk} {v : Int} {i : Nat} {e : Int} (hp : 0 ≤ rep ∧ rep ≤ 6) (hr : reg = 1 ∨ reg = 2) (hi2 : i < 2) (h0 : 0 ≤ v) (h1 : v ≤ 1099511627776) (hi : 1 ≤ inc ∧ inc ≤ 1099511627776) (hb : body.length ≤ 43) (h : readD d (secC reg i) = (fraC rep reg v inc body i, e)) : cop d rep reg i = coR rep reg i (some (v, inc, body)) :=
  cop_frame h (may_cell2 hp hr hi2 h0 h1 hi.1 hi.2) hb
/-- A store with power for all of it. -/
theorem store_both (h : Live d) (hp : 0 ≤ rep ∧ rep ≤ 6) (hr : reg = 1 ∨ reg = 2) (hi : 1 ≤ inc ∧ inc ≤ 1099511627776) (hb : body.length ≤ 43) (hB : Both d rep reg o) (hv : verO o + 1 ≤ 1099511627776) (hl : d.left < 0) :
    ∃ d', storeC d rep reg inc body = (d', 0) ∧ Live d' ∧ d'.left = d.left ∧ Both d' rep reg (nextO o inc body) ∧ ∀ j : Nat, j < 156 → j ≠ secC reg 0 → j ≠ secC reg 1 → readD d' j = readD d j := by
  have hvp := verO_pos hB.ok
  obtain ⟨f, hf, hf2⟩ : ∃ f, (if o.isSome = true then 1 else 0) = f ∧ f < 2 := ⟨_, rfl, by split <;> omega⟩
  rw [store_two h hp hr hi hb hB hv, hf, two_all h hr hb hf2 (.inl hl)]
  have L1 := putP_live h (secC reg f) (fraC rep reg (verO o + 1) inc body f)
  have L2 := putP_live L1 (secC reg (1 - f)) (fraC rep reg (verO o + 1) inc body (1 - f))
  have hs1 := sec_lt hr hf2
  have hs2 := sec_lt hr (i := 1 - f) (by omega)
  have hrd : ∀ j : Nat, j < 156 → readD (putP (putP d (secC reg f) (fraC rep reg (verO o + 1) inc body f)) (secC reg (1 - f)) (fraC rep reg (verO o + 1) inc body (1 - f))) j = if j = secC reg (1 - f) then (fraC rep reg (verO o + 1) inc body (1 - f), 0) else if j = secC reg f then (fraC rep reg (verO o + 1) inc body f, 0) else readD d j := fun j hj => by
    rw [putP_read L1 _ hj hs2, putP_read h _ hj hs1]
  have hne : secC reg (1 - f) ≠ secC reg f := by unfold secC; omega
  have r1 := hrd (secC reg (1 - f)) hs2
  rw [if_pos rfl] at r1
  have r2 := hrd (secC reg f) hs1
  rw [if_neg (Ne.symm hne), if_pos rfl] at r2
  have k1 := cop_fra hp hr (by omega) (by omega) hv hi hb r1
  have k2 := cop_fra hp hr hf2 (by omega) hv hi hb r2
  refine ⟨_, rfl, L2, ?_, ⟨next_ok hB.ok hv hi hb, ?_, ?_⟩, ?_⟩
  · rw [putP_left, putP_left, if_neg (by omega), if_neg (by omega)]
  · rcases (show f = 0 ∨ f = 1 by omega) with rfl | rfl
    · exact k2
    · exact k1
  · rcases (show f = 0 ∨ f = 1 by omega) with rfl | rfl
    · exact k1
    · exact k2
  · intro j hj h0 h1
    rw [hrd j hj, if_neg, if_neg]
    · rcases (show f = 0 ∨ f = 1 by omega) with rfl | rfl <;> assumption
    · rcases (show f = 0 ∨ f = 1 by omega) with rfl | rfl <;> assumption
end
end Go.Proofs.YtejjneamngkmoaaDoor

namespace Go.Proofs.YtejjneamngkmoaaDoor

/-- What a place of a replica's region holds. -/
def frR (rep reg : Int) (i : Nat) : Vo → List UInt8
  | none => zeros64
  | some (v, c, b) => fraC rep reg v c b i
structure Fr (d : Dk) (rep reg : Int) (o : Vo) : Prop where
  ok : okO o
  r0 : readD d (secC reg 0) = (frR rep reg 0 o, 0)
  r1 : readD d (secC reg 1) = (frR rep reg 1 o, 0)
section
variable {d d' : Dk} {rep reg inc : Int} {body : List UInt8} {o o' : Vo}
theorem cop_fr {i : Nat} {e : Int} (hp : 0 ≤ rep ∧ rep ≤ 6) (hr : reg = 1 ∨ reg = 2) (hi : i < 2) (ho : okO o) (h : readD d (secC reg i) = (frR rep reg i o, e)) : cop d rep reg i = coR rep reg i o := by
  match o, ho, h with
  | none, _, h => exact cop_zero h
  | some (v, c, b), ⟨h1, h2, h3, h4, h5⟩, h => exact cop_fra hp hr hi (by omega) h2 ⟨h3, h4⟩ h5 h
theorem Fr.both (h : Fr d rep reg o) (hp : 0 ≤ rep ∧ rep ≤ 6) (hr : reg = 1 ∨ reg = 2) : Both d rep reg o := ⟨h.ok, cop_fr hp hr (by omega) h.ok h.r0, cop_fr hp hr (by omega) h.ok h.r1⟩
theorem Fr.same (h : Fr d rep reg o) (h0 : readD d' (secC reg 0) = readD d (secC reg 0)) (h1 : readD d' (secC reg 1) = readD d (secC reg 1)) : Fr d' rep reg o := ⟨h.ok, h0.trans h.r0, h1.trans h.r1⟩
theorem Fr.load (h : Fr d rep reg o) (hL : Live d) (hp : 0 ≤ rep ∧ rep ≤ 6) (hr : reg = 1 ∨ reg = 2) : loadC d rep reg = (verO o, bodO o, 0) := both_load hL hp hr (h.both hp hr)
theorem new_fr (rep : Int) {reg : Int} (hr : reg = 1 ∨ reg = 2) : Fr (newDk 156) rep reg none := ⟨trivial, new_read (sec_lt hr (by omega)), new_read (sec_lt hr (by omega))⟩
theorem store_fr (h : Live d) (hp : 0 ≤ rep ∧ rep ≤ 6) (hr : reg = 1 ∨ reg = 2) (hi : 1 ≤ inc ∧ inc ≤ 1099511627776) (hb : body.length ≤ 43) (hB : Fr d rep reg o) (hv : verO o + 1 ≤ 1099511627776) (hl : d.left < 0) :
    ∃ d', storeC d rep reg inc body = (d', 0) ∧ Live d' ∧ d'.left = d.left ∧ Fr d' rep reg (nextO o inc body) ∧ ∀ j : Nat, j < 156 → j ≠ secC reg 0 → j ≠ secC reg 1 → readD d' j = readD d j := by
  have hvp := verO_pos hB.ok
  obtain ⟨f, hf, hf2⟩ : ∃ f, (if o.isSome = true then 1 else 0) = f ∧ f < 2 := ⟨_, rfl, by split <;> omega⟩
  rw [store_two h hp hr hi hb (hB.both hp hr) hv, hf, two_all h hr hb hf2 (.inl hl)]
  have L1 := putP_live h (secC reg f) (fraC rep reg (verO o + 1) inc body f)
  have L2 := putP_live L1 (secC reg (1 - f)) (fraC rep reg (verO o + 1) inc body (1 - f))
  have hs1 := sec_lt hr hf2
  have hs2 := sec_lt hr (i := 1 - f) (by omega)
  have hrd : ∀ j : Nat, j < 156 → readD (putP (putP d (secC reg f) (fraC rep reg (verO o + 1) inc body f)) (secC reg (1 - f)) (fraC rep reg (verO o + 1) inc body (1 - f))) j = if j = secC reg (1 - f) then (fraC rep reg (verO o + 1) inc body (1 - f), 0) else if j = secC reg f then (fraC rep reg (verO o + 1) inc body f, 0) else readD d j := fun j hj => by
    rw [putP_read L1 _ hj hs2, putP_read h _ hj hs1]
  have hne : secC reg (1 - f) ≠ secC reg f := by unfold secC; omega
  have r1 := hrd (secC reg (1 - f)) hs2
  rw [if_pos rfl] at r1
  have r2 := hrd (secC reg f) hs1
  rw [if_neg (Ne.symm hne), if_pos rfl] at r2
  refine ⟨_, rfl, L2, ?_, ⟨next_ok hB.ok hv hi hb, ?_, ?_⟩, ?_⟩
  · rw [putP_left, putP_left, if_neg (by omega), if_neg (by omega)]
  · rcases (show f = 0 ∨ f = 1 by omega) with rfl | rfl
    · exact r2
    · exact r1
  · rcases (show f = 0 ∨ f = 1 by omega) with rfl | rfl
    · exact r1
    · exact r2
  · intro j hj h0 h1
    rw [hrd j hj, if_neg, if_neg]
    · rcases (show f = 0 ∨ f = 1 by omega) with rfl | rfl <;> assumption
    · rcases (show f = 0 ∨ f = 1 by omega) with rfl | rfl <;> assumption
/-- A disk's power is set. -/
theorem power_live (h : Live d) {n : Int} (hn : 0 ≤ n) : powerD d n = ({ d with left := n }, 0) := by
  unfold powerD
  rw [live_0 h, if_neg (by omega), if_neg (by omega)]
theorem live_left (h : Live d) (x : Int) : Live { d with left := x } := ⟨h.len, h.w, h.dn, h.de⟩
theorem fr_left (h : Fr d rep reg o) (x : Int) : Fr { d with left := x } rep reg o := ⟨h.ok, h.r0, h.r1⟩
/-- A crash behind a store with power for so many writes and flushes: both places hold what they did, or both what was stored, or the one that was written first does. -/
theorem store_crash (h : Live d) (hp : 0 ≤ rep ∧ rep ≤ 6) (hr : reg = 1 ∨ reg = 2) (hi : 1 ≤ inc ∧ inc ≤ 1099511627776) (hb : body.length ≤ 43) (hB : Fr d rep reg o) (hv : verO o + 1 ≤ 1099511627776) (hl : 0 ≤ d.left) (keep : List Bool) :
    (storeC d rep reg inc body).2 = (if 4 ≤ d.left then 0 else 5) ∧ (storeC d rep reg inc body).1.pl.length = 156 ∧ (storeC d rep reg inc body).1.down = false ∧
    (((¬ 4 ≤ d.left) ∧ Fr (anew (storeC d rep reg inc body).1 keep) rep reg o) ∨ Fr (anew (storeC d rep reg inc body).1 keep) rep reg (nextO o inc body) ∨
      ((¬ 4 ≤ d.left) ∧ ∃ f, f < 2 ∧ (f = 1 ↔ o.isSome = true) ∧ readD (anew (storeC d rep reg inc body).1 keep) (secC reg f) = (frR rep reg f (nextO o inc body), 0) ∧ readD (anew (storeC d rep reg inc body).1 keep) (secC reg (1 - f)) = (frR rep reg (1 - f) o, 0))) ∧
    ∀ j : Nat, j < 156 → j ≠ secC reg 0 → j ≠ secC reg 1 → readD (anew (storeC d rep reg inc body).1 keep) j = readD d j := by
  obtain ⟨f, hf, hf2⟩ : ∃ f, (if o.isSome = true then 1 else 0) = f ∧ f < 2 := ⟨_, rfl, by split <;> omega⟩
  rw [store_two h hp hr hi hb (hB.both hp hr) hv, hf]
  obtain ⟨e, hlen, hdn, n, m, h4, hnm, hrd⟩ := two_crash (rep := rep) (v := verO o + 1) (inc := inc) h hr hb hf2 hl keep
  have hs1 := sec_lt hr hf2
  have hs2 := sec_lt hr (i := 1 - f) (by omega)
  have hne : secC reg f ≠ secC reg (1 - f) := by unfold secC; omega
  have r1 := hrd _ hs1
  have r2 := hrd _ hs2
  rw [if_neg (fun hh => hne hh.1)] at r1
  have hok := next_ok hB.ok hv hi hb
  refine ⟨e, hlen, hdn, ?_, ?_⟩
  · cases m
    case true =>
      obtain rfl := hnm rfl
      rw [if_pos ⟨rfl, rfl⟩] at r1 r2
      refine .inr (.inl ?_)
      rcases (show f = 0 ∨ f = 1 by omega) with rfl | rfl
      · exact ⟨hok, r1, r2⟩
      · exact ⟨hok, r2, r1⟩
    case false =>
      have hnl : ¬ 4 ≤ d.left := fun hh => by cases (h4 hh).2
      rw [if_neg (by simp), if_neg (fun hh => hne hh.1.symm)] at r2
      cases n
      case false =>
        rw [if_neg (by simp)] at r1
        refine .inl ⟨hnl, ?_⟩
        rcases (show f = 0 ∨ f = 1 by omega) with rfl | rfl
        · exact ⟨hB.ok, r1.trans hB.r0, r2.trans hB.r1⟩
        · exact ⟨hB.ok, r2.trans hB.r0, r1.trans hB.r1⟩
      case true =>
        rw [if_pos ⟨rfl, rfl⟩] at r1
        refine .inr (.inr ⟨hnl, f, hf2, ?_, r1, ?_⟩)
        · rw [← hf]
          cases o.isSome <;> simp
        · rcases (show f = 0 ∨ f = 1 by omega) with rfl | rfl
          · exact r2.trans hB.r1
          · exact r2.trans hB.r0
  · intro j hj h0 h1
    rw [hrd j hj, if_neg, if_neg]
    · rintro ⟨rfl, _⟩
      rcases (show f = 0 ∨ f = 1 by omega) with rfl | rfl
      · exact h0 rfl
      · exact h1 rfl
    · rintro ⟨rfl, _⟩
      rcases (show f = 0 ∨ f = 1 by omega) with rfl | rfl
      · exact h1 rfl
      · exact h0 rfl
end
end Go.Proofs.YtejjneamngkmoaaDoor

namespace Go.Proofs.YtejjneamngkmoaaDoor
open Go.RowKit

section
variable {B g gp : Nat} {wv : Value} {d : Dk} {w : World}
set_option maxRecDepth 100000 in
set_option maxHeartbeats 1000000 in
theorem cput_any (h : DiskB B g gp wv d w) (hb : B ≤ w.heap.size) (q : Nat) (rep reg : Int) (s0 s1 : Nat) (t0 t1 : Tg) (v0 v1 : Value) (hq : w.heap[q]? = some (.cells (ceA g rep reg s0 t0 v0 s1 t1 v1) 126 (0, 0))) (pla ver inc : Int) (hm : mayTg ⟨rep, reg, pla, ver, inc⟩ = true) (a : Option Addr) (c : Nat) (body : List UInt8) (hs : SlB w a c body) (hl : body.length ≤ 43) (hw : d.waits.length ≤ 1000000) :
    Calls Tryd.prog 74 #[.pointer (some ⟨q, 0, none⟩), .int .i64 pla, .int .i64 ver, .int .i64 inc, .slice a body.length c] w fun e w' => e = .returned (.int .i64 (putC d ⟨rep, reg, pla, ver, inc⟩ body).2) ∧ (∃ wv', DiskB B g gp wv' (putC d ⟨rep, reg, pla, ver, inc⟩ body).1 w') ∧ Kt B w w' := by
  have HM := Lib.hid hm
  clear hm
  unfold putC
  simp only
  have hlen := seal64 ⟨rep, reg, pla, ver, inc⟩ hl
  obtain ⟨fr, hfr⟩ : ∃ fr, sealF ⟨rep, reg, pla, ver, inc⟩ body 64 = fr := ⟨_, rfl⟩
  rw [hfr] at hlen ⊢
  obtain ⟨d1, r1, hd1⟩ : ∃ d1 r1, writeD d (firstN reg pla) fr = (d1, r1) := ⟨_, _, rfl⟩
  rw [hd1]
  have HFR := Lib.hid hfr
  have HLN := Lib.hid hlen
  have HD1 := Lib.hid hd1
  clear hfr hlen hd1
  go_enter Tryd.func74, Tryd.ntmps74
  refine wp_seq_k (fun K hK => ?_)
  have HK := Lib.hid hK
  clear hK
  go_wp2
  refine HK.out _ _ ?_
  clear HK
  refine wp_seq_k (fun K hK => ?_)
  have HK := Lib.hid hK
  clear hK
  go_wp2_with fail
  have hbd := (Below.refl w.heap.size w).drew
  have hqd := tr_bl hbd hq
  have hsd := hs.below hbd
  have hdd := h.below hbd
  have hkd := Kt.of hbd hb
  refine wp_region_held_drew (S := fun w' => w'.heap[q]? = some (.cells (ceA g rep reg s0 t0 v0 s1 t1 v1) 126 (0, 0))) (by kernel_rfl) hqd (fun hS0 => ?_)
  generalize w.drew = x0 at *
  refine wpAnyH_take (i := 0) (oi := ⟨_, _, _, _, _, _⟩) (v := ?_) rfl (by kernel_rfl) (by kernel_rfl) (by kernel_rfl) (fun _ _ _ h => h) (Or.inl ⟨by rfl, ?_⟩) (by assumption) ?_
  rotate_left
  · intro wS hSw
    go_simp; (try with_reducible rfl)
  (try simp only [Act.put])
  (try simp only [List.setIfInBounds_toArray])
  (try simp only [List.set_cons_succ])
  (try simp only [List.set_cons_zero])
  refine wpAnyH_take (i := 1) (oi := ⟨_, _, _, _, _, _⟩) (v := ?_) rfl (by kernel_rfl) (by kernel_rfl) (by kernel_rfl) (fun _ _ _ h => h) (Or.inl ⟨by rfl, ?_⟩) (by assumption) ?_
  rotate_left
  · intro wS hSw
    go_simp; (try with_reducible rfl)
  (try simp only [Act.put])
  (try simp only [List.setIfInBounds_toArray])
  (try simp only [List.set_cons_succ])
  (try simp only [List.set_cons_zero])
  refine wpAnyH_take (i := 2) (oi := ⟨_, _, _, _, _, _⟩) (v := ?_) rfl (by kernel_rfl) (by kernel_rfl) (by kernel_rfl) (fun _ _ _ h => h) (Or.inl ⟨by rfl, ?_⟩) (by assumption) ?_
  rotate_left
  · intro wS hSw
    go_simp; (try with_reducible rfl)
  (try simp only [Act.put])
  (try simp only [List.setIfInBounds_toArray])
  (try simp only [List.set_cons_succ])
  (try simp only [List.set_cons_zero])
  refine wpAnyH_take (i := 3) (oi := ⟨_, _, _, _, _, _⟩) (v := ?_) rfl (by kernel_rfl) (by kernel_rfl) (by kernel_rfl) (fun _ _ _ h => h) (Or.inl ⟨by rfl, ?_⟩) (by assumption) ?_
  rotate_left
  · intro wS hSw
    have c := ceA_1 hSw; go_simp; (try with_reducible rfl)
  (try simp only [Act.put])
  (try simp only [List.setIfInBounds_toArray])
  (try simp only [List.set_cons_succ])
  (try simp only [List.set_cons_zero])
  refine wpAnyH_take (i := 4) (oi := ⟨_, _, _, _, _, _⟩) (v := ?_) rfl (by kernel_rfl) (by kernel_rfl) (by kernel_rfl) (fun _ _ _ h => h) (Or.inl ⟨by rfl, ?_⟩) (by assumption) ?_
  rotate_left
  · intro wS hSw
    go_simp; (try with_reducible rfl)
  (try simp only [Act.put])
  (try simp only [List.setIfInBounds_toArray])
  (try simp only [List.set_cons_succ])
  (try simp only [List.set_cons_zero])
  refine wpAnyH_take (i := 5) (oi := ⟨_, _, _, _, _, _⟩) (v := ?_) rfl (by kernel_rfl) (by kernel_rfl) (by kernel_rfl) (fun _ _ _ h => h) (Or.inl ⟨by rfl, ?_⟩) (by assumption) ?_
  rotate_left
  · intro wS hSw
    go_simp; (try with_reducible rfl)
  (try simp only [Act.put])
  (try simp only [List.setIfInBounds_toArray])
  (try simp only [List.set_cons_succ])
  (try simp only [List.set_cons_zero])
  refine wpAnyH_take (i := 6) (oi := ⟨_, _, _, _, _, _⟩) (v := ?_) rfl (by kernel_rfl) (by kernel_rfl) (by kernel_rfl) (fun _ _ _ h => h) (Or.inl ⟨by rfl, ?_⟩) (by assumption) ?_
  rotate_left
  · intro wS hSw
    go_simp; (try with_reducible rfl)
  (try simp only [Act.put])
  (try simp only [List.setIfInBounds_toArray])
  (try simp only [List.set_cons_succ])
  (try simp only [List.set_cons_zero])
  refine wpAnyH_take (i := 7) (oi := ⟨_, _, _, _, _, _⟩) (v := ?_) rfl (by kernel_rfl) (by kernel_rfl) (by kernel_rfl) (fun _ _ _ h => h) (Or.inl ⟨by rfl, ?_⟩) (by assumption) ?_
  rotate_left
  · intro wS hSw
    have c := ceA_2 hSw; go_simp; (try with_reducible rfl)
  (try simp only [Act.put])
  (try simp only [List.setIfInBounds_toArray])
  (try simp only [List.set_cons_succ])
  (try simp only [List.set_cons_zero])
  refine wpAnyH_take (i := 8) (oi := ⟨_, _, _, _, _, _⟩) (v := ?_) rfl (by kernel_rfl) (by kernel_rfl) (by kernel_rfl) (fun _ _ _ h => h) (Or.inl ⟨by rfl, ?_⟩) (by assumption) ?_
  rotate_left
  · intro wS hSw
    go_simp; (try with_reducible rfl)
  (try simp only [Act.put])
  (try simp only [List.setIfInBounds_toArray])
  (try simp only [List.set_cons_succ])
  (try simp only [List.set_cons_zero])
  refine wpAnyH_take (i := 9) (oi := ⟨_, _, _, _, _, _⟩) (v := ?_) rfl (by kernel_rfl) (by kernel_rfl) (by kernel_rfl) (fun _ _ _ h => h) (Or.inl ⟨by rfl, ?_⟩) (by assumption) ?_
  rotate_left
  · intro wS hSw
    go_simp; (try with_reducible rfl)
  (try simp only [Act.put])
  (try simp only [List.setIfInBounds_toArray])
  (try simp only [List.set_cons_succ])
  (try simp only [List.set_cons_zero])
  refine wpAnyH_take (i := 10) (oi := ⟨_, _, _, _, _, _⟩) (v := ?_) rfl (by kernel_rfl) (by kernel_rfl) (by kernel_rfl) (fun _ _ _ h => h) (Or.inl ⟨by rfl, ?_⟩) (by assumption) ?_
  rotate_left
  · intro wS hSw
    go_simp; (try with_reducible rfl)
  (try simp only [Act.put])
  (try simp only [List.setIfInBounds_toArray])
  (try simp only [List.set_cons_succ])
  (try simp only [List.set_cons_zero])
  refine wpAnyH_take (i := 11) (oi := ⟨_, _, _, _, _, _⟩) (v := ?_) rfl (by kernel_rfl) (by kernel_rfl) (by kernel_rfl) (fun _ _ _ h => h) (Or.inl ⟨by rfl, ?_⟩) (by assumption) ?_
  rotate_left
  · intro wS hSw
    go_simp; (try with_reducible rfl)
  (try simp only [Act.put])
  (try simp only [List.setIfInBounds_toArray])
  (try simp only [List.set_cons_succ])
  (try simp only [List.set_cons_zero])
  refine wpAnyH_take (i := 12) (oi := ⟨_, _, _, _, _, _⟩) (v := ?_) rfl (by kernel_rfl) (by kernel_rfl) (by kernel_rfl) (fun _ _ _ h => h) (Or.inl ⟨by rfl, ?_⟩) (by assumption) ?_
  rotate_left
  · intro wS hSw
    go_simp; (try with_reducible rfl)
  (try simp only [Act.put])
  (try simp only [List.setIfInBounds_toArray])
  (try simp only [List.set_cons_succ])
  (try simp only [List.set_cons_zero])
  refine wpAnyH_ready (rs := [13]) (by kernel_rfl) (by simp) ?_
  refine AllReadyH.cons (o := ⟨_, _, _, _, _, _⟩) rfl (fun K' hK' => ?_) AllReadyH.nil
  refine (if_pos (by rfl)).mpr ?_
  go_simp
  refine (seal1 ⟨rep, reg, pla, ver, inc⟩ a c body _ hsd HM.out hl).mono ?_
  rintro e w1 ⟨⟨gs, rfl, hgs, hsb⟩, hb1⟩
  rw [HFR.out] at hsb
  have hq1 := tr_bl hb1 hqd
  have hd1 := hdd.below hb1
  have hk1 := hkd.trans (Kt.of hb1 (Nat.le_trans hb hkd.bl.size))
  refine hK'.out _ _ hq1 (fun _ => ?_)
  clear hK' hb1 hS0 hqd hsd hdd hkd hbd hgs
  (try simp only [Act.put])
  (try simp only [List.setIfInBounds_toArray])
  (try simp only [List.set_cons_succ])
  (try simp only [List.set_cons_zero])
  refine wpAnyH_take (i := 14) (oi := ⟨_, _, _, _, _, _⟩) (v := ?_) rfl (by kernel_rfl) (by kernel_rfl) (by kernel_rfl) (fun _ _ _ h => h) (Or.inl ⟨by rfl, ?_⟩) (by assumption) ?_
  rotate_left
  · intro wS hSw
    go_simp; (try with_reducible rfl)
  (try simp only [Act.put])
  (try simp only [List.setIfInBounds_toArray])
  (try simp only [List.set_cons_succ])
  (try simp only [List.set_cons_zero])
  refine wpAnyH_take (i := 15) (oi := ⟨_, _, _, _, _, _⟩) (v := ?_) rfl (by kernel_rfl) (by kernel_rfl) (by kernel_rfl) (fun _ _ _ h => h) (Or.inl ⟨by rfl, ?_⟩) (by assumption) ?_
  rotate_left
  · intro wS hSw
    go_simp; (try with_reducible rfl)
  (try simp only [Act.put])
  (try simp only [List.setIfInBounds_toArray])
  (try simp only [List.set_cons_succ])
  (try simp only [List.set_cons_zero])
  refine wpAnyH_take (i := 16) (oi := ⟨_, _, _, _, _, _⟩) (v := ?_) rfl (by kernel_rfl) (by kernel_rfl) (by kernel_rfl) (fun _ _ _ h => h) (Or.inl ⟨by rfl, ?_⟩) (by assumption) ?_
  rotate_left
  · intro wS hSw
    go_simp; (try with_reducible rfl)
  (try simp only [Act.put])
  (try simp only [List.setIfInBounds_toArray])
  (try simp only [List.set_cons_succ])
  (try simp only [List.set_cons_zero])
  refine wpAnyH_take (i := 17) (oi := ⟨_, _, _, _, _, _⟩) (v := ?_) rfl (by kernel_rfl) (by kernel_rfl) (by kernel_rfl) (fun _ _ _ h => h) (Or.inl ⟨by rfl, ?_⟩) (by assumption) ?_
  rotate_left
  · intro wS hSw
    go_simp; (try with_reducible rfl)
  (try simp only [Act.put])
  (try simp only [List.setIfInBounds_toArray])
  (try simp only [List.set_cons_succ])
  (try simp only [List.set_cons_zero])
  refine wpAnyH_take (i := 18) (oi := ⟨_, _, _, _, _, _⟩) (v := ?_) rfl (by kernel_rfl) (by kernel_rfl) (by kernel_rfl) (fun _ _ _ h => h) (Or.inl ⟨by rfl, ?_⟩) (by assumption) ?_
  rotate_left
  · intro wS hSw
    go_simp; (try with_reducible rfl)
  (try simp only [Act.put])
  (try simp only [List.setIfInBounds_toArray])
  (try simp only [List.set_cons_succ])
  (try simp only [List.set_cons_zero])
  refine wpAnyH_done (by kernel_rfl) ?_ _
  refine HK.out _ _ ?_
  clear HK
  refine wp_seq_k (fun K hK => ?_)
  have HK := Lib.hid hK
  clear hK
  go_wp2
  refine HK.out _ _ ?_
  clear HK
  refine wp_seq_k (fun K hK => ?_)
  have HK2 := Lib.hid hK
  clear hK
  refine wp_seq_k (fun K hK => ?_)
  have HK := Lib.hid hK
  clear hK
  go_wp2_with fail
  have hbd := (Below.refl w1.heap.size w1).drew
  have hb1 := Nat.le_trans hb hk1.bl.size
  have hq2 := tr_bl hbd hq1
  have hd2 := hd1.below hbd
  have hs2 := tr_bl hbd hsb
  have hk2 := hk1.trans (Kt.of hbd hb1)
  have hb2 := Nat.le_trans hb hk2.bl.size
  clear hq1 hd1 hsb hk1 hbd hb1
  refine wp_region_held_drew (S := fun w' => w'.heap[q]? = some (.cells (ceA g rep reg s0 t0 v0 s1 t1 v1) 126 (0, 0))) (by kernel_rfl) hq2 (fun hS0 => ?_)
  generalize w1.drew = x1 at *
  refine wpAnyH_take (i := 0) (oi := ⟨_, _, _, _, _, _⟩) (v := ?_) rfl (by kernel_rfl) (by kernel_rfl) (by kernel_rfl) (fun _ _ _ h => h) (Or.inl ⟨by rfl, ?_⟩) (by assumption) ?_
  rotate_left
  · intro wS hSw
    go_simp; (try with_reducible rfl)
  (try simp only [Act.put])
  (try simp only [List.setIfInBounds_toArray])
  (try simp only [List.set_cons_succ])
  (try simp only [List.set_cons_zero])
  refine wpAnyH_take (i := 1) (oi := ⟨_, _, _, _, _, _⟩) (v := ?_) rfl (by kernel_rfl) (by kernel_rfl) (by kernel_rfl) (fun _ _ _ h => h) (Or.inl ⟨by rfl, ?_⟩) (by assumption) ?_
  rotate_left
  · intro wS hSw
    go_simp; (try with_reducible rfl)
  (try simp only [Act.put])
  (try simp only [List.setIfInBounds_toArray])
  (try simp only [List.set_cons_succ])
  (try simp only [List.set_cons_zero])
  refine wpAnyH_take (i := 2) (oi := ⟨_, _, _, _, _, _⟩) (v := ?_) rfl (by kernel_rfl) (by kernel_rfl) (by kernel_rfl) (fun _ _ _ h => h) (Or.inl ⟨by rfl, ?_⟩) (by assumption) ?_
  rotate_left
  · intro wS hSw
    go_simp; (try with_reducible rfl)
  (try simp only [Act.put])
  (try simp only [List.setIfInBounds_toArray])
  (try simp only [List.set_cons_succ])
  (try simp only [List.set_cons_zero])
  refine wpAnyH_take (i := 3) (oi := ⟨_, _, _, _, _, _⟩) (v := ?_) rfl (by kernel_rfl) (by kernel_rfl) (by kernel_rfl) (fun _ _ _ h => h) (Or.inl ⟨by rfl, ?_⟩) (by assumption) ?_
  rotate_left
  · intro wS hSw
    have c := ceA_0 hSw; go_simp; (try with_reducible rfl)
  (try simp only [Act.put])
  (try simp only [List.setIfInBounds_toArray])
  (try simp only [List.set_cons_succ])
  (try simp only [List.set_cons_zero])
  refine wpAnyH_take (i := 4) (oi := ⟨_, _, _, _, _, _⟩) (v := ?_) rfl (by kernel_rfl) (by kernel_rfl) (by kernel_rfl) (fun _ _ _ h => h) (Or.inl ⟨by rfl, ?_⟩) (by assumption) ?_
  rotate_left
  · intro wS hSw
    go_simp; (try with_reducible rfl)
  (try simp only [Act.put])
  (try simp only [List.setIfInBounds_toArray])
  (try simp only [List.set_cons_succ])
  (try simp only [List.set_cons_zero])
  refine wpAnyH_take (i := 5) (oi := ⟨_, _, _, _, _, _⟩) (v := ?_) rfl (by kernel_rfl) (by kernel_rfl) (by kernel_rfl) (fun _ _ _ h => h) (Or.inl ⟨by rfl, ?_⟩) (by assumption) ?_
  rotate_left
  · intro wS hSw
    go_simp; (try with_reducible rfl)
  (try simp only [Act.put])
  (try simp only [List.setIfInBounds_toArray])
  (try simp only [List.set_cons_succ])
  (try simp only [List.set_cons_zero])
  refine wpAnyH_take (i := 6) (oi := ⟨_, _, _, _, _, _⟩) (v := ?_) rfl (by kernel_rfl) (by kernel_rfl) (by kernel_rfl) (fun _ _ _ h => h) (Or.inl ⟨by rfl, ?_⟩) (by assumption) ?_
  rotate_left
  · intro wS hSw
    go_simp; (try with_reducible rfl)
  (try simp only [Act.put])
  (try simp only [List.setIfInBounds_toArray])
  (try simp only [List.set_cons_succ])
  (try simp only [List.set_cons_zero])
  refine wpAnyH_take (i := 7) (oi := ⟨_, _, _, _, _, _⟩) (v := ?_) rfl (by kernel_rfl) (by kernel_rfl) (by kernel_rfl) (fun _ _ _ h => h) (Or.inl ⟨by rfl, ?_⟩) (by assumption) ?_
  rotate_left
  · intro wS hSw
    have c := ceA_2 hSw; go_simp; (try with_reducible rfl)
  (try simp only [Act.put])
  (try simp only [List.setIfInBounds_toArray])
  (try simp only [List.set_cons_succ])
  (try simp only [List.set_cons_zero])
  refine wpAnyH_take (i := 8) (oi := ⟨_, _, _, _, _, _⟩) (v := ?_) rfl (by kernel_rfl) (by kernel_rfl) (by kernel_rfl) (fun _ _ _ h => h) (Or.inl ⟨by rfl, ?_⟩) (by assumption) ?_
  rotate_left
  · intro wS hSw
    go_simp; (try with_reducible rfl)
  (try simp only [Act.put])
  (try simp only [List.setIfInBounds_toArray])
  (try simp only [List.set_cons_succ])
  (try simp only [List.set_cons_zero])
  refine wpAnyH_take (i := 10) (oi := ⟨_, _, _, _, _, _⟩) (v := ?_) rfl (by kernel_rfl) (by kernel_rfl) (by kernel_rfl) (fun _ _ _ h => h) (Or.inl ⟨by rfl, ?_⟩) (by assumption) ?_
  rotate_left
  · intro wS hSw
    go_simp; (try with_reducible rfl)
  (try simp only [Act.put])
  (try simp only [List.setIfInBounds_toArray])
  (try simp only [List.set_cons_succ])
  (try simp only [List.set_cons_zero])
  refine wpAnyH_ready (rs := [9]) (by kernel_rfl) (by simp) ?_
  refine AllReadyH.cons (o := ⟨_, _, _, _, _, _⟩) rfl (fun K' hK' => ?_) AllReadyH.nil
  refine (if_pos (by rfl)).mpr ?_
  go_simp
  refine (first_any reg pla _).mono ?_
  rintro e w2 ⟨rfl, hb3⟩
  have hq3 := tr_bl hb3 hq2
  have hd3 := hd2.below hb3
  have hs3 := tr_bl hb3 hs2
  have hk3 := hk2.trans (Kt.of hb3 hb2)
  have hb4 := Nat.le_trans hb hk3.bl.size
  refine hK'.out _ _ hq3 (fun _ => ?_)
  clear hK' hb3 hS0 hq2 hd2 hs2 hk2 hb2
  (try simp only [Act.put])
  (try simp only [List.setIfInBounds_toArray])
  (try simp only [List.set_cons_succ])
  (try simp only [List.set_cons_zero])
  refine wpAnyH_ready (rs := [11]) (by kernel_rfl) (by simp) ?_
  refine AllReadyH.cons (o := ⟨_, _, _, _, _, _⟩) rfl (fun K' hK' => ?_) AllReadyH.nil
  refine (if_pos (by rfl)).mpr ?_
  go_simp
  have hwr := write_any hd3 hb4 (firstN reg pla) (some ⟨gs, 0, none⟩) 64 fr (fun w' hk => ⟨row_pre (ys := []) (by rw [List.append_nil]; exact hk.ty _ _ _ hs3 (by decide) (by decide) (by decide)), by rw [HLN.out]; omega, by unfold maxLen; omega, fun e => by cases e⟩) hw
  rw [HLN.out, HD1.out] at hwr
  refine hwr.mono ?_
  rintro e w3 ⟨rfl, ⟨wv4, hd4⟩, hk4⟩
  have hq4 := hk4.ty _ _ _ hq3 (by decide) (by decide) (by decide)
  have hk5 := hk3.trans hk4
  have hb5 := Nat.le_trans hb hk5.bl.size
  refine hK'.out _ _ hq4 (fun _ => ?_)
  clear hK' hwr hq3 hd3 hs3 hk3 hb4 hk4
  refine wpAnyH_take (i := 12) (oi := ⟨_, _, _, _, _, _⟩) (v := ?_) rfl (by kernel_rfl) (by kernel_rfl) (by kernel_rfl) (fun _ _ _ h => h) (Or.inl ⟨by rfl, ?_⟩) (by assumption) ?_
  rotate_left
  · intro wS hSw
    go_simp; (try with_reducible rfl)
  (try simp only [Act.put])
  (try simp only [List.setIfInBounds_toArray])
  (try simp only [List.set_cons_succ])
  (try simp only [List.set_cons_zero])
  refine wpAnyH_done (by kernel_rfl) ?_ _
  refine HK.out _ _ ?_
  clear HK
  simp only at hd4 ⊢
  by_cases h1 : r1 = 0
  case pos =>
    subst h1
    rw [if_neg (by simp)]
    go_wp2
    refine HK2.out _ _ ?_
    clear HK2
    have c0 := ceA_0 hq4
    go_wp2_with (go_at_call 64; refine (flush_any hd4 hb5).mono ?_; rintro e w5 ⟨rfl, hd6, hk6⟩)
    go_ret
    exact ⟨rfl, hd6, hk5.trans hk6⟩
  case neg =>
    rw [if_pos h1]
    have e1 : (r1 != 0) = true := by rw [bne_iff_ne]; exact h1
    go_wp2
    go_ret
    exact ⟨rfl, ⟨_, hd4⟩, hk5⟩
end
end Go.Proofs.YtejjneamngkmoaaDoor

namespace Go.Proofs.YtejjneamngkmoaaDoor
open Go.RowKit

theorem ce_s0 (g : Nat) (rep reg : Int) (s0 : Nat) (t0 : Tg) (v0 : Value) (s1 : Nat) (t1 : Tg) (v1 : Value) (s : Nat) : 3 + 1 ≤ (ceA g rep reg s0 t0 v0 s1 t1 v1).size ∧ (Value.int .u8 (s : Int)).cells.size = 1 ∧ (∀ u ∈ (Value.int .u8 (s : Int)).cells.toList, u.oneCell' = true) ∧ ((ceA g rep reg s0 t0 v0 s1 t1 v1).toList.take 3 ++ (Value.int .u8 (s : Int)).cells.toList ++ (ceA g rep reg s0 t0 v0 s1 t1 v1).toList.drop (3 + 1)).toArray = ceA g rep reg s t0 v0 s1 t1 v1 :=
  ⟨by show _ ≤ 17; omega, rfl, by simp [Value.cells, Value.oneCell'], rfl⟩
theorem ce_t0 (g : Nat) (rep reg : Int) (s0 : Nat) (t0 : Tg) (v0 : Value) (s1 : Nat) (t1 : Tg) (v1 : Value) (t : Tg) : 4 + 5 ≤ (ceA g rep reg s0 t0 v0 s1 t1 v1).size ∧ (tgV t).cells.size = 5 ∧ (∀ u ∈ (tgV t).cells.toList, u.oneCell' = true) ∧ ((ceA g rep reg s0 t0 v0 s1 t1 v1).toList.take 4 ++ (tgV t).cells.toList ++ (ceA g rep reg s0 t0 v0 s1 t1 v1).toList.drop (4 + 5)).toArray = ceA g rep reg s0 t v0 s1 t1 v1 :=
  ⟨by show _ ≤ 17; omega, rfl, by simp [Value.cells, Value.oneCell'], rfl⟩
theorem ce_v0 (g : Nat) (rep reg : Int) (s0 : Nat) (t0 : Tg) (v0 : Value) (s1 : Nat) (t1 : Tg) (v1 : Value) (a : Option Addr) (n c : Nat) : 9 + 1 ≤ (ceA g rep reg s0 t0 v0 s1 t1 v1).size ∧ (Value.slice a n c).cells.size = 1 ∧ (∀ u ∈ (Value.slice a n c).cells.toList, u.oneCell' = true) ∧ ((ceA g rep reg s0 t0 v0 s1 t1 v1).toList.take 9 ++ (Value.slice a n c).cells.toList ++ (ceA g rep reg s0 t0 v0 s1 t1 v1).toList.drop (9 + 1)).toArray = ceA g rep reg s0 t0 (.slice a n c) s1 t1 v1 :=
  ⟨by show _ ≤ 17; omega, rfl, by simp [Value.cells, Value.oneCell'], rfl⟩
theorem ce_s1 (g : Nat) (rep reg : Int) (s0 : Nat) (t0 : Tg) (v0 : Value) (s1 : Nat) (t1 : Tg) (v1 : Value) (s : Nat) : 10 + 1 ≤ (ceA g rep reg s0 t0 v0 s1 t1 v1).size ∧ (Value.int .u8 (s : Int)).cells.size = 1 ∧ (∀ u ∈ (Value.int .u8 (s : Int)).cells.toList, u.oneCell' = true) ∧ ((ceA g rep reg s0 t0 v0 s1 t1 v1).toList.take 10 ++ (Value.int .u8 (s : Int)).cells.toList ++ (ceA g rep reg s0 t0 v0 s1 t1 v1).toList.drop (10 + 1)).toArray = ceA g rep reg s0 t0 v0 s t1 v1 :=
  ⟨by show _ ≤ 17; omega, rfl, by simp [Value.cells, Value.oneCell'], rfl⟩
theorem ce_t1 (g : Nat) (rep reg : Int) (s0 : Nat) (t0 : Tg) (v0 : Value) (s1 : Nat) (t1 : Tg) (v1 : Value) (t : Tg) : 11 + 5 ≤ (ceA g rep reg s0 t0 v0 s1 t1 v1).size ∧ (tgV t).cells.size = 5 ∧ (∀ u ∈ (tgV t).cells.toList, u.oneCell' = true) ∧ ((ceA g rep reg s0 t0 v0 s1 t1 v1).toList.take 11 ++ (tgV t).cells.toList ++ (ceA g rep reg s0 t0 v0 s1 t1 v1).toList.drop (11 + 5)).toArray = ceA g rep reg s0 t0 v0 s1 t v1 :=
  ⟨by show _ ≤ 17; omega, rfl, by simp [Value.cells, Value.oneCell'], rfl⟩
theorem ce_v1 (g : Nat) (rep reg : Int) (s0 : Nat) (t0 : Tg) (v0 : Value) (s1 : Nat) (t1 : Tg) (v1 : Value) (a : Option Addr) (n c : Nat) : 16 + 1 ≤ (ceA g rep reg s0 t0 v0 s1 t1 v1).size ∧ (Value.slice a n c).cells.size = 1 ∧ (∀ u ∈ (Value.slice a n c).cells.toList, u.oneCell' = true) ∧ ((ceA g rep reg s0 t0 v0 s1 t1 v1).toList.take 16 ++ (Value.slice a n c).cells.toList ++ (ceA g rep reg s0 t0 v0 s1 t1 v1).toList.drop (16 + 1)).toArray = ceA g rep reg s0 t0 v0 s1 t1 (.slice a n c) :=
  ⟨by show _ ≤ 17; omega, rfl, by simp [Value.cells, Value.oneCell'], rfl⟩
def ceZ (g : Nat) (rep reg : Int) : Array Value := ceA g rep reg 0 zeroTg (.slice none 0 0) 0 zeroTg (.slice none 0 0)
theorem build_ce (g : Nat) (rep reg : Int) (w : World) : (Instr.build 126 #[(0, .pointer (some ⟨g, 0, none⟩)), (1, .int .i64 rep), (2, .int .i64 reg)]).run Tryd.prog w = .ok (.agg (ceZ g rep reg)) w := by kernel_rfl
theorem lastW_mem : ∀ {l : List (List UInt8 × Nat)} {s : Nat} {b : List UInt8}, lastW l s = some b → ∃ x ∈ l, x.1 = b
  | [], _, _, h => by cases h
  | (c, k) :: l, s, b, h => by
    unfold lastW at h
    cases hl : lastW l s with
    | some x =>
      rw [hl] at h
      simp only [Option.some.injEq] at h
      subst h
      obtain ⟨y, hy, e⟩ := lastW_mem hl
      exact ⟨y, List.mem_cons_of_mem _ hy, e⟩
    | none =>
      rw [hl] at h
      simp only at h
      split at h
      · injection h with h
        exact ⟨(c, k), List.mem_cons_self, h⟩
      · cases h
theorem read_len {B g gp : Nat} {wv : Value} {d : Dk} {w : World} (h : DiskB B g gp wv d w) (s : Int) : ((readD d s).2 = 0 → (readD d s).1.length = 64) ∧ ((readD d s).2 ≠ 0 → (readD d s).1 = []) := by
  unfold readD
  by_cases h0 : liveD d s = 0
  · rw [if_neg (by simpa using h0)]
    cases hl : lastW d.waits s.toNat with
    | some b =>
      obtain ⟨x, hx, e⟩ := lastW_mem hl
      simp only
      exact ⟨fun _ => by rw [← e]; exact (h.wk x hx).1, fun hh => absurd rfl hh⟩
    | none =>
      simp only
      cases hp : d.pl[s.toNat]? with
      | none => exact ⟨(fun hh => by cases hh), fun _ => rfl⟩
      | some p =>
        simp only
        by_cases hlo : p.lost = true
        · rw [if_pos hlo]
          exact ⟨(fun hh => by cases hh), fun _ => rfl⟩
        · rw [if_neg hlo]
          exact ⟨fun _ => (h.ok p (List.mem_of_getElem? hp)).1, fun hh => absurd rfl hh⟩
  · rw [if_pos (by simpa using h0)]
    exact ⟨fun hh => absurd hh h0, fun _ => rfl⟩
/-- A read, as one slice. -/
theorem read_slb {B g gp : Nat} {wv : Value} {d : Dk} {w : World} (h : DiskB B g gp wv d w) (s : Int) : Calls Tryd.prog 93 #[.pointer (some ⟨g, 0, none⟩), .int .i64 s] w fun e w' => (∃ a c, e = .returned (.tuple #[.slice a (readD d s).1.length c, .int .i64 (readD d s).2]) ∧ SlB w' a c (readD d s).1) ∧ Below w.heap.size w w' := by
  obtain ⟨h1, h2⟩ := read_len h s
  refine (read_any h s).mono ?_
  rintro e w' ⟨hr, hb⟩
  refine ⟨?_, hb⟩
  unfold ReadRes at hr
  by_cases h0 : (readD d s).2 = 0
  · rw [if_pos h0] at hr
    obtain ⟨a, c, rfl, ho⟩ := hr
    rw [h1 h0, h0]
    obtain ⟨_, _, e, hs⟩ := SlB.of_owns (l := (readD d s).1) (by rw [h1 h0]; exact ho)
    rw [h1 h0] at e
    cases e
    exact ⟨a, c, rfl, hs⟩
  · rw [if_neg h0] at hr
    rw [h2 h0]
    exact ⟨none, 0, hr, ⟨.inl rfl, Nat.le_refl _, by simp, fun _ => rfl⟩⟩
end Go.Proofs.YtejjneamngkmoaaDoor

namespace Go.Proofs.YtejjneamngkmoaaDoor
open Go.RowKit

/-- What open hands back. -/
def OpenRes (base g : Nat) (d : Dk) (rep reg : Int) (e : Ending) (w' : World) : Prop :=
  if openC d rep reg = 0 then ∃ q a0 k0 a1 k1, e = .returned (.tuple #[.pointer (some ⟨q, 0, none⟩), .int .i64 0]) ∧ base ≤ q ∧
    w'.heap[q]? = some (.cells (ceA g rep reg (copyC d rep reg 0).st (copyC d rep reg 0).tg (.slice a0 (copyC d rep reg 0).body.length k0) (copyC d rep reg 1).st (copyC d rep reg 1).tg (.slice a1 (copyC d rep reg 1).body.length k1)) 126 (0, 0)) ∧
    OwnB w' base a0 k0 (copyC d rep reg 0).body ∧ OwnB w' base a1 k1 (copyC d rep reg 1).body
  else e = .returned (.tuple #[.pointer none, .int .i64 (openC d rep reg)])
theorem OpenRes.err {base g : Nat} {d : Dk} {rep reg x : Int} {w' : World} (h : openC d rep reg = x) (hx : x ≠ 0) : OpenRes base g d rep reg (.returned (.tuple #[.pointer none, .int .i64 x])) w' := by
  unfold OpenRes
  rw [h, if_neg hx]
def CpIn (w' : World) (base q g : Nat) (rep reg : Int) (c0 c1 : Cp) : Nat → Prop
  | 0 => w'.heap[q]? = some (.cells (ceZ g rep reg) 126 (0, 0))
  | 1 => ∃ a0 k0, w'.heap[q]? = some (.cells (ceA g rep reg c0.st c0.tg (.slice a0 c0.body.length k0) 0 zeroTg (.slice none 0 0)) 126 (0, 0)) ∧ OwnB w' base a0 k0 c0.body
  | _ => ∃ a0 k0 a1 k1, w'.heap[q]? = some (.cells (ceA g rep reg c0.st c0.tg (.slice a0 c0.body.length k0) c1.st c1.tg (.slice a1 c1.body.length k1)) 126 (0, 0)) ∧ OwnB w' base a0 k0 c0.body ∧ OwnB w' base a1 k1 c1.body
section
variable {B g gp : Nat} {wv : Value} {d : Dk} {w : World}
set_option maxRecDepth 100000 in
set_option maxHeartbeats 1000000 in
theorem copen_err (h : DiskB B g gp wv d w) (rep reg : Int) (ho : openC d rep reg ≠ 0) : Calls Tryd.prog 60 #[.pointer (some ⟨g, 0, none⟩), .int .i64 rep, .int .i64 reg] w fun e w' => OpenRes w.heap.size g d rep reg e w' ∧ Below w.heap.size w w' := by
  have h0 : ((d.pl.length : Int) == 0) = false := by have := h.n0; rw [beq_eq_false_iff_ne]; omega
  have hn : ¬ d.pl.length = 0 := by have := h.n0; omega
  unfold openC at ho
  rw [if_neg hn] at ho
  by_cases hc : d.pl.length < 156 ∨ (reg ≠ 1 ∧ reg ≠ 2) ∨ rep < 0 ∨ 7 ≤ rep
  case pos =>
    have HO := Lib.hid (show openC d rep reg = 2 by unfold openC; rw [if_neg hn, if_pos hc])
    have HU := Lib.hid (rfl : upD d = upD d)
    clear ho hn
    by_cases k1 : d.pl.length < 156
    case pos =>
      have e1 : (d.pl.length : Int) < 156 := by omega
      go_enter Tryd.func60, Tryd.ntmps60
      go_wp2_with (first
        | (go_at_call 55; refine (dsize ‹_›).mono ?_; rintro e w1 ⟨rfl, rfl⟩)
        | (go_at_call 82; refine (all_any _).mono ?_; rintro e w1 ⟨rfl, hb1⟩; have h1 := h.below hb1)
        | (go_at_call 34; refine (up_any h1).mono ?_; rintro e w2 ⟨rfl, rfl⟩; rw [HU.out]))
      go_ret2
      exact ⟨OpenRes.err HO.out (by decide), hb1⟩
    case neg =>
      have e1 : ¬ (d.pl.length : Int) < 156 := by omega
      by_cases k2 : reg ≠ 1 ∧ reg ≠ 2
      case pos =>
        have e2 : (reg != 1) = true := by rw [bne_iff_ne]; exact k2.1
        have e3 : (reg != 2) = true := by rw [bne_iff_ne]; exact k2.2
        clear k2 hc
        go_enter Tryd.func60, Tryd.ntmps60
        go_wp2_with (first
          | (go_at_call 55; refine (dsize ‹_›).mono ?_; rintro e w1 ⟨rfl, rfl⟩)
          | (go_at_call 82; refine (all_any _).mono ?_; rintro e w1 ⟨rfl, hb1⟩; have h1 := h.below hb1)
          | (go_at_call 34; refine (up_any h1).mono ?_; rintro e w2 ⟨rfl, rfl⟩; rw [HU.out]))
        go_ret2
        exact ⟨OpenRes.err HO.out (by decide), hb1⟩
      case neg =>
        have hc' : rep < 0 ∨ 7 ≤ rep := by
          rcases hc with h | h | h
          · exact absurd h k1
          · exact absurd h k2
          · exact h
        have hr : reg = 1 ∨ reg = 2 := by omega
        clear k2 hc
        rcases hr with rfl | rfl
        · rcases hc' with k3 | k3
          · skip
            go_enter Tryd.func60, Tryd.ntmps60
            go_wp2_with (first
              | (go_at_call 55; refine (dsize ‹_›).mono ?_; rintro e w1 ⟨rfl, rfl⟩)
              | (go_at_call 82; refine (all_any _).mono ?_; rintro e w1 ⟨rfl, hb1⟩; have h1 := h.below hb1)
              | (go_at_call 34; refine (up_any h1).mono ?_; rintro e w2 ⟨rfl, rfl⟩; rw [HU.out]))
            go_ret2
            exact ⟨OpenRes.err HO.out (by decide), hb1⟩
          · have k4 : ¬ rep < 0 := by omega
            go_enter Tryd.func60, Tryd.ntmps60
            go_wp2_with (first
              | (go_at_call 55; refine (dsize ‹_›).mono ?_; rintro e w1 ⟨rfl, rfl⟩)
              | (go_at_call 82; refine (all_any _).mono ?_; rintro e w1 ⟨rfl, hb1⟩; have h1 := h.below hb1)
              | (go_at_call 34; refine (up_any h1).mono ?_; rintro e w2 ⟨rfl, rfl⟩; rw [HU.out]))
            go_ret2
            exact ⟨OpenRes.err HO.out (by decide), hb1⟩
        · rcases hc' with k3 | k3
          · skip
            go_enter Tryd.func60, Tryd.ntmps60
            go_wp2_with (first
              | (go_at_call 55; refine (dsize ‹_›).mono ?_; rintro e w1 ⟨rfl, rfl⟩)
              | (go_at_call 82; refine (all_any _).mono ?_; rintro e w1 ⟨rfl, hb1⟩; have h1 := h.below hb1)
              | (go_at_call 34; refine (up_any h1).mono ?_; rintro e w2 ⟨rfl, rfl⟩; rw [HU.out]))
            go_ret2
            exact ⟨OpenRes.err HO.out (by decide), hb1⟩
          · have k4 : ¬ rep < 0 := by omega
            go_enter Tryd.func60, Tryd.ntmps60
            go_wp2_with (first
              | (go_at_call 55; refine (dsize ‹_›).mono ?_; rintro e w1 ⟨rfl, rfl⟩)
              | (go_at_call 82; refine (all_any _).mono ?_; rintro e w1 ⟨rfl, hb1⟩; have h1 := h.below hb1)
              | (go_at_call 34; refine (up_any h1).mono ?_; rintro e w2 ⟨rfl, rfl⟩; rw [HU.out]))
            go_ret2
            exact ⟨OpenRes.err HO.out (by decide), hb1⟩
  case neg =>
    rw [if_neg hc] at ho
    have hu : upD d = false := by
      cases hu : upD d
      · rfl
      · rw [hu] at ho
        simp at ho
    have HO := Lib.hid (show openC d rep reg = 5 by unfold openC; rw [if_neg hn, if_neg hc, if_pos hu])
    have HU := Lib.hid hu
    have e1 : ¬ (d.pl.length : Int) < 156 := by omega
    have k3 : 0 ≤ rep := by omega
    have k4 : rep < 7 := by omega
    have hr : reg = 1 ∨ reg = 2 := by omega
    clear ho hn hc hu
    rcases hr with rfl | rfl
    · skip
      go_enter Tryd.func60, Tryd.ntmps60
      go_wp2_with (first
        | (go_at_call 55; refine (dsize ‹_›).mono ?_; rintro e w1 ⟨rfl, rfl⟩)
        | (go_at_call 82; refine (all_any _).mono ?_; rintro e w1 ⟨rfl, hb1⟩; have h1 := h.below hb1)
        | (go_at_call 34; refine (up_any h1).mono ?_; rintro e w2 ⟨rfl, rfl⟩; rw [HU.out]))
      go_ret2
      exact ⟨OpenRes.err HO.out (by decide), hb1⟩
    · skip
      go_enter Tryd.func60, Tryd.ntmps60
      go_wp2_with (first
        | (go_at_call 55; refine (dsize ‹_›).mono ?_; rintro e w1 ⟨rfl, rfl⟩)
        | (go_at_call 82; refine (all_any _).mono ?_; rintro e w1 ⟨rfl, hb1⟩; have h1 := h.below hb1)
        | (go_at_call 34; refine (up_any h1).mono ?_; rintro e w2 ⟨rfl, rfl⟩; rw [HU.out]))
      go_ret2
      exact ⟨OpenRes.err HO.out (by decide), hb1⟩
end
end Go.Proofs.YtejjneamngkmoaaDoor

namespace Go.Proofs.YtejjneamngkmoaaDoor
open Go.RowKit

section
variable {B g gp : Nat} {wv : Value} {d : Dk} {w : World}
set_option maxRecDepth 100000 in
set_option maxHeartbeats 2000000 in
theorem copen_ok (h : DiskB B g gp wv d w) (rep reg : Int) (ho : openC d rep reg = 0) : Calls Tryd.prog 60 #[.pointer (some ⟨g, 0, none⟩), .int .i64 rep, .int .i64 reg] w fun e w' => OpenRes w.heap.size g d rep reg e w' ∧ Below w.heap.size w w' := by
  have h0 : ((d.pl.length : Int) == 0) = false := by have := h.n0; rw [beq_eq_false_iff_ne]; omega
  have HO := Lib.hid ho
  unfold openC at ho
  rw [if_neg (by have := h.n0; omega)] at ho
  obtain ⟨e1, hr, k3, k4, hu⟩ : 156 ≤ d.pl.length ∧ (reg = 1 ∨ reg = 2) ∧ 0 ≤ rep ∧ rep < 7 ∧ upD d = true := by
    split at ho
    · cases ho
    · split at ho
      · cases ho
      · rename_i h1 h2
        refine ⟨by omega, by omega, by omega, by omega, by simpa using h2⟩
  have e2 : ¬ (d.pl.length : Int) < 156 := by omega
  have r1 : ((reg != 1) = true ∧ (reg != 2) = false) ∨ (reg != 1) = false := by
    rcases hr with rfl | rfl
    · exact .inr rfl
    · exact .inl ⟨rfl, rfl⟩
  have HU := Lib.hid hu
  have HR := Lib.hid hr
  clear ho hu hr
  go_enter Tryd.func60, Tryd.ntmps60
  refine wp_seq_k (fun K hK => ?_)
  have HK := Lib.hid hK
  clear hK
  go_wp2
  refine HK.out _ _ ?_
  clear HK
  refine wp_seq_k (fun K hK => ?_)
  go_cut [0] (fun v w' => v = .pointer (some ⟨g, 0, none⟩) ∧ Below w.heap.size w w')
  case first =>
    rcases r1 with ⟨r1, r2⟩ | r1
    all_goals
      go_wp2_with (first
        | (go_at_call 55; refine (dsize ‹_›).mono ?_; rintro e w1 ⟨rfl, rfl⟩)
        | (go_at_call 82; refine (all_any _).mono ?_; rintro e w1 ⟨rfl, hb1⟩; have h1 := h.below hb1)
        | (go_at_call 34; refine (up_any h1).mono ?_; rintro e w2 ⟨rfl, rfl⟩; rw [HU.out]))
      go_meet
      exact ⟨rfl, hb1⟩
  obtain ⟨rfl, hbc⟩ := hcut
  refine hK _ _ ?_
  clear hK
  refine wp_seq_k (fun K hK => ?_)
  have HK := Lib.hid hK
  clear hK
  go_wp2
  refine HK.out _ _ ?_
  clear HK
  change Code.wp _ _ _ _ (wc.alloc (Obj.cells (ceZ g rep reg) 126))
  have hbox := heap_alloc_new wc (Obj.cells (ceZ g rep reg) 126)
  have hbr := hbc.alloc hbc.size (Obj.cells (ceZ g rep reg) 126)
  have hq := hbc.size
  generalize wc.alloc (Obj.cells (ceZ g rep reg) 126) = wd at *
  generalize wc.heap.size = q at *
  clear h0 e2 r1 hbc
  refine wp_seq_k (fun K hK => ?_)
  have HK := Lib.hid hK
  clear hK
  go_wp2_with fail
  go_loopw [46] (fun i wr => ∃ j : Nat, j ≤ 2 ∧ i = .int .i64 (j : Nat) ∧ CpIn wr w.heap.size q g rep reg (copyC d rep reg 0) (copyC d rep reg 1) j ∧ Below w.heap.size w wr) (fun i _ => 2 - (intOf i).toNat)
  case atStart => exact ⟨0, by omega, rfl, hbox, hbr⟩
  case round =>
    clear hbox hbr
    obtain ⟨j, hj, rfl, hin, hbr⟩ := hrel
    have h2 : j = 0 ∨ j = 1 ∨ j = 2 := by omega
    rcases h2 with rfl | rfl | rfl
    · have hbox : wr.heap[q]? = some (.cells (ceZ g rep reg) 126 (0, 0)) := hin
      clear hin
      have hdr := h.below hbr
      obtain ⟨bs, re, hbs⟩ : ∃ bs re, readD d (firstN reg 0) = (bs, re) := ⟨_, _, rfl⟩
      obtain ⟨st, tg, body, hmi⟩ : ∃ st tg body, mineF bs rep reg 0 = (st, tg, body) := ⟨_, _, _, rfl⟩
      have hcp : copyC d rep reg 0 = ⟨st, tg, body⟩ := by unfold copyC; rw [hbs]; simp only; rw [hmi]
      have hbl : bs.length ≤ 1000 := by
        have := read_len hdr (firstN reg 0)
        rw [hbs] at this
        simp only at this
        by_cases h0 : re = 0
        · rw [this.1 h0]; omega
        · rw [this.2 h0]; simp
      have HBS := Lib.hid hbs
      have HMI := Lib.hid hmi
      have HCP := Lib.hid hcp
      clear hbs hmi hcp
      refine wp_seq_k (fun K hK => ?_)
      have HK := Lib.hid hK
      clear hK
      go_wp2
      refine HK.out _ _ ?_
      clear HK
      refine wp_seq_k (fun K hK => ?_)
      have HK := Lib.hid hK
      clear hK
      go_wp2
      refine HK.out _ _ ?_
      clear HK
      refine wp_seq_k (fun K hK => ?_)
      have HK9 := Lib.hid hK
      clear hK
      go_wp2_with (first
        | (go_at_call 32; refine (first_any reg 0 _).mono ?_; rintro e w1 ⟨rfl, hb1⟩; have hd1 := hdr.below hb1; have A1 := tr_bl hb1 hbox)
        | (go_at_call 93; have hrd := read_slb hd1 (firstN reg 0); rw [HBS.out] at hrd; refine hrd.mono ?_; rintro e w2 ⟨⟨a2, c2, rfl, hs2⟩, hb2⟩; clear hrd))
      have A2 := tr_bl hb2 A1
      have hb12 := hb1.trans (hb2.mono hb1.size)
      have hb3 := hbr.trans (hb12.mono hbr.size)
      clear A1 hb1 hb2 hd1 hdr
      have hbd := (Below.refl w2.heap.size w2).drew
      have A3 := tr_bl hbd A2
      have hs3 := hs2.below hbd
      have hb4 := hb3.trans (hbd.mono hb3.size)
      refine wp_region_held_drew (S := fun _ => True) (by kernel_rfl) trivial (fun hS0 => ?_)
      clear A2 hs2 hb3
      generalize w2.drew = x0 at *
      refine wpAnyH_take (i := 0) (oi := ⟨_, _, _, _, _, _⟩) (v := ?_) rfl (by kernel_rfl) (by kernel_rfl) (by kernel_rfl) (fun _ _ _ h => h) (Or.inl ⟨by rfl, ?_⟩) (by assumption) ?_
      rotate_left
      · intro wS hSw
        go_simp; (try with_reducible rfl)
      (try simp only [Act.put])
      (try simp only [List.setIfInBounds_toArray])
      (try simp only [List.set_cons_succ])
      (try simp only [List.set_cons_zero])
      refine wpAnyH_take (i := 1) (oi := ⟨_, _, _, _, _, _⟩) (v := ?_) rfl (by kernel_rfl) (by kernel_rfl) (by kernel_rfl) (fun _ _ _ h => h) (Or.inl ⟨by rfl, ?_⟩) (by assumption) ?_
      rotate_left
      · intro wS hSw
        go_simp; (try with_reducible rfl)
      (try simp only [Act.put])
      (try simp only [List.setIfInBounds_toArray])
      (try simp only [List.set_cons_succ])
      (try simp only [List.set_cons_zero])
      refine wpAnyH_take (i := 2) (oi := ⟨_, _, _, _, _, _⟩) (v := ?_) rfl (by kernel_rfl) (by kernel_rfl) (by kernel_rfl) (fun _ _ _ h => h) (Or.inl ⟨by rfl, ?_⟩) (by assumption) ?_
      rotate_left
      · intro wS hSw
        go_simp; (try with_reducible rfl)
      (try simp only [Act.put])
      (try simp only [List.setIfInBounds_toArray])
      (try simp only [List.set_cons_succ])
      (try simp only [List.set_cons_zero])
      refine wpAnyH_take (i := 3) (oi := ⟨_, _, _, _, _, _⟩) (v := ?_) rfl (by kernel_rfl) (by kernel_rfl) (by kernel_rfl) (fun _ _ _ h => h) (Or.inl ⟨by rfl, ?_⟩) (by assumption) ?_
      rotate_left
      · intro wS hSw
        go_simp; (try with_reducible rfl)
      (try simp only [Act.put])
      (try simp only [List.setIfInBounds_toArray])
      (try simp only [List.set_cons_succ])
      (try simp only [List.set_cons_zero])
      refine wpAnyH_take (i := 4) (oi := ⟨_, _, _, _, _, _⟩) (v := ?_) rfl (by kernel_rfl) (by kernel_rfl) (by kernel_rfl) (fun _ _ _ h => h) (Or.inl ⟨by rfl, ?_⟩) (by assumption) ?_
      rotate_left
      · intro wS hSw
        go_simp; (try with_reducible rfl)
      (try simp only [Act.put])
      (try simp only [List.setIfInBounds_toArray])
      (try simp only [List.set_cons_succ])
      (try simp only [List.set_cons_zero])
      refine wpAnyH_take (i := 5) (oi := ⟨_, _, _, _, _, _⟩) (v := ?_) rfl (by kernel_rfl) (by kernel_rfl) (by kernel_rfl) (fun _ _ _ h => h) (Or.inl ⟨by rfl, ?_⟩) (by assumption) ?_
      rotate_left
      · intro wS hSw
        go_simp; (try with_reducible rfl)
      (try simp only [Act.put])
      (try simp only [List.setIfInBounds_toArray])
      (try simp only [List.set_cons_succ])
      (try simp only [List.set_cons_zero])
      refine wpAnyH_take (i := 6) (oi := ⟨_, _, _, _, _, _⟩) (v := ?_) rfl (by kernel_rfl) (by kernel_rfl) (by kernel_rfl) (fun _ _ _ h => h) (Or.inl ⟨by rfl, ?_⟩) (by assumption) ?_
      rotate_left
      · intro wS hSw
        go_simp; (try with_reducible rfl)
      (try simp only [Act.put])
      (try simp only [List.setIfInBounds_toArray])
      (try simp only [List.set_cons_succ])
      (try simp only [List.set_cons_zero])
      refine wpAnyH_take (i := 7) (oi := ⟨_, _, _, _, _, _⟩) (v := ?_) rfl (by kernel_rfl) (by kernel_rfl) (by kernel_rfl) (fun _ _ _ h => h) (Or.inl ⟨by rfl, ?_⟩) (by assumption) ?_
      rotate_left
      · intro wS hSw
        go_simp; (try with_reducible rfl)
      (try simp only [Act.put])
      (try simp only [List.setIfInBounds_toArray])
      (try simp only [List.set_cons_succ])
      (try simp only [List.set_cons_zero])
      refine wpAnyH_take (i := 8) (oi := ⟨_, _, _, _, _, _⟩) (v := ?_) rfl (by kernel_rfl) (by kernel_rfl) (by kernel_rfl) (fun _ _ _ h => h) (Or.inl ⟨by rfl, ?_⟩) (by assumption) ?_
      rotate_left
      · intro wS hSw
        go_simp; (try with_reducible rfl)
      (try simp only [Act.put])
      (try simp only [List.setIfInBounds_toArray])
      (try simp only [List.set_cons_succ])
      (try simp only [List.set_cons_zero])
      refine wpAnyH_take (i := 9) (oi := ⟨_, _, _, _, _, _⟩) (v := ?_) rfl (by kernel_rfl) (by kernel_rfl) (by kernel_rfl) (fun _ _ _ h => h) (Or.inl ⟨by rfl, ?_⟩) (by assumption) ?_
      rotate_left
      · intro wS hSw
        go_simp; (try with_reducible rfl)
      (try simp only [Act.put])
      (try simp only [List.setIfInBounds_toArray])
      (try simp only [List.set_cons_succ])
      (try simp only [List.set_cons_zero])
      refine wpAnyH_take (i := 15) (oi := ⟨_, _, _, _, _, _⟩) (v := ?_) rfl (by kernel_rfl) (by kernel_rfl) (by kernel_rfl) (fun _ _ _ h => h) (Or.inl ⟨by rfl, ?_⟩) (by assumption) ?_
      rotate_left
      · intro wS hSw
        go_simp; (try with_reducible rfl)
      (try simp only [Act.put])
      (try simp only [List.setIfInBounds_toArray])
      (try simp only [List.set_cons_succ])
      (try simp only [List.set_cons_zero])
      refine wpAnyH_take (i := 16) (oi := ⟨_, _, _, _, _, _⟩) (v := ?_) rfl (by kernel_rfl) (by kernel_rfl) (by kernel_rfl) (fun _ _ _ h => h) (Or.inl ⟨by rfl, ?_⟩) (by assumption) ?_
      rotate_left
      · intro wS hSw
        go_simp; (try with_reducible rfl)
      (try simp only [Act.put])
      (try simp only [List.setIfInBounds_toArray])
      (try simp only [List.set_cons_succ])
      (try simp only [List.set_cons_zero])
      refine wpAnyH_take (i := 20) (oi := ⟨_, _, _, _, _, _⟩) (v := ?_) rfl (by kernel_rfl) (by kernel_rfl) (by kernel_rfl) (fun _ _ _ h => h) (Or.inl ⟨by rfl, ?_⟩) (by assumption) ?_
      rotate_left
      · intro wS hSw
        go_simp; (try with_reducible rfl)
      (try simp only [Act.put])
      (try simp only [List.setIfInBounds_toArray])
      (try simp only [List.set_cons_succ])
      (try simp only [List.set_cons_zero])
      refine wpAnyH_take (i := 21) (oi := ⟨_, _, _, _, _, _⟩) (v := ?_) rfl (by kernel_rfl) (by kernel_rfl) (by kernel_rfl) (fun _ _ _ h => h) (Or.inl ⟨by rfl, ?_⟩) (by assumption) ?_
      rotate_left
      · intro wS hSw
        go_simp; (try with_reducible rfl)
      (try simp only [Act.put])
      (try simp only [List.setIfInBounds_toArray])
      (try simp only [List.set_cons_succ])
      (try simp only [List.set_cons_zero])
      refine wpAnyH_take (i := 25) (oi := ⟨_, _, _, _, _, _⟩) (v := ?_) rfl (by kernel_rfl) (by kernel_rfl) (by kernel_rfl) (fun _ _ _ h => h) (Or.inl ⟨by rfl, ?_⟩) (by assumption) ?_
      rotate_left
      · intro wS hSw
        go_simp; (try with_reducible rfl)
      (try simp only [Act.put])
      (try simp only [List.setIfInBounds_toArray])
      (try simp only [List.set_cons_succ])
      (try simp only [List.set_cons_zero])
      refine wpAnyH_take (i := 26) (oi := ⟨_, _, _, _, _, _⟩) (v := ?_) rfl (by kernel_rfl) (by kernel_rfl) (by kernel_rfl) (fun _ _ _ h => h) (Or.inl ⟨by rfl, ?_⟩) (by assumption) ?_
      rotate_left
      · intro wS hSw
        go_simp; (try with_reducible rfl)
      (try simp only [Act.put])
      (try simp only [List.setIfInBounds_toArray])
      (try simp only [List.set_cons_succ])
      (try simp only [List.set_cons_zero])
      refine wpAnyH_ready (rs := [10]) (by kernel_rfl) (by simp) ?_
      refine AllReadyH.cons (o := ⟨_, _, _, _, _, _⟩) rfl (fun K' hK' => ?_) AllReadyH.nil
      refine (if_pos (by rfl)).mpr ?_
      go_simp
      refine (mine_any a2 c2 bs rep reg 0 _ hs3 hbl).mono ?_
      rintro e w3 ⟨⟨a4, c4, rfl, ho4⟩, hb5⟩
      rw [HMI.out] at ho4 ⊢
      simp only at ho4 ⊢
      have A4 := tr_bl hb5 A3
      have hb6 := hb4.trans (hb5.mono hb4.size)
      have ho5 := ho4.mono hb4.size
      have ox := OwnB.none w3 w.heap.size
      refine hK'.out _ _ trivial (fun _ => ?_)
      clear hK' A3 hs3 hb4 hb5 ho4 hbd
      (try simp only [Act.put])
      (try simp only [List.setIfInBounds_toArray])
      (try simp only [List.set_cons_succ])
      (try simp only [List.set_cons_zero])
      refine wpAnyH_take (i := 11) (oi := ⟨_, _, _, _, _, _⟩) (v := ?_) rfl (by kernel_rfl) (by kernel_rfl) (by kernel_rfl) (fun _ _ _ h => h) (Or.inl ⟨by rfl, ?_⟩) (by assumption) ?_
      rotate_left
      · intro wS hSw
        go_simp; (try with_reducible rfl)
      (try simp only [Act.put])
      (try simp only [List.setIfInBounds_toArray])
      (try simp only [List.set_cons_succ])
      (try simp only [List.set_cons_zero])
      refine wpAnyH_take (i := 12) (oi := ⟨_, _, _, _, _, _⟩) (v := ?_) rfl (by kernel_rfl) (by kernel_rfl) (by kernel_rfl) (fun _ _ _ h => h) (Or.inl ⟨by rfl, ?_⟩) (by assumption) ?_
      rotate_left
      · intro wS hSw
        go_simp; (try with_reducible rfl)
      (try simp only [Act.put])
      (try simp only [List.setIfInBounds_toArray])
      (try simp only [List.set_cons_succ])
      (try simp only [List.set_cons_zero])
      refine wpAnyH_take (i := 13) (oi := ⟨_, _, _, _, _, _⟩) (v := ?_) rfl (by kernel_rfl) (by kernel_rfl) (by kernel_rfl) (fun _ _ _ h => h) (Or.inl ⟨by rfl, ?_⟩) (by assumption) ?_
      rotate_left
      · intro wS hSw
        go_simp; (try with_reducible rfl)
      (try simp only [Act.put])
      (try simp only [List.setIfInBounds_toArray])
      (try simp only [List.set_cons_succ])
      (try simp only [List.set_cons_zero])
      refine wpAnyH_take (i := 14) (oi := ⟨_, _, _, _, _, _⟩) (v := ?_) rfl (by kernel_rfl) (by kernel_rfl) (by kernel_rfl) (fun _ _ _ h => h) (Or.inl ⟨by rfl, ?_⟩) (by assumption) ?_
      rotate_left
      · intro wS hSw
        go_simp; (try with_reducible rfl)
      (try simp only [Act.put])
      (try simp only [List.setIfInBounds_toArray])
      (try simp only [List.set_cons_succ])
      (try simp only [List.set_cons_zero])
      refine wpAnyH_take (i := 17) (oi := ⟨_, _, _, _, _, _⟩) (v := ?_) rfl (by kernel_rfl) (by kernel_rfl) (by kernel_rfl) (fun _ _ _ h => h) (Or.inl ⟨by rfl, ?_⟩) (by assumption) ?_
      rotate_left
      · intro wS hSw
        go_simp; (try with_reducible rfl)
      (try simp only [Act.put])
      (try simp only [List.setIfInBounds_toArray])
      (try simp only [List.set_cons_succ])
      (try simp only [List.set_cons_zero])
      refine wpAnyH_take (i := 18) (oi := ⟨_, _, _, _, _, _⟩) (v := ?_) rfl (by kernel_rfl) (by kernel_rfl) (by kernel_rfl) (fun _ _ _ h => h) (Or.inl ⟨by rfl, ?_⟩) (by assumption) ?_
      rotate_left
      · intro wS hSw
        go_simp; (try with_reducible rfl)
      (try simp only [Act.put])
      (try simp only [List.setIfInBounds_toArray])
      (try simp only [List.set_cons_succ])
      (try simp only [List.set_cons_zero])
      refine wpAnyH_ready (rs := [19]) (by kernel_rfl) (by simp) ?_
      refine AllReadyH.cons (o := ⟨_, _, _, _, _, _⟩) rfl (fun K' hK' => ?_) AllReadyH.nil
      refine (if_pos (by rfl)).mpr ?_
      refine wp_stB 5 _ _ ?_
      refine ⟨_, _, _, ⟨_, _, _, Tryd.sizeOf5, rfl, A4, ce_s0 _ _ _ _ _ _ _ _ _ st⟩, ?_⟩
      intro w5 A5 g5
      have ho6 := ho5.st g5 A4 (by decide)
      have oy := ox.st g5 A4 (by decide)
      have hb7 := bl_st hb6 g5 hb6.size hq
      refine hK'.out _ _ trivial (fun _ => ?_)
      clear hK' A4 g5 ho5 ox hb6
      (try simp only [Act.put])
      (try simp only [List.setIfInBounds_toArray])
      (try simp only [List.set_cons_succ])
      (try simp only [List.set_cons_zero])
      refine wpAnyH_take (i := 22) (oi := ⟨_, _, _, _, _, _⟩) (v := ?_) rfl (by kernel_rfl) (by kernel_rfl) (by kernel_rfl) (fun _ _ _ h => h) (Or.inl ⟨by rfl, ?_⟩) (by assumption) ?_
      rotate_left
      · intro wS hSw
        go_simp; (try with_reducible rfl)
      (try simp only [Act.put])
      (try simp only [List.setIfInBounds_toArray])
      (try simp only [List.set_cons_succ])
      (try simp only [List.set_cons_zero])
      refine wpAnyH_take (i := 23) (oi := ⟨_, _, _, _, _, _⟩) (v := ?_) rfl (by kernel_rfl) (by kernel_rfl) (by kernel_rfl) (fun _ _ _ h => h) (Or.inl ⟨by rfl, ?_⟩) (by assumption) ?_
      rotate_left
      · intro wS hSw
        go_simp; (try with_reducible rfl)
      (try simp only [Act.put])
      (try simp only [List.setIfInBounds_toArray])
      (try simp only [List.set_cons_succ])
      (try simp only [List.set_cons_zero])
      refine wpAnyH_ready (rs := [24]) (by kernel_rfl) (by simp) ?_
      refine AllReadyH.cons (o := ⟨_, _, _, _, _, _⟩) rfl (fun K' hK' => ?_) AllReadyH.nil
      refine (if_pos (by rfl)).mpr ?_
      refine wp_stB 37 _ _ ?_
      refine ⟨_, _, _, ⟨_, _, _, Tryd.sizeOf37, rfl, A5, ce_t0 _ _ _ _ _ _ _ _ _ tg⟩, ?_⟩
      intro w6 A6 g6
      have ho7 := ho6.st g6 A5 (by decide)
      have oz := oy.st g6 A5 (by decide)
      have hb8 := bl_st hb7 g6 hb7.size hq
      refine hK'.out _ _ trivial (fun _ => ?_)
      clear hK' A5 g6 ho6 oy hb7
      (try simp only [Act.put])
      (try simp only [List.setIfInBounds_toArray])
      (try simp only [List.set_cons_succ])
      (try simp only [List.set_cons_zero])
      refine wpAnyH_take (i := 27) (oi := ⟨_, _, _, _, _, _⟩) (v := ?_) rfl (by kernel_rfl) (by kernel_rfl) (by kernel_rfl) (fun _ _ _ h => h) (Or.inl ⟨by rfl, ?_⟩) (by assumption) ?_
      rotate_left
      · intro wS hSw
        go_simp; (try with_reducible rfl)
      (try simp only [Act.put])
      (try simp only [List.setIfInBounds_toArray])
      (try simp only [List.set_cons_succ])
      (try simp only [List.set_cons_zero])
      refine wpAnyH_take (i := 28) (oi := ⟨_, _, _, _, _, _⟩) (v := ?_) rfl (by kernel_rfl) (by kernel_rfl) (by kernel_rfl) (fun _ _ _ h => h) (Or.inl ⟨by rfl, ?_⟩) (by assumption) ?_
      rotate_left
      · intro wS hSw
        go_simp; (try with_reducible rfl)
      (try simp only [Act.put])
      (try simp only [List.setIfInBounds_toArray])
      (try simp only [List.set_cons_succ])
      (try simp only [List.set_cons_zero])
      refine wpAnyH_ready (rs := [29]) (by kernel_rfl) (by simp) ?_
      refine AllReadyH.cons (o := ⟨_, _, _, _, _, _⟩) rfl (fun K' hK' => ?_) AllReadyH.nil
      refine (if_pos (by rfl)).mpr ?_
      refine wp_stB 38 _ _ ?_
      refine ⟨_, _, _, ⟨_, _, _, Tryd.sizeOf38, rfl, A6, ce_v0 _ _ _ _ _ _ _ _ _ a4 body.length c4⟩, ?_⟩
      intro w7 A7 g7
      have ho8 := ho7.st g7 A6 (by decide)
      have ow := oz.st g7 A6 (by decide)
      have hb9 := bl_st hb8 g7 hb8.size hq
      refine hK'.out _ _ trivial (fun _ => ?_)
      clear hK' A6 g7 ho7 oz hb8
      refine wpAnyH_done (by kernel_rfl) ?_ _
      go_wp2
      refine HK9.out _ _ ?_
      clear HK9
      go_wp2
      go_roundw
      case rel => exact ⟨0 + 1, by omega, by rfl, ⟨a4, c4, by rw [HCP.out]; exact A7, by rw [HCP.out]; exact ho8⟩, hb9⟩
      case measure => simp [intOf]
    · obtain ⟨a0, k0, hbox, hob⟩ : ∃ a0 k0, wr.heap[q]? = some (.cells (ceA g rep reg (copyC d rep reg 0).st (copyC d rep reg 0).tg (.slice a0 (copyC d rep reg 0).body.length k0) 0 zeroTg (.slice none 0 0)) 126 (0, 0)) ∧ OwnB wr w.heap.size a0 k0 (copyC d rep reg 0).body := hin
      generalize copyC d rep reg 0 = cc at *
      have hdr := h.below hbr
      obtain ⟨bs, re, hbs⟩ : ∃ bs re, readD d (firstN reg 1) = (bs, re) := ⟨_, _, rfl⟩
      obtain ⟨st, tg, body, hmi⟩ : ∃ st tg body, mineF bs rep reg 1 = (st, tg, body) := ⟨_, _, _, rfl⟩
      have hcp : copyC d rep reg 1 = ⟨st, tg, body⟩ := by unfold copyC; rw [hbs]; simp only; rw [hmi]
      have hbl : bs.length ≤ 1000 := by
        have := read_len hdr (firstN reg 1)
        rw [hbs] at this
        simp only at this
        by_cases h0 : re = 0
        · rw [this.1 h0]; omega
        · rw [this.2 h0]; simp
      have HBS := Lib.hid hbs
      have HMI := Lib.hid hmi
      have HCP := Lib.hid hcp
      clear hbs hmi hcp
      refine wp_seq_k (fun K hK => ?_)
      have HK := Lib.hid hK
      clear hK
      go_wp2
      refine HK.out _ _ ?_
      clear HK
      refine wp_seq_k (fun K hK => ?_)
      have HK := Lib.hid hK
      clear hK
      go_wp2
      refine HK.out _ _ ?_
      clear HK
      refine wp_seq_k (fun K hK => ?_)
      have HK9 := Lib.hid hK
      clear hK
      go_wp2_with (first
        | (go_at_call 32; refine (first_any reg 1 _).mono ?_; rintro e w1 ⟨rfl, hb1⟩; have hd1 := hdr.below hb1; have A1 := tr_bl hb1 hbox)
        | (go_at_call 93; have hrd := read_slb hd1 (firstN reg 1); rw [HBS.out] at hrd; refine hrd.mono ?_; rintro e w2 ⟨⟨a2, c2, rfl, hs2⟩, hb2⟩; clear hrd))
      have A2 := tr_bl hb2 A1
      have hb12 := hb1.trans (hb2.mono hb1.size)
      have hb3 := hbr.trans (hb12.mono hbr.size)
      clear A1 hb1 hb2 hd1 hdr
      have hbd := (Below.refl w2.heap.size w2).drew
      have A3 := tr_bl hbd A2
      have hs3 := hs2.below hbd
      have hb4 := hb3.trans (hbd.mono hb3.size)
      refine wp_region_held_drew (S := fun _ => True) (by kernel_rfl) trivial (fun hS0 => ?_)
      clear A2 hs2 hb3
      generalize w2.drew = x0 at *
      refine wpAnyH_take (i := 0) (oi := ⟨_, _, _, _, _, _⟩) (v := ?_) rfl (by kernel_rfl) (by kernel_rfl) (by kernel_rfl) (fun _ _ _ h => h) (Or.inl ⟨by rfl, ?_⟩) (by assumption) ?_
      rotate_left
      · intro wS hSw
        go_simp; (try with_reducible rfl)
      (try simp only [Act.put])
      (try simp only [List.setIfInBounds_toArray])
      (try simp only [List.set_cons_succ])
      (try simp only [List.set_cons_zero])
      refine wpAnyH_take (i := 1) (oi := ⟨_, _, _, _, _, _⟩) (v := ?_) rfl (by kernel_rfl) (by kernel_rfl) (by kernel_rfl) (fun _ _ _ h => h) (Or.inl ⟨by rfl, ?_⟩) (by assumption) ?_
      rotate_left
      · intro wS hSw
        go_simp; (try with_reducible rfl)
      (try simp only [Act.put])
      (try simp only [List.setIfInBounds_toArray])
      (try simp only [List.set_cons_succ])
      (try simp only [List.set_cons_zero])
      refine wpAnyH_take (i := 2) (oi := ⟨_, _, _, _, _, _⟩) (v := ?_) rfl (by kernel_rfl) (by kernel_rfl) (by kernel_rfl) (fun _ _ _ h => h) (Or.inl ⟨by rfl, ?_⟩) (by assumption) ?_
      rotate_left
      · intro wS hSw
        go_simp; (try with_reducible rfl)
      (try simp only [Act.put])
      (try simp only [List.setIfInBounds_toArray])
      (try simp only [List.set_cons_succ])
      (try simp only [List.set_cons_zero])
      refine wpAnyH_take (i := 3) (oi := ⟨_, _, _, _, _, _⟩) (v := ?_) rfl (by kernel_rfl) (by kernel_rfl) (by kernel_rfl) (fun _ _ _ h => h) (Or.inl ⟨by rfl, ?_⟩) (by assumption) ?_
      rotate_left
      · intro wS hSw
        go_simp; (try with_reducible rfl)
      (try simp only [Act.put])
      (try simp only [List.setIfInBounds_toArray])
      (try simp only [List.set_cons_succ])
      (try simp only [List.set_cons_zero])
      refine wpAnyH_take (i := 4) (oi := ⟨_, _, _, _, _, _⟩) (v := ?_) rfl (by kernel_rfl) (by kernel_rfl) (by kernel_rfl) (fun _ _ _ h => h) (Or.inl ⟨by rfl, ?_⟩) (by assumption) ?_
      rotate_left
      · intro wS hSw
        go_simp; (try with_reducible rfl)
      (try simp only [Act.put])
      (try simp only [List.setIfInBounds_toArray])
      (try simp only [List.set_cons_succ])
      (try simp only [List.set_cons_zero])
      refine wpAnyH_take (i := 5) (oi := ⟨_, _, _, _, _, _⟩) (v := ?_) rfl (by kernel_rfl) (by kernel_rfl) (by kernel_rfl) (fun _ _ _ h => h) (Or.inl ⟨by rfl, ?_⟩) (by assumption) ?_
      rotate_left
      · intro wS hSw
        go_simp; (try with_reducible rfl)
      (try simp only [Act.put])
      (try simp only [List.setIfInBounds_toArray])
      (try simp only [List.set_cons_succ])
      (try simp only [List.set_cons_zero])
      refine wpAnyH_take (i := 6) (oi := ⟨_, _, _, _, _, _⟩) (v := ?_) rfl (by kernel_rfl) (by kernel_rfl) (by kernel_rfl) (fun _ _ _ h => h) (Or.inl ⟨by rfl, ?_⟩) (by assumption) ?_
      rotate_left
      · intro wS hSw
        go_simp; (try with_reducible rfl)
      (try simp only [Act.put])
      (try simp only [List.setIfInBounds_toArray])
      (try simp only [List.set_cons_succ])
      (try simp only [List.set_cons_zero])
      refine wpAnyH_take (i := 7) (oi := ⟨_, _, _, _, _, _⟩) (v := ?_) rfl (by kernel_rfl) (by kernel_rfl) (by kernel_rfl) (fun _ _ _ h => h) (Or.inl ⟨by rfl, ?_⟩) (by assumption) ?_
      rotate_left
      · intro wS hSw
        go_simp; (try with_reducible rfl)
      (try simp only [Act.put])
      (try simp only [List.setIfInBounds_toArray])
      (try simp only [List.set_cons_succ])
      (try simp only [List.set_cons_zero])
      refine wpAnyH_take (i := 8) (oi := ⟨_, _, _, _, _, _⟩) (v := ?_) rfl (by kernel_rfl) (by kernel_rfl) (by kernel_rfl) (fun _ _ _ h => h) (Or.inl ⟨by rfl, ?_⟩) (by assumption) ?_
      rotate_left
      · intro wS hSw
        go_simp; (try with_reducible rfl)
      (try simp only [Act.put])
      (try simp only [List.setIfInBounds_toArray])
      (try simp only [List.set_cons_succ])
      (try simp only [List.set_cons_zero])
      refine wpAnyH_take (i := 9) (oi := ⟨_, _, _, _, _, _⟩) (v := ?_) rfl (by kernel_rfl) (by kernel_rfl) (by kernel_rfl) (fun _ _ _ h => h) (Or.inl ⟨by rfl, ?_⟩) (by assumption) ?_
      rotate_left
      · intro wS hSw
        go_simp; (try with_reducible rfl)
      (try simp only [Act.put])
      (try simp only [List.setIfInBounds_toArray])
      (try simp only [List.set_cons_succ])
      (try simp only [List.set_cons_zero])
      refine wpAnyH_take (i := 15) (oi := ⟨_, _, _, _, _, _⟩) (v := ?_) rfl (by kernel_rfl) (by kernel_rfl) (by kernel_rfl) (fun _ _ _ h => h) (Or.inl ⟨by rfl, ?_⟩) (by assumption) ?_
      rotate_left
      · intro wS hSw
        go_simp; (try with_reducible rfl)
      (try simp only [Act.put])
      (try simp only [List.setIfInBounds_toArray])
      (try simp only [List.set_cons_succ])
      (try simp only [List.set_cons_zero])
      refine wpAnyH_take (i := 16) (oi := ⟨_, _, _, _, _, _⟩) (v := ?_) rfl (by kernel_rfl) (by kernel_rfl) (by kernel_rfl) (fun _ _ _ h => h) (Or.inl ⟨by rfl, ?_⟩) (by assumption) ?_
      rotate_left
      · intro wS hSw
        go_simp; (try with_reducible rfl)
      (try simp only [Act.put])
      (try simp only [List.setIfInBounds_toArray])
      (try simp only [List.set_cons_succ])
      (try simp only [List.set_cons_zero])
      refine wpAnyH_take (i := 20) (oi := ⟨_, _, _, _, _, _⟩) (v := ?_) rfl (by kernel_rfl) (by kernel_rfl) (by kernel_rfl) (fun _ _ _ h => h) (Or.inl ⟨by rfl, ?_⟩) (by assumption) ?_
      rotate_left
      · intro wS hSw
        go_simp; (try with_reducible rfl)
      (try simp only [Act.put])
      (try simp only [List.setIfInBounds_toArray])
      (try simp only [List.set_cons_succ])
      (try simp only [List.set_cons_zero])
      refine wpAnyH_take (i := 21) (oi := ⟨_, _, _, _, _, _⟩) (v := ?_) rfl (by kernel_rfl) (by kernel_rfl) (by kernel_rfl) (fun _ _ _ h => h) (Or.inl ⟨by rfl, ?_⟩) (by assumption) ?_
      rotate_left
      · intro wS hSw
        go_simp; (try with_reducible rfl)
      (try simp only [Act.put])
      (try simp only [List.setIfInBounds_toArray])
      (try simp only [List.set_cons_succ])
      (try simp only [List.set_cons_zero])
      refine wpAnyH_take (i := 25) (oi := ⟨_, _, _, _, _, _⟩) (v := ?_) rfl (by kernel_rfl) (by kernel_rfl) (by kernel_rfl) (fun _ _ _ h => h) (Or.inl ⟨by rfl, ?_⟩) (by assumption) ?_
      rotate_left
      · intro wS hSw
        go_simp; (try with_reducible rfl)
      (try simp only [Act.put])
      (try simp only [List.setIfInBounds_toArray])
      (try simp only [List.set_cons_succ])
      (try simp only [List.set_cons_zero])
      refine wpAnyH_take (i := 26) (oi := ⟨_, _, _, _, _, _⟩) (v := ?_) rfl (by kernel_rfl) (by kernel_rfl) (by kernel_rfl) (fun _ _ _ h => h) (Or.inl ⟨by rfl, ?_⟩) (by assumption) ?_
      rotate_left
      · intro wS hSw
        go_simp; (try with_reducible rfl)
      (try simp only [Act.put])
      (try simp only [List.setIfInBounds_toArray])
      (try simp only [List.set_cons_succ])
      (try simp only [List.set_cons_zero])
      refine wpAnyH_ready (rs := [10]) (by kernel_rfl) (by simp) ?_
      refine AllReadyH.cons (o := ⟨_, _, _, _, _, _⟩) rfl (fun K' hK' => ?_) AllReadyH.nil
      refine (if_pos (by rfl)).mpr ?_
      go_simp
      refine (mine_any a2 c2 bs rep reg 1 _ hs3 hbl).mono ?_
      rintro e w3 ⟨⟨a4, c4, rfl, ho4⟩, hb5⟩
      rw [HMI.out] at ho4 ⊢
      simp only at ho4 ⊢
      have A4 := tr_bl hb5 A3
      have hb6 := hb4.trans (hb5.mono hb4.size)
      have ho5 := ho4.mono hb4.size
      have ox := ((hob.below hb12).below hbd).below hb5
      refine hK'.out _ _ trivial (fun _ => ?_)
      clear hK' A3 hs3 hb4 hb5 ho4 hbd
      (try simp only [Act.put])
      (try simp only [List.setIfInBounds_toArray])
      (try simp only [List.set_cons_succ])
      (try simp only [List.set_cons_zero])
      refine wpAnyH_take (i := 11) (oi := ⟨_, _, _, _, _, _⟩) (v := ?_) rfl (by kernel_rfl) (by kernel_rfl) (by kernel_rfl) (fun _ _ _ h => h) (Or.inl ⟨by rfl, ?_⟩) (by assumption) ?_
      rotate_left
      · intro wS hSw
        go_simp; (try with_reducible rfl)
      (try simp only [Act.put])
      (try simp only [List.setIfInBounds_toArray])
      (try simp only [List.set_cons_succ])
      (try simp only [List.set_cons_zero])
      refine wpAnyH_take (i := 12) (oi := ⟨_, _, _, _, _, _⟩) (v := ?_) rfl (by kernel_rfl) (by kernel_rfl) (by kernel_rfl) (fun _ _ _ h => h) (Or.inl ⟨by rfl, ?_⟩) (by assumption) ?_
      rotate_left
      · intro wS hSw
        go_simp; (try with_reducible rfl)
      (try simp only [Act.put])
      (try simp only [List.setIfInBounds_toArray])
      (try simp only [List.set_cons_succ])
      (try simp only [List.set_cons_zero])
      refine wpAnyH_take (i := 13) (oi := ⟨_, _, _, _, _, _⟩) (v := ?_) rfl (by kernel_rfl) (by kernel_rfl) (by kernel_rfl) (fun _ _ _ h => h) (Or.inl ⟨by rfl, ?_⟩) (by assumption) ?_
      rotate_left
      · intro wS hSw
        go_simp; (try with_reducible rfl)
      (try simp only [Act.put])
      (try simp only [List.setIfInBounds_toArray])
      (try simp only [List.set_cons_succ])
      (try simp only [List.set_cons_zero])
      refine wpAnyH_take (i := 14) (oi := ⟨_, _, _, _, _, _⟩) (v := ?_) rfl (by kernel_rfl) (by kernel_rfl) (by kernel_rfl) (fun _ _ _ h => h) (Or.inl ⟨by rfl, ?_⟩) (by assumption) ?_
      rotate_left
      · intro wS hSw
        go_simp; (try with_reducible rfl)
      (try simp only [Act.put])
      (try simp only [List.setIfInBounds_toArray])
      (try simp only [List.set_cons_succ])
      (try simp only [List.set_cons_zero])
      refine wpAnyH_take (i := 17) (oi := ⟨_, _, _, _, _, _⟩) (v := ?_) rfl (by kernel_rfl) (by kernel_rfl) (by kernel_rfl) (fun _ _ _ h => h) (Or.inl ⟨by rfl, ?_⟩) (by assumption) ?_
      rotate_left
      · intro wS hSw
        go_simp; (try with_reducible rfl)
      (try simp only [Act.put])
      (try simp only [List.setIfInBounds_toArray])
      (try simp only [List.set_cons_succ])
      (try simp only [List.set_cons_zero])
      refine wpAnyH_take (i := 18) (oi := ⟨_, _, _, _, _, _⟩) (v := ?_) rfl (by kernel_rfl) (by kernel_rfl) (by kernel_rfl) (fun _ _ _ h => h) (Or.inl ⟨by rfl, ?_⟩) (by assumption) ?_
      rotate_left
      · intro wS hSw
        go_simp; (try with_reducible rfl)
      (try simp only [Act.put])
      (try simp only [List.setIfInBounds_toArray])
      (try simp only [List.set_cons_succ])
      (try simp only [List.set_cons_zero])
      refine wpAnyH_ready (rs := [19]) (by kernel_rfl) (by simp) ?_
      refine AllReadyH.cons (o := ⟨_, _, _, _, _, _⟩) rfl (fun K' hK' => ?_) AllReadyH.nil
      refine (if_pos (by rfl)).mpr ?_
      refine wp_stB 5 _ _ ?_
      refine ⟨_, _, _, ⟨_, _, _, Tryd.sizeOf5, rfl, A4, ce_s1 _ _ _ _ _ _ _ _ _ st⟩, ?_⟩
      intro w5 A5 g5
      have ho6 := ho5.st g5 A4 (by decide)
      have oy := ox.st g5 A4 (by decide)
      have hb7 := bl_st hb6 g5 hb6.size hq
      refine hK'.out _ _ trivial (fun _ => ?_)
      clear hK' A4 g5 ho5 ox hb6
      (try simp only [Act.put])
      (try simp only [List.setIfInBounds_toArray])
      (try simp only [List.set_cons_succ])
      (try simp only [List.set_cons_zero])
      refine wpAnyH_take (i := 22) (oi := ⟨_, _, _, _, _, _⟩) (v := ?_) rfl (by kernel_rfl) (by kernel_rfl) (by kernel_rfl) (fun _ _ _ h => h) (Or.inl ⟨by rfl, ?_⟩) (by assumption) ?_
      rotate_left
      · intro wS hSw
        go_simp; (try with_reducible rfl)
      (try simp only [Act.put])
      (try simp only [List.setIfInBounds_toArray])
      (try simp only [List.set_cons_succ])
      (try simp only [List.set_cons_zero])
      refine wpAnyH_take (i := 23) (oi := ⟨_, _, _, _, _, _⟩) (v := ?_) rfl (by kernel_rfl) (by kernel_rfl) (by kernel_rfl) (fun _ _ _ h => h) (Or.inl ⟨by rfl, ?_⟩) (by assumption) ?_
      rotate_left
      · intro wS hSw
        go_simp; (try with_reducible rfl)
      (try simp only [Act.put])
      (try simp only [List.setIfInBounds_toArray])
      (try simp only [List.set_cons_succ])
      (try simp only [List.set_cons_zero])
      refine wpAnyH_ready (rs := [24]) (by kernel_rfl) (by simp) ?_
      refine AllReadyH.cons (o := ⟨_, _, _, _, _, _⟩) rfl (fun K' hK' => ?_) AllReadyH.nil
      refine (if_pos (by rfl)).mpr ?_
      refine wp_stB 37 _ _ ?_
      refine ⟨_, _, _, ⟨_, _, _, Tryd.sizeOf37, rfl, A5, ce_t1 _ _ _ _ _ _ _ _ _ tg⟩, ?_⟩
      intro w6 A6 g6
      have ho7 := ho6.st g6 A5 (by decide)
      have oz := oy.st g6 A5 (by decide)
      have hb8 := bl_st hb7 g6 hb7.size hq
      refine hK'.out _ _ trivial (fun _ => ?_)
      clear hK' A5 g6 ho6 oy hb7
      (try simp only [Act.put])
      (try simp only [List.setIfInBounds_toArray])
      (try simp only [List.set_cons_succ])
      (try simp only [List.set_cons_zero])
      refine wpAnyH_take (i := 27) (oi := ⟨_, _, _, _, _, _⟩) (v := ?_) rfl (by kernel_rfl) (by kernel_rfl) (by kernel_rfl) (fun _ _ _ h => h) (Or.inl ⟨by rfl, ?_⟩) (by assumption) ?_
      rotate_left
      · intro wS hSw
        go_simp; (try with_reducible rfl)
      (try simp only [Act.put])
      (try simp only [List.setIfInBounds_toArray])
      (try simp only [List.set_cons_succ])
      (try simp only [List.set_cons_zero])
      refine wpAnyH_take (i := 28) (oi := ⟨_, _, _, _, _, _⟩) (v := ?_) rfl (by kernel_rfl) (by kernel_rfl) (by kernel_rfl) (fun _ _ _ h => h) (Or.inl ⟨by rfl, ?_⟩) (by assumption) ?_
      rotate_left
      · intro wS hSw
        go_simp; (try with_reducible rfl)
      (try simp only [Act.put])
      (try simp only [List.setIfInBounds_toArray])
      (try simp only [List.set_cons_succ])
      (try simp only [List.set_cons_zero])
      refine wpAnyH_ready (rs := [29]) (by kernel_rfl) (by simp) ?_
      refine AllReadyH.cons (o := ⟨_, _, _, _, _, _⟩) rfl (fun K' hK' => ?_) AllReadyH.nil
      refine (if_pos (by rfl)).mpr ?_
      refine wp_stB 38 _ _ ?_
      refine ⟨_, _, _, ⟨_, _, _, Tryd.sizeOf38, rfl, A6, ce_v1 _ _ _ _ _ _ _ _ _ a4 body.length c4⟩, ?_⟩
      intro w7 A7 g7
      have ho8 := ho7.st g7 A6 (by decide)
      have ow := oz.st g7 A6 (by decide)
      have hb9 := bl_st hb8 g7 hb8.size hq
      refine hK'.out _ _ trivial (fun _ => ?_)
      clear hK' A6 g7 ho7 oz hb8
      refine wpAnyH_done (by kernel_rfl) ?_ _
      go_wp2
      refine HK9.out _ _ ?_
      clear HK9
      go_wp2
      go_roundw
      case rel => exact ⟨1 + 1, by omega, by rfl, ⟨a0, k0, a4, c4, by rw [HCP.out]; exact A7, ow, by rw [HCP.out]; exact ho8⟩, hb9⟩
      case measure => simp [intOf]
    · obtain ⟨a0, k0, a1, k1, hbox, ho0, ho1⟩ : CpIn wr w.heap.size q g rep reg (copyC d rep reg 0) (copyC d rep reg 1) 2 := hin
      go_wp2
      refine HK.out _ _ ?_
      clear HK
      go_wp2
      go_ret2
      refine ⟨?_, hbr⟩
      unfold OpenRes
      rw [if_pos HO.out]
      exact ⟨q, a0, k0, a1, k1, rfl, hq, hbox, ho0, ho1⟩
end
end Go.Proofs.YtejjneamngkmoaaDoor

