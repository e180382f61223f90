/- Texts that the claim leans on, part 14: X7, X8, X9, D42, D43, X10, X11, V1. -/
import Derived.Test.YtknchbhobopkeaaGreatDoorZ1
import Derived.Test.YtknchbhobopkeaaGreatDoorZ2
import Derived.Test.YtknchbhobopkeaaGreatDoorZ3
import Derived.Test.YtknchbhobopkeaaGreatDoorZ4
import Derived.Test.YtknchbhobopkeaaGreatDoorZ5
import Derived.Test.YtknchbhobopkeaaGreatDoorZ6
import Derived.Test.YtknchbhobopkeaaGreatDoorZ7
import Derived.Test.YtknchbhobopkeaaGreatDoorZ8
import Derived.Test.YtknchbhobopkeaaGreatDoorZ9
import Derived.Test.YtknchbhobopkeaaGreatDoorZ10
import Derived.Test.YtknchbhobopkeaaGreatDoorZ11
import Derived.Test.YtknchbhobopkeaaGreatDoorZ12
import Derived.Test.YtknchbhobopkeaaGreatDoorZ13
import Derived.Test.YtknchbhobopkeaaGreatDoorRows
import Derived.WalkKit
import Derived.WalkSpells
import Derived.WalkLawsBesides
import Derived.Handy
import Derived.Deep.QuietTactic
import Derived.BigQuiet
import Derived.Deep.DeepCutAuto
import Derived.Lib.Hide
import Derived.RegionTactic
import Derived.ChangeAlike
import Derived.Laws.ResultCell
import Derived.Outline
import Derived.IntWalk
import Derived.Laws.IdiomStrings
import Derived.Laws.BytesArg
import Derived.Laws.MakeOwn
import Derived.Lib.SliceRun
import Derived.Laws.BitsAllLaws
import Derived.Great.BuildSlice
import Derived.Great.FillDense
import Derived.Laws.Rows
import Derived.Deep.Quiet
import Derived.Deep.RegionHeld3
import Derived.Lib.AppendStr
import Derived.ProofKit
import Derived.OpenShut
import Derived.Laws.Strings
import Derived.Laws.CopyOwn
import Derived.Laws.CopyRow
import Derived.Laws.NewBlocks
import Derived.Deep.RegionLaw
namespace Go.Proofs.YtknchbhobopkeaaGreatDoor
def rdP (pl : List Pl) (j : Nat) : List UInt8 × Int := match pl[j]? with | none => ([], 2) | some p => if p.lost = true then ([], 50) else (p.rest, 0)
theorem rd_live {d : Dk} {j : Nat} (h : Live d) (hj : j < 156) : readD d j = rdP d.pl j := read_live h hj
theorem rd_set {pl : List Pl} {k : Nat} (f : List UInt8) (hk : k < pl.length) (j : Nat) : rdP (pl.set k ⟨f, f, false⟩) j = if j = k then (f, 0) else rdP pl j := by
  unfold rdP
  by_cases e : j = k
  · subst e
    simp [List.getElem?_set_self hk]
  · rw [if_neg e, List.getElem?_set_ne (Ne.symm e)]
def anew (d : Dk) (keep : List Bool) : Dk := ⟨thruD d.pl d.waits 0 (keepB keep), [], false, false, -1⟩
theorem thru_len : ∀ (l : List (List UInt8 × Nat)) (pl : List Pl) (k : Nat) (is : Nat → Bool), (thruD pl l k is).length = pl.length
  | [], _, _, _ => rfl
  | (b, s) :: l, pl, k, is => by
    simp only [thruD]
    rw [thru_len l]
    split
    · rw [List.length_set]
    · rfl
theorem crash_start {d : Dk} (keep : List Bool) (hl : d.pl.length = 156) (hd : d.down = false) : (crashD d keep).2 = 0 ∧ startD (crashD d keep).1 = (anew d keep, 0) := by
  have h1 : crashD d keep = ({ d with pl := thruD d.pl d.waits 0 (keepB keep), waits := [], down := true }, 0) := by
    unfold crashD there0
    rw [hl, hd]
    simp
  rw [h1]
  refine ⟨rfl, ?_⟩
  unfold startD there0
  simp only
  rw [thru_len, hl]
  simp [anew]
theorem anew_live {d : Dk} (keep : List Bool) (hl : d.pl.length = 156) : Live (anew d keep) := ⟨by simp only [anew]; rw [thru_len, hl], rfl, rfl, rfl⟩
section
variable {d : Dk} {rep reg inc v : Int} {body : List UInt8}
def fraC (rep reg v inc : Int) (body : List UInt8) (i : Nat) : List UInt8 := sealF ⟨rep, reg, i, v, inc⟩ body 64
def twoP (d : Dk) (rep reg v inc : Int) (body : List UInt8) (f : Nat) : Dk × Int :=
  if (putC d ⟨rep, reg, (f : Nat), v, inc⟩ body).2 ≠ 0 then putC d ⟨rep, reg, (f : Nat), v, inc⟩ body else putC (putC d ⟨rep, reg, (f : Nat), v, inc⟩ body).1 ⟨rep, reg, ((1 - f : Nat) : Int), v, inc⟩ body
theorem put_p (h : Live d) (hr : reg = 1 ∨ reg = 2) (hb : body.length ≤ 43) {i : Nat} (hi : i < 2) (h0 : d.left ≠ 0) (h1 : d.left ≠ 1) : putC d ⟨rep, reg, i, v, inc⟩ body = (putP d (secC reg i) (fraC rep reg v inc body i), 0) :=
  put_n h h0 h1 (sec_first hr hi).1 (by have := (sec_first hr hi).2; omega) hb
theorem two_all (h : Live d) (hr : reg = 1 ∨ reg = 2) (hb : body.length ≤ 43) {f : Nat} (hf : f < 2) (hl : d.left < 0 ∨ 4 ≤ d.left) : twoP d rep reg v inc body f = (putP (putP d (secC reg f) (fraC rep reg v inc body f)) (secC reg (1 - f)) (fraC rep reg v inc body (1 - f)), 0) := by
  unfold twoP
  rw [put_p h hr hb hf (by omega) (by omega)]
  simp only [ne_eq, not_true, if_false]
  have hl2 : (putP d (secC reg f) (fraC rep reg v inc body f)).left = if 0 < d.left then d.left - 2 else d.left := rfl
  exact put_p (putP_live h _ _) hr hb (by omega) (by rw [hl2]; split <;> omega) (by rw [hl2]; split <;> omega)
theorem two_crash (h : Live d) (hr : reg = 1 ∨ reg = 2) (hb : body.length ≤ 43) {f : Nat} (hf : f < 2) (hl : 0 ≤ d.left) (keep : List Bool) :
    (twoP d rep reg v inc body f).2 = (if 4 ≤ d.left then 0 else 5) ∧ (twoP d rep reg v inc body f).1.pl.length = 156 ∧ (twoP d rep reg v inc body f).1.down = false ∧
    ∃ n m : Bool, (4 ≤ d.left → n = true ∧ m = true) ∧ (m = true → n = true) ∧ ∀ j : Nat, j < 156 → readD (anew (twoP d rep reg v inc body f).1 keep) j = if j = secC reg (1 - f) ∧ m = true then (fraC rep reg v inc body (1 - f), 0) else if j = secC reg f ∧ n = true then (fraC rep reg v inc body f, 0) else readD d j := by
  obtain ⟨ef, lf⟩ := sec_first hr hf
  obtain ⟨eo, lo⟩ := sec_first hr (i := 1 - f) (by omega)
  have hne : secC reg (1 - f) ≠ secC reg f := by unfold secC; omega
  have hlen := h.len
  by_cases h0 : d.left = 0
  · have e : twoP d rep reg v inc body f = ({ d with dead := true }, 5) := by
      unfold twoP
      rw [put_0 h h0 ef (by omega) hb]
      simp
    rw [e, h0]
    refine ⟨rfl, hlen, h.dn, false, false, by simp, by simp, fun j hj => ?_⟩
    rw [rd_live (anew_live keep (by exact hlen)) hj, rd_live h hj]
    simp [anew, h.w, thruD]
  by_cases h1 : d.left = 1
  · have e : twoP d rep reg v inc body f = ({ d with left := 0, waits := [(fraC rep reg v inc body f, secC reg f)], dead := true }, 5) := by
      unfold twoP
      rw [put_1 h h1 ef (by omega) hb]
      simp [fraC]
    rw [e, h1]
    refine ⟨rfl, hlen, h.dn, keepB keep 0, false, by simp, by simp, fun j hj => ?_⟩
    rw [rd_live (anew_live keep (by exact hlen)) hj, rd_live h hj]
    simp only [anew, thruD, and_false, if_false, Bool.false_eq_true]
    cases hk : keepB keep 0 with
    | false => simp
    | true =>
      simp only [if_true, and_true]
      rw [rd_set _ (by omega)]
  have hp := put_p (v := v) (rep := rep) (inc := inc) h hr hb hf h0 h1
  have hL := putP_live h (secC reg f) (fraC rep reg v inc body f)
  have hl2 : (putP d (secC reg f) (fraC rep reg v inc body f)).left = d.left - 2 := by rw [putP_left, if_pos (by omega)]
  by_cases h2 : d.left = 2
  · have e : twoP d rep reg v inc body f = ({ putP d (secC reg f) (fraC rep reg v inc body f) with dead := true }, 5) := by
      unfold twoP
      rw [hp]
      simp only [ne_eq, not_true, if_false]
      exact put_0 hL (by rw [hl2]; omega) eo (by omega) hb
    rw [e, h2]
    refine ⟨rfl, hL.len, hL.dn, true, false, by simp, by simp, fun j hj => ?_⟩
    rw [rd_live (anew_live keep (by exact hL.len)) hj, rd_live h hj]
    simp only [anew, putP, thruD, and_false, if_false, Bool.false_eq_true, and_true]
    rw [rd_set _ (by omega)]
  by_cases h3 : d.left = 3
  · have e : twoP d rep reg v inc body f = ({ putP d (secC reg f) (fraC rep reg v inc body f) with left := 0, waits := [(fraC rep reg v inc body (1 - f), secC reg (1 - f))], dead := true }, 5) := by
      unfold twoP
      rw [hp]
      simp only [ne_eq, not_true, if_false]
      exact put_1 hL (by rw [hl2]; omega) eo (by omega) hb
    rw [e, h3]
    refine ⟨rfl, hL.len, hL.dn, true, keepB keep 0, by simp, by simp, fun j hj => ?_⟩
    rw [rd_live (anew_live keep (by exact hL.len)) hj, rd_live h hj]
    simp only [anew, putP, thruD, and_true]
    cases hk : keepB keep 0 with
    | false =>
      simp only [Bool.false_eq_true, if_false, and_false]
      rw [rd_set _ (by omega)]
    | true =>
      simp only [if_true, and_true]
      rw [rd_set _ (by rw [List.length_set]; omega), rd_set _ (by omega)]
  · have e := two_all (rep := rep) (v := v) (inc := inc) h hr hb hf (.inr (by omega))
    have hL2 := putP_live hL (secC reg (1 - f)) (fraC rep reg v inc body (1 - f))
    rw [e, if_pos (by omega)]
    refine ⟨rfl, hL2.len, hL2.dn, true, true, by simp, by simp, fun j hj => ?_⟩
    rw [rd_live (anew_live keep (by exact hL2.len)) hj, rd_live h hj]
    simp only [anew, putP, thruD, and_true]
    rw [rd_set _ (by rw [List.length_set]; omega), rd_set _ (by omega)]
end
end Go.Proofs.YtknchbhobopkeaaGreatDoor
namespace Go.Proofs.YtknchbhobopkeaaGreatDoor
def coR (rep reg : Int) (i : Nat) : Vo → Cp
  | none => ⟨0, zeroTg, []⟩
  | some (v, c, b) => ⟨1, ⟨rep, reg, i, v, c⟩, b⟩
def badCp : Cp := ⟨2, zeroTg, []⟩
theorem verO_pos {o : Vo} (h : okO o) : 0 ≤ verO o := by
  match o, h with
  | none, _ => exact Int.le_refl 0
  | some (v, c, b), ⟨h1, _⟩ => simp only [verO]; omega
theorem verO_le {o : Vo} (h : okO o) : verO o ≤ 1099511627776 := by
  match o, h with
  | none, _ => simp [verO]
  | some (v, c, b), ⟨_, h2, _⟩ => exact h2
/-! What counts of two copies. -/
section
variable {rep reg : Int} {o p : Vo}
theorem loaded_same (o : Vo) : loadedC (coR rep reg 0 o) (coR rep reg 1 o) = (0, o.isSome, 0) ∧ pickC (coR rep reg 0 o) (coR rep reg 1 o) = coR rep reg 0 o ∧ firstP (coR rep reg 0 o) (coR rep reg 1 o) = (if o.isSome = true then 1 else 0) := by
  match o with
  | none => exact ⟨rfl, rfl, rfl⟩
  | some (v, c, b) =>
    have h1 : loadedC (coR rep reg 0 (some (v, c, b))) (coR rep reg 1 (some (v, c, b))) = (0, true, 0) := by simp [loadedC, overC, coR]
    refine ⟨h1, ?_, ?_⟩
    · unfold pickC
      rw [h1]
      simp
    · unfold firstP
      rw [h1]
      simp
theorem loaded_second {v c : Int} {b : List UInt8} (h : verO o < v) : loadedC (coR rep reg 0 o) (coR rep reg 1 (some (v, c, b))) = (1, true, 0) ∧ pickC (coR rep reg 0 o) (coR rep reg 1 (some (v, c, b))) = coR rep reg 1 (some (v, c, b)) := by
  have h1 : loadedC (coR rep reg 0 o) (coR rep reg 1 (some (v, c, b))) = (1, true, 0) := by
    match o, h with
    | none, _ => simp [loadedC, overC, coR]
    | some (v', c', b'), h => simp only [verO] at h; simp [loadedC, overC, coR, h]
  exact ⟨h1, by unfold pickC; rw [h1]; simp⟩
theorem loaded_first {v c : Int} {b : List UInt8} (h : verO o < v) : loadedC (coR rep reg 0 (some (v, c, b))) (coR rep reg 1 o) = (0, true, 0) ∧ pickC (coR rep reg 0 (some (v, c, b))) (coR rep reg 1 o) = coR rep reg 0 (some (v, c, b)) := by
  have h1 : loadedC (coR rep reg 0 (some (v, c, b))) (coR rep reg 1 o) = (0, true, 0) := by
    match o, h with
    | none, _ => simp [loadedC, overC, coR]
    | some (v', c', b'), h =>
      simp only [verO] at h
      have : ¬ v < v' := by omega
      simp [loadedC, overC, coR, this]
  exact ⟨h1, by unfold pickC; rw [h1]; simp⟩
theorem loaded_bad0 {v c : Int} {b : List UInt8} : loadedC badCp (coR rep reg 1 (some (v, c, b))) = (1, true, 0) ∧ pickC badCp (coR rep reg 1 (some (v, c, b))) = coR rep reg 1 (some (v, c, b)) := by
  have h1 : loadedC badCp (coR rep reg 1 (some (v, c, b))) = (1, true, 0) := by simp [loadedC, overC, coR, badCp]
  exact ⟨h1, by unfold pickC; rw [h1]; simp⟩
theorem loaded_bad1 {v c : Int} {b : List UInt8} : loadedC (coR rep reg 0 (some (v, c, b))) badCp = (0, true, 0) ∧ pickC (coR rep reg 0 (some (v, c, b))) badCp = coR rep reg 0 (some (v, c, b)) := by
  have h1 : loadedC (coR rep reg 0 (some (v, c, b))) badCp = (0, true, 0) := by simp [loadedC, overC, coR, badCp]
  exact ⟨h1, by unfold pickC; rw [h1]; simp⟩
theorem loaded_bad : loadedC badCp badCp = (0, false, 70) := rfl
end
structure Both (d : Dk) (rep reg : Int) (o : Vo) : Prop where
  ok : okO o
  c0 : cop d rep reg 0 = coR rep reg 0 o
  c1 : cop d rep reg 1 = coR rep reg 1 o
theorem both_load {d : Dk} {rep reg : Int} {o : Vo} (h : Live d) (hp : 0 ≤ rep ∧ rep ≤ 6) (hr : reg = 1 ∨ reg = 2) (hB : Both d rep reg o) : loadC d rep reg = (verO o, bodO o, 0) := by
  obtain ⟨e1, e2, _⟩ := loaded_same (rep := rep) (reg := reg) o
  rw [load_live h hp hr, hB.c0, hB.c1, e1, e2]
  match o with
  | none => rfl
  | some (v, c, b) => rfl
theorem rd_rep {n j : Nat} (h : j < n) : rdP (List.replicate n zeroPl) j = (zeros64, 0) := by
  unfold rdP
  rw [List.getElem?_replicate, if_pos h]
  rfl
theorem new_live : Live (newDk 156) := ⟨List.length_replicate, rfl, rfl, rfl⟩
theorem new_read {j : Nat} (hj : j < 156) : readD (newDk 156) j = (zeros64, 0) := by
  rw [rd_live new_live hj]
  exact rd_rep hj
theorem sec_lt {reg : Int} (hr : reg = 1 ∨ reg = 2) {i : Nat} (hi : i < 2) : secC reg i < 156 := by have := (sec_first hr hi).2; omega
theorem new_both (rep : Int) {reg : Int} (hr : reg = 1 ∨ reg = 2) : Both (newDk 156) rep reg none := ⟨trivial, cop_zero (new_read (sec_lt hr (by omega))), cop_zero (new_read (sec_lt hr (by omega)))⟩
section
variable {d : Dk} {rep reg inc : Int} {body : List UInt8} {o : Vo}
def nextO (o : Vo) (inc : Int) (body : List UInt8) : Vo := some (verO o + 1, inc, body)
theorem next_ok (h : okO o) (hv : verO o + 1 ≤ 1099511627776) (hi : 1 ≤ inc ∧ inc ≤ 1099511627776) (hb : body.length ≤ 43) : okO (nextO o inc body) := ⟨by have := verO_pos h; omega, hv, hi.1, hi.2, hb⟩
theorem pick_idx (o : Vo) : (coR rep reg 0 o).tg.idx = verO o := by match o with | none => rfl | some (v, c, b) => rfl
theorem store_two (h : Live d) (hp : 0 ≤ rep ∧ rep ≤ 6) (hr : reg = 1 ∨ reg = 2) (hi : 1 ≤ inc ∧ inc ≤ 1099511627776) (hb : body.length ≤ 43) (hB : Both d rep reg o) (hv : verO o + 1 ≤ 1099511627776) : storeC d rep reg inc body = twoP d rep reg (verO o + 1) inc body (if o.isSome = true then 1 else 0) := by
  obtain ⟨e1, e2, e3⟩ := loaded_same (rep := rep) (reg := reg) o
  have hr2 := store_red h hp hr hi hb (by rw [hB.c0, hB.c1, e1]) (by rw [hB.c0, hB.c1, e2, pick_idx]; exact hv)
  rw [hr2, hB.c0, hB.c1, e2, e3, pick_idx]
  rfl
theorem cop_fra {d : Dk} {v : Int} {i : Nat} {e : Int} (hp : 0 ≤ rep ∧ rep ≤ 6) (hr : reg = 1 ∨ reg = 2) (hi2 : i < 2) (h0 : 0 ≤ v) (h1 : v ≤ 1099511627776) (hi : 1 ≤ inc ∧ inc ≤ 1099511627776) (hb : body.length ≤ 43) (h : readD d (secC reg i) = (fraC rep reg v inc body i, e)) : cop d rep reg i = coR rep reg i (some (v, inc, body)) :=
  cop_frame h (may_cell2 hp hr hi2 h0 h1 hi.1 hi.2) hb
theorem store_both (h : Live d) (hp : 0 ≤ rep ∧ rep ≤ 6) (hr : reg = 1 ∨ reg = 2) (hi : 1 ≤ inc ∧ inc ≤ 1099511627776) (hb : body.length ≤ 43) (hB : Both d rep reg o) (hv : verO o + 1 ≤ 1099511627776) (hl : d.left < 0) :
    ∃ d', storeC d rep reg inc body = (d', 0) ∧ Live d' ∧ d'.left = d.left ∧ Both d' rep reg (nextO o inc body) ∧ ∀ j : Nat, j < 156 → j ≠ secC reg 0 → j ≠ secC reg 1 → readD d' j = readD d j := by
  have hvp := verO_pos hB.ok
  obtain ⟨f, hf, hf2⟩ : ∃ f, (if o.isSome = true then 1 else 0) = f ∧ f < 2 := ⟨_, rfl, by split <;> omega⟩
  rw [store_two h hp hr hi hb hB hv, hf, two_all h hr hb hf2 (.inl hl)]
  have L1 := putP_live h (secC reg f) (fraC rep reg (verO o + 1) inc body f)
  have L2 := putP_live L1 (secC reg (1 - f)) (fraC rep reg (verO o + 1) inc body (1 - f))
  have hs1 := sec_lt hr hf2
  have hs2 := sec_lt hr (i := 1 - f) (by omega)
  have hrd : ∀ j : Nat, j < 156 → readD (putP (putP d (secC reg f) (fraC rep reg (verO o + 1) inc body f)) (secC reg (1 - f)) (fraC rep reg (verO o + 1) inc body (1 - f))) j = if j = secC reg (1 - f) then (fraC rep reg (verO o + 1) inc body (1 - f), 0) else if j = secC reg f then (fraC rep reg (verO o + 1) inc body f, 0) else readD d j := fun j hj => by
    rw [putP_read L1 _ hj hs2, putP_read h _ hj hs1]
  have hne : secC reg (1 - f) ≠ secC reg f := by unfold secC; omega
  have r1 := hrd (secC reg (1 - f)) hs2
  rw [if_pos rfl] at r1
  have r2 := hrd (secC reg f) hs1
  rw [if_neg (Ne.symm hne), if_pos rfl] at r2
  have k1 := cop_fra hp hr (by omega) (by omega) hv hi hb r1
  have k2 := cop_fra hp hr hf2 (by omega) hv hi hb r2
  refine ⟨_, rfl, L2, ?_, ⟨next_ok hB.ok hv hi hb, ?_, ?_⟩, ?_⟩
  · rw [putP_left, putP_left, if_neg (by omega), if_neg (by omega)]
  · rcases (show f = 0 ∨ f = 1 by omega) with rfl | rfl
    · exact k2
    · exact k1
  · rcases (show f = 0 ∨ f = 1 by omega) with rfl | rfl
    · exact k1
    · exact k2
  · intro j hj h0 h1
    rw [hrd j hj, if_neg, if_neg]
    · rcases (show f = 0 ∨ f = 1 by omega) with rfl | rfl <;> assumption
    · rcases (show f = 0 ∨ f = 1 by omega) with rfl | rfl <;> assumption
end
end Go.Proofs.YtknchbhobopkeaaGreatDoor
namespace Go.Proofs.YtknchbhobopkeaaGreatDoor
def frR (rep reg : Int) (i : Nat) : Vo → List UInt8
  | none => zeros64
  | some (v, c, b) => fraC rep reg v c b i
structure Fr (d : Dk) (rep reg : Int) (o : Vo) : Prop where
  ok : okO o
  r0 : readD d (secC reg 0) = (frR rep reg 0 o, 0)
  r1 : readD d (secC reg 1) = (frR rep reg 1 o, 0)
section
variable {d d' : Dk} {rep reg inc : Int} {body : List UInt8} {o o' : Vo}
theorem cop_fr {i : Nat} {e : Int} (hp : 0 ≤ rep ∧ rep ≤ 6) (hr : reg = 1 ∨ reg = 2) (hi : i < 2) (ho : okO o) (h : readD d (secC reg i) = (frR rep reg i o, e)) : cop d rep reg i = coR rep reg i o := by
  match o, ho, h with
  | none, _, h => exact cop_zero h
  | some (v, c, b), ⟨h1, h2, h3, h4, h5⟩, h => exact cop_fra hp hr hi (by omega) h2 ⟨h3, h4⟩ h5 h
theorem Fr.both (h : Fr d rep reg o) (hp : 0 ≤ rep ∧ rep ≤ 6) (hr : reg = 1 ∨ reg = 2) : Both d rep reg o := ⟨h.ok, cop_fr hp hr (by omega) h.ok h.r0, cop_fr hp hr (by omega) h.ok h.r1⟩
theorem Fr.same (h : Fr d rep reg o) (h0 : readD d' (secC reg 0) = readD d (secC reg 0)) (h1 : readD d' (secC reg 1) = readD d (secC reg 1)) : Fr d' rep reg o := ⟨h.ok, h0.trans h.r0, h1.trans h.r1⟩
theorem Fr.load (h : Fr d rep reg o) (hL : Live d) (hp : 0 ≤ rep ∧ rep ≤ 6) (hr : reg = 1 ∨ reg = 2) : loadC d rep reg = (verO o, bodO o, 0) := both_load hL hp hr (h.both hp hr)
theorem new_fr (rep : Int) {reg : Int} (hr : reg = 1 ∨ reg = 2) : Fr (newDk 156) rep reg none := ⟨trivial, new_read (sec_lt hr (by omega)), new_read (sec_lt hr (by omega))⟩
theorem store_fr (h : Live d) (hp : 0 ≤ rep ∧ rep ≤ 6) (hr : reg = 1 ∨ reg = 2) (hi : 1 ≤ inc ∧ inc ≤ 1099511627776) (hb : body.length ≤ 43) (hB : Fr d rep reg o) (hv : verO o + 1 ≤ 1099511627776) (hl : d.left < 0) :
    ∃ d', storeC d rep reg inc body = (d', 0) ∧ Live d' ∧ d'.left = d.left ∧ Fr d' rep reg (nextO o inc body) ∧ ∀ j : Nat, j < 156 → j ≠ secC reg 0 → j ≠ secC reg 1 → readD d' j = readD d j := by
  have hvp := verO_pos hB.ok
  obtain ⟨f, hf, hf2⟩ : ∃ f, (if o.isSome = true then 1 else 0) = f ∧ f < 2 := ⟨_, rfl, by split <;> omega⟩
  rw [store_two h hp hr hi hb (hB.both hp hr) hv, hf, two_all h hr hb hf2 (.inl hl)]
  have L1 := putP_live h (secC reg f) (fraC rep reg (verO o + 1) inc body f)
  have L2 := putP_live L1 (secC reg (1 - f)) (fraC rep reg (verO o + 1) inc body (1 - f))
  have hs1 := sec_lt hr hf2
  have hs2 := sec_lt hr (i := 1 - f) (by omega)
  have hrd : ∀ j : Nat, j < 156 → readD (putP (putP d (secC reg f) (fraC rep reg (verO o + 1) inc body f)) (secC reg (1 - f)) (fraC rep reg (verO o + 1) inc body (1 - f))) j = if j = secC reg (1 - f) then (fraC rep reg (verO o + 1) inc body (1 - f), 0) else if j = secC reg f then (fraC rep reg (verO o + 1) inc body f, 0) else readD d j := fun j hj => by
    rw [putP_read L1 _ hj hs2, putP_read h _ hj hs1]
  have hne : secC reg (1 - f) ≠ secC reg f := by unfold secC; omega
  have r1 := hrd (secC reg (1 - f)) hs2
  rw [if_pos rfl] at r1
  have r2 := hrd (secC reg f) hs1
  rw [if_neg (Ne.symm hne), if_pos rfl] at r2
  refine ⟨_, rfl, L2, ?_, ⟨next_ok hB.ok hv hi hb, ?_, ?_⟩, ?_⟩
  · rw [putP_left, putP_left, if_neg (by omega), if_neg (by omega)]
  · rcases (show f = 0 ∨ f = 1 by omega) with rfl | rfl
    · exact r2
    · exact r1
  · rcases (show f = 0 ∨ f = 1 by omega) with rfl | rfl
    · exact r1
    · exact r2
  · intro j hj h0 h1
    rw [hrd j hj, if_neg, if_neg]
    · rcases (show f = 0 ∨ f = 1 by omega) with rfl | rfl <;> assumption
    · rcases (show f = 0 ∨ f = 1 by omega) with rfl | rfl <;> assumption
theorem power_live (h : Live d) {n : Int} (hn : 0 ≤ n) : powerD d n = ({ d with left := n }, 0) := by
  unfold powerD
  rw [live_0 h, if_neg (by omega), if_neg (by omega)]
theorem live_left (h : Live d) (x : Int) : Live { d with left := x } := ⟨h.len, h.w, h.dn, h.de⟩
theorem fr_left (h : Fr d rep reg o) (x : Int) : Fr { d with left := x } rep reg o := ⟨h.ok, h.r0, h.r1⟩
theorem store_crash (h : Live d) (hp : 0 ≤ rep ∧ rep ≤ 6) (hr : reg = 1 ∨ reg = 2) (hi : 1 ≤ inc ∧ inc ≤ 1099511627776) (hb : body.length ≤ 43) (hB : Fr d rep reg o) (hv : verO o + 1 ≤ 1099511627776) (hl : 0 ≤ d.left) (keep : List Bool) :
    (storeC d rep reg inc body).2 = (if 4 ≤ d.left then 0 else 5) ∧ (storeC d rep reg inc body).1.pl.length = 156 ∧ (storeC d rep reg inc body).1.down = false ∧
    (((¬ 4 ≤ d.left) ∧ Fr (anew (storeC d rep reg inc body).1 keep) rep reg o) ∨ Fr (anew (storeC d rep reg inc body).1 keep) rep reg (nextO o inc body) ∨
      ((¬ 4 ≤ d.left) ∧ ∃ f, f < 2 ∧ (f = 1 ↔ o.isSome = true) ∧ readD (anew (storeC d rep reg inc body).1 keep) (secC reg f) = (frR rep reg f (nextO o inc body), 0) ∧ readD (anew (storeC d rep reg inc body).1 keep) (secC reg (1 - f)) = (frR rep reg (1 - f) o, 0))) ∧
    ∀ j : Nat, j < 156 → j ≠ secC reg 0 → j ≠ secC reg 1 → readD (anew (storeC d rep reg inc body).1 keep) j = readD d j := by
  obtain ⟨f, hf, hf2⟩ : ∃ f, (if o.isSome = true then 1 else 0) = f ∧ f < 2 := ⟨_, rfl, by split <;> omega⟩
  rw [store_two h hp hr hi hb (hB.both hp hr) hv, hf]
  obtain ⟨e, hlen, hdn, n, m, h4, hnm, hrd⟩ := two_crash (rep := rep) (v := verO o + 1) (inc := inc) h hr hb hf2 hl keep
  have hs1 := sec_lt hr hf2
  have hs2 := sec_lt hr (i := 1 - f) (by omega)
  have hne : secC reg f ≠ secC reg (1 - f) := by unfold secC; omega
  have r1 := hrd _ hs1
  have r2 := hrd _ hs2
  rw [if_neg (fun hh => hne hh.1)] at r1
  have hok := next_ok hB.ok hv hi hb
  refine ⟨e, hlen, hdn, ?_, ?_⟩
  · cases m
    case true =>
      obtain rfl := hnm rfl
      rw [if_pos ⟨rfl, rfl⟩] at r1 r2
      refine .inr (.inl ?_)
      rcases (show f = 0 ∨ f = 1 by omega) with rfl | rfl
      · exact ⟨hok, r1, r2⟩
      · exact ⟨hok, r2, r1⟩
    case false =>
      have hnl : ¬ 4 ≤ d.left := fun hh => by cases (h4 hh).2
      rw [if_neg (by simp), if_neg (fun hh => hne hh.1.symm)] at r2
      cases n
      case false =>
        rw [if_neg (by simp)] at r1
        refine .inl ⟨hnl, ?_⟩
        rcases (show f = 0 ∨ f = 1 by omega) with rfl | rfl
        · exact ⟨hB.ok, r1.trans hB.r0, r2.trans hB.r1⟩
        · exact ⟨hB.ok, r2.trans hB.r0, r1.trans hB.r1⟩
      case true =>
        rw [if_pos ⟨rfl, rfl⟩] at r1
        refine .inr (.inr ⟨hnl, f, hf2, ?_, r1, ?_⟩)
        · rw [← hf]
          cases o.isSome <;> simp
        · rcases (show f = 0 ∨ f = 1 by omega) with rfl | rfl
          · exact r2.trans hB.r1
          · exact r2.trans hB.r0
  · intro j hj h0 h1
    rw [hrd j hj, if_neg, if_neg]
    · rintro ⟨rfl, _⟩
      rcases (show f = 0 ∨ f = 1 by omega) with rfl | rfl
      · exact h0 rfl
      · exact h1 rfl
    · rintro ⟨rfl, _⟩
      rcases (show f = 0 ∨ f = 1 by omega) with rfl | rfl
      · exact h1 rfl
      · exact h0 rfl
end
end Go.Proofs.YtknchbhobopkeaaGreatDoor
namespace Go.Proofs.YtknchbhobopkeaaGreatDoor
open Go.RowKit
section
variable {B g gp : Nat} {wv : Value} {d : Dk} {w : World}
end
end Go.Proofs.YtknchbhobopkeaaGreatDoor
namespace Go.Proofs.YtknchbhobopkeaaGreatDoor
open Go.RowKit
theorem ce_s0 (g : Nat) (rep reg : Int) (s0 : Nat) (t0 : Tg) (v0 : Value) (s1 : Nat) (t1 : Tg) (v1 : Value) (s : Nat) : 3 + 1 ≤ (ceA g rep reg s0 t0 v0 s1 t1 v1).size ∧ (Value.int .u8 (s : Int)).cells.size = 1 ∧ (∀ u ∈ (Value.int .u8 (s : Int)).cells.toList, u.oneCell' = true) ∧ ((ceA g rep reg s0 t0 v0 s1 t1 v1).toList.take 3 ++ (Value.int .u8 (s : Int)).cells.toList ++ (ceA g rep reg s0 t0 v0 s1 t1 v1).toList.drop (3 + 1)).toArray = ceA g rep reg s t0 v0 s1 t1 v1 :=
  ⟨by show _ ≤ 17; omega, rfl, by simp [Value.cells, Value.oneCell'], rfl⟩
theorem ce_t0 (g : Nat) (rep reg : Int) (s0 : Nat) (t0 : Tg) (v0 : Value) (s1 : Nat) (t1 : Tg) (v1 : Value) (t : Tg) : 4 + 5 ≤ (ceA g rep reg s0 t0 v0 s1 t1 v1).size ∧ (tgV t).cells.size = 5 ∧ (∀ u ∈ (tgV t).cells.toList, u.oneCell' = true) ∧ ((ceA g rep reg s0 t0 v0 s1 t1 v1).toList.take 4 ++ (tgV t).cells.toList ++ (ceA g rep reg s0 t0 v0 s1 t1 v1).toList.drop (4 + 5)).toArray = ceA g rep reg s0 t v0 s1 t1 v1 :=
  ⟨by show _ ≤ 17; omega, rfl, by simp [Value.cells, Value.oneCell'], rfl⟩
theorem ce_v0 (g : Nat) (rep reg : Int) (s0 : Nat) (t0 : Tg) (v0 : Value) (s1 : Nat) (t1 : Tg) (v1 : Value) (a : Option Addr) (n c : Nat) : 9 + 1 ≤ (ceA g rep reg s0 t0 v0 s1 t1 v1).size ∧ (Value.slice a n c).cells.size = 1 ∧ (∀ u ∈ (Value.slice a n c).cells.toList, u.oneCell' = true) ∧ ((ceA g rep reg s0 t0 v0 s1 t1 v1).toList.take 9 ++ (Value.slice a n c).cells.toList ++ (ceA g rep reg s0 t0 v0 s1 t1 v1).toList.drop (9 + 1)).toArray = ceA g rep reg s0 t0 (.slice a n c) s1 t1 v1 :=
  ⟨by show _ ≤ 17; omega, rfl, by simp [Value.cells, Value.oneCell'], rfl⟩
theorem ce_s1 (g : Nat) (rep reg : Int) (s0 : Nat) (t0 : Tg) (v0 : Value) (s1 : Nat) (t1 : Tg) (v1 : Value) (s : Nat) : 10 + 1 ≤ (ceA g rep reg s0 t0 v0 s1 t1 v1).size ∧ (Value.int .u8 (s : Int)).cells.size = 1 ∧ (∀ u ∈ (Value.int .u8 (s : Int)).cells.toList, u.oneCell' = true) ∧ ((ceA g rep reg s0 t0 v0 s1 t1 v1).toList.take 10 ++ (Value.int .u8 (s : Int)).cells.toList ++ (ceA g rep reg s0 t0 v0 s1 t1 v1).toList.drop (10 + 1)).toArray = ceA g rep reg s0 t0 v0 s t1 v1 :=
  ⟨by show _ ≤ 17; omega, rfl, by simp [Value.cells, Value.oneCell'], rfl⟩
theorem ce_t1 (g : Nat) (rep reg : Int) (s0 : Nat) (t0 : Tg) (v0 : Value) (s1 : Nat) (t1 : Tg) (v1 : Value) (t : Tg) : 11 + 5 ≤ (ceA g rep reg s0 t0 v0 s1 t1 v1).size ∧ (tgV t).cells.size = 5 ∧ (∀ u ∈ (tgV t).cells.toList, u.oneCell' = true) ∧ ((ceA g rep reg s0 t0 v0 s1 t1 v1).toList.take 11 ++ (tgV t).cells.toList ++ (ceA g rep reg s0 t0 v0 s1 t1 v1).toList.drop (11 + 5)).toArray = ceA g rep reg s0 t0 v0 s1 t v1 :=
  ⟨by show _ ≤ 17; omega, rfl, by simp [Value.cells, Value.oneCell'], rfl⟩
theorem ce_v1 (g : Nat) (rep reg : Int) (s0 : Nat) (t0 : Tg) (v0 : Value) (s1 : Nat) (t1 : Tg) (v1 : Value) (a : Option Addr) (n c : Nat) : 16 + 1 ≤ (ceA g rep reg s0 t0 v0 s1 t1 v1).size ∧ (Value.slice a n c).cells.size = 1 ∧ (∀ u ∈ (Value.slice a n c).cells.toList, u.oneCell' = true) ∧ ((ceA g rep reg s0 t0 v0 s1 t1 v1).toList.take 16 ++ (Value.slice a n c).cells.toList ++ (ceA g rep reg s0 t0 v0 s1 t1 v1).toList.drop (16 + 1)).toArray = ceA g rep reg s0 t0 v0 s1 t1 (.slice a n c) :=
  ⟨by show _ ≤ 17; omega, rfl, by simp [Value.cells, Value.oneCell'], rfl⟩
def ceZ (g : Nat) (rep reg : Int) : Array Value := ceA g rep reg 0 zeroTg (.slice none 0 0) 0 zeroTg (.slice none 0 0)
theorem lastW_mem : ∀ {l : List (List UInt8 × Nat)} {s : Nat} {b : List UInt8}, lastW l s = some b → ∃ x ∈ l, x.1 = b
  | [], _, _, h => by cases h
  | (c, k) :: l, s, b, h => by
    unfold lastW at h
    cases hl : lastW l s with
    | some x =>
      rw [hl] at h
      simp only [Option.some.injEq] at h
      subst h
      obtain ⟨y, hy, e⟩ := lastW_mem hl
      exact ⟨y, List.mem_cons_of_mem _ hy, e⟩
    | none =>
      rw [hl] at h
      simp only at h
      split at h
      · injection h with h
        exact ⟨(c, k), List.mem_cons_self, h⟩
      · cases h
theorem read_len {B g gp : Nat} {wv : Value} {d : Dk} {w : World} (h : DiskB B g gp wv d w) (s : Int) : ((readD d s).2 = 0 → (readD d s).1.length = 64) ∧ ((readD d s).2 ≠ 0 → (readD d s).1 = []) := by
  unfold readD
  by_cases h0 : liveD d s = 0
  · rw [if_neg (by simpa using h0)]
    cases hl : lastW d.waits s.toNat with
    | some b =>
      obtain ⟨x, hx, e⟩ := lastW_mem hl
      simp only
      exact ⟨fun _ => by rw [← e]; exact (h.wk x hx).1, fun hh => absurd rfl hh⟩
    | none =>
      simp only
      cases hp : d.pl[s.toNat]? with
      | none => exact ⟨(fun hh => by cases hh), fun _ => rfl⟩
      | some p =>
        simp only
        by_cases hlo : p.lost = true
        · rw [if_pos hlo]
          exact ⟨(fun hh => by cases hh), fun _ => rfl⟩
        · rw [if_neg hlo]
          exact ⟨fun _ => (h.ok p (List.mem_of_getElem? hp)).1, fun hh => absurd rfl hh⟩
  · rw [if_pos (by simpa using h0)]
    exact ⟨fun hh => absurd hh h0, fun _ => rfl⟩
theorem read_slb {B g gp : Nat} {wv : Value} {d : Dk} {w : World} (h : DiskB B g gp wv d w) (s : Int) : Calls Tryz.prog 99 #[.pointer (some ⟨g, 0, none⟩), .int .i64 s] w fun e w' => (∃ a c, e = .returned (.tuple #[.slice a (readD d s).1.length c, .int .i64 (readD d s).2]) ∧ SlB w' a c (readD d s).1) ∧ Below w.heap.size w w' := by
  obtain ⟨h1, h2⟩ := read_len h s
  refine (read_any h s).mono ?_
  rintro e w' ⟨hr, hb⟩
  refine ⟨?_, hb⟩
  unfold ReadRes at hr
  by_cases h0 : (readD d s).2 = 0
  · rw [if_pos h0] at hr
    obtain ⟨a, c, rfl, ho⟩ := hr
    rw [h1 h0, h0]
    obtain ⟨_, _, e, hs⟩ := SlB.of_owns (l := (readD d s).1) (by rw [h1 h0]; exact ho)
    rw [h1 h0] at e
    cases e
    exact ⟨a, c, rfl, hs⟩
  · rw [if_neg h0] at hr
    rw [h2 h0]
    exact ⟨none, 0, hr, ⟨.inl rfl, Nat.le_refl _, by simp, fun _ => rfl⟩⟩
end Go.Proofs.YtknchbhobopkeaaGreatDoor
namespace Go.Proofs.YtknchbhobopkeaaGreatDoor
section
variable {d : Dk} {k : Nat}
theorem there_at (h : Live d) (hk : k < 156) : thereD d k = 0 := by
  unfold thereD
  rw [h.len, if_neg (by omega), if_neg (by omega)]
theorem modify_len (l : List Pl) (k : Nat) (f : Pl → Pl) : (l.modify k f).length = l.length := by simp
theorem mod_ne (l : List Pl) (f : Pl → Pl) {j k : Nat} (hne : j ≠ k) : (l.modify k f)[j]? = l[j]? := by
  rw [List.getElem?_modify]
  simp [Ne.symm hne]
theorem mod_eq (l : List Pl) (f : Pl → Pl) (k : Nat) : (l.modify k f)[k]? = l[k]?.map f := by
  rw [List.getElem?_modify]
  simp
theorem live_mod (h : Live d) (f : Pl → Pl) : Live { d with pl := d.pl.modify k f } := ⟨by simp only; rw [modify_len]; exact h.len, h.w, h.dn, h.de⟩
theorem rd_mod (h : Live d) (f : Pl → Pl) {j : Nat} (hj : j < 156) (hne : j ≠ k) : readD { d with pl := d.pl.modify k f } j = readD d j := by
  rw [rd_live (live_mod h f) hj, rd_live h hj]
  unfold rdP
  simp only
  rw [mod_ne _ _ hne]
theorem lose_at (h : Live d) (hk : k < 156) : ∃ d', loseD d k = (d', 0) ∧ Live d' ∧ d'.left = d.left ∧ readD d' k = ([], 50) ∧ ∀ j : Nat, j < 156 → j ≠ k → readD d' j = readD d j := by
  have e : loseD d k = ({ d with pl := d.pl.modify k (fun p => { p with lost := true }) }, 0) := by
    unfold loseD
    rw [there_at h hk]
    simp
  refine ⟨_, e, live_mod h _, rfl, ?_, fun j hj hne => rd_mod h _ hj hne⟩
  rw [rd_live (live_mod h _) hk]
  unfold rdP
  simp only
  rw [mod_eq, List.getElem?_eq_getElem (by rw [h.len]; exact hk)]
  simp
theorem flip_at (h : Live d) (hk : k < 156) {bit : Nat} {f : List UInt8} (hr : readD d k = (f, 0)) : ∃ d', flipD d k bit = (d', 0) ∧ Live d' ∧ d'.left = d.left ∧ readD d' k = (turnBit f (bit % 512), 0) ∧ ∀ j : Nat, j < 156 → j ≠ k → readD d' j = readD d j := by
  have e : flipD d k bit = ({ d with pl := d.pl.modify k (fun p => { p with rest := turnBit p.rest (bit % 512) }) }, 0) := by
    unfold flipD
    rw [there_at h hk, if_neg (by simp), if_neg (by omega)]
    simp
  refine ⟨_, e, live_mod h _, rfl, ?_, fun j hj hne => rd_mod h _ hj hne⟩
  rw [rd_live h hk] at hr
  rw [rd_live (live_mod h _) hk]
  unfold rdP at hr ⊢
  simp only
  rw [mod_eq]
  have hlt : k < d.pl.length := by rw [h.len]; exact hk
  rw [List.getElem?_eq_getElem hlt] at hr ⊢
  simp only [Option.map_some] at hr ⊢
  by_cases hlo : d.pl[k].lost = true
  · rw [if_pos hlo] at hr
    cases hr
  · rw [if_neg hlo] at hr ⊢
    injection hr with hr _
    rw [hr]
end
theorem turn_ne (x : UInt8) (r : Nat) (hr : r < 8) : UInt8.ofNat (x.toNat ^^^ 2 ^ r) ≠ x := by
  intro e
  have h2 : 2 ^ r < 2 ^ 8 := Nat.pow_lt_pow_right (by decide) hr
  have h3 := Nat.xor_lt_two_pow (n := 8) x.toNat_lt h2
  have h4 := congrArg UInt8.toNat e
  rw [UInt8.toNat_ofNat', Nat.mod_eq_of_lt h3] at h4
  have h5 : (x.toNat ^^^ 2 ^ r) ^^^ x.toNat = x.toNat ^^^ x.toNat := by rw [h4]
  rw [Nat.xor_self, Nat.xor_comm x.toNat, Nat.xor_assoc, Nat.xor_self, Nat.xor_zero] at h5
  have := Nat.pow_pos (n := r) (show 0 < 2 by decide)
  omega
section
variable {d : Dk} {rep reg v c : Int} {b : List UInt8} {i : Nat} {x : Cp}
theorem cop_turned (hp : 0 ≤ rep ∧ rep ≤ 6) (hr : reg = 1 ∨ reg = 2) (hi : i < 2) (ho : okO (some (v, c, b))) {bit : Nat} {e : Int} (h : readD d (secC reg i) = (turnBit (fraC rep reg v c b i) (bit % 512), e)) : cop d rep reg i = badCp := by
  obtain ⟨h1, h2, h3, h4, h5⟩ := ho
  have hm := may_cell2 hp hr hi (show 0 ≤ v by omega) h2 h3 h4
  have hl := seal64 ⟨rep, reg, i, v, c⟩ h5
  have hlt : bit % 512 / 8 < (fraC rep reg v c b i).length := by rw [show (fraC rep reg v c b i).length = 64 from hl]; omega
  have hx : (fraC rep reg v c b i)[bit % 512 / 8]? = some (fraC rep reg v c b i)[bit % 512 / 8] := List.getElem?_eq_getElem hlt
  have hbad := turn_bad (t := ⟨rep, reg, i, v, c⟩) (n := 64) hm (by decide) (show b.length ≤ roomN 64 from h5) hx (turn_ne _ (bit % 512 % 8) (by omega))
  unfold cop
  rw [h]
  unfold turnBit
  rw [show (fraC rep reg v c b i).getD (bit % 512 / 8) 0 = (fraC rep reg v c b i)[bit % 512 / 8] by rw [List.getD_eq_getElem?_getD, hx]; rfl]
  unfold mineF
  rw [show openF ((fraC rep reg v c b i).set (bit % 512 / 8) (UInt8.ofNat ((fraC rep reg v c b i)[bit % 512 / 8].toNat ^^^ 2 ^ (bit % 512 % 8)))) = (2, zeroTg, []) from hbad]
  rfl
theorem loaded_one (hi : i < 2) (h1 : cop d rep reg i = coR rep reg i (some (v, c, b))) (h2 : (cop d rep reg (1 - i)).st ≠ 1 ∨ (cop d rep reg (1 - i)).tg.idx < v) : loadedC (cop d rep reg 0) (cop d rep reg 1) = (i, true, 0) ∧ pickC (cop d rep reg 0) (cop d rep reg 1) = coR rep reg i (some (v, c, b)) := by
  rcases (show i = 0 ∨ i = 1 by omega) with rfl | rfl
  · simp only [Nat.sub_zero] at h2
    have e : overC (cop d rep reg 1) (cop d rep reg 0) = false := by
      rw [h1]
      unfold overC coR
      simp only
      rcases h2 with h2 | h2
      · rw [decide_eq_false h2, Bool.false_and]
      · rw [show decide ((1 : Nat) ≠ 1) = false by decide, decide_eq_false (show ¬ v < (cop d rep reg 1).tg.idx by omega)]
        simp
    have e2 : loadedC (cop d rep reg 0) (cop d rep reg 1) = (0, true, 0) := by
      unfold loadedC
      rw [e, if_neg (by simp), h1, if_pos (show (coR rep reg 0 (some (v, c, b))).st = 1 from rfl)]
    refine ⟨e2, ?_⟩
    unfold pickC
    rw [e2, if_neg (by simp), h1]
  · simp only [Nat.sub_self] at h2
    have e : overC (cop d rep reg 1) (cop d rep reg 0) = true := by
      rw [h1]
      unfold overC coR
      simp only
      rcases h2 with h2 | h2
      · rw [decide_eq_true h2]
        simp
      · rw [decide_eq_true h2]
        simp
    have e2 : loadedC (cop d rep reg 0) (cop d rep reg 1) = (1, true, 0) := by
      unfold loadedC
      rw [e, if_pos rfl]
    refine ⟨e2, ?_⟩
    unfold pickC
    rw [e2, if_pos rfl, h1]
theorem load_one (h : Live d) (hp : 0 ≤ rep ∧ rep ≤ 6) (hr : reg = 1 ∨ reg = 2) (hi : i < 2) (h1 : cop d rep reg i = coR rep reg i (some (v, c, b))) (h2 : (cop d rep reg (1 - i)).st ≠ 1 ∨ (cop d rep reg (1 - i)).tg.idx < v) : loadC d rep reg = (v, b, 0) := by
  obtain ⟨e1, e2⟩ := loaded_one hi h1 h2
  rw [load_live h hp hr, e1, e2]
  rfl
theorem load_none (h : Live d) (hp : 0 ≤ rep ∧ rep ≤ 6) (hr : reg = 1 ∨ reg = 2) (h0 : cop d rep reg 0 = badCp) (h1 : cop d rep reg 1 = badCp) : loadC d rep reg = (0, [], 70) := by
  rw [load_live h hp hr, h0, h1]
  rfl
theorem heal_cop (h : Live d) (hp : 0 ≤ rep ∧ rep ≤ 6) (hr : reg = 1 ∨ reg = 2) : healC d rep reg = if (loadedC (cop d rep reg 0) (cop d rep reg 1)).2.1 = false then (d, (loadedC (cop d rep reg 0) (cop d rep reg 1)).2.2) else
    if (if (loadedC (cop d rep reg 0) (cop d rep reg 1)).1 = 1 then cop d rep reg 1 else cop d rep reg 0).st = (if (loadedC (cop d rep reg 0) (cop d rep reg 1)).1 = 1 then cop d rep reg 0 else cop d rep reg 1).st ∧ (if (loadedC (cop d rep reg 0) (cop d rep reg 1)).1 = 1 then cop d rep reg 1 else cop d rep reg 0).tg.idx = (if (loadedC (cop d rep reg 0) (cop d rep reg 1)).1 = 1 then cop d rep reg 0 else cop d rep reg 1).tg.idx ∧ (if (loadedC (cop d rep reg 0) (cop d rep reg 1)).1 = 1 then cop d rep reg 1 else cop d rep reg 0).body = (if (loadedC (cop d rep reg 0) (cop d rep reg 1)).1 = 1 then cop d rep reg 0 else cop d rep reg 1).body then (d, 0) else
    putC d ⟨rep, reg, 1 - ((loadedC (cop d rep reg 0) (cop d rep reg 1)).1 : Int), (if (loadedC (cop d rep reg 0) (cop d rep reg 1)).1 = 1 then cop d rep reg 1 else cop d rep reg 0).tg.idx, (if (loadedC (cop d rep reg 0) (cop d rep reg 1)).1 = 1 then cop d rep reg 1 else cop d rep reg 0).tg.inc⟩ (if (loadedC (cop d rep reg 0) (cop d rep reg 1)).1 = 1 then cop d rep reg 1 else cop d rep reg 0).body := by
  unfold healC
  rw [open_live h hp hr, (copy_cop hr).1, (copy_cop hr).2, if_neg (by simp)]
theorem heal_none (h : Live d) (hp : 0 ≤ rep ∧ rep ≤ 6) (hr : reg = 1 ∨ reg = 2) (h0 : cop d rep reg 0 = badCp) (h1 : cop d rep reg 1 = badCp) : healC d rep reg = (d, 70) := by
  rw [heal_cop h hp hr, h0, h1]
  rfl
theorem store_none (h : Live d) (hp : 0 ≤ rep ∧ rep ≤ 6) (hr : reg = 1 ∨ reg = 2) {inc : Int} {body : List UInt8} (hi : 1 ≤ inc ∧ inc ≤ 1099511627776) (hb : body.length ≤ 43) (h0 : cop d rep reg 0 = badCp) (h1 : cop d rep reg 1 = badCp) : storeC d rep reg inc body = (d, 70) := by
  unfold storeC
  rw [open_live h hp hr, (copy_cop hr).1, (copy_cop hr).2, h0, h1]
  simp only [ne_eq, not_true, false_and, if_false]
  rw [if_neg (by omega), if_neg (by omega)]
  rfl
theorem heal_same (h : Live d) (hp : 0 ≤ rep ∧ rep ≤ 6) (hr : reg = 1 ∨ reg = 2) {o : Vo} (hf : Fr d rep reg o) : healC d rep reg = (d, 0) := by
  have hB := hf.both hp hr
  obtain ⟨e1, _, _⟩ := loaded_same (rep := rep) (reg := reg) o
  rw [heal_cop h hp hr, hB.c0, hB.c1, e1]
  match o with
  | none => rfl
  | some (v, c, b) => rw [if_neg (by simp)]; simp [coR]
theorem heal_one (h : Live d) (hp : 0 ≤ rep ∧ rep ≤ 6) (hr : reg = 1 ∨ reg = 2) (hi : i < 2) (ho : okO (some (v, c, b))) (hl : d.left < 0) (h1 : readD d (secC reg i) = (fraC rep reg v c b i, 0)) (h2 : (cop d rep reg (1 - i)).st ≠ 1 ∨ (cop d rep reg (1 - i)).tg.idx < v) :
    ∃ d', healC d rep reg = (d', 0) ∧ Live d' ∧ d'.left = d.left ∧ Fr d' rep reg (some (v, c, b)) ∧ ∀ j : Nat, j < 156 → j ≠ secC reg 0 → j ≠ secC reg 1 → readD d' j = readD d j := by
  obtain ⟨o1, o2, o3, o4, o5⟩ := ho
  have hc1 : cop d rep reg i = coR rep reg i (some (v, c, b)) := cop_fra hp hr hi (by omega) o2 ⟨o3, o4⟩ o5 h1
  obtain ⟨e1, e2⟩ := loaded_one hi hc1 h2
  have hput := put_p (rep := rep) (reg := reg) (v := v) (inc := c) (body := b) h hr o5 (i := 1 - i) (by omega) (by omega) (by omega)
  have hs2 := sec_lt hr (i := 1 - i) (by omega)
  have hs1 := sec_lt hr hi
  have hne : secC reg i ≠ secC reg (1 - i) := by unfold secC; omega
  have he : healC d rep reg = (putP d (secC reg (1 - i)) (fraC rep reg v c b (1 - i)), 0) := by
    rw [heal_cop h hp hr, e1, ← hput]
    rw [if_neg (by simp)]
    rcases (show i = 0 ∨ i = 1 by omega) with rfl | rfl
    · simp only [show ((0 : Nat) = 1) = False by simp, if_false]
      rw [hc1]
      simp only [Nat.sub_zero] at h2 ⊢
      rw [if_neg]
      · rfl
      · rintro ⟨a1, a2, _⟩
        simp only [coR] at a1 a2
        rcases h2 with h2 | h2
        · exact h2 a1.symm
        · omega
    · simp only [if_true]
      rw [hc1]
      simp only [Nat.sub_self] at h2 ⊢
      rw [if_neg]
      · rfl
      · rintro ⟨a1, a2, _⟩
        simp only [coR] at a1 a2
        rcases h2 with h2 | h2
        · exact h2 a1.symm
        · omega
  have hrd : ∀ j : Nat, j < 156 → readD (putP d (secC reg (1 - i)) (fraC rep reg v c b (1 - i))) j = if j = secC reg (1 - i) then (fraC rep reg v c b (1 - i), 0) else readD d j := fun j hj => putP_read h _ hj hs2
  have r1 := hrd _ hs1
  rw [if_neg hne, h1] at r1
  have r2 := hrd _ hs2
  rw [if_pos rfl] at r2
  refine ⟨_, he, putP_live h _ _, ?_, ⟨⟨o1, o2, o3, o4, o5⟩, ?_, ?_⟩, fun j hj a0 a1 => ?_⟩
  · rw [putP_left, if_neg (by omega)]
  · rcases (show i = 0 ∨ i = 1 by omega) with rfl | rfl
    · exact r1
    · exact r2
  · rcases (show i = 0 ∨ i = 1 by omega) with rfl | rfl
    · exact r2
    · exact r1
  · rw [hrd j hj, if_neg]
    rcases (show i = 0 ∨ i = 1 by omega) with rfl | rfl
    · exact a1
    · exact a0
end
end Go.Proofs.YtknchbhobopkeaaGreatDoor
namespace Go.Proofs.YtknchbhobopkeaaGreatDoor
section
variable {d : Dk} {rep reg inc : Int} {body : List UInt8} {o : Vo}
theorem next_ver (o : Vo) (inc : Int) (body : List UInt8) : verO (nextO o inc body) = verO o + 1 := rfl
theorem next_bod (o : Vo) (inc : Int) (body : List UInt8) : bodO (nextO o inc body) = body := rfl
theorem coR_old {o : Vo} {i : Nat} : (coR rep reg i o).st ≠ 1 ∨ (coR rep reg i o).tg.idx < verO o + 1 := by
  match o with
  | none => exact .inl (by simp [coR])
  | some (v, c, b) => exact .inr (by simp only [coR, verO]; omega)
theorem crash_heal (h : Live d) (hp : 0 ≤ rep ∧ rep ≤ 6) (hr : reg = 1 ∨ reg = 2) (hi : 1 ≤ inc ∧ inc ≤ 1099511627776) (hb : body.length ≤ 43) (hf : Fr d rep reg o) (hv : verO o + 1 ≤ 1099511627776) (hl : 0 ≤ d.left) (keep : List Bool) :
    ∃ d6 d7 d8, storeC d rep reg inc body = (d6, if 4 ≤ d.left then 0 else 5) ∧ crashD d6 keep = (d7, 0) ∧ startD d7 = (d8, 0) ∧ Live d8 ∧ d8.left = -1 ∧ (∀ j : Nat, j < 156 → j ≠ secC reg 0 → j ≠ secC reg 1 → readD d8 j = readD d j) ∧
      ∃ o', ((¬ 4 ≤ d.left ∧ o' = o) ∨ o' = nextO o inc body) ∧ okO o' ∧ loadC d8 rep reg = (verO o', bodO o', 0) ∧ ∃ d9, healC d8 rep reg = (d9, 0) ∧ Live d9 ∧ d9.left < 0 ∧ Fr d9 rep reg o' ∧ (∀ j : Nat, j < 156 → j ≠ secC reg 0 → j ≠ secC reg 1 → readD d9 j = readD d8 j) := by
  obtain ⟨e1, e2, e3, e4, e5⟩ := store_crash h hp hr hi hb hf hv hl keep
  obtain ⟨c1, c2⟩ := crash_start (d := (storeC d rep reg inc body).1) keep e2 e3
  have hL8 := anew_live (d := (storeC d rep reg inc body).1) keep e2
  have hok := next_ok hf.ok hv hi hb
  refine ⟨(storeC d rep reg inc body).1, (crashD (storeC d rep reg inc body).1 keep).1, anew (storeC d rep reg inc body).1 keep, ?_, ?_, c2, hL8, rfl, e5, ?_⟩
  · rw [← e1]
  · rw [← c1]
  · have hleft : (anew (storeC d rep reg inc body).1 keep).left < 0 := by show (-1 : Int) < 0; decide
    rcases e4 with ⟨hn, hf8⟩ | hf8 | ⟨hn, f, hf2, _, r1, r2⟩
    · exact ⟨o, .inl ⟨hn, rfl⟩, hf.ok, hf8.load hL8 hp hr, _, heal_same hL8 hp hr hf8, hL8, hleft, hf8, fun _ _ _ _ => rfl⟩
    · exact ⟨_, .inr rfl, hok, hf8.load hL8 hp hr, _, heal_same hL8 hp hr hf8, hL8, hleft, hf8, fun _ _ _ _ => rfl⟩
    · have k1 := cop_fr hp hr hf2 hok r1
      have k2 := cop_fr hp hr (by omega) hf.ok r2
      have hold : (cop (anew (storeC d rep reg inc body).1 keep) rep reg (1 - f)).st ≠ 1 ∨ (cop (anew (storeC d rep reg inc body).1 keep) rep reg (1 - f)).tg.idx < verO o + 1 := by rw [k2]; exact coR_old
      obtain ⟨d9, g1, g2, g3, g4, g5⟩ := heal_one (v := verO o + 1) (c := inc) (b := body) hL8 hp hr hf2 hok hleft r1 hold
      exact ⟨nextO o inc body, .inr rfl, hok, load_one hL8 hp hr hf2 k1 hold, d9, g1, g2, by rw [g3]; exact hleft, g4, g5⟩
theorem lose_heal {v c : Int} {b : List UInt8} (h : Live d) (hp : 0 ≤ rep ∧ rep ≤ 6) (hr : reg = 1 ∨ reg = 2) (hf : Fr d rep reg (some (v, c, b))) (hl : d.left < 0) {i : Nat} (hi : i < 2) :
    ∃ d1 d2 d3, loseD d (secC reg i) = (d1, 0) ∧ loadC d1 rep reg = (v, b, 0) ∧ healC d1 rep reg = (d2, 0) ∧ loseD d2 (secC reg (1 - i)) = (d3, 0) ∧ loadC d3 rep reg = (v, b, 0) := by
  have hs1 := sec_lt hr hi
  have hs2 := sec_lt hr (i := 1 - i) (by omega)
  have hne : secC reg (1 - i) ≠ secC reg i := by unfold secC; omega
  have hrd : ∀ {d : Dk}, Fr d rep reg (some (v, c, b)) → ∀ j, j < 2 → readD d (secC reg j) = (fraC rep reg v c b j, 0) := by
    intro d hf j hj
    rcases (show j = 0 ∨ j = 1 by omega) with rfl | rfl
    · exact hf.r0
    · exact hf.r1
  obtain ⟨d1, e1, l1, f1, r1, o1⟩ := lose_at h hs1
  have c1 : cop d1 rep reg i = badCp := cop_none r1
  have q1 : readD d1 (secC reg (1 - i)) = (fraC rep reg v c b (1 - i), 0) := (o1 _ hs2 hne).trans (hrd hf _ (by omega))
  have c1' := cop_fr hp hr (i := 1 - i) (by omega) hf.ok (show readD d1 (secC reg (1 - i)) = (frR rep reg (1 - i) (some (v, c, b)), 0) from q1)
  have hii : 1 - (1 - i) = i := by omega
  have hb1 : (cop d1 rep reg (1 - (1 - i))).st ≠ 1 ∨ (cop d1 rep reg (1 - (1 - i))).tg.idx < v := by rw [hii, c1]; exact .inl (by decide)
  obtain ⟨d2, g1, g2, g3, g4, _⟩ := heal_one l1 hp hr (i := 1 - i) (by omega) hf.ok (by rw [f1]; exact hl) q1 hb1
  obtain ⟨d3, e3, l3, _, r3, o3⟩ := lose_at g2 hs2
  have c3 : cop d3 rep reg (1 - i) = badCp := cop_none r3
  have q3 : readD d3 (secC reg i) = (fraC rep reg v c b i, 0) := (o3 _ hs1 (Ne.symm hne)).trans (hrd g4 _ hi)
  have c3' := cop_fr hp hr (i := i) hi hf.ok (show readD d3 (secC reg i) = (frR rep reg i (some (v, c, b)), 0) from q3)
  exact ⟨d1, d2, d3, e1, load_one l1 hp hr (by omega) c1' hb1, g1, e3, load_one l3 hp hr hi c3' (.inl (by rw [c3]; decide))⟩
end
end Go.Proofs.YtknchbhobopkeaaGreatDoor
namespace Go.Proofs.YtknchbhobopkeaaGreatDoor
open Go.RowKit
structure Lg where
  rep : Int
  inc : Int
  snap : Int
def lgA (g : Nat) (s : Lg) : Array Value := #[.pointer (some ⟨g, 0, none⟩), .int .i64 s.rep, .int .i64 s.inc, .int .i64 s.snap]
def LgB (w : World) (q g : Nat) (s : Lg) : Prop := w.heap[q]? = some (.cells (lgA g s) 74 (0, 0))
def plW (i : Int) : Int := (i - 1) % 24
def preW (d : Dk) (f : Int) : Nat → List UInt8
  | 0 => []
  | 1 => (readD d f).1
  | _ => (readD d f).1 ++ (readD d (f + 1)).1
def fr1 (d : Dk) (rep reg pla : Int) : Nat × Tg × List UInt8 := if (readD d (firstN reg pla)).2 ≠ 0 then (2, zeroTg, []) else mineF (preW d (firstN reg pla) 1) rep reg pla
def fr2 (d : Dk) (rep reg pla : Int) : Nat × Tg × List UInt8 := if (readD d (firstN reg pla)).2 ≠ 0 ∨ (readD d (firstN reg pla + 1)).2 ≠ 0 then (2, zeroTg, []) else mineF (preW d (firstN reg pla) 2) rep reg pla
def fitW (n : Int) : Bool := decide (0 ≤ n) && decide (n ≤ 1099511627752)
def liveW (d : Dk) (s : Lg) (i : Int) : Int := if i ≤ s.snap ∨ s.snap + 24 < i then 2 else if upD d = false then 5 else 0
theorem first3 {p : Int} (h : 0 ≤ p ∧ p < 24) : firstN 3 p = 4 + p := by
  unfold firstN
  rw [if_neg (by simp [placesN]; omega)]
  simp [startN, wideN]
theorem first4 {p : Int} (h : 0 ≤ p ∧ p < 48) : firstN 4 p = 28 + 2 * p := by
  unfold firstN
  rw [if_neg (by simp [placesN]; omega)]
  simp [startN, wideN]
  omega
theorem plW_in {i : Int} : 0 ≤ plW i ∧ plW i < 24 := by unfold plW; omega
theorem mine_len3 (b : List UInt8) (rep reg pla : Int) : (mineF b rep reg pla).2.2.length ≤ b.length := by
  unfold mineF openF
  (repeat' split) <;> simp <;> omega
section
variable {B g gp q : Nat} {wv : Value} {d : Dk} {w w' : World} {s : Lg}
theorem LgB.c0 (h : LgB w q g s) : w.cell? ⟨q, 0, none⟩ = some (.pointer (some ⟨g, 0, none⟩)) := blk_cell h 0 _ rfl
theorem LgB.c1 (h : LgB w q g s) : w.cell? ⟨q, 1, none⟩ = some (.int .i64 s.rep) := blk_cell h 1 _ rfl
theorem LgB.c2 (h : LgB w q g s) : w.cell? ⟨q, 2, none⟩ = some (.int .i64 s.inc) := blk_cell h 2 _ rfl
theorem LgB.c3 (h : LgB w q g s) : w.cell? ⟨q, 3, none⟩ = some (.int .i64 s.snap) := blk_cell h 3 _ rfl
theorem LgB.below (h : LgB w q g s) (hb : Below w.heap.size w w') : LgB w' q g s := tr_bl hb h
theorem LgB.kt (h : LgB w q g s) (hk : Kt B w w') : LgB w' q g s := hk.ty _ _ _ h (by decide) (by decide) (by decide)
theorem lnone_any2 (h : LgB w q g s) : Calls Tryz.prog 36 #[.pointer (some ⟨q, 0, none⟩)] w fun e w' => e = .returned (.bool false) ∧ w = w' := by
  have c0 := h.c0
  go_enter Tryz.func36, Tryz.ntmps36
  go_wp2
  go_ret
  exact ⟨rfl, rfl⟩
theorem lsnap_any2 (h : LgB w q g s) : Calls Tryz.prog 13 #[.pointer (some ⟨q, 0, none⟩)] w fun e w' => e = .returned (.int .i64 s.snap) ∧ w = w' := by
  have c3 := h.c3
  go_enter Tryz.func13, Tryz.ntmps13
  go_wp2_with (go_at_call 36; refine (lnone_any2 h).mono ?_; rintro e w1 ⟨rfl, rfl⟩)
  go_ret
  exact ⟨rfl, rfl⟩
theorem lfits_any (n : Int) (w : World) : Calls Tryz.prog 27 #[.int .i64 n] w fun e w' => e = .returned (.bool (fitW n)) ∧ w = w' := by
  unfold fitW
  by_cases h : 0 ≤ n
  · rw [decide_eq_true h]
    go_enter Tryz.func27, Tryz.ntmps27
    go_wp2
    go_ret
    exact ⟨ret_bool (by simp), rfl⟩
  · rw [decide_eq_false h]
    go_enter Tryz.func27, Tryz.ntmps27
    go_wp2
    go_ret
    exact ⟨ret_bool (by simp), rfl⟩
theorem wplace_any (i : Int) (h1 : 1 ≤ i) (h2 : i ≤ 1099511627776) (w : World) : Calls Tryz.prog 34 #[.int .i64 i] w fun e w' => e = .returned (.int .i64 (plW i)) ∧ w = w' := by
  go_enter Tryz.func34, Tryz.ntmps34
  go_wp2
  go_ret
  refine ⟨?_, rfl⟩
  unfold plW
  first
    | rfl
    | (simp only [Int.tmod_eq_emod_of_nonneg (show (0 : Int) ≤ i - 1 by omega)]; done)
    | (rw [Int.tmod_eq_emod_of_nonneg (show (0 : Int) ≤ i - 1 by omega)])
set_option maxRecDepth 100000 in
set_option maxHeartbeats 1000000 in
theorem llive_any2 (h : LgB w q g s) (hd : DiskB B g gp wv d w) (hs : 0 ≤ s.snap ∧ s.snap ≤ 1099511627752) (i : Int) : Calls Tryz.prog 29 #[.pointer (some ⟨q, 0, none⟩), .int .i64 i] w fun e w' => e = .returned (.int .i64 (liveW d s i)) ∧ w = w' := by
  obtain ⟨r, hr⟩ : ∃ r, liveW d s i = r := ⟨_, rfl⟩
  rw [hr]
  unfold liveW at hr
  have c0 := h.c0
  have c3 := h.c3
  have hup := up_any hd
  rcases (show i ≤ s.snap ∨ (¬ i ≤ s.snap ∧ s.snap + 24 < i) ∨ (¬ i ≤ s.snap ∧ ¬ s.snap + 24 < i) by omega) with h1 | ⟨h1, h2⟩ | ⟨h1, h2⟩
  · obtain rfl : r = 2 := by rw [← hr, if_pos (.inl h1)]
    clear hr
    go_enter Tryz.func29, Tryz.ntmps29
    go_wp2_with (go_at_call 36; refine (lnone_any2 h).mono ?_; rintro e w1 ⟨rfl, rfl⟩)
    go_ret
    exact ⟨rfl, rfl⟩
  · obtain rfl : r = 2 := by rw [← hr, if_pos (.inr h2)]
    clear hr
    go_enter Tryz.func29, Tryz.ntmps29
    go_wp2_with (go_at_call 36; refine (lnone_any2 h).mono ?_; rintro e w1 ⟨rfl, rfl⟩)
    go_ret
    exact ⟨rfl, rfl⟩
  · rw [if_neg (by omega)] at hr
    cases hu : upD d
    all_goals
      rw [hu] at hr hup
      simp only [if_true, Bool.true_eq_false, if_false] at hr
      subst hr
      go_enter Tryz.func29, Tryz.ntmps29
      go_wp2_with (first
        | (go_at_call 36; refine (lnone_any2 h).mono ?_; rintro e w1 ⟨rfl, rfl⟩)
        | (go_at_call 28; refine hup.mono ?_; rintro e w1 ⟨rfl, rfl⟩))
      go_ret
      exact ⟨rfl, rfl⟩
end
end Go.Proofs.YtknchbhobopkeaaGreatDoor
