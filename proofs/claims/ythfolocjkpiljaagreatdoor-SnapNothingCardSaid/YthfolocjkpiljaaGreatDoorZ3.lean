/- Texts that the claim leans on, part 3: X21, X22, X8, X9, X10, X11, X23, X24. -/
import Derived.Test.YthfolocjkpiljaaGreatDoorZ1
import Derived.Test.YthfolocjkpiljaaGreatDoorZ2
import Derived.WalkKit
import Derived.WalkSpells
import Derived.WalkLawsBesides
import Derived.Handy
import Derived.Lib.Hide
import Derived.ProofKit
import Derived.Deep.QuietTactic
import Derived.OpenShut
import Derived.Laws.CopyOwn
import Derived.Laws.CopyRow
import Derived.Laws.NewBlocks
import Derived.Deep.RegionLaw
import Derived.Test.YthfolocjkpiljaaGreatDoorRows
import Derived.BigQuiet
import Derived.Deep.DeepCutAuto
import Derived.RegionTactic
import Derived.ChangeAlike
namespace Go.Proofs.YthfolocjkpiljaaGreatDoor

/-- A shelf: its manifest, whose it is. -/
structure Sh where
  idx : Int
  area : Int
  cnt : Int
  rep : Int
  inc : Int
def plaS (s : Sh) (k : Int) : Int := 8 * s.area + k
/-- Both sectors of a place: their bytes, whether both are read. -/
def secsS (d : Dk) (p : Int) : List UInt8 × Bool := ((readD d (firstN 5 p)).1 ++ (readD d (firstN 5 p + 1)).1, decide ((readD d (firstN 5 p)).2 = 0) && decide ((readD d (firstN 5 p + 1)).2 = 0))
/-- What a frame's bytes say of a chunk. -/
def frameS (s : Sh) (k : Int) (m : Nat × Tg × List UInt8) : List UInt8 × Bool :=
  ((parseCk m.2.2).2.1, decide (m.1 = 1) && (decide (m.2.1.idx = s.idx) && (decide ((parseCk m.2.2).2.2 = 0) && (decide (((parseCk m.2.2).1 : Int) = s.cnt) && fitsC k ((parseCk m.2.2).1 : Int) (parseCk m.2.2).2.1.length))))
def readS (d : Dk) (s : Sh) (k : Int) : List UInt8 × Bool :=
  if (secsS d (plaS s k)).2 = false then ([], false) else frameS s k (mineF (secsS d (plaS s k)).1 s.rep 5 (plaS s k))
def askedS (d : Dk) (s : Sh) (k : Int) : Int := if k < 0 ∨ s.cnt ≤ k then 2 else if upD d = false then 5 else 0
def hurtS (d : Dk) (s : Sh) (n : Nat) : List Int := ((List.range n).filter (fun (k : Nat) => !(readS d s k).2)).map (fun (k : Nat) => (k : Int))
def chunkS (d : Dk) (s : Sh) (k : Int) : List UInt8 × Int := if askedS d s k ≠ 0 then ([], askedS d s k) else if (readS d s k).2 = false then ([], 130) else ((readS d s k).1, 0)
def allS (d : Dk) (s : Sh) (n : Nat) : List UInt8 := (List.range n).flatMap (fun (k : Nat) => (readS d s k).1)
def bytesS (d : Dk) (s : Sh) : List UInt8 × Int :=
  if upD d = false then ([], 5) else if (List.range s.cnt.toNat).all (fun (k : Nat) => (readS d s k).2) = true then (allS d s s.cnt.toNat, 0) else ([], 130)
def tagS (s : Sh) (k : Int) : Tg := ⟨s.rep, 5, plaS s k, s.idx, s.inc⟩
def frmS (s : Sh) (k : Int) (c : List UInt8) : List UInt8 := sealF (tagS s k) (ckB s.cnt c) 128
def putS (d : Dk) (s : Sh) (k : Int) (c : List UInt8) : Dk × Int :=
  if (writeD d (firstN 5 (plaS s k)) (pcD (frmS s k c) 0)).2 ≠ 0 then writeD d (firstN 5 (plaS s k)) (pcD (frmS s k c) 0) else
  writeD (writeD d (firstN 5 (plaS s k)) (pcD (frmS s k c) 0)).1 (firstN 5 (plaS s k) + 1) (pcD (frmS s k c) 1)
/-- Chunks are put, from the k-th place on, until one can't be. -/
def putsS (d : Dk) (s : Sh) : Nat → List (List UInt8) → Dk × Int
  | _, [] => (d, 0)
  | k, c :: l => if (putS d s k c).2 ≠ 0 then putS d s k c else putsS (putS d s k c).1 s (k + 1) l
def nextS (s : Sh) (idx : Int) (n : Nat) : Sh := { s with idx := idx, area := if 0 < s.idx then 1 - s.area else 0, cnt := (n : Int) }
def installS (d : Dk) (s : Sh) (idx : Int) (b : List UInt8) : Dk × Sh × Int :=
  if idx ≤ s.idx ∨ 1099511627752 < idx then (d, s, 2) else
  if 640 < b.length then (d, s, 3) else
  if upD d = false then (d, s, 5) else
  let m := nextS s idx (numC b.length)
  let p := putsS d m 0 (splitC b)
  if p.2 ≠ 0 then (p.1, s, p.2) else
  let f := flushD p.1
  if f.2 ≠ 0 then (f.1, s, f.2) else
  let t := storeC f.1 s.rep 2 s.inc (manB m.idx m.area m.cnt)
  if t.2 ≠ 0 then (t.1, s, t.2) else (t.1, m, 0)
def mendS (d : Dk) (s : Sh) (k : Int) (c : List UInt8) : Dk × Int :=
  if askedS d s k = 2 ∨ fitsC k s.cnt c.length = false then (d, 2) else
  if askedS d s k ≠ 0 then (d, askedS d s k) else
  if (readS d s k).2 = true then (d, 2) else
  if (putS d s k c).2 ≠ 0 then putS d s k c else flushD (putS d s k c).1
def openS (d : Dk) (rep inc : Int) : Dk × Sh × Int :=
  let z : Sh := ⟨0, 0, 0, rep, inc⟩
  if 0 < d.pl.length ∧ (d.pl.length < 156 ∨ rep < 0 ∨ 7 ≤ rep ∨ inc < 1 ∨ 1099511627776 < inc) then (d, z, 2) else
  let l := loadC d rep 2
  if l.2.2 ≠ 0 then (d, z, l.2.2) else
  let m := parseMan l.2.1
  if 0 < l.1 ∧ m.2 ≠ 0 then (d, z, m.2) else
  let s : Sh := if 0 < l.1 then ⟨m.1.1, m.1.2.1, m.1.2.2, rep, inc⟩ else z
  let h := healC d rep 2
  (h.1, s, h.2)
/-- A shelf that may be. -/
structure ShOk (s : Sh) : Prop where
  i : 0 ≤ s.idx ∧ s.idx ≤ 1099511627752
  a : 0 ≤ s.area ∧ s.area ≤ 1
  c : 0 ≤ s.cnt ∧ s.cnt ≤ 8
  r : 0 ≤ s.rep ∧ s.rep ≤ 6
  n : 1 ≤ s.inc ∧ s.inc ≤ 1099511627776
theorem first5 {p : Int} (h : 0 ≤ p ∧ p < 16) : firstN 5 p = 124 + 2 * p := by
  unfold firstN placesN startN wideN
  simp only [show ¬ (5 : Int) = 1 by decide, show ¬ (5 : Int) = 2 by decide, show ¬ (5 : Int) = 3 by decide, show ¬ (5 : Int) = 4 by decide, if_false, if_true]
  rw [if_neg (by omega)]
  omega
theorem tagS_may {s : Sh} (h : ShOk s) {k : Int} (hk : 0 ≤ k ∧ k < 8) : mayTg (tagS s k) = true := by
  have h1 := h.i
  have h2 := h.a
  have h3 := h.r
  have h4 := h.n
  unfold mayTg tagS plaS placesN
  simp
  omega
theorem frmS_len {s : Sh} {k : Int} {c : List UInt8} (hc : c.length ≤ 80) : (frmS s k c).length = 128 := sealF_len (by decide) (by simp [roomN, ckB]; omega)
theorem read_len2 (d : Dk) (s : Sh) (k : Int) : (readS d s k).1.length ≤ 80 := by
  unfold readS
  split
  · simp
  · exact (parse_ck_le _).2
end Go.Proofs.YthfolocjkpiljaaGreatDoor

namespace Go.Proofs.YthfolocjkpiljaaGreatDoor

theorem putsS_cons (d : Dk) (s : Sh) (k : Nat) (c : List UInt8) (l : List (List UInt8)) : putsS d s k (c :: l) = if (putS d s k c).2 ≠ 0 then putS d s k c else putsS (putS d s k c).1 s (k + 1) l := rfl
theorem puts_app (s : Sh) : ∀ (l1 l2 : List (List UInt8)) (d : Dk) (k : Nat), (putsS d s k l1).2 = 0 → putsS d s k (l1 ++ l2) = putsS (putsS d s k l1).1 s (k + l1.length) l2
  | [], _, _, _, _ => rfl
  | c :: l1, l2, d, k, h => by
    rw [putsS_cons] at h
    rw [List.cons_append, putsS_cons, putsS_cons d s k c l1]
    by_cases h0 : (putS d s k c).2 = 0
    · rw [if_neg (by simpa using h0)] at h
      rw [if_neg (by simpa using h0), if_neg (by simpa using h0), puts_app s l1 l2 _ _ h, List.length_cons, show k + 1 + l1.length = k + (l1.length + 1) by omega]
    · rw [if_pos h0] at h
      exact absurd h h0
theorem puts_err (s : Sh) : ∀ (l1 l2 : List (List UInt8)) (d : Dk) (k : Nat), (putsS d s k l1).2 ≠ 0 → putsS d s k (l1 ++ l2) = putsS d s k l1
  | [], _, _, _, h => absurd rfl h
  | c :: l1, l2, d, k, h => by
    rw [putsS_cons] at h
    rw [List.cons_append, putsS_cons, putsS_cons d s k c l1]
    by_cases h0 : (putS d s k c).2 = 0
    · rw [if_neg (by simpa using h0)] at h
      rw [if_neg (by simpa using h0), if_neg (by simpa using h0)]
      exact puts_err s l1 l2 _ _ h
    · rw [if_pos h0, if_pos h0]
theorem putS_waits (d : Dk) (s : Sh) (k : Int) (c : List UInt8) : (putS d s k c).1.waits.length ≤ d.waits.length + 2 := by
  have h1 := (write_pl d (firstN 5 (plaS s k)) (pcD (frmS s k c) 0)).2
  have h2 := (write_pl (writeD d (firstN 5 (plaS s k)) (pcD (frmS s k c) 0)).1 (firstN 5 (plaS s k) + 1) (pcD (frmS s k c) 1)).2
  unfold putS
  split <;> omega
theorem puts_waits (s : Sh) : ∀ (l : List (List UInt8)) (d : Dk) (k : Nat), (putsS d s k l).1.waits.length ≤ d.waits.length + 2 * l.length
  | [], d, k => by simp [putsS]
  | c :: l, d, k => by
    have h1 := putS_waits d s k c
    have h2 := puts_waits s l (putS d s k c).1 (k + 1)
    rw [putsS_cons]
    split
    · simp only [List.length_cons]; omega
    · simp only [List.length_cons]; omega
/-- One chunk more. -/
theorem puts_next {s : Sh} {l : List (List UInt8)} {d d1 d2 : Dk} {e : Int} {j : Nat} (hj : j < l.length) (h1 : putsS d s 0 (l.take j) = (d1, 0)) (h2 : putS d1 s (j : Int) l[j] = (d2, e)) : putsS d s 0 (l.take (j + 1)) = (d2, e) := by
  rw [List.take_succ_eq_append_getElem hj, puts_app s _ _ d 0 (by rw [h1]), h1, List.length_take, Nat.min_eq_left (by omega), Nat.zero_add]
  rw [putsS_cons]
  simp only
  rw [h2]
  split
  · rfl
  · rename_i h
    have : e = 0 := by simpa using h
    rw [this]
    rfl
theorem puts_stop {s : Sh} {l : List (List UInt8)} {d d2 : Dk} {e : Int} {j : Nat} (h : putsS d s 0 (l.take j) = (d2, e)) (he : e ≠ 0) : putsS d s 0 l = (d2, e) := by
  have := puts_err s (l.take j) (l.drop j) d 0 (by rw [h]; exact he)
  rw [List.take_append_drop] at this
  rw [this, h]
theorem splitC_len (b : List UInt8) : (splitC b).length = numC b.length := by simp [splitC]
theorem splitC_at (b : List UInt8) {j : Nat} (h : j < (splitC b).length) : (splitC b)[j] = pcC b j := by simp [splitC]
end Go.Proofs.YthfolocjkpiljaaGreatDoor

namespace Go.Proofs.YthfolocjkpiljaaGreatDoor

/-- A good copy of a version, or a blank one. -/
def coR (rep reg : Int) (i : Nat) : Vo → Cp
  | none => ⟨0, zeroTg, []⟩
  | some (v, c, b) => ⟨1, ⟨rep, reg, i, v, c⟩, b⟩
def badR : Cp := ⟨2, zeroTg, []⟩
theorem verO_pos {o : Vo} (h : okO o) : 0 ≤ verO o := by
  match o, h with
  | none, _ => exact Int.le_refl 0
  | some (v, c, b), ⟨h1, _⟩ => simp only [verO]; omega
theorem verO_le {o : Vo} (h : okO o) : verO o ≤ 1099511627776 := by
  match o, h with
  | none, _ => simp [verO]
  | some (v, c, b), ⟨_, h2, _⟩ => exact h2
/-! What counts of two copies. -/
section
variable {rep reg : Int} {o p : Vo}
theorem loaded_same (o : Vo) : loadedC (coR rep reg 0 o) (coR rep reg 1 o) = (0, o.isSome, 0) ∧ pickC (coR rep reg 0 o) (coR rep reg 1 o) = coR rep reg 0 o ∧ firstP (coR rep reg 0 o) (coR rep reg 1 o) = (if o.isSome = true then 1 else 0) := by
  match o with
  | none => exact ⟨rfl, rfl, rfl⟩
  | some (v, c, b) =>
    have h1 : loadedC (coR rep reg 0 (some (v, c, b))) (coR rep reg 1 (some (v, c, b))) = (0, true, 0) := by simp [loadedC, overC, coR]
    refine ⟨h1, ?_, ?_⟩
    · unfold pickC
      rw [h1]
      simp
    · unfold firstP
      rw [h1]
      simp
/-- The second one is ahead. -/
theorem loaded_second {v c : Int} {b : List UInt8} (h : verO o < v) : loadedC (coR rep reg 0 o) (coR rep reg 1 (some (v, c, b))) = (1, true, 0) ∧ pickC (coR rep reg 0 o) (coR rep reg 1 (some (v, c, b))) = coR rep reg 1 (some (v, c, b)) := by
  have h1 : loadedC (coR rep reg 0 o) (coR rep reg 1 (some (v, c, b))) = (1, true, 0) := by
    match o, h with
    | none, _ => simp [loadedC, overC, coR]
    | some (v', c', b'), h => simp only [verO] at h; simp [loadedC, overC, coR, h]
  exact ⟨h1, by unfold pickC; rw [h1]; simp⟩
/-- The first one is. -/
theorem loaded_first {v c : Int} {b : List UInt8} (h : verO o < v) : loadedC (coR rep reg 0 (some (v, c, b))) (coR rep reg 1 o) = (0, true, 0) ∧ pickC (coR rep reg 0 (some (v, c, b))) (coR rep reg 1 o) = coR rep reg 0 (some (v, c, b)) := by
  have h1 : loadedC (coR rep reg 0 (some (v, c, b))) (coR rep reg 1 o) = (0, true, 0) := by
    match o, h with
    | none, _ => simp [loadedC, overC, coR]
    | some (v', c', b'), h =>
      simp only [verO] at h
      have : ¬ v < v' := by omega
      simp [loadedC, overC, coR, this]
  exact ⟨h1, by unfold pickC; rw [h1]; simp⟩
theorem loaded_bad0 {v c : Int} {b : List UInt8} : loadedC badR (coR rep reg 1 (some (v, c, b))) = (1, true, 0) ∧ pickC badR (coR rep reg 1 (some (v, c, b))) = coR rep reg 1 (some (v, c, b)) := by
  have h1 : loadedC badR (coR rep reg 1 (some (v, c, b))) = (1, true, 0) := by simp [loadedC, overC, coR, badR]
  exact ⟨h1, by unfold pickC; rw [h1]; simp⟩
theorem loaded_bad1 {v c : Int} {b : List UInt8} : loadedC (coR rep reg 0 (some (v, c, b))) badR = (0, true, 0) ∧ pickC (coR rep reg 0 (some (v, c, b))) badR = coR rep reg 0 (some (v, c, b)) := by
  have h1 : loadedC (coR rep reg 0 (some (v, c, b))) badR = (0, true, 0) := by simp [loadedC, overC, coR, badR]
  exact ⟨h1, by unfold pickC; rw [h1]; simp⟩
theorem loaded_bad : loadedC badR badR = (0, false, 70) := rfl
end

/-- Both copies say the same. -/
structure Both (d : Dk) (rep reg : Int) (o : Vo) : Prop where
  ok : okO o
  c0 : cop d rep reg 0 = coR rep reg 0 o
  c1 : cop d rep reg 1 = coR rep reg 1 o
theorem both_load {d : Dk} {rep reg : Int} {o : Vo} (h : Live d) (hp : 0 ≤ rep ∧ rep ≤ 6) (hr : reg = 1 ∨ reg = 2) (hB : Both d rep reg o) : loadC d rep reg = (verO o, bodO o, 0) := by
  obtain ⟨e1, e2, _⟩ := loaded_same (rep := rep) (reg := reg) o
  rw [load_live h hp hr, hB.c0, hB.c1, e1, e2]
  match o with
  | none => rfl
  | some (v, c, b) => rfl
theorem rd_rep {n j : Nat} (h : j < n) : rdP (List.replicate n zeroPl) j = (zeros64, 0) := by
  unfold rdP
  rw [List.getElem?_replicate, if_pos h]
  rfl
theorem new_live : Live (newDk 156) := ⟨List.length_replicate, rfl, rfl, rfl⟩
theorem new_read {j : Nat} (hj : j < 156) : readD (newDk 156) j = (zeros64, 0) := by
  rw [rd_live new_live hj]
  exact rd_rep hj
theorem sec_lt {reg : Int} (hr : reg = 1 ∨ reg = 2) {i : Nat} (hi : i < 2) : secC reg i < 156 := by have := (sec_first hr hi).2; omega
theorem new_both (rep : Int) {reg : Int} (hr : reg = 1 ∨ reg = 2) : Both (newDk 156) rep reg none := ⟨trivial, cop_zero (new_read (sec_lt hr (by omega))), cop_zero (new_read (sec_lt hr (by omega)))⟩

section
variable {d : Dk} {rep reg inc : Int} {body : List UInt8} {o : Vo}
/-- The version that is stored. -/
def nextO (o : Vo) (inc : Int) (body : List UInt8) : Vo := some (verO o + 1, inc, body)
theorem next_ok (h : okO o) (hv : verO o + 1 ≤ 1099511627776) (hi : 1 ≤ inc ∧ inc ≤ 1099511627776) (hb : body.length ≤ 43) : okO (nextO o inc body) := ⟨by have := verO_pos h; omega, hv, hi.1, hi.2, hb⟩
theorem pick_idx (o : Vo) : (coR rep reg 0 o).tg.idx = verO o := by match o with | none => rfl | some (v, c, b) => rfl
theorem store_two (h : Live d) (hp : 0 ≤ rep ∧ rep ≤ 6) (hr : reg = 1 ∨ reg = 2) (hi : 1 ≤ inc ∧ inc ≤ 1099511627776) (hb : body.length ≤ 43) (hB : Both d rep reg o) (hv : verO o + 1 ≤ 1099511627776) : storeC d rep reg inc body = twoP d rep reg (verO o + 1) inc body (if o.isSome = true then 1 else 0) := by
  obtain ⟨e1, e2, e3⟩ := loaded_same (rep := rep) (reg := reg) o
  have hr2 := store_red h hp hr hi hb (by rw [hB.c0, hB.c1, e1]) (by rw [hB.c0, hB.c1, e2, pick_idx]; exact hv)
  rw [hr2, hB.c0, hB.c1, e2, e3, pick_idx]
  rfl
theorem cop_fra {d : Dk} {v : Int} {i : Nat} {e : Int} (hp : 0 ≤ rep ∧ rep ≤ 6) (hr : reg = 1 ∨ reg = 2) (hi2 : i < 2) (h0 : 0 ≤ v) (h1 : v ≤ 1099511627776) (hi : 1 ≤ inc ∧ inc ≤ 1099511627776) (hb : body.length ≤ 43) (h : readD d (secC reg i) = (fraC rep reg v inc body i, e)) : cop d rep reg i = coR rep reg i (some (v, inc, body)) :=
  cop_frame h (may_cell2 hp hr hi2 h0 h1 hi.1 hi.2) hb
/-- A store with power for all of it. -/
theorem store_both (h : Live d) (hp : 0 ≤ rep ∧ rep ≤ 6) (hr : reg = 1 ∨ reg = 2) (hi : 1 ≤ inc ∧ inc ≤ 1099511627776) (hb : body.length ≤ 43) (hB : Both d rep reg o) (hv : verO o + 1 ≤ 1099511627776) (hl : d.left < 0) :
    ∃ d', storeC d rep reg inc body = (d', 0) ∧ Live d' ∧ d'.left = d.left ∧ Both d' rep reg (nextO o inc body) ∧ ∀ j : Nat, j < 156 → j ≠ secC reg 0 → j ≠ secC reg 1 → readD d' j = readD d j := by
  have hvp := verO_pos hB.ok
  obtain ⟨f, hf, hf2⟩ : ∃ f, (if o.isSome = true then 1 else 0) = f ∧ f < 2 := ⟨_, rfl, by split <;> omega⟩
  rw [store_two h hp hr hi hb hB hv, hf, two_all h hr hb hf2 (.inl hl)]
  have L1 := putP_live h (secC reg f) (fraC rep reg (verO o + 1) inc body f)
  have L2 := putP_live L1 (secC reg (1 - f)) (fraC rep reg (verO o + 1) inc body (1 - f))
  have hs1 := sec_lt hr hf2
  have hs2 := sec_lt hr (i := 1 - f) (by omega)
  have hrd : ∀ j : Nat, j < 156 → readD (putP (putP d (secC reg f) (fraC rep reg (verO o + 1) inc body f)) (secC reg (1 - f)) (fraC rep reg (verO o + 1) inc body (1 - f))) j = if j = secC reg (1 - f) then (fraC rep reg (verO o + 1) inc body (1 - f), 0) else if j = secC reg f then (fraC rep reg (verO o + 1) inc body f, 0) else readD d j := fun j hj => by
    rw [putP_read L1 _ hj hs2, putP_read h _ hj hs1]
  have hne : secC reg (1 - f) ≠ secC reg f := by unfold secC; omega
  have r1 := hrd (secC reg (1 - f)) hs2
  rw [if_pos rfl] at r1
  have r2 := hrd (secC reg f) hs1
  rw [if_neg (Ne.symm hne), if_pos rfl] at r2
  have k1 := cop_fra hp hr (by omega) (by omega) hv hi hb r1
  have k2 := cop_fra hp hr hf2 (by omega) hv hi hb r2
  refine ⟨_, rfl, L2, ?_, ⟨next_ok hB.ok hv hi hb, ?_, ?_⟩, ?_⟩
  · rw [putP_left, putP_left, if_neg (by omega), if_neg (by omega)]
  · rcases (show f = 0 ∨ f = 1 by omega) with rfl | rfl
    · exact k2
    · exact k1
  · rcases (show f = 0 ∨ f = 1 by omega) with rfl | rfl
    · exact k1
    · exact k2
  · intro j hj h0 h1
    rw [hrd j hj, if_neg, if_neg]
    · rcases (show f = 0 ∨ f = 1 by omega) with rfl | rfl <;> assumption
    · rcases (show f = 0 ∨ f = 1 by omega) with rfl | rfl <;> assumption
end
end Go.Proofs.YthfolocjkpiljaaGreatDoor

namespace Go.Proofs.YthfolocjkpiljaaGreatDoor

/-- What a place of a replica's region holds. -/
def frR (rep reg : Int) (i : Nat) : Vo → List UInt8
  | none => zeros64
  | some (v, c, b) => fraC rep reg v c b i
structure Fr (d : Dk) (rep reg : Int) (o : Vo) : Prop where
  ok : okO o
  r0 : readD d (secC reg 0) = (frR rep reg 0 o, 0)
  r1 : readD d (secC reg 1) = (frR rep reg 1 o, 0)
section
variable {d d' : Dk} {rep reg inc : Int} {body : List UInt8} {o o' : Vo}
theorem cop_fr {i : Nat} {e : Int} (hp : 0 ≤ rep ∧ rep ≤ 6) (hr : reg = 1 ∨ reg = 2) (hi : i < 2) (ho : okO o) (h : readD d (secC reg i) = (frR rep reg i o, e)) : cop d rep reg i = coR rep reg i o := by
  match o, ho, h with
  | none, _, h => exact cop_zero h
  | some (v, c, b), ⟨h1, h2, h3, h4, h5⟩, h => exact cop_fra hp hr hi (by omega) h2 ⟨h3, h4⟩ h5 h
theorem Fr.both (h : Fr d rep reg o) (hp : 0 ≤ rep ∧ rep ≤ 6) (hr : reg = 1 ∨ reg = 2) : Both d rep reg o := ⟨h.ok, cop_fr hp hr (by omega) h.ok h.r0, cop_fr hp hr (by omega) h.ok h.r1⟩
theorem Fr.same (h : Fr d rep reg o) (h0 : readD d' (secC reg 0) = readD d (secC reg 0)) (h1 : readD d' (secC reg 1) = readD d (secC reg 1)) : Fr d' rep reg o := ⟨h.ok, h0.trans h.r0, h1.trans h.r1⟩
theorem Fr.load (h : Fr d rep reg o) (hL : Live d) (hp : 0 ≤ rep ∧ rep ≤ 6) (hr : reg = 1 ∨ reg = 2) : loadC d rep reg = (verO o, bodO o, 0) := both_load hL hp hr (h.both hp hr)
theorem new_fr (rep : Int) {reg : Int} (hr : reg = 1 ∨ reg = 2) : Fr (newDk 156) rep reg none := ⟨trivial, new_read (sec_lt hr (by omega)), new_read (sec_lt hr (by omega))⟩
theorem store_fr (h : Live d) (hp : 0 ≤ rep ∧ rep ≤ 6) (hr : reg = 1 ∨ reg = 2) (hi : 1 ≤ inc ∧ inc ≤ 1099511627776) (hb : body.length ≤ 43) (hB : Fr d rep reg o) (hv : verO o + 1 ≤ 1099511627776) (hl : d.left < 0) :
    ∃ d', storeC d rep reg inc body = (d', 0) ∧ Live d' ∧ d'.left = d.left ∧ Fr d' rep reg (nextO o inc body) ∧ ∀ j : Nat, j < 156 → j ≠ secC reg 0 → j ≠ secC reg 1 → readD d' j = readD d j := by
  have hvp := verO_pos hB.ok
  obtain ⟨f, hf, hf2⟩ : ∃ f, (if o.isSome = true then 1 else 0) = f ∧ f < 2 := ⟨_, rfl, by split <;> omega⟩
  rw [store_two h hp hr hi hb (hB.both hp hr) hv, hf, two_all h hr hb hf2 (.inl hl)]
  have L1 := putP_live h (secC reg f) (fraC rep reg (verO o + 1) inc body f)
  have L2 := putP_live L1 (secC reg (1 - f)) (fraC rep reg (verO o + 1) inc body (1 - f))
  have hs1 := sec_lt hr hf2
  have hs2 := sec_lt hr (i := 1 - f) (by omega)
  have hrd : ∀ j : Nat, j < 156 → readD (putP (putP d (secC reg f) (fraC rep reg (verO o + 1) inc body f)) (secC reg (1 - f)) (fraC rep reg (verO o + 1) inc body (1 - f))) j = if j = secC reg (1 - f) then (fraC rep reg (verO o + 1) inc body (1 - f), 0) else if j = secC reg f then (fraC rep reg (verO o + 1) inc body f, 0) else readD d j := fun j hj => by
    rw [putP_read L1 _ hj hs2, putP_read h _ hj hs1]
  have hne : secC reg (1 - f) ≠ secC reg f := by unfold secC; omega
  have r1 := hrd (secC reg (1 - f)) hs2
  rw [if_pos rfl] at r1
  have r2 := hrd (secC reg f) hs1
  rw [if_neg (Ne.symm hne), if_pos rfl] at r2
  refine ⟨_, rfl, L2, ?_, ⟨next_ok hB.ok hv hi hb, ?_, ?_⟩, ?_⟩
  · rw [putP_left, putP_left, if_neg (by omega), if_neg (by omega)]
  · rcases (show f = 0 ∨ f = 1 by omega) with rfl | rfl
    · exact r2
    · exact r1
  · rcases (show f = 0 ∨ f = 1 by omega) with rfl | rfl
    · exact r1
    · exact r2
  · intro j hj h0 h1
    rw [hrd j hj, if_neg, if_neg]
    · rcases (show f = 0 ∨ f = 1 by omega) with rfl | rfl <;> assumption
    · rcases (show f = 0 ∨ f = 1 by omega) with rfl | rfl <;> assumption
/-- A disk's power is set. -/
theorem power_live (h : Live d) {n : Int} (hn : 0 ≤ n) : powerD d n = ({ d with left := n }, 0) := by
  unfold powerD
  rw [live_0 h, if_neg (by omega), if_neg (by omega)]
theorem live_left (h : Live d) (x : Int) : Live { d with left := x } := ⟨h.len, h.w, h.dn, h.de⟩
theorem fr_left (h : Fr d rep reg o) (x : Int) : Fr { d with left := x } rep reg o := ⟨h.ok, h.r0, h.r1⟩
/-- A crash behind a store with power for so many writes and flushes: both places hold what they did, or both what was stored, or the one that was written first does. -/
theorem store_crash (h : Live d) (hp : 0 ≤ rep ∧ rep ≤ 6) (hr : reg = 1 ∨ reg = 2) (hi : 1 ≤ inc ∧ inc ≤ 1099511627776) (hb : body.length ≤ 43) (hB : Fr d rep reg o) (hv : verO o + 1 ≤ 1099511627776) (hl : 0 ≤ d.left) (keep : List Bool) :
    (storeC d rep reg inc body).2 = (if 4 ≤ d.left then 0 else 5) ∧ (storeC d rep reg inc body).1.pl.length = 156 ∧ (storeC d rep reg inc body).1.down = false ∧
    (((¬ 4 ≤ d.left) ∧ Fr (anew (storeC d rep reg inc body).1 keep) rep reg o) ∨ Fr (anew (storeC d rep reg inc body).1 keep) rep reg (nextO o inc body) ∨
      ((¬ 4 ≤ d.left) ∧ ∃ f, f < 2 ∧ (f = 1 ↔ o.isSome = true) ∧ readD (anew (storeC d rep reg inc body).1 keep) (secC reg f) = (frR rep reg f (nextO o inc body), 0) ∧ readD (anew (storeC d rep reg inc body).1 keep) (secC reg (1 - f)) = (frR rep reg (1 - f) o, 0))) ∧
    ∀ j : Nat, j < 156 → j ≠ secC reg 0 → j ≠ secC reg 1 → readD (anew (storeC d rep reg inc body).1 keep) j = readD d j := by
  obtain ⟨f, hf, hf2⟩ : ∃ f, (if o.isSome = true then 1 else 0) = f ∧ f < 2 := ⟨_, rfl, by split <;> omega⟩
  rw [store_two h hp hr hi hb (hB.both hp hr) hv, hf]
  obtain ⟨e, hlen, hdn, n, m, h4, hnm, hrd⟩ := two_crash (rep := rep) (v := verO o + 1) (inc := inc) h hr hb hf2 hl keep
  have hs1 := sec_lt hr hf2
  have hs2 := sec_lt hr (i := 1 - f) (by omega)
  have hne : secC reg f ≠ secC reg (1 - f) := by unfold secC; omega
  have r1 := hrd _ hs1
  have r2 := hrd _ hs2
  rw [if_neg (fun hh => hne hh.1)] at r1
  have hok := next_ok hB.ok hv hi hb
  refine ⟨e, hlen, hdn, ?_, ?_⟩
  · cases m
    case true =>
      obtain rfl := hnm rfl
      rw [if_pos ⟨rfl, rfl⟩] at r1 r2
      refine .inr (.inl ?_)
      rcases (show f = 0 ∨ f = 1 by omega) with rfl | rfl
      · exact ⟨hok, r1, r2⟩
      · exact ⟨hok, r2, r1⟩
    case false =>
      have hnl : ¬ 4 ≤ d.left := fun hh => by cases (h4 hh).2
      rw [if_neg (by simp), if_neg (fun hh => hne hh.1.symm)] at r2
      cases n
      case false =>
        rw [if_neg (by simp)] at r1
        refine .inl ⟨hnl, ?_⟩
        rcases (show f = 0 ∨ f = 1 by omega) with rfl | rfl
        · exact ⟨hB.ok, r1.trans hB.r0, r2.trans hB.r1⟩
        · exact ⟨hB.ok, r2.trans hB.r0, r1.trans hB.r1⟩
      case true =>
        rw [if_pos ⟨rfl, rfl⟩] at r1
        refine .inr (.inr ⟨hnl, f, hf2, ?_, r1, ?_⟩)
        · rw [← hf]
          cases o.isSome <;> simp
        · rcases (show f = 0 ∨ f = 1 by omega) with rfl | rfl
          · exact r2.trans hB.r1
          · exact r2.trans hB.r0
  · intro j hj h0 h1
    rw [hrd j hj, if_neg, if_neg]
    · rintro ⟨rfl, _⟩
      rcases (show f = 0 ∨ f = 1 by omega) with rfl | rfl
      · exact h0 rfl
      · exact h1 rfl
    · rintro ⟨rfl, _⟩
      rcases (show f = 0 ∨ f = 1 by omega) with rfl | rfl
      · exact h1 rfl
      · exact h0 rfl
end
end Go.Proofs.YthfolocjkpiljaaGreatDoor

namespace Go.Proofs.YthfolocjkpiljaaGreatDoor

section
variable {d : Dk} {k : Nat}
theorem there_at (h : Live d) (hk : k < 156) : thereD d k = 0 := by
  unfold thereD
  rw [h.len, if_neg (by omega), if_neg (by omega)]
theorem modify_len (l : List Pl) (k : Nat) (f : Pl → Pl) : (l.modify k f).length = l.length := by simp
theorem mod_ne (l : List Pl) (f : Pl → Pl) {j k : Nat} (hne : j ≠ k) : (l.modify k f)[j]? = l[j]? := by
  rw [List.getElem?_modify]
  simp [Ne.symm hne]
theorem mod_eq (l : List Pl) (f : Pl → Pl) (k : Nat) : (l.modify k f)[k]? = l[k]?.map f := by
  rw [List.getElem?_modify]
  simp
theorem live_mod (h : Live d) (f : Pl → Pl) : Live { d with pl := d.pl.modify k f } := ⟨by simp only; rw [modify_len]; exact h.len, h.w, h.dn, h.de⟩
theorem rd_mod (h : Live d) (f : Pl → Pl) {j : Nat} (hj : j < 156) (hne : j ≠ k) : readD { d with pl := d.pl.modify k f } j = readD d j := by
  rw [rd_live (live_mod h f) hj, rd_live h hj]
  unfold rdP
  simp only
  rw [mod_ne _ _ hne]
theorem lose_at (h : Live d) (hk : k < 156) : ∃ d', loseD d k = (d', 0) ∧ Live d' ∧ d'.left = d.left ∧ readD d' k = ([], 50) ∧ ∀ j : Nat, j < 156 → j ≠ k → readD d' j = readD d j := by
  have e : loseD d k = ({ d with pl := d.pl.modify k (fun p => { p with lost := true }) }, 0) := by
    unfold loseD
    rw [there_at h hk]
    simp
  refine ⟨_, e, live_mod h _, rfl, ?_, fun j hj hne => rd_mod h _ hj hne⟩
  rw [rd_live (live_mod h _) hk]
  unfold rdP
  simp only
  rw [mod_eq, List.getElem?_eq_getElem (by rw [h.len]; exact hk)]
  simp
theorem flip_at (h : Live d) (hk : k < 156) {bit : Nat} {f : List UInt8} (hr : readD d k = (f, 0)) : ∃ d', flipD d k bit = (d', 0) ∧ Live d' ∧ d'.left = d.left ∧ readD d' k = (turnBit f (bit % 512), 0) ∧ ∀ j : Nat, j < 156 → j ≠ k → readD d' j = readD d j := by
  have e : flipD d k bit = ({ d with pl := d.pl.modify k (fun p => { p with rest := turnBit p.rest (bit % 512) }) }, 0) := by
    unfold flipD
    rw [there_at h hk, if_neg (by simp), if_neg (by omega)]
    simp
  refine ⟨_, e, live_mod h _, rfl, ?_, fun j hj hne => rd_mod h _ hj hne⟩
  rw [rd_live h hk] at hr
  rw [rd_live (live_mod h _) hk]
  unfold rdP at hr ⊢
  simp only
  rw [mod_eq]
  have hlt : k < d.pl.length := by rw [h.len]; exact hk
  rw [List.getElem?_eq_getElem hlt] at hr ⊢
  simp only [Option.map_some] at hr ⊢
  by_cases hlo : d.pl[k].lost = true
  · rw [if_pos hlo] at hr
    cases hr
  · rw [if_neg hlo] at hr ⊢
    injection hr with hr _
    rw [hr]
end
theorem turn_ne (x : UInt8) (r : Nat) (hr : r < 8) : UInt8.ofNat (x.toNat ^^^ 2 ^ r) ≠ x := by
  intro e
  have h2 : 2 ^ r < 2 ^ 8 := Nat.pow_lt_pow_right (by decide) hr
  have h3 := Nat.xor_lt_two_pow (n := 8) x.toNat_lt h2
  have h4 := congrArg UInt8.toNat e
  rw [UInt8.toNat_ofNat', Nat.mod_eq_of_lt h3] at h4
  have h5 : (x.toNat ^^^ 2 ^ r) ^^^ x.toNat = x.toNat ^^^ x.toNat := by rw [h4]
  rw [Nat.xor_self, Nat.xor_comm x.toNat, Nat.xor_assoc, Nat.xor_self, Nat.xor_zero] at h5
  have := Nat.pow_pos (n := r) (show 0 < 2 by decide)
  omega
section
variable {d : Dk} {rep reg v c : Int} {b : List UInt8} {i : Nat} {x : Cp}
/-- A copy's frame, one bit of which is turned, is bad. -/
theorem cop_turned (hp : 0 ≤ rep ∧ rep ≤ 6) (hr : reg = 1 ∨ reg = 2) (hi : i < 2) (ho : okO (some (v, c, b))) {bit : Nat} {e : Int} (h : readD d (secC reg i) = (turnBit (fraC rep reg v c b i) (bit % 512), e)) : cop d rep reg i = badR := by
  obtain ⟨h1, h2, h3, h4, h5⟩ := ho
  have hm := may_cell2 hp hr hi (show 0 ≤ v by omega) h2 h3 h4
  have hl := seal64 ⟨rep, reg, i, v, c⟩ h5
  have hlt : bit % 512 / 8 < (fraC rep reg v c b i).length := by rw [show (fraC rep reg v c b i).length = 64 from hl]; omega
  have hx : (fraC rep reg v c b i)[bit % 512 / 8]? = some (fraC rep reg v c b i)[bit % 512 / 8] := List.getElem?_eq_getElem hlt
  have hbad := turn_bad (t := ⟨rep, reg, i, v, c⟩) (n := 64) hm (by decide) (show b.length ≤ roomN 64 from h5) hx (turn_ne _ (bit % 512 % 8) (by omega))
  unfold cop
  rw [h]
  unfold turnBit
  rw [show (fraC rep reg v c b i).getD (bit % 512 / 8) 0 = (fraC rep reg v c b i)[bit % 512 / 8] by rw [List.getD_eq_getElem?_getD, hx]; rfl]
  unfold mineF
  rw [show openF ((fraC rep reg v c b i).set (bit % 512 / 8) (UInt8.ofNat ((fraC rep reg v c b i)[bit % 512 / 8].toNat ^^^ 2 ^ (bit % 512 % 8)))) = (2, zeroTg, []) from hbad]
  rfl
/-- Which copy counts: the one of the frame, where the other is bad, or older. -/
theorem loaded_one (hi : i < 2) (h1 : cop d rep reg i = coR rep reg i (some (v, c, b))) (h2 : (cop d rep reg (1 - i)).st ≠ 1 ∨ (cop d rep reg (1 - i)).tg.idx < v) : loadedC (cop d rep reg 0) (cop d rep reg 1) = (i, true, 0) ∧ pickC (cop d rep reg 0) (cop d rep reg 1) = coR rep reg i (some (v, c, b)) := by
  rcases (show i = 0 ∨ i = 1 by omega) with rfl | rfl
  · simp only [Nat.sub_zero] at h2
    have e : overC (cop d rep reg 1) (cop d rep reg 0) = false := by
      rw [h1]
      unfold overC coR
      simp only
      rcases h2 with h2 | h2
      · rw [decide_eq_false h2, Bool.false_and]
      · rw [show decide ((1 : Nat) ≠ 1) = false by decide, decide_eq_false (show ¬ v < (cop d rep reg 1).tg.idx by omega)]
        simp
    have e2 : loadedC (cop d rep reg 0) (cop d rep reg 1) = (0, true, 0) := by
      unfold loadedC
      rw [e, if_neg (by simp), h1, if_pos (show (coR rep reg 0 (some (v, c, b))).st = 1 from rfl)]
    refine ⟨e2, ?_⟩
    unfold pickC
    rw [e2, if_neg (by simp), h1]
  · simp only [Nat.sub_self] at h2
    have e : overC (cop d rep reg 1) (cop d rep reg 0) = true := by
      rw [h1]
      unfold overC coR
      simp only
      rcases h2 with h2 | h2
      · rw [decide_eq_true h2]
        simp
      · rw [decide_eq_true h2]
        simp
    have e2 : loadedC (cop d rep reg 0) (cop d rep reg 1) = (1, true, 0) := by
      unfold loadedC
      rw [e, if_pos rfl]
    refine ⟨e2, ?_⟩
    unfold pickC
    rw [e2, if_pos rfl, h1]
theorem load_one (h : Live d) (hp : 0 ≤ rep ∧ rep ≤ 6) (hr : reg = 1 ∨ reg = 2) (hi : i < 2) (h1 : cop d rep reg i = coR rep reg i (some (v, c, b))) (h2 : (cop d rep reg (1 - i)).st ≠ 1 ∨ (cop d rep reg (1 - i)).tg.idx < v) : loadC d rep reg = (v, b, 0) := by
  obtain ⟨e1, e2⟩ := loaded_one hi h1 h2
  rw [load_live h hp hr, e1, e2]
  rfl
theorem load_none (h : Live d) (hp : 0 ≤ rep ∧ rep ≤ 6) (hr : reg = 1 ∨ reg = 2) (h0 : cop d rep reg 0 = badR) (h1 : cop d rep reg 1 = badR) : loadC d rep reg = (0, [], 70) := by
  rw [load_live h hp hr, h0, h1]
  rfl
theorem heal_cop (h : Live d) (hp : 0 ≤ rep ∧ rep ≤ 6) (hr : reg = 1 ∨ reg = 2) : healC d rep reg = if (loadedC (cop d rep reg 0) (cop d rep reg 1)).2.1 = false then (d, (loadedC (cop d rep reg 0) (cop d rep reg 1)).2.2) else
    if (if (loadedC (cop d rep reg 0) (cop d rep reg 1)).1 = 1 then cop d rep reg 1 else cop d rep reg 0).st = (if (loadedC (cop d rep reg 0) (cop d rep reg 1)).1 = 1 then cop d rep reg 0 else cop d rep reg 1).st ∧ (if (loadedC (cop d rep reg 0) (cop d rep reg 1)).1 = 1 then cop d rep reg 1 else cop d rep reg 0).tg.idx = (if (loadedC (cop d rep reg 0) (cop d rep reg 1)).1 = 1 then cop d rep reg 0 else cop d rep reg 1).tg.idx ∧ (if (loadedC (cop d rep reg 0) (cop d rep reg 1)).1 = 1 then cop d rep reg 1 else cop d rep reg 0).body = (if (loadedC (cop d rep reg 0) (cop d rep reg 1)).1 = 1 then cop d rep reg 0 else cop d rep reg 1).body then (d, 0) else
    putC d ⟨rep, reg, 1 - ((loadedC (cop d rep reg 0) (cop d rep reg 1)).1 : Int), (if (loadedC (cop d rep reg 0) (cop d rep reg 1)).1 = 1 then cop d rep reg 1 else cop d rep reg 0).tg.idx, (if (loadedC (cop d rep reg 0) (cop d rep reg 1)).1 = 1 then cop d rep reg 1 else cop d rep reg 0).tg.inc⟩ (if (loadedC (cop d rep reg 0) (cop d rep reg 1)).1 = 1 then cop d rep reg 1 else cop d rep reg 0).body := by
  unfold healC
  rw [open_live h hp hr, (copy_cop hr).1, (copy_cop hr).2, if_neg (by simp)]
theorem heal_none (h : Live d) (hp : 0 ≤ rep ∧ rep ≤ 6) (hr : reg = 1 ∨ reg = 2) (h0 : cop d rep reg 0 = badR) (h1 : cop d rep reg 1 = badR) : healC d rep reg = (d, 70) := by
  rw [heal_cop h hp hr, h0, h1]
  rfl
theorem store_none (h : Live d) (hp : 0 ≤ rep ∧ rep ≤ 6) (hr : reg = 1 ∨ reg = 2) {inc : Int} {body : List UInt8} (hi : 1 ≤ inc ∧ inc ≤ 1099511627776) (hb : body.length ≤ 43) (h0 : cop d rep reg 0 = badR) (h1 : cop d rep reg 1 = badR) : storeC d rep reg inc body = (d, 70) := by
  unfold storeC
  rw [open_live h hp hr, (copy_cop hr).1, (copy_cop hr).2, h0, h1]
  simp only [ne_eq, not_true, false_and, if_false]
  rw [if_neg (by omega), if_neg (by omega)]
  rfl
/-- Both copies say the same: nothing is healed. -/
theorem heal_same (h : Live d) (hp : 0 ≤ rep ∧ rep ≤ 6) (hr : reg = 1 ∨ reg = 2) {o : Vo} (hf : Fr d rep reg o) : healC d rep reg = (d, 0) := by
  have hB := hf.both hp hr
  obtain ⟨e1, _, _⟩ := loaded_same (rep := rep) (reg := reg) o
  rw [heal_cop h hp hr, hB.c0, hB.c1, e1]
  match o with
  | none => rfl
  | some (v, c, b) => rw [if_neg (by simp)]; simp [coR]
/-- One copy is ahead, or the other bad: that is healed. -/
theorem heal_one (h : Live d) (hp : 0 ≤ rep ∧ rep ≤ 6) (hr : reg = 1 ∨ reg = 2) (hi : i < 2) (ho : okO (some (v, c, b))) (hl : d.left < 0) (h1 : readD d (secC reg i) = (fraC rep reg v c b i, 0)) (h2 : (cop d rep reg (1 - i)).st ≠ 1 ∨ (cop d rep reg (1 - i)).tg.idx < v) :
    ∃ d', healC d rep reg = (d', 0) ∧ Live d' ∧ d'.left = d.left ∧ Fr d' rep reg (some (v, c, b)) ∧ ∀ j : Nat, j < 156 → j ≠ secC reg 0 → j ≠ secC reg 1 → readD d' j = readD d j := by
  obtain ⟨o1, o2, o3, o4, o5⟩ := ho
  have hc1 : cop d rep reg i = coR rep reg i (some (v, c, b)) := cop_fra hp hr hi (by omega) o2 ⟨o3, o4⟩ o5 h1
  obtain ⟨e1, e2⟩ := loaded_one hi hc1 h2
  have hput := put_p (rep := rep) (reg := reg) (v := v) (inc := c) (body := b) h hr o5 (i := 1 - i) (by omega) (by omega) (by omega)
  have hs2 := sec_lt hr (i := 1 - i) (by omega)
  have hs1 := sec_lt hr hi
  have hne : secC reg i ≠ secC reg (1 - i) := by unfold secC; omega
  have he : healC d rep reg = (putP d (secC reg (1 - i)) (fraC rep reg v c b (1 - i)), 0) := by
    rw [heal_cop h hp hr, e1, ← hput]
    rw [if_neg (by simp)]
    rcases (show i = 0 ∨ i = 1 by omega) with rfl | rfl
    · simp only [show ((0 : Nat) = 1) = False by simp, if_false]
      rw [hc1]
      simp only [Nat.sub_zero] at h2 ⊢
      rw [if_neg]
      · rfl
      · rintro ⟨a1, a2, _⟩
        simp only [coR] at a1 a2
        rcases h2 with h2 | h2
        · exact h2 a1.symm
        · omega
    · simp only [if_true]
      rw [hc1]
      simp only [Nat.sub_self] at h2 ⊢
      rw [if_neg]
      · rfl
      · rintro ⟨a1, a2, _⟩
        simp only [coR] at a1 a2
        rcases h2 with h2 | h2
        · exact h2 a1.symm
        · omega
  have hrd : ∀ j : Nat, j < 156 → readD (putP d (secC reg (1 - i)) (fraC rep reg v c b (1 - i))) j = if j = secC reg (1 - i) then (fraC rep reg v c b (1 - i), 0) else readD d j := fun j hj => putP_read h _ hj hs2
  have r1 := hrd _ hs1
  rw [if_neg hne, h1] at r1
  have r2 := hrd _ hs2
  rw [if_pos rfl] at r2
  refine ⟨_, he, putP_live h _ _, ?_, ⟨⟨o1, o2, o3, o4, o5⟩, ?_, ?_⟩, fun j hj a0 a1 => ?_⟩
  · rw [putP_left, if_neg (by omega)]
  · rcases (show i = 0 ∨ i = 1 by omega) with rfl | rfl
    · exact r1
    · exact r2
  · rcases (show i = 0 ∨ i = 1 by omega) with rfl | rfl
    · exact r2
    · exact r1
  · rw [hrd j hj, if_neg]
    rcases (show i = 0 ∨ i = 1 by omega) with rfl | rfl
    · exact a1
    · exact a0
end
end Go.Proofs.YthfolocjkpiljaaGreatDoor

namespace Go.Proofs.YthfolocjkpiljaaGreatDoor

section
variable {d : Dk} {rep reg inc : Int} {body : List UInt8} {o : Vo}
theorem next_ver (o : Vo) (inc : Int) (body : List UInt8) : verO (nextO o inc body) = verO o + 1 := rfl
theorem next_bod (o : Vo) (inc : Int) (body : List UInt8) : bodO (nextO o inc body) = body := rfl
theorem coR_old {o : Vo} {i : Nat} : (coR rep reg i o).st ≠ 1 ∨ (coR rep reg i o).tg.idx < verO o + 1 := by
  match o with
  | none => exact .inl (by simp [coR])
  | some (v, c, b) => exact .inr (by simp only [coR, verO]; omega)
/-- What a crash behind a store leaves: what is loaded then is what was there, or what was stored; it is healed. -/
theorem crash_heal (h : Live d) (hp : 0 ≤ rep ∧ rep ≤ 6) (hr : reg = 1 ∨ reg = 2) (hi : 1 ≤ inc ∧ inc ≤ 1099511627776) (hb : body.length ≤ 43) (hf : Fr d rep reg o) (hv : verO o + 1 ≤ 1099511627776) (hl : 0 ≤ d.left) (keep : List Bool) :
    ∃ d6 d7 d8, storeC d rep reg inc body = (d6, if 4 ≤ d.left then 0 else 5) ∧ crashD d6 keep = (d7, 0) ∧ startD d7 = (d8, 0) ∧ Live d8 ∧ d8.left = -1 ∧ (∀ j : Nat, j < 156 → j ≠ secC reg 0 → j ≠ secC reg 1 → readD d8 j = readD d j) ∧
      ∃ o', ((¬ 4 ≤ d.left ∧ o' = o) ∨ o' = nextO o inc body) ∧ okO o' ∧ loadC d8 rep reg = (verO o', bodO o', 0) ∧ ∃ d9, healC d8 rep reg = (d9, 0) ∧ Live d9 ∧ d9.left < 0 ∧ Fr d9 rep reg o' ∧ (∀ j : Nat, j < 156 → j ≠ secC reg 0 → j ≠ secC reg 1 → readD d9 j = readD d8 j) := by
  obtain ⟨e1, e2, e3, e4, e5⟩ := store_crash h hp hr hi hb hf hv hl keep
  obtain ⟨c1, c2⟩ := crash_start (d := (storeC d rep reg inc body).1) keep e2 e3
  have hL8 := anew_live (d := (storeC d rep reg inc body).1) keep e2
  have hok := next_ok hf.ok hv hi hb
  refine ⟨(storeC d rep reg inc body).1, (crashD (storeC d rep reg inc body).1 keep).1, anew (storeC d rep reg inc body).1 keep, ?_, ?_, c2, hL8, rfl, e5, ?_⟩
  · rw [← e1]
  · rw [← c1]
  · have hleft : (anew (storeC d rep reg inc body).1 keep).left < 0 := by show (-1 : Int) < 0; decide
    rcases e4 with ⟨hn, hf8⟩ | hf8 | ⟨hn, f, hf2, _, r1, r2⟩
    · exact ⟨o, .inl ⟨hn, rfl⟩, hf.ok, hf8.load hL8 hp hr, _, heal_same hL8 hp hr hf8, hL8, hleft, hf8, fun _ _ _ _ => rfl⟩
    · exact ⟨_, .inr rfl, hok, hf8.load hL8 hp hr, _, heal_same hL8 hp hr hf8, hL8, hleft, hf8, fun _ _ _ _ => rfl⟩
    · have k1 := cop_fr hp hr hf2 hok r1
      have k2 := cop_fr hp hr (by omega) hf.ok r2
      have hold : (cop (anew (storeC d rep reg inc body).1 keep) rep reg (1 - f)).st ≠ 1 ∨ (cop (anew (storeC d rep reg inc body).1 keep) rep reg (1 - f)).tg.idx < verO o + 1 := by rw [k2]; exact coR_old
      obtain ⟨d9, g1, g2, g3, g4, g5⟩ := heal_one (v := verO o + 1) (c := inc) (b := body) hL8 hp hr hf2 hok hleft r1 hold
      exact ⟨nextO o inc body, .inr rfl, hok, load_one hL8 hp hr hf2 k1 hold, d9, g1, g2, by rw [g3]; exact hleft, g4, g5⟩
/-- A copy is lost, that is healed, the other one is lost: the same is loaded. -/
theorem lose_heal {v c : Int} {b : List UInt8} (h : Live d) (hp : 0 ≤ rep ∧ rep ≤ 6) (hr : reg = 1 ∨ reg = 2) (hf : Fr d rep reg (some (v, c, b))) (hl : d.left < 0) {i : Nat} (hi : i < 2) :
    ∃ d1 d2 d3, loseD d (secC reg i) = (d1, 0) ∧ loadC d1 rep reg = (v, b, 0) ∧ healC d1 rep reg = (d2, 0) ∧ loseD d2 (secC reg (1 - i)) = (d3, 0) ∧ loadC d3 rep reg = (v, b, 0) := by
  have hs1 := sec_lt hr hi
  have hs2 := sec_lt hr (i := 1 - i) (by omega)
  have hne : secC reg (1 - i) ≠ secC reg i := by unfold secC; omega
  have hrd : ∀ {d : Dk}, Fr d rep reg (some (v, c, b)) → ∀ j, j < 2 → readD d (secC reg j) = (fraC rep reg v c b j, 0) := by
    intro d hf j hj
    rcases (show j = 0 ∨ j = 1 by omega) with rfl | rfl
    · exact hf.r0
    · exact hf.r1
  obtain ⟨d1, e1, l1, f1, r1, o1⟩ := lose_at h hs1
  have c1 : cop d1 rep reg i = badR := cop_none r1
  have q1 : readD d1 (secC reg (1 - i)) = (fraC rep reg v c b (1 - i), 0) := (o1 _ hs2 hne).trans (hrd hf _ (by omega))
  have c1' := cop_fr hp hr (i := 1 - i) (by omega) hf.ok (show readD d1 (secC reg (1 - i)) = (frR rep reg (1 - i) (some (v, c, b)), 0) from q1)
  have hii : 1 - (1 - i) = i := by omega
  have hb1 : (cop d1 rep reg (1 - (1 - i))).st ≠ 1 ∨ (cop d1 rep reg (1 - (1 - i))).tg.idx < v := by rw [hii, c1]; exact .inl (by decide)
  obtain ⟨d2, g1, g2, g3, g4, _⟩ := heal_one l1 hp hr (i := 1 - i) (by omega) hf.ok (by rw [f1]; exact hl) q1 hb1
  obtain ⟨d3, e3, l3, _, r3, o3⟩ := lose_at g2 hs2
  have c3 : cop d3 rep reg (1 - i) = badR := cop_none r3
  have q3 : readD d3 (secC reg i) = (fraC rep reg v c b i, 0) := (o3 _ hs1 (Ne.symm hne)).trans (hrd g4 _ hi)
  have c3' := cop_fr hp hr (i := i) hi hf.ok (show readD d3 (secC reg i) = (frR rep reg i (some (v, c, b)), 0) from q3)
  exact ⟨d1, d2, d3, e1, load_one l1 hp hr (by omega) c1' hb1, g1, e3, load_one l3 hp hr hi c3' (.inl (by rw [c3]; decide))⟩
end
end Go.Proofs.YthfolocjkpiljaaGreatDoor

namespace Go.Proofs.YthfolocjkpiljaaGreatDoor

/-- A disk of 156 sectors that is up, and whose power never goes. -/
structure Pow (d : Dk) : Prop where
  len : d.pl.length = 156
  dn : d.down = false
  de : d.dead = false
  lf : d.left < 0
def waitD (d : Dk) (s : Nat) (b : List UInt8) : Dk := { d with waits := d.waits ++ [(b, s)] }
def flowD (d : Dk) : Dk := { d with pl := thruD d.pl d.waits 0 (fun _ => true), waits := [] }
section
variable {d : Dk} {s j : Nat} {b : List UInt8}
theorem Live.pow (h : Live d) (hl : d.left < 0) : Pow d := ⟨h.len, h.dn, h.de, hl⟩
theorem pow_at (h : Pow d) (hk : j < 156) : liveD d j = 0 := by
  unfold liveD thereD
  rw [h.len, h.dn, h.de]
  simp
  omega
theorem pow_0 (h : Pow d) : live0 d = 0 := by
  unfold live0 there0
  rw [h.len, h.dn, h.de]
  simp
theorem pow_up (h : Pow d) : upD d = true := by
  unfold upD
  rw [h.len, h.dn, h.de]
  simp
theorem pow_spend (h : Pow d) : spendD d = (d, 0) := by
  unfold spendD
  have := h.lf
  rw [if_neg (by omega), if_neg (by omega)]
theorem pow_write (h : Pow d) (hs : s < 156) (hb : b.length = 64) : writeD d s b = (waitD d s b, 0) := by
  unfold writeD
  rw [if_neg (by simp [pow_at h hs]), if_neg (by simp [hb]), pow_spend h, if_neg (by simp)]
  rfl
theorem pow_wait (h : Pow d) (s : Nat) (b : List UInt8) : Pow (waitD d s b) := ⟨h.len, h.dn, h.de, h.lf⟩
theorem last_app : ∀ (l : List (List UInt8 × Nat)) (b : List UInt8) (k s : Nat), lastW (l ++ [(b, k)]) s = if k = s then some b else lastW l s
  | [], b, k, s => by simp [lastW]
  | (c, i) :: l, b, k, s => by
    rw [List.cons_append]
    unfold lastW
    rw [last_app l b k s]
    by_cases h : k = s
    · rw [if_pos h, if_pos h]
    · rw [if_neg h, if_neg h]
theorem wait_read (h : Pow d) (hj : j < 156) : readD (waitD d s b) j = if j = s then (b, 0) else readD d j := by
  have h1 := pow_at (pow_wait h s b) hj
  have h2 := pow_at h hj
  unfold readD
  rw [h1, h2]
  simp only [ne_eq, not_true_eq_false, if_false, Int.toNat_natCast]
  rw [show (waitD d s b).waits = d.waits ++ [(b, s)] from rfl, last_app]
  by_cases hjs : s = j
  · subst hjs
    simp
  · rw [if_neg hjs, if_neg (Ne.symm hjs)]
    rfl
theorem thru_last : ∀ (ws : List (List UInt8 × Nat)) (pl : List Pl) (k s : Nat), s < pl.length → (thruD pl ws k (fun _ => true))[s]? = match lastW ws s with | some b => some ⟨b, b, false⟩ | none => pl[s]?
  | [], pl, k, s, _ => rfl
  | (c, i) :: ws, pl, k, s, h => by
    unfold thruD lastW
    rw [if_pos rfl, thru_last ws _ _ s (by rw [List.length_set]; exact h)]
    cases lastW ws s with
    | some x => rfl
    | none =>
      simp only
      by_cases hi : i = s
      · subst hi
        rw [if_pos rfl, List.getElem?_set_self h]
      · rw [if_neg hi, List.getElem?_set_ne hi]
theorem pow_flush (h : Pow d) : flushD d = (flowD d, 0) := by
  unfold flushD
  rw [if_neg (by simp [pow_0 h]), pow_spend h, if_neg (by simp)]
  rfl
theorem flow_live (h : Pow d) : Live (flowD d) := ⟨by show (thruD _ _ _ _).length = 156; rw [thru_len]; exact h.len, rfl, h.dn, h.de⟩
theorem flow_left (d : Dk) : (flowD d).left = d.left := rfl
theorem flow_read (h : Pow d) (hj : j < 156) : readD (flowD d) j = readD d j := by
  have h1 := live_at (flow_live h) hj
  have h2 := pow_at h hj
  unfold readD
  rw [h1, h2]
  simp only [ne_eq, not_true_eq_false, if_false, Int.toNat_natCast]
  rw [show (flowD d).waits = [] from rfl, show (flowD d).pl = thruD d.pl d.waits 0 (fun _ => true) from rfl, thru_last d.waits d.pl 0 j (by rw [h.len]; exact hj)]
  rw [show lastW [] j = none from rfl]
  cases lastW d.waits j with
  | some x => simp
  | none => rfl
end
end Go.Proofs.YthfolocjkpiljaaGreatDoor

namespace Go.Proofs.YthfolocjkpiljaaGreatDoor

/-- The first sector of a shelf's chunk. -/
def secS (s : Sh) (k : Nat) : Nat := 124 + 2 * (8 * s.area.toNat + k)
def putW (d : Dk) (s : Sh) (k : Nat) (c : List UInt8) : Dk := waitD (waitD d (secS s k) (pcD (frmS s k c) 0)) (secS s k + 1) (pcD (frmS s k c) 1)
def putsW (d : Dk) (s : Sh) : Nat → List (List UInt8) → Dk
  | _, [] => d
  | k, c :: l => putsW (putW d s k c) s (k + 1) l
/-- Chunks lie where they belong, from the k-th on. -/
def HeldS (d : Dk) (s : Sh) (k : Nat) (l : List (List UInt8)) : Prop := ∀ (i : Nat) (hi : i < l.length), readD d (secS s (k + i)) = (pcD (frmS s ((k + i : Nat) : Int) l[i]) 0, 0) ∧ readD d ((secS s (k + i) : Nat) + 1 : Nat) = (pcD (frmS s ((k + i : Nat) : Int) l[i]) 1, 0)
section
variable {d d' : Dk} {s : Sh} {k j : Nat} {c : List UInt8}
theorem secS_eq (h : ShOk s) (hk : k < 8) : firstN 5 (plaS s (k : Int)) = (secS s k : Int) ∧ secS s k + 1 < 156 := by
  have ha := h.a
  have hp : 0 ≤ plaS s (k : Int) ∧ plaS s (k : Int) < 16 := by unfold plaS; omega
  refine ⟨?_, ?_⟩
  · rw [first5 hp]
    unfold secS plaS
    omega
  · unfold secS
    omega
theorem frm_pc (hc : c.length ≤ 80) : (pcD (frmS s (k : Int) c) 0).length = 64 ∧ (pcD (frmS s (k : Int) c) 1).length = 64 := by
  have hl := frmS_len (s := s) (k := (k : Int)) hc
  unfold pcD
  rw [List.length_take, List.length_drop, List.length_take, List.length_drop]
  omega
theorem pow_putS (h : Pow d) (hok : ShOk s) (hk : k < 8) (hc : c.length ≤ 80) : putS d s (k : Int) c = (putW d s k c, 0) := by
  obtain ⟨hf, hl⟩ := secS_eq hok hk
  obtain ⟨l0, l1⟩ := frm_pc (s := s) (k := k) hc
  unfold putS
  rw [hf, pow_write h (by omega) l0, if_neg (by simp)]
  simp only
  rw [show ((secS s k : Int) + 1) = ((secS s k + 1 : Nat) : Int) by omega, pow_write (pow_wait h _ _) hl l1]
  rfl
theorem putW_pow (h : Pow d) (s : Sh) (k : Nat) (c : List UInt8) : Pow (putW d s k c) := pow_wait (pow_wait h _ _) _ _
theorem putW_read (h : Pow d) (hj : j < 156) : readD (putW d s k c) j = if j = secS s k + 1 then (pcD (frmS s k c) 1, 0) else if j = secS s k then (pcD (frmS s k c) 0, 0) else readD d j := by
  unfold putW
  rw [wait_read (pow_wait h _ _) hj, wait_read h hj]
theorem pow_puts (hok : ShOk s) : ∀ (l : List (List UInt8)) (d : Dk) (k : Nat), Pow d → k + l.length ≤ 8 → (∀ c ∈ l, c.length ≤ 80) → putsS d s k l = (putsW d s k l, 0) ∧ Pow (putsW d s k l)
  | [], d, k, h, _, _ => ⟨rfl, h⟩
  | c :: l, d, k, h, h2, h3 => by
    rw [List.length_cons] at h2
    have h4 := pow_puts hok l (putW d s k c) (k + 1) (putW_pow h s k c) (by omega) (fun x hx => h3 x (List.mem_cons_of_mem _ hx))
    rw [putsS_cons, pow_putS h hok (by omega) (h3 c List.mem_cons_self), if_neg (by simp)]
    exact h4
theorem puts_other (hok : ShOk s) : ∀ (l : List (List UInt8)) (d : Dk) (k : Nat) (j : Nat), Pow d → j < 156 → (j < secS s k ∨ secS s (k + l.length) ≤ j) → readD (putsW d s k l) j = readD d j
  | [], d, k, j, _, _, _ => rfl
  | c :: l, d, k, j, h, hj, h2 => by
    rw [List.length_cons] at h2
    have h4 := puts_other hok l (putW d s k c) (k + 1) j (putW_pow h s k c) hj (by unfold secS at h2 ⊢; omega)
    show readD (putsW (putW d s k c) s (k + 1) l) j = _
    rw [h4, putW_read h hj, if_neg (by unfold secS at h2 ⊢; omega), if_neg (by unfold secS at h2 ⊢; omega)]
theorem puts_held (hok : ShOk s) : ∀ (l : List (List UInt8)) (d : Dk) (k : Nat), Pow d → k + l.length ≤ 8 → HeldS (putsW d s k l) s k l
  | [], d, k, _, _ => fun i hi => absurd hi (by simp)
  | c :: l, d, k, h, h2 => by
    rw [List.length_cons] at h2
    have h5 := puts_held hok l (putW d s k c) (k + 1) (putW_pow h s k c) (by omega)
    have hb := (secS_eq hok (k := k) (by omega)).2
    intro i hi
    show readD (putsW (putW d s k c) s (k + 1) l) _ = _ ∧ readD (putsW (putW d s k c) s (k + 1) l) _ = _
    match i, hi with
    | 0, _ =>
      simp only [Nat.add_zero, List.getElem_cons_zero]
      rw [puts_other hok l _ _ _ (putW_pow h s k c) (by omega) (by unfold secS; omega), puts_other hok l _ _ _ (putW_pow h s k c) hb (by unfold secS; omega), putW_read h (by omega), putW_read h hb, if_neg (by omega), if_pos rfl, if_pos rfl]
      exact ⟨rfl, rfl⟩
    | i + 1, hi =>
      have h6 := h5 i (by simpa using hi)
      rw [show k + 1 + i = k + (i + 1) by omega] at h6
      exact h6
theorem HeldS.same {l : List (List UInt8)} (h : HeldS d s k l) (hr : ∀ i : Nat, i < l.length → readD d' (secS s (k + i)) = readD d (secS s (k + i)) ∧ readD d' ((secS s (k + i) : Nat) + 1 : Nat) = readD d ((secS s (k + i) : Nat) + 1 : Nat)) : HeldS d' s k l :=
  fun i hi => ⟨(hr i hi).1.trans (h i hi).1, (hr i hi).2.trans (h i hi).2⟩
/-- What is held is read. -/
theorem held_read {l : List (List UInt8)} (h : HeldS d s 0 l) (hok : ShOk s) (hk : k < l.length) (hl : l.length ≤ 8) (hc1 : 1 ≤ s.cnt) (hf : fitsC (k : Int) s.cnt l[k].length = true) : readS d s (k : Int) = (l[k], true) := by
  obtain ⟨h1, h2⟩ := h k hk
  rw [Nat.zero_add] at h1 h2
  obtain ⟨hfs, hlt⟩ := secS_eq hok (k := k) (by omega)
  have hc : l[k].length ≤ 80 := by
    unfold fitsC at hf
    split at hf
    · cases hf
    · omega
  have hfl := frmS_len (s := s) (k := (k : Int)) hc
  have hsec : secsS d (plaS s (k : Int)) = (frmS s (k : Int) l[k], true) := by
    unfold secsS
    rw [hfs, h1, show ((secS s k : Int) + 1) = ((secS s k + 1 : Nat) : Int) by omega, h2]
    have hj : pcD (frmS s (k : Int) l[k]) 0 ++ pcD (frmS s (k : Int) l[k]) 1 = frmS s (k : Int) l[k] := by
      have := pcs_all (b := frmS s (k : Int) l[k]) (n := 2) (by omega) (by omega) (by omega)
      simpa [List.range_succ] using this
    simp [hj]
  have hmt := tagS_may hok (k := (k : Int)) ⟨by omega, by omega⟩
  have hms := mine_seal (n := 128) (body := ckB s.cnt l[k]) hmt (by decide) (by unfold ckB roomN; simp; omega)
  have hc8 := hok.c
  have hpk := parse_ck (c := l[k]) hc1 hc8.2 hc
  unfold readS
  rw [hsec]
  simp only
  rw [if_neg (by simp)]
  unfold frmS
  rw [show mineF (sealF (tagS s (k : Int)) (ckB s.cnt l[k]) 128) s.rep 5 (plaS s (k : Int)) = (1, tagS s (k : Int), ckB s.cnt l[k]) from hms]
  unfold frameS
  simp only
  rw [hpk]
  simp only
  have e1 : ((s.cnt.toNat : Nat) : Int) = s.cnt := by omega
  rw [e1, hf]
  simp [tagS]
end
end Go.Proofs.YthfolocjkpiljaaGreatDoor

