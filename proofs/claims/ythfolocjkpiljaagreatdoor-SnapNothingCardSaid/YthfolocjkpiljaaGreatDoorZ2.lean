/- Texts that the claim leans on, part 2: X4, X5, X6, X7, X12, X13, X14, X20. -/
import Derived.Test.YthfolocjkpiljaaGreatDoorZ1
import Derived.WalkKit
import Derived.WalkSpells
import Derived.WalkLawsBesides
import Derived.Handy
import Derived.Lib.Hide
import Derived.ProofKit
import Derived.Deep.QuietTactic
import Derived.OpenShut
import Derived.Laws.CopyOwn
import Derived.Laws.CopyRow
import Derived.Laws.NewBlocks
import Derived.Deep.RegionLaw
import Derived.Test.YthfolocjkpiljaaGreatDoorRows
import Derived.BigQuiet
import Derived.Deep.DeepCutAuto
import Derived.RegionTactic
import Derived.ChangeAlike
namespace Go.Proofs.YthfolocjkpiljaaGreatDoor

structure Pl where
  rest : List UInt8
  meant : List UInt8
  lost : Bool
structure Dk where
  pl : List Pl
  waits : List (List UInt8 × Nat)
  down : Bool
  dead : Bool
  left : Int
def zeros64 : List UInt8 := List.replicate 64 0
def zeroPl : Pl := ⟨zeros64, zeros64, false⟩
def newDk (n : Nat) : Dk := ⟨List.replicate n zeroPl, [], false, false, -1⟩

/-! The errors of a call: 1 nobody made it, 2 an argument, 5 down, 50 lost. -/
def thereD (d : Dk) (s : Int) : Int := if d.pl.length = 0 then 1 else if s < 0 ∨ (d.pl.length : Int) ≤ s then 2 else 0
def there0 (d : Dk) : Int := if d.pl.length = 0 then 1 else 0
def liveD (d : Dk) (s : Int) : Int := if 0 < d.pl.length ∧ (d.down = true ∨ d.dead = true) then 5 else thereD d s
def live0 (d : Dk) : Int := if 0 < d.pl.length ∧ (d.down = true ∨ d.dead = true) then 5 else there0 d
def spendD (d : Dk) : Dk × Int := if d.left = 0 then ({ d with dead := true }, 5) else if 0 < d.left then ({ d with left := d.left - 1 }, 0) else (d, 0)
def powerD (d : Dk) (n : Int) : Dk × Int := if live0 d ≠ 0 then (d, live0 d) else if n < 0 then (d, 2) else ({ d with left := n }, 0)
/-- What a write that waits, the last one to a sector, says. -/
def lastW : List (List UInt8 × Nat) → Nat → Option (List UInt8)
  | [], _ => none
  | (b, k) :: l, s => match lastW l s with
    | some x => some x
    | none => if k = s then some b else none
def readD (d : Dk) (s : Int) : List UInt8 × Int :=
  if liveD d s ≠ 0 then ([], liveD d s) else
  match lastW d.waits s.toNat with
  | some b => (b, 0)
  | none => match d.pl[s.toNat]? with
    | none => ([], 2)
    | some p => if p.lost = true then ([], 50) else (p.rest, 0)
def writeD (d : Dk) (s : Int) (b : List UInt8) : Dk × Int :=
  if liveD d s ≠ 0 then (d, liveD d s) else
  if b.length ≠ 64 then (d, 2) else
  if (spendD d).2 ≠ 0 then spendD d else ({ (spendD d).1 with waits := (spendD d).1.waits ++ [(b, s.toNat)] }, 0)
/-- Writes come through: those that are asked for. -/
def thruD : List Pl → List (List UInt8 × Nat) → Nat → (Nat → Bool) → List Pl
  | pl, [], _, _ => pl
  | pl, (b, s) :: l, k, is => thruD (if is k = true then pl.set s ⟨b, b, false⟩ else pl) l (k + 1) is
def flushD (d : Dk) : Dk × Int :=
  if live0 d ≠ 0 then (d, live0 d) else
  if (spendD d).2 ≠ 0 then spendD d else ({ (spendD d).1 with pl := thruD (spendD d).1.pl (spendD d).1.waits 0 (fun _ => true), waits := [] }, 0)
def keepB (keep : List Bool) (k : Nat) : Bool := keep.getD k false
def crashD (d : Dk) (keep : List Bool) : Dk × Int :=
  if 0 < d.pl.length ∧ d.down = true then (d, 5) else
  if there0 d ≠ 0 then (d, there0 d) else ({ d with pl := thruD d.pl d.waits 0 (keepB keep), waits := [], down := true }, 0)
def startD (d : Dk) : Dk × Int :=
  if there0 d ≠ 0 then (d, there0 d) else if d.down = false then (d, 2) else ({ d with down := false, dead := false, left := -1 }, 0)
def upD (d : Dk) : Bool := decide (0 < d.pl.length) && (!d.down && !d.dead)
def turnBit (l : List UInt8) (bit : Nat) : List UInt8 := l.set (bit / 8) (UInt8.ofNat ((l.getD (bit / 8) 0).toNat ^^^ 2 ^ (bit % 8)))
def flipD (d : Dk) (s bit : Int) : Dk × Int :=
  if thereD d s ≠ 0 then (d, thereD d s) else if bit < 0 then (d, 2) else
  ({ d with pl := d.pl.modify s.toNat (fun p => { p with rest := turnBit p.rest (bit.toNat % 512) }) }, 0)
def loseD (d : Dk) (s : Int) : Dk × Int :=
  if thereD d s ≠ 0 then (d, thereD d s) else ({ d with pl := d.pl.modify s.toNat (fun p => { p with lost := true }) }, 0)
def strayD (d : Dk) (s t : Int) : Dk × Int :=
  if thereD d s ≠ 0 then (d, thereD d s) else if thereD d t ≠ 0 then (d, thereD d t) else
  ({ d with pl := d.pl.modify t.toNat (fun p => { p with rest := (d.pl.getD s.toNat zeroPl).rest, lost := (d.pl.getD s.toNat zeroPl).lost }) }, 0)
def restD (d : Dk) (s : Int) : List UInt8 × Bool × Int :=
  if thereD d s ≠ 0 then ([], false, thereD d s) else
  if (d.pl.getD s.toNat zeroPl).lost = true then ([], true, 0) else ((d.pl.getD s.toNat zeroPl).rest, false, 0)
def meantD (d : Dk) (s : Int) : List UInt8 × Int := if thereD d s ≠ 0 then ([], thereD d s) else ((d.pl.getD s.toNat zeroPl).meant, 0)

/-! The cell. -/
structure Cp where
  st : Nat
  tg : Tg
  body : List UInt8
def overC (c x : Cp) : Bool := decide (c.st = 1) && (decide (x.st ≠ 1) || decide (x.tg.idx < c.tg.idx))
def copyC (d : Dk) (rep reg : Int) (i : Int) : Cp := ⟨(mineF (readD d (firstN reg i)).1 rep reg i).1, (mineF (readD d (firstN reg i)).1 rep reg i).2.1, (mineF (readD d (firstN reg i)).1 rep reg i).2.2⟩
def openC (d : Dk) (rep reg : Int) : Int :=
  if d.pl.length = 0 then 1 else if d.pl.length < 156 ∨ (reg ≠ 1 ∧ reg ≠ 2) ∨ rep < 0 ∨ 7 ≤ rep then 2 else if upD d = false then 5 else 0
/-- Which copy counts; whether one does; the error. -/
def loadedC (c0 c1 : Cp) : Nat × Bool × Int :=
  if overC c1 c0 = true then (1, true, 0) else if c0.st = 1 then (0, true, 0) else if c0.st = 0 ∨ c1.st = 0 then (0, false, 0) else (0, false, 70)
theorem over_good {c x : Cp} (h : overC c x = true) : c.st = 1 := by
  simp only [overC, Bool.and_eq_true, decide_eq_true_eq] at h
  exact h.1
def pickC (c0 c1 : Cp) : Cp := if (loadedC c0 c1).1 = 1 then c1 else c0
def loadC (d : Dk) (rep reg : Int) : Int × List UInt8 × Int :=
  if openC d rep reg ≠ 0 then (0, [], openC d rep reg) else
  if (loadedC (copyC d rep reg 0) (copyC d rep reg 1)).2.1 = false then (0, [], (loadedC (copyC d rep reg 0) (copyC d rep reg 1)).2.2) else
  ((pickC (copyC d rep reg 0) (copyC d rep reg 1)).tg.idx, (pickC (copyC d rep reg 0) (copyC d rep reg 1)).body, 0)
/-- A copy is written to its place, and flushed (the tag may be, the body has room). -/
def putC (d : Dk) (t : Tg) (body : List UInt8) : Dk × Int :=
  if (writeD d (firstN t.reg t.pla) (sealF t body 64)).2 ≠ 0 then writeD d (firstN t.reg t.pla) (sealF t body 64) else
  flushD (writeD d (firstN t.reg t.pla) (sealF t body 64)).1
def storeC (d : Dk) (rep reg inc : Int) (body : List UInt8) : Dk × Int :=
  if openC d rep reg ≠ 0 ∧ openC d rep reg ≠ 5 then (d, openC d rep reg) else
  if inc < 1 ∨ 1099511627776 < inc then (d, 2) else
  if 43 < body.length then (d, 3) else
  if openC d rep reg ≠ 0 then (d, openC d rep reg) else
  let ld := loadedC (copyC d rep reg 0) (copyC d rep reg 1)
  if ld.2.2 ≠ 0 then (d, ld.2.2) else
  let version := (pickC (copyC d rep reg 0) (copyC d rep reg 1)).tg.idx + 1
  if 1099511627776 < version then (d, 4) else
  let first : Int := if ld.2.1 = true then 1 - (ld.1 : Int) else 0
  let r := putC d ⟨rep, reg, first, version, inc⟩ body
  if r.2 ≠ 0 then r else putC r.1 ⟨rep, reg, 1 - first, version, inc⟩ body
def healC (d : Dk) (rep reg : Int) : Dk × Int :=
  if openC d rep reg ≠ 0 then (d, openC d rep reg) else
  let c0 := copyC d rep reg 0
  let c1 := copyC d rep reg 1
  let ld := loadedC c0 c1
  if ld.2.1 = false then (d, ld.2.2) else
  let x := if ld.1 = 1 then c1 else c0
  let y := if ld.1 = 1 then c0 else c1
  if x.st = y.st ∧ x.tg.idx = y.tg.idx ∧ x.body = y.body then (d, 0) else
  putC d ⟨rep, reg, 1 - (ld.1 : Int), x.tg.idx, x.tg.inc⟩ x.body
end Go.Proofs.YthfolocjkpiljaaGreatDoor

namespace Go.Proofs.YthfolocjkpiljaaGreatDoor

/-- A disk of 156 sectors that is up, with nothing waiting. -/
structure Live (d : Dk) : Prop where
  len : d.pl.length = 156
  w : d.waits = []
  dn : d.down = false
  de : d.dead = false
section
variable {d : Dk} {t : Tg} {body : List UInt8} {k : Nat}
theorem live_at (h : Live d) (hk : k < 156) : liveD d k = 0 := by
  unfold liveD thereD
  rw [h.len, h.dn, h.de]
  simp
  omega
theorem live_0 (h : Live d) : live0 d = 0 := by
  unfold live0 there0
  rw [h.len, h.dn, h.de]
  simp
theorem seal64 (t : Tg) {body : List UInt8} (hb : body.length ≤ 43) : (sealF t body 64).length = 64 := sealF_len (by decide) (by simpa [roomN] using hb)
theorem put_0 (h : Live d) (hl : d.left = 0) (hk : firstN t.reg t.pla = (k : Int)) (hk2 : k < 156) (hb : body.length ≤ 43) : putC d t body = ({ d with dead := true }, 5) := by
  have h1 : spendD d = ({ d with dead := true }, 5) := by unfold spendD; rw [if_pos hl]
  have h2 : writeD d k (sealF t body 64) = ({ d with dead := true }, 5) := by
    unfold writeD
    rw [live_at h hk2, seal64 t hb, h1]
    simp
  unfold putC
  rw [hk, h2]
  simp
theorem write_go {d : Dk} (h : Live d) (hl : d.left ≠ 0) (hk2 : k < 156) (hb : body.length ≤ 43) : writeD d k (sealF t body 64) = ({ d with left := (if 0 < d.left then d.left - 1 else d.left), waits := [(sealF t body 64, k)] }, 0) := by
  unfold writeD
  rw [live_at h hk2, seal64 t hb]
  simp only [ne_eq, not_true, if_false]
  unfold spendD
  rw [if_neg hl]
  split
  · simp [h.w]
  · simp [h.w]
theorem put_1 (h : Live d) (hl : d.left = 1) (hk : firstN t.reg t.pla = (k : Int)) (hk2 : k < 156) (hb : body.length ≤ 43) : putC d t body = ({ d with left := 0, waits := [(sealF t body 64, k)], dead := true }, 5) := by
  unfold putC
  rw [hk, write_go h (by omega) hk2 hb, hl]
  simp only [ne_eq, not_true, if_false]
  unfold flushD
  have : live0 ({ d with left := (if (0 : Int) < 1 then 1 - 1 else 1), waits := [(sealF t body 64, k)] } : Dk) = 0 := by
    unfold live0 there0
    simp [h.len, h.dn, h.de]
  rw [this]
  simp [spendD]
theorem put_n (h : Live d) (h0 : d.left ≠ 0) (h1 : d.left ≠ 1) (hk : firstN t.reg t.pla = (k : Int)) (hk2 : k < 156) (hb : body.length ≤ 43) : putC d t body = ({ d with pl := d.pl.set k ⟨sealF t body 64, sealF t body 64, false⟩, waits := [], left := (if 0 < d.left then d.left - 2 else d.left) }, 0) := by
  unfold putC
  rw [hk, write_go h h0 hk2 hb]
  simp only [ne_eq, not_true, if_false]
  unfold flushD
  have : live0 ({ d with left := (if 0 < d.left then d.left - 1 else d.left), waits := [(sealF t body 64, k)] } : Dk) = 0 := by
    unfold live0 there0
    simp [h.len, h.dn, h.de]
  rw [this]
  unfold spendD
  simp only [ne_eq, not_true, if_false]
  by_cases hl : 0 < d.left
  · have h2 : ¬ d.left - 1 = 0 := by omega
    have h4 : d.left - 1 - 1 = d.left - 2 := by omega
    have h5 : 1 < d.left := by omega
    simp [hl, h2, h4, h5, thruD]
  · simp [hl, h0, thruD]
end

/-- What a place holds: nothing, or a version, its incarnation, a body. -/
abbrev Vo := Option (Int × Int × List UInt8)
def okO : Vo → Prop
  | none => True
  | some (v, i, b) => 1 ≤ v ∧ v ≤ 1099511627776 ∧ 1 ≤ i ∧ i ≤ 1099511627776 ∧ b.length ≤ 43
def frO (reg : Int) (i : Int) : Vo → List UInt8
  | none => zeros64
  | some (v, c, b) => sealF ⟨0, reg, i, v, c⟩ b 64
def verO : Vo → Int
  | none => 0
  | some (v, _, _) => v
def bodO : Vo → List UInt8
  | none => []
  | some (_, _, b) => b
/-- Of a replica's region both places hold frames, or noughts. -/
structure Cel (d : Dk) (reg : Int) (o0 o1 : Vo) : Prop where
  r : reg = 1 ∨ reg = 2
  k0 : okO o0
  k1 : okO o1
  p0 : ∃ m, d.pl[(firstN reg 0).toNat]? = some ⟨frO reg 0 o0, m, false⟩
  p1 : ∃ m, d.pl[(firstN reg 1).toNat]? = some ⟨frO reg 1 o1, m, false⟩
def coO (reg i : Int) : Vo → Cp
  | none => ⟨0, zeroTg, []⟩
  | some (v, c, b) => ⟨1, ⟨0, reg, i, v, c⟩, b⟩
theorem may_cell {reg i v c : Int} (hr : reg = 1 ∨ reg = 2) (hi : i = 0 ∨ i = 1) (h1 : 1 ≤ v) (h2 : v ≤ 1099511627776) (h3 : 1 ≤ c) (h4 : c ≤ 1099511627776) : mayTg ⟨0, reg, i, v, c⟩ = true := by
  have hp : placesN reg = 2 := by rcases hr with rfl | rfl <;> rfl
  have a1 : 0 ≤ i := by omega
  have a2 : i < 2 := by omega
  have a3 : 0 ≤ v := by omega
  simp [mayTg, hp, a1, a2, a3, h2, h3, h4]
theorem mine_fr {reg i : Int} {o : Vo} (hr : reg = 1 ∨ reg = 2) (hi : i = 0 ∨ i = 1) (h : okO o) : mineF (frO reg i o) 0 reg i = ((coO reg i o).st, (coO reg i o).tg, (coO reg i o).body) := by
  match o, h with
  | none, _ => rfl
  | some (v, c, b), ⟨h1, h2, h3, h4, h5⟩ => exact mine_seal (may_cell hr hi h1 h2 h3 h4) (by decide) (by simpa [roomN] using h5)
theorem first_cell {reg i : Int} (hr : reg = 1 ∨ reg = 2) (hi : i = 0 ∨ i = 1) : firstN reg i = (((firstN reg i).toNat : Nat) : Int) ∧ (firstN reg i).toNat < 156 := by
  rcases hr with rfl | rfl <;> rcases hi with rfl | rfl <;> decide
theorem read_cell {d : Dk} {s : Int} {f m : List UInt8} (hs : s = ((s.toNat : Nat) : Int)) (h2 : s.toNat < 156) (h : Live d) (hp : d.pl[s.toNat]? = some ⟨f, m, false⟩) : readD d s = (f, 0) := by
  have hl : liveD d s = 0 := by rw [hs]; exact live_at h h2
  unfold readD
  rw [hl, h.w, hp]
  simp [lastW]
theorem copy_cell {d : Dk} {reg : Int} {o0 o1 : Vo} (h : Live d) (hc : Cel d reg o0 o1) : copyC d 0 reg 0 = coO reg 0 o0 ∧ copyC d 0 reg 1 = coO reg 1 o1 := by
  obtain ⟨m0, e0⟩ := hc.p0
  obtain ⟨m1, e1⟩ := hc.p1
  obtain ⟨a, b⟩ := first_cell hc.r (i := 0) (.inl rfl)
  obtain ⟨a', b'⟩ := first_cell hc.r (i := 1) (.inr rfl)
  constructor
  · unfold copyC
    rw [read_cell a b h e0]
    simp only
    rw [mine_fr hc.r (.inl rfl) hc.k0]
  · unfold copyC
    rw [read_cell a' b' h e1]
    simp only
    rw [mine_fr hc.r (.inr rfl) hc.k1]
theorem open_cell {d : Dk} {reg : Int} (h : Live d) (hr : reg = 1 ∨ reg = 2) : openC d 0 reg = 0 := by
  have hu : upD d = true := by unfold upD; rw [h.len, h.dn, h.de]; rfl
  unfold openC
  rw [h.len, hu]
  rcases hr with rfl | rfl <;> simp

/-- What is loaded: the greater version, the first one of two. -/
def maxO (o0 o1 : Vo) : Vo := if verO o0 < verO o1 then o1 else o0
theorem load_cell {d : Dk} {reg : Int} {o0 o1 : Vo} (h : Live d) (hc : Cel d reg o0 o1) : loadC d 0 reg = (verO (maxO o0 o1), bodO (maxO o0 o1), 0) := by
  obtain ⟨e0, e1⟩ := copy_cell h hc
  unfold loadC
  rw [open_cell h hc.r, e0, e1]
  have k0 := hc.k0
  have k1 := hc.k1
  match o0, o1, k0, k1 with
  | none, none, _, _ => rfl
  | some (v, c, b), none, ⟨h1, _⟩, _ =>
    have : ¬ v < 0 := by omega
    simp [loadedC, overC, coO, pickC, maxO, verO, bodO, this]
  | none, some (v, c, b), _, ⟨h1, _⟩ =>
    have : 0 < v := by omega
    simp [loadedC, overC, coO, pickC, maxO, verO, bodO, this]
  | some (v, c, b), some (v', c', b'), _, _ =>
    by_cases hv : v < v'
    · simp [loadedC, overC, coO, pickC, maxO, verO, bodO, hv]
    · simp [loadedC, overC, coO, pickC, maxO, verO, bodO, hv]
end Go.Proofs.YthfolocjkpiljaaGreatDoor

namespace Go.Proofs.YthfolocjkpiljaaGreatDoor

section
variable {d : Dk} {k j : Nat}
theorem read_live (h : Live d) (hj : j < 156) : readD d j = match d.pl[j]? with | none => ([], 2) | some p => if p.lost = true then ([], 50) else (p.rest, 0) := by
  unfold readD
  rw [live_at h hj, h.w]
  rfl
/-- A disk that is up, of whose places one is another. -/
theorem live_set (h : Live d) (p : Pl) (x : Int) : Live { d with pl := d.pl.set k p, waits := [], left := x } := ⟨by simp [h.len], rfl, h.dn, h.de⟩
theorem read_set (h : Live d) (p : Pl) (x : Int) (hj : j < 156) (hk : k < 156) : readD { d with pl := d.pl.set k p, waits := [], left := x } j = if j = k then (if p.lost = true then ([], 50) else (p.rest, 0)) else readD d j := by
  rw [read_live (live_set h p x) hj, read_live h hj]
  by_cases e : j = k
  · subst e
    simp [List.getElem?_set_self (show j < d.pl.length by rw [h.len]; exact hj)]
  · rw [if_neg e]
    simp only
    rw [List.getElem?_set_ne (Ne.symm e)]
end

/-- What is written to a place, and comes through. -/
def putP (d : Dk) (k : Nat) (f : List UInt8) : Dk := { d with pl := d.pl.set k ⟨f, f, false⟩, waits := [], left := (if 0 < d.left then d.left - 2 else d.left) }
theorem putP_live {d : Dk} (h : Live d) (k : Nat) (f : List UInt8) : Live (putP d k f) := live_set h _ _
theorem putP_read {d : Dk} (h : Live d) {k j : Nat} (f : List UInt8) (hj : j < 156) (hk : k < 156) : readD (putP d k f) j = if j = k then (f, 0) else readD d j := by
  unfold putP
  rw [read_set h _ _ hj hk]
  rfl
theorem putP_left (d : Dk) (k : Nat) (f : List UInt8) : (putP d k f).left = if 0 < d.left then d.left - 2 else d.left := rfl

/-! Places of a cell. -/
def secC (reg : Int) (i : Nat) : Nat := (if reg = 1 then 0 else 2) + i
theorem sec_first {reg : Int} (hr : reg = 1 ∨ reg = 2) {i : Nat} (hi : i < 2) : firstN reg (i : Int) = ((secC reg i : Nat) : Int) ∧ secC reg i < 4 := by
  rcases hr with rfl | rfl <;> rcases (show i = 0 ∨ i = 1 by omega) with rfl | rfl <;> decide
def cop (d : Dk) (rep reg : Int) (i : Nat) : Cp := ⟨(mineF (readD d (secC reg i)).1 rep reg i).1, (mineF (readD d (secC reg i)).1 rep reg i).2.1, (mineF (readD d (secC reg i)).1 rep reg i).2.2⟩
theorem copy_cop {d : Dk} {rep reg : Int} (hr : reg = 1 ∨ reg = 2) : copyC d rep reg 0 = cop d rep reg 0 ∧ copyC d rep reg 1 = cop d rep reg 1 := by
  have a := (sec_first hr (i := 0) (by omega)).1
  have b := (sec_first hr (i := 1) (by omega)).1
  constructor
  · unfold copyC cop
    rw [← a]
    rfl
  · unfold copyC cop
    rw [← b]
    rfl
theorem cop_read {d d' : Dk} {rep reg : Int} {i : Nat} (h : readD d' (secC reg i) = readD d (secC reg i)) : cop d' rep reg i = cop d rep reg i := by unfold cop; rw [h]
theorem cop_frame {d : Dk} {rep reg v c : Int} {b : List UInt8} {i : Nat} {e : Int} (h : readD d (secC reg i) = (sealF ⟨rep, reg, i, v, c⟩ b 64, e)) (hm : mayTg ⟨rep, reg, i, v, c⟩ = true) (hb : b.length ≤ 43) : cop d rep reg i = ⟨1, ⟨rep, reg, i, v, c⟩, b⟩ := by
  unfold cop
  rw [h]
  simp only
  have := mine_seal (n := 64) hm (by decide) (show b.length ≤ roomN 64 from hb)
  simp only at this
  rw [this]
theorem cop_zero {d : Dk} {rep reg : Int} {i : Nat} {e : Int} (h : readD d (secC reg i) = (zeros64, e)) : cop d rep reg i = ⟨0, zeroTg, []⟩ := by
  unfold cop
  rw [h]
  rfl
theorem cop_none {d : Dk} {rep reg : Int} {i : Nat} {e : Int} (h : readD d (secC reg i) = ([], e)) : cop d rep reg i = ⟨2, zeroTg, []⟩ := by
  unfold cop
  rw [h]
  rfl
theorem may_cell2 {rep reg v c : Int} {i : Nat} (hp : 0 ≤ rep ∧ rep ≤ 6) (hr : reg = 1 ∨ reg = 2) (hi : i < 2) (h1 : 0 ≤ v) (h2 : v ≤ 1099511627776) (h3 : 1 ≤ c) (h4 : c ≤ 1099511627776) : mayTg ⟨rep, reg, i, v, c⟩ = true := by
  have hpl : placesN reg = 2 := by rcases hr with rfl | rfl <;> rfl
  have a2 : ((i : Nat) : Int) < 2 := by omega
  simp [mayTg, hpl, hp.1, hp.2, a2, h1, h2, h3, h4]
theorem open_live {d : Dk} {rep reg : Int} (h : Live d) (hp : 0 ≤ rep ∧ rep ≤ 6) (hr : reg = 1 ∨ reg = 2) : openC d rep reg = 0 := by
  have hu : upD d = true := by unfold upD; rw [h.len, h.dn, h.de]; rfl
  unfold openC
  rw [h.len, hu]
  have a : ¬ rep < 0 := by omega
  have b : ¬ 7 ≤ rep := by omega
  rcases hr with rfl | rfl <;> simp [a, b]
/-- A load, by what both copies are. -/
theorem load_live {d : Dk} {rep reg : Int} (h : Live d) (hp : 0 ≤ rep ∧ rep ≤ 6) (hr : reg = 1 ∨ reg = 2) : loadC d rep reg = if (loadedC (cop d rep reg 0) (cop d rep reg 1)).2.1 = false then (0, [], (loadedC (cop d rep reg 0) (cop d rep reg 1)).2.2) else ((pickC (cop d rep reg 0) (cop d rep reg 1)).tg.idx, (pickC (cop d rep reg 0) (cop d rep reg 1)).body, 0) := by
  unfold loadC
  rw [open_live h hp hr, (copy_cop hr).1, (copy_cop hr).2]
  simp

/-! A store: where there is power for all of it. -/
def firstP (c0 c1 : Cp) : Nat := if (loadedC c0 c1).2.1 = true then 1 - (loadedC c0 c1).1 else 0
theorem loaded_lt (c0 c1 : Cp) : (loadedC c0 c1).1 < 2 := by
  unfold loadedC
  split
  · simp
  · split
    · simp
    · split <;> simp
theorem firstP_lt (c0 c1 : Cp) : firstP c0 c1 < 2 := by unfold firstP; split <;> omega
section
variable {d : Dk} {rep reg inc : Int} {body : List UInt8}
theorem store_red (h : Live d) (hp : 0 ≤ rep ∧ rep ≤ 6) (hr : reg = 1 ∨ reg = 2) (hi : 1 ≤ inc ∧ inc ≤ 1099511627776) (hb : body.length ≤ 43) (he : (loadedC (cop d rep reg 0) (cop d rep reg 1)).2.2 = 0) (hv : (pickC (cop d rep reg 0) (cop d rep reg 1)).tg.idx + 1 ≤ 1099511627776) :
    storeC d rep reg inc body = (if (putC d ⟨rep, reg, (firstP (cop d rep reg 0) (cop d rep reg 1) : Nat), (pickC (cop d rep reg 0) (cop d rep reg 1)).tg.idx + 1, inc⟩ body).2 ≠ 0 then putC d ⟨rep, reg, (firstP (cop d rep reg 0) (cop d rep reg 1) : Nat), (pickC (cop d rep reg 0) (cop d rep reg 1)).tg.idx + 1, inc⟩ body
      else putC (putC d ⟨rep, reg, (firstP (cop d rep reg 0) (cop d rep reg 1) : Nat), (pickC (cop d rep reg 0) (cop d rep reg 1)).tg.idx + 1, inc⟩ body).1 ⟨rep, reg, ((1 - firstP (cop d rep reg 0) (cop d rep reg 1) : Nat) : Int), (pickC (cop d rep reg 0) (cop d rep reg 1)).tg.idx + 1, inc⟩ body) := by
  have hf : (if (loadedC (cop d rep reg 0) (cop d rep reg 1)).2.1 = true then 1 - ((loadedC (cop d rep reg 0) (cop d rep reg 1)).1 : Int) else 0) = ((firstP (cop d rep reg 0) (cop d rep reg 1) : Nat) : Int) := by
    have := loaded_lt (cop d rep reg 0) (cop d rep reg 1)
    unfold firstP
    split <;> omega
  have hf2 : (1 : Int) - ((firstP (cop d rep reg 0) (cop d rep reg 1) : Nat) : Int) = ((1 - firstP (cop d rep reg 0) (cop d rep reg 1) : Nat) : Int) := by
    have := firstP_lt (cop d rep reg 0) (cop d rep reg 1)
    omega
  unfold storeC
  rw [open_live h hp hr, (copy_cop hr).1, (copy_cop hr).2]
  simp only [ne_eq, not_true, false_and, if_false]
  rw [if_neg (by omega), if_neg (by omega), he]
  simp only [not_true, if_false]
  rw [if_neg (by omega), hf, hf2]
end
end Go.Proofs.YthfolocjkpiljaaGreatDoor

namespace Go.Proofs.YthfolocjkpiljaaGreatDoor

def rdP (pl : List Pl) (j : Nat) : List UInt8 × Int := match pl[j]? with | none => ([], 2) | some p => if p.lost = true then ([], 50) else (p.rest, 0)
theorem rd_live {d : Dk} {j : Nat} (h : Live d) (hj : j < 156) : readD d j = rdP d.pl j := read_live h hj
theorem rd_set {pl : List Pl} {k : Nat} (f : List UInt8) (hk : k < pl.length) (j : Nat) : rdP (pl.set k ⟨f, f, false⟩) j = if j = k then (f, 0) else rdP pl j := by
  unfold rdP
  by_cases e : j = k
  · subst e
    simp [List.getElem?_set_self hk]
  · rw [if_neg e, List.getElem?_set_ne (Ne.symm e)]
/-- Behind a crash, and a start. -/
def anew (d : Dk) (keep : List Bool) : Dk := ⟨thruD d.pl d.waits 0 (keepB keep), [], false, false, -1⟩
theorem thru_len : ∀ (l : List (List UInt8 × Nat)) (pl : List Pl) (k : Nat) (is : Nat → Bool), (thruD pl l k is).length = pl.length
  | [], _, _, _ => rfl
  | (b, s) :: l, pl, k, is => by
    simp only [thruD]
    rw [thru_len l]
    split
    · rw [List.length_set]
    · rfl
theorem crash_start {d : Dk} (keep : List Bool) (hl : d.pl.length = 156) (hd : d.down = false) : (crashD d keep).2 = 0 ∧ startD (crashD d keep).1 = (anew d keep, 0) := by
  have h1 : crashD d keep = ({ d with pl := thruD d.pl d.waits 0 (keepB keep), waits := [], down := true }, 0) := by
    unfold crashD there0
    rw [hl, hd]
    simp
  rw [h1]
  refine ⟨rfl, ?_⟩
  unfold startD there0
  simp only
  rw [thru_len, hl]
  simp [anew]
theorem anew_live {d : Dk} (keep : List Bool) (hl : d.pl.length = 156) : Live (anew d keep) := ⟨by simp only [anew]; rw [thru_len, hl], rfl, rfl, rfl⟩

section
variable {d : Dk} {rep reg inc v : Int} {body : List UInt8}
/-- The frame of a place of a cell. -/
def fraC (rep reg v inc : Int) (body : List UInt8) (i : Nat) : List UInt8 := sealF ⟨rep, reg, i, v, inc⟩ body 64
/-- Two puts, the one place's first. -/
def twoP (d : Dk) (rep reg v inc : Int) (body : List UInt8) (f : Nat) : Dk × Int :=
  if (putC d ⟨rep, reg, (f : Nat), v, inc⟩ body).2 ≠ 0 then putC d ⟨rep, reg, (f : Nat), v, inc⟩ body else putC (putC d ⟨rep, reg, (f : Nat), v, inc⟩ body).1 ⟨rep, reg, ((1 - f : Nat) : Int), v, inc⟩ body
theorem put_p (h : Live d) (hr : reg = 1 ∨ reg = 2) (hb : body.length ≤ 43) {i : Nat} (hi : i < 2) (h0 : d.left ≠ 0) (h1 : d.left ≠ 1) : putC d ⟨rep, reg, i, v, inc⟩ body = (putP d (secC reg i) (fraC rep reg v inc body i), 0) :=
  put_n h h0 h1 (sec_first hr hi).1 (by have := (sec_first hr hi).2; omega) hb
theorem two_all (h : Live d) (hr : reg = 1 ∨ reg = 2) (hb : body.length ≤ 43) {f : Nat} (hf : f < 2) (hl : d.left < 0 ∨ 4 ≤ d.left) : twoP d rep reg v inc body f = (putP (putP d (secC reg f) (fraC rep reg v inc body f)) (secC reg (1 - f)) (fraC rep reg v inc body (1 - f)), 0) := by
  unfold twoP
  rw [put_p h hr hb hf (by omega) (by omega)]
  simp only [ne_eq, not_true, if_false]
  have hl2 : (putP d (secC reg f) (fraC rep reg v inc body f)).left = if 0 < d.left then d.left - 2 else d.left := rfl
  exact put_p (putP_live h _ _) hr hb (by omega) (by rw [hl2]; split <;> omega) (by rw [hl2]; split <;> omega)
theorem two_crash (h : Live d) (hr : reg = 1 ∨ reg = 2) (hb : body.length ≤ 43) {f : Nat} (hf : f < 2) (hl : 0 ≤ d.left) (keep : List Bool) :
    (twoP d rep reg v inc body f).2 = (if 4 ≤ d.left then 0 else 5) ∧ (twoP d rep reg v inc body f).1.pl.length = 156 ∧ (twoP d rep reg v inc body f).1.down = false ∧
    ∃ n m : Bool, (4 ≤ d.left → n = true ∧ m = true) ∧ (m = true → n = true) ∧ ∀ j : Nat, j < 156 → readD (anew (twoP d rep reg v inc body f).1 keep) j = if j = secC reg (1 - f) ∧ m = true then (fraC rep reg v inc body (1 - f), 0) else if j = secC reg f ∧ n = true then (fraC rep reg v inc body f, 0) else readD d j := by
  obtain ⟨ef, lf⟩ := sec_first hr hf
  obtain ⟨eo, lo⟩ := sec_first hr (i := 1 - f) (by omega)
  have hne : secC reg (1 - f) ≠ secC reg f := by unfold secC; omega
  have hlen := h.len
  by_cases h0 : d.left = 0
  · have e : twoP d rep reg v inc body f = ({ d with dead := true }, 5) := by
      unfold twoP
      rw [put_0 h h0 ef (by omega) hb]
      simp
    rw [e, h0]
    refine ⟨rfl, hlen, h.dn, false, false, by simp, by simp, fun j hj => ?_⟩
    rw [rd_live (anew_live keep (by exact hlen)) hj, rd_live h hj]
    simp [anew, h.w, thruD]
  by_cases h1 : d.left = 1
  · have e : twoP d rep reg v inc body f = ({ d with left := 0, waits := [(fraC rep reg v inc body f, secC reg f)], dead := true }, 5) := by
      unfold twoP
      rw [put_1 h h1 ef (by omega) hb]
      simp [fraC]
    rw [e, h1]
    refine ⟨rfl, hlen, h.dn, keepB keep 0, false, by simp, by simp, fun j hj => ?_⟩
    rw [rd_live (anew_live keep (by exact hlen)) hj, rd_live h hj]
    simp only [anew, thruD, and_false, if_false, Bool.false_eq_true]
    cases hk : keepB keep 0 with
    | false => simp
    | true =>
      simp only [if_true, and_true]
      rw [rd_set _ (by omega)]
  have hp := put_p (v := v) (rep := rep) (inc := inc) h hr hb hf h0 h1
  have hL := putP_live h (secC reg f) (fraC rep reg v inc body f)
  have hl2 : (putP d (secC reg f) (fraC rep reg v inc body f)).left = d.left - 2 := by rw [putP_left, if_pos (by omega)]
  by_cases h2 : d.left = 2
  · have e : twoP d rep reg v inc body f = ({ putP d (secC reg f) (fraC rep reg v inc body f) with dead := true }, 5) := by
      unfold twoP
      rw [hp]
      simp only [ne_eq, not_true, if_false]
      exact put_0 hL (by rw [hl2]; omega) eo (by omega) hb
    rw [e, h2]
    refine ⟨rfl, hL.len, hL.dn, true, false, by simp, by simp, fun j hj => ?_⟩
    rw [rd_live (anew_live keep (by exact hL.len)) hj, rd_live h hj]
    simp only [anew, putP, thruD, and_false, if_false, Bool.false_eq_true, and_true]
    rw [rd_set _ (by omega)]
  by_cases h3 : d.left = 3
  · have e : twoP d rep reg v inc body f = ({ putP d (secC reg f) (fraC rep reg v inc body f) with left := 0, waits := [(fraC rep reg v inc body (1 - f), secC reg (1 - f))], dead := true }, 5) := by
      unfold twoP
      rw [hp]
      simp only [ne_eq, not_true, if_false]
      exact put_1 hL (by rw [hl2]; omega) eo (by omega) hb
    rw [e, h3]
    refine ⟨rfl, hL.len, hL.dn, true, keepB keep 0, by simp, by simp, fun j hj => ?_⟩
    rw [rd_live (anew_live keep (by exact hL.len)) hj, rd_live h hj]
    simp only [anew, putP, thruD, and_true]
    cases hk : keepB keep 0 with
    | false =>
      simp only [Bool.false_eq_true, if_false, and_false]
      rw [rd_set _ (by omega)]
    | true =>
      simp only [if_true, and_true]
      rw [rd_set _ (by rw [List.length_set]; omega), rd_set _ (by omega)]
  · have e := two_all (rep := rep) (v := v) (inc := inc) h hr hb hf (.inr (by omega))
    have hL2 := putP_live hL (secC reg (1 - f)) (fraC rep reg v inc body (1 - f))
    rw [e, if_pos (by omega)]
    refine ⟨rfl, hL2.len, hL2.dn, true, true, by simp, by simp, fun j hj => ?_⟩
    rw [rd_live (anew_live keep (by exact hL2.len)) hj, rd_live h hj]
    simp only [anew, putP, thruD, and_true]
    rw [rd_set _ (by rw [List.length_set]; omega), rd_set _ (by omega)]
end
end Go.Proofs.YthfolocjkpiljaaGreatDoor

namespace Go.Proofs.YthfolocjkpiljaaGreatDoor

/-- Is a sector hurt? -/
def hurtB (d : Dk) (s : Int) : Bool := decide ((restD d s).2.2 = 0) && ((restD d s).2.1 || !decide ((restD d s).1 = (meantD d s).1))
def rangeI (f t : Nat) : List Int := (List.range' f (t - f)).map (fun (s : Nat) => (s : Int))
/-- The sectors that are hurt, from one on, below another one. -/
def hurtsL (d : Dk) (f t : Nat) : List Int := (rangeI f t).filter (hurtB d)
theorem rangeI_self (f : Nat) : rangeI f f = [] := by simp [rangeI]
theorem rangeI_succ {f t : Nat} (h : f ≤ t) : rangeI f (t + 1) = rangeI f t ++ [(t : Int)] := by
  unfold rangeI
  rw [show t + 1 - f = (t - f) + 1 by omega, List.range'_concat, List.map_append]
  simp only [List.map_cons, List.map_nil]
  rw [show f + 1 * (t - f) = t by omega]
theorem hurtsL_self (d : Dk) (f : Nat) : hurtsL d f f = [] := by simp [hurtsL, rangeI_self]
theorem hurtsL_yes {d : Dk} {f t : Nat} (h : f ≤ t) (hb : hurtB d t = true) : hurtsL d f (t + 1) = hurtsL d f t ++ [(t : Int)] := by
  unfold hurtsL
  rw [rangeI_succ h, List.filter_append]
  simp [hb]
theorem hurtsL_no {d : Dk} {f t : Nat} (h : f ≤ t) (hb : hurtB d t = false) : hurtsL d f (t + 1) = hurtsL d f t := by
  unfold hurtsL
  rw [rangeI_succ h, List.filter_append]
  simp [hb]
theorem hurtsL_len (d : Dk) (f t : Nat) : (hurtsL d f t).length ≤ t - f := by
  unfold hurtsL rangeI
  refine Nat.le_trans (List.length_filter_le _ _) ?_
  simp
theorem hurtsL_nil {d : Dk} {f t : Nat} (h : ∀ s : Nat, f ≤ s → s < t → hurtB d s = false) : hurtsL d f t = [] := by
  unfold hurtsL
  rw [List.filter_eq_nil_iff]
  intro x hx
  unfold rangeI at hx
  simp only [List.mem_map, List.mem_range'_1] at hx
  obtain ⟨s, ⟨h1, h2⟩, rfl⟩ := hx
  rw [h s h1 (by omega)]
  simp
theorem hurtsL_ne {d : Dk} {f t s : Nat} (h1 : f ≤ s) (h2 : s < t) (h : hurtB d s = true) : hurtsL d f t ≠ [] := by
  intro hh
  unfold hurtsL at hh
  rw [List.filter_eq_nil_iff] at hh
  refine hh (s : Int) ?_ h
  unfold rangeI
  simp only [List.mem_map, List.mem_range'_1]
  exact ⟨s, ⟨h1, by omega⟩, rfl⟩
/-- Why nothing is told of a place. -/
def askN (n : Nat) (rep reg pla : Int) : Int := if n = 0 then 1 else if n < 156 ∨ rep < 0 ∨ 7 ≤ rep ∨ firstN reg pla < 0 then 2 else 0
def askG (d : Dk) (rep reg pla : Int) : Int := askN d.pl.length rep reg pla
/-- The bytes of some sectors, one behind the other. -/
def allG (f : Int → List UInt8) (a n : Nat) : List UInt8 := (List.range n).flatMap (fun (k : Nat) => f ((a + k : Nat) : Int))
def goneG (d : Dk) (a n : Nat) : Bool := (List.range n).any (fun (k : Nat) => (restD d ((a + k : Nat) : Int)).2.1)
theorem allG_zero (f : Int → List UInt8) (a : Nat) : allG f a 0 = [] := rfl
theorem allG_succ (f : Int → List UInt8) (a n : Nat) : allG f a (n + 1) = allG f a n ++ f ((a + n : Nat) : Int) := by
  unfold allG
  rw [List.range_succ, List.flatMap_append, List.flatMap_singleton]
theorem goneG_zero (d : Dk) (a : Nat) : goneG d a 0 = false := rfl
theorem goneG_succ (d : Dk) (a n : Nat) : goneG d a (n + 1) = (goneG d a n || (restD d ((a + n : Nat) : Int)).2.1) := by
  unfold goneG
  rw [List.range_succ, List.any_append]
  simp
def isHurt (d : Dk) (a n : Nat) : Bool := !(hurtsL d a (a + n)).isEmpty
def allR (d : Dk) (a n : Nat) : List UInt8 := allG (fun s => (restD d s).1) a n
def allM (d : Dk) (a n : Nat) : List UInt8 := allG (fun s => (meantD d s).1) a n
/-- Whether a place is hurt, whether that is seen. -/
def placeG (d : Dk) (rep reg pla : Int) : Bool × Bool × Int :=
  if askG d rep reg pla ≠ 0 then (false, false, askG d rep reg pla) else
  (isHurt d (firstN reg pla).toNat (wideN reg).toNat, isHurt d (firstN reg pla).toNat (wideN reg).toNat && (goneG d (firstN reg pla).toNat (wideN reg).toNat || decide ((mineF (allR d (firstN reg pla).toNat (wideN reg).toNat) rep reg pla).1 = 2)), 0)
/-- What a place is meant to hold. -/
def honG (d : Dk) (rep reg pla : Int) : (Nat × Tg × List UInt8) × Int :=
  if askG d rep reg pla ≠ 0 then ((0, zeroTg, []), askG d rep reg pla) else
  (mineF (allM d (firstN reg pla).toNat (wideN reg).toNat) rep reg pla, 0)
def seenP (d : Dk) (rep : Int) (reg : Nat) (n : Nat) : Bool := (List.range n).all (fun (p : Nat) => (placeG d rep reg p).1 == (placeG d rep reg p).2.1)
def seenR (d : Dk) (rep : Int) (n : Nat) : Bool := (List.range n).all (fun (r : Nat) => seenP d rep (r + 1) (placesN ((r + 1 : Nat) : Int)).toNat)
def seenG (d : Dk) (rep : Int) : Bool × Int := if askG d rep 1 0 ≠ 0 then (false, askG d rep 1 0) else (seenR d rep 5, 0)
theorem seenP_succ (d : Dk) (rep : Int) (reg n : Nat) : seenP d rep reg (n + 1) = (seenP d rep reg n && (placeG d rep reg n).1 == (placeG d rep reg n).2.1) := by
  unfold seenP
  rw [List.range_succ, List.all_append]
  simp
theorem seenR_succ (d : Dk) (rep : Int) (n : Nat) : seenR d rep (n + 1) = (seenR d rep n && seenP d rep (n + 1) (placesN ((n + 1 : Nat) : Int)).toNat) := by
  unfold seenR
  rw [List.range_succ, List.all_append]
  simp
theorem ask_first {d : Dk} {rep reg pla : Int} (h : askG d rep reg pla = 0) : 156 ≤ d.pl.length ∧ 0 ≤ rep ∧ rep ≤ 6 ∧ 1 ≤ reg ∧ reg ≤ 5 ∧ 0 ≤ pla ∧ pla < placesN reg ∧ 0 ≤ firstN reg pla ∧ firstN reg pla + wideN reg ≤ 156 ∧ 1 ≤ wideN reg ∧ wideN reg ≤ 2 := by
  unfold askG askN at h
  split at h
  · cases h
  · split at h
    · cases h
    · rename_i h1 h2
      have h3 : ¬ firstN reg pla < 0 := fun hh => h2 (.inr (.inr (.inr hh)))
      have h4 : ¬ (placesN reg = 0 ∨ pla < 0 ∨ placesN reg ≤ pla) := fun hh => h3 (by unfold firstN; rw [if_pos hh]; decide)
      have h5 : 0 < placesN reg := by
        have : 0 ≤ placesN reg := by unfold placesN; repeat' split <;> omega
        omega
      obtain ⟨r1, r2, _⟩ := placesN_reg h5
      refine ⟨by omega, by omega, by omega, r1, r2, by omega, by omega, by omega, ?_⟩
      have hf : firstN reg pla = startN reg + pla * wideN reg := by unfold firstN; rw [if_neg h4]
      rw [hf]
      have hr : reg = 1 ∨ reg = 2 ∨ reg = 3 ∨ reg = 4 ∨ reg = 5 := by omega
      rcases hr with rfl | rfl | rfl | rfl | rfl <;> simp [placesN, startN, wideN] at h4 ⊢ <;> omega
end Go.Proofs.YthfolocjkpiljaaGreatDoor

namespace Go.Proofs.YthfolocjkpiljaaGreatDoor

/-! Without faults nothing is hurt. -/
def CleanL (l : List Pl) : Prop := ∀ p ∈ l, p.rest = p.meant ∧ p.lost = false
theorem there_pl {d : Dk} {s : Int} (h : thereD d s = 0) : ∃ p, d.pl[s.toNat]? = some p ∧ d.pl.getD s.toNat zeroPl = p ∧ p ∈ d.pl := by
  have hlt : s.toNat < d.pl.length := by
    unfold thereD at h
    split at h
    · cases h
    · split at h
      · cases h
      · omega
  have e := List.getElem?_eq_getElem hlt
  exact ⟨_, e, by rw [List.getD_eq_getElem?_getD, e]; rfl, List.getElem_mem hlt⟩
theorem hurt_pl {d : Dk} {s : Int} {p : Pl} (h : thereD d s = 0) (hp : d.pl.getD s.toNat zeroPl = p) : hurtB d s = (p.lost || !decide (p.rest = p.meant)) := by
  unfold hurtB restD meantD
  simp only [h, ne_eq, not_true_eq_false, if_false, hp]
  cases hl : p.lost <;> simp
theorem hurt_none {d : Dk} {s : Int} (h : thereD d s ≠ 0) : hurtB d s = false := by
  unfold hurtB restD
  rw [if_pos h]
  simp [h]
theorem clean_hurt {d : Dk} (h : CleanL d.pl) (s : Int) : hurtB d s = false := by
  by_cases h0 : thereD d s = 0
  · obtain ⟨p, h1, h2, h3⟩ := there_pl h0
    rw [hurt_pl h0 h2]
    obtain ⟨h4, h5⟩ := h p h3
    rw [h4, h5]
    simp
  · exact hurt_none h0
theorem clean_set {l : List Pl} (h : CleanL l) (k : Nat) (b : List UInt8) : CleanL (l.set k ⟨b, b, false⟩) := by
  intro p hp
  rcases List.mem_or_eq_of_mem_set hp with h1 | rfl
  · exact h p h1
  · exact ⟨rfl, rfl⟩
theorem clean_thru : ∀ (ws : List (List UInt8 × Nat)) (pl : List Pl) (k : Nat) (is : Nat → Bool), CleanL pl → CleanL (thruD pl ws k is)
  | [], _, _, _, h => h
  | (b, s) :: l, pl, k, is, h => by
    unfold thruD
    refine clean_thru l _ (k + 1) is ?_
    split
    · exact clean_set h s b
    · exact h
theorem spend_pl (d : Dk) : (spendD d).1.pl = d.pl ∧ (spendD d).1.waits = d.waits := by
  unfold spendD
  split
  · exact ⟨rfl, rfl⟩
  · split <;> exact ⟨rfl, rfl⟩
theorem write_pl (d : Dk) (s : Int) (b : List UInt8) : (writeD d s b).1.pl = d.pl ∧ (writeD d s b).1.waits.length ≤ d.waits.length + 1 := by
  obtain ⟨h1, h2⟩ := spend_pl d
  unfold writeD
  split
  · exact ⟨rfl, by simp⟩
  · split
    · exact ⟨rfl, by simp⟩
    · split
      · exact ⟨h1, by rw [h2]; omega⟩
      · exact ⟨h1, by simp [h2]⟩
theorem flush_pl (d : Dk) : ((flushD d).1.pl = d.pl ∧ (flushD d).1.waits = d.waits) ∨ ((flushD d).1.pl = thruD d.pl d.waits 0 (fun _ => true) ∧ (flushD d).1.waits = []) := by
  obtain ⟨h1, h2⟩ := spend_pl d
  unfold flushD
  split
  · exact .inl ⟨rfl, rfl⟩
  · split
    · exact .inl ⟨h1, h2⟩
    · exact .inr ⟨by simp [h1, h2], rfl⟩
theorem crash_pl (d : Dk) (keep : List Bool) : ((crashD d keep).1.pl = d.pl ∧ (crashD d keep).1.waits = d.waits) ∨ ((crashD d keep).1.pl = thruD d.pl d.waits 0 (keepB keep) ∧ (crashD d keep).1.waits = []) := by
  unfold crashD
  split
  · exact .inl ⟨rfl, rfl⟩
  · split
    · exact .inl ⟨rfl, rfl⟩
    · exact .inr ⟨rfl, rfl⟩
theorem start_pl (d : Dk) : (startD d).1.pl = d.pl ∧ (startD d).1.waits = d.waits := by
  unfold startD
  split
  · exact ⟨rfl, rfl⟩
  · split <;> exact ⟨rfl, rfl⟩
theorem power_pl (d : Dk) (n : Int) : (powerD d n).1.pl = d.pl ∧ (powerD d n).1.waits = d.waits := by
  unfold powerD
  split
  · exact ⟨rfl, rfl⟩
  · split <;> exact ⟨rfl, rfl⟩
/-! Acts. -/
def sectorL (n : Int) (bytes : List UInt8) : List UInt8 := if 0 < bytes.length then bytes else List.replicate 64 (UInt8.ofNat (n % 256).toNat)
def do5 (d : Dk) (k : Nat) (s n : Int) (bytes : List UInt8) (keep : List Bool) : Dk × Int :=
  if k % 9 = 0 then flushD d else if k % 9 = 1 then crashD d keep else if k % 9 = 2 then startD d else if k % 9 = 3 then flipD d s n else if k % 9 = 4 then loseD d s else if k % 9 = 5 then strayD d s n else if k % 9 = 8 then powerD d n else writeD d s (sectorL n bytes)
/-- What acts keep: how many sectors; how many writes wait. -/
structure Wk (d : Dk) (n : Nat) : Prop where
  len : d.pl.length = 156
  wt : d.waits.length ≤ n
theorem thru_len2 (pl : List Pl) (ws : List (List UInt8 × Nat)) (k : Nat) (is : Nat → Bool) : (thruD pl ws k is).length = pl.length := thru_len ws pl k is
theorem Wk.of {d d' : Dk} {n : Nat} (h : Wk d n) (h1 : d'.pl.length = d.pl.length) (h2 : d'.waits.length ≤ d.waits.length + 1) : Wk d' (n + 1) := ⟨h1.trans h.len, by have := h.wt; omega⟩
theorem flip_pl (d : Dk) (s n : Int) : (flipD d s n).1.pl.length = d.pl.length ∧ (flipD d s n).1.waits = d.waits ∧ ∀ j : Int, meantD (flipD d s n).1 j = meantD d j := by
  unfold flipD
  split
  · exact ⟨rfl, rfl, fun _ => rfl⟩
  · split
    · exact ⟨rfl, rfl, fun _ => rfl⟩
    · refine ⟨by simp, rfl, fun j => ?_⟩
      unfold meantD thereD
      simp only [List.length_modify, List.getD_eq_getElem?_getD, List.getElem?_modify]
      congr 2
      cases hj : d.pl[j.toNat]? with
      | none => rfl
      | some p => by_cases he : s.toNat = j.toNat <;> simp [he]
theorem lose_pl (d : Dk) (s : Int) : (loseD d s).1.pl.length = d.pl.length ∧ (loseD d s).1.waits = d.waits ∧ ∀ j : Int, meantD (loseD d s).1 j = meantD d j := by
  unfold loseD
  split
  · exact ⟨rfl, rfl, fun _ => rfl⟩
  · refine ⟨by simp, rfl, fun j => ?_⟩
    unfold meantD thereD
    simp only [List.length_modify, List.getD_eq_getElem?_getD, List.getElem?_modify]
    congr 2
    cases hj : d.pl[j.toNat]? with
    | none => rfl
    | some p => by_cases he : s.toNat = j.toNat <;> simp [he]
theorem stray_pl (d : Dk) (s t : Int) : (strayD d s t).1.pl.length = d.pl.length ∧ (strayD d s t).1.waits = d.waits ∧ ∀ j : Int, meantD (strayD d s t).1 j = meantD d j := by
  unfold strayD
  split
  · exact ⟨rfl, rfl, fun _ => rfl⟩
  · split
    · exact ⟨rfl, rfl, fun _ => rfl⟩
    · refine ⟨by simp, rfl, fun j => ?_⟩
      unfold meantD thereD
      simp only [List.length_modify, List.getD_eq_getElem?_getD, List.getElem?_modify]
      congr 2
      cases hj : d.pl[j.toNat]? with
      | none => rfl
      | some p => by_cases he : t.toNat = j.toNat <;> simp [he]
theorem do5_wk {d : Dk} {m : Nat} (h : Wk d m) (k : Nat) (s n : Int) (bytes : List UInt8) (keep : List Bool) : Wk (do5 d k s n bytes keep).1 (m + 1) := by
  unfold do5
  split
  · rcases flush_pl d with ⟨h1, h2⟩ | ⟨h1, h2⟩
    · exact h.of (by rw [h1]) (by rw [h2]; omega)
    · exact h.of (by rw [h1, thru_len2]) (by rw [h2]; simp)
  · split
    · rcases crash_pl d keep with ⟨h1, h2⟩ | ⟨h1, h2⟩
      · exact h.of (by rw [h1]) (by rw [h2]; omega)
      · exact h.of (by rw [h1, thru_len2]) (by rw [h2]; simp)
    · split
      · obtain ⟨h1, h2⟩ := start_pl d
        exact h.of (by rw [h1]) (by rw [h2]; omega)
      · split
        · obtain ⟨h1, h2, _⟩ := flip_pl d s n
          exact h.of h1 (by rw [h2]; omega)
        · split
          · obtain ⟨h1, h2, _⟩ := lose_pl d s
            exact h.of h1 (by rw [h2]; omega)
          · split
            · obtain ⟨h1, h2, _⟩ := stray_pl d s n
              exact h.of h1 (by rw [h2]; omega)
            · split
              · obtain ⟨h1, h2⟩ := power_pl d n
                exact h.of (by rw [h1]) (by rw [h2]; omega)
              · obtain ⟨h1, h2⟩ := write_pl d s (sectorL n bytes)
                exact h.of (by rw [h1]) h2
theorem do5_clean {d : Dk} (h : CleanL d.pl) {k : Nat} (hk : k % 9 < 3 ∨ 5 < k % 9) (s n : Int) (bytes : List UInt8) (keep : List Bool) : CleanL (do5 d k s n bytes keep).1.pl := by
  unfold do5
  split
  · rcases flush_pl d with ⟨h1, _⟩ | ⟨h1, _⟩
    · rw [h1]; exact h
    · rw [h1]; exact clean_thru _ _ _ _ h
  · split
    · rcases crash_pl d keep with ⟨h1, _⟩ | ⟨h1, _⟩
      · rw [h1]; exact h
      · rw [h1]; exact clean_thru _ _ _ _ h
    · split
      · rw [(start_pl d).1]; exact h
      · rw [if_neg (by omega), if_neg (by omega), if_neg (by omega)]
        split
        · rw [(power_pl d n).1]; exact h
        · rw [(write_pl d s _).1]; exact h
theorem do5_meant {d : Dk} {k : Nat} (hk : 3 ≤ k % 9 ∧ k % 9 ≤ 5) (s n : Int) (bytes : List UInt8) (keep : List Bool) (j : Int) : meantD (do5 d k s n bytes keep).1 j = meantD d j := by
  unfold do5
  rw [if_neg (by omega), if_neg (by omega), if_neg (by omega)]
  split
  · exact (flip_pl d s n).2.2 j
  · split
    · exact (lose_pl d s).2.2 j
    · rw [if_pos (by omega)]
      exact (stray_pl d s n).2.2 j
theorem clean_nil {d : Dk} (h : CleanL d.pl) (f t : Nat) : hurtsL d f t = [] := hurtsL_nil fun s _ _ => clean_hurt h s
theorem clean_place {d : Dk} (h : CleanL d.pl) (rep reg pla : Int) : (placeG d rep reg pla).1 = false ∧ (placeG d rep reg pla).2.1 = false := by
  unfold placeG
  split
  · exact ⟨rfl, rfl⟩
  · simp [isHurt, clean_nil h]
theorem clean_seen {d : Dk} (h : CleanL d.pl) (hl : 156 ≤ d.pl.length) {rep : Int} (hr : 0 ≤ rep ∧ rep ≤ 6) : seenG d rep = (true, 0) := by
  have ha : askG d rep 1 0 = 0 := by
    unfold askG askN
    rw [if_neg (by omega), if_neg]
    rintro (h1 | h1 | h1 | h1)
    · omega
    · omega
    · omega
    · exact absurd h1 (by decide)
  unfold seenG
  rw [if_neg (by simpa using ha)]
  congr 1
  unfold seenR seenP
  rw [List.all_eq_true]
  intro r _
  rw [List.all_eq_true]
  intro p _
  obtain ⟨h1, h2⟩ := clean_place h rep ((r : Nat) + 1 : Int) p
  simp only [Int.natCast_add, Int.natCast_one]
  rw [h1, h2]
  rfl
theorem new_clean (n : Nat) : CleanL (newDk n).pl := fun p hp => by
  rw [(List.mem_replicate.1 hp).2]
  exact ⟨rfl, rfl⟩
end Go.Proofs.YthfolocjkpiljaaGreatDoor

namespace Go.Proofs.YthfolocjkpiljaaGreatDoor

/-! Acts that came in. -/
structure A5 where
  kind : Nat
  sec : Int
  n : Int
  ba : Option Addr
  bytes : List UInt8
  bc : Nat
  ka : Option Addr
  keep : List Bool
  kc : Nat
structure A6 where
  sl : Bool
  tg : Tg
  oa : Option Addr
  body : List UInt8
  oc : Nat
  dk : A5
def do5A (d : Dk) (x : A5) : Dk × Int := do5 d x.kind x.sec x.n x.bytes x.keep
def wideT (t : Tg) : Nat := if mayTg t = true then (wideN t.reg).toNat else 0
/-- The frame, or none; why there is none. -/
def sealR (t : Tg) (body : List UInt8) (n : Nat) : List UInt8 := if mayTg t = true ∧ roomN (64 * n) ≠ 0 ∧ body.length ≤ roomN (64 * n) then sealF t body (64 * n) else []
def sealE (t : Tg) (body : List UInt8) (n : Nat) : Int := if mayTg t = false ∨ roomN (64 * n) = 0 then 2 else if roomN (64 * n) < body.length then 3 else 0
def pcD (b : List UInt8) (k : Nat) : List UInt8 := (b.drop (64 * k)).take 64
/-- So many sectors are written. -/
def putsD (d : Dk) (f : Int) (b : List UInt8) : Nat → Dk
  | 0 => d
  | k + 1 => (writeD (putsD d f b k) (f + k) (pcD b k)).1
def do6 (d : Dk) (x : A6) : Dk := if x.sl = false then (do5A d x.dk).1 else putsD d (firstN x.tg.reg x.tg.pla) (sealR x.tg x.body (wideT x.tg)) ((sealR x.tg x.body (wideT x.tg)).length / 64)
def fault (x : A6) : Bool := !x.sl && (decide (3 ≤ x.dk.kind % 9) && decide (x.dk.kind % 9 ≤ 5))
theorem wideN_le (r : Int) : 0 ≤ wideN r ∧ wideN r ≤ 2 := by
  unfold wideN
  repeat' split
  all_goals omega
theorem wideT_le (t : Tg) : wideT t ≤ 2 := by
  unfold wideT
  split
  · have := wideN_le t.reg; omega
  · omega
theorem wide_may {t : Tg} (h : mayTg t = true) : (wideT t : Int) = wideN t.reg ∧ 1 ≤ wideT t ∧ wideT t ≤ 2 := by
  obtain ⟨h1, h2, _⟩ := mayTg_small h
  have h3 := wideN_le t.reg
  have h4 : 1 ≤ wideN t.reg := by
    have hr : t.reg = 1 ∨ t.reg = 2 ∨ t.reg = 3 ∨ t.reg = 4 ∨ t.reg = 5 := by omega
    unfold wideN
    rcases hr with h | h | h | h | h <;> rw [h] <;> decide
  unfold wideT
  rw [if_pos h]
  omega
theorem room_wide {n : Nat} (h1 : 1 ≤ n) (h2 : n ≤ 2) : roomN (64 * n) ≠ 0 ∧ 43 ≤ roomN (64 * n) := by
  rcases (show n = 1 ∨ n = 2 by omega) with rfl | rfl <;> decide
theorem sealR_len (t : Tg) (body : List UInt8) (n : Nat) : (sealR t body n).length = 64 * n ∧ (n = 1 ∨ n = 2) ∧ sealE t body n = 0 ∨ (sealR t body n).length = 0 ∧ sealE t body n ≠ 0 := by
  unfold sealR sealE
  by_cases h1 : mayTg t = true
  · by_cases h2 : roomN (64 * n) = 0
    · rw [if_neg (by simp [h2]), if_pos (.inr h2)]
      exact .inr ⟨rfl, by decide⟩
    · by_cases h3 : body.length ≤ roomN (64 * n)
      · rw [if_pos ⟨h1, h2, h3⟩, if_neg (by simp [h1, h2]), if_neg (by omega)]
        have hn := (roomN_of (n := 64 * n) (by omega)).1
        exact .inl ⟨sealF_len (by omega) h3, by omega, rfl⟩
      · rw [if_neg (by omega), if_neg (by simp [h1, h2]), if_pos (by omega)]
        exact .inr ⟨rfl, by decide⟩
  · rw [if_neg (by simp [h1]), if_pos (.inl (by simpa using h1))]
    exact .inr ⟨rfl, by decide⟩
theorem sealR_le (t : Tg) (body : List UInt8) (n : Nat) : (sealR t body n).length ≤ 128 ∧ (sealR t body n).length / 64 ≤ 2 := by
  rcases sealR_len t body n with ⟨h, h2, _⟩ | ⟨h, _⟩ <;> omega
theorem sealR_may {t : Tg} (h : mayTg t = true) {body : List UInt8} (hb : body.length ≤ 43) : sealR t body (wideT t) = sealF t body (64 * wideT t) ∧ sealE t body (wideT t) = 0 := by
  obtain ⟨_, h1, h2⟩ := wide_may h
  obtain ⟨h3, h4⟩ := room_wide h1 h2
  unfold sealR sealE
  rw [if_pos ⟨h, h3, by omega⟩, if_neg (by simp [h, h3]), if_neg (by omega)]
  exact ⟨rfl, rfl⟩
theorem puts_pl (d : Dk) (f : Int) (b : List UInt8) : ∀ k, (putsD d f b k).pl = d.pl ∧ (putsD d f b k).waits.length ≤ d.waits.length + k
  | 0 => ⟨rfl, by simp [putsD]⟩
  | k + 1 => by
    obtain ⟨h1, h2⟩ := puts_pl d f b k
    obtain ⟨h3, h4⟩ := write_pl (putsD d f b k) (f + k) (pcD b k)
    exact ⟨h3.trans h1, by show (writeD (putsD d f b k) (f + k) (pcD b k)).1.waits.length ≤ _; omega⟩
theorem do6_wk {d : Dk} {m : Nat} (h : Wk d m) (x : A6) : Wk (do6 d x) (m + 2) := by
  unfold do6
  split
  · have := do5_wk h x.dk.kind x.dk.sec x.dk.n x.dk.bytes x.dk.keep
    exact ⟨this.len, by have := this.wt; unfold do5A; omega⟩
  · obtain ⟨h1, h2⟩ := puts_pl d (firstN x.tg.reg x.tg.pla) (sealR x.tg x.body (wideT x.tg)) ((sealR x.tg x.body (wideT x.tg)).length / 64)
    exact ⟨by rw [h1]; exact h.len, by have := h.wt; have := (sealR_le x.tg x.body (wideT x.tg)).2; omega⟩
theorem do6_clean {d : Dk} (h : CleanL d.pl) {x : A6} (hx : x.sl = true ∨ x.dk.kind % 9 < 3 ∨ 5 < x.dk.kind % 9) : CleanL (do6 d x).pl := by
  unfold do6
  split
  · rename_i h1
    exact do5_clean h (hx.resolve_left (by rw [h1]; decide)) x.dk.sec x.dk.n x.dk.bytes x.dk.keep
  · rw [(puts_pl d _ _ _).1]
    exact h
theorem do6_meant {d : Dk} {x : A6} (hx : fault x = true) (j : Int) : meantD (do6 d x) j = meantD d j := by
  unfold fault at hx
  simp only [Bool.and_eq_true, Bool.not_eq_true', decide_eq_true_eq] at hx
  unfold do6
  rw [if_pos hx.1]
  exact do5_meant hx.2 x.dk.sec x.dk.n x.dk.bytes x.dk.keep j

/-! A frame that is put. -/
structure Ready (d : Dk) : Prop where
  len : d.pl.length = 156
  dn : d.down = false
  de : d.dead = false
  lf : d.left < 0 ∨ 4 ≤ d.left
theorem puts_ready {d : Dk} (h : Ready d) {f : Nat} {b : List UInt8} : ∀ k, k ≤ 2 → f + k ≤ 156 → 64 * k ≤ b.length →
    ((putsD d f b k).pl = d.pl ∧ (putsD d f b k).down = false ∧ (putsD d f b k).dead = false ∧ ((putsD d f b k).left < 0 ∨ (putsD d f b k).left + k ≥ 4) ∧ (putsD d f b k).waits = d.waits ++ (List.range k).map (fun j => (pcD b j, f + j))) ∧
    (∀ j, j < k → (writeD (putsD d f b j) ((f : Int) + j) (pcD b j)).2 = 0)
  | 0, _, _, _ => ⟨⟨rfl, h.dn, h.de, by have := h.lf; show d.left < 0 ∨ d.left + 0 ≥ 4; omega, by simp [putsD]⟩, fun j hj => absurd hj (by omega)⟩
  | k + 1, h2, h3, h4 => by
    obtain ⟨⟨e1, e2, e3, e4, e5⟩, hw⟩ := puts_ready h (f := f) (b := b) k (by omega) (by omega) (by omega)
    have hlv : liveD (putsD d f b k) ((f : Int) + k) = 0 := by
      unfold liveD thereD
      rw [e1, e2, e3, h.len]
      rw [if_neg (by simp), if_neg (by decide), if_neg (by omega)]
    have hpl : (pcD b k).length = 64 := by unfold pcD; rw [List.length_take, List.length_drop]; omega
    have hsp : spendD (putsD d f b k) = (if 0 < (putsD d f b k).left then ({ putsD d f b k with left := (putsD d f b k).left - 1 }, 0) else (putsD d f b k, 0)) := by
      unfold spendD
      rw [if_neg (by omega)]
    have hwr : writeD (putsD d f b k) ((f : Int) + k) (pcD b k) = ({ (spendD (putsD d f b k)).1 with waits := (spendD (putsD d f b k)).1.waits ++ [(pcD b k, f + k)] }, 0) := by
      unfold writeD
      rw [if_neg (by simp [hlv]), if_neg (by simp [hpl]), if_neg (by rw [hsp]; split <;> simp), show ((f : Int) + k).toNat = f + k by omega]
    have hs1 : (spendD (putsD d f b k)).1.pl = d.pl ∧ (spendD (putsD d f b k)).1.down = false ∧ (spendD (putsD d f b k)).1.dead = false ∧ ((spendD (putsD d f b k)).1.left < 0 ∨ (spendD (putsD d f b k)).1.left + ((k + 1 : Nat) : Int) ≥ 4) ∧ (spendD (putsD d f b k)).1.waits = d.waits ++ (List.range k).map (fun j => (pcD b j, f + j)) := by
      rw [hsp]
      split
      · exact ⟨e1, e2, e3, by simp only; omega, e5⟩
      · exact ⟨e1, e2, e3, by simp only; omega, e5⟩
    refine ⟨?_, fun j hj => ?_⟩
    · rw [show putsD d f b (k + 1) = (writeD (putsD d f b k) ((f : Int) + k) (pcD b k)).1 from rfl, hwr]
      refine ⟨hs1.1, hs1.2.1, hs1.2.2.1, hs1.2.2.2.1, ?_⟩
      simp only
      rw [hs1.2.2.2.2, List.range_succ, List.map_append, List.append_assoc]
      rfl
    · by_cases hjk : j = k
      · subst hjk
        rw [hwr]
      · exact hw j (by omega)
theorem thru_app : ∀ (a b : List (List UInt8 × Nat)) (pl : List Pl) (k : Nat) (is : Nat → Bool), thruD pl (a ++ b) k is = thruD (thruD pl a k is) b (k + a.length) is
  | [], _, _, _, _ => rfl
  | (x, s) :: a, b, pl, k, is => by
    simp only [List.cons_append, thruD, List.length_cons]
    rw [thru_app a b]
    congr 1
    omega
/-- A place whose sectors hold, and are meant to hold, a frame. -/
structure Held (d : Dk) (f : Nat) (b : List UInt8) (n : Nat) : Prop where
  len : d.pl.length = 156
  at_ : ∀ k, k < n → d.pl[f + k]? = some ⟨pcD b k, pcD b k, false⟩
theorem put_held {d : Dk} (h : Ready d) {f n : Nat} {b : List UInt8} (h1 : 1 ≤ n) (h2 : n ≤ 2) (h3 : f + n ≤ 156) (h4 : b.length = 64 * n) :
    (flushD (putsD d f b n)).2 = 0 ∧ Held (flushD (putsD d f b n)).1 f b n ∧ (flushD (putsD d f b n)).1.waits = [] := by
  obtain ⟨⟨e1, e2, e3, e4, e5⟩, _⟩ := puts_ready h (f := f) (b := b) n h2 h3 (by omega)
  have hlv : live0 (putsD d f b n) = 0 := by
    unfold live0 there0
    rw [e1, e2, e3, h.len]
    simp
  have hsp : spendD (putsD d f b n) = (if 0 < (putsD d f b n).left then ({ putsD d f b n with left := (putsD d f b n).left - 1 }, 0) else (putsD d f b n, 0)) := by
    unfold spendD
    rw [if_neg (by omega)]
  have hs1 : (spendD (putsD d f b n)).2 = 0 ∧ (spendD (putsD d f b n)).1.pl = d.pl ∧ (spendD (putsD d f b n)).1.waits = d.waits ++ (List.range n).map (fun j => (pcD b j, f + j)) := by
    rw [hsp]
    split
    · exact ⟨rfl, e1, e5⟩
    · exact ⟨rfl, e1, e5⟩
  have hfl : flushD (putsD d f b n) = ({ (spendD (putsD d f b n)).1 with pl := thruD d.pl (d.waits ++ (List.range n).map (fun j => (pcD b j, f + j))) 0 (fun _ => true), waits := [] }, 0) := by
    unfold flushD
    rw [if_neg (by simp [hlv]), if_neg (by simp [hs1.1]), hs1.2.1, hs1.2.2]
  rw [hfl]
  have hl0 : (thruD d.pl d.waits 0 (fun _ => true)).length = 156 := by rw [thru_len2]; exact h.len
  refine ⟨rfl, ⟨?_, fun k hk => ?_⟩, rfl⟩
  · simp only
    rw [thru_len2]
    exact h.len
  · simp only
    rw [thru_app]
    generalize thruD d.pl d.waits 0 (fun _ => true) = P at hl0 ⊢
    rcases (show n = 1 ∨ n = 2 by omega) with rfl | rfl
    · obtain rfl : k = 0 := by omega
      simp only [List.range_one, List.map_cons, List.map_nil, thruD, if_true, Nat.add_zero]
      exact List.getElem?_set_self (by omega)
    · simp only [show List.range 2 = [0, 1] from rfl, List.map_cons, List.map_nil, thruD, if_true, Nat.add_zero]
      rcases (show k = 0 ∨ k = 1 by omega) with rfl | rfl
      · rw [Nat.add_zero, List.getElem?_set_ne (by omega)]
        exact List.getElem?_set_self (by omega)
      · exact List.getElem?_set_self (by rw [List.length_set]; omega)
theorem pcs_all {b : List UInt8} {n : Nat} (h1 : 1 ≤ n) (h2 : n ≤ 2) (hb : b.length = 64 * n) : (List.range n).flatMap (fun k => pcD b k) = b := by
  rcases (show n = 1 ∨ n = 2 by omega) with rfl | rfl
  · simp only [List.range_one, List.flatMap_cons, List.flatMap_nil, List.append_nil, pcD, Nat.mul_zero, List.drop_zero]
    exact List.take_of_length_le (by omega)
  · simp only [show List.range 2 = [0, 1] from rfl, List.flatMap_cons, List.flatMap_nil, List.append_nil, pcD, Nat.mul_zero, List.drop_zero, Nat.mul_one]
    rw [List.take_of_length_le (show (b.drop 64).length ≤ 64 by rw [List.length_drop]; omega), List.take_append_drop]
theorem there_of {d : Dk} {j : Nat} (hl : d.pl.length = 156) (hj : j < 156) : thereD d (j : Int) = 0 := by
  unfold thereD
  rw [if_neg (by omega), if_neg (by omega)]
/-- What sectors are meant to hold. -/
def MeantIs (d : Dk) (f : Nat) (b : List UInt8) (n : Nat) : Prop := ∀ k, k < n → meantD d ((f + k : Nat) : Int) = (pcD b k, 0)
theorem Held.meant {d : Dk} {f n : Nat} {b : List UInt8} (h : Held d f b n) (h3 : f + n ≤ 156) : MeantIs d f b n := fun k hk => by
  unfold meantD
  rw [there_of h.len (by omega), if_neg (by decide), Int.toNat_natCast, List.getD_eq_getElem?_getD, h.at_ k hk]
  rfl
theorem allM_of {d : Dk} {f n : Nat} {b : List UInt8} (h1 : 1 ≤ n) (h2 : n ≤ 2) (hb : b.length = 64 * n) (h : MeantIs d f b n) : allM d f n = b := by
  unfold allM allG
  have e : ∀ k ∈ List.range n, (meantD d ((f + k : Nat) : Int)).1 = pcD b k := fun k hk => by rw [h k (List.mem_range.1 hk)]
  rw [show (List.range n).flatMap (fun (k : Nat) => (meantD d ((f + k : Nat) : Int)).1) = (List.range n).flatMap (fun k => pcD b k) from by
    rw [List.flatMap_def, List.flatMap_def, List.map_congr_left e]]
  exact pcs_all h1 h2 hb
/-- Where a tag's place lies. -/
theorem place_of {t : Tg} (h : mayTg t = true) : ∃ f : Nat, firstN t.reg t.pla = f ∧ f + wideT t ≤ 156 ∧ ∀ d : Dk, d.pl.length = 156 → askG d t.rep t.reg t.pla = 0 := by
  obtain ⟨h1, h2, h3, h4, _⟩ := mayTg_parts h
  obtain ⟨g1, g2, g3⟩ := mayTg_small h
  obtain ⟨w1, w2, w3⟩ := wide_may h
  have hp : 0 < placesN t.reg := by omega
  have hf : firstN t.reg t.pla = startN t.reg + t.pla * wideN t.reg := by unfold firstN; rw [if_neg (by omega)]
  have h0 : 0 ≤ firstN t.reg t.pla ∧ firstN t.reg t.pla + wideN t.reg ≤ 156 := by
    rw [hf]
    have hr : t.reg = 1 ∨ t.reg = 2 ∨ t.reg = 3 ∨ t.reg = 4 ∨ t.reg = 5 := by omega
    rcases hr with h | h | h | h | h <;> rw [h] at h4 ⊢ <;> simp [placesN, startN, wideN] at h4 ⊢ <;> omega
  refine ⟨(firstN t.reg t.pla).toNat, by omega, by omega, fun d hd => ?_⟩
  unfold askG askN
  rw [hd, if_neg (by decide), if_neg (by omega)]
theorem hon_of {d : Dk} {t : Tg} {body : List UInt8} {f : Nat} (ht : mayTg t = true) (hb : body.length ≤ 43) (hl : d.pl.length = 156) (hf : firstN t.reg t.pla = f) (hm : MeantIs d f (sealF t body (64 * wideT t)) (wideT t)) : honG d t.rep t.reg t.pla = ((1, t, body), 0) := by
  obtain ⟨f', hf', _, ha⟩ := place_of ht
  obtain ⟨w1, w2, w3⟩ := wide_may ht
  obtain ⟨r1, r2⟩ := room_wide w2 w3
  have hsl : (sealF t body (64 * wideT t)).length = 64 * wideT t := sealF_len (by omega) (by omega)
  unfold honG
  rw [if_neg (by rw [ha d hl]; decide), hf, show (wideN t.reg).toNat = wideT t by omega, Int.toNat_natCast, allM_of w2 w3 hsl hm, mine_seal ht (by omega) (by omega)]
theorem place_held {d : Dk} {t : Tg} {body : List UInt8} {f : Nat} (ht : mayTg t = true) (hf : firstN t.reg t.pla = f) (h : Held d f (sealF t body (64 * wideT t)) (wideT t)) : placeG d t.rep t.reg t.pla = (false, false, 0) := by
  obtain ⟨f', hf', hn, ha⟩ := place_of ht
  obtain ⟨w1, w2, w3⟩ := wide_may ht
  have hff : f' = f := by omega
  subst hff
  have hno : isHurt d f' (wideT t) = false := by
    unfold isHurt
    rw [hurtsL_nil (fun s h1 h2 => ?_)]
    · rfl
    · have he := h.at_ (s - f') (by omega)
      rw [show f' + (s - f') = s by omega] at he
      rw [hurt_pl (there_of h.len (by omega)) (by rw [Int.toNat_natCast, List.getD_eq_getElem?_getD, he])]
      simp
  unfold placeG
  rw [if_neg (by rw [ha d h.len]; decide), hf, show (wideN t.reg).toNat = wideT t by omega, Int.toNat_natCast, hno]
  rfl
/-- A place that isn't hurt is what it is meant to be. -/
theorem place_sound {d : Dk} {t : Tg} {body : List UInt8} {f : Nat} (ht : mayTg t = true) (hb : body.length ≤ 43) (hl : d.pl.length = 156) (hf : firstN t.reg t.pla = f) (hm : MeantIs d f (sealF t body (64 * wideT t)) (wideT t)) :
    ∃ hu go st, placeG d t.rep t.reg t.pla = (hu, hu && (go || decide (st = 2)), 0) ∧ goneG d f (wideT t) = go ∧ (mineF (allR d f (wideT t)) t.rep t.reg t.pla).1 = st ∧ (hu = false → go = false ∧ mineF (allR d f (wideT t)) t.rep t.reg t.pla = (1, t, body)) := by
  obtain ⟨f', hf', hn, ha⟩ := place_of ht
  obtain ⟨w1, w2, w3⟩ := wide_may ht
  have hff : f' = f := by omega
  subst hff
  obtain ⟨r1, r2⟩ := room_wide w2 w3
  have hsl : (sealF t body (64 * wideT t)).length = 64 * wideT t := sealF_len (by omega) (by omega)
  refine ⟨isHurt d f' (wideT t), _, _, ?_, rfl, rfl, fun hu => ?_⟩
  · unfold placeG
    rw [if_neg (by rw [ha d hl]; decide), hf, show (wideN t.reg).toNat = wideT t by omega, Int.toNat_natCast]
  · have hno : ∀ k, k < wideT t → (restD d ((f' + k : Nat) : Int)).2.1 = false ∧ (restD d ((f' + k : Nat) : Int)).1 = (meantD d ((f' + k : Nat) : Int)).1 := fun k hk => by
      have h0 := there_of hl (show f' + k < 156 by omega)
      obtain ⟨p, e1, e2, e3⟩ := there_pl h0
      have hb : hurtB d ((f' + k : Nat) : Int) = false := by
        cases hh : hurtB d ((f' + k : Nat) : Int)
        · rfl
        · have hne := hurtsL_ne (d := d) (f := f') (t := f' + wideT t) (s := f' + k) (by omega) (by omega) hh
          unfold isHurt at hu
          cases hL : hurtsL d f' (f' + wideT t)
          · exact absurd hL hne
          · rw [hL] at hu; cases hu
      rw [hurt_pl h0 e2] at hb
      rw [Bool.or_eq_false_iff] at hb
      obtain ⟨b1, b2⟩ := hb
      have b3 : p.rest = p.meant := by simpa using b2
      unfold restD meantD
      simp only [h0, e2, b1, ne_eq, not_true_eq_false, if_false, Bool.false_eq_true]
      exact ⟨trivial, b3⟩
    refine ⟨?_, ?_⟩
    · unfold goneG
      rw [List.any_eq_false]
      intro k hk
      rw [(hno k (List.mem_range.1 hk)).1]
      decide
    · have e : allR d f' (wideT t) = allM d f' (wideT t) := by
        unfold allR allM allG
        rw [List.flatMap_def, List.flatMap_def]
        congr 1
        exact List.map_congr_left fun k hk => (hno k (List.mem_range.1 hk)).2
      rw [e, allM_of w2 w3 hsl hm, mine_seal ht (by omega) (by omega)]
/-! A disk that is got up anew. -/
def upped (d : Dk) : Dk := (powerD (startD (if upD d = true then d else (crashD d []).1)).1 1000).1
theorem upped_ready {d : Dk} {m : Nat} (h : Wk d m) : Ready (upped d) ∧ (upped d).waits.length ≤ m := by
  have hl := h.len
  have hw := h.wt
  have key : ∀ e : Dk, e.pl.length = 156 → e.waits.length ≤ m → (e.down = true ∨ upD e = true) → Ready (powerD (startD e).1 1000).1 ∧ (powerD (startD e).1 1000).1.waits.length ≤ m := fun e h1 h2 h3 => by
    have hs : (startD e).1.pl.length = 156 ∧ (startD e).1.waits = e.waits ∧ (startD e).1.down = false ∧ (startD e).1.dead = false := by
      unfold startD there0
      rw [h1]
      cases hd : e.down with
      | true => simp [h1]
      | false =>
        have h4 := h3.resolve_left (by rw [hd]; decide)
        unfold upD at h4
        rw [hd] at h4
        simp at h4
        simp [h1, hd, h4.2]
    obtain ⟨s1, s2, s3, s4⟩ := hs
    generalize (startD e).1 = e2 at *
    have hp : powerD e2 1000 = ({ e2 with left := 1000 }, 0) := by
      unfold powerD live0 there0
      rw [s1, s3, s4]
      simp
    rw [hp]
    exact ⟨⟨s1, s3, s4, .inr (show (4 : Int) ≤ 1000 by decide)⟩, by simp only; rw [s2]; exact h2⟩
  unfold upped
  by_cases hu : upD d = true
  · rw [if_pos hu]
    exact key d hl hw (.inr hu)
  · rw [if_neg hu]
    rcases crash_pl d [] with ⟨e1, e2⟩ | ⟨e1, e2⟩
    · refine key _ (by rw [e1]; exact hl) (by rw [e2]; exact hw) (.inl ?_)
      unfold crashD there0
      split
      · rename_i hh; exact hh.2
      · rw [if_neg (by rw [hl]; decide)]
    · refine key _ (by rw [e1, thru_len2]; exact hl) (by rw [e2]; simp) (.inl ?_)
      unfold crashD there0
      split
      · rename_i hh; exact hh.2
      · rw [if_neg (by rw [hl]; decide)]
theorem new_ready : Ready (newDk 156) := ⟨List.length_replicate, rfl, rfl, .inl (by decide)⟩
theorem new_wk (n : Nat) : Wk (newDk 156) n := ⟨List.length_replicate, Nat.zero_le _⟩
end Go.Proofs.YthfolocjkpiljaaGreatDoor

namespace Go.Proofs.YthfolocjkpiljaaGreatDoor

/-- Whether so many bytes can be the chunk k of cnt. -/
def fitsC (k cnt : Int) (n : Nat) : Bool :=
  if cnt < 1 ∨ 8 < cnt ∨ k < 0 ∨ cnt ≤ k ∨ 80 < n then false else if k ≠ cnt - 1 then decide (n = 80) else (decide (0 < n) || decide (cnt = 1))
def ckB (cnt : Int) (c : List UInt8) : List UInt8 := UInt8.ofNat cnt.toNat :: c
def parseCk : List UInt8 → Nat × List UInt8 × Int
  | [] => (0, [], 120)
  | x :: c => if 80 < c.length ∨ x.toNat < 1 ∨ 8 < x.toNat then (0, [], 120) else (x.toNat, c, 0)
theorem parse_ck {cnt : Int} {c : List UInt8} (h1 : 1 ≤ cnt) (h2 : cnt ≤ 8) (hc : c.length ≤ 80) : parseCk (ckB cnt c) = (cnt.toNat, c, 0) := by
  have e : (UInt8.ofNat cnt.toNat).toNat = cnt.toNat := by simp; omega
  unfold ckB parseCk
  simp only
  rw [e, if_neg (by omega)]
theorem parse_ck_le (b : List UInt8) : (parseCk b).1 ≤ 8 ∧ (parseCk b).2.1.length ≤ 80 := by
  unfold parseCk
  split
  · simp
  · split
    · simp
    · simp only; omega
/-- Into how many chunks bytes are cut; which they are. -/
def numC (n : Nat) : Nat := if n = 0 then 1 else (n + 79) / 80
def pcC (b : List UInt8) (k : Nat) : List UInt8 := (b.drop (80 * k)).take 80
def splitC (b : List UInt8) : List (List UInt8) := (List.range (numC b.length)).map (pcC b)
theorem numC_le {n : Nat} (h : n ≤ 640) : 1 ≤ numC n ∧ numC n ≤ 8 := by
  unfold numC
  split <;> omega
theorem pcC_fits (b : List UInt8) {k : Nat} (hb : b.length ≤ 640) (hk : k < numC b.length) : fitsC (k : Int) (numC b.length : Nat) (pcC b k).length = true := by
  have h8 := numC_le hb
  have hl : (pcC b k).length = min 80 (b.length - 80 * k) := by unfold pcC; rw [List.length_take, List.length_drop]
  unfold fitsC
  rw [if_neg (by omega)]
  by_cases h0 : b.length = 0
  · have h1 : numC b.length = 1 := by unfold numC; rw [if_pos h0]
    rw [h1, if_neg (by omega)]
    simp
  · have h1 : numC b.length = (b.length + 79) / 80 := by unfold numC; rw [if_neg h0]
    split
    · simp; omega
    · simp; omega
theorem split_all (b : List UInt8) : (splitC b).flatten = b := by
  have key : ∀ n, ((List.range n).map (pcC b)).flatten = b.take (80 * n) := by
    intro n
    induction n with
    | zero => simp
    | succ n ih =>
      rw [List.range_succ, List.map_append, List.flatten_append, ih]
      simp only [List.map_cons, List.map_nil, List.flatten_cons, List.flatten_nil, List.append_nil, pcC]
      rw [show 80 * (n + 1) = 80 * n + 80 by omega, List.take_add]
  unfold splitC
  rw [key, List.take_of_length_le]
  unfold numC
  split <;> omega
/-- Manifests. -/
def manB (idx area cnt : Int) : List UInt8 := le 6 idx.toNat ++ [UInt8.ofNat area.toNat, UInt8.ofNat cnt.toNat]
def mayMan (idx area cnt : Int) : Prop := 1 ≤ idx ∧ idx ≤ 1099511627752 ∧ 0 ≤ area ∧ area ≤ 1 ∧ 1 ≤ cnt ∧ cnt ≤ 8
/-- A manifest's index, area and count as they are read; the error. -/
def parseMan (b : List UInt8) : (Int × Int × Int) × Int :=
  if b.length ≠ 8 then ((0, 0, 0), 130) else
  if (getN b 0 6 : Int) < 1 ∨ 1099511627752 < (getN b 0 6 : Int) ∨ 1 < (b.getD 6 0).toNat ∨ (b.getD 7 0).toNat < 1 ∨ 8 < (b.getD 7 0).toNat then ((0, 0, 0), 130) else
  (((getN b 0 6 : Nat), ((b.getD 6 0).toNat : Nat), ((b.getD 7 0).toNat : Nat)), 0)
theorem manB_len (idx area cnt : Int) : (manB idx area cnt).length = 8 := by simp [manB, le_len]
theorem parse_man {idx area cnt : Int} (h : mayMan idx area cnt) : parseMan (manB idx area cnt) = ((idx, area, cnt), 0) := by
  obtain ⟨h1, h2, h3, h4, h5, h6⟩ := h
  have hg : getN (manB idx area cnt) 0 6 = idx.toNat := getN_of (pre := []) (post := [UInt8.ofNat area.toNat, UInt8.ofNat cnt.toNat]) (by simp [manB]) rfl (by omega)
  have hl6 : (le 6 idx.toNat).length = 6 := le_len 6 _
  have g6 : (manB idx area cnt).getD 6 0 = UInt8.ofNat area.toNat := by
    unfold manB
    rw [List.getD_eq_getElem?_getD, List.getElem?_append_right (by omega), hl6]
    rfl
  have g7 : (manB idx area cnt).getD 7 0 = UInt8.ofNat cnt.toNat := by
    unfold manB
    rw [List.getD_eq_getElem?_getD, List.getElem?_append_right (by omega), hl6]
    rfl
  have e6 : (UInt8.ofNat area.toNat).toNat = area.toNat := by simp; omega
  have e7 : (UInt8.ofNat cnt.toNat).toNat = cnt.toNat := by simp; omega
  unfold parseMan
  rw [if_neg (by rw [manB_len]; simp), hg, g6, g7, e6, e7, if_neg (by omega), Int.toNat_of_nonneg (by omega), Int.toNat_of_nonneg (by omega), Int.toNat_of_nonneg (by omega)]
end Go.Proofs.YthfolocjkpiljaaGreatDoor

