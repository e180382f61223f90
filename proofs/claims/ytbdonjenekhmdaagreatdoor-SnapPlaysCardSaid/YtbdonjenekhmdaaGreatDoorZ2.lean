/- Texts that the claim leans on, part 2: X4, X5, X6, X7, X12, X13, X14, X20. -/
import Derived.Test.YtbdonjenekhmdaaGreatDoorZ1
import Derived.WalkKit
import Derived.WalkSpells
import Derived.WalkLawsBesides
import Derived.Handy
import Derived.Lib.Hide
import Derived.ProofKit
import Derived.Deep.QuietTactic
import Derived.OpenShut
import Derived.Deep.RegionHeld
import Derived.Laws.CopyOwn
import Derived.Laws.CopyRow
import Derived.Laws.NewBlocks
import Derived.Deep.RegionLaw
import Derived.Test.YtbdonjenekhmdaaGreatDoorRows
import Derived.BigQuiet
import Derived.Deep.DeepCutAuto
import Derived.RegionTactic
import Derived.ChangeAlike
namespace Go.Proofs.YtbdonjenekhmdaaGreatDoor
structure Pl where
 rest : List UInt8
 meant : List UInt8
 lost : Bool
structure Dk where
 pl : List Pl
 waits : List (List UInt8 × Nat)
 down : Bool
 dead : Bool
 left : Int
def zeros64 : List UInt8 := List.replicate 64 0
def zeroPl : Pl := ⟨zeros64, zeros64, false⟩
def newDk (n : Nat) : Dk := ⟨List.replicate n zeroPl, [], false, false, -1⟩
/-! The errors of a call: 1 nobody made it, 2 an argument, 5 down, 50 lost. -/
def thereD (d : Dk) (s : Int) : Int := if d.pl.length = 0 then 1 else if s < 0 ∨ (d.pl.length : Int) ≤ s then 2 else 0
def there0 (d : Dk) : Int := if d.pl.length = 0 then 1 else 0
def liveD (d : Dk) (s : Int) : Int := if 0 < d.pl.length ∧ (d.down = true ∨ d.dead = true) then 5 else thereD d s
def live0 (d : Dk) : Int := if 0 < d.pl.length ∧ (d.down = true ∨ d.dead = true) then 5 else there0 d
def spendD (d : Dk) : Dk × Int := if d.left = 0 then ({ d with dead := true }, 5) else if 0 < d.left then ({ d with left := d.left - 1 }, 0) else (d, 0)
def powerD (d : Dk) (n : Int) : Dk × Int := if live0 d ≠ 0 then (d, live0 d) else if n < 0 then (d, 2) else ({ d with left := n }, 0)
def lastW : List (List UInt8 × Nat) → Nat → Option (List UInt8)
 | [], _ => none
 | (b, k) :: l, s => match lastW l s with
  | some x => some x
  | none => if k = s then some b else none
def readD (d : Dk) (s : Int) : List UInt8 × Int :=
 if liveD d s ≠ 0 then ([], liveD d s) else
 match lastW d.waits s.toNat with
 | some b => (b, 0)
 | none => match d.pl[s.toNat]? with
  | none => ([], 2)
  | some p => if p.lost = true then ([], 50) else (p.rest, 0)
def writeD (d : Dk) (s : Int) (b : List UInt8) : Dk × Int :=
 if liveD d s ≠ 0 then (d, liveD d s) else
 if b.length ≠ 64 then (d, 2) else
 if (spendD d).2 ≠ 0 then spendD d else ({ (spendD d).1 with waits := (spendD d).1.waits ++ [(b, s.toNat)] }, 0)
def thruD : List Pl → List (List UInt8 × Nat) → Nat → (Nat → Bool) → List Pl
 | pl, [], _, _ => pl
 | pl, (b, s) :: l, k, is => thruD (if is k = true then pl.set s ⟨b, b, false⟩ else pl) l (k + 1) is
def flushD (d : Dk) : Dk × Int :=
 if live0 d ≠ 0 then (d, live0 d) else
 if (spendD d).2 ≠ 0 then spendD d else ({ (spendD d).1 with pl := thruD (spendD d).1.pl (spendD d).1.waits 0 (fun _ => true), waits := [] }, 0)
def keepB (keep : List Bool) (k : Nat) : Bool := keep.getD k false
def crashD (d : Dk) (keep : List Bool) : Dk × Int :=
 if 0 < d.pl.length ∧ d.down = true then (d, 5) else
 if there0 d ≠ 0 then (d, there0 d) else ({ d with pl := thruD d.pl d.waits 0 (keepB keep), waits := [], down := true }, 0)
def startD (d : Dk) : Dk × Int :=
 if there0 d ≠ 0 then (d, there0 d) else if d.down = false then (d, 2) else ({ d with down := false, dead := false, left := -1 }, 0)
def upD (d : Dk) : Bool := decide (0 < d.pl.length) && (!d.down && !d.dead)
def turnBit (l : List UInt8) (bit : Nat) : List UInt8 := l.set (bit / 8) (UInt8.ofNat ((l.getD (bit / 8) 0).toNat ^^^ 2 ^ (bit % 8)))
def flipD (d : Dk) (s bit : Int) : Dk × Int :=
 if thereD d s ≠ 0 then (d, thereD d s) else if bit < 0 then (d, 2) else
 ({ d with pl := d.pl.modify s.toNat (fun p => { p with rest := turnBit p.rest (bit.toNat % 512) }) }, 0)
def loseD (d : Dk) (s : Int) : Dk × Int :=
 if thereD d s ≠ 0 then (d, thereD d s) else ({ d with pl := d.pl.modify s.toNat (fun p => { p with lost := true }) }, 0)
def strayD (d : Dk) (s t : Int) : Dk × Int :=
 if thereD d s ≠ 0 then (d, thereD d s) else if thereD d t ≠ 0 then (d, thereD d t) else
 ({ d with pl := d.pl.modify t.toNat (fun p => { p with rest := (d.pl.getD s.toNat zeroPl).rest, lost := (d.pl.getD s.toNat zeroPl).lost }) }, 0)
def restD (d : Dk) (s : Int) : List UInt8 × Bool × Int :=
 if thereD d s ≠ 0 then ([], false, thereD d s) else
 if (d.pl.getD s.toNat zeroPl).lost = true then ([], true, 0) else ((d.pl.getD s.toNat zeroPl).rest, false, 0)
def meantD (d : Dk) (s : Int) : List UInt8 × Int := if thereD d s ≠ 0 then ([], thereD d s) else ((d.pl.getD s.toNat zeroPl).meant, 0)
/-! The cell. -/
structure Cp where
 st : Nat
 tg : Tg
 body : List UInt8
def overC (c x : Cp) : Bool := decide (c.st = 1) && (decide (x.st ≠ 1) || decide (x.tg.idx < c.tg.idx))
def copyC (d : Dk) (rep reg : Int) (i : Int) : Cp := ⟨(mineF (readD d (firstN reg i)).1 rep reg i).1, (mineF (readD d (firstN reg i)).1 rep reg i).2.1, (mineF (readD d (firstN reg i)).1 rep reg i).2.2⟩
def openC (d : Dk) (rep reg : Int) : Int :=
 if d.pl.length = 0 then 1 else if d.pl.length < 156 ∨ (reg ≠ 1 ∧ reg ≠ 2) ∨ rep < 0 ∨ 7 ≤ rep then 2 else if upD d = false then 5 else 0
def loadedC (c0 c1 : Cp) : Nat × Bool × Int :=
 if overC c1 c0 = true then (1, true, 0) else if c0.st = 1 then (0, true, 0) else if c0.st = 0 ∨ c1.st = 0 then (0, false, 0) else (0, false, 70)
theorem over_good {c x : Cp} (h : overC c x = true) : c.st = 1 := by
 simp only [overC, Bool.and_eq_true, decide_eq_true_eq] at h
 exact h.1
def pickC (c0 c1 : Cp) : Cp := if (loadedC c0 c1).1 = 1 then c1 else c0
def loadC (d : Dk) (rep reg : Int) : Int × List UInt8 × Int :=
 if openC d rep reg ≠ 0 then (0, [], openC d rep reg) else
 if (loadedC (copyC d rep reg 0) (copyC d rep reg 1)).2.1 = false then (0, [], (loadedC (copyC d rep reg 0) (copyC d rep reg 1)).2.2) else
 ((pickC (copyC d rep reg 0) (copyC d rep reg 1)).tg.idx, (pickC (copyC d rep reg 0) (copyC d rep reg 1)).body, 0)
def putC (d : Dk) (t : Tg) (body : List UInt8) : Dk × Int :=
 if (writeD d (firstN t.reg t.pla) (sealF t body 64)).2 ≠ 0 then writeD d (firstN t.reg t.pla) (sealF t body 64) else
 flushD (writeD d (firstN t.reg t.pla) (sealF t body 64)).1
def storeC (d : Dk) (rep reg inc : Int) (body : List UInt8) : Dk × Int :=
 if openC d rep reg ≠ 0 ∧ openC d rep reg ≠ 5 then (d, openC d rep reg) else
 if inc < 1 ∨ 1099511627776 < inc then (d, 2) else
 if 43 < body.length then (d, 3) else
 if openC d rep reg ≠ 0 then (d, openC d rep reg) else
 let ld := loadedC (copyC d rep reg 0) (copyC d rep reg 1)
 if ld.2.2 ≠ 0 then (d, ld.2.2) else
 let version := (pickC (copyC d rep reg 0) (copyC d rep reg 1)).tg.idx + 1
 if 1099511627776 < version then (d, 4) else
 let first : Int := if ld.2.1 = true then 1 - (ld.1 : Int) else 0
 let r := putC d ⟨rep, reg, first, version, inc⟩ body
 if r.2 ≠ 0 then r else putC r.1 ⟨rep, reg, 1 - first, version, inc⟩ body
def healC (d : Dk) (rep reg : Int) : Dk × Int :=
 if openC d rep reg ≠ 0 then (d, openC d rep reg) else
 let c0 := copyC d rep reg 0
 let c1 := copyC d rep reg 1
 let ld := loadedC c0 c1
 if ld.2.1 = false then (d, ld.2.2) else
 let x := if ld.1 = 1 then c1 else c0
 let y := if ld.1 = 1 then c0 else c1
 if x.st = y.st ∧ x.tg.idx = y.tg.idx ∧ x.body = y.body then (d, 0) else
 putC d ⟨rep, reg, 1 - (ld.1 : Int), x.tg.idx, x.tg.inc⟩ x.body
end Go.Proofs.YtbdonjenekhmdaaGreatDoor
namespace Go.Proofs.YtbdonjenekhmdaaGreatDoor
structure Live (d : Dk) : Prop where
 len : d.pl.length = 156
 w : d.waits = []
 dn : d.down = false
 de : d.dead = false
section
variable {d : Dk} {t : Tg} {body : List UInt8} {k : Nat}
theorem seal64 (t : Tg) {body : List UInt8} (hb : body.length ≤ 43) : (sealF t body 64).length = 64 := sealF_len (by decide) (by simpa [roomN] using hb)
end
abbrev Vo := Option (Int × Int × List UInt8)
def okO : Vo → Prop
 | none => True
 | some (v, i, b) => 1 ≤ v ∧ v ≤ 1099511627776 ∧ 1 ≤ i ∧ i ≤ 1099511627776 ∧ b.length ≤ 43
def frO (reg : Int) (i : Int) : Vo → List UInt8
 | none => zeros64
 | some (v, c, b) => sealF ⟨0, reg, i, v, c⟩ b 64
def verO : Vo → Int
 | none => 0
 | some (v, _, _) => v
def bodO : Vo → List UInt8
 | none => []
 | some (_, _, b) => b
structure Cel (d : Dk) (reg : Int) (o0 o1 : Vo) : Prop where
 r : reg = 1 ∨ reg = 2
 k0 : okO o0
 k1 : okO o1
 p0 : ∃ m, d.pl[(firstN reg 0).toNat]? = some ⟨frO reg 0 o0, m, false⟩
 p1 : ∃ m, d.pl[(firstN reg 1).toNat]? = some ⟨frO reg 1 o1, m, false⟩
def coO (reg i : Int) : Vo → Cp
 | none => ⟨0, zeroTg, []⟩
 | some (v, c, b) => ⟨1, ⟨0, reg, i, v, c⟩, b⟩
def maxO (o0 o1 : Vo) : Vo := if verO o0 < verO o1 then o1 else o0
end Go.Proofs.YtbdonjenekhmdaaGreatDoor
namespace Go.Proofs.YtbdonjenekhmdaaGreatDoor
section
variable {d : Dk} {k j : Nat}
end
def putP (d : Dk) (k : Nat) (f : List UInt8) : Dk := { d with pl := d.pl.set k ⟨f, f, false⟩, waits := [], left := (if 0 < d.left then d.left - 2 else d.left) }
/-! Places of a cell. -/
def secC (reg : Int) (i : Nat) : Nat := (if reg = 1 then 0 else 2) + i
theorem sec_first {reg : Int} (hr : reg = 1 ∨ reg = 2) {i : Nat} (hi : i < 2) : firstN reg (i : Int) = ((secC reg i : Nat) : Int) ∧ secC reg i < 4 := by
 rcases hr with rfl | rfl <;> rcases (show i = 0 ∨ i = 1 by omega) with rfl | rfl <;> decide
def cop (d : Dk) (rep reg : Int) (i : Nat) : Cp := ⟨(mineF (readD d (secC reg i)).1 rep reg i).1, (mineF (readD d (secC reg i)).1 rep reg i).2.1, (mineF (readD d (secC reg i)).1 rep reg i).2.2⟩
theorem copy_cop {d : Dk} {rep reg : Int} (hr : reg = 1 ∨ reg = 2) : copyC d rep reg 0 = cop d rep reg 0 ∧ copyC d rep reg 1 = cop d rep reg 1 := by
 have a := (sec_first hr (i := 0) (by omega)).1
 have b := (sec_first hr (i := 1) (by omega)).1
 constructor
 ·unfold copyC cop
  rw [← a]
  rfl
 ·unfold copyC cop
  rw [← b]
  rfl
theorem cop_frame {d : Dk} {rep reg v c : Int} {b : List UInt8} {i : Nat} {e : Int} (h : readD d (secC reg i) = (sealF ⟨rep, reg, i, v, c⟩ b 64, e)) (hm : mayTg ⟨rep, reg, i, v, c⟩ = true) (hb : b.length ≤ 43) : cop d rep reg i = ⟨1, ⟨rep, reg, i, v, c⟩, b⟩ := by
 unfold cop
 rw [h]
 simp only
 have := mine_seal (n := 64) hm (by decide) (show b.length ≤ roomN 64 from hb)
 simp only at this
 rw [this]
theorem cop_zero {d : Dk} {rep reg : Int} {i : Nat} {e : Int} (h : readD d (secC reg i) = (zeros64, e)) : cop d rep reg i = ⟨0, zeroTg, []⟩ := by
 unfold cop
 rw [h]
 rfl
theorem may_cell2 {rep reg v c : Int} {i : Nat} (hp : 0 ≤ rep ∧ rep ≤ 6) (hr : reg = 1 ∨ reg = 2) (hi : i < 2) (h1 : 0 ≤ v) (h2 : v ≤ 1099511627776) (h3 : 1 ≤ c) (h4 : c ≤ 1099511627776) : mayTg ⟨rep, reg, i, v, c⟩ = true := by
 have hpl : placesN reg = 2 := by rcases hr with rfl | rfl <;> rfl
 have a2 : ((i : Nat) : Int) < 2 := by omega
 simp [mayTg, hpl, hp.1, hp.2, a2, h1, h2, h3, h4]
theorem open_live {d : Dk} {rep reg : Int} (h : Live d) (hp : 0 ≤ rep ∧ rep ≤ 6) (hr : reg = 1 ∨ reg = 2) : openC d rep reg = 0 := by
 have hu : upD d = true := by unfold upD; rw [h.len, h.dn, h.de]; rfl
 unfold openC
 rw [h.len, hu]
 have a : ¬ rep < 0 := by omega
 have b : ¬ 7 ≤ rep := by omega
 rcases hr with rfl | rfl <;> simp [a, b]
theorem load_live {d : Dk} {rep reg : Int} (h : Live d) (hp : 0 ≤ rep ∧ rep ≤ 6) (hr : reg = 1 ∨ reg = 2) : loadC d rep reg = if (loadedC (cop d rep reg 0) (cop d rep reg 1)).2.1 = false then (0, [], (loadedC (cop d rep reg 0) (cop d rep reg 1)).2.2) else ((pickC (cop d rep reg 0) (cop d rep reg 1)).tg.idx, (pickC (cop d rep reg 0) (cop d rep reg 1)).body, 0) := by
 unfold loadC
 rw [open_live h hp hr, (copy_cop hr).1, (copy_cop hr).2]
 simp
/-! A store: where there is power for all of it. -/
def firstP (c0 c1 : Cp) : Nat := if (loadedC c0 c1).2.1 = true then 1 - (loadedC c0 c1).1 else 0
theorem loaded_lt (c0 c1 : Cp) : (loadedC c0 c1).1 < 2 := by
 unfold loadedC
 split
 ·simp
 ·split
  ·simp
  ·split <;> simp
section
variable {d : Dk} {rep reg inc : Int} {body : List UInt8}
end
end Go.Proofs.YtbdonjenekhmdaaGreatDoor
namespace Go.Proofs.YtbdonjenekhmdaaGreatDoor
def rdP (pl : List Pl) (j : Nat) : List UInt8 × Int := match pl[j]? with | none => ([], 2) | some p => if p.lost = true then ([], 50) else (p.rest, 0)
def anew (d : Dk) (keep : List Bool) : Dk := ⟨thruD d.pl d.waits 0 (keepB keep), [], false, false, -1⟩
theorem thru_len : ∀ (l : List (List UInt8 × Nat)) (pl : List Pl) (k : Nat) (is : Nat → Bool), (thruD pl l k is).length = pl.length
 | [], _, _, _ => rfl
 | (b, s) :: l, pl, k, is => by
  simp only [thruD]
  rw [thru_len l]
  split
  ·rw [List.length_set]
  ·rfl
section
variable {d : Dk} {rep reg inc v : Int} {body : List UInt8}
def fraC (rep reg v inc : Int) (body : List UInt8) (i : Nat) : List UInt8 := sealF ⟨rep, reg, i, v, inc⟩ body 64
def twoP (d : Dk) (rep reg v inc : Int) (body : List UInt8) (f : Nat) : Dk × Int :=
 if (putC d ⟨rep, reg, (f : Nat), v, inc⟩ body).2 ≠ 0 then putC d ⟨rep, reg, (f : Nat), v, inc⟩ body else putC (putC d ⟨rep, reg, (f : Nat), v, inc⟩ body).1 ⟨rep, reg, ((1 - f : Nat) : Int), v, inc⟩ body
end
end Go.Proofs.YtbdonjenekhmdaaGreatDoor
namespace Go.Proofs.YtbdonjenekhmdaaGreatDoor
def hurtB (d : Dk) (s : Int) : Bool := decide ((restD d s).2.2 = 0) && ((restD d s).2.1 || !decide ((restD d s).1 = (meantD d s).1))
def rangeI (f t : Nat) : List Int := (List.range' f (t - f)).map (fun (s : Nat) => (s : Int))
def hurtsL (d : Dk) (f t : Nat) : List Int := (rangeI f t).filter (hurtB d)
def askN (n : Nat) (rep reg pla : Int) : Int := if n = 0 then 1 else if n < 156 ∨ rep < 0 ∨ 7 ≤ rep ∨ firstN reg pla < 0 then 2 else 0
def askG (d : Dk) (rep reg pla : Int) : Int := askN d.pl.length rep reg pla
def allG (f : Int → List UInt8) (a n : Nat) : List UInt8 := (List.range n).flatMap (fun (k : Nat) => f ((a + k : Nat) : Int))
def goneG (d : Dk) (a n : Nat) : Bool := (List.range n).any (fun (k : Nat) => (restD d ((a + k : Nat) : Int)).2.1)
def isHurt (d : Dk) (a n : Nat) : Bool := !(hurtsL d a (a + n)).isEmpty
def allR (d : Dk) (a n : Nat) : List UInt8 := allG (fun s => (restD d s).1) a n
def allM (d : Dk) (a n : Nat) : List UInt8 := allG (fun s => (meantD d s).1) a n
def placeG (d : Dk) (rep reg pla : Int) : Bool × Bool × Int :=
 if askG d rep reg pla ≠ 0 then (false, false, askG d rep reg pla) else
 (isHurt d (firstN reg pla).toNat (wideN reg).toNat, isHurt d (firstN reg pla).toNat (wideN reg).toNat && (goneG d (firstN reg pla).toNat (wideN reg).toNat || decide ((mineF (allR d (firstN reg pla).toNat (wideN reg).toNat) rep reg pla).1 = 2)), 0)
def honG (d : Dk) (rep reg pla : Int) : (Nat × Tg × List UInt8) × Int :=
 if askG d rep reg pla ≠ 0 then ((0, zeroTg, []), askG d rep reg pla) else
 (mineF (allM d (firstN reg pla).toNat (wideN reg).toNat) rep reg pla, 0)
def seenP (d : Dk) (rep : Int) (reg : Nat) (n : Nat) : Bool := (List.range n).all (fun (p : Nat) => (placeG d rep reg p).1 == (placeG d rep reg p).2.1)
def seenR (d : Dk) (rep : Int) (n : Nat) : Bool := (List.range n).all (fun (r : Nat) => seenP d rep (r + 1) (placesN ((r + 1 : Nat) : Int)).toNat)
def seenG (d : Dk) (rep : Int) : Bool × Int := if askG d rep 1 0 ≠ 0 then (false, askG d rep 1 0) else (seenR d rep 5, 0)
end Go.Proofs.YtbdonjenekhmdaaGreatDoor
namespace Go.Proofs.YtbdonjenekhmdaaGreatDoor
/-! Without faults nothing is hurt. -/
def CleanL (l : List Pl) : Prop := ∀ p ∈ l, p.rest = p.meant ∧ p.lost = false
theorem spend_pl (d : Dk) : (spendD d).1.pl = d.pl ∧ (spendD d).1.waits = d.waits := by
 unfold spendD
 split
 ·exact ⟨rfl, rfl⟩
 ·split <;> exact ⟨rfl, rfl⟩
theorem write_pl (d : Dk) (s : Int) (b : List UInt8) : (writeD d s b).1.pl = d.pl ∧ (writeD d s b).1.waits.length ≤ d.waits.length + 1 := by
 obtain ⟨h1, h2⟩ := spend_pl d
 unfold writeD
 split
 ·exact ⟨rfl, by simp⟩
 ·split
  ·exact ⟨rfl, by simp⟩
  ·split
   ·exact ⟨h1, by rw [h2]; omega⟩
   ·exact ⟨h1, by simp [h2]⟩
theorem flush_pl (d : Dk) : ((flushD d).1.pl = d.pl ∧ (flushD d).1.waits = d.waits) ∨ ((flushD d).1.pl = thruD d.pl d.waits 0 (fun _ => true) ∧ (flushD d).1.waits = []) := by
 obtain ⟨h1, h2⟩ := spend_pl d
 unfold flushD
 split
 ·exact .inl ⟨rfl, rfl⟩
 ·split
  ·exact .inl ⟨h1, h2⟩
  ·exact .inr ⟨by simp [h1, h2], rfl⟩
theorem crash_pl (d : Dk) (keep : List Bool) : ((crashD d keep).1.pl = d.pl ∧ (crashD d keep).1.waits = d.waits) ∨ ((crashD d keep).1.pl = thruD d.pl d.waits 0 (keepB keep) ∧ (crashD d keep).1.waits = []) := by
 unfold crashD
 split
 ·exact .inl ⟨rfl, rfl⟩
 ·split
  ·exact .inl ⟨rfl, rfl⟩
  ·exact .inr ⟨rfl, rfl⟩
theorem start_pl (d : Dk) : (startD d).1.pl = d.pl ∧ (startD d).1.waits = d.waits := by
 unfold startD
 split
 ·exact ⟨rfl, rfl⟩
 ·split <;> exact ⟨rfl, rfl⟩
theorem power_pl (d : Dk) (n : Int) : (powerD d n).1.pl = d.pl ∧ (powerD d n).1.waits = d.waits := by
 unfold powerD
 split
 ·exact ⟨rfl, rfl⟩
 ·split <;> exact ⟨rfl, rfl⟩
/-! Acts. -/
def sectorL (n : Int) (bytes : List UInt8) : List UInt8 := if 0 < bytes.length then bytes else List.replicate 64 (UInt8.ofNat (n % 256).toNat)
def do5 (d : Dk) (k : Nat) (s n : Int) (bytes : List UInt8) (keep : List Bool) : Dk × Int :=
 if k % 9 = 0 then flushD d else if k % 9 = 1 then crashD d keep else if k % 9 = 2 then startD d else if k % 9 = 3 then flipD d s n else if k % 9 = 4 then loseD d s else if k % 9 = 5 then strayD d s n else if k % 9 = 8 then powerD d n else writeD d s (sectorL n bytes)
structure Wk (d : Dk) (n : Nat) : Prop where
 len : d.pl.length = 156
 wt : d.waits.length ≤ n
theorem thru_len2 (pl : List Pl) (ws : List (List UInt8 × Nat)) (k : Nat) (is : Nat → Bool) : (thruD pl ws k is).length = pl.length := thru_len ws pl k is
theorem Wk.of {d d' : Dk} {n : Nat} (h : Wk d n) (h1 : d'.pl.length = d.pl.length) (h2 : d'.waits.length ≤ d.waits.length + 1) : Wk d' (n + 1) := ⟨h1.trans h.len, by have := h.wt; omega⟩
theorem flip_pl (d : Dk) (s n : Int) : (flipD d s n).1.pl.length = d.pl.length ∧ (flipD d s n).1.waits = d.waits ∧ ∀ j : Int, meantD (flipD d s n).1 j = meantD d j := by
 unfold flipD
 split
 ·exact ⟨rfl, rfl, fun _ => rfl⟩
 ·split
  ·exact ⟨rfl, rfl, fun _ => rfl⟩
  ·refine ⟨by simp, rfl, fun j => ?_⟩
   unfold meantD thereD
   simp only [List.length_modify, List.getD_eq_getElem?_getD, List.getElem?_modify]
   congr 2
   cases hj : d.pl[j.toNat]? with
   | none => rfl
   | some p => by_cases he : s.toNat = j.toNat <;> simp [he]
theorem lose_pl (d : Dk) (s : Int) : (loseD d s).1.pl.length = d.pl.length ∧ (loseD d s).1.waits = d.waits ∧ ∀ j : Int, meantD (loseD d s).1 j = meantD d j := by
 unfold loseD
 split
 ·exact ⟨rfl, rfl, fun _ => rfl⟩
 ·refine ⟨by simp, rfl, fun j => ?_⟩
  unfold meantD thereD
  simp only [List.length_modify, List.getD_eq_getElem?_getD, List.getElem?_modify]
  congr 2
  cases hj : d.pl[j.toNat]? with
  | none => rfl
  | some p => by_cases he : s.toNat = j.toNat <;> simp [he]
theorem stray_pl (d : Dk) (s t : Int) : (strayD d s t).1.pl.length = d.pl.length ∧ (strayD d s t).1.waits = d.waits ∧ ∀ j : Int, meantD (strayD d s t).1 j = meantD d j := by
 unfold strayD
 split
 ·exact ⟨rfl, rfl, fun _ => rfl⟩
 ·split
  ·exact ⟨rfl, rfl, fun _ => rfl⟩
  ·refine ⟨by simp, rfl, fun j => ?_⟩
   unfold meantD thereD
   simp only [List.length_modify, List.getD_eq_getElem?_getD, List.getElem?_modify]
   congr 2
   cases hj : d.pl[j.toNat]? with
   | none => rfl
   | some p => by_cases he : t.toNat = j.toNat <;> simp [he]
theorem do5_wk {d : Dk} {m : Nat} (h : Wk d m) (k : Nat) (s n : Int) (bytes : List UInt8) (keep : List Bool) : Wk (do5 d k s n bytes keep).1 (m + 1) := by
 unfold do5
 split
 ·rcases flush_pl d with ⟨h1, h2⟩ | ⟨h1, h2⟩
  ·exact h.of (by rw [h1]) (by rw [h2]; omega)
  ·exact h.of (by rw [h1, thru_len2]) (by rw [h2]; simp)
 ·split
  ·rcases crash_pl d keep with ⟨h1, h2⟩ | ⟨h1, h2⟩
   ·exact h.of (by rw [h1]) (by rw [h2]; omega)
   ·exact h.of (by rw [h1, thru_len2]) (by rw [h2]; simp)
  ·split
   ·obtain ⟨h1, h2⟩ := start_pl d
    exact h.of (by rw [h1]) (by rw [h2]; omega)
   ·split
    ·obtain ⟨h1, h2, _⟩ := flip_pl d s n
     exact h.of h1 (by rw [h2]; omega)
    ·split
     ·obtain ⟨h1, h2, _⟩ := lose_pl d s
      exact h.of h1 (by rw [h2]; omega)
     ·split
      ·obtain ⟨h1, h2, _⟩ := stray_pl d s n
       exact h.of h1 (by rw [h2]; omega)
      ·split
       ·obtain ⟨h1, h2⟩ := power_pl d n
        exact h.of (by rw [h1]) (by rw [h2]; omega)
       ·obtain ⟨h1, h2⟩ := write_pl d s (sectorL n bytes)
        exact h.of (by rw [h1]) h2
end Go.Proofs.YtbdonjenekhmdaaGreatDoor
namespace Go.Proofs.YtbdonjenekhmdaaGreatDoor
/-! Acts that came in. -/
structure A5 where
 kind : Nat
 sec : Int
 n : Int
 ba : Option Addr
 bytes : List UInt8
 bc : Nat
 ka : Option Addr
 keep : List Bool
 kc : Nat
structure A6 where
 sl : Bool
 tg : Tg
 oa : Option Addr
 body : List UInt8
 oc : Nat
 dk : A5
def do5A (d : Dk) (x : A5) : Dk × Int := do5 d x.kind x.sec x.n x.bytes x.keep
def wideT (t : Tg) : Nat := if mayTg t = true then (wideN t.reg).toNat else 0
def sealR (t : Tg) (body : List UInt8) (n : Nat) : List UInt8 := if mayTg t = true ∧ roomN (64 * n) ≠ 0 ∧ body.length ≤ roomN (64 * n) then sealF t body (64 * n) else []
def sealE (t : Tg) (body : List UInt8) (n : Nat) : Int := if mayTg t = false ∨ roomN (64 * n) = 0 then 2 else if roomN (64 * n) < body.length then 3 else 0
def pcD (b : List UInt8) (k : Nat) : List UInt8 := (b.drop (64 * k)).take 64
def putsD (d : Dk) (f : Int) (b : List UInt8) : Nat → Dk
 | 0 => d
 | k + 1 => (writeD (putsD d f b k) (f + k) (pcD b k)).1
def do6 (d : Dk) (x : A6) : Dk := if x.sl = false then (do5A d x.dk).1 else putsD d (firstN x.tg.reg x.tg.pla) (sealR x.tg x.body (wideT x.tg)) ((sealR x.tg x.body (wideT x.tg)).length / 64)
def fault (x : A6) : Bool := !x.sl && (decide (3 ≤ x.dk.kind % 9) && decide (x.dk.kind % 9 ≤ 5))
theorem wideN_le (r : Int) : 0 ≤ wideN r ∧ wideN r ≤ 2 := by
 unfold wideN
 repeat' split
 all_goals omega
theorem wideT_le (t : Tg) : wideT t ≤ 2 := by
 unfold wideT
 split
 ·have := wideN_le t.reg; omega
 ·omega
theorem wide_may {t : Tg} (h : mayTg t = true) : (wideT t : Int) = wideN t.reg ∧ 1 ≤ wideT t ∧ wideT t ≤ 2 := by
 obtain ⟨h1, h2, _⟩ := mayTg_small h
 have h3 := wideN_le t.reg
 have h4 : 1 ≤ wideN t.reg := by
  have hr : t.reg = 1 ∨ t.reg = 2 ∨ t.reg = 3 ∨ t.reg = 4 ∨ t.reg = 5 := by omega
  unfold wideN
  rcases hr with h | h | h | h | h <;> rw [h] <;> decide
 unfold wideT
 rw [if_pos h]
 omega
theorem sealR_len (t : Tg) (body : List UInt8) (n : Nat) : (sealR t body n).length = 64 * n ∧ (n = 1 ∨ n = 2) ∧ sealE t body n = 0 ∨ (sealR t body n).length = 0 ∧ sealE t body n ≠ 0 := by
 unfold sealR sealE
 by_cases h1 : mayTg t = true
 ·by_cases h2 : roomN (64 * n) = 0
  ·rw [if_neg (by simp [h2]), if_pos (.inr h2)]
   exact .inr ⟨rfl, by decide⟩
  ·by_cases h3 : body.length ≤ roomN (64 * n)
   ·rw [if_pos ⟨h1, h2, h3⟩, if_neg (by simp [h1, h2]), if_neg (by omega)]
    have hn := (roomN_of (n := 64 * n) (by omega)).1
    exact .inl ⟨sealF_len (by omega) h3, by omega, rfl⟩
   ·rw [if_neg (by omega), if_neg (by simp [h1, h2]), if_pos (by omega)]
    exact .inr ⟨rfl, by decide⟩
 ·rw [if_neg (by simp [h1]), if_pos (.inl (by simpa using h1))]
  exact .inr ⟨rfl, by decide⟩
theorem sealR_le (t : Tg) (body : List UInt8) (n : Nat) : (sealR t body n).length ≤ 128 ∧ (sealR t body n).length / 64 ≤ 2 := by
 rcases sealR_len t body n with ⟨h, h2, _⟩ | ⟨h, _⟩ <;> omega
theorem puts_pl (d : Dk) (f : Int) (b : List UInt8) : ∀ k, (putsD d f b k).pl = d.pl ∧ (putsD d f b k).waits.length ≤ d.waits.length + k
 | 0 => ⟨rfl, by simp [putsD]⟩
 | k + 1 => by
  obtain ⟨h1, h2⟩ := puts_pl d f b k
  obtain ⟨h3, h4⟩ := write_pl (putsD d f b k) (f + k) (pcD b k)
  exact ⟨h3.trans h1, by show (writeD (putsD d f b k) (f + k) (pcD b k)).1.waits.length ≤ _; omega⟩
theorem do6_wk {d : Dk} {m : Nat} (h : Wk d m) (x : A6) : Wk (do6 d x) (m + 2) := by
 unfold do6
 split
 ·have := do5_wk h x.dk.kind x.dk.sec x.dk.n x.dk.bytes x.dk.keep
  exact ⟨this.len, by have := this.wt; unfold do5A; omega⟩
 ·obtain ⟨h1, h2⟩ := puts_pl d (firstN x.tg.reg x.tg.pla) (sealR x.tg x.body (wideT x.tg)) ((sealR x.tg x.body (wideT x.tg)).length / 64)
  exact ⟨by rw [h1]; exact h.len, by have := h.wt; have := (sealR_le x.tg x.body (wideT x.tg)).2; omega⟩
/-! A frame that is put. -/
structure Ready (d : Dk) : Prop where
 len : d.pl.length = 156
 dn : d.down = false
 de : d.dead = false
 lf : d.left < 0 ∨ 4 ≤ d.left
structure Held (d : Dk) (f : Nat) (b : List UInt8) (n : Nat) : Prop where
 len : d.pl.length = 156
 at_ : ∀ k, k < n → d.pl[f + k]? = some ⟨pcD b k, pcD b k, false⟩
theorem there_of {d : Dk} {j : Nat} (hl : d.pl.length = 156) (hj : j < 156) : thereD d (j : Int) = 0 := by
 unfold thereD
 rw [if_neg (by omega), if_neg (by omega)]
def MeantIs (d : Dk) (f : Nat) (b : List UInt8) (n : Nat) : Prop := ∀ k, k < n → meantD d ((f + k : Nat) : Int) = (pcD b k, 0)
theorem Held.meant {d : Dk} {f n : Nat} {b : List UInt8} (h : Held d f b n) (h3 : f + n ≤ 156) : MeantIs d f b n := fun k hk => by
 unfold meantD
 rw [there_of h.len (by omega), if_neg (by decide), Int.toNat_natCast, List.getD_eq_getElem?_getD, h.at_ k hk]
 rfl
theorem place_of {t : Tg} (h : mayTg t = true) : ∃ f : Nat, firstN t.reg t.pla = f ∧ f + wideT t ≤ 156 ∧ ∀ d : Dk, d.pl.length = 156 → askG d t.rep t.reg t.pla = 0 := by
 obtain ⟨h1, h2, h3, h4, _⟩ := mayTg_parts h
 obtain ⟨g1, g2, g3⟩ := mayTg_small h
 obtain ⟨w1, w2, w3⟩ := wide_may h
 have hp : 0 < placesN t.reg := by omega
 have hf : firstN t.reg t.pla = startN t.reg + t.pla * wideN t.reg := by unfold firstN; rw [if_neg (by omega)]
 have h0 : 0 ≤ firstN t.reg t.pla ∧ firstN t.reg t.pla + wideN t.reg ≤ 156 := by
  rw [hf]
  have hr : t.reg = 1 ∨ t.reg = 2 ∨ t.reg = 3 ∨ t.reg = 4 ∨ t.reg = 5 := by omega
  rcases hr with h | h | h | h | h <;> rw [h] at h4 ⊢ <;> simp [placesN, startN, wideN] at h4 ⊢ <;> omega
 refine ⟨(firstN t.reg t.pla).toNat, by omega, by omega, fun d hd => ?_⟩
 unfold askG askN
 rw [hd, if_neg (by decide), if_neg (by omega)]
/-! A disk that is got up anew. -/
def upped (d : Dk) : Dk := (powerD (startD (if upD d = true then d else (crashD d []).1)).1 1000).1
end Go.Proofs.YtbdonjenekhmdaaGreatDoor
namespace Go.Proofs.YtbdonjenekhmdaaGreatDoor
def fitsC (k cnt : Int) (n : Nat) : Bool :=
 if cnt < 1 ∨ 8 < cnt ∨ k < 0 ∨ cnt ≤ k ∨ 80 < n then false else if k ≠ cnt - 1 then decide (n = 80) else (decide (0 < n) || decide (cnt = 1))
def ckB (cnt : Int) (c : List UInt8) : List UInt8 := UInt8.ofNat cnt.toNat :: c
def parseCk : List UInt8 → Nat × List UInt8 × Int
 | [] => (0, [], 120)
 | x :: c => if 80 < c.length ∨ x.toNat < 1 ∨ 8 < x.toNat then (0, [], 120) else (x.toNat, c, 0)
theorem parse_ck_le (b : List UInt8) : (parseCk b).1 ≤ 8 ∧ (parseCk b).2.1.length ≤ 80 := by
 unfold parseCk
 split
 ·simp
 ·split
  ·simp
  ·simp only; omega
def numC (n : Nat) : Nat := if n = 0 then 1 else (n + 79) / 80
def pcC (b : List UInt8) (k : Nat) : List UInt8 := (b.drop (80 * k)).take 80
def splitC (b : List UInt8) : List (List UInt8) := (List.range (numC b.length)).map (pcC b)
theorem numC_le {n : Nat} (h : n ≤ 640) : 1 ≤ numC n ∧ numC n ≤ 8 := by
 unfold numC
 split <;> omega
def manB (idx area cnt : Int) : List UInt8 := le 6 idx.toNat ++ [UInt8.ofNat area.toNat, UInt8.ofNat cnt.toNat]
def mayMan (idx area cnt : Int) : Prop := 1 ≤ idx ∧ idx ≤ 1099511627752 ∧ 0 ≤ area ∧ area ≤ 1 ∧ 1 ≤ cnt ∧ cnt ≤ 8
def parseMan (b : List UInt8) : (Int × Int × Int) × Int :=
 if b.length ≠ 8 then ((0, 0, 0), 130) else
 if (getN b 0 6 : Int) < 1 ∨ 1099511627752 < (getN b 0 6 : Int) ∨ 1 < (b.getD 6 0).toNat ∨ (b.getD 7 0).toNat < 1 ∨ 8 < (b.getD 7 0).toNat then ((0, 0, 0), 130) else
 (((getN b 0 6 : Nat), ((b.getD 6 0).toNat : Nat), ((b.getD 7 0).toNat : Nat)), 0)
theorem manB_len (idx area cnt : Int) : (manB idx area cnt).length = 8 := by simp [manB, le_len]
end Go.Proofs.YtbdonjenekhmdaaGreatDoor
