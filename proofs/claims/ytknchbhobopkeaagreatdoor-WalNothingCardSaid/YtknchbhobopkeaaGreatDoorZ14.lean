/- Texts that the claim leans on, part 14: D40, D41, X5, X6, X7, X8, X9, D42. -/
import Derived.Test.YtknchbhobopkeaaGreatDoorZ1
import Derived.Test.YtknchbhobopkeaaGreatDoorZ2
import Derived.Test.YtknchbhobopkeaaGreatDoorZ3
import Derived.Test.YtknchbhobopkeaaGreatDoorZ4
import Derived.Test.YtknchbhobopkeaaGreatDoorZ5
import Derived.Test.YtknchbhobopkeaaGreatDoorZ6
import Derived.Test.YtknchbhobopkeaaGreatDoorZ7
import Derived.Test.YtknchbhobopkeaaGreatDoorZ8
import Derived.Test.YtknchbhobopkeaaGreatDoorZ9
import Derived.Test.YtknchbhobopkeaaGreatDoorZ10
import Derived.Test.YtknchbhobopkeaaGreatDoorZ11
import Derived.Test.YtknchbhobopkeaaGreatDoorZ12
import Derived.Test.YtknchbhobopkeaaGreatDoorZ13
import Derived.Test.YtknchbhobopkeaaGreatDoorRows
import Derived.WalkKit
import Derived.WalkSpells
import Derived.WalkLawsBesides
import Derived.Handy
import Derived.Deep.QuietTactic
import Derived.BigQuiet
import Derived.Deep.DeepCutAuto
import Derived.Lib.Hide
import Derived.RegionTactic
import Derived.ChangeAlike
import Derived.Laws.ResultCell
import Derived.Outline
import Derived.Laws.IdiomStrings
import Derived.Laws.BytesArg
import Derived.IntWalk
import Derived.LoopN
import Derived.ChangeSlices
import Derived.ProofKit
import Derived.Deep.Slices
import Derived.Deep.Strs
import Derived.OpenShut
import Derived.Lib.SmallJoins
import Derived.Laws.MakeOwn
import Derived.Lib.SliceRun
import Derived.Laws.BitsAllLaws
import Derived.Great.BuildSlice
import Derived.Great.FillDense
import Derived.Laws.Rows
import Derived.Deep.Quiet
import Derived.Deep.RegionHeld3
import Derived.Lib.AppendStr
import Derived.Laws.Strings
import Derived.Laws.CopyOwn
import Derived.Laws.CopyRow
import Derived.Laws.NewBlocks
import Derived.Deep.RegionLaw
namespace Go.Proofs.YtknchbhobopkeaaGreatDoor
open Go.RowKit
def sameC (c x : Cp) : Bool := decide (c.st = x.st) && (decide (c.tg.idx = x.tg.idx) && decide (c.body = x.body))
def ceA (g : Nat) (rep reg : Int) (s0 : Nat) (t0 : Tg) (v0 : Value) (s1 : Nat) (t1 : Tg) (v1 : Value) : Array Value :=
  #[.pointer (some ⟨g, 0, none⟩), .int .i64 rep, .int .i64 reg, .int .u8 (s0 : Int), .int .i64 t0.rep, .int .i64 t0.reg, .int .i64 t0.pla, .int .i64 t0.idx, .int .i64 t0.inc, v0,
    .int .u8 (s1 : Int), .int .i64 t1.rep, .int .i64 t1.reg, .int .i64 t1.pla, .int .i64 t1.idx, .int .i64 t1.inc, v1]
section
variable {w : World} {q g : Nat} {rep reg : Int} {s0 s1 : Nat} {t0 t1 : Tg} {v0 v1 : Value}
end
def cpA (s0 : Nat) (t0 : Tg) (v0 : Value) (s1 : Nat) (t1 : Tg) (v1 : Value) : Array Value :=
  #[.int .u8 (s0 : Int), .int .i64 t0.rep, .int .i64 t0.reg, .int .i64 t0.pla, .int .i64 t0.idx, .int .i64 t0.inc, v0,
    .int .u8 (s1 : Int), .int .i64 t1.rep, .int .i64 t1.reg, .int .i64 t1.pla, .int .i64 t1.idx, .int .i64 t1.inc, v1]
section
variable {w : World} {q : Nat} {T : TypeId} {s0 s1 : Nat} {t0 t1 : Tg} {v0 v1 : Value}
end
end Go.Proofs.YtknchbhobopkeaaGreatDoor
namespace Go.Proofs.YtknchbhobopkeaaGreatDoor
open Go.RowKit
end Go.Proofs.YtknchbhobopkeaaGreatDoor
namespace Go.Proofs.YtknchbhobopkeaaGreatDoor
structure Live (d : Dk) : Prop where
  len : d.pl.length = 156
  w : d.waits = []
  dn : d.down = false
  de : d.dead = false
section
variable {d : Dk} {t : Tg} {body : List UInt8} {k : Nat}
theorem live_at (h : Live d) (hk : k < 156) : liveD d k = 0 := by
  unfold liveD thereD
  rw [h.len, h.dn, h.de]
  simp
  omega
end
abbrev Vo := Option (Int × Int × List UInt8)
def okO : Vo → Prop
  | none => True
  | some (v, i, b) => 1 ≤ v ∧ v ≤ 1099511627776 ∧ 1 ≤ i ∧ i ≤ 1099511627776 ∧ b.length ≤ 43
def frO (reg : Int) (i : Int) : Vo → List UInt8
  | none => zeros64
  | some (v, c, b) => sealF ⟨0, reg, i, v, c⟩ b 64
def verO : Vo → Int
  | none => 0
  | some (v, _, _) => v
def bodO : Vo → List UInt8
  | none => []
  | some (_, _, b) => b
structure Cel (d : Dk) (reg : Int) (o0 o1 : Vo) : Prop where
  r : reg = 1 ∨ reg = 2
  k0 : okO o0
  k1 : okO o1
  p0 : ∃ m, d.pl[(firstN reg 0).toNat]? = some ⟨frO reg 0 o0, m, false⟩
  p1 : ∃ m, d.pl[(firstN reg 1).toNat]? = some ⟨frO reg 1 o1, m, false⟩
def coO (reg i : Int) : Vo → Cp
  | none => ⟨0, zeroTg, []⟩
  | some (v, c, b) => ⟨1, ⟨0, reg, i, v, c⟩, b⟩
def maxO (o0 o1 : Vo) : Vo := if verO o0 < verO o1 then o1 else o0
end Go.Proofs.YtknchbhobopkeaaGreatDoor
namespace Go.Proofs.YtknchbhobopkeaaGreatDoor
section
variable {d : Dk} {k j : Nat}
theorem read_live (h : Live d) (hj : j < 156) : readD d j = match d.pl[j]? with | none => ([], 2) | some p => if p.lost = true then ([], 50) else (p.rest, 0) := by
  unfold readD
  rw [live_at h hj, h.w]
  rfl
end
def putP (d : Dk) (k : Nat) (f : List UInt8) : Dk := { d with pl := d.pl.set k ⟨f, f, false⟩, waits := [], left := (if 0 < d.left then d.left - 2 else d.left) }
/-! Places of a cell. -/
def secC (reg : Int) (i : Nat) : Nat := (if reg = 1 then 0 else 2) + i
theorem sec_first {reg : Int} (hr : reg = 1 ∨ reg = 2) {i : Nat} (hi : i < 2) : firstN reg (i : Int) = ((secC reg i : Nat) : Int) ∧ secC reg i < 4 := by
  rcases hr with rfl | rfl <;> rcases (show i = 0 ∨ i = 1 by omega) with rfl | rfl <;> decide
def cop (d : Dk) (rep reg : Int) (i : Nat) : Cp := ⟨(mineF (readD d (secC reg i)).1 rep reg i).1, (mineF (readD d (secC reg i)).1 rep reg i).2.1, (mineF (readD d (secC reg i)).1 rep reg i).2.2⟩
theorem copy_cop {d : Dk} {rep reg : Int} (hr : reg = 1 ∨ reg = 2) : copyC d rep reg 0 = cop d rep reg 0 ∧ copyC d rep reg 1 = cop d rep reg 1 := by
  have a := (sec_first hr (i := 0) (by omega)).1
  have b := (sec_first hr (i := 1) (by omega)).1
  constructor
  · unfold copyC cop
    rw [← a]
    rfl
  · unfold copyC cop
    rw [← b]
    rfl
theorem cop_frame {d : Dk} {rep reg v c : Int} {b : List UInt8} {i : Nat} {e : Int} (h : readD d (secC reg i) = (sealF ⟨rep, reg, i, v, c⟩ b 64, e)) (hm : mayTg ⟨rep, reg, i, v, c⟩ = true) (hb : b.length ≤ 43) : cop d rep reg i = ⟨1, ⟨rep, reg, i, v, c⟩, b⟩ := by
  unfold cop
  rw [h]
  simp only
  have := mine_seal (n := 64) hm (by decide) (show b.length ≤ roomN 64 from hb)
  simp only at this
  rw [this]
theorem cop_zero {d : Dk} {rep reg : Int} {i : Nat} {e : Int} (h : readD d (secC reg i) = (zeros64, e)) : cop d rep reg i = ⟨0, zeroTg, []⟩ := by
  unfold cop
  rw [h]
  rfl
theorem may_cell2 {rep reg v c : Int} {i : Nat} (hp : 0 ≤ rep ∧ rep ≤ 6) (hr : reg = 1 ∨ reg = 2) (hi : i < 2) (h1 : 0 ≤ v) (h2 : v ≤ 1099511627776) (h3 : 1 ≤ c) (h4 : c ≤ 1099511627776) : mayTg ⟨rep, reg, i, v, c⟩ = true := by
  have hpl : placesN reg = 2 := by rcases hr with rfl | rfl <;> rfl
  have a2 : ((i : Nat) : Int) < 2 := by omega
  simp [mayTg, hpl, hp.1, hp.2, a2, h1, h2, h3, h4]
theorem open_live {d : Dk} {rep reg : Int} (h : Live d) (hp : 0 ≤ rep ∧ rep ≤ 6) (hr : reg = 1 ∨ reg = 2) : openC d rep reg = 0 := by
  have hu : upD d = true := by unfold upD; rw [h.len, h.dn, h.de]; rfl
  unfold openC
  rw [h.len, hu]
  have a : ¬ rep < 0 := by omega
  have b : ¬ 7 ≤ rep := by omega
  rcases hr with rfl | rfl <;> simp [a, b]
theorem load_live {d : Dk} {rep reg : Int} (h : Live d) (hp : 0 ≤ rep ∧ rep ≤ 6) (hr : reg = 1 ∨ reg = 2) : loadC d rep reg = if (loadedC (cop d rep reg 0) (cop d rep reg 1)).2.1 = false then (0, [], (loadedC (cop d rep reg 0) (cop d rep reg 1)).2.2) else ((pickC (cop d rep reg 0) (cop d rep reg 1)).tg.idx, (pickC (cop d rep reg 0) (cop d rep reg 1)).body, 0) := by
  unfold loadC
  rw [open_live h hp hr, (copy_cop hr).1, (copy_cop hr).2]
  simp
/-! A store: where there is power for all of it. -/
def firstP (c0 c1 : Cp) : Nat := if (loadedC c0 c1).2.1 = true then 1 - (loadedC c0 c1).1 else 0
section
variable {d : Dk} {rep reg inc : Int} {body : List UInt8}
end
end Go.Proofs.YtknchbhobopkeaaGreatDoor
namespace Go.Proofs.YtknchbhobopkeaaGreatDoor
def rdP (pl : List Pl) (j : Nat) : List UInt8 × Int := match pl[j]? with | none => ([], 2) | some p => if p.lost = true then ([], 50) else (p.rest, 0)
theorem rd_live {d : Dk} {j : Nat} (h : Live d) (hj : j < 156) : readD d j = rdP d.pl j := read_live h hj
theorem rd_set {pl : List Pl} {k : Nat} (f : List UInt8) (hk : k < pl.length) (j : Nat) : rdP (pl.set k ⟨f, f, false⟩) j = if j = k then (f, 0) else rdP pl j := by
  unfold rdP
  by_cases e : j = k
  · subst e
    simp [List.getElem?_set_self hk]
  · rw [if_neg e, List.getElem?_set_ne (Ne.symm e)]
def anew (d : Dk) (keep : List Bool) : Dk := ⟨thruD d.pl d.waits 0 (keepB keep), [], false, false, -1⟩
section
variable {d : Dk} {rep reg inc v : Int} {body : List UInt8}
def fraC (rep reg v inc : Int) (body : List UInt8) (i : Nat) : List UInt8 := sealF ⟨rep, reg, i, v, inc⟩ body 64
def twoP (d : Dk) (rep reg v inc : Int) (body : List UInt8) (f : Nat) : Dk × Int :=
  if (putC d ⟨rep, reg, (f : Nat), v, inc⟩ body).2 ≠ 0 then putC d ⟨rep, reg, (f : Nat), v, inc⟩ body else putC (putC d ⟨rep, reg, (f : Nat), v, inc⟩ body).1 ⟨rep, reg, ((1 - f : Nat) : Int), v, inc⟩ body
end
end Go.Proofs.YtknchbhobopkeaaGreatDoor
namespace Go.Proofs.YtknchbhobopkeaaGreatDoor
def coR (rep reg : Int) (i : Nat) : Vo → Cp
  | none => ⟨0, zeroTg, []⟩
  | some (v, c, b) => ⟨1, ⟨rep, reg, i, v, c⟩, b⟩
def badCp : Cp := ⟨2, zeroTg, []⟩
/-! What counts of two copies. -/
section
variable {rep reg : Int} {o p : Vo}
theorem loaded_same (o : Vo) : loadedC (coR rep reg 0 o) (coR rep reg 1 o) = (0, o.isSome, 0) ∧ pickC (coR rep reg 0 o) (coR rep reg 1 o) = coR rep reg 0 o ∧ firstP (coR rep reg 0 o) (coR rep reg 1 o) = (if o.isSome = true then 1 else 0) := by
  match o with
  | none => exact ⟨rfl, rfl, rfl⟩
  | some (v, c, b) =>
    have h1 : loadedC (coR rep reg 0 (some (v, c, b))) (coR rep reg 1 (some (v, c, b))) = (0, true, 0) := by simp [loadedC, overC, coR]
    refine ⟨h1, ?_, ?_⟩
    · unfold pickC
      rw [h1]
      simp
    · unfold firstP
      rw [h1]
      simp
end
structure Both (d : Dk) (rep reg : Int) (o : Vo) : Prop where
  ok : okO o
  c0 : cop d rep reg 0 = coR rep reg 0 o
  c1 : cop d rep reg 1 = coR rep reg 1 o
theorem both_load {d : Dk} {rep reg : Int} {o : Vo} (h : Live d) (hp : 0 ≤ rep ∧ rep ≤ 6) (hr : reg = 1 ∨ reg = 2) (hB : Both d rep reg o) : loadC d rep reg = (verO o, bodO o, 0) := by
  obtain ⟨e1, e2, _⟩ := loaded_same (rep := rep) (reg := reg) o
  rw [load_live h hp hr, hB.c0, hB.c1, e1, e2]
  match o with
  | none => rfl
  | some (v, c, b) => rfl
section
variable {d : Dk} {rep reg inc : Int} {body : List UInt8} {o : Vo}
def nextO (o : Vo) (inc : Int) (body : List UInt8) : Vo := some (verO o + 1, inc, body)
theorem cop_fra {d : Dk} {v : Int} {i : Nat} {e : Int} (hp : 0 ≤ rep ∧ rep ≤ 6) (hr : reg = 1 ∨ reg = 2) (hi2 : i < 2) (h0 : 0 ≤ v) (h1 : v ≤ 1099511627776) (hi : 1 ≤ inc ∧ inc ≤ 1099511627776) (hb : body.length ≤ 43) (h : readD d (secC reg i) = (fraC rep reg v inc body i, e)) : cop d rep reg i = coR rep reg i (some (v, inc, body)) :=
  cop_frame h (may_cell2 hp hr hi2 h0 h1 hi.1 hi.2) hb
end
end Go.Proofs.YtknchbhobopkeaaGreatDoor
namespace Go.Proofs.YtknchbhobopkeaaGreatDoor
def frR (rep reg : Int) (i : Nat) : Vo → List UInt8
  | none => zeros64
  | some (v, c, b) => fraC rep reg v c b i
structure Fr (d : Dk) (rep reg : Int) (o : Vo) : Prop where
  ok : okO o
  r0 : readD d (secC reg 0) = (frR rep reg 0 o, 0)
  r1 : readD d (secC reg 1) = (frR rep reg 1 o, 0)
section
variable {d d' : Dk} {rep reg inc : Int} {body : List UInt8} {o o' : Vo}
theorem cop_fr {i : Nat} {e : Int} (hp : 0 ≤ rep ∧ rep ≤ 6) (hr : reg = 1 ∨ reg = 2) (hi : i < 2) (ho : okO o) (h : readD d (secC reg i) = (frR rep reg i o, e)) : cop d rep reg i = coR rep reg i o := by
  match o, ho, h with
  | none, _, h => exact cop_zero h
  | some (v, c, b), ⟨h1, h2, h3, h4, h5⟩, h => exact cop_fra hp hr hi (by omega) h2 ⟨h3, h4⟩ h5 h
theorem Fr.both (h : Fr d rep reg o) (hp : 0 ≤ rep ∧ rep ≤ 6) (hr : reg = 1 ∨ reg = 2) : Both d rep reg o := ⟨h.ok, cop_fr hp hr (by omega) h.ok h.r0, cop_fr hp hr (by omega) h.ok h.r1⟩
theorem Fr.same (h : Fr d rep reg o) (h0 : readD d' (secC reg 0) = readD d (secC reg 0)) (h1 : readD d' (secC reg 1) = readD d (secC reg 1)) : Fr d' rep reg o := ⟨h.ok, h0.trans h.r0, h1.trans h.r1⟩
theorem Fr.load (h : Fr d rep reg o) (hL : Live d) (hp : 0 ≤ rep ∧ rep ≤ 6) (hr : reg = 1 ∨ reg = 2) : loadC d rep reg = (verO o, bodO o, 0) := both_load hL hp hr (h.both hp hr)
end
end Go.Proofs.YtknchbhobopkeaaGreatDoor
namespace Go.Proofs.YtknchbhobopkeaaGreatDoor
open Go.RowKit
section
variable {B g gp : Nat} {wv : Value} {d : Dk} {w : World}
end
end Go.Proofs.YtknchbhobopkeaaGreatDoor
