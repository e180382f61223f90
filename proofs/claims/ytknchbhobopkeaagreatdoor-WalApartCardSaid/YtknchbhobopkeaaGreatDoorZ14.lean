/- Texts that the claim leans on, part 14: D40, D41, X5, X6, X7, X8, X9, D42. -/
import Derived.Test.YtknchbhobopkeaaGreatDoorZ1
import Derived.Test.YtknchbhobopkeaaGreatDoorZ2
import Derived.Test.YtknchbhobopkeaaGreatDoorZ3
import Derived.Test.YtknchbhobopkeaaGreatDoorZ4
import Derived.Test.YtknchbhobopkeaaGreatDoorZ5
import Derived.Test.YtknchbhobopkeaaGreatDoorZ6
import Derived.Test.YtknchbhobopkeaaGreatDoorZ7
import Derived.Test.YtknchbhobopkeaaGreatDoorZ8
import Derived.Test.YtknchbhobopkeaaGreatDoorZ9
import Derived.Test.YtknchbhobopkeaaGreatDoorZ10
import Derived.Test.YtknchbhobopkeaaGreatDoorZ11
import Derived.Test.YtknchbhobopkeaaGreatDoorZ12
import Derived.Test.YtknchbhobopkeaaGreatDoorZ13
import Derived.Test.YtknchbhobopkeaaGreatDoorRows
import Derived.WalkKit
import Derived.WalkSpells
import Derived.WalkLawsBesides
import Derived.Handy
import Derived.Deep.QuietTactic
import Derived.BigQuiet
import Derived.Deep.DeepCutAuto
import Derived.Lib.Hide
import Derived.RegionTactic
import Derived.ChangeAlike
import Derived.Laws.ResultCell
import Derived.Outline
import Derived.Laws.IdiomStrings
import Derived.Laws.BytesArg
import Derived.IntWalk
import Derived.LoopN
import Derived.ChangeSlices
import Derived.ProofKit
import Derived.Deep.Slices
import Derived.Deep.Strs
import Derived.OpenShut
import Derived.Lib.SmallJoins
import Derived.Laws.MakeOwn
import Derived.Lib.SliceRun
import Derived.Laws.BitsAllLaws
import Derived.Great.BuildSlice
import Derived.Great.FillDense
import Derived.Laws.Rows
import Derived.Deep.Quiet
import Derived.Deep.RegionHeld3
import Derived.Lib.AppendStr
import Derived.Laws.Strings
import Derived.Laws.CopyOwn
import Derived.Laws.CopyRow
import Derived.Laws.NewBlocks
import Derived.Deep.RegionLaw
namespace Go.Proofs.YtknchbhobopkeaaGreatDoor
open Go.RowKit
def sameC (c x : Cp) : Bool := decide (c.st = x.st) && (decide (c.tg.idx = x.tg.idx) && decide (c.body = x.body))
def ceA (g : Nat) (rep reg : Int) (s0 : Nat) (t0 : Tg) (v0 : Value) (s1 : Nat) (t1 : Tg) (v1 : Value) : Array Value :=
  #[.pointer (some ⟨g, 0, none⟩), .int .i64 rep, .int .i64 reg, .int .u8 (s0 : Int), .int .i64 t0.rep, .int .i64 t0.reg, .int .i64 t0.pla, .int .i64 t0.idx, .int .i64 t0.inc, v0,
    .int .u8 (s1 : Int), .int .i64 t1.rep, .int .i64 t1.reg, .int .i64 t1.pla, .int .i64 t1.idx, .int .i64 t1.inc, v1]
section
variable {w : World} {q g : Nat} {rep reg : Int} {s0 s1 : Nat} {t0 t1 : Tg} {v0 v1 : Value}
end
theorem ceA_ld0 (g : Nat) (rep reg : Int) (s0 : Nat) (t0 : Tg) (v0 : Value) (s1 : Nat) (t1 : Tg) (v1 : Value) : 3 + 7 ≤ (ceA g rep reg s0 t0 v0 s1 t1 v1).size ∧ (ceA g rep reg s0 t0 v0 s1 t1 v1).extract 3 (3 + 7) = coA s0 t0 v0 := ⟨by show _ ≤ 17; omega, rfl⟩
theorem ceA_ld1 (g : Nat) (rep reg : Int) (s0 : Nat) (t0 : Tg) (v0 : Value) (s1 : Nat) (t1 : Tg) (v1 : Value) : 10 + 7 ≤ (ceA g rep reg s0 t0 v0 s1 t1 v1).size ∧ (ceA g rep reg s0 t0 v0 s1 t1 v1).extract 10 (10 + 7) = coA s1 t1 v1 := ⟨by show _ ≤ 17; omega, rfl⟩
def cpA (s0 : Nat) (t0 : Tg) (v0 : Value) (s1 : Nat) (t1 : Tg) (v1 : Value) : Array Value :=
  #[.int .u8 (s0 : Int), .int .i64 t0.rep, .int .i64 t0.reg, .int .i64 t0.pla, .int .i64 t0.idx, .int .i64 t0.inc, v0,
    .int .u8 (s1 : Int), .int .i64 t1.rep, .int .i64 t1.reg, .int .i64 t1.pla, .int .i64 t1.idx, .int .i64 t1.inc, v1]
theorem ceA_ldp (g : Nat) (rep reg : Int) (s0 : Nat) (t0 : Tg) (v0 : Value) (s1 : Nat) (t1 : Tg) (v1 : Value) : 3 + 14 ≤ (ceA g rep reg s0 t0 v0 s1 t1 v1).size ∧ (ceA g rep reg s0 t0 v0 s1 t1 v1).extract 3 (3 + 14) = cpA s0 t0 v0 s1 t1 v1 := ⟨by show _ ≤ 17; omega, rfl⟩
section
variable {w : World} {q : Nat} {T : TypeId} {s0 s1 : Nat} {t0 t1 : Tg} {v0 v1 : Value}
theorem cpA_0 (h : w.heap[q]? = some (.cells (cpA s0 t0 v0 s1 t1 v1) T (0, 0))) : w.cell? ⟨q, 0, none⟩ = some (.int .u8 (s0 : Int)) := blk_cell h 0 _ rfl
theorem cpA_7 (h : w.heap[q]? = some (.cells (cpA s0 t0 v0 s1 t1 v1) T (0, 0))) : w.cell? ⟨q, 7, none⟩ = some (.int .u8 (s1 : Int)) := blk_cell h 7 _ rfl
end
end Go.Proofs.YtknchbhobopkeaaGreatDoor
namespace Go.Proofs.YtknchbhobopkeaaGreatDoor
open Go.RowKit
theorem cpA_new (s0 : Nat) (t0 : Tg) (a0 : Option Addr) (n0 k0 : Nat) (s1 : Nat) (t1 : Tg) (a1 : Option Addr) (n1 k1 : Nat) : (Value.agg (cpA s0 t0 (.slice a0 n0 k0) s1 t1 (.slice a1 n1 k1))).cells = cpA s0 t0 (.slice a0 n0 k0) s1 t1 (.slice a1 n1 k1) ∧ (cpA s0 t0 (.slice a0 n0 k0) s1 t1 (.slice a1 n1 k1)).size = 14 ∧ ∀ u ∈ (cpA s0 t0 (.slice a0 n0 k0) s1 t1 (.slice a1 n1 k1)).toList, u.oneCell' = true :=
  ⟨rfl, rfl, by simp [cpA, Value.oneCell']⟩
end Go.Proofs.YtknchbhobopkeaaGreatDoor
namespace Go.Proofs.YtknchbhobopkeaaGreatDoor
structure Live (d : Dk) : Prop where
  len : d.pl.length = 156
  w : d.waits = []
  dn : d.down = false
  de : d.dead = false
section
variable {d : Dk} {t : Tg} {body : List UInt8} {k : Nat}
theorem live_at (h : Live d) (hk : k < 156) : liveD d k = 0 := by
  unfold liveD thereD
  rw [h.len, h.dn, h.de]
  simp
  omega
theorem live_0 (h : Live d) : live0 d = 0 := by
  unfold live0 there0
  rw [h.len, h.dn, h.de]
  simp
theorem seal64 (t : Tg) {body : List UInt8} (hb : body.length ≤ 43) : (sealF t body 64).length = 64 := sealF_len (by decide) (by simpa [roomN] using hb)
theorem put_0 (h : Live d) (hl : d.left = 0) (hk : firstN t.reg t.pla = (k : Int)) (hk2 : k < 156) (hb : body.length ≤ 43) : putC d t body = ({ d with dead := true }, 5) := by
  have h1 : spendD d = ({ d with dead := true }, 5) := by unfold spendD; rw [if_pos hl]
  have h2 : writeD d k (sealF t body 64) = ({ d with dead := true }, 5) := by
    unfold writeD
    rw [live_at h hk2, seal64 t hb, h1]
    simp
  unfold putC
  rw [hk, h2]
  simp
theorem write_go {d : Dk} (h : Live d) (hl : d.left ≠ 0) (hk2 : k < 156) (hb : body.length ≤ 43) : writeD d k (sealF t body 64) = ({ d with left := (if 0 < d.left then d.left - 1 else d.left), waits := [(sealF t body 64, k)] }, 0) := by
  unfold writeD
  rw [live_at h hk2, seal64 t hb]
  simp only [ne_eq, not_true, if_false]
  unfold spendD
  rw [if_neg hl]
  split
  · simp [h.w]
  · simp [h.w]
theorem put_1 (h : Live d) (hl : d.left = 1) (hk : firstN t.reg t.pla = (k : Int)) (hk2 : k < 156) (hb : body.length ≤ 43) : putC d t body = ({ d with left := 0, waits := [(sealF t body 64, k)], dead := true }, 5) := by
  unfold putC
  rw [hk, write_go h (by omega) hk2 hb, hl]
  simp only [ne_eq, not_true, if_false]
  unfold flushD
  have : live0 ({ d with left := (if (0 : Int) < 1 then 1 - 1 else 1), waits := [(sealF t body 64, k)] } : Dk) = 0 := by
    unfold live0 there0
    simp [h.len, h.dn, h.de]
  rw [this]
  simp [spendD]
theorem put_n (h : Live d) (h0 : d.left ≠ 0) (h1 : d.left ≠ 1) (hk : firstN t.reg t.pla = (k : Int)) (hk2 : k < 156) (hb : body.length ≤ 43) : putC d t body = ({ d with pl := d.pl.set k ⟨sealF t body 64, sealF t body 64, false⟩, waits := [], left := (if 0 < d.left then d.left - 2 else d.left) }, 0) := by
  unfold putC
  rw [hk, write_go h h0 hk2 hb]
  simp only [ne_eq, not_true, if_false]
  unfold flushD
  have : live0 ({ d with left := (if 0 < d.left then d.left - 1 else d.left), waits := [(sealF t body 64, k)] } : Dk) = 0 := by
    unfold live0 there0
    simp [h.len, h.dn, h.de]
  rw [this]
  unfold spendD
  simp only [ne_eq, not_true, if_false]
  by_cases hl : 0 < d.left
  · have h2 : ¬ d.left - 1 = 0 := by omega
    have h4 : d.left - 1 - 1 = d.left - 2 := by omega
    have h5 : 1 < d.left := by omega
    simp [hl, h2, h4, h5, thruD]
  · simp [hl, h0, thruD]
end
abbrev Vo := Option (Int × Int × List UInt8)
def okO : Vo → Prop
  | none => True
  | some (v, i, b) => 1 ≤ v ∧ v ≤ 1099511627776 ∧ 1 ≤ i ∧ i ≤ 1099511627776 ∧ b.length ≤ 43
def frO (reg : Int) (i : Int) : Vo → List UInt8
  | none => zeros64
  | some (v, c, b) => sealF ⟨0, reg, i, v, c⟩ b 64
def verO : Vo → Int
  | none => 0
  | some (v, _, _) => v
def bodO : Vo → List UInt8
  | none => []
  | some (_, _, b) => b
structure Cel (d : Dk) (reg : Int) (o0 o1 : Vo) : Prop where
  r : reg = 1 ∨ reg = 2
  k0 : okO o0
  k1 : okO o1
  p0 : ∃ m, d.pl[(firstN reg 0).toNat]? = some ⟨frO reg 0 o0, m, false⟩
  p1 : ∃ m, d.pl[(firstN reg 1).toNat]? = some ⟨frO reg 1 o1, m, false⟩
def coO (reg i : Int) : Vo → Cp
  | none => ⟨0, zeroTg, []⟩
  | some (v, c, b) => ⟨1, ⟨0, reg, i, v, c⟩, b⟩
theorem may_cell {reg i v c : Int} (hr : reg = 1 ∨ reg = 2) (hi : i = 0 ∨ i = 1) (h1 : 1 ≤ v) (h2 : v ≤ 1099511627776) (h3 : 1 ≤ c) (h4 : c ≤ 1099511627776) : mayTg ⟨0, reg, i, v, c⟩ = true := by
  have hp : placesN reg = 2 := by rcases hr with rfl | rfl <;> rfl
  have a1 : 0 ≤ i := by omega
  have a2 : i < 2 := by omega
  have a3 : 0 ≤ v := by omega
  simp [mayTg, hp, a1, a2, a3, h2, h3, h4]
theorem mine_fr {reg i : Int} {o : Vo} (hr : reg = 1 ∨ reg = 2) (hi : i = 0 ∨ i = 1) (h : okO o) : mineF (frO reg i o) 0 reg i = ((coO reg i o).st, (coO reg i o).tg, (coO reg i o).body) := by
  match o, h with
  | none, _ => rfl
  | some (v, c, b), ⟨h1, h2, h3, h4, h5⟩ => exact mine_seal (may_cell hr hi h1 h2 h3 h4) (by decide) (by simpa [roomN] using h5)
theorem first_cell {reg i : Int} (hr : reg = 1 ∨ reg = 2) (hi : i = 0 ∨ i = 1) : firstN reg i = (((firstN reg i).toNat : Nat) : Int) ∧ (firstN reg i).toNat < 156 := by
  rcases hr with rfl | rfl <;> rcases hi with rfl | rfl <;> decide
theorem read_cell {d : Dk} {s : Int} {f m : List UInt8} (hs : s = ((s.toNat : Nat) : Int)) (h2 : s.toNat < 156) (h : Live d) (hp : d.pl[s.toNat]? = some ⟨f, m, false⟩) : readD d s = (f, 0) := by
  have hl : liveD d s = 0 := by rw [hs]; exact live_at h h2
  unfold readD
  rw [hl, h.w, hp]
  simp [lastW]
theorem copy_cell {d : Dk} {reg : Int} {o0 o1 : Vo} (h : Live d) (hc : Cel d reg o0 o1) : copyC d 0 reg 0 = coO reg 0 o0 ∧ copyC d 0 reg 1 = coO reg 1 o1 := by
  obtain ⟨m0, e0⟩ := hc.p0
  obtain ⟨m1, e1⟩ := hc.p1
  obtain ⟨a, b⟩ := first_cell hc.r (i := 0) (.inl rfl)
  obtain ⟨a', b'⟩ := first_cell hc.r (i := 1) (.inr rfl)
  constructor
  · unfold copyC
    rw [read_cell a b h e0]
    simp only
    rw [mine_fr hc.r (.inl rfl) hc.k0]
  · unfold copyC
    rw [read_cell a' b' h e1]
    simp only
    rw [mine_fr hc.r (.inr rfl) hc.k1]
theorem open_cell {d : Dk} {reg : Int} (h : Live d) (hr : reg = 1 ∨ reg = 2) : openC d 0 reg = 0 := by
  have hu : upD d = true := by unfold upD; rw [h.len, h.dn, h.de]; rfl
  unfold openC
  rw [h.len, hu]
  rcases hr with rfl | rfl <;> simp
def maxO (o0 o1 : Vo) : Vo := if verO o0 < verO o1 then o1 else o0
theorem load_cell {d : Dk} {reg : Int} {o0 o1 : Vo} (h : Live d) (hc : Cel d reg o0 o1) : loadC d 0 reg = (verO (maxO o0 o1), bodO (maxO o0 o1), 0) := by
  obtain ⟨e0, e1⟩ := copy_cell h hc
  unfold loadC
  rw [open_cell h hc.r, e0, e1]
  have k0 := hc.k0
  have k1 := hc.k1
  match o0, o1, k0, k1 with
  | none, none, _, _ => rfl
  | some (v, c, b), none, ⟨h1, _⟩, _ =>
    have : ¬ v < 0 := by omega
    simp [loadedC, overC, coO, pickC, maxO, verO, bodO, this]
  | none, some (v, c, b), _, ⟨h1, _⟩ =>
    have : 0 < v := by omega
    simp [loadedC, overC, coO, pickC, maxO, verO, bodO, this]
  | some (v, c, b), some (v', c', b'), _, _ =>
    by_cases hv : v < v'
    · simp [loadedC, overC, coO, pickC, maxO, verO, bodO, hv]
    · simp [loadedC, overC, coO, pickC, maxO, verO, bodO, hv]
end Go.Proofs.YtknchbhobopkeaaGreatDoor
namespace Go.Proofs.YtknchbhobopkeaaGreatDoor
section
variable {d : Dk} {k j : Nat}
theorem read_live (h : Live d) (hj : j < 156) : readD d j = match d.pl[j]? with | none => ([], 2) | some p => if p.lost = true then ([], 50) else (p.rest, 0) := by
  unfold readD
  rw [live_at h hj, h.w]
  rfl
theorem live_set (h : Live d) (p : Pl) (x : Int) : Live { d with pl := d.pl.set k p, waits := [], left := x } := ⟨by simp [h.len], rfl, h.dn, h.de⟩
theorem read_set (h : Live d) (p : Pl) (x : Int) (hj : j < 156) (hk : k < 156) : readD { d with pl := d.pl.set k p, waits := [], left := x } j = if j = k then (if p.lost = true then ([], 50) else (p.rest, 0)) else readD d j := by
  rw [read_live (live_set h p x) hj, read_live h hj]
  by_cases e : j = k
  · subst e
    simp [List.getElem?_set_self (show j < d.pl.length by rw [h.len]; exact hj)]
  · rw [if_neg e]
    simp only
    rw [List.getElem?_set_ne (Ne.symm e)]
end
def putP (d : Dk) (k : Nat) (f : List UInt8) : Dk := { d with pl := d.pl.set k ⟨f, f, false⟩, waits := [], left := (if 0 < d.left then d.left - 2 else d.left) }
theorem putP_live {d : Dk} (h : Live d) (k : Nat) (f : List UInt8) : Live (putP d k f) := live_set h _ _
theorem putP_read {d : Dk} (h : Live d) {k j : Nat} (f : List UInt8) (hj : j < 156) (hk : k < 156) : readD (putP d k f) j = if j = k then (f, 0) else readD d j := by
  unfold putP
  rw [read_set h _ _ hj hk]
  rfl
theorem putP_left (d : Dk) (k : Nat) (f : List UInt8) : (putP d k f).left = if 0 < d.left then d.left - 2 else d.left := rfl
/-! Places of a cell. -/
def secC (reg : Int) (i : Nat) : Nat := (if reg = 1 then 0 else 2) + i
theorem sec_first {reg : Int} (hr : reg = 1 ∨ reg = 2) {i : Nat} (hi : i < 2) : firstN reg (i : Int) = ((secC reg i : Nat) : Int) ∧ secC reg i < 4 := by
  rcases hr with rfl | rfl <;> rcases (show i = 0 ∨ i = 1 by omega) with rfl | rfl <;> decide
def cop (d : Dk) (rep reg : Int) (i : Nat) : Cp := ⟨(mineF (readD d (secC reg i)).1 rep reg i).1, (mineF (readD d (secC reg i)).1 rep reg i).2.1, (mineF (readD d (secC reg i)).1 rep reg i).2.2⟩
theorem copy_cop {d : Dk} {rep reg : Int} (hr : reg = 1 ∨ reg = 2) : copyC d rep reg 0 = cop d rep reg 0 ∧ copyC d rep reg 1 = cop d rep reg 1 := by
  have a := (sec_first hr (i := 0) (by omega)).1
  have b := (sec_first hr (i := 1) (by omega)).1
  constructor
  · unfold copyC cop
    rw [← a]
    rfl
  · unfold copyC cop
    rw [← b]
    rfl
theorem cop_read {d d' : Dk} {rep reg : Int} {i : Nat} (h : readD d' (secC reg i) = readD d (secC reg i)) : cop d' rep reg i = cop d rep reg i := by unfold cop; rw [h]
theorem cop_frame {d : Dk} {rep reg v c : Int} {b : List UInt8} {i : Nat} {e : Int} (h : readD d (secC reg i) = (sealF ⟨rep, reg, i, v, c⟩ b 64, e)) (hm : mayTg ⟨rep, reg, i, v, c⟩ = true) (hb : b.length ≤ 43) : cop d rep reg i = ⟨1, ⟨rep, reg, i, v, c⟩, b⟩ := by
  unfold cop
  rw [h]
  simp only
  have := mine_seal (n := 64) hm (by decide) (show b.length ≤ roomN 64 from hb)
  simp only at this
  rw [this]
theorem cop_zero {d : Dk} {rep reg : Int} {i : Nat} {e : Int} (h : readD d (secC reg i) = (zeros64, e)) : cop d rep reg i = ⟨0, zeroTg, []⟩ := by
  unfold cop
  rw [h]
  rfl
theorem cop_none {d : Dk} {rep reg : Int} {i : Nat} {e : Int} (h : readD d (secC reg i) = ([], e)) : cop d rep reg i = ⟨2, zeroTg, []⟩ := by
  unfold cop
  rw [h]
  rfl
theorem may_cell2 {rep reg v c : Int} {i : Nat} (hp : 0 ≤ rep ∧ rep ≤ 6) (hr : reg = 1 ∨ reg = 2) (hi : i < 2) (h1 : 0 ≤ v) (h2 : v ≤ 1099511627776) (h3 : 1 ≤ c) (h4 : c ≤ 1099511627776) : mayTg ⟨rep, reg, i, v, c⟩ = true := by
  have hpl : placesN reg = 2 := by rcases hr with rfl | rfl <;> rfl
  have a2 : ((i : Nat) : Int) < 2 := by omega
  simp [mayTg, hpl, hp.1, hp.2, a2, h1, h2, h3, h4]
theorem open_live {d : Dk} {rep reg : Int} (h : Live d) (hp : 0 ≤ rep ∧ rep ≤ 6) (hr : reg = 1 ∨ reg = 2) : openC d rep reg = 0 := by
  have hu : upD d = true := by unfold upD; rw [h.len, h.dn, h.de]; rfl
  unfold openC
  rw [h.len, hu]
  have a : ¬ rep < 0 := by omega
  have b : ¬ 7 ≤ rep := by omega
  rcases hr with rfl | rfl <;> simp [a, b]
theorem load_live {d : Dk} {rep reg : Int} (h : Live d) (hp : 0 ≤ rep ∧ rep ≤ 6) (hr : reg = 1 ∨ reg = 2) : loadC d rep reg = if (loadedC (cop d rep reg 0) (cop d rep reg 1)).2.1 = false then (0, [], (loadedC (cop d rep reg 0) (cop d rep reg 1)).2.2) else ((pickC (cop d rep reg 0) (cop d rep reg 1)).tg.idx, (pickC (cop d rep reg 0) (cop d rep reg 1)).body, 0) := by
  unfold loadC
  rw [open_live h hp hr, (copy_cop hr).1, (copy_cop hr).2]
  simp
/-! A store: where there is power for all of it. -/
def firstP (c0 c1 : Cp) : Nat := if (loadedC c0 c1).2.1 = true then 1 - (loadedC c0 c1).1 else 0
theorem loaded_lt (c0 c1 : Cp) : (loadedC c0 c1).1 < 2 := by
  unfold loadedC
  split
  · simp
  · split
    · simp
    · split <;> simp
theorem firstP_lt (c0 c1 : Cp) : firstP c0 c1 < 2 := by unfold firstP; split <;> omega
section
variable {d : Dk} {rep reg inc : Int} {body : List UInt8}
theorem store_red (h : Live d) (hp : 0 ≤ rep ∧ rep ≤ 6) (hr : reg = 1 ∨ reg = 2) (hi : 1 ≤ inc ∧ inc ≤ 1099511627776) (hb : body.length ≤ 43) (he : (loadedC (cop d rep reg 0) (cop d rep reg 1)).2.2 = 0) (hv : (pickC (cop d rep reg 0) (cop d rep reg 1)).tg.idx + 1 ≤ 1099511627776) :
    storeC d rep reg inc body = (if (putC d ⟨rep, reg, (firstP (cop d rep reg 0) (cop d rep reg 1) : Nat), (pickC (cop d rep reg 0) (cop d rep reg 1)).tg.idx + 1, inc⟩ body).2 ≠ 0 then putC d ⟨rep, reg, (firstP (cop d rep reg 0) (cop d rep reg 1) : Nat), (pickC (cop d rep reg 0) (cop d rep reg 1)).tg.idx + 1, inc⟩ body
      else putC (putC d ⟨rep, reg, (firstP (cop d rep reg 0) (cop d rep reg 1) : Nat), (pickC (cop d rep reg 0) (cop d rep reg 1)).tg.idx + 1, inc⟩ body).1 ⟨rep, reg, ((1 - firstP (cop d rep reg 0) (cop d rep reg 1) : Nat) : Int), (pickC (cop d rep reg 0) (cop d rep reg 1)).tg.idx + 1, inc⟩ body) := by
  have hf : (if (loadedC (cop d rep reg 0) (cop d rep reg 1)).2.1 = true then 1 - ((loadedC (cop d rep reg 0) (cop d rep reg 1)).1 : Int) else 0) = ((firstP (cop d rep reg 0) (cop d rep reg 1) : Nat) : Int) := by
    have := loaded_lt (cop d rep reg 0) (cop d rep reg 1)
    unfold firstP
    split <;> omega
  have hf2 : (1 : Int) - ((firstP (cop d rep reg 0) (cop d rep reg 1) : Nat) : Int) = ((1 - firstP (cop d rep reg 0) (cop d rep reg 1) : Nat) : Int) := by
    have := firstP_lt (cop d rep reg 0) (cop d rep reg 1)
    omega
  unfold storeC
  rw [open_live h hp hr, (copy_cop hr).1, (copy_cop hr).2]
  simp only [ne_eq, not_true, false_and, if_false]
  rw [if_neg (by omega), if_neg (by omega), he]
  simp only [not_true, if_false]
  rw [if_neg (by omega), hf, hf2]
end
end Go.Proofs.YtknchbhobopkeaaGreatDoor
namespace Go.Proofs.YtknchbhobopkeaaGreatDoor
def rdP (pl : List Pl) (j : Nat) : List UInt8 × Int := match pl[j]? with | none => ([], 2) | some p => if p.lost = true then ([], 50) else (p.rest, 0)
theorem rd_live {d : Dk} {j : Nat} (h : Live d) (hj : j < 156) : readD d j = rdP d.pl j := read_live h hj
theorem rd_set {pl : List Pl} {k : Nat} (f : List UInt8) (hk : k < pl.length) (j : Nat) : rdP (pl.set k ⟨f, f, false⟩) j = if j = k then (f, 0) else rdP pl j := by
  unfold rdP
  by_cases e : j = k
  · subst e
    simp [List.getElem?_set_self hk]
  · rw [if_neg e, List.getElem?_set_ne (Ne.symm e)]
def anew (d : Dk) (keep : List Bool) : Dk := ⟨thruD d.pl d.waits 0 (keepB keep), [], false, false, -1⟩
theorem thru_len : ∀ (l : List (List UInt8 × Nat)) (pl : List Pl) (k : Nat) (is : Nat → Bool), (thruD pl l k is).length = pl.length
  | [], _, _, _ => rfl
  | (b, s) :: l, pl, k, is => by
    simp only [thruD]
    rw [thru_len l]
    split
    · rw [List.length_set]
    · rfl
theorem crash_start {d : Dk} (keep : List Bool) (hl : d.pl.length = 156) (hd : d.down = false) : (crashD d keep).2 = 0 ∧ startD (crashD d keep).1 = (anew d keep, 0) := by
  have h1 : crashD d keep = ({ d with pl := thruD d.pl d.waits 0 (keepB keep), waits := [], down := true }, 0) := by
    unfold crashD there0
    rw [hl, hd]
    simp
  rw [h1]
  refine ⟨rfl, ?_⟩
  unfold startD there0
  simp only
  rw [thru_len, hl]
  simp [anew]
theorem anew_live {d : Dk} (keep : List Bool) (hl : d.pl.length = 156) : Live (anew d keep) := ⟨by simp only [anew]; rw [thru_len, hl], rfl, rfl, rfl⟩
section
variable {d : Dk} {rep reg inc v : Int} {body : List UInt8}
def fraC (rep reg v inc : Int) (body : List UInt8) (i : Nat) : List UInt8 := sealF ⟨rep, reg, i, v, inc⟩ body 64
def twoP (d : Dk) (rep reg v inc : Int) (body : List UInt8) (f : Nat) : Dk × Int :=
  if (putC d ⟨rep, reg, (f : Nat), v, inc⟩ body).2 ≠ 0 then putC d ⟨rep, reg, (f : Nat), v, inc⟩ body else putC (putC d ⟨rep, reg, (f : Nat), v, inc⟩ body).1 ⟨rep, reg, ((1 - f : Nat) : Int), v, inc⟩ body
theorem put_p (h : Live d) (hr : reg = 1 ∨ reg = 2) (hb : body.length ≤ 43) {i : Nat} (hi : i < 2) (h0 : d.left ≠ 0) (h1 : d.left ≠ 1) : putC d ⟨rep, reg, i, v, inc⟩ body = (putP d (secC reg i) (fraC rep reg v inc body i), 0) :=
  put_n h h0 h1 (sec_first hr hi).1 (by have := (sec_first hr hi).2; omega) hb
theorem two_all (h : Live d) (hr : reg = 1 ∨ reg = 2) (hb : body.length ≤ 43) {f : Nat} (hf : f < 2) (hl : d.left < 0 ∨ 4 ≤ d.left) : twoP d rep reg v inc body f = (putP (putP d (secC reg f) (fraC rep reg v inc body f)) (secC reg (1 - f)) (fraC rep reg v inc body (1 - f)), 0) := by
  unfold twoP
  rw [put_p h hr hb hf (by omega) (by omega)]
  simp only [ne_eq, not_true, if_false]
  have hl2 : (putP d (secC reg f) (fraC rep reg v inc body f)).left = if 0 < d.left then d.left - 2 else d.left := rfl
  exact put_p (putP_live h _ _) hr hb (by omega) (by rw [hl2]; split <;> omega) (by rw [hl2]; split <;> omega)
theorem two_crash (h : Live d) (hr : reg = 1 ∨ reg = 2) (hb : body.length ≤ 43) {f : Nat} (hf : f < 2) (hl : 0 ≤ d.left) (keep : List Bool) :
    (twoP d rep reg v inc body f).2 = (if 4 ≤ d.left then 0 else 5) ∧ (twoP d rep reg v inc body f).1.pl.length = 156 ∧ (twoP d rep reg v inc body f).1.down = false ∧
    ∃ n m : Bool, (4 ≤ d.left → n = true ∧ m = true) ∧ (m = true → n = true) ∧ ∀ j : Nat, j < 156 → readD (anew (twoP d rep reg v inc body f).1 keep) j = if j = secC reg (1 - f) ∧ m = true then (fraC rep reg v inc body (1 - f), 0) else if j = secC reg f ∧ n = true then (fraC rep reg v inc body f, 0) else readD d j := by
  obtain ⟨ef, lf⟩ := sec_first hr hf
  obtain ⟨eo, lo⟩ := sec_first hr (i := 1 - f) (by omega)
  have hne : secC reg (1 - f) ≠ secC reg f := by unfold secC; omega
  have hlen := h.len
  by_cases h0 : d.left = 0
  · have e : twoP d rep reg v inc body f = ({ d with dead := true }, 5) := by
      unfold twoP
      rw [put_0 h h0 ef (by omega) hb]
      simp
    rw [e, h0]
    refine ⟨rfl, hlen, h.dn, false, false, by simp, by simp, fun j hj => ?_⟩
    rw [rd_live (anew_live keep (by exact hlen)) hj, rd_live h hj]
    simp [anew, h.w, thruD]
  by_cases h1 : d.left = 1
  · have e : twoP d rep reg v inc body f = ({ d with left := 0, waits := [(fraC rep reg v inc body f, secC reg f)], dead := true }, 5) := by
      unfold twoP
      rw [put_1 h h1 ef (by omega) hb]
      simp [fraC]
    rw [e, h1]
    refine ⟨rfl, hlen, h.dn, keepB keep 0, false, by simp, by simp, fun j hj => ?_⟩
    rw [rd_live (anew_live keep (by exact hlen)) hj, rd_live h hj]
    simp only [anew, thruD, and_false, if_false, Bool.false_eq_true]
    cases hk : keepB keep 0 with
    | false => simp
    | true =>
      simp only [if_true, and_true]
      rw [rd_set _ (by omega)]
  have hp := put_p (v := v) (rep := rep) (inc := inc) h hr hb hf h0 h1
  have hL := putP_live h (secC reg f) (fraC rep reg v inc body f)
  have hl2 : (putP d (secC reg f) (fraC rep reg v inc body f)).left = d.left - 2 := by rw [putP_left, if_pos (by omega)]
  by_cases h2 : d.left = 2
  · have e : twoP d rep reg v inc body f = ({ putP d (secC reg f) (fraC rep reg v inc body f) with dead := true }, 5) := by
      unfold twoP
      rw [hp]
      simp only [ne_eq, not_true, if_false]
      exact put_0 hL (by rw [hl2]; omega) eo (by omega) hb
    rw [e, h2]
    refine ⟨rfl, hL.len, hL.dn, true, false, by simp, by simp, fun j hj => ?_⟩
    rw [rd_live (anew_live keep (by exact hL.len)) hj, rd_live h hj]
    simp only [anew, putP, thruD, and_false, if_false, Bool.false_eq_true, and_true]
    rw [rd_set _ (by omega)]
  by_cases h3 : d.left = 3
  · have e : twoP d rep reg v inc body f = ({ putP d (secC reg f) (fraC rep reg v inc body f) with left := 0, waits := [(fraC rep reg v inc body (1 - f), secC reg (1 - f))], dead := true }, 5) := by
      unfold twoP
      rw [hp]
      simp only [ne_eq, not_true, if_false]
      exact put_1 hL (by rw [hl2]; omega) eo (by omega) hb
    rw [e, h3]
    refine ⟨rfl, hL.len, hL.dn, true, keepB keep 0, by simp, by simp, fun j hj => ?_⟩
    rw [rd_live (anew_live keep (by exact hL.len)) hj, rd_live h hj]
    simp only [anew, putP, thruD, and_true]
    cases hk : keepB keep 0 with
    | false =>
      simp only [Bool.false_eq_true, if_false, and_false]
      rw [rd_set _ (by omega)]
    | true =>
      simp only [if_true, and_true]
      rw [rd_set _ (by rw [List.length_set]; omega), rd_set _ (by omega)]
  · have e := two_all (rep := rep) (v := v) (inc := inc) h hr hb hf (.inr (by omega))
    have hL2 := putP_live hL (secC reg (1 - f)) (fraC rep reg v inc body (1 - f))
    rw [e, if_pos (by omega)]
    refine ⟨rfl, hL2.len, hL2.dn, true, true, by simp, by simp, fun j hj => ?_⟩
    rw [rd_live (anew_live keep (by exact hL2.len)) hj, rd_live h hj]
    simp only [anew, putP, thruD, and_true]
    rw [rd_set _ (by rw [List.length_set]; omega), rd_set _ (by omega)]
end
end Go.Proofs.YtknchbhobopkeaaGreatDoor
namespace Go.Proofs.YtknchbhobopkeaaGreatDoor
def coR (rep reg : Int) (i : Nat) : Vo → Cp
  | none => ⟨0, zeroTg, []⟩
  | some (v, c, b) => ⟨1, ⟨rep, reg, i, v, c⟩, b⟩
def badCp : Cp := ⟨2, zeroTg, []⟩
theorem verO_pos {o : Vo} (h : okO o) : 0 ≤ verO o := by
  match o, h with
  | none, _ => exact Int.le_refl 0
  | some (v, c, b), ⟨h1, _⟩ => simp only [verO]; omega
theorem verO_le {o : Vo} (h : okO o) : verO o ≤ 1099511627776 := by
  match o, h with
  | none, _ => simp [verO]
  | some (v, c, b), ⟨_, h2, _⟩ => exact h2
/-! What counts of two copies. -/
section
variable {rep reg : Int} {o p : Vo}
theorem loaded_same (o : Vo) : loadedC (coR rep reg 0 o) (coR rep reg 1 o) = (0, o.isSome, 0) ∧ pickC (coR rep reg 0 o) (coR rep reg 1 o) = coR rep reg 0 o ∧ firstP (coR rep reg 0 o) (coR rep reg 1 o) = (if o.isSome = true then 1 else 0) := by
  match o with
  | none => exact ⟨rfl, rfl, rfl⟩
  | some (v, c, b) =>
    have h1 : loadedC (coR rep reg 0 (some (v, c, b))) (coR rep reg 1 (some (v, c, b))) = (0, true, 0) := by simp [loadedC, overC, coR]
    refine ⟨h1, ?_, ?_⟩
    · unfold pickC
      rw [h1]
      simp
    · unfold firstP
      rw [h1]
      simp
theorem loaded_second {v c : Int} {b : List UInt8} (h : verO o < v) : loadedC (coR rep reg 0 o) (coR rep reg 1 (some (v, c, b))) = (1, true, 0) ∧ pickC (coR rep reg 0 o) (coR rep reg 1 (some (v, c, b))) = coR rep reg 1 (some (v, c, b)) := by
  have h1 : loadedC (coR rep reg 0 o) (coR rep reg 1 (some (v, c, b))) = (1, true, 0) := by
    match o, h with
    | none, _ => simp [loadedC, overC, coR]
    | some (v', c', b'), h => simp only [verO] at h; simp [loadedC, overC, coR, h]
  exact ⟨h1, by unfold pickC; rw [h1]; simp⟩
theorem loaded_first {v c : Int} {b : List UInt8} (h : verO o < v) : loadedC (coR rep reg 0 (some (v, c, b))) (coR rep reg 1 o) = (0, true, 0) ∧ pickC (coR rep reg 0 (some (v, c, b))) (coR rep reg 1 o) = coR rep reg 0 (some (v, c, b)) := by
  have h1 : loadedC (coR rep reg 0 (some (v, c, b))) (coR rep reg 1 o) = (0, true, 0) := by
    match o, h with
    | none, _ => simp [loadedC, overC, coR]
    | some (v', c', b'), h =>
      simp only [verO] at h
      have : ¬ v < v' := by omega
      simp [loadedC, overC, coR, this]
  exact ⟨h1, by unfold pickC; rw [h1]; simp⟩
theorem loaded_bad0 {v c : Int} {b : List UInt8} : loadedC badCp (coR rep reg 1 (some (v, c, b))) = (1, true, 0) ∧ pickC badCp (coR rep reg 1 (some (v, c, b))) = coR rep reg 1 (some (v, c, b)) := by
  have h1 : loadedC badCp (coR rep reg 1 (some (v, c, b))) = (1, true, 0) := by simp [loadedC, overC, coR, badCp]
  exact ⟨h1, by unfold pickC; rw [h1]; simp⟩
theorem loaded_bad1 {v c : Int} {b : List UInt8} : loadedC (coR rep reg 0 (some (v, c, b))) badCp = (0, true, 0) ∧ pickC (coR rep reg 0 (some (v, c, b))) badCp = coR rep reg 0 (some (v, c, b)) := by
  have h1 : loadedC (coR rep reg 0 (some (v, c, b))) badCp = (0, true, 0) := by simp [loadedC, overC, coR, badCp]
  exact ⟨h1, by unfold pickC; rw [h1]; simp⟩
theorem loaded_bad : loadedC badCp badCp = (0, false, 70) := rfl
end
structure Both (d : Dk) (rep reg : Int) (o : Vo) : Prop where
  ok : okO o
  c0 : cop d rep reg 0 = coR rep reg 0 o
  c1 : cop d rep reg 1 = coR rep reg 1 o
theorem both_load {d : Dk} {rep reg : Int} {o : Vo} (h : Live d) (hp : 0 ≤ rep ∧ rep ≤ 6) (hr : reg = 1 ∨ reg = 2) (hB : Both d rep reg o) : loadC d rep reg = (verO o, bodO o, 0) := by
  obtain ⟨e1, e2, _⟩ := loaded_same (rep := rep) (reg := reg) o
  rw [load_live h hp hr, hB.c0, hB.c1, e1, e2]
  match o with
  | none => rfl
  | some (v, c, b) => rfl
theorem rd_rep {n j : Nat} (h : j < n) : rdP (List.replicate n zeroPl) j = (zeros64, 0) := by
  unfold rdP
  rw [List.getElem?_replicate, if_pos h]
  rfl
theorem new_live : Live (newDk 156) := ⟨List.length_replicate, rfl, rfl, rfl⟩
theorem new_read {j : Nat} (hj : j < 156) : readD (newDk 156) j = (zeros64, 0) := by
  rw [rd_live new_live hj]
  exact rd_rep hj
theorem sec_lt {reg : Int} (hr : reg = 1 ∨ reg = 2) {i : Nat} (hi : i < 2) : secC reg i < 156 := by have := (sec_first hr hi).2; omega
theorem new_both (rep : Int) {reg : Int} (hr : reg = 1 ∨ reg = 2) : Both (newDk 156) rep reg none := ⟨trivial, cop_zero (new_read (sec_lt hr (by omega))), cop_zero (new_read (sec_lt hr (by omega)))⟩
section
variable {d : Dk} {rep reg inc : Int} {body : List UInt8} {o : Vo}
def nextO (o : Vo) (inc : Int) (body : List UInt8) : Vo := some (verO o + 1, inc, body)
theorem next_ok (h : okO o) (hv : verO o + 1 ≤ 1099511627776) (hi : 1 ≤ inc ∧ inc ≤ 1099511627776) (hb : body.length ≤ 43) : okO (nextO o inc body) := ⟨by have := verO_pos h; omega, hv, hi.1, hi.2, hb⟩
theorem pick_idx (o : Vo) : (coR rep reg 0 o).tg.idx = verO o := by match o with | none => rfl | some (v, c, b) => rfl
theorem store_two (h : Live d) (hp : 0 ≤ rep ∧ rep ≤ 6) (hr : reg = 1 ∨ reg = 2) (hi : 1 ≤ inc ∧ inc ≤ 1099511627776) (hb : body.length ≤ 43) (hB : Both d rep reg o) (hv : verO o + 1 ≤ 1099511627776) : storeC d rep reg inc body = twoP d rep reg (verO o + 1) inc body (if o.isSome = true then 1 else 0) := by
  obtain ⟨e1, e2, e3⟩ := loaded_same (rep := rep) (reg := reg) o
  have hr2 := store_red h hp hr hi hb (by rw [hB.c0, hB.c1, e1]) (by rw [hB.c0, hB.c1, e2, pick_idx]; exact hv)
  rw [hr2, hB.c0, hB.c1, e2, e3, pick_idx]
  rfl
theorem cop_fra {d : Dk} {v : Int} {i : Nat} {e : Int} (hp : 0 ≤ rep ∧ rep ≤ 6) (hr : reg = 1 ∨ reg = 2) (hi2 : i < 2) (h0 : 0 ≤ v) (h1 : v ≤ 1099511627776) (hi : 1 ≤ inc ∧ inc ≤ 1099511627776) (hb : body.length ≤ 43) (h : readD d (secC reg i) = (fraC rep reg v inc body i, e)) : cop d rep reg i = coR rep reg i (some (v, inc, body)) :=
  cop_frame h (may_cell2 hp hr hi2 h0 h1 hi.1 hi.2) hb
theorem store_both (h : Live d) (hp : 0 ≤ rep ∧ rep ≤ 6) (hr : reg = 1 ∨ reg = 2) (hi : 1 ≤ inc ∧ inc ≤ 1099511627776) (hb : body.length ≤ 43) (hB : Both d rep reg o) (hv : verO o + 1 ≤ 1099511627776) (hl : d.left < 0) :
    ∃ d', storeC d rep reg inc body = (d', 0) ∧ Live d' ∧ d'.left = d.left ∧ Both d' rep reg (nextO o inc body) ∧ ∀ j : Nat, j < 156 → j ≠ secC reg 0 → j ≠ secC reg 1 → readD d' j = readD d j := by
  have hvp := verO_pos hB.ok
  obtain ⟨f, hf, hf2⟩ : ∃ f, (if o.isSome = true then 1 else 0) = f ∧ f < 2 := ⟨_, rfl, by split <;> omega⟩
  rw [store_two h hp hr hi hb hB hv, hf, two_all h hr hb hf2 (.inl hl)]
  have L1 := putP_live h (secC reg f) (fraC rep reg (verO o + 1) inc body f)
  have L2 := putP_live L1 (secC reg (1 - f)) (fraC rep reg (verO o + 1) inc body (1 - f))
  have hs1 := sec_lt hr hf2
  have hs2 := sec_lt hr (i := 1 - f) (by omega)
  have hrd : ∀ j : Nat, j < 156 → readD (putP (putP d (secC reg f) (fraC rep reg (verO o + 1) inc body f)) (secC reg (1 - f)) (fraC rep reg (verO o + 1) inc body (1 - f))) j = if j = secC reg (1 - f) then (fraC rep reg (verO o + 1) inc body (1 - f), 0) else if j = secC reg f then (fraC rep reg (verO o + 1) inc body f, 0) else readD d j := fun j hj => by
    rw [putP_read L1 _ hj hs2, putP_read h _ hj hs1]
  have hne : secC reg (1 - f) ≠ secC reg f := by unfold secC; omega
  have r1 := hrd (secC reg (1 - f)) hs2
  rw [if_pos rfl] at r1
  have r2 := hrd (secC reg f) hs1
  rw [if_neg (Ne.symm hne), if_pos rfl] at r2
  have k1 := cop_fra hp hr (by omega) (by omega) hv hi hb r1
  have k2 := cop_fra hp hr hf2 (by omega) hv hi hb r2
  refine ⟨_, rfl, L2, ?_, ⟨next_ok hB.ok hv hi hb, ?_, ?_⟩, ?_⟩
  · rw [putP_left, putP_left, if_neg (by omega), if_neg (by omega)]
  · rcases (show f = 0 ∨ f = 1 by omega) with rfl | rfl
    · exact k2
    · exact k1
  · rcases (show f = 0 ∨ f = 1 by omega) with rfl | rfl
    · exact k1
    · exact k2
  · intro j hj h0 h1
    rw [hrd j hj, if_neg, if_neg]
    · rcases (show f = 0 ∨ f = 1 by omega) with rfl | rfl <;> assumption
    · rcases (show f = 0 ∨ f = 1 by omega) with rfl | rfl <;> assumption
end
end Go.Proofs.YtknchbhobopkeaaGreatDoor
namespace Go.Proofs.YtknchbhobopkeaaGreatDoor
def frR (rep reg : Int) (i : Nat) : Vo → List UInt8
  | none => zeros64
  | some (v, c, b) => fraC rep reg v c b i
structure Fr (d : Dk) (rep reg : Int) (o : Vo) : Prop where
  ok : okO o
  r0 : readD d (secC reg 0) = (frR rep reg 0 o, 0)
  r1 : readD d (secC reg 1) = (frR rep reg 1 o, 0)
section
variable {d d' : Dk} {rep reg inc : Int} {body : List UInt8} {o o' : Vo}
theorem cop_fr {i : Nat} {e : Int} (hp : 0 ≤ rep ∧ rep ≤ 6) (hr : reg = 1 ∨ reg = 2) (hi : i < 2) (ho : okO o) (h : readD d (secC reg i) = (frR rep reg i o, e)) : cop d rep reg i = coR rep reg i o := by
  match o, ho, h with
  | none, _, h => exact cop_zero h
  | some (v, c, b), ⟨h1, h2, h3, h4, h5⟩, h => exact cop_fra hp hr hi (by omega) h2 ⟨h3, h4⟩ h5 h
theorem Fr.both (h : Fr d rep reg o) (hp : 0 ≤ rep ∧ rep ≤ 6) (hr : reg = 1 ∨ reg = 2) : Both d rep reg o := ⟨h.ok, cop_fr hp hr (by omega) h.ok h.r0, cop_fr hp hr (by omega) h.ok h.r1⟩
theorem Fr.same (h : Fr d rep reg o) (h0 : readD d' (secC reg 0) = readD d (secC reg 0)) (h1 : readD d' (secC reg 1) = readD d (secC reg 1)) : Fr d' rep reg o := ⟨h.ok, h0.trans h.r0, h1.trans h.r1⟩
theorem Fr.load (h : Fr d rep reg o) (hL : Live d) (hp : 0 ≤ rep ∧ rep ≤ 6) (hr : reg = 1 ∨ reg = 2) : loadC d rep reg = (verO o, bodO o, 0) := both_load hL hp hr (h.both hp hr)
theorem new_fr (rep : Int) {reg : Int} (hr : reg = 1 ∨ reg = 2) : Fr (newDk 156) rep reg none := ⟨trivial, new_read (sec_lt hr (by omega)), new_read (sec_lt hr (by omega))⟩
theorem store_fr (h : Live d) (hp : 0 ≤ rep ∧ rep ≤ 6) (hr : reg = 1 ∨ reg = 2) (hi : 1 ≤ inc ∧ inc ≤ 1099511627776) (hb : body.length ≤ 43) (hB : Fr d rep reg o) (hv : verO o + 1 ≤ 1099511627776) (hl : d.left < 0) :
    ∃ d', storeC d rep reg inc body = (d', 0) ∧ Live d' ∧ d'.left = d.left ∧ Fr d' rep reg (nextO o inc body) ∧ ∀ j : Nat, j < 156 → j ≠ secC reg 0 → j ≠ secC reg 1 → readD d' j = readD d j := by
  have hvp := verO_pos hB.ok
  obtain ⟨f, hf, hf2⟩ : ∃ f, (if o.isSome = true then 1 else 0) = f ∧ f < 2 := ⟨_, rfl, by split <;> omega⟩
  rw [store_two h hp hr hi hb (hB.both hp hr) hv, hf, two_all h hr hb hf2 (.inl hl)]
  have L1 := putP_live h (secC reg f) (fraC rep reg (verO o + 1) inc body f)
  have L2 := putP_live L1 (secC reg (1 - f)) (fraC rep reg (verO o + 1) inc body (1 - f))
  have hs1 := sec_lt hr hf2
  have hs2 := sec_lt hr (i := 1 - f) (by omega)
  have hrd : ∀ j : Nat, j < 156 → readD (putP (putP d (secC reg f) (fraC rep reg (verO o + 1) inc body f)) (secC reg (1 - f)) (fraC rep reg (verO o + 1) inc body (1 - f))) j = if j = secC reg (1 - f) then (fraC rep reg (verO o + 1) inc body (1 - f), 0) else if j = secC reg f then (fraC rep reg (verO o + 1) inc body f, 0) else readD d j := fun j hj => by
    rw [putP_read L1 _ hj hs2, putP_read h _ hj hs1]
  have hne : secC reg (1 - f) ≠ secC reg f := by unfold secC; omega
  have r1 := hrd (secC reg (1 - f)) hs2
  rw [if_pos rfl] at r1
  have r2 := hrd (secC reg f) hs1
  rw [if_neg (Ne.symm hne), if_pos rfl] at r2
  refine ⟨_, rfl, L2, ?_, ⟨next_ok hB.ok hv hi hb, ?_, ?_⟩, ?_⟩
  · rw [putP_left, putP_left, if_neg (by omega), if_neg (by omega)]
  · rcases (show f = 0 ∨ f = 1 by omega) with rfl | rfl
    · exact r2
    · exact r1
  · rcases (show f = 0 ∨ f = 1 by omega) with rfl | rfl
    · exact r1
    · exact r2
  · intro j hj h0 h1
    rw [hrd j hj, if_neg, if_neg]
    · rcases (show f = 0 ∨ f = 1 by omega) with rfl | rfl <;> assumption
    · rcases (show f = 0 ∨ f = 1 by omega) with rfl | rfl <;> assumption
theorem power_live (h : Live d) {n : Int} (hn : 0 ≤ n) : powerD d n = ({ d with left := n }, 0) := by
  unfold powerD
  rw [live_0 h, if_neg (by omega), if_neg (by omega)]
theorem live_left (h : Live d) (x : Int) : Live { d with left := x } := ⟨h.len, h.w, h.dn, h.de⟩
theorem fr_left (h : Fr d rep reg o) (x : Int) : Fr { d with left := x } rep reg o := ⟨h.ok, h.r0, h.r1⟩
theorem store_crash (h : Live d) (hp : 0 ≤ rep ∧ rep ≤ 6) (hr : reg = 1 ∨ reg = 2) (hi : 1 ≤ inc ∧ inc ≤ 1099511627776) (hb : body.length ≤ 43) (hB : Fr d rep reg o) (hv : verO o + 1 ≤ 1099511627776) (hl : 0 ≤ d.left) (keep : List Bool) :
    (storeC d rep reg inc body).2 = (if 4 ≤ d.left then 0 else 5) ∧ (storeC d rep reg inc body).1.pl.length = 156 ∧ (storeC d rep reg inc body).1.down = false ∧
    (((¬ 4 ≤ d.left) ∧ Fr (anew (storeC d rep reg inc body).1 keep) rep reg o) ∨ Fr (anew (storeC d rep reg inc body).1 keep) rep reg (nextO o inc body) ∨
      ((¬ 4 ≤ d.left) ∧ ∃ f, f < 2 ∧ (f = 1 ↔ o.isSome = true) ∧ readD (anew (storeC d rep reg inc body).1 keep) (secC reg f) = (frR rep reg f (nextO o inc body), 0) ∧ readD (anew (storeC d rep reg inc body).1 keep) (secC reg (1 - f)) = (frR rep reg (1 - f) o, 0))) ∧
    ∀ j : Nat, j < 156 → j ≠ secC reg 0 → j ≠ secC reg 1 → readD (anew (storeC d rep reg inc body).1 keep) j = readD d j := by
  obtain ⟨f, hf, hf2⟩ : ∃ f, (if o.isSome = true then 1 else 0) = f ∧ f < 2 := ⟨_, rfl, by split <;> omega⟩
  rw [store_two h hp hr hi hb (hB.both hp hr) hv, hf]
  obtain ⟨e, hlen, hdn, n, m, h4, hnm, hrd⟩ := two_crash (rep := rep) (v := verO o + 1) (inc := inc) h hr hb hf2 hl keep
  have hs1 := sec_lt hr hf2
  have hs2 := sec_lt hr (i := 1 - f) (by omega)
  have hne : secC reg f ≠ secC reg (1 - f) := by unfold secC; omega
  have r1 := hrd _ hs1
  have r2 := hrd _ hs2
  rw [if_neg (fun hh => hne hh.1)] at r1
  have hok := next_ok hB.ok hv hi hb
  refine ⟨e, hlen, hdn, ?_, ?_⟩
  · cases m
    case true =>
      obtain rfl := hnm rfl
      rw [if_pos ⟨rfl, rfl⟩] at r1 r2
      refine .inr (.inl ?_)
      rcases (show f = 0 ∨ f = 1 by omega) with rfl | rfl
      · exact ⟨hok, r1, r2⟩
      · exact ⟨hok, r2, r1⟩
    case false =>
      have hnl : ¬ 4 ≤ d.left := fun hh => by cases (h4 hh).2
      rw [if_neg (by simp), if_neg (fun hh => hne hh.1.symm)] at r2
      cases n
      case false =>
        rw [if_neg (by simp)] at r1
        refine .inl ⟨hnl, ?_⟩
        rcases (show f = 0 ∨ f = 1 by omega) with rfl | rfl
        · exact ⟨hB.ok, r1.trans hB.r0, r2.trans hB.r1⟩
        · exact ⟨hB.ok, r2.trans hB.r0, r1.trans hB.r1⟩
      case true =>
        rw [if_pos ⟨rfl, rfl⟩] at r1
        refine .inr (.inr ⟨hnl, f, hf2, ?_, r1, ?_⟩)
        · rw [← hf]
          cases o.isSome <;> simp
        · rcases (show f = 0 ∨ f = 1 by omega) with rfl | rfl
          · exact r2.trans hB.r1
          · exact r2.trans hB.r0
  · intro j hj h0 h1
    rw [hrd j hj, if_neg, if_neg]
    · rintro ⟨rfl, _⟩
      rcases (show f = 0 ∨ f = 1 by omega) with rfl | rfl
      · exact h0 rfl
      · exact h1 rfl
    · rintro ⟨rfl, _⟩
      rcases (show f = 0 ∨ f = 1 by omega) with rfl | rfl
      · exact h1 rfl
      · exact h0 rfl
end
end Go.Proofs.YtknchbhobopkeaaGreatDoor
namespace Go.Proofs.YtknchbhobopkeaaGreatDoor
open Go.RowKit
section
variable {B g gp : Nat} {wv : Value} {d : Dk} {w : World}
end
end Go.Proofs.YtknchbhobopkeaaGreatDoor
