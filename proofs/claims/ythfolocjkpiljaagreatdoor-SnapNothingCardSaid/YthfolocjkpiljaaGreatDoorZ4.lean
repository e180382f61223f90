/- Texts that the claim leans on, part 4: X25, X26, X27, X28, Own, Under, D0, Flat. -/
import Derived.Test.YthfolocjkpiljaaGreatDoorZ1
import Derived.Test.YthfolocjkpiljaaGreatDoorZ2
import Derived.Test.YthfolocjkpiljaaGreatDoorZ3
import Derived.Test.YthfolocjkpiljaaGreatDoorRows
import Derived.WalkKit
import Derived.WalkSpells
import Derived.WalkLawsBesides
import Derived.Handy
import Derived.Deep.QuietTactic
import Derived.BigQuiet
import Derived.Deep.DeepCutAuto
import Derived.Lib.Hide
import Derived.RegionTactic
import Derived.ChangeAlike
import Derived.Laws.ResultCell
import Derived.Outline
import Derived.ProofKit
import Derived.OpenShut
import Derived.Laws.CopyOwn
import Derived.Laws.CopyRow
import Derived.Laws.NewBlocks
import Derived.Deep.RegionLaw
namespace Go.Proofs.YthfolocjkpiljaaGreatDoor

/-- A shelf holds bytes (or none yet), its manifest's cells say so. -/
structure Holds (d : Dk) (s : Sh) (b : List UInt8) (o : Vo) : Prop where
  live : Live d
  left : d.left < 0
  ok : ShOk s
  fr : Fr d s.rep 2 o
  is : (s.idx = 0 ∧ s.cnt = 0 ∧ b = [] ∧ o = none) ∨ (1 ≤ s.idx ∧ s.cnt = (numC b.length : Nat) ∧ b.length ≤ 640 ∧ HeldS d s 0 (splitC b) ∧ o.isSome = true ∧ bodO o = manB s.idx s.area s.cnt)
section
variable {d : Dk} {s : Sh} {b : List UInt8} {o : Vo}
theorem Holds.pow (h : Holds d s b o) : Pow d := h.live.pow h.left
theorem Holds.read (h : Holds d s b o) {k : Nat} (hk : (k : Int) < s.cnt) : readS d s (k : Int) = (pcC b k, true) := by
  rcases h.is with ⟨_, h2, _⟩ | ⟨h1, h2, h3, h4, _⟩
  · omega
  · have hn := numC_le h3
    have hl := splitC_len b
    have hlt : k < (splitC b).length := by omega
    have hat := splitC_at b hlt
    have hr := held_read h4 h.ok hlt (by omega) (by omega) (by rw [hat, h2]; exact pcC_fits b h3 (by omega))
    rw [hr, hat]
theorem Holds.bytes (h : Holds d s b o) : bytesS d s = (b, 0) := by
  unfold bytesS
  rw [if_neg (by simp [pow_up h.pow]), if_pos]
  · have hall : allS d s s.cnt.toNat = b := by
      rcases h.is with ⟨_, h2, h3, _⟩ | ⟨_, h2, h3, _⟩
      · rw [h2, h3]
        rfl
      · have hf : allS d s s.cnt.toNat = (List.range s.cnt.toNat).flatMap (pcC b) := by
          unfold allS
          rw [List.flatMap_def, List.flatMap_def]
          congr 1
          refine List.map_congr_left fun k hk => ?_
          have := List.mem_range.1 hk
          rw [h.read (by omega)]
        rw [hf, h2, Int.toNat_natCast, List.flatMap_def]
        exact split_all b
    rw [hall]
  · rw [List.all_eq_true]
    intro k hk
    have := List.mem_range.1 hk
    rw [h.read (by omega)]
theorem Holds.hurt (h : Holds d s b o) : hurtS d s s.cnt.toNat = [] := by
  unfold hurtS
  rw [List.map_eq_nil_iff, List.filter_eq_nil_iff]
  intro k hk
  have := List.mem_range.1 hk
  rw [h.read (by omega)]
  simp
theorem holds_new {rep inc : Int} (hr : 0 ≤ rep ∧ rep ≤ 6) (hi : 1 ≤ inc ∧ inc ≤ 1099511627776) : Holds (newDk 156) ⟨0, 0, 0, rep, inc⟩ [] none :=
  ⟨⟨by simp [newDk], rfl, rfl, rfl⟩, by show (-1 : Int) < 0; decide, ⟨⟨by simp, by simp⟩, ⟨by simp, by simp⟩, ⟨by simp, by simp⟩, hr, hi⟩, new_fr rep (.inr rfl), .inl ⟨rfl, rfl, rfl, rfl⟩⟩
theorem nextS_ok (hok : ShOk s) {idx : Int} {n : Nat} (h1 : s.idx < idx) (h2 : idx ≤ 1099511627752) (h4 : n ≤ 8) : ShOk (nextS s idx n) := by
  have hi := hok.i
  have ha := hok.a
  refine ⟨⟨?_, h2⟩, ?_, ⟨?_, ?_⟩, hok.r, hok.n⟩
  · show 0 ≤ idx; omega
  · show 0 ≤ (if 0 < s.idx then 1 - s.area else 0) ∧ (if 0 < s.idx then 1 - s.area else 0) ≤ 1
    split <;> omega
  · show (0 : Int) ≤ n; omega
  · show (n : Int) ≤ 8; omega
theorem install_holds (h : Holds d s b o) {idx : Int} {b' : List UInt8} (h1 : s.idx < idx) (h2 : idx ≤ 1099511627752) (h3 : b'.length ≤ 640) (hv : verO o + 1 ≤ 1099511627776) :
    ∃ d', installS d s idx b' = (d', nextS s idx (numC b'.length), 0) ∧ Holds d' (nextS s idx (numC b'.length)) b' (nextO o s.inc (manB idx (nextS s idx (numC b'.length)).area (numC b'.length : Nat))) := by
  have hn := numC_le h3
  have hok := nextS_ok h.ok h1 h2 hn.2
  have hsl := splitC_len b'
  have hsc : ∀ c ∈ splitC b', c.length ≤ 80 := fun c hc => by
    obtain ⟨k, _, rfl⟩ := List.mem_map.1 hc
    unfold pcC
    rw [List.length_take]
    omega
  obtain ⟨hp, hpw⟩ := pow_puts hok (splitC b') d 0 h.pow (by omega) hsc
  have hheld := puts_held hok (splitC b') d 0 h.pow (by omega)
  have hoth := fun j (hj : j < 4) => puts_other hok (splitC b') d 0 j h.pow (by omega) (.inl (by unfold secS; omega))
  obtain ⟨d1, hd1⟩ : ∃ d1, putsW d (nextS s idx (numC b'.length)) 0 (splitC b') = d1 := ⟨_, rfl⟩
  rw [hd1] at hp hpw hheld
  simp only [hd1] at hoth
  have hL := flow_live hpw
  have hfr : Fr (flowD d1) s.rep 2 o := h.fr.same (by rw [flow_read hpw (by decide), hoth _ (by decide)]) (by rw [flow_read hpw (by decide), hoth _ (by decide)])
  obtain ⟨d3, e1, e2, e3, e4, e5⟩ := store_fr (body := manB idx (nextS s idx (numC b'.length)).area (numC b'.length : Nat)) hL h.ok.r (.inr rfl) h.ok.n (by rw [manB_len]; decide) hfr hv hpw.lf
  refine ⟨d3, ?_, e2, by rw [e3]; exact hpw.lf, hok, e4, .inr ⟨by show 1 ≤ idx; have := h.ok.i; omega, rfl, h3, ?_, rfl, next_bod _ _ _⟩⟩
  · unfold installS
    rw [if_neg (by omega), if_neg (by omega), if_neg (by simp [pow_up h.pow])]
    simp only
    rw [hp]
    simp only
    rw [if_neg (by simp), pow_flush hpw]
    simp only
    rw [if_neg (by simp), show (nextS s idx (numC b'.length)).idx = idx from rfl, show (nextS s idx (numC b'.length)).cnt = ((numC b'.length : Nat) : Int) from rfl, e1]
    simp
  · refine hheld.same fun i hi => ?_
    have hb := (secS_eq hok (k := 0 + i) (by omega)).2
    refine ⟨?_, ?_⟩
    · rw [e5 _ (by omega) (by unfold secS secC; simp; omega) (by unfold secS secC; simp; omega), flow_read hpw (by omega)]
    · rw [e5 _ hb (by unfold secS secC; simp; omega) (by unfold secS secC; simp; omega), flow_read hpw hb]
end
end Go.Proofs.YthfolocjkpiljaaGreatDoor

namespace Go.Proofs.YthfolocjkpiljaaGreatDoor

/-- A chunk's two sectors. -/
def TwoS (d : Dk) (s : Sh) (k : Nat) (c : List UInt8) : Prop := readD d (secS s k) = (pcD (frmS s (k : Int) c) 0, 0) ∧ readD d ((secS s k : Nat) + 1 : Nat) = (pcD (frmS s (k : Int) c) 1, 0)
theorem two_read {d : Dk} {s : Sh} {k : Nat} {c : List UInt8} (h : TwoS d s k c) (hok : ShOk s) (hk : k < 8) (hc1 : 1 ≤ s.cnt) (hf : fitsC (k : Int) s.cnt c.length = true) : readS d s (k : Int) = (c, true) := by
  obtain ⟨h1, h2⟩ := h
  obtain ⟨hfs, hlt⟩ := secS_eq hok (k := k) hk
  have hc : c.length ≤ 80 := by
    unfold fitsC at hf
    split at hf
    · cases hf
    · omega
  have hfl := frmS_len (s := s) (k := (k : Int)) hc
  have hsec : secsS d (plaS s (k : Int)) = (frmS s (k : Int) c, true) := by
    unfold secsS
    rw [hfs, h1, show ((secS s k : Int) + 1) = ((secS s k + 1 : Nat) : Int) by omega, h2]
    have hj : pcD (frmS s (k : Int) c) 0 ++ pcD (frmS s (k : Int) c) 1 = frmS s (k : Int) c := by
      have := pcs_all (b := frmS s (k : Int) c) (n := 2) (by omega) (by omega) (by omega)
      simpa [List.range_succ] using this
    simp [hj]
  have hmt := tagS_may hok (k := (k : Int)) ⟨by omega, by omega⟩
  have hms := mine_seal (n := 128) (body := ckB s.cnt c) hmt (by decide) (by unfold ckB roomN; simp; omega)
  have hc8 := hok.c
  have hpk := parse_ck (c := c) hc1 hc8.2 hc
  unfold readS
  rw [hsec]
  simp only
  rw [if_neg (by simp)]
  unfold frmS
  rw [show mineF (sealF (tagS s (k : Int)) (ckB s.cnt c) 128) s.rep 5 (plaS s (k : Int)) = (1, tagS s (k : Int), ckB s.cnt c) from hms]
  unfold frameS
  simp only
  rw [hpk]
  simp only
  have e1 : ((s.cnt.toNat : Nat) : Int) = s.cnt := by omega
  rw [e1, hf]
  simp [tagS]
/-- A shelf that holds bytes, but for the chunks that aren't good. -/
structure Parted (d : Dk) (s : Sh) (b : List UInt8) (o : Vo) (g : Nat → Bool) : Prop where
  live : Live d
  left : d.left < 0
  ok : ShOk s
  fr : Fr d s.rep 2 o
  i1 : 1 ≤ s.idx
  cn : s.cnt = (numC b.length : Nat)
  ln : b.length ≤ 640
  held : ∀ i, i < numC b.length → g i = true → TwoS d s i (pcC b i)
  hurt : ∀ i : Nat, i < numC b.length → g i = false → (readS d s (i : Int)).2 = false
  so : o.isSome = true
  bo : bodO o = manB s.idx s.area s.cnt
section
variable {d : Dk} {s : Sh} {b : List UInt8} {o : Vo} {g : Nat → Bool}
theorem Parted.pow (h : Parted d s b o g) : Pow d := h.live.pow h.left
theorem Holds.parted (h : Holds d s b o) (hi : 1 ≤ s.idx) : Parted d s b o (fun _ => true) := by
  rcases h.is with ⟨h1, _⟩ | ⟨h1, h2, h3, h4, h5, h6⟩
  · omega
  · refine ⟨h.live, h.left, h.ok, h.fr, h1, h2, h3, fun i hi _ => ?_, fun _ _ h => by simp at h, h5, h6⟩
    have hl : i < (splitC b).length := by rw [splitC_len]; exact hi
    have := h4 i hl
    rw [Nat.zero_add, splitC_at b hl] at this
    exact this
theorem Parted.holds (h : Parted d s b o g) (hg : ∀ i, i < numC b.length → g i = true) : Holds d s b o :=
  ⟨h.live, h.left, h.ok, h.fr, .inr ⟨h.i1, h.cn, h.ln, fun i hi => by
    have hl : i < numC b.length := by rw [← splitC_len]; exact hi
    have := h.held i hl (hg i hl)
    rw [Nat.zero_add, splitC_at b hi]
    exact this, h.so, h.bo⟩⟩
theorem Parted.read (h : Parted d s b o g) {i : Nat} (hi : i < numC b.length) (hg : g i = true) : readS d s (i : Int) = (pcC b i, true) := by
  have hn := numC_le h.ln
  exact two_read (h.held i hi hg) h.ok (by omega) (by rw [h.cn]; omega) (by rw [h.cn]; exact pcC_fits b h.ln hi)
theorem Parted.is (h : Parted d s b o g) {i : Nat} (hi : i < numC b.length) : (readS d s (i : Int)).2 = g i := by
  cases hg : g i
  · exact h.hurt i hi hg
  · rw [h.read hi hg]
theorem Parted.hurts (h : Parted d s b o g) : hurtS d s s.cnt.toNat = ((List.range (numC b.length)).filter (fun k => !g k)).map (fun (k : Nat) => (k : Int)) := by
  unfold hurtS
  rw [h.cn, Int.toNat_natCast]
  congr 1
  refine List.filter_congr fun k hk => ?_
  rw [h.is (List.mem_range.1 hk)]
theorem Parted.bad (h : Parted d s b o g) {i : Nat} (hi : i < numC b.length) (hg : g i = false) : bytesS d s = ([], 130) := by
  unfold bytesS
  rw [if_neg (by simp [pow_up h.pow]), if_neg]
  intro hall
  have h1 := List.all_eq_true.1 hall i (by rw [h.cn, Int.toNat_natCast]; exact List.mem_range.2 hi)
  rw [h.is hi, hg] at h1
  cases h1
/-- A chunk that isn't good is mended by what it was. -/
theorem Parted.mend (h : Parted d s b o g) {k : Nat} (hk : k < numC b.length) (hg : g k = false) : ∃ d', mendS d s (k : Int) (pcC b k) = (d', 0) ∧ d'.waits = [] ∧ Parted d' s b o (fun i => if i = k then true else g i) := by
  have hn := numC_le h.ln
  have hf : fitsC (k : Int) s.cnt (pcC b k).length = true := by rw [h.cn]; exact pcC_fits b h.ln hk
  have hc : (pcC b k).length ≤ 80 := by unfold pcC; rw [List.length_take]; omega
  have ha : askedS d s (k : Int) = 0 := by
    unfold askedS
    rw [if_neg (by rw [h.cn]; omega), if_neg (by simp [pow_up h.pow])]
  have hp := pow_putS h.pow h.ok (k := k) (by omega) hc
  have hpw := putW_pow h.pow s k (pcC b k)
  have hL := flow_live hpw
  have hb := fun i (hi : i < 8) => (secS_eq h.ok (k := i) hi).2
  have hrd : ∀ j, j < 156 → j ≠ secS s k → j ≠ secS s k + 1 → readD (flowD (putW d s k (pcC b k))) j = readD d j := fun j hj h1 h2 => by
    rw [flow_read hpw hj, putW_read h.pow hj, if_neg h2, if_neg h1]
  have h2k : TwoS (flowD (putW d s k (pcC b k))) s k (pcC b k) := by
    have := hb k (by omega)
    refine ⟨?_, ?_⟩
    · rw [flow_read hpw (by omega), putW_read h.pow (by omega), if_neg (by omega), if_pos rfl]
    · rw [flow_read hpw this, putW_read h.pow this, if_pos rfl]
  refine ⟨flowD (putW d s k (pcC b k)), ?_, rfl, hL, ?_, h.ok, ?_, h.i1, h.cn, h.ln, ?_, ?_, h.so, h.bo⟩
  · unfold mendS
    rw [ha, if_neg (by simp [hf]), if_neg (by simp), if_neg (by rw [h.is hk, hg]; simp), hp, if_neg (by simp)]
    exact pow_flush hpw
  · exact hpw.lf
  · exact h.fr.same (hrd _ (by decide) (by unfold secS secC; simp; omega) (by unfold secS secC; simp; omega)) (hrd _ (by decide) (by unfold secS secC; simp; omega) (by unfold secS secC; simp; omega))
  · intro i hi hgi
    by_cases hik : i = k
    · subst hik; exact h2k
    · rw [if_neg hik] at hgi
      have h1 := h.held i hi hgi
      have h3 := hb i (by omega)
      exact ⟨(hrd _ (by omega) (by unfold secS; omega) (by unfold secS; omega)).trans h1.1, (hrd _ h3 (by unfold secS; omega) (by unfold secS; omega)).trans h1.2⟩
  · intro i hi hgi
    by_cases hik : i = k
    · rw [if_pos hik] at hgi; cases hgi
    · rw [if_neg hik] at hgi
      have h1 := h.hurt i hi hgi
      have h3 := hb i (by omega)
      have h4 := (secS_eq h.ok (k := i) (by omega)).1
      have e : secsS (flowD (putW d s k (pcC b k))) (plaS s (i : Int)) = secsS d (plaS s (i : Int)) := by
        unfold secsS
        rw [h4, show ((secS s i : Int) + 1) = ((secS s i + 1 : Nat) : Int) by omega, hrd _ (by omega) (by unfold secS; omega) (by unfold secS; omega), hrd _ h3 (by unfold secS; omega) (by unfold secS; omega)]
      unfold readS at h1 ⊢
      rw [e]
      exact h1
theorem Parted.refuse (h : Parted d s b o g) {k : Nat} (hk : k < numC b.length) (hg : g k = true) (c : List UInt8) : mendS d s (k : Int) c = (d, 2) := by
  have ha : askedS d s (k : Int) = 0 := by
    unfold askedS
    rw [if_neg (by rw [h.cn]; omega), if_neg (by simp [pow_up h.pow])]
  unfold mendS
  rw [ha]
  split
  · rfl
  · rw [if_neg (by simp), if_pos (by rw [h.is hk, hg])]
end
end Go.Proofs.YthfolocjkpiljaaGreatDoor

namespace Go.Proofs.YthfolocjkpiljaaGreatDoor

section
variable {d : Dk} {s : Sh} {b : List UInt8} {o : Vo} {g : Nat → Bool}
/-- A disk on which only one chunk's sectors read otherwise, so that it isn't read. -/
theorem Parted.gone {d' : Dk} (h : Parted d s b o g) {k : Nat} (hk : k < numC b.length) (hL : Live d') (hl : d'.left = d.left) (ho : ∀ j : Nat, j < 156 → j ≠ secS s k → j ≠ secS s k + 1 → readD d' j = readD d j) (hx : (readS d' s (k : Int)).2 = false) : Parted d' s b o (fun i => if i = k then false else g i) := by
  have hn := numC_le h.ln
  have hb := fun i (hi : i < 8) => (secS_eq h.ok (k := i) hi).2
  refine ⟨hL, by rw [hl]; exact h.left, h.ok, ?_, h.i1, h.cn, h.ln, ?_, ?_, h.so, h.bo⟩
  · exact h.fr.same (ho _ (by decide) (by unfold secS secC; simp; omega) (by unfold secS secC; simp; omega)) (ho _ (by decide) (by unfold secS secC; simp; omega) (by unfold secS secC; simp; omega))
  · intro i hi hgi
    by_cases hik : i = k
    · rw [if_pos hik] at hgi; cases hgi
    · rw [if_neg hik] at hgi
      have h1 := h.held i hi hgi
      have h3 := hb i (by omega)
      exact ⟨(ho _ (by omega) (by unfold secS; omega) (by unfold secS; omega)).trans h1.1, (ho _ h3 (by unfold secS; omega) (by unfold secS; omega)).trans h1.2⟩
  · intro i hi hgi
    by_cases hik : i = k
    · subst hik; exact hx
    · rw [if_neg hik] at hgi
      have h1 := h.hurt i hi hgi
      have h3 := hb i (by omega)
      have h4 := (secS_eq h.ok (k := i) (by omega)).1
      have e : secsS d' (plaS s (i : Int)) = secsS d (plaS s (i : Int)) := by
        unfold secsS
        rw [h4, show ((secS s i : Int) + 1) = ((secS s i + 1 : Nat) : Int) by omega, ho _ (by omega) (by unfold secS; omega) (by unfold secS; omega), ho _ h3 (by unfold secS; omega) (by unfold secS; omega)]
      unfold readS at h1 ⊢
      rw [e]
      exact h1
theorem Parted.lose (h : Parted d s b o g) {k : Nat} (hk : k < numC b.length) : ∃ d', loseD d (secS s k) = (d', 0) ∧ Parted d' s b o (fun i => if i = k then false else g i) := by
  have hn := numC_le h.ln
  obtain ⟨h4, h5⟩ := secS_eq h.ok (k := k) (by omega)
  obtain ⟨d', e1, e2, e3, e4, e5⟩ := lose_at h.live (k := secS s k) (by omega)
  refine ⟨d', e1, h.gone hk e2 e3 (fun j hj h1 _ => e5 j hj h1) ?_⟩
  unfold readS
  rw [if_pos]
  unfold secsS
  rw [h4, e4]
  rfl
end
/-! The chapter's example: 81 bytes, the last of which is 7. -/
def b81 : List UInt8 := List.replicate 80 0 ++ [7]
theorem b81_len : b81.length = 81 := by simp [b81]
theorem b81_num : numC b81.length = 2 := by rw [b81_len]; rfl
theorem b81_pc : pcC b81 1 = [7] := by
  unfold pcC b81
  rw [List.drop_append_of_le_length (by simp)]
  simp
end Go.Proofs.YthfolocjkpiljaaGreatDoor

namespace Go.Proofs.YthfolocjkpiljaaGreatDoor

/-- Writes come through, or not: sectors that none of them names stay. -/
theorem thru_out : ∀ (ws : List (List UInt8 × Nat)) (pl : List Pl) (k : Nat) (is : Nat → Bool) (j : Nat), (∀ x ∈ ws, x.2 ≠ j) → rdP (thruD pl ws k is) j = rdP pl j
  | [], _, _, _, _, _ => rfl
  | (b, s) :: l, pl, k, is, j, h => by
    simp only [thruD]
    rw [thru_out l _ _ _ _ (fun x hx => h x (List.mem_cons_of_mem _ hx))]
    have hs : s ≠ j := h (b, s) List.mem_cons_self
    split
    · unfold rdP
      rw [List.getElem?_set_ne hs]
    · rfl
/-- What a shelf tells: these bytes, none of them hurt. -/
structure Tells (d : Dk) (x : Sh) (b : List UInt8) : Prop where
  ok : ShOk x
  byt : bytesS d x = (b, 0)
  hu : hurtS d x x.cnt.toNat = []
  ln : b.length ≤ 640
/-- What a manifest says of a shelf. -/
def IsS (s : Sh) (b : List UInt8) (o : Vo) : Prop := (s.idx = 0 ∧ s.cnt = 0 ∧ b = [] ∧ o = none) ∨ (1 ≤ s.idx ∧ s.cnt = (numC b.length : Nat) ∧ b.length ≤ 640 ∧ o.isSome = true ∧ bodO o = manB s.idx s.area s.cnt)
section
variable {d d' : Dk} {s : Sh} {b : List UInt8} {o : Vo}
theorem tells_of {x : Sh} (hu : upD d = true) (hok : ShOk x) (hc : (x.cnt = 0 ∧ b = []) ∨ (x.cnt = (numC b.length : Nat) ∧ b.length ≤ 640)) (hr : ∀ k : Nat, (k : Int) < x.cnt → readS d x (k : Int) = (pcC b k, true)) : Tells d x b := by
  have hall : allS d x x.cnt.toNat = b := by
    rcases hc with ⟨h2, h3⟩ | ⟨h2, h3⟩
    · rw [h2, h3]
      rfl
    · have hf : allS d x x.cnt.toNat = (List.range x.cnt.toNat).flatMap (pcC b) := by
        unfold allS
        rw [List.flatMap_def, List.flatMap_def]
        congr 1
        refine List.map_congr_left fun k hk => ?_
        have := List.mem_range.1 hk
        rw [hr k (by omega)]
      rw [hf, h2, Int.toNat_natCast, List.flatMap_def]
      exact split_all b
  refine ⟨hok, ?_, ?_, ?_⟩
  · unfold bytesS
    rw [if_neg (by simp [hu]), if_pos, hall]
    rw [List.all_eq_true]
    intro k hk
    have := List.mem_range.1 hk
    rw [hr k (by omega)]
  · unfold hurtS
    rw [List.map_eq_nil_iff, List.filter_eq_nil_iff]
    intro k hk
    have := List.mem_range.1 hk
    rw [hr k (by omega)]
    simp
  · rcases hc with ⟨_, rfl⟩ | ⟨_, h⟩
    · simp
    · exact h
theorem Holds.tells (h : Holds d s b o) : Tells d s b := by
  refine tells_of (pow_up h.pow) h.ok ?_ (fun k hk => h.read hk)
  rcases h.is with ⟨_, h2, h3, _⟩ | ⟨_, h2, h3, _⟩
  · exact .inl ⟨h2, h3⟩
  · exact .inr ⟨h2, h3⟩
theorem Holds.iss (h : Holds d s b o) : IsS s b o := by
  rcases h.is with h | ⟨h1, h2, h3, _, h4, h5⟩
  · exact .inl h
  · exact .inr ⟨h1, h2, h3, h4, h5⟩
/-- The manifest is loaded, and healed, the chunks are read: so a shelf is opened. -/
theorem open_tells {inc : Int} (hL : Live d) (hl : loadC d s.rep 2 = (verO o, bodO o, 0)) (hh : healC d s.rep 2 = (d', 0)) (hu : upD d' = true) (hok : ShOk s) (hi : 1 ≤ inc ∧ inc ≤ 1099511627776) (hoo : okO o) (his : IsS s b o) (hr : ∀ k : Nat, (k : Int) < s.cnt → readS d' s (k : Int) = (pcC b k, true)) :
    ∃ x, openS d s.rep inc = (d', x, 0) ∧ x.idx = s.idx ∧ Tells d' x b := by
  have hrp := hok.r
  have hop : openS d s.rep inc = (d', (if 0 < verO o then ⟨(parseMan (bodO o)).1.1, (parseMan (bodO o)).1.2.1, (parseMan (bodO o)).1.2.2, s.rep, inc⟩ else ⟨0, 0, 0, s.rep, inc⟩), 0) ∨ ¬ (0 < verO o → (parseMan (bodO o)).2 = 0) := by
    by_cases hp : 0 < verO o → (parseMan (bodO o)).2 = 0
    · refine .inl ?_
      unfold openS
      simp only
      rw [if_neg (by rw [hL.len]; omega), hl]
      simp only
      rw [if_neg (by simp), if_neg (fun hh => hh.2 (hp hh.1)), hh]
    · exact .inr hp
  rcases his with ⟨i1, i2, i3, rfl⟩ | ⟨i1, i2, i3, i4, i5⟩
  · rcases hop with hop | hop
    · rw [if_neg (by simp [verO])] at hop
      refine ⟨_, hop, i1.symm, tells_of hu ⟨⟨by simp, by simp⟩, ⟨by simp, by simp⟩, ⟨by simp, by simp⟩, hrp, hi⟩ (.inl ⟨rfl, i3⟩) (fun k hk => ?_)⟩
      simp only at hk
      omega
    · exact absurd (fun h => absurd h (by simp [verO])) hop
  · have hc := hok.c
    have hn := numC_le i3
    have hpm : parseMan (bodO o) = ((s.idx, s.area, s.cnt), 0) := by
      rw [i5]
      exact parse_man ⟨i1, hok.i.2, hok.a.1, hok.a.2, by omega, by omega⟩
    have hv : 0 < verO o := by
      match o, i4, hoo with
      | some (v, c, b), _, ⟨h, _⟩ => show 0 < v; omega
    rcases hop with hop | hop
    · rw [if_pos hv, hpm] at hop
      refine ⟨_, hop, rfl, tells_of hu ⟨hok.i, hok.a, hok.c, hrp, hi⟩ (.inr ⟨i2, i3⟩) (fun k hk => ?_)⟩
      exact hr k hk
    · exact absurd (fun _ => by rw [hpm]) hop
/-- Sectors of a shelf's area. -/
theorem readS_same {k : Nat} (hok : ShOk s) (hk : k < 8) (h : ∀ j : Nat, secS s k ≤ j → j < secS s k + 2 → readD d' j = readD d j) : readS d' s (k : Int) = readS d s (k : Int) := by
  have h4 := (secS_eq hok (k := k) hk).1
  have e : secsS d' (plaS s (k : Int)) = secsS d (plaS s (k : Int)) := by
    unfold secsS
    rw [h4, show ((secS s k : Int) + 1) = ((secS s k + 1 : Nat) : Int) by omega, h _ (Nat.le_refl _) (by omega), h _ (by omega) (by omega)]
  unfold readS
  rw [e]
end

/-! Puts whose power may go. -/
structure Pw (d : Dk) : Prop where
  len : d.pl.length = 156
  dn : d.down = false
  de : d.dead = false
  lf : 0 ≤ d.left
section
variable {d : Dk} {s : Sh} {k : Nat} {c : List UInt8}
theorem pw_write {n : Nat} {f : List UInt8} (h : Pw d) (hs : n < 156) (hb : f.length = 64) : (∃ m, writeD d n f = ({ waitD d n f with left := m }, 0) ∧ Pw { waitD d n f with left := m }) ∨ writeD d n f = ({ d with dead := true }, 5) := by
  have hl := h.lf
  have hlv : liveD d n = 0 := by
    unfold liveD thereD
    rw [h.len, h.dn, h.de]
    simp
    omega
  unfold writeD
  rw [if_neg (by simp [hlv]), if_neg (by simp [hb])]
  by_cases h0 : d.left = 0
  · refine .inr ?_
    unfold spendD
    rw [if_pos h0, if_pos (by simp)]
  · refine .inl ⟨d.left - 1, ?_, h.len, h.dn, h.de, by show 0 ≤ d.left - 1; omega⟩
    have hsp : spendD d = ({ d with left := d.left - 1 }, 0) := by unfold spendD; rw [if_neg h0, if_pos (by omega)]
    rw [hsp, if_neg (by simp)]
    rfl
/-- Where the power went: the sectors stay, only some of these writes wait. -/
structure Gone (d d' : Dk) (lo hi : Nat) : Prop where
  pl : d'.pl = d.pl
  dn : d'.down = false
  ws : ∀ x ∈ d'.waits, x ∈ d.waits ∨ (lo ≤ x.2 ∧ x.2 < hi)
theorem pw_put (h : Pw d) (hok : ShOk s) (hk : k < 8) (hc : c.length ≤ 80) : (∃ m, putS d s (k : Int) c = ({ putW d s k c with left := m }, 0) ∧ Pw { putW d s k c with left := m }) ∨ ∃ d', putS d s (k : Int) c = (d', 5) ∧ Gone d d' (secS s k) (secS s k + 2) := by
  obtain ⟨hf, hl⟩ := secS_eq hok hk
  obtain ⟨l0, l1⟩ := frm_pc (s := s) (k := k) hc
  unfold putS
  rw [hf]
  rcases pw_write h (show secS s k < 156 by omega) l0 with ⟨m, e, p⟩ | e
  · rw [e, if_neg (by simp)]
    simp only
    rw [show ((secS s k : Int) + 1) = ((secS s k + 1 : Nat) : Int) by omega]
    rcases pw_write p hl l1 with ⟨m2, e2, p2⟩ | e2
    · exact .inl ⟨m2, e2, p2⟩
    · refine .inr ⟨_, e2, rfl, h.dn, fun x hx => ?_⟩
      have hx' : x ∈ d.waits ++ [(pcD (frmS s k c) 0, secS s k)] := hx
      rcases List.mem_append.1 hx' with h | h
      · exact .inl h
      · rw [List.mem_singleton] at h
        subst h
        exact .inr ⟨Nat.le_refl _, by simp⟩
  · rw [e, if_pos (by simp)]
    exact .inr ⟨_, rfl, rfl, h.dn, fun x hx => .inl hx⟩
theorem putsW_left (s : Sh) : ∀ (l : List (List UInt8)) (d : Dk) (k : Nat) (m : Int), putsW { d with left := m } s k l = { putsW d s k l with left := m }
  | [], _, _, _ => rfl
  | c :: l, d, k, m => putsW_left s l (putW d s k c) (k + 1) m
theorem putsW_pl (s : Sh) : ∀ (l : List (List UInt8)) (d : Dk) (k : Nat), (putsW d s k l).pl = d.pl ∧ (putsW d s k l).down = d.down ∧ (putsW d s k l).dead = d.dead ∧ ∀ x ∈ (putsW d s k l).waits, x ∈ d.waits ∨ (secS s k ≤ x.2 ∧ x.2 < secS s (k + l.length))
  | [], d, k => ⟨rfl, rfl, rfl, fun x hx => .inl hx⟩
  | c :: l, d, k => by
    obtain ⟨h1, h2, h3, h4⟩ := putsW_pl s l (putW d s k c) (k + 1)
    refine ⟨h1, h2, h3, fun x hx => ?_⟩
    rcases h4 x hx with h | h
    · have h' : x ∈ (d.waits ++ [(pcD (frmS s k c) 0, secS s k)]) ++ [(pcD (frmS s k c) 1, secS s k + 1)] := h
      rcases List.mem_append.1 h' with h' | h'
      · rcases List.mem_append.1 h' with h' | h'
        · exact .inl h'
        · rw [List.mem_singleton] at h'
          subst h'
          refine .inr ⟨Nat.le_refl _, ?_⟩
          rw [List.length_cons]
          unfold secS
          simp only
          omega
      · rw [List.mem_singleton] at h'
        subst h'
        refine .inr ⟨by simp, ?_⟩
        rw [List.length_cons]
        unfold secS
        simp only
        omega
    · refine .inr ⟨?_, ?_⟩
      · have := h.1
        unfold secS at this ⊢
        omega
      · have := h.2
        rw [List.length_cons]
        unfold secS at this ⊢
        omega
theorem pw_puts (hok : ShOk s) : ∀ (l : List (List UInt8)) (d : Dk) (k : Nat), Pw d → k + l.length ≤ 8 → (∀ c ∈ l, c.length ≤ 80) →
    (∃ m, putsS d s k l = ({ putsW d s k l with left := m }, 0) ∧ Pw { putsW d s k l with left := m }) ∨ ∃ d', putsS d s k l = (d', 5) ∧ Gone d d' (secS s k) (secS s (k + l.length))
  | [], d, k, h, _, _ => .inl ⟨d.left, rfl, h⟩
  | c :: l, d, k, h, h2, h3 => by
    rw [List.length_cons] at h2
    rw [putsS_cons]
    rcases pw_put h hok (show k < 8 by omega) (h3 c List.mem_cons_self) with ⟨m, e, p⟩ | ⟨d', e, g⟩
    · rw [e, if_neg (by simp)]
      simp only
      rcases pw_puts hok l _ (k + 1) p (by omega) (fun x hx => h3 x (List.mem_cons_of_mem _ hx)) with ⟨m2, e2, p2⟩ | ⟨d', e2, g2⟩
      · refine .inl ⟨m2, ?_, ?_⟩
        · rw [e2, putsW_left]
          rfl
        · rw [putsW_left] at p2
          exact p2
      · refine .inr ⟨d', e2, ?_, g2.dn, fun x hx => ?_⟩
        · exact g2.pl
        · rcases g2.ws x hx with h' | h'
          · have h'' : x ∈ (d.waits ++ [(pcD (frmS s k c) 0, secS s k)]) ++ [(pcD (frmS s k c) 1, secS s k + 1)] := h'
            rcases List.mem_append.1 h'' with h'' | h''
            · rcases List.mem_append.1 h'' with h'' | h''
              · exact .inl h''
              · rw [List.mem_singleton] at h''
                subst h''
                refine .inr ⟨Nat.le_refl _, ?_⟩
                rw [List.length_cons]
                unfold secS
                simp only
                omega
            · rw [List.mem_singleton] at h''
              subst h''
              refine .inr ⟨by simp, ?_⟩
              rw [List.length_cons]
              unfold secS
              simp only
              omega
          · refine .inr ⟨?_, ?_⟩
            · have := h'.1
              unfold secS at this ⊢
              omega
            · have := h'.2
              rw [List.length_cons]
              unfold secS at this ⊢
              omega
    · rw [e, if_pos (by simp)]
      refine .inr ⟨d', rfl, g.pl, g.dn, fun x hx => ?_⟩
      rcases g.ws x hx with h' | h'
      · exact .inl h'
      · refine .inr ⟨h'.1, ?_⟩
        have := h'.2
        rw [List.length_cons]
        unfold secS at this ⊢
        omega
end
end Go.Proofs.YthfolocjkpiljaaGreatDoor

namespace Go.Proofs.YthfolocjkpiljaaGreatDoor
open Go.RowKit

theorem owns_after {w w' : World} {base n size : Nat} {e : TypeId} {v : Value} {xs : List Value} (h : w.ownsRow base e size v n xs) (hb : Below w.heap.size w w') : w'.ownsRow base e size v n xs := by
  obtain ⟨hl, h | ⟨g, cap, cur, hv, hg, hc, r⟩⟩ := h
  · exact ⟨hl, .inl h⟩
  · exact ⟨hl, .inr ⟨g, cap, cur, hv, hg, (hb.block g (Array.getElem?_eq_some_iff.1 hc).1).trans hc, r⟩⟩

end Go.Proofs.YthfolocjkpiljaaGreatDoor

namespace Go.Proofs.YthfolocjkpiljaaGreatDoor
open Go.RowKit

open Classical in
/-- x, if it is as w below w's size; else w. -/
noncomputable def Under (w x : World) : World := if Below w.heap.size w x then x else w

theorem under_below (w x : World) : Below w.heap.size w (Under w x) := by
  unfold Under
  split
  · assumption
  · exact Below.refl _ _
theorem under_of {w y : World} (h : Below w.heap.size w y) : y = Under w y := by
  unfold Under
  rw [if_pos h]
theorem under_cell {w : World} {p : Addr} {v : Value} (h : w.cell? p = some v) : ∀ x, (Under w x).cell? p = some v := fun x => by
  have h2 := World.block_lt_of_cell? _ _ h
  rw [(under_below w x).cell h2]
  exact h
theorem under_row {w : World} {a : Option Addr} {xs : List Value} (h : Row w a xs) : ∀ x, Row (Under w x) a xs := fun x => h.below0 (under_below w x)
theorem under_call {P : Program} {f : FuncId} {args : Array Value} {w x : World} {v : Value}
    (h : Calls P f args (Under w x) fun e w' => e = .returned v ∧ Below (Under w x).heap.size (Under w x) w') : Calls P f args (Under w x) fun e w'' => e = .returned v ∧ ∃ y, w'' = Under w y :=
  h.mono fun _ w' ⟨he, hb⟩ => ⟨he, w', under_of ((under_below w x).trans (hb.mono (under_below w x).size))⟩
theorem under_same {P : Program} {f : FuncId} {args : Array Value} {w x : World} {v : Value}
    (h : Calls P f args (Under w x) fun e w' => e = .returned v ∧ Under w x = w') : Calls P f args (Under w x) fun e w'' => e = .returned v ∧ ∃ y, w'' = Under w y :=
  h.mono fun _ _ ⟨he, hm⟩ => ⟨he, x, hm.symm⟩
theorem under_drew {P : Program} {f : FuncId} {args : Array Value} {w x : World} {v : Value}
    (h : Calls P f args (Under w x) fun e w' => e = .returned v ∧ ∃ n, w' = (Under w x).drewN n) : Calls P f args (Under w x) fun e w'' => e = .returned v ∧ ∃ y, w'' = Under w y :=
  under_call (h.mono fun _ _ ⟨he, n, hm⟩ => ⟨he, by subst hm; exact below_drewN (Below.refl _ _) n⟩)

theorem wp_region_under {P : Program} {id : Nat} {Q : Exit → Act → World → Prop} {a : Act} {w : World} {l : List Oper} (hm : P.follows .mixedOrders = true) (hB : Region.lexB .any l.toArray = true)
    (h : wpQuiet P l.toArray (fun w' => ∃ x, w' = Under w x) (fun a' => ∀ w', (∃ x, w' = Under w x) → Q .normal a' w') l a) : (Code.region id l.toArray true).wp P Q a w :=
  wp_region_quiet (C := fun w' => ∃ x, w' = Under w x) hm hB ⟨_, under_of ((Below.refl _ _).drew)⟩ (by simpa using h)
end Go.Proofs.YthfolocjkpiljaaGreatDoor

namespace Go.Proofs.YthfolocjkpiljaaGreatDoor
open Go.RowKit

theorem size_nil (w : World) : Calls Tryz.prog 93 #[.pointer none] w fun e w' => e = .returned (.int .i64 0) ∧ w = w' := by
  go_enter Tryz.func93, Tryz.ntmps93
  go_wp2
  go_ret
  exact ⟨rfl, rfl⟩
theorem size_at (g n cap : Nat) (a : Option Addr) (w : World) (hc : w.cell? ⟨g, 0, none⟩ = some (.slice a n cap)) : Calls Tryz.prog 93 #[.pointer (some ⟨g, 0, none⟩)] w fun e w' => e = .returned (.int .i64 n) ∧ w = w' := by
  go_enter Tryz.func93, Tryz.ntmps93
  go_wp2
  go_ret
  exact ⟨rfl, rfl⟩

/-- A disk of n sectors: nobody's, or a box whose first cell is its sectors. -/
def DiskN (w : World) (p : Value) (n : Nat) : Prop := (p = .pointer none ∧ n = 0) ∨ ∃ g a cap, p = .pointer (some ⟨g, 0, none⟩) ∧ w.cell? ⟨g, 0, none⟩ = some (.slice a n cap)
theorem DiskN.below {w w' : World} {p : Value} {n : Nat} (h : DiskN w p n) (hb : Below w.heap.size w w') : DiskN w' p n := by
  rcases h with h | ⟨g, a, cap, hp, hc⟩
  · exact .inl h
  · exact .inr ⟨g, a, cap, hp, (hb.cell (World.block_lt_of_cell? _ _ hc)).trans hc⟩
theorem size_any (p : Value) (n : Nat) (w : World) (h : DiskN w p n) : Calls Tryz.prog 93 #[p] w fun e w' => e = .returned (.int .i64 n) ∧ w = w' := by
  rcases h with ⟨rfl, rfl⟩ | ⟨g, a, cap, rfl, hc⟩
  · exact size_nil w
  · exact size_at g n cap a w hc

abbrev regV : Value := .agg #[.int .i64 0, .int .i64 0, .int .i64 2, .int .i64 1, .int .i64 2, .int .i64 1, .int .i64 24, .int .i64 1, .int .i64 48, .int .i64 2, .int .i64 16, .int .i64 2]
set_option maxRecDepth 100000 in
theorem regions_any (w : World) : Calls Tryz.prog 240 #[] w fun e w' => e = .returned regV ∧ Below w.heap.size w w' := by
  go_enter Tryz.func240, Tryz.ntmps240
  go_wp2
  (try simp only [Exit.inBlock, Exit.then])
  refine bodyPost_ret (v := regV) ?hr rfl ⟨rfl, ?_⟩
  case hr =>
    simp only [results, Tryz.results240]
    go_simp
    try rfl
  (repeat' (first | (with_reducible exact Below.refl _ _) | (with_reducible assumption) | (with_reducible refine Below.alloc ?_ ?_ _) | (with_reducible refine Below.drew ?_) | (with_reducible refine below_drewN ?_ _) | (with_reducible refine Below.setCell ?_ ?_ _) | (with_reducible refine Below.trans ?_ (by assumption)) | go_size))

def atP (k : Nat) : Int := [(0 : Int), 0, 2, 4, 28, 124, 156].getD k 156
set_option maxRecDepth 100000 in
set_option maxHeartbeats 2000000 in
theorem all_start (w : World) : Calls Tryz.prog 184 #[.int .i64 (-1)] w fun e w' => e = .returned (.int .i64 156) ∧ Below w.heap.size w w' := by
  have i0 : ∀ w, (Instr.index 328 regV (.int .i64 0)).run Tryz.prog w = .ok (.agg #[.int .i64 0, .int .i64 0]) w := fun _ => by kernel_rfl
  have i1 : ∀ w, (Instr.index 328 regV (.int .i64 1)).run Tryz.prog w = .ok (.agg #[.int .i64 2, .int .i64 1]) w := fun _ => by kernel_rfl
  have i2 : ∀ w, (Instr.index 328 regV (.int .i64 2)).run Tryz.prog w = .ok (.agg #[.int .i64 2, .int .i64 1]) w := fun _ => by kernel_rfl
  have i3 : ∀ w, (Instr.index 328 regV (.int .i64 3)).run Tryz.prog w = .ok (.agg #[.int .i64 24, .int .i64 1]) w := fun _ => by kernel_rfl
  have i4 : ∀ w, (Instr.index 328 regV (.int .i64 4)).run Tryz.prog w = .ok (.agg #[.int .i64 48, .int .i64 2]) w := fun _ => by kernel_rfl
  have i5 : ∀ w, (Instr.index 328 regV (.int .i64 5)).run Tryz.prog w = .ok (.agg #[.int .i64 16, .int .i64 2]) w := fun _ => by kernel_rfl
  go_enter Tryz.func184, Tryz.ntmps184
  refine wp_seq_k (fun K hK => ?_)
  have HK := Lib.hid hK
  clear hK
  go_wp2
  refine HK.out _ _ ?_
  clear HK
  refine wp_seq_k (fun K hK => ?_)
  have HK := Lib.hid hK
  clear hK
  go_wp2
  refine HK.out _ _ ?_
  clear HK
  go_wp2_with (go_at_call 240; refine (regions_any _).mono ?_; rintro e w1 ⟨rfl, hb1⟩)
  go_loopw [3, 7] (fun t i wr => ∃ k : Nat, k ≤ 6 ∧ i = .int .i64 k ∧ t = .int .i64 (atP k) ∧ Below w.heap.size w wr) (fun _ i _ => 6 - (intOf i).toNat)
  case atStart => exact ⟨0, by omega, rfl, rfl, hb1⟩
  case round =>
    obtain ⟨k, hk, rfl, rfl, hbr⟩ := hrel
    have hbs := hbr.size
    have h7 : k = 0 ∨ k = 1 ∨ k = 2 ∨ k = 3 ∨ k = 4 ∨ k = 5 ∨ k = 6 := by omega
    rcases h7 with rfl | rfl | rfl | rfl | rfl | rfl | rfl
    · have ha : atP 0 = 0 := rfl
      rw [ha]
      go_wp2
      go_roundw
      case rel => exact ⟨1, by omega, by rfl, by rfl, by (repeat' (first | (with_reducible exact Below.refl _ _) | (with_reducible assumption) | (with_reducible refine Below.alloc ?_ ?_ _) | (with_reducible refine Below.drew ?_) | (with_reducible refine below_drewN ?_ _) | (with_reducible refine Below.setCell ?_ ?_ _) | (with_reducible refine Below.trans ?_ (by assumption)) | go_size))⟩
      case measure => simp [intOf]
    · have ha : atP 1 = 0 := rfl
      rw [ha]
      go_wp2
      go_roundw
      case rel => exact ⟨2, by omega, by rfl, by rfl, by (repeat' (first | (with_reducible exact Below.refl _ _) | (with_reducible assumption) | (with_reducible refine Below.alloc ?_ ?_ _) | (with_reducible refine Below.drew ?_) | (with_reducible refine below_drewN ?_ _) | (with_reducible refine Below.setCell ?_ ?_ _) | (with_reducible refine Below.trans ?_ (by assumption)) | go_size))⟩
      case measure => simp [intOf]
    · have ha : atP 2 = 2 := rfl
      rw [ha]
      go_wp2
      go_roundw
      case rel => exact ⟨3, by omega, by rfl, by rfl, by (repeat' (first | (with_reducible exact Below.refl _ _) | (with_reducible assumption) | (with_reducible refine Below.alloc ?_ ?_ _) | (with_reducible refine Below.drew ?_) | (with_reducible refine below_drewN ?_ _) | (with_reducible refine Below.setCell ?_ ?_ _) | (with_reducible refine Below.trans ?_ (by assumption)) | go_size))⟩
      case measure => simp [intOf]
    · have ha : atP 3 = 4 := rfl
      rw [ha]
      go_wp2
      go_roundw
      case rel => exact ⟨4, by omega, by rfl, by rfl, by (repeat' (first | (with_reducible exact Below.refl _ _) | (with_reducible assumption) | (with_reducible refine Below.alloc ?_ ?_ _) | (with_reducible refine Below.drew ?_) | (with_reducible refine below_drewN ?_ _) | (with_reducible refine Below.setCell ?_ ?_ _) | (with_reducible refine Below.trans ?_ (by assumption)) | go_size))⟩
      case measure => simp [intOf]
    · have ha : atP 4 = 28 := rfl
      rw [ha]
      go_wp2
      go_roundw
      case rel => exact ⟨5, by omega, by rfl, by rfl, by (repeat' (first | (with_reducible exact Below.refl _ _) | (with_reducible assumption) | (with_reducible refine Below.alloc ?_ ?_ _) | (with_reducible refine Below.drew ?_) | (with_reducible refine below_drewN ?_ _) | (with_reducible refine Below.setCell ?_ ?_ _) | (with_reducible refine Below.trans ?_ (by assumption)) | go_size))⟩
      case measure => simp [intOf]
    · have ha : atP 5 = 124 := rfl
      rw [ha]
      go_wp2
      go_roundw
      case rel => exact ⟨6, by omega, by rfl, by rfl, by (repeat' (first | (with_reducible exact Below.refl _ _) | (with_reducible assumption) | (with_reducible refine Below.alloc ?_ ?_ _) | (with_reducible refine Below.drew ?_) | (with_reducible refine below_drewN ?_ _) | (with_reducible refine Below.setCell ?_ ?_ _) | (with_reducible refine Below.trans ?_ (by assumption)) | go_size))⟩
      case measure => simp [intOf]
    · have ha : atP 6 = 156 := rfl
      rw [ha]
      go_wp2
      go_ret
      exact ⟨rfl, hbr⟩
set_option maxRecDepth 100000 in
theorem all_any (w : World) : Calls Tryz.prog 127 #[] w fun e w' => e = .returned (.int .i64 156) ∧ Below w.heap.size w w' := by
  go_enter Tryz.func127, Tryz.ntmps127
  go_wp2_with (go_at_call 184; refine (all_start _).mono ?_; rintro e w1 ⟨rfl, hb1⟩)
  go_ret
  exact ⟨rfl, hb1⟩
end Go.Proofs.YthfolocjkpiljaaGreatDoor

namespace Go.Proofs.YthfolocjkpiljaaGreatDoor
open Go.RowKit

theorem flat_len {α : Type} {f : α → List Value} {n : Nat} (hf : ∀ x, (f x).length = n) : ∀ (l : List α), (l.flatMap f).length = n * l.length
  | [] => by simp
  | x :: l => by
    have := flat_len hf l
    rw [List.flatMap_cons, List.length_append, this, hf, List.length_cons, Nat.mul_succ]
    omega
theorem flat_at {α : Type} {f : α → List Value} {n : Nat} (hf : ∀ x, (f x).length = n) : ∀ {l : List α} {i : Nat} {c : α}, l[i]? = some c → ∀ j u, (f c)[j]? = some u → (l.flatMap f)[i * n + j]? = some u
  | [], i, c, h => by simp at h
  | q :: l, 0, c, h => by
    simp at h
    subst h
    intro j u hj
    have hlt := (List.getElem?_eq_some_iff.1 hj).1
    simp only [List.flatMap_cons, Nat.zero_mul, Nat.zero_add]
    rw [List.getElem?_append_left hlt]
    exact hj
  | q :: l, i + 1, c, h => by
    simp only [List.getElem?_cons_succ] at h
    intro j u hj
    have := flat_at hf h j u hj
    simp only [List.flatMap_cons]
    rw [List.getElem?_append_right (by rw [hf, Nat.succ_mul]; omega), hf]
    rw [show (i + 1) * n + j - n = i * n + j by rw [Nat.succ_mul]; omega]
    exact this
theorem Row.flat {α : Type} {f : α → List Value} {n : Nat} (hf : ∀ x, (f x).length = n) (hn : 0 < n) {w : World} {a : Option Addr} {l : List α} (h : Row w a (l.flatMap f)) {i : Nat} {c : α} (hp : l[i]? = some c) :
    ∃ b off, a = some ⟨b, off, none⟩ ∧ b < w.heap.size ∧ ∀ j u, (f c)[j]? = some u → w.cell? ⟨b, off + i * n + j, none⟩ = some u := by
  have hi := (List.getElem?_eq_some_iff.1 hp).1
  have hpos : 0 < (l.flatMap f).length := by rw [flat_len hf]; exact Nat.mul_pos hn (by omega)
  obtain ⟨b, off, ha, hc⟩ := h.at hpos
  have hat := flat_at hf hp
  have H : ∀ j u, (f c)[j]? = some u → w.cell? ⟨b, off + i * n + j, none⟩ = some u := fun j u hj => by
    rw [Nat.add_assoc]
    exact hc _ _ (hat j u hj)
  refine ⟨b, off, ha, ?_, H⟩
  have h0 : (f c)[0]? = some ((f c)[0]'(by rw [hf]; exact hn)) := List.getElem?_eq_getElem _
  exact World.block_lt_of_cell? _ _ (H 0 _ h0)
/-- The same with the first cell's address bare. -/
theorem Row.flat0 {α : Type} {f : α → List Value} {n : Nat} (hf : ∀ x, (f x).length = n) (hn : 0 < n) {w : World} {a : Option Addr} {l : List α} (h : Row w a (l.flatMap f)) {i : Nat} {c : α} (hp : l[i]? = some c) :
    ∃ b off, a = some ⟨b, off, none⟩ ∧ b < w.heap.size ∧ (∀ u, (f c)[0]? = some u → w.cell? ⟨b, off + i * n, none⟩ = some u) ∧ ∀ j u, (f c)[j]? = some u → w.cell? ⟨b, off + i * n + j, none⟩ = some u := by
  obtain ⟨b, off, ha, hb, hc⟩ := h.flat hf hn hp
  exact ⟨b, off, ha, hb, fun u hu => hc 0 u hu, hc⟩
/-- A block's cells as a row. -/
theorem Row.of_block {w : World} {g : Nat} {cs : List Value} {T : TypeId} {xs : List Value} (h : w.heap[g]? = some (.cells cs.toArray T (0, 0))) (off : Nat) (hx : ∀ i u, xs[i]? = some u → cs[off + i]? = some u) : Row w (some ⟨g, off, none⟩) xs := by
  refine .inr ⟨g, off, rfl, fun i u hu => ?_⟩
  simp only [World.cell?, h]
  simpa using hx i u hu
theorem blk_cell {w : World} {g : Nat} {cs : Array Value} {T : TypeId} (h : w.heap[g]? = some (.cells cs T (0, 0))) (j : Nat) (v : Value) (hj : cs[j]? = some v) : w.cell? ⟨g, j, none⟩ = some v := by
  simp only [World.cell?, h]
  simpa using hj
theorem blk_frozen {w : World} {g : Nat} {cs : Array Value} {T : TypeId} (h : w.heap[g]? = some (.cells cs T (0, 0))) (j : Nat) : w.frozen? ⟨g, j, none⟩ = false := by
  simp [World.frozen?, h]
theorem blw (w : World) (o : Obj) : Below w.heap.size w (w.alloc o) := (Below.refl _ _).alloc (Nat.le_refl _) o
end Go.Proofs.YthfolocjkpiljaaGreatDoor

