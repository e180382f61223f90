/- Texts that the claim leans on, part 6: X13, X14, O3, O4, D24, D25, D26, D27. -/
import Derived.Test.YtddddemclhlfaaaGreatDoorZ1
import Derived.Test.YtddddemclhlfaaaGreatDoorZ2
import Derived.Test.YtddddemclhlfaaaGreatDoorZ3
import Derived.Test.YtddddemclhlfaaaGreatDoorZ4
import Derived.Test.YtddddemclhlfaaaGreatDoorZ5
import Derived.Test.YtddddemclhlfaaaGreatDoorRows
import Derived.WalkKit
import Derived.WalkSpells
import Derived.WalkLawsBesides
import Derived.Handy
import Derived.Deep.QuietTactic
import Derived.BigQuiet
import Derived.Deep.DeepCutAuto
import Derived.Lib.Hide
import Derived.RegionTactic
import Derived.ChangeAlike
import Derived.Laws.ResultCell
import Derived.Laws.BitsAllLaws
import Derived.Outline
import Derived.Laws.MakeOwn
import Derived.Great.BuildSlice
import Derived.Great.FillDense
import Derived.Laws.Rows
import Derived.Deep.Quiet
import Derived.Deep.RegionHeld3
import Derived.ProofKit
import Derived.OpenShut
import Derived.Laws.CopyOwn
import Derived.Laws.CopyRow
import Derived.Laws.NewBlocks
import Derived.Deep.RegionLaw
namespace Go.Proofs.YtddddemclhlfaaaGreatDoor
/-! Without faults nothing is hurt. -/
def CleanL (l : List Pl) : Prop := ∀ p ∈ l, p.rest = p.meant ∧ p.lost = false
theorem spend_pl (d : Dk) : (spendD d).1.pl = d.pl ∧ (spendD d).1.waits = d.waits := by
  unfold spendD
  split
  · exact ⟨rfl, rfl⟩
  · split <;> exact ⟨rfl, rfl⟩
theorem write_pl (d : Dk) (s : Int) (b : List UInt8) : (writeD d s b).1.pl = d.pl ∧ (writeD d s b).1.waits.length ≤ d.waits.length + 1 := by
  obtain ⟨h1, h2⟩ := spend_pl d
  unfold writeD
  split
  · exact ⟨rfl, by simp⟩
  · split
    · exact ⟨rfl, by simp⟩
    · split
      · exact ⟨h1, by rw [h2]; omega⟩
      · exact ⟨h1, by simp [h2]⟩
theorem flush_pl (d : Dk) : ((flushD d).1.pl = d.pl ∧ (flushD d).1.waits = d.waits) ∨ ((flushD d).1.pl = thruD d.pl d.waits 0 (fun _ => true) ∧ (flushD d).1.waits = []) := by
  obtain ⟨h1, h2⟩ := spend_pl d
  unfold flushD
  split
  · exact .inl ⟨rfl, rfl⟩
  · split
    · exact .inl ⟨h1, h2⟩
    · exact .inr ⟨by simp [h1, h2], rfl⟩
theorem crash_pl (d : Dk) (keep : List Bool) : ((crashD d keep).1.pl = d.pl ∧ (crashD d keep).1.waits = d.waits) ∨ ((crashD d keep).1.pl = thruD d.pl d.waits 0 (keepB keep) ∧ (crashD d keep).1.waits = []) := by
  unfold crashD
  split
  · exact .inl ⟨rfl, rfl⟩
  · split
    · exact .inl ⟨rfl, rfl⟩
    · exact .inr ⟨rfl, rfl⟩
theorem start_pl (d : Dk) : (startD d).1.pl = d.pl ∧ (startD d).1.waits = d.waits := by
  unfold startD
  split
  · exact ⟨rfl, rfl⟩
  · split <;> exact ⟨rfl, rfl⟩
theorem power_pl (d : Dk) (n : Int) : (powerD d n).1.pl = d.pl ∧ (powerD d n).1.waits = d.waits := by
  unfold powerD
  split
  · exact ⟨rfl, rfl⟩
  · split <;> exact ⟨rfl, rfl⟩
/-! Acts. -/
def sectorL (n : Int) (bytes : List UInt8) : List UInt8 := if 0 < bytes.length then bytes else List.replicate 64 (UInt8.ofNat (n % 256).toNat)
def do5 (d : Dk) (k : Nat) (s n : Int) (bytes : List UInt8) (keep : List Bool) : Dk × Int :=
  if k % 9 = 0 then flushD d else if k % 9 = 1 then crashD d keep else if k % 9 = 2 then startD d else if k % 9 = 3 then flipD d s n else if k % 9 = 4 then loseD d s else if k % 9 = 5 then strayD d s n else if k % 9 = 8 then powerD d n else writeD d s (sectorL n bytes)
structure Wk (d : Dk) (n : Nat) : Prop where
  len : d.pl.length = 156
  wt : d.waits.length ≤ n
theorem thru_len2 (pl : List Pl) (ws : List (List UInt8 × Nat)) (k : Nat) (is : Nat → Bool) : (thruD pl ws k is).length = pl.length := thru_len ws pl k is
theorem Wk.of {d d' : Dk} {n : Nat} (h : Wk d n) (h1 : d'.pl.length = d.pl.length) (h2 : d'.waits.length ≤ d.waits.length + 1) : Wk d' (n + 1) := ⟨h1.trans h.len, by have := h.wt; omega⟩
theorem flip_pl (d : Dk) (s n : Int) : (flipD d s n).1.pl.length = d.pl.length ∧ (flipD d s n).1.waits = d.waits ∧ ∀ j : Int, meantD (flipD d s n).1 j = meantD d j := by
  unfold flipD
  split
  · exact ⟨rfl, rfl, fun _ => rfl⟩
  · split
    · exact ⟨rfl, rfl, fun _ => rfl⟩
    · refine ⟨by simp, rfl, fun j => ?_⟩
      unfold meantD thereD
      simp only [List.length_modify, List.getD_eq_getElem?_getD, List.getElem?_modify]
      congr 2
      cases hj : d.pl[j.toNat]? with
      | none => rfl
      | some p => by_cases he : s.toNat = j.toNat <;> simp [he]
theorem lose_pl (d : Dk) (s : Int) : (loseD d s).1.pl.length = d.pl.length ∧ (loseD d s).1.waits = d.waits ∧ ∀ j : Int, meantD (loseD d s).1 j = meantD d j := by
  unfold loseD
  split
  · exact ⟨rfl, rfl, fun _ => rfl⟩
  · refine ⟨by simp, rfl, fun j => ?_⟩
    unfold meantD thereD
    simp only [List.length_modify, List.getD_eq_getElem?_getD, List.getElem?_modify]
    congr 2
    cases hj : d.pl[j.toNat]? with
    | none => rfl
    | some p => by_cases he : s.toNat = j.toNat <;> simp [he]
theorem stray_pl (d : Dk) (s t : Int) : (strayD d s t).1.pl.length = d.pl.length ∧ (strayD d s t).1.waits = d.waits ∧ ∀ j : Int, meantD (strayD d s t).1 j = meantD d j := by
  unfold strayD
  split
  · exact ⟨rfl, rfl, fun _ => rfl⟩
  · split
    · exact ⟨rfl, rfl, fun _ => rfl⟩
    · refine ⟨by simp, rfl, fun j => ?_⟩
      unfold meantD thereD
      simp only [List.length_modify, List.getD_eq_getElem?_getD, List.getElem?_modify]
      congr 2
      cases hj : d.pl[j.toNat]? with
      | none => rfl
      | some p => by_cases he : t.toNat = j.toNat <;> simp [he]
theorem do5_wk {d : Dk} {m : Nat} (h : Wk d m) (k : Nat) (s n : Int) (bytes : List UInt8) (keep : List Bool) : Wk (do5 d k s n bytes keep).1 (m + 1) := by
  unfold do5
  split
  · rcases flush_pl d with ⟨h1, h2⟩ | ⟨h1, h2⟩
    · exact h.of (by rw [h1]) (by rw [h2]; omega)
    · exact h.of (by rw [h1, thru_len2]) (by rw [h2]; simp)
  · split
    · rcases crash_pl d keep with ⟨h1, h2⟩ | ⟨h1, h2⟩
      · exact h.of (by rw [h1]) (by rw [h2]; omega)
      · exact h.of (by rw [h1, thru_len2]) (by rw [h2]; simp)
    · split
      · obtain ⟨h1, h2⟩ := start_pl d
        exact h.of (by rw [h1]) (by rw [h2]; omega)
      · split
        · obtain ⟨h1, h2, _⟩ := flip_pl d s n
          exact h.of h1 (by rw [h2]; omega)
        · split
          · obtain ⟨h1, h2, _⟩ := lose_pl d s
            exact h.of h1 (by rw [h2]; omega)
          · split
            · obtain ⟨h1, h2, _⟩ := stray_pl d s n
              exact h.of h1 (by rw [h2]; omega)
            · split
              · obtain ⟨h1, h2⟩ := power_pl d n
                exact h.of (by rw [h1]) (by rw [h2]; omega)
              · obtain ⟨h1, h2⟩ := write_pl d s (sectorL n bytes)
                exact h.of (by rw [h1]) h2
end Go.Proofs.YtddddemclhlfaaaGreatDoor
namespace Go.Proofs.YtddddemclhlfaaaGreatDoor
/-! Acts that came in. -/
structure A5 where
  kind : Nat
  sec : Int
  n : Int
  ba : Option Addr
  bytes : List UInt8
  bc : Nat
  ka : Option Addr
  keep : List Bool
  kc : Nat
structure A6 where
  sl : Bool
  tg : Tg
  oa : Option Addr
  body : List UInt8
  oc : Nat
  dk : A5
def do5A (d : Dk) (x : A5) : Dk × Int := do5 d x.kind x.sec x.n x.bytes x.keep
def wideT (t : Tg) : Nat := if mayTg t = true then (wideN t.reg).toNat else 0
def sealR (t : Tg) (body : List UInt8) (n : Nat) : List UInt8 := if mayTg t = true ∧ roomN (64 * n) ≠ 0 ∧ body.length ≤ roomN (64 * n) then sealF t body (64 * n) else []
def sealE (t : Tg) (body : List UInt8) (n : Nat) : Int := if mayTg t = false ∨ roomN (64 * n) = 0 then 2 else if roomN (64 * n) < body.length then 3 else 0
def pcD (b : List UInt8) (k : Nat) : List UInt8 := (b.drop (64 * k)).take 64
def putsD (d : Dk) (f : Int) (b : List UInt8) : Nat → Dk
  | 0 => d
  | k + 1 => (writeD (putsD d f b k) (f + k) (pcD b k)).1
def do6 (d : Dk) (x : A6) : Dk := if x.sl = false then (do5A d x.dk).1 else putsD d (firstN x.tg.reg x.tg.pla) (sealR x.tg x.body (wideT x.tg)) ((sealR x.tg x.body (wideT x.tg)).length / 64)
def fault (x : A6) : Bool := !x.sl && (decide (3 ≤ x.dk.kind % 9) && decide (x.dk.kind % 9 ≤ 5))
theorem wideN_le (r : Int) : 0 ≤ wideN r ∧ wideN r ≤ 2 := by
  unfold wideN
  repeat' split
  all_goals omega
theorem wideT_le (t : Tg) : wideT t ≤ 2 := by
  unfold wideT
  split
  · have := wideN_le t.reg; omega
  · omega
theorem wide_may {t : Tg} (h : mayTg t = true) : (wideT t : Int) = wideN t.reg ∧ 1 ≤ wideT t ∧ wideT t ≤ 2 := by
  obtain ⟨h1, h2, _⟩ := mayTg_small h
  have h3 := wideN_le t.reg
  have h4 : 1 ≤ wideN t.reg := by
    have hr : t.reg = 1 ∨ t.reg = 2 ∨ t.reg = 3 ∨ t.reg = 4 ∨ t.reg = 5 := by omega
    unfold wideN
    rcases hr with h | h | h | h | h <;> rw [h] <;> decide
  unfold wideT
  rw [if_pos h]
  omega
theorem sealR_len (t : Tg) (body : List UInt8) (n : Nat) : (sealR t body n).length = 64 * n ∧ (n = 1 ∨ n = 2) ∧ sealE t body n = 0 ∨ (sealR t body n).length = 0 ∧ sealE t body n ≠ 0 := by
  unfold sealR sealE
  by_cases h1 : mayTg t = true
  · by_cases h2 : roomN (64 * n) = 0
    · rw [if_neg (by simp [h2]), if_pos (.inr h2)]
      exact .inr ⟨rfl, by decide⟩
    · by_cases h3 : body.length ≤ roomN (64 * n)
      · rw [if_pos ⟨h1, h2, h3⟩, if_neg (by simp [h1, h2]), if_neg (by omega)]
        have hn := (roomN_of (n := 64 * n) (by omega)).1
        exact .inl ⟨sealF_len (by omega) h3, by omega, rfl⟩
      · rw [if_neg (by omega), if_neg (by simp [h1, h2]), if_pos (by omega)]
        exact .inr ⟨rfl, by decide⟩
  · rw [if_neg (by simp [h1]), if_pos (.inl (by simpa using h1))]
    exact .inr ⟨rfl, by decide⟩
theorem sealR_le (t : Tg) (body : List UInt8) (n : Nat) : (sealR t body n).length ≤ 128 ∧ (sealR t body n).length / 64 ≤ 2 := by
  rcases sealR_len t body n with ⟨h, h2, _⟩ | ⟨h, _⟩ <;> omega
theorem puts_pl (d : Dk) (f : Int) (b : List UInt8) : ∀ k, (putsD d f b k).pl = d.pl ∧ (putsD d f b k).waits.length ≤ d.waits.length + k
  | 0 => ⟨rfl, by simp [putsD]⟩
  | k + 1 => by
    obtain ⟨h1, h2⟩ := puts_pl d f b k
    obtain ⟨h3, h4⟩ := write_pl (putsD d f b k) (f + k) (pcD b k)
    exact ⟨h3.trans h1, by show (writeD (putsD d f b k) (f + k) (pcD b k)).1.waits.length ≤ _; omega⟩
theorem do6_wk {d : Dk} {m : Nat} (h : Wk d m) (x : A6) : Wk (do6 d x) (m + 2) := by
  unfold do6
  split
  · have := do5_wk h x.dk.kind x.dk.sec x.dk.n x.dk.bytes x.dk.keep
    exact ⟨this.len, by have := this.wt; unfold do5A; omega⟩
  · obtain ⟨h1, h2⟩ := puts_pl d (firstN x.tg.reg x.tg.pla) (sealR x.tg x.body (wideT x.tg)) ((sealR x.tg x.body (wideT x.tg)).length / 64)
    exact ⟨by rw [h1]; exact h.len, by have := h.wt; have := (sealR_le x.tg x.body (wideT x.tg)).2; omega⟩
/-! A frame that is put. -/
structure Ready (d : Dk) : Prop where
  len : d.pl.length = 156
  dn : d.down = false
  de : d.dead = false
  lf : d.left < 0 ∨ 4 ≤ d.left
structure Held (d : Dk) (f : Nat) (b : List UInt8) (n : Nat) : Prop where
  len : d.pl.length = 156
  at_ : ∀ k, k < n → d.pl[f + k]? = some ⟨pcD b k, pcD b k, false⟩
theorem there_of {d : Dk} {j : Nat} (hl : d.pl.length = 156) (hj : j < 156) : thereD d (j : Int) = 0 := by
  unfold thereD
  rw [if_neg (by omega), if_neg (by omega)]
def MeantIs (d : Dk) (f : Nat) (b : List UInt8) (n : Nat) : Prop := ∀ k, k < n → meantD d ((f + k : Nat) : Int) = (pcD b k, 0)
theorem Held.meant {d : Dk} {f n : Nat} {b : List UInt8} (h : Held d f b n) (h3 : f + n ≤ 156) : MeantIs d f b n := fun k hk => by
  unfold meantD
  rw [there_of h.len (by omega), if_neg (by decide), Int.toNat_natCast, List.getD_eq_getElem?_getD, h.at_ k hk]
  rfl
theorem place_of {t : Tg} (h : mayTg t = true) : ∃ f : Nat, firstN t.reg t.pla = f ∧ f + wideT t ≤ 156 ∧ ∀ d : Dk, d.pl.length = 156 → askG d t.rep t.reg t.pla = 0 := by
  obtain ⟨h1, h2, h3, h4, _⟩ := mayTg_parts h
  obtain ⟨g1, g2, g3⟩ := mayTg_small h
  obtain ⟨w1, w2, w3⟩ := wide_may h
  have hp : 0 < placesN t.reg := by omega
  have hf : firstN t.reg t.pla = startN t.reg + t.pla * wideN t.reg := by unfold firstN; rw [if_neg (by omega)]
  have h0 : 0 ≤ firstN t.reg t.pla ∧ firstN t.reg t.pla + wideN t.reg ≤ 156 := by
    rw [hf]
    have hr : t.reg = 1 ∨ t.reg = 2 ∨ t.reg = 3 ∨ t.reg = 4 ∨ t.reg = 5 := by omega
    rcases hr with h | h | h | h | h <;> rw [h] at h4 ⊢ <;> simp [placesN, startN, wideN] at h4 ⊢ <;> omega
  refine ⟨(firstN t.reg t.pla).toNat, by omega, by omega, fun d hd => ?_⟩
  unfold askG askN
  rw [hd, if_neg (by decide), if_neg (by omega)]
/-! A disk that is got up anew. -/
def upped (d : Dk) : Dk := (powerD (startD (if upD d = true then d else (crashD d []).1)).1 1000).1
theorem new_wk (n : Nat) : Wk (newDk 156) n := ⟨List.length_replicate, Nat.zero_le _⟩
end Go.Proofs.YtddddemclhlfaaaGreatDoor
namespace Go.Proofs.YtddddemclhlfaaaGreatDoor
open Go.RowKit
def widthB (k : Int) : Bool := k == 1 || k == 2 || k == 4 || k == 6
theorem width_any (k : Int) (w : World) : Calls Tryz.prog 142 #[.int .i64 k] w fun e w' => e = .returned (.bool (widthB k)) ∧ w = w' := by
  by_cases h : k = 1 ∨ k = 2 ∨ k = 4 ∨ k = 6
  · rcases h with rfl | rfl | rfl | rfl
    all_goals
      go_enter Tryz.func142, Tryz.ntmps142
      go_wp2
      go_ret
      exact ⟨rfl, rfl⟩
  · have h1 : (k == 1) = false := by rw [beq_eq_false_iff_ne]; omega
    have h2 : (k == 2) = false := by rw [beq_eq_false_iff_ne]; omega
    have h3 : (k == 4) = false := by rw [beq_eq_false_iff_ne]; omega
    have h4 : (k == 6) = false := by rw [beq_eq_false_iff_ne]; omega
    go_enter Tryz.func142, Tryz.ntmps142
    go_wp2
    go_ret
    exact ⟨ret_bool (by simp [widthB, h1, h2, h3, h4]), rfl⟩
theorem widthB_many (k : Int) : widthB k = !(manyI k == 0) := by
  unfold widthB manyI
  by_cases h1 : k = 1; · subst h1; rfl
  by_cases h2 : k = 2; · subst h2; rfl
  by_cases h3 : k = 4; · subst h3; rfl
  by_cases h4 : k = 6; · subst h4; rfl
  simp [h1, h2, h3, h4]
theorem fits_pow {kk nn : Nat} (hk : kk = 1 ∨ kk = 2 ∨ kk = 4 ∨ kk = 6) : fitsB kk nn = (((nn / 256 ^ kk : Nat) : Int) == 0) := by
  have h : (((nn / 256 ^ kk : Nat) : Int) == 0) = decide (nn < 256 ^ kk) := by
    rw [Bool.eq_iff_iff]
    simp only [beq_iff_eq, decide_eq_true_eq]
    rw [show (((nn / 256 ^ kk : Nat) : Int) = 0 ↔ nn / 256 ^ kk = 0) from by omega, Nat.div_eq_zero_iff]
    constructor
    · rintro (h | h)
      · have := Nat.pow_pos (n := kk) (show 0 < 256 by omega)
        omega
      · exact h
    · intro h; exact .inr h
  rw [h]
  unfold fitsB manyI
  rcases hk with rfl | rfl | rfl | rfl
  all_goals
    rw [Bool.eq_iff_iff]
    simp
    try omega
set_option maxHeartbeats 1000000 in
theorem rfits_any (k n : Int) (w : World) (hn : n ≤ 9223372036854775807) : Calls Tryz.prog 126 #[.int .i64 k, .int .i64 n] w fun e w' => e = .returned (.bool (fitsB k n)) ∧ w = w' := by
  by_cases hk : k = 1 ∨ k = 2 ∨ k = 4 ∨ k = 6
  · have hw : widthB k = true := by rcases hk with rfl | rfl | rfl | rfl <;> rfl
    have HW := Lib.hid hw
    clear hw
    by_cases h0 : 0 ≤ n
    · obtain ⟨kk, rfl⟩ : ∃ kk : Nat, k = kk := ⟨k.toNat, by omega⟩
      obtain ⟨nn, rfl⟩ : ∃ nn : Nat, n = nn := ⟨n.toNat, by omega⟩
      have hk6 : kk ≤ 6 := by omega
      rw [fits_pow (show kk = 1 ∨ kk = 2 ∨ kk = 4 ∨ kk = 6 by omega)]
      go_enter Tryz.func126, Tryz.ntmps126
      refine wp_seq_k (fun K hK => ?_)
      have HK := Lib.hid hK
      clear hK
      go_wp2
      refine HK.out _ _ ?_
      clear HK
      refine wp_seq_k (fun K hK => ?_)
      have HK := Lib.hid hK
      clear hK
      go_wp2_with (go_at_call 142; refine (width_any _ _).mono ?_; rintro e w' ⟨rfl, rfl⟩; rw [HW.out])
      refine HK.out _ _ ?_
      clear HK
      refine wp_seq_k (fun K hK => ?_)
      go_cut [1] (fun n wx => n = .int .i64 ((nn / 256 ^ kk : Nat) : Int) ∧ wx = w)
      case first =>
        go_wp2_with fail
        go_loopw [1, 5] (fun n i wr => ∃ j : Nat, j ≤ kk ∧ i = .int .i64 j ∧ n = .int .i64 ((nn / 256 ^ j : Nat) : Int) ∧ wr = w) (fun _ i _ => kk - (intOf i).toNat)
        case atStart => exact ⟨0, by omega, rfl, by simp, rfl⟩
        case round =>
          obtain ⟨j, hj, rfl, rfl, rfl⟩ := hrel
          have hq : nn / 256 ^ (j + 1) = nn / 256 ^ j / 256 := by rw [Nat.pow_succ, Nat.div_div_eq_div_mul]
          have hqn : nn / 256 ^ j ≤ nn := Nat.div_le_self _ _
          by_cases hlt : j < kk
          · generalize nn / 256 ^ j = q at *
            have HQ := Lib.hid hq
            clear hq
            go_wp2
            refine ⟨⟨j + 1, by omega, by go_num, ?_, by first | trivial | rfl⟩, by simp [intOf]; omega⟩
            rw [HQ.out]
            exact int_eq (by omega)
          · obtain rfl : j = kk := by omega
            clear hq
            generalize nn / 256 ^ j = q at *
            go_wp2
            go_meet
            exact ⟨rfl, by first | trivial | rfl⟩
      obtain ⟨rfl, rfl⟩ := hcut
      refine hK _ _ ?_; clear hK
      generalize nn / 256 ^ kk = q at *
      go_wp2
      go_ret
      exact ⟨rfl, rfl⟩
    · go_enter Tryz.func126, Tryz.ntmps126
      go_wp2_with (go_at_call 142; refine (width_any _ _).mono ?_; rintro e w' ⟨rfl, rfl⟩; rw [HW.out])
      go_ret
      exact ⟨ret_bool (by unfold fitsB; rw [decide_eq_false (by omega)]; rfl), rfl⟩
  · have hm : manyI k = 0 := by unfold manyI; rw [if_neg (by omega), if_neg (by omega), if_neg (by omega), if_neg (by omega)]
    have hw : widthB k = false := by rw [widthB_many, hm]; rfl
    have HW := Lib.hid hw
    have hf : fitsB k n = false := by unfold fitsB; rw [hm]; simp
    have HF := Lib.hid hf
    clear hw hm hf
    go_enter Tryz.func126, Tryz.ntmps126
    go_wp2_with (go_at_call 142; refine (width_any _ _).mono ?_; rintro e w' ⟨rfl, rfl⟩; rw [HW.out])
    go_ret
    exact ⟨ret_bool HF.out.symm, rfl⟩
end Go.Proofs.YtddddemclhlfaaaGreatDoor
namespace Go.Proofs.YtddddemclhlfaaaGreatDoor
open Go.RowKit
set_option maxHeartbeats 1000000 in
theorem rput_any (k n : Int) (w : World) (hn64 : n ≤ 9223372036854775807) : Calls Tryz.prog 90 #[.int .i64 k, .int .i64 n] w fun e w' => OwnBytes w.heap.size (oputL k n) (oputE k n) e w' ∧ Below w.heap.size w w' := by
  unfold oputL oputE
  cases hf : fitsB k n
  · rw [if_neg (by simp), if_neg (by simp)]
    have HF := Lib.hid hf
    clear hf
    go_enter Tryz.func90, Tryz.ntmps90
    go_wp2_with (go_at_call 126; refine (rfits_any _ _ _ hn64).mono ?_; rintro e w1 ⟨rfl, rfl⟩; rw [HF.out])
    go_ret2
    exact ⟨⟨.slice none 0 0, rfl, World.ownsRow_nil _ _ _ _⟩, Below.refl _ _⟩
  · rw [if_pos rfl, if_pos rfl]
    obtain ⟨hk, h0, hn⟩ := fits_w hf
    have HF := Lib.hid hf
    clear hf
    obtain ⟨kk, rfl⟩ : ∃ kk : Nat, k = kk := ⟨k.toNat, by omega⟩
    obtain ⟨nn, rfl⟩ : ∃ nn : Nat, n = nn := ⟨n.toNat, by omega⟩
    simp only [Int.toNat_natCast]
    have hk6 : kk ≤ 6 := by omega
    have hn48 := (manyI_bd kk).2
    go_enter Tryz.func90, Tryz.ntmps90
    refine wp_seq_k (fun K hK => ?_)
    have HK := Lib.hid hK
    clear hK
    go_wp2
    refine HK.out _ _ ?_
    clear HK
    refine wp_seq_k (fun K hK => ?_)
    have HK := Lib.hid hK
    clear hK
    go_wp2_with (go_at_call 126; refine (rfits_any _ _ _ hn64).mono ?_; rintro e w1 ⟨rfl, rfl⟩; rw [HF.out])
    refine HK.out _ _ ?_
    clear HK
    refine wp_seq_k (fun K hK => ?_)
    have HK := Lib.hid hK
    clear hK
    go_wp2
    refine HK.out _ _ ?_
    clear HK
    refine wp_seq_k (fun K hK => ?_)
    go_cut [6] (fun out wx => wx.ownsRow w.heap.size 5 1 out kk (bys (le kk nn)) ∧ Below w.heap.size w wx)
    case first =>
      go_wp2_with fail
      go_loopw [1, 6, 7] (fun n out i wr => ∃ j : Nat, j ≤ kk ∧ i = .int .i64 j ∧ n = .int .i64 ((nn / 256 ^ j : Nat) : Int) ∧ wr.ownsRow w.heap.size 5 1 out j (bys (le j nn)) ∧ Below w.heap.size w wr) (fun _ _ i _ => kk - (intOf i).toNat)
      case atStart => exact ⟨0, by omega, rfl, by simp, World.ownsRow_nil _ _ _ _, Below.refl _ _⟩
      case round =>
        obtain ⟨j, hj, rfl, rfl, hown, hb⟩ := hrel
        have hq : nn / 256 ^ (j + 1) = nn / 256 ^ j / 256 := by rw [Nat.pow_succ, Nat.div_div_eq_div_mul]
        have hqn : nn / 256 ^ j ≤ nn := Nat.div_le_self _ _
        have hsn := le_snoc j nn
        have hbs := hb.size
        by_cases hlt : j < kk
        · generalize nn / 256 ^ j = q at *
          have HQ := Lib.hid hq
          have HS := Lib.hid hsn
          clear hq hsn
          go_wp2_with (at_builtin; refine wpList_append1 rfl _ _ 34 5 elByte rfl w.heap.size _ _ _ rfl hown #[.int .u8 ((q : Int) % 256)] rfl (by simp; rfl) _ rfl (by omega) (by omega) (by omega) ?_)
          intro v' w' hown' hb' _
          have hb2 := hb.trans hb'
          go_wp2
          refine ⟨⟨j + 1, by omega, by go_num, ?_, ?_, hb2⟩, by simp [intOf]; omega⟩
          · rw [HQ.out]
            exact int_eq (by omega)
          · rw [HS.out, bys_app]
            have e1 : bys [UInt8.ofNat (q % 256)] = [.int .u8 ((q : Int) % 256)] := by simp only [bys, List.map_cons, List.map_nil, byv_low]
            rw [e1]
            simpa using hown'
        · obtain rfl : j = kk := by omega
          clear hq hsn
          generalize nn / 256 ^ j = q at *
          go_wp2
          go_meet
          exact ⟨hown, hb⟩
    obtain ⟨hown2, hb3⟩ := hcut
    refine hK _ _ ?_; clear hK
    go_wp2
    go_ret2
    refine ⟨⟨_, rfl, ?_⟩, hb3⟩
    rw [le_len]
    exact hown2
theorem copy_any (a : Option Addr) (cap : Nat) (l : List UInt8) (w : World) (hs : SlB w a cap l) (hl : l.length ≤ 1000000) :
    Calls Tryz.prog 21 #[.slice a l.length cap] w fun e w' => OwnRes w.heap.size 5 1 l.length (bys l) e w' ∧ Below w.heap.size w w' := by
  go_enter Tryz.func21, Tryz.ntmps21
  have hown := World.ownsRow_nil w w.heap.size 5 1
  have hmx := hs.max
  unfold maxLen at hmx
  go_wp2_with (at_builtin; refine wpList_append_row rfl _ _ 34 5 elByte rfl w.heap.size _ _ _ rfl hown a l.length cap (bys l) rfl (by rw [bys_len]; simp) hs.row bys_one (by omega) (by omega) (Nat.le_refl _) ?_)
  intro v' w' ho hb
  go_wp2
  go_ret
  refine ⟨⟨_, rfl, ?_⟩, hb⟩
  simpa using ho
end Go.Proofs.YtddddemclhlfaaaGreatDoor
namespace Go.Proofs.YtddddemclhlfaaaGreatDoor
open Go.RowKit
theorem runC_snoc (r : Nat) (l : List UInt8) (j : Nat) (h : j < l.length) : runC r (l.take (j + 1)) = stepC (runC r (l.take j)) l[j] := by
  rw [List.take_succ_eq_append_getElem h, runC_app]
  rfl
theorem nib_bits (r k : Nat) (h : r < 4294967296) (hk : r % 16 = k) : bits .xor .u32 ((r : Int) / 16) (half k : Nat) = ((nib r : Nat) : Int) ∧ bits .and .u32 (r : Int) 15 = (k : Int) := by
  constructor
  · have h2 : half k < 4294967296 := half_lt _ (by omega)
    have := u32_xor_nat (r / 16) (half k) (by omega) h2
    rw [show ((r / 16 : Nat) : Int) = (r : Int) / 16 by omega] at this
    rw [this, ← hk]
    rfl
  · have := u32_and_nat r 15 h (by decide)
    rw [nat_mask4, hk] at this
    exact this
set_option maxRecDepth 100000 in
set_option maxHeartbeats 1000000 in
theorem extend_any (a : Option Addr) (cap : Nat) (l : List UInt8) (w : World) (hs : SlB w a cap l) : Calls Tryz.prog 146 #[.int .u32 0, .slice a l.length cap] w fun e w' => e = .returned (.int .u32 (crcS l : Nat)) ∧ Below w.heap.size w w' := by
  have hmx := hs.max
  have hle := hs.le
  unfold maxLen at hmx
  go_enter Tryz.func146, Tryz.ntmps146
  refine wp_seq_k (fun K hK => ?_)
  have HK := Lib.hid hK
  clear hK
  go_wp2
  refine HK.out _ _ ?_
  clear HK
  refine wp_seq_k (fun K hK => ?_)
  have HK := Lib.hid hK
  clear hK
  go_wp2_with (go_at_call 155; refine (halves_any _).mono ?_; rintro e w1 ⟨rfl, hb1⟩)
  refine HK.out _ _ ?_
  clear HK
  have hcell : ∀ k, k < 16 → (w1.alloc (.cells halL.toArray 216)).cell? ⟨w1.heap.size, k, none⟩ = some (.int .u32 (half k : Nat)) := fun k hk => by
    rw [cell_new, List.getElem?_toArray]
    exact hal_c k hk
  have hb2 : Below w.heap.size w (w1.alloc (.cells halL.toArray 216)) := hb1.trans ((blw w1 _).mono hb1.size)
  change Code.wp _ _ _ _ (w1.alloc (.cells halL.toArray 216))
  generalize w1.alloc (.cells halL.toArray 216) = w2 at *
  generalize w1.heap.size = tb at *
  have HC := Lib.hid hcell
  clear hcell
  have hsg : IntKind.u32.signed = false := rfl
  have hn0 : bits .xor .u32 IntKind.u32.max 0 = ((4294967295 : Nat) : Int) := by decide
  refine wp_seq_k (fun K hK => ?_)
  have HK := Lib.hid hK
  clear hK
  go_wp2
  refine HK.out _ _ ?_
  clear HK
  clear hn0
  refine wp_seq_k (fun K hK => ?_)
  have HK := Lib.hid hK
  clear hK
  go_wp2_with fail
  go_loopw [14, 6, 8] (fun i r _ wr => ∃ j : Nat, j ≤ l.length ∧ i = .int .i64 (j : Nat) ∧ r = .int .u32 (runC ones (l.take j) : Nat) ∧ wr = w2) (fun i _ _ _ => l.length - (intOf i).toNat)
  case atStart => exact ⟨0, by omega, rfl, rfl, rfl⟩
  case round =>
    obtain ⟨j, hj, rfl, rfl, rfl⟩ := hrel
    have hlt0 := runC_lt (l.take j) (r := ones) (by decide)
    by_cases hlt : j < l.length
    case pos =>
      obtain ⟨b, off, rfl, hc⟩ := (hs.row.below0 hb2).byte hlt
      have hsn := Lib.hid (runC_snoc ones l j hlt)
      generalize l[j] = x at *
      have hx := x.toNat_lt
      generalize runC ones (l.take j) = r at *
      obtain ⟨r1, hr1⟩ : ∃ r1, r ^^^ x.toNat = r1 := ⟨_, rfl⟩
      have hl1 : r1 < 4294967296 := by rw [← hr1]; exact Nat.xor_lt_two_pow (n := 32) hlt0 (by omega)
      have hx1 : bits .xor .u32 (r : Int) (x.toNat : Int) = (r1 : Int) := by rw [u32_xor_nat r x.toNat hlt0 (by omega), hr1]
      obtain ⟨k1, hk1, hk1l⟩ : ∃ k, r1 % 16 = k ∧ k < 16 := ⟨_, rfl, by omega⟩
      obtain ⟨hx2, ha1⟩ := nib_bits r1 k1 hl1 hk1
      have hl2 := nib_lt hl1
      obtain ⟨r2, hr2⟩ : ∃ r2, nib r1 = r2 := ⟨_, rfl⟩
      rw [hr2] at hx2 hl2
      obtain ⟨k2, hk2, hk2l⟩ : ∃ k, r2 % 16 = k ∧ k < 16 := ⟨_, rfl, by omega⟩
      obtain ⟨hx3, ha2⟩ := nib_bits r2 k2 hl2 hk2
      obtain ⟨r3, hr3⟩ : ∃ r3, nib r2 = r3 := ⟨_, rfl⟩
      rw [hr3] at hx3
      have hst : stepC r x = r3 := by unfold stepC; rw [hr1, hr2, hr3]
      have HS := Lib.hid (hsn.out.trans hst)
      have hc1 := HC.out k1 hk1l
      have hc2 := HC.out k2 hk2l
      clear hr1 hk1 hr2 hk2 hr3 hst hsn
      go_wp2
      go_roundw
      case rel => exact ⟨j + 1, by omega, by go_num, by rw [HS.out], trivial⟩
      case measure => simp [intOf]; omega
    case neg =>
      obtain rfl : j = l.length := by omega
      have hcr : bits .xor .u32 IntKind.u32.max (runC ones l : Nat) = ((crcS l : Nat) : Int) := by
        have h1 := runC_lt l (r := ones) (by decide)
        have h2 := u32_xor_nat 4294967295 (runC ones l) (by decide) h1
        rw [show IntKind.u32.max = ((4294967295 : Nat) : Int) by decide, h2, Nat.xor_comm]
        rfl
      rw [List.take_length]
      generalize runC ones l = r at *
      generalize crcS l = z at *
      go_wp2
      refine HK.out _ _ ?_
      clear HK
      go_wp2
      go_ret
      exact ⟨rfl, hb2⟩
set_option maxRecDepth 100000 in
theorem sum_any (a : Option Addr) (cap : Nat) (l : List UInt8) (w : World) (hs : SlB w a cap l) : Calls Tryz.prog 133 #[.slice a l.length cap] w fun e w' => e = .returned (.int .u32 (crcS l : Nat)) ∧ Below w.heap.size w w' := by
  go_enter Tryz.func133, Tryz.ntmps133
  go_wp2_with (go_at_call 146; refine (extend_any a cap l _ hs).mono ?_; rintro e w1 ⟨rfl, hb1⟩)
  go_ret
  exact ⟨rfl, hb1⟩
end Go.Proofs.YtddddemclhlfaaaGreatDoor
namespace Go.Proofs.YtddddemclhlfaaaGreatDoor
open Go.RowKit
def ofV (n : Int) : Value := .agg #[.int .i64 (placesN n), .int .i64 (wideN n)]
theorem ofV_out {n : Int} (h : n < 1 ∨ 5 < n) : ofV n = .agg #[.int .i64 0, .int .i64 0] := by
  unfold ofV placesN wideN
  rw [if_neg (by omega), if_neg (by omega), if_neg (by omega), if_neg (by omega), if_neg (by omega), if_neg (by omega), if_neg (by omega), if_neg (by omega), if_neg (by omega), if_neg (by omega)]
theorem st2 (x y a b : Int) : 0 + 2 ≤ (#[Value.int .i64 x, .int .i64 y]).size ∧ (Value.agg #[.int .i64 a, .int .i64 b]).cells.size = 2 ∧ (∀ u ∈ (Value.agg #[.int .i64 a, .int .i64 b]).cells.toList, u.oneCell' = true) ∧ ((#[Value.int .i64 x, .int .i64 y]).toList.take 0 ++ (Value.agg #[.int .i64 a, .int .i64 b]).cells.toList ++ (#[Value.int .i64 x, .int .i64 y]).toList.drop (0 + 2)).toArray = #[.int .i64 a, .int .i64 b] :=
  ⟨Nat.le_refl 2, rfl, by simp [Value.cells, Value.oneCell'], rfl⟩
set_option maxRecDepth 100000 in
set_option maxHeartbeats 1000000 in
theorem of_any (n : Int) (w : World) : Calls Tryz.prog 95 #[.int .i64 n] w fun e w' => e = .returned (ofV n) ∧ Below w.heap.size w w' := by
  by_cases h0 : n < 0
  · rw [ofV_out (by omega)]
    go_enter Tryz.func95, Tryz.ntmps95
    refine wp_seq_k (fun K hK => ?_)
    have HK := Lib.hid hK
    clear hK
    go_wp2
    refine HK.out _ _ ?_
    clear HK
    refine wp_seq_k (fun K hK => ?_)
    have HK := Lib.hid hK
    clear hK
    go_wp2_with (go_at_call 129; refine (regions_any _).mono ?_; rintro e w1 ⟨rfl, hb1⟩)
    refine HK.out _ _ ?_
    clear HK
    have hB1 := tr_bl hb1 (heap_alloc_new w (Obj.cells #[.int .i64 0, .int .i64 0] 166))
    have hb2 : Below w.heap.size w w1 := (blw w _).trans (hb1.mono (blw w _).size)
    have hs1 := hb2.size
    go_wp2_with ((with_reducible refine wpList_stB 166 _ _ ?_); refine ⟨_, _, _, ⟨_, _, _, Tryz.sizeOf166, rfl, tr_al _ hB1, st2 0 0 0 0⟩, ?_⟩; intro w5 B5 g5)
    refine bodyPost_ret (results_c1 rfl rfl (run_loadVar_all Tryz.isAgg166 Tryz.sizeOf166 B5 rfl)) rfl ⟨rfl, ?_⟩
    exact bl_st (hb2.alloc hs1 _) g5 (by simp; omega) (Nat.le_refl _)
  · by_cases h6 : 6 ≤ n
    · rw [ofV_out (by omega)]
      go_enter Tryz.func95, Tryz.ntmps95
      refine wp_seq_k (fun K hK => ?_)
      have HK := Lib.hid hK
      clear hK
      go_wp2
      refine HK.out _ _ ?_
      clear HK
      refine wp_seq_k (fun K hK => ?_)
      have HK := Lib.hid hK
      clear hK
      go_wp2_with (go_at_call 129; refine (regions_any _).mono ?_; rintro e w1 ⟨rfl, hb1⟩)
      refine HK.out _ _ ?_
      clear HK
      have hB1 := tr_bl hb1 (heap_alloc_new w (Obj.cells #[.int .i64 0, .int .i64 0] 166))
      have hb2 : Below w.heap.size w w1 := (blw w _).trans (hb1.mono (blw w _).size)
      have hs1 := hb2.size
      go_wp2_with ((with_reducible refine wpList_stB 166 _ _ ?_); refine ⟨_, _, _, ⟨_, _, _, Tryz.sizeOf166, rfl, tr_al _ hB1, st2 0 0 0 0⟩, ?_⟩; intro w5 B5 g5)
      refine bodyPost_ret (results_c1 rfl rfl (run_loadVar_all Tryz.isAgg166 Tryz.sizeOf166 B5 rfl)) rfl ⟨rfl, ?_⟩
      exact bl_st (hb2.alloc hs1 _) g5 (by simp; omega) (Nat.le_refl _)
    · have h : n = 0 ∨ n = 1 ∨ n = 2 ∨ n = 3 ∨ n = 4 ∨ n = 5 := by omega
      rcases h with rfl | rfl | rfl | rfl | rfl | rfl
      · rw [show ofV 0 = .agg #[.int .i64 0, .int .i64 0] from rfl]
        go_enter Tryz.func95, Tryz.ntmps95
        refine wp_seq_k (fun K hK => ?_)
        have HK := Lib.hid hK
        clear hK
        go_wp2
        refine HK.out _ _ ?_
        clear HK
        refine wp_seq_k (fun K hK => ?_)
        have HK := Lib.hid hK
        clear hK
        go_wp2_with (go_at_call 129; refine (regions_any _).mono ?_; rintro e w1 ⟨rfl, hb1⟩)
        refine HK.out _ _ ?_
        clear HK
        have hB1 := tr_bl hb1 (heap_alloc_new w (Obj.cells #[.int .i64 0, .int .i64 0] 166))
        have hb2 : Below w.heap.size w w1 := (blw w _).trans (hb1.mono (blw w _).size)
        have hs1 := hb2.size
        go_wp2_with ((with_reducible refine wpList_stB 166 _ _ ?_); refine ⟨_, _, _, ⟨_, _, _, Tryz.sizeOf166, rfl, tr_al _ hB1, st2 0 0 0 0⟩, ?_⟩; intro w5 B5 g5)
        refine bodyPost_ret (results_c1 rfl rfl (run_loadVar_all Tryz.isAgg166 Tryz.sizeOf166 B5 rfl)) rfl ⟨rfl, ?_⟩
        exact bl_st (hb2.alloc hs1 _) g5 (by simp; omega) (Nat.le_refl _)
      · rw [show ofV 1 = .agg #[.int .i64 2, .int .i64 1] from rfl]
        go_enter Tryz.func95, Tryz.ntmps95
        refine wp_seq_k (fun K hK => ?_)
        have HK := Lib.hid hK
        clear hK
        go_wp2
        refine HK.out _ _ ?_
        clear HK
        refine wp_seq_k (fun K hK => ?_)
        have HK := Lib.hid hK
        clear hK
        go_wp2_with (go_at_call 129; refine (regions_any _).mono ?_; rintro e w1 ⟨rfl, hb1⟩)
        refine HK.out _ _ ?_
        clear HK
        have hB1 := tr_bl hb1 (heap_alloc_new w (Obj.cells #[.int .i64 0, .int .i64 0] 166))
        have hb2 : Below w.heap.size w w1 := (blw w _).trans (hb1.mono (blw w _).size)
        have hs1 := hb2.size
        go_wp2_with ((with_reducible refine wpList_stB 166 _ _ ?_); refine ⟨_, _, _, ⟨_, _, _, Tryz.sizeOf166, rfl, tr_al _ hB1, st2 0 0 2 1⟩, ?_⟩; intro w5 B5 g5)
        refine bodyPost_ret (results_c1 rfl rfl (run_loadVar_all Tryz.isAgg166 Tryz.sizeOf166 B5 rfl)) rfl ⟨rfl, ?_⟩
        exact bl_st (hb2.alloc hs1 _) g5 (by simp; omega) (Nat.le_refl _)
      · rw [show ofV 2 = .agg #[.int .i64 2, .int .i64 1] from rfl]
        go_enter Tryz.func95, Tryz.ntmps95
        refine wp_seq_k (fun K hK => ?_)
        have HK := Lib.hid hK
        clear hK
        go_wp2
        refine HK.out _ _ ?_
        clear HK
        refine wp_seq_k (fun K hK => ?_)
        have HK := Lib.hid hK
        clear hK
        go_wp2_with (go_at_call 129; refine (regions_any _).mono ?_; rintro e w1 ⟨rfl, hb1⟩)
        refine HK.out _ _ ?_
        clear HK
        have hB1 := tr_bl hb1 (heap_alloc_new w (Obj.cells #[.int .i64 0, .int .i64 0] 166))
        have hb2 : Below w.heap.size w w1 := (blw w _).trans (hb1.mono (blw w _).size)
        have hs1 := hb2.size
        go_wp2_with ((with_reducible refine wpList_stB 166 _ _ ?_); refine ⟨_, _, _, ⟨_, _, _, Tryz.sizeOf166, rfl, tr_al _ hB1, st2 0 0 2 1⟩, ?_⟩; intro w5 B5 g5)
        refine bodyPost_ret (results_c1 rfl rfl (run_loadVar_all Tryz.isAgg166 Tryz.sizeOf166 B5 rfl)) rfl ⟨rfl, ?_⟩
        exact bl_st (hb2.alloc hs1 _) g5 (by simp; omega) (Nat.le_refl _)
      · rw [show ofV 3 = .agg #[.int .i64 24, .int .i64 1] from rfl]
        go_enter Tryz.func95, Tryz.ntmps95
        refine wp_seq_k (fun K hK => ?_)
        have HK := Lib.hid hK
        clear hK
        go_wp2
        refine HK.out _ _ ?_
        clear HK
        refine wp_seq_k (fun K hK => ?_)
        have HK := Lib.hid hK
        clear hK
        go_wp2_with (go_at_call 129; refine (regions_any _).mono ?_; rintro e w1 ⟨rfl, hb1⟩)
        refine HK.out _ _ ?_
        clear HK
        have hB1 := tr_bl hb1 (heap_alloc_new w (Obj.cells #[.int .i64 0, .int .i64 0] 166))
        have hb2 : Below w.heap.size w w1 := (blw w _).trans (hb1.mono (blw w _).size)
        have hs1 := hb2.size
        go_wp2_with ((with_reducible refine wpList_stB 166 _ _ ?_); refine ⟨_, _, _, ⟨_, _, _, Tryz.sizeOf166, rfl, tr_al _ hB1, st2 0 0 24 1⟩, ?_⟩; intro w5 B5 g5)
        refine bodyPost_ret (results_c1 rfl rfl (run_loadVar_all Tryz.isAgg166 Tryz.sizeOf166 B5 rfl)) rfl ⟨rfl, ?_⟩
        exact bl_st (hb2.alloc hs1 _) g5 (by simp; omega) (Nat.le_refl _)
      · rw [show ofV 4 = .agg #[.int .i64 48, .int .i64 2] from rfl]
        go_enter Tryz.func95, Tryz.ntmps95
        refine wp_seq_k (fun K hK => ?_)
        have HK := Lib.hid hK
        clear hK
        go_wp2
        refine HK.out _ _ ?_
        clear HK
        refine wp_seq_k (fun K hK => ?_)
        have HK := Lib.hid hK
        clear hK
        go_wp2_with (go_at_call 129; refine (regions_any _).mono ?_; rintro e w1 ⟨rfl, hb1⟩)
        refine HK.out _ _ ?_
        clear HK
        have hB1 := tr_bl hb1 (heap_alloc_new w (Obj.cells #[.int .i64 0, .int .i64 0] 166))
        have hb2 : Below w.heap.size w w1 := (blw w _).trans (hb1.mono (blw w _).size)
        have hs1 := hb2.size
        go_wp2_with ((with_reducible refine wpList_stB 166 _ _ ?_); refine ⟨_, _, _, ⟨_, _, _, Tryz.sizeOf166, rfl, tr_al _ hB1, st2 0 0 48 2⟩, ?_⟩; intro w5 B5 g5)
        refine bodyPost_ret (results_c1 rfl rfl (run_loadVar_all Tryz.isAgg166 Tryz.sizeOf166 B5 rfl)) rfl ⟨rfl, ?_⟩
        exact bl_st (hb2.alloc hs1 _) g5 (by simp; omega) (Nat.le_refl _)
      · rw [show ofV 5 = .agg #[.int .i64 16, .int .i64 2] from rfl]
        go_enter Tryz.func95, Tryz.ntmps95
        refine wp_seq_k (fun K hK => ?_)
        have HK := Lib.hid hK
        clear hK
        go_wp2
        refine HK.out _ _ ?_
        clear HK
        refine wp_seq_k (fun K hK => ?_)
        have HK := Lib.hid hK
        clear hK
        go_wp2_with (go_at_call 129; refine (regions_any _).mono ?_; rintro e w1 ⟨rfl, hb1⟩)
        refine HK.out _ _ ?_
        clear HK
        have hB1 := tr_bl hb1 (heap_alloc_new w (Obj.cells #[.int .i64 0, .int .i64 0] 166))
        have hb2 : Below w.heap.size w w1 := (blw w _).trans (hb1.mono (blw w _).size)
        have hs1 := hb2.size
        go_wp2_with ((with_reducible refine wpList_stB 166 _ _ ?_); refine ⟨_, _, _, ⟨_, _, _, Tryz.sizeOf166, rfl, tr_al _ hB1, st2 0 0 16 2⟩, ?_⟩; intro w5 B5 g5)
        refine bodyPost_ret (results_c1 rfl rfl (run_loadVar_all Tryz.isAgg166 Tryz.sizeOf166 B5 rfl)) rfl ⟨rfl, ?_⟩
        exact bl_st (hb2.alloc hs1 _) g5 (by simp; omega) (Nat.le_refl _)
set_option maxRecDepth 100000 in
theorem places_any (n : Int) (w : World) : Calls Tryz.prog 55 #[.int .i64 n] w fun e w' => e = .returned (.int .i64 (placesN n)) ∧ Below w.heap.size w w' := by
  have ho := of_any n
  unfold ofV at ho
  have hf : ∀ (x y : Int) (w : World), (Instr.field 166 (.agg #[.int .i64 x, .int .i64 y]) 0).run Tryz.prog w = .ok (.int .i64 x) w := fun x y w => by kernel_rfl
  go_enter Tryz.func55, Tryz.ntmps55
  go_wp2_with (go_at_call 95; refine (ho _).mono ?_; rintro e w1 ⟨rfl, hb1⟩)
  go_ret
  exact ⟨rfl, hb1⟩
set_option maxRecDepth 100000 in
theorem wide_any (n : Int) (w : World) : Calls Tryz.prog 49 #[.int .i64 n] w fun e w' => e = .returned (.int .i64 (wideN n)) ∧ Below w.heap.size w w' := by
  have ho := of_any n
  unfold ofV at ho
  have hf : ∀ (x y : Int) (w : World), (Instr.field 166 (.agg #[.int .i64 x, .int .i64 y]) 1).run Tryz.prog w = .ok (.int .i64 y) w := fun x y w => by kernel_rfl
  go_enter Tryz.func49, Tryz.ntmps49
  go_wp2_with (go_at_call 95; refine (ho _).mono ?_; rintro e w1 ⟨rfl, hb1⟩)
  go_ret
  exact ⟨rfl, hb1⟩
end Go.Proofs.YtddddemclhlfaaaGreatDoor
namespace Go.Proofs.YtddddemclhlfaaaGreatDoor
open Go.RowKit
set_option maxRecDepth 100000 in
set_option maxHeartbeats 2000000 in
theorem start_in (c : Nat) (h1 : 1 ≤ c) (h5 : c ≤ 5) (w : World) : Calls Tryz.prog 96 #[.int .i64 (c : Int)] w fun e w' => e = .returned (.int .i64 (startN c)) ∧ Below w.heap.size w w' := by
  have i0 : ∀ w, (Instr.index 190 regV (.int .i64 0)).run Tryz.prog w = .ok (.agg #[.int .i64 0, .int .i64 0]) w := fun _ => by kernel_rfl
  have i1 : ∀ w, (Instr.index 190 regV (.int .i64 1)).run Tryz.prog w = .ok (.agg #[.int .i64 2, .int .i64 1]) w := fun _ => by kernel_rfl
  have i2 : ∀ w, (Instr.index 190 regV (.int .i64 2)).run Tryz.prog w = .ok (.agg #[.int .i64 2, .int .i64 1]) w := fun _ => by kernel_rfl
  have i3 : ∀ w, (Instr.index 190 regV (.int .i64 3)).run Tryz.prog w = .ok (.agg #[.int .i64 24, .int .i64 1]) w := fun _ => by kernel_rfl
  have i4 : ∀ w, (Instr.index 190 regV (.int .i64 4)).run Tryz.prog w = .ok (.agg #[.int .i64 48, .int .i64 2]) w := fun _ => by kernel_rfl
  have i5 : ∀ w, (Instr.index 190 regV (.int .i64 5)).run Tryz.prog w = .ok (.agg #[.int .i64 16, .int .i64 2]) w := fun _ => by kernel_rfl
  go_enter Tryz.func96, Tryz.ntmps96
  refine wp_seq_k (fun K hK => ?_)
  have HK := Lib.hid hK
  clear hK
  go_wp2
  refine HK.out _ _ ?_
  clear HK
  refine wp_seq_k (fun K hK => ?_)
  have HK := Lib.hid hK
  clear hK
  go_wp2
  refine HK.out _ _ ?_
  clear HK
  go_wp2_with (go_at_call 129; refine (regions_any _).mono ?_; rintro e w1 ⟨rfl, hb1⟩)
  go_loopw [3, 7] (fun t i wr => ∃ k : Nat, k ≤ c ∧ i = .int .i64 k ∧ t = .int .i64 (atP k) ∧ Below w.heap.size w wr) (fun _ i _ => 6 - (intOf i).toNat)
  case atStart => exact ⟨0, by omega, rfl, rfl, hb1⟩
  case round =>
    obtain ⟨k, hk, rfl, rfl, hbr⟩ := hrel
    have hbs := hbr.size
    have h7 : k = 0 ∨ k = 1 ∨ k = 2 ∨ k = 3 ∨ k = 4 ∨ k = 5 := by omega
    rcases h7 with rfl | rfl | rfl | rfl | rfl | rfl
    · have ha : atP 0 = 0 := rfl
      rw [ha]
      by_cases hkc : c = 0
      · first
        | (exfalso; omega)
        | (subst hkc
           go_wp2
           go_ret
           exact ⟨rfl, by (repeat' (first | (with_reducible exact Below.refl _ _) | (with_reducible assumption) | (with_reducible refine Below.alloc ?_ ?_ _) | (with_reducible refine Below.drew ?_) | (with_reducible refine below_drewN ?_ _) | (with_reducible refine Below.setCell ?_ ?_ _) | (with_reducible refine Below.trans ?_ (by assumption)) | go_size))⟩)
      · have hne : ((0 : Int) == (c : Int)) = false := by rw [beq_eq_false_iff_ne]; omega
        have hk1 : 0 + 1 ≤ c := by omega
        go_wp2
        go_roundw
        case rel => exact ⟨0 + 1, hk1, by rfl, by rfl, by (repeat' (first | (with_reducible exact Below.refl _ _) | (with_reducible assumption) | (with_reducible refine Below.alloc ?_ ?_ _) | (with_reducible refine Below.drew ?_) | (with_reducible refine below_drewN ?_ _) | (with_reducible refine Below.setCell ?_ ?_ _) | (with_reducible refine Below.trans ?_ (by assumption)) | go_size))⟩
        case measure => simp [intOf]
    · have ha : atP 1 = 0 := rfl
      rw [ha]
      by_cases hkc : c = 1
      · first
        | (exfalso; omega)
        | (subst hkc
           go_wp2
           go_ret
           exact ⟨rfl, by (repeat' (first | (with_reducible exact Below.refl _ _) | (with_reducible assumption) | (with_reducible refine Below.alloc ?_ ?_ _) | (with_reducible refine Below.drew ?_) | (with_reducible refine below_drewN ?_ _) | (with_reducible refine Below.setCell ?_ ?_ _) | (with_reducible refine Below.trans ?_ (by assumption)) | go_size))⟩)
      · have hne : ((1 : Int) == (c : Int)) = false := by rw [beq_eq_false_iff_ne]; omega
        have hk1 : 1 + 1 ≤ c := by omega
        go_wp2
        go_roundw
        case rel => exact ⟨1 + 1, hk1, by rfl, by rfl, by (repeat' (first | (with_reducible exact Below.refl _ _) | (with_reducible assumption) | (with_reducible refine Below.alloc ?_ ?_ _) | (with_reducible refine Below.drew ?_) | (with_reducible refine below_drewN ?_ _) | (with_reducible refine Below.setCell ?_ ?_ _) | (with_reducible refine Below.trans ?_ (by assumption)) | go_size))⟩
        case measure => simp [intOf]
    · have ha : atP 2 = 2 := rfl
      rw [ha]
      by_cases hkc : c = 2
      · first
        | (exfalso; omega)
        | (subst hkc
           go_wp2
           go_ret
           exact ⟨rfl, by (repeat' (first | (with_reducible exact Below.refl _ _) | (with_reducible assumption) | (with_reducible refine Below.alloc ?_ ?_ _) | (with_reducible refine Below.drew ?_) | (with_reducible refine below_drewN ?_ _) | (with_reducible refine Below.setCell ?_ ?_ _) | (with_reducible refine Below.trans ?_ (by assumption)) | go_size))⟩)
      · have hne : ((2 : Int) == (c : Int)) = false := by rw [beq_eq_false_iff_ne]; omega
        have hk1 : 2 + 1 ≤ c := by omega
        go_wp2
        go_roundw
        case rel => exact ⟨2 + 1, hk1, by rfl, by rfl, by (repeat' (first | (with_reducible exact Below.refl _ _) | (with_reducible assumption) | (with_reducible refine Below.alloc ?_ ?_ _) | (with_reducible refine Below.drew ?_) | (with_reducible refine below_drewN ?_ _) | (with_reducible refine Below.setCell ?_ ?_ _) | (with_reducible refine Below.trans ?_ (by assumption)) | go_size))⟩
        case measure => simp [intOf]
    · have ha : atP 3 = 4 := rfl
      rw [ha]
      by_cases hkc : c = 3
      · first
        | (exfalso; omega)
        | (subst hkc
           go_wp2
           go_ret
           exact ⟨rfl, by (repeat' (first | (with_reducible exact Below.refl _ _) | (with_reducible assumption) | (with_reducible refine Below.alloc ?_ ?_ _) | (with_reducible refine Below.drew ?_) | (with_reducible refine below_drewN ?_ _) | (with_reducible refine Below.setCell ?_ ?_ _) | (with_reducible refine Below.trans ?_ (by assumption)) | go_size))⟩)
      · have hne : ((3 : Int) == (c : Int)) = false := by rw [beq_eq_false_iff_ne]; omega
        have hk1 : 3 + 1 ≤ c := by omega
        go_wp2
        go_roundw
        case rel => exact ⟨3 + 1, hk1, by rfl, by rfl, by (repeat' (first | (with_reducible exact Below.refl _ _) | (with_reducible assumption) | (with_reducible refine Below.alloc ?_ ?_ _) | (with_reducible refine Below.drew ?_) | (with_reducible refine below_drewN ?_ _) | (with_reducible refine Below.setCell ?_ ?_ _) | (with_reducible refine Below.trans ?_ (by assumption)) | go_size))⟩
        case measure => simp [intOf]
    · have ha : atP 4 = 28 := rfl
      rw [ha]
      by_cases hkc : c = 4
      · first
        | (exfalso; omega)
        | (subst hkc
           go_wp2
           go_ret
           exact ⟨rfl, by (repeat' (first | (with_reducible exact Below.refl _ _) | (with_reducible assumption) | (with_reducible refine Below.alloc ?_ ?_ _) | (with_reducible refine Below.drew ?_) | (with_reducible refine below_drewN ?_ _) | (with_reducible refine Below.setCell ?_ ?_ _) | (with_reducible refine Below.trans ?_ (by assumption)) | go_size))⟩)
      · have hne : ((4 : Int) == (c : Int)) = false := by rw [beq_eq_false_iff_ne]; omega
        have hk1 : 4 + 1 ≤ c := by omega
        go_wp2
        go_roundw
        case rel => exact ⟨4 + 1, hk1, by rfl, by rfl, by (repeat' (first | (with_reducible exact Below.refl _ _) | (with_reducible assumption) | (with_reducible refine Below.alloc ?_ ?_ _) | (with_reducible refine Below.drew ?_) | (with_reducible refine below_drewN ?_ _) | (with_reducible refine Below.setCell ?_ ?_ _) | (with_reducible refine Below.trans ?_ (by assumption)) | go_size))⟩
        case measure => simp [intOf]
    · have ha : atP 5 = 124 := rfl
      rw [ha]
      obtain rfl : c = 5 := by omega
      go_wp2
      go_ret
      exact ⟨rfl, by (repeat' (first | (with_reducible exact Below.refl _ _) | (with_reducible assumption) | (with_reducible refine Below.alloc ?_ ?_ _) | (with_reducible refine Below.drew ?_) | (with_reducible refine below_drewN ?_ _) | (with_reducible refine Below.setCell ?_ ?_ _) | (with_reducible refine Below.trans ?_ (by assumption)) | go_size))⟩
theorem firstN_out {n p : Int} (h : n < 1 ∨ 5 < n) : firstN n p = -1 := by
  have h0 : placesN n = 0 := by
    unfold placesN
    rw [if_neg (by omega), if_neg (by omega), if_neg (by omega), if_neg (by omega), if_neg (by omega)]
  unfold firstN
  rw [if_pos (.inl h0)]
set_option maxRecDepth 100000 in
set_option maxHeartbeats 2000000 in
theorem first_any (n p : Int) (w : World) : Calls Tryz.prog 42 #[.int .i64 n, .int .i64 p] w fun e w' => e = .returned (.int .i64 (firstN n p)) ∧ Below w.heap.size w w' := by
  by_cases ho : n < 1 ∨ 5 < n
  · rw [firstN_out ho]
    have ho := of_any n
    rw [ofV_out (by assumption)] at ho
    go_enter Tryz.func42, Tryz.ntmps42
    go_wp2_with (go_at_call 95; refine (ho _).mono ?_; rintro e w1 ⟨rfl, hb1⟩; have hs1 := hb1.size)
    go_ret
    exact ⟨rfl, by (repeat' (first | (with_reducible exact Below.refl _ _) | (with_reducible assumption) | (with_reducible refine Below.alloc ?_ ?_ _) | (with_reducible refine Below.drew ?_) | (with_reducible refine below_drewN ?_ _) | (with_reducible refine Below.setCell ?_ ?_ _) | (with_reducible refine Below.trans ?_ (by assumption)) | go_size))⟩
  · have h : n = 1 ∨ n = 2 ∨ n = 3 ∨ n = 4 ∨ n = 5 := by omega
    rcases h with rfl | rfl | rfl | rfl | rfl
    · skip
      have ho := of_any 1
      rw [show ofV 1 = .agg #[.int .i64 2, .int .i64 1] from rfl] at ho
      have hw := wide_any 1
      rw [show wideN 1 = 1 from rfl] at hw
      have hst := start_in 1 (by omega) (by omega)
      rw [show startN ((1 : Nat) : Int) = 0 from rfl] at hst
      by_cases hp0 : p < 0
      · rw [show firstN 1 p = -1 by unfold firstN; rw [if_pos (.inr (.inl hp0))]]
        go_enter Tryz.func42, Tryz.ntmps42
        go_wp2_with (go_at_call 95; refine (ho _).mono ?_; rintro e w1 ⟨rfl, hb1⟩; have hs1 := hb1.size)
        go_ret
        exact ⟨rfl, by (repeat' (first | (with_reducible exact Below.refl _ _) | (with_reducible assumption) | (with_reducible refine Below.alloc ?_ ?_ _) | (with_reducible refine Below.drew ?_) | (with_reducible refine below_drewN ?_ _) | (with_reducible refine Below.setCell ?_ ?_ _) | (with_reducible refine Below.trans ?_ (by assumption)) | go_size))⟩
      · by_cases hp1 : 2 ≤ p
        · rw [show firstN 1 p = -1 by unfold firstN; rw [if_pos (.inr (.inr (by rw [show placesN 1 = 2 from rfl]; exact hp1)))]]
          go_enter Tryz.func42, Tryz.ntmps42
          go_wp2_with (go_at_call 95; refine (ho _).mono ?_; rintro e w1 ⟨rfl, hb1⟩; have hs1 := hb1.size)
          go_ret
          exact ⟨rfl, by (repeat' (first | (with_reducible exact Below.refl _ _) | (with_reducible assumption) | (with_reducible refine Below.alloc ?_ ?_ _) | (with_reducible refine Below.drew ?_) | (with_reducible refine below_drewN ?_ _) | (with_reducible refine Below.setCell ?_ ?_ _) | (with_reducible refine Below.trans ?_ (by assumption)) | go_size))⟩
        · rw [show firstN 1 p = 0 + p * 1 by unfold firstN; rw [if_neg (by rw [show placesN 1 = 2 from rfl]; omega)]; rfl]
          go_enter Tryz.func42, Tryz.ntmps42
          go_wp2_with (first
            | (go_at_call 95; refine (ho _).mono ?_; rintro e w1 ⟨rfl, hb1⟩; have hs1 := hb1.size)
            | (go_at_call 96; refine (hst _).mono ?_; rintro e w2 ⟨rfl, hb2⟩; have hs2 := hb2.size)
            | (go_at_call 49; refine (hw _).mono ?_; rintro e w3 ⟨rfl, hb3⟩; have hs3 := hb3.size))
          go_ret
          exact ⟨ret_int (by omega), ((hb1.trans ((blw w1 _).mono hs1)).trans (hb2.mono (by simp; omega))).trans (hb3.mono (by simp at hs2; omega))⟩
    · skip
      have ho := of_any 2
      rw [show ofV 2 = .agg #[.int .i64 2, .int .i64 1] from rfl] at ho
      have hw := wide_any 2
      rw [show wideN 2 = 1 from rfl] at hw
      have hst := start_in 2 (by omega) (by omega)
      rw [show startN ((2 : Nat) : Int) = 2 from rfl] at hst
      by_cases hp0 : p < 0
      · rw [show firstN 2 p = -1 by unfold firstN; rw [if_pos (.inr (.inl hp0))]]
        go_enter Tryz.func42, Tryz.ntmps42
        go_wp2_with (go_at_call 95; refine (ho _).mono ?_; rintro e w1 ⟨rfl, hb1⟩; have hs1 := hb1.size)
        go_ret
        exact ⟨rfl, by (repeat' (first | (with_reducible exact Below.refl _ _) | (with_reducible assumption) | (with_reducible refine Below.alloc ?_ ?_ _) | (with_reducible refine Below.drew ?_) | (with_reducible refine below_drewN ?_ _) | (with_reducible refine Below.setCell ?_ ?_ _) | (with_reducible refine Below.trans ?_ (by assumption)) | go_size))⟩
      · by_cases hp1 : 2 ≤ p
        · rw [show firstN 2 p = -1 by unfold firstN; rw [if_pos (.inr (.inr (by rw [show placesN 2 = 2 from rfl]; exact hp1)))]]
          go_enter Tryz.func42, Tryz.ntmps42
          go_wp2_with (go_at_call 95; refine (ho _).mono ?_; rintro e w1 ⟨rfl, hb1⟩; have hs1 := hb1.size)
          go_ret
          exact ⟨rfl, by (repeat' (first | (with_reducible exact Below.refl _ _) | (with_reducible assumption) | (with_reducible refine Below.alloc ?_ ?_ _) | (with_reducible refine Below.drew ?_) | (with_reducible refine below_drewN ?_ _) | (with_reducible refine Below.setCell ?_ ?_ _) | (with_reducible refine Below.trans ?_ (by assumption)) | go_size))⟩
        · rw [show firstN 2 p = 2 + p * 1 by unfold firstN; rw [if_neg (by rw [show placesN 2 = 2 from rfl]; omega)]; rfl]
          go_enter Tryz.func42, Tryz.ntmps42
          go_wp2_with (first
            | (go_at_call 95; refine (ho _).mono ?_; rintro e w1 ⟨rfl, hb1⟩; have hs1 := hb1.size)
            | (go_at_call 96; refine (hst _).mono ?_; rintro e w2 ⟨rfl, hb2⟩; have hs2 := hb2.size)
            | (go_at_call 49; refine (hw _).mono ?_; rintro e w3 ⟨rfl, hb3⟩; have hs3 := hb3.size))
          go_ret
          exact ⟨ret_int (by omega), ((hb1.trans ((blw w1 _).mono hs1)).trans (hb2.mono (by simp; omega))).trans (hb3.mono (by simp at hs2; omega))⟩
    · skip
      have ho := of_any 3
      rw [show ofV 3 = .agg #[.int .i64 24, .int .i64 1] from rfl] at ho
      have hw := wide_any 3
      rw [show wideN 3 = 1 from rfl] at hw
      have hst := start_in 3 (by omega) (by omega)
      rw [show startN ((3 : Nat) : Int) = 4 from rfl] at hst
      by_cases hp0 : p < 0
      · rw [show firstN 3 p = -1 by unfold firstN; rw [if_pos (.inr (.inl hp0))]]
        go_enter Tryz.func42, Tryz.ntmps42
        go_wp2_with (go_at_call 95; refine (ho _).mono ?_; rintro e w1 ⟨rfl, hb1⟩; have hs1 := hb1.size)
        go_ret
        exact ⟨rfl, by (repeat' (first | (with_reducible exact Below.refl _ _) | (with_reducible assumption) | (with_reducible refine Below.alloc ?_ ?_ _) | (with_reducible refine Below.drew ?_) | (with_reducible refine below_drewN ?_ _) | (with_reducible refine Below.setCell ?_ ?_ _) | (with_reducible refine Below.trans ?_ (by assumption)) | go_size))⟩
      · by_cases hp1 : 24 ≤ p
        · rw [show firstN 3 p = -1 by unfold firstN; rw [if_pos (.inr (.inr (by rw [show placesN 3 = 24 from rfl]; exact hp1)))]]
          go_enter Tryz.func42, Tryz.ntmps42
          go_wp2_with (go_at_call 95; refine (ho _).mono ?_; rintro e w1 ⟨rfl, hb1⟩; have hs1 := hb1.size)
          go_ret
          exact ⟨rfl, by (repeat' (first | (with_reducible exact Below.refl _ _) | (with_reducible assumption) | (with_reducible refine Below.alloc ?_ ?_ _) | (with_reducible refine Below.drew ?_) | (with_reducible refine below_drewN ?_ _) | (with_reducible refine Below.setCell ?_ ?_ _) | (with_reducible refine Below.trans ?_ (by assumption)) | go_size))⟩
        · rw [show firstN 3 p = 4 + p * 1 by unfold firstN; rw [if_neg (by rw [show placesN 3 = 24 from rfl]; omega)]; rfl]
          go_enter Tryz.func42, Tryz.ntmps42
          go_wp2_with (first
            | (go_at_call 95; refine (ho _).mono ?_; rintro e w1 ⟨rfl, hb1⟩; have hs1 := hb1.size)
            | (go_at_call 96; refine (hst _).mono ?_; rintro e w2 ⟨rfl, hb2⟩; have hs2 := hb2.size)
            | (go_at_call 49; refine (hw _).mono ?_; rintro e w3 ⟨rfl, hb3⟩; have hs3 := hb3.size))
          go_ret
          exact ⟨ret_int (by omega), ((hb1.trans ((blw w1 _).mono hs1)).trans (hb2.mono (by simp; omega))).trans (hb3.mono (by simp at hs2; omega))⟩
    · skip
      have ho := of_any 4
      rw [show ofV 4 = .agg #[.int .i64 48, .int .i64 2] from rfl] at ho
      have hw := wide_any 4
      rw [show wideN 4 = 2 from rfl] at hw
      have hst := start_in 4 (by omega) (by omega)
      rw [show startN ((4 : Nat) : Int) = 28 from rfl] at hst
      by_cases hp0 : p < 0
      · rw [show firstN 4 p = -1 by unfold firstN; rw [if_pos (.inr (.inl hp0))]]
        go_enter Tryz.func42, Tryz.ntmps42
        go_wp2_with (go_at_call 95; refine (ho _).mono ?_; rintro e w1 ⟨rfl, hb1⟩; have hs1 := hb1.size)
        go_ret
        exact ⟨rfl, by (repeat' (first | (with_reducible exact Below.refl _ _) | (with_reducible assumption) | (with_reducible refine Below.alloc ?_ ?_ _) | (with_reducible refine Below.drew ?_) | (with_reducible refine below_drewN ?_ _) | (with_reducible refine Below.setCell ?_ ?_ _) | (with_reducible refine Below.trans ?_ (by assumption)) | go_size))⟩
      · by_cases hp1 : 48 ≤ p
        · rw [show firstN 4 p = -1 by unfold firstN; rw [if_pos (.inr (.inr (by rw [show placesN 4 = 48 from rfl]; exact hp1)))]]
          go_enter Tryz.func42, Tryz.ntmps42
          go_wp2_with (go_at_call 95; refine (ho _).mono ?_; rintro e w1 ⟨rfl, hb1⟩; have hs1 := hb1.size)
          go_ret
          exact ⟨rfl, by (repeat' (first | (with_reducible exact Below.refl _ _) | (with_reducible assumption) | (with_reducible refine Below.alloc ?_ ?_ _) | (with_reducible refine Below.drew ?_) | (with_reducible refine below_drewN ?_ _) | (with_reducible refine Below.setCell ?_ ?_ _) | (with_reducible refine Below.trans ?_ (by assumption)) | go_size))⟩
        · rw [show firstN 4 p = 28 + p * 2 by unfold firstN; rw [if_neg (by rw [show placesN 4 = 48 from rfl]; omega)]; rfl]
          go_enter Tryz.func42, Tryz.ntmps42
          go_wp2_with (first
            | (go_at_call 95; refine (ho _).mono ?_; rintro e w1 ⟨rfl, hb1⟩; have hs1 := hb1.size)
            | (go_at_call 96; refine (hst _).mono ?_; rintro e w2 ⟨rfl, hb2⟩; have hs2 := hb2.size)
            | (go_at_call 49; refine (hw _).mono ?_; rintro e w3 ⟨rfl, hb3⟩; have hs3 := hb3.size))
          go_ret
          exact ⟨ret_int (by omega), ((hb1.trans ((blw w1 _).mono hs1)).trans (hb2.mono (by simp; omega))).trans (hb3.mono (by simp at hs2; omega))⟩
    · skip
      have ho := of_any 5
      rw [show ofV 5 = .agg #[.int .i64 16, .int .i64 2] from rfl] at ho
      have hw := wide_any 5
      rw [show wideN 5 = 2 from rfl] at hw
      have hst := start_in 5 (by omega) (by omega)
      rw [show startN ((5 : Nat) : Int) = 124 from rfl] at hst
      by_cases hp0 : p < 0
      · rw [show firstN 5 p = -1 by unfold firstN; rw [if_pos (.inr (.inl hp0))]]
        go_enter Tryz.func42, Tryz.ntmps42
        go_wp2_with (go_at_call 95; refine (ho _).mono ?_; rintro e w1 ⟨rfl, hb1⟩; have hs1 := hb1.size)
        go_ret
        exact ⟨rfl, by (repeat' (first | (with_reducible exact Below.refl _ _) | (with_reducible assumption) | (with_reducible refine Below.alloc ?_ ?_ _) | (with_reducible refine Below.drew ?_) | (with_reducible refine below_drewN ?_ _) | (with_reducible refine Below.setCell ?_ ?_ _) | (with_reducible refine Below.trans ?_ (by assumption)) | go_size))⟩
      · by_cases hp1 : 16 ≤ p
        · rw [show firstN 5 p = -1 by unfold firstN; rw [if_pos (.inr (.inr (by rw [show placesN 5 = 16 from rfl]; exact hp1)))]]
          go_enter Tryz.func42, Tryz.ntmps42
          go_wp2_with (go_at_call 95; refine (ho _).mono ?_; rintro e w1 ⟨rfl, hb1⟩; have hs1 := hb1.size)
          go_ret
          exact ⟨rfl, by (repeat' (first | (with_reducible exact Below.refl _ _) | (with_reducible assumption) | (with_reducible refine Below.alloc ?_ ?_ _) | (with_reducible refine Below.drew ?_) | (with_reducible refine below_drewN ?_ _) | (with_reducible refine Below.setCell ?_ ?_ _) | (with_reducible refine Below.trans ?_ (by assumption)) | go_size))⟩
        · rw [show firstN 5 p = 124 + p * 2 by unfold firstN; rw [if_neg (by rw [show placesN 5 = 16 from rfl]; omega)]; rfl]
          go_enter Tryz.func42, Tryz.ntmps42
          go_wp2_with (first
            | (go_at_call 95; refine (ho _).mono ?_; rintro e w1 ⟨rfl, hb1⟩; have hs1 := hb1.size)
            | (go_at_call 96; refine (hst _).mono ?_; rintro e w2 ⟨rfl, hb2⟩; have hs2 := hb2.size)
            | (go_at_call 49; refine (hw _).mono ?_; rintro e w3 ⟨rfl, hb3⟩; have hs3 := hb3.size))
          go_ret
          exact ⟨ret_int (by omega), ((hb1.trans ((blw w1 _).mono hs1)).trans (hb2.mono (by simp; omega))).trans (hb3.mono (by simp at hs2; omega))⟩
end Go.Proofs.YtddddemclhlfaaaGreatDoor
namespace Go.Proofs.YtddddemclhlfaaaGreatDoor
open Go.RowKit
abbrev tgV (t : Tg) : Value := .agg #[.int .i64 t.rep, .int .i64 t.reg, .int .i64 t.pla, .int .i64 t.idx, .int .i64 t.inc]
def inB (n lo hi : Int) : Bool := decide (lo ≤ n) && decide (n ≤ hi)
set_option maxRecDepth 100000 in
theorem in_any (n lo hi : Int) (w : World) : Calls Tryz.prog 128 #[.int .i64 n, .int .i64 lo, .int .i64 hi] w fun e w' => e = .returned (.bool (inB n lo hi)) ∧ w = w' := by
  unfold inB
  by_cases h : lo ≤ n
  · go_enter Tryz.func128, Tryz.ntmps128
    go_wp2
    go_ret
    exact ⟨ret_bool (by simp [h]), rfl⟩
  · go_enter Tryz.func128, Tryz.ntmps128
    go_wp2
    go_ret
    exact ⟨ret_bool (by rw [decide_eq_false (show ¬ lo ≤ n by omega), Bool.false_and]), rfl⟩
theorem mayTg_in (t : Tg) : mayTg t = (inB t.rep 0 6 && (inB t.pla 0 (placesN t.reg - 1) && (inB t.idx 0 1099511627776 && inB t.inc 1 1099511627776))) := by
  unfold mayTg inB
  have : decide (t.pla < placesN t.reg) = decide (t.pla ≤ placesN t.reg - 1) := by
    apply decide_eq_decide.2
    omega
  rw [this]
  simp only [Bool.and_assoc]
theorem places_bd (n : Int) : 0 ≤ placesN n ∧ placesN n ≤ 48 := by
  by_cases h : 0 < placesN n
  · have := placesN_reg h
    omega
  · unfold placesN at h ⊢
    split at h
    · omega
    · split at h
      · omega
      · split at h
        · omega
        · split at h
          · omega
          · split at h
            · omega
            · rename_i h1 h2 h3 h4 h5
              rw [if_neg h1, if_neg h2, if_neg h3, if_neg h4, if_neg h5]
              omega
set_option maxRecDepth 100000 in
set_option maxHeartbeats 1000000 in
theorem tmay_any (t : Tg) (w : World) : Calls Tryz.prog 92 #[tgV t] w fun e w' => e = .returned (.bool (mayTg t)) ∧ Below w.heap.size w w' := by
  obtain ⟨rep, reg, pla, idx, inc⟩ := t
  rw [mayTg_in]
  simp only
  have hpl := (places_bd reg).1
  have hpl2 := (places_bd reg).2
  cases h1 : inB rep 0 6
  case false =>
    rw [Bool.false_and]
    have c1 := fun w => in_any rep 0 6 w
    have c2 := fun w => in_any pla 0 (placesN reg - 1) w
    have c3 := fun w => in_any idx 0 1099511627776 w
    have c4 := fun w => in_any inc 1 1099511627776 w
    (try simp only [h1] at c1)
    (try simp only [h2] at c2)
    (try simp only [h3] at c3)
    replace c1 := Lib.hid c1
    replace c2 := Lib.hid c2
    replace c3 := Lib.hid c3
    replace c4 := Lib.hid c4
    go_enter Tryz.func92, Tryz.ntmps92
    refine wp_seq_k (fun K hK => ?_)
    have HK := Lib.hid hK
    clear hK
    go_wp2
    refine HK.out _ _ ?_
    clear HK
    refine wp_seq_k (fun K hK => ?_)
    have HK := Lib.hid hK
    clear hK
    go_wp2
    refine HK.out _ _ ?_
    clear HK
    have q0 := under_cell (blk_cell (heap_alloc_new w (Obj.cells #[.int .i64 rep, .int .i64 reg, .int .i64 pla, .int .i64 idx, .int .i64 inc] 33)) 0 _ rfl)
    have q1 := under_cell (blk_cell (heap_alloc_new w (Obj.cells #[.int .i64 rep, .int .i64 reg, .int .i64 pla, .int .i64 idx, .int .i64 inc] 33)) 1 _ rfl)
    have q2 := under_cell (blk_cell (heap_alloc_new w (Obj.cells #[.int .i64 rep, .int .i64 reg, .int .i64 pla, .int .i64 idx, .int .i64 inc] 33)) 2 _ rfl)
    have q3 := under_cell (blk_cell (heap_alloc_new w (Obj.cells #[.int .i64 rep, .int .i64 reg, .int .i64 pla, .int .i64 idx, .int .i64 inc] 33)) 3 _ rfl)
    have q4 := under_cell (blk_cell (heap_alloc_new w (Obj.cells #[.int .i64 rep, .int .i64 reg, .int .i64 pla, .int .i64 idx, .int .i64 inc] 33)) 4 _ rfl)
    have hbw := blw w (Obj.cells #[.int .i64 rep, .int .i64 reg, .int .i64 pla, .int .i64 idx, .int .i64 inc] 33)
    generalize w.alloc (Obj.cells #[.int .i64 rep, .int .i64 reg, .int .i64 pla, .int .i64 idx, .int .i64 inc] 33) = wq at *
    refine wp_seq_k (fun K hK => ?_)
    have HK := Lib.hid hK
    clear hK
    refine wp_region_under (by kernel_rfl) (by kernel_rfl) ?_
    repeat (first | go_big_quiet_step ((first
      | (go_at_call 128; first | (with_reducible exact under_same (c1.out _)) | (with_reducible exact under_same (c2.out _)) | (with_reducible exact under_same (c3.out _)) | (with_reducible exact under_same (c4.out _)))
      | (go_at_call 55; exact under_call (places_any _ _)))) | ((with_reducible refine wpQuiet_skip ?_ ?_) ; (focus rfl); (try simp only [Act.put]); (try simp only [List.setIfInBounds_toArray]); (try simp only [List.set_cons_succ]); (try simp only [List.set_cons_zero])))
    refine wpQuiet_nil ?_
    intro _ hw'
    obtain ⟨xU, hw''⟩ := hw'
    subst hw''
    have hbU := under_below wq xU
    refine HK.out _ _ ?_
    clear HK
    go_wp2
    go_ret
    exact ⟨by rfl, hbw.trans (hbU.mono hbw.size)⟩
  case true =>
    rw [Bool.true_and]
    cases h2 : inB pla 0 (placesN reg - 1)
    case false =>
      rw [Bool.false_and]
      have c1 := fun w => in_any rep 0 6 w
      have c2 := fun w => in_any pla 0 (placesN reg - 1) w
      have c3 := fun w => in_any idx 0 1099511627776 w
      have c4 := fun w => in_any inc 1 1099511627776 w
      (try simp only [h1] at c1)
      (try simp only [h2] at c2)
      (try simp only [h3] at c3)
      replace c1 := Lib.hid c1
      replace c2 := Lib.hid c2
      replace c3 := Lib.hid c3
      replace c4 := Lib.hid c4
      go_enter Tryz.func92, Tryz.ntmps92
      refine wp_seq_k (fun K hK => ?_)
      have HK := Lib.hid hK
      clear hK
      go_wp2
      refine HK.out _ _ ?_
      clear HK
      refine wp_seq_k (fun K hK => ?_)
      have HK := Lib.hid hK
      clear hK
      go_wp2
      refine HK.out _ _ ?_
      clear HK
      have q0 := under_cell (blk_cell (heap_alloc_new w (Obj.cells #[.int .i64 rep, .int .i64 reg, .int .i64 pla, .int .i64 idx, .int .i64 inc] 33)) 0 _ rfl)
      have q1 := under_cell (blk_cell (heap_alloc_new w (Obj.cells #[.int .i64 rep, .int .i64 reg, .int .i64 pla, .int .i64 idx, .int .i64 inc] 33)) 1 _ rfl)
      have q2 := under_cell (blk_cell (heap_alloc_new w (Obj.cells #[.int .i64 rep, .int .i64 reg, .int .i64 pla, .int .i64 idx, .int .i64 inc] 33)) 2 _ rfl)
      have q3 := under_cell (blk_cell (heap_alloc_new w (Obj.cells #[.int .i64 rep, .int .i64 reg, .int .i64 pla, .int .i64 idx, .int .i64 inc] 33)) 3 _ rfl)
      have q4 := under_cell (blk_cell (heap_alloc_new w (Obj.cells #[.int .i64 rep, .int .i64 reg, .int .i64 pla, .int .i64 idx, .int .i64 inc] 33)) 4 _ rfl)
      have hbw := blw w (Obj.cells #[.int .i64 rep, .int .i64 reg, .int .i64 pla, .int .i64 idx, .int .i64 inc] 33)
      generalize w.alloc (Obj.cells #[.int .i64 rep, .int .i64 reg, .int .i64 pla, .int .i64 idx, .int .i64 inc] 33) = wq at *
      refine wp_seq_k (fun K hK => ?_)
      have HK := Lib.hid hK
      clear hK
      refine wp_region_under (by kernel_rfl) (by kernel_rfl) ?_
      repeat (first | go_big_quiet_step ((first
        | (go_at_call 128; first | (with_reducible exact under_same (c1.out _)) | (with_reducible exact under_same (c2.out _)) | (with_reducible exact under_same (c3.out _)) | (with_reducible exact under_same (c4.out _)))
        | (go_at_call 55; exact under_call (places_any _ _)))) | ((with_reducible refine wpQuiet_skip ?_ ?_) ; (focus rfl); (try simp only [Act.put]); (try simp only [List.setIfInBounds_toArray]); (try simp only [List.set_cons_succ]); (try simp only [List.set_cons_zero])))
      refine wpQuiet_nil ?_
      intro _ hw'
      obtain ⟨xU, hw''⟩ := hw'
      subst hw''
      have hbU := under_below wq xU
      refine HK.out _ _ ?_
      clear HK
      go_wp2
      go_ret
      exact ⟨by rfl, hbw.trans (hbU.mono hbw.size)⟩
    case true =>
      rw [Bool.true_and]
      cases h3 : inB idx 0 1099511627776
      case false =>
        rw [Bool.false_and]
        have c1 := fun w => in_any rep 0 6 w
        have c2 := fun w => in_any pla 0 (placesN reg - 1) w
        have c3 := fun w => in_any idx 0 1099511627776 w
        have c4 := fun w => in_any inc 1 1099511627776 w
        (try simp only [h1] at c1)
        (try simp only [h2] at c2)
        (try simp only [h3] at c3)
        replace c1 := Lib.hid c1
        replace c2 := Lib.hid c2
        replace c3 := Lib.hid c3
        replace c4 := Lib.hid c4
        go_enter Tryz.func92, Tryz.ntmps92
        refine wp_seq_k (fun K hK => ?_)
        have HK := Lib.hid hK
        clear hK
        go_wp2
        refine HK.out _ _ ?_
        clear HK
        refine wp_seq_k (fun K hK => ?_)
        have HK := Lib.hid hK
        clear hK
        go_wp2
        refine HK.out _ _ ?_
        clear HK
        have q0 := under_cell (blk_cell (heap_alloc_new w (Obj.cells #[.int .i64 rep, .int .i64 reg, .int .i64 pla, .int .i64 idx, .int .i64 inc] 33)) 0 _ rfl)
        have q1 := under_cell (blk_cell (heap_alloc_new w (Obj.cells #[.int .i64 rep, .int .i64 reg, .int .i64 pla, .int .i64 idx, .int .i64 inc] 33)) 1 _ rfl)
        have q2 := under_cell (blk_cell (heap_alloc_new w (Obj.cells #[.int .i64 rep, .int .i64 reg, .int .i64 pla, .int .i64 idx, .int .i64 inc] 33)) 2 _ rfl)
        have q3 := under_cell (blk_cell (heap_alloc_new w (Obj.cells #[.int .i64 rep, .int .i64 reg, .int .i64 pla, .int .i64 idx, .int .i64 inc] 33)) 3 _ rfl)
        have q4 := under_cell (blk_cell (heap_alloc_new w (Obj.cells #[.int .i64 rep, .int .i64 reg, .int .i64 pla, .int .i64 idx, .int .i64 inc] 33)) 4 _ rfl)
        have hbw := blw w (Obj.cells #[.int .i64 rep, .int .i64 reg, .int .i64 pla, .int .i64 idx, .int .i64 inc] 33)
        generalize w.alloc (Obj.cells #[.int .i64 rep, .int .i64 reg, .int .i64 pla, .int .i64 idx, .int .i64 inc] 33) = wq at *
        refine wp_seq_k (fun K hK => ?_)
        have HK := Lib.hid hK
        clear hK
        refine wp_region_under (by kernel_rfl) (by kernel_rfl) ?_
        repeat (first | go_big_quiet_step ((first
          | (go_at_call 128; first | (with_reducible exact under_same (c1.out _)) | (with_reducible exact under_same (c2.out _)) | (with_reducible exact under_same (c3.out _)) | (with_reducible exact under_same (c4.out _)))
          | (go_at_call 55; exact under_call (places_any _ _)))) | ((with_reducible refine wpQuiet_skip ?_ ?_) ; (focus rfl); (try simp only [Act.put]); (try simp only [List.setIfInBounds_toArray]); (try simp only [List.set_cons_succ]); (try simp only [List.set_cons_zero])))
        refine wpQuiet_nil ?_
        intro _ hw'
        obtain ⟨xU, hw''⟩ := hw'
        subst hw''
        have hbU := under_below wq xU
        refine HK.out _ _ ?_
        clear HK
        go_wp2
        go_ret
        exact ⟨by rfl, hbw.trans (hbU.mono hbw.size)⟩
      case true =>
        rw [Bool.true_and]
        have c1 := fun w => in_any rep 0 6 w
        have c2 := fun w => in_any pla 0 (placesN reg - 1) w
        have c3 := fun w => in_any idx 0 1099511627776 w
        have c4 := fun w => in_any inc 1 1099511627776 w
        (try simp only [h1] at c1)
        (try simp only [h2] at c2)
        (try simp only [h3] at c3)
        replace c1 := Lib.hid c1
        replace c2 := Lib.hid c2
        replace c3 := Lib.hid c3
        replace c4 := Lib.hid c4
        go_enter Tryz.func92, Tryz.ntmps92
        refine wp_seq_k (fun K hK => ?_)
        have HK := Lib.hid hK
        clear hK
        go_wp2
        refine HK.out _ _ ?_
        clear HK
        refine wp_seq_k (fun K hK => ?_)
        have HK := Lib.hid hK
        clear hK
        go_wp2
        refine HK.out _ _ ?_
        clear HK
        have q0 := under_cell (blk_cell (heap_alloc_new w (Obj.cells #[.int .i64 rep, .int .i64 reg, .int .i64 pla, .int .i64 idx, .int .i64 inc] 33)) 0 _ rfl)
        have q1 := under_cell (blk_cell (heap_alloc_new w (Obj.cells #[.int .i64 rep, .int .i64 reg, .int .i64 pla, .int .i64 idx, .int .i64 inc] 33)) 1 _ rfl)
        have q2 := under_cell (blk_cell (heap_alloc_new w (Obj.cells #[.int .i64 rep, .int .i64 reg, .int .i64 pla, .int .i64 idx, .int .i64 inc] 33)) 2 _ rfl)
        have q3 := under_cell (blk_cell (heap_alloc_new w (Obj.cells #[.int .i64 rep, .int .i64 reg, .int .i64 pla, .int .i64 idx, .int .i64 inc] 33)) 3 _ rfl)
        have q4 := under_cell (blk_cell (heap_alloc_new w (Obj.cells #[.int .i64 rep, .int .i64 reg, .int .i64 pla, .int .i64 idx, .int .i64 inc] 33)) 4 _ rfl)
        have hbw := blw w (Obj.cells #[.int .i64 rep, .int .i64 reg, .int .i64 pla, .int .i64 idx, .int .i64 inc] 33)
        generalize w.alloc (Obj.cells #[.int .i64 rep, .int .i64 reg, .int .i64 pla, .int .i64 idx, .int .i64 inc] 33) = wq at *
        refine wp_seq_k (fun K hK => ?_)
        have HK := Lib.hid hK
        clear hK
        refine wp_region_under (by kernel_rfl) (by kernel_rfl) ?_
        repeat (first | go_big_quiet_step ((first
          | (go_at_call 128; first | (with_reducible exact under_same (c1.out _)) | (with_reducible exact under_same (c2.out _)) | (with_reducible exact under_same (c3.out _)) | (with_reducible exact under_same (c4.out _)))
          | (go_at_call 55; exact under_call (places_any _ _)))) | ((with_reducible refine wpQuiet_skip ?_ ?_) ; (focus rfl); (try simp only [Act.put]); (try simp only [List.setIfInBounds_toArray]); (try simp only [List.set_cons_succ]); (try simp only [List.set_cons_zero])))
        refine wpQuiet_nil ?_
        intro _ hw'
        obtain ⟨xU, hw''⟩ := hw'
        subst hw''
        have hbU := under_below wq xU
        refine HK.out _ _ ?_
        clear HK
        go_wp2
        go_ret
        exact ⟨by rfl, hbw.trans (hbU.mono hbw.size)⟩
end Go.Proofs.YtddddemclhlfaaaGreatDoor
