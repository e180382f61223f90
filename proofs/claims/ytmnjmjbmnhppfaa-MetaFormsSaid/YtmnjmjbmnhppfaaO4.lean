/- The reference of layer 1, walked: Put, Get, Same, Copy. -/
import Derived.Test.YtmnjmjbmnhppfaaO3
import Derived.Test.YtmnjmjbmnhppfaaRows
import Derived.WalkKit
import Derived.WalkSpells
import Derived.WalkLawsBesides
import Derived.Handy
import Derived.Deep.QuietTactic
import Derived.BigQuiet
import Derived.Deep.DeepCutAuto
import Derived.Lib.Hide
import Derived.RegionTactic
import Derived.ChangeAlike
namespace Go.Proofs.Ytmnjmjbmnhppfaa
open Go.RowKit

set_option maxHeartbeats 1000000 in
theorem rput_any (k n : Int) (w : World) (hn64 : n ≤ 9223372036854775807) : Calls Try.prog 56 #[.int .i64 k, .int .i64 n] w fun e w' => OwnBytes w.heap.size (putL k n) (putE k n) e w' ∧ Below w.heap.size w w' := by
  unfold putL putE
  cases hf : fitsB k n
  · rw [if_neg (by simp), if_neg (by simp)]
    have HF := Lib.hid hf
    clear hf
    go_enter Try.func56, Try.ntmps56
    go_wp2_with (go_at_call 90; refine (rfits_any _ _ _ hn64).mono ?_; rintro e w1 ⟨rfl, rfl⟩; rw [HF.out])
    go_ret2
    exact ⟨⟨.slice none 0 0, rfl, World.ownsRow_nil _ _ _ _⟩, Below.refl _ _⟩
  · rw [if_pos rfl, if_pos rfl]
    obtain ⟨hk, h0, hn⟩ := fits_w hf
    have HF := Lib.hid hf
    clear hf
    obtain ⟨kk, rfl⟩ : ∃ kk : Nat, k = kk := ⟨k.toNat, by omega⟩
    obtain ⟨nn, rfl⟩ : ∃ nn : Nat, n = nn := ⟨n.toNat, by omega⟩
    simp only [Int.toNat_natCast]
    have hk6 : kk ≤ 6 := by omega
    have hn48 := (manyI_bd kk).2
    go_enter Try.func56, Try.ntmps56
    refine wp_seq_k (fun K hK => ?_)
    have HK := Lib.hid hK
    clear hK
    go_wp2
    refine HK.out _ _ ?_
    clear HK
    refine wp_seq_k (fun K hK => ?_)
    have HK := Lib.hid hK
    clear hK
    go_wp2_with (go_at_call 90; refine (rfits_any _ _ _ hn64).mono ?_; rintro e w1 ⟨rfl, rfl⟩; rw [HF.out])
    refine HK.out _ _ ?_
    clear HK
    refine wp_seq_k (fun K hK => ?_)
    have HK := Lib.hid hK
    clear hK
    go_wp2
    refine HK.out _ _ ?_
    clear HK
    refine wp_seq_k (fun K hK => ?_)
    go_cut [6] (fun out wx => wx.ownsRow w.heap.size 5 1 out kk (bys (le kk nn)) ∧ Below w.heap.size w wx)
    case first =>
      go_wp2_with fail
      go_loopw [1, 6, 7] (fun n out i wr => ∃ j : Nat, j ≤ kk ∧ i = .int .i64 j ∧ n = .int .i64 ((nn / 256 ^ j : Nat) : Int) ∧ wr.ownsRow w.heap.size 5 1 out j (bys (le j nn)) ∧ Below w.heap.size w wr) (fun _ _ i _ => kk - (intOf i).toNat)
      case atStart => exact ⟨0, by omega, rfl, by simp, World.ownsRow_nil _ _ _ _, Below.refl _ _⟩
      case round =>
        obtain ⟨j, hj, rfl, rfl, hown, hb⟩ := hrel
        have hq : nn / 256 ^ (j + 1) = nn / 256 ^ j / 256 := by rw [Nat.pow_succ, Nat.div_div_eq_div_mul]
        have hqn : nn / 256 ^ j ≤ nn := Nat.div_le_self _ _
        have hsn := le_snoc j nn
        have hbs := hb.size
        by_cases hlt : j < kk
        · generalize nn / 256 ^ j = q at *
          have HQ := Lib.hid hq
          have HS := Lib.hid hsn
          clear hq hsn
          go_wp2_with (at_builtin; refine wpList_append1 rfl _ _ 26 5 elByte rfl w.heap.size _ _ _ rfl hown #[.int .u8 ((q : Int) % 256)] rfl (by simp; rfl) _ rfl (by omega) (by omega) (by omega) ?_)
          intro v' w' hown' hb' _
          have hb2 := hb.trans hb'
          go_wp2
          refine ⟨⟨j + 1, by omega, by go_num, ?_, ?_, hb2⟩, by simp [intOf]; omega⟩
          · rw [HQ.out]
            exact int_eq (by omega)
          · rw [HS.out, bys_app]
            have e1 : bys [UInt8.ofNat (q % 256)] = [.int .u8 ((q : Int) % 256)] := by simp only [bys, List.map_cons, List.map_nil, byv_low]
            rw [e1]
            simpa using hown'
        · obtain rfl : j = kk := by omega
          clear hq hsn
          generalize nn / 256 ^ j = q at *
          go_wp2
          go_meet
          exact ⟨hown, hb⟩
    obtain ⟨hown2, hb3⟩ := hcut
    refine hK _ _ ?_; clear hK
    go_wp2
    go_ret2
    refine ⟨⟨_, rfl, ?_⟩, hb3⟩
    rw [le_len]
    exact hown2

set_option maxHeartbeats 1000000 in
theorem rget_bad (a : Option Addr) (len cap : Nat) (at_ k : Int) (w : World) (hm : len ≤ maxLen) (h : getE len at_ k ≠ 0) :
    Calls Try.prog 58 #[.slice a len cap, .int .i64 at_, .int .i64 k] w fun e w' => e = .returned (.tuple #[.int .i64 0, .int .i64 0, .int .i64 (getE len at_ k)]) ∧ w = w' := by
  unfold maxLen at hm
  unfold getE pieceE at h ⊢
  have hwb := widthB_many k
  by_cases h0 : manyI k = 0
  · rw [if_pos h0]
    rw [h0] at hwb
    have HW := Lib.hid hwb
    clear hwb h0 h
    go_enter Try.func58, Try.ntmps58
    go_wp2_with (go_at_call 93; refine (width_any _ _).mono ?_; rintro e w' ⟨rfl, rfl⟩; rw [HW.out])
    go_ret3
    exact ⟨rfl, rfl⟩
  · rw [if_neg h0] at h ⊢
    have hk := many_w h0
    have hw : widthB k = true := by rw [hwb]; simp [h0]
    have HW := Lib.hid hw
    clear hwb hw h0
    by_cases h1 : at_ < 0
    · rw [if_pos (.inl h1)]
      go_enter Try.func58, Try.ntmps58
      go_wp2_with (go_at_call 93; refine (width_any _ _).mono ?_; rintro e w' ⟨rfl, rfl⟩; rw [HW.out])
      go_ret3
      exact ⟨rfl, rfl⟩
    · by_cases h2 : (len : Int) < at_
      · rw [if_pos (.inr h2)]
        go_enter Try.func58, Try.ntmps58
        go_wp2_with (go_at_call 93; refine (width_any _ _).mono ?_; rintro e w' ⟨rfl, rfl⟩; rw [HW.out])
        go_ret3
        exact ⟨rfl, rfl⟩
      · rw [if_neg (by omega)] at h ⊢
        by_cases h3 : (len : Int) - at_ < k
        · rw [if_pos h3]
          go_enter Try.func58, Try.ntmps58
          go_wp2_with (go_at_call 93; refine (width_any _ _).mono ?_; rintro e w' ⟨rfl, rfl⟩; rw [HW.out])
          go_ret3
          exact ⟨rfl, rfl⟩
        · rw [if_neg h3] at h
          exact absurd rfl h

theorem copy_any (a : Option Addr) (cap : Nat) (l : List UInt8) (w : World) (hs : SlB w a cap l) (hl : l.length ≤ 1000000) :
    Calls Try.prog 15 #[.slice a l.length cap] w fun e w' => OwnRes w.heap.size 5 1 l.length (bys l) e w' ∧ Below w.heap.size w w' := by
  go_enter Try.func15, Try.ntmps15
  have hown := World.ownsRow_nil w w.heap.size 5 1
  have hmx := hs.max
  unfold maxLen at hmx
  go_wp2_with (at_builtin; refine wpList_append_row rfl _ _ 26 5 elByte rfl w.heap.size _ _ _ rfl hown a l.length cap (bys l) rfl (by rw [bys_len]; simp) hs.row bys_one (by omega) (by omega) (Nat.le_refl _) ?_)
  intro v' w' ho hb
  go_wp2
  go_ret
  refine ⟨⟨_, rfl, ?_⟩, hb⟩
  simpa using ho
end Go.Proofs.Ytmnjmjbmnhppfaa
