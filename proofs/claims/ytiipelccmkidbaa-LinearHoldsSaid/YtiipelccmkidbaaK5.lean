/- The reference's less, May, MayOp, Copy, with, without, Same; slices.Equal. -/
import Derived.Test.YtiipelccmkidbaaK2
import Derived.Test.YtiipelccmkidbaaRows
import Derived.WalkKit
import Derived.WalkSpells
import Derived.WalkLawsBesides
import Derived.Handy
import Derived.Deep.QuietTactic
import Derived.BigQuiet
import Derived.Deep.DeepCutAuto
import Derived.Lib.Hide
import Derived.RegionTactic
import Derived.ChangeAlike
namespace Go.Proofs.Ytiipelccmkidbaa
open Go.RowKit

theorem bl_nil (x : List UInt8) : Op.bytesLess x [] = false := by cases x <;> rfl
theorem bl_drop : ∀ (i : Nat) (x y : List UInt8), i ≤ x.length → i ≤ y.length → x.take i = y.take i → Op.bytesLess x y = Op.bytesLess (x.drop i) (y.drop i)
  | 0, x, y, _, _, _ => rfl
  | i + 1, [], y, h, _, _ => by simp at h
  | i + 1, x :: xs, [], _, h, _ => by simp at h
  | i + 1, x :: xs, y :: ys, h1, h2, h => by
    simp only [List.take_succ_cons, List.cons.injEq] at h
    obtain ⟨rfl, h⟩ := h
    simp only [List.drop_succ_cons]
    rw [← bl_drop i xs ys (by simpa using h1) (by simpa using h2) h]
    simp [Op.bytesLess]

theorem tx_len (a : Tx) : a.toList.length = a.size := by rw [ByteArray.toList_eq]; rfl
theorem tx_get (a : Tx) (i : Nat) (h : i < a.size) : a.toList[i]? = some a[i] := by
  rw [ByteArray.toList_eq]
  simp [ByteArray.getElem_eq_getElem_data]

/-- The first i bytes agree. -/
def Agree (a b : Tx) (i : Nat) : Prop := a.toList.take i = b.toList.take i
theorem agree_zero (a b : Tx) : Agree a b 0 := by simp [Agree]
theorem agree_succ {a b : Tx} {i : Nat} (ha : i < a.size) (hb : i < b.size) (h : Agree a b i) (he : a[i] = b[i]) : Agree a b (i + 1) := by
  unfold Agree at *
  rw [List.take_add_one, List.take_add_one, h, tx_get a i ha, tx_get b i hb, he]
theorem kl_at {a b : Tx} {i : Nat} (ha : i < a.size) (hb : i < b.size) (h : Agree a b i) (he : ¬ a[i] = b[i]) : kl a b = decide (a[i] < b[i]) := by
  unfold kl
  rw [bl_drop i _ _ (by rw [tx_len]; omega) (by rw [tx_len]; omega) h]
  have h1 := tx_get a i ha
  have h2 := tx_get b i hb
  rw [List.drop_eq_getElem_cons (l := a.toList) (by rw [tx_len]; exact ha), List.drop_eq_getElem_cons (l := b.toList) (by rw [tx_len]; exact hb)]
  rw [List.getElem?_eq_getElem (by rw [tx_len]; exact ha)] at h1
  rw [List.getElem?_eq_getElem (by rw [tx_len]; exact hb)] at h2
  rw [Option.some.inj h1, Option.some.inj h2]
  simp only [Op.bytesLess]
  have : (a[i] == b[i]) = false := by simpa using he
  rw [this]
  simp
theorem kl_end {a b : Tx} {i : Nat} (ha : i ≤ a.size) (hb : i ≤ b.size) (h : Agree a b i) (he : i = a.size ∨ i = b.size) : kl a b = decide (a.size < b.size) := by
  unfold kl
  rw [bl_drop i _ _ (by rw [tx_len]; omega) (by rw [tx_len]; omega) h]
  by_cases hlt : a.size < b.size
  · have e1 : i = a.size := by omega
    rw [decide_eq_true (by omega), List.drop_of_length_le (by rw [tx_len]; omega), List.drop_eq_getElem_cons (by rw [tx_len]; omega)]
    rfl
  · have e1 : i = b.size := by omega
    rw [decide_eq_false (by omega), List.drop_of_length_le (l := b.toList) (by rw [tx_len]; omega), bl_nil]

set_option maxHeartbeats 1000000 in
theorem rless_any (a b : Tx) (w : World) (ha : a.size ≤ 100000) (hb : b.size ≤ 100000) : Calls Try.prog 29 #[.string a, .string b] w fun e w' => e = .returned (.bool (kl a b)) ∧ ∃ m, w' = w.drewN m := by
  go_enter Try.func29, Try.ntmps29
  refine wp_seq_k (fun K hK => ?_)
  have HK := Lib.hid hK
  clear hK
  go_wp2
  refine HK.out _ _ ?_
  clear HK
  go_wp2_with fail
  go_loopw [5] (fun i wr => ∃ k m : Nat, k ≤ a.size ∧ k ≤ b.size ∧ i = .int .i64 k ∧ Agree a b k ∧ wr = w.drewN m) (fun i _ => a.size - (intOf i).toNat)
  case atStart => exact ⟨0, 0, by omega, by omega, rfl, agree_zero _ _, rfl⟩
  case round =>
    obtain ⟨k, m, h1, h2, rfl, hag, rfl⟩ := hrel
    by_cases hlt : k < a.size ∧ k < b.size
    · obtain ⟨hl1, hl2⟩ := hlt
      have hb1 := a[k].toNat_lt
      have hb2 := b[k].toNat_lt
      by_cases he : a[k] = b[k]
      · have hs := agree_succ hl1 hl2 hag he
        have hn : ((a[k].toNat : Int) != (b[k].toNat : Int)) = false := by rw [he]; simp
        have HE := Lib.hid he
        clear he
        go_wp2_with fail
        go_quiet (fail)
        go_wp2
        go_roundw
        case rel => exact ⟨k + 1, m + nq, by omega, by omega, by go_num, hs, rfl⟩
        case measure => simp [intOf]; omega
      · have hs := kl_at hl1 hl2 hag he
        have hn : ((a[k].toNat : Int) != (b[k].toNat : Int)) = true := by
          rw [bne_iff_ne]; intro e; exact he (UInt8.toNat_inj.1 (by omega))
        have hdd : decide (a[k] < b[k]) = decide (a[k].toNat < b[k].toNat) := by
          simp [UInt8.lt_iff_toNat_lt]
        have HD := Lib.hid (hs.trans hdd)
        clear he hs hdd
        go_wp2_with fail
        go_quiet (fail)
        go_wp2_with fail
        go_quiet (fail)
        go_wp2
        go_ret
        refine And.intro (ret_bool HD.out.symm) ?_
        apply Exists.intro
        rw [World.drewN_drewN, World.drewN_drewN]
    · have hs := kl_end h1 h2 hag (by omega)
      have HD := Lib.hid hs
      clear hs
      by_cases hl1 : k < a.size
      · have hl2 : ¬ k < b.size := fun h => hlt ⟨hl1, h⟩
        clear hlt
        go_wp2
        go_ret
        exact ⟨ret_bool HD.out.symm, _, rfl⟩
      · clear hlt
        go_wp2
        go_ret
        exact ⟨ret_bool HD.out.symm, _, rfl⟩
end Go.Proofs.Ytiipelccmkidbaa
