/- The reference's Print, walked. -/
import Derived.Test.YtmnjmjbmnhppfaaM2
import Derived.Test.YtmnjmjbmnhppfaaOwn
import Derived.Test.YtmnjmjbmnhppfaaRows
import Derived.WalkKit
import Derived.WalkSpells
import Derived.WalkLawsBesides
import Derived.Handy
import Derived.Deep.QuietTactic
import Derived.BigQuiet
import Derived.Deep.DeepCutAuto
import Derived.Lib.Hide
import Derived.RegionTactic
import Derived.ChangeAlike
namespace Go.Proofs.Ytmnjmjbmnhppfaa
open Go.RowKit

def metaL (r p i : Int) : List UInt8 := if mayM r p i = true then le 6 r.toNat ++ le 1 p.toNat ++ le 6 i.toNat else []
def metaE (r p i : Int) : Int := if mayM r p i = true then 0 else 2
theorem may_bd {r p i : Int} (h : mayM r p i = true) : 0 ≤ r ∧ r ≤ 1099511627776 ∧ 0 ≤ p ∧ p < 7 ∧ 1 ≤ i ∧ i ≤ 1099511627776 := by
  simp [mayM, balB] at h
  omega
theorem put6 (n : Nat) (h : n ≤ 1099511627776) : putL 6 n = le 6 n ∧ putE 6 n = 0 := by
  have hf : fitsB 6 n = true := by simp [fitsB, manyI]; omega
  unfold putL putE
  rw [if_pos hf, if_pos hf]
  exact ⟨by simp, rfl⟩
theorem put1 (n : Nat) (h : n < 7) : putL 1 n = le 1 n ∧ putE 1 n = 0 := by
  have hf : fitsB 1 n = true := by simp [fitsB, manyI]; omega
  unfold putL putE
  rw [if_pos hf, if_pos hf]
  exact ⟨by simp, rfl⟩
theorem bys_le1 (n : Nat) (h : n < 7) : bys (le 1 n) = [.int .u8 (n : Int)] := by
  have : le 1 n = [UInt8.ofNat (n % 256)] := rfl
  rw [this]
  simp only [bys, List.map_cons, List.map_nil, byv_low]
  rw [show (n : Int) % 256 = n by omega]

set_option maxRecDepth 20000 in
set_option maxHeartbeats 4000000 in
theorem rprint_any (r p i : Int) (w : World) : Calls Try.prog 17 #[.agg #[.int .i64 r, .int .i64 p, .int .i64 i]] w fun e w' => OwnBytes w.heap.size (metaL r p i) (metaE r p i) e w' ∧ Below w.heap.size w w' := by
  unfold metaL metaE
  cases hm : mayM r p i
  · rw [if_neg (by simp), if_neg (by simp)]
    have HM := Lib.hid hm
    clear hm
    go_enter Try.func17, Try.ntmps17
    go_wp2_with (go_at_call 21; refine (rmay_any _ _ _ _).mono ?_; rintro e w1 ⟨rfl, hb1⟩; rw [HM.out])
    go_ret2
    exact ⟨⟨.slice none 0 0, rfl, World.ownsRow_nil _ _ _ _⟩, ((Below.refl _ _).alloc (Nat.le_refl _) _).trans (hb1.mono (by simp))⟩
  · rw [if_pos rfl, if_pos rfl]
    obtain ⟨hr0, hr1, hp0, hp1, hi0, hi1⟩ := may_bd hm
    obtain ⟨r, rfl⟩ : ∃ rn : Nat, r = rn := ⟨r.toNat, by omega⟩
    obtain ⟨p, rfl⟩ : ∃ rn : Nat, p = rn := ⟨p.toNat, by omega⟩
    obtain ⟨i, rfl⟩ : ∃ rn : Nat, i = rn := ⟨i.toNat, by omega⟩
    simp only [Int.toNat_natCast]
    have hl1 := put6 r (by omega)
    have hl3 := put6 i (by omega)
    have hl2 := bys_le1 p (by omega)
    have HM := Lib.hid hm
    have H1 := Lib.hid hl1
    have H2 := Lib.hid hl2
    have H3 := Lib.hid hl3
    clear hm hl1 hl2 hl3
    go_enter Try.func17, Try.ntmps17
    refine wp_seq_k (fun K hK => ?_)
    have HK := Lib.hid hK
    clear hK
    go_wp2
    refine HK.out _ _ ?_
    clear HK
    refine wp_seq_k (fun K hK => ?_)
    have HK := Lib.hid hK
    clear hK
    go_wp2_with (go_at_call 21; refine (rmay_any _ _ _ _).mono ?_; rintro e w1 ⟨rfl, hb1⟩; rw [HM.out])
    refine HK.out _ _ ?_
    clear HK
    have c0 := cell_later (a := ⟨w.heap.size, 0, none⟩) hb1 (by simp [go_sem]; rfl)
    have c1 := cell_later (a := ⟨w.heap.size, 1, none⟩) hb1 (by simp [go_sem]; rfl)
    have c2 := cell_later (a := ⟨w.heap.size, 2, none⟩) hb1 (by simp [go_sem]; rfl)
    refine wp_seq_k (fun K hK => ?_)
    have HK := Lib.hid hK
    clear hK
    go_wp2_with (go_at_call 56; refine (rput_any _ _ _ (by omega)).mono ?_; rintro e w2 ⟨⟨v, rfl, hown⟩, hb2⟩; rw [H1.out.2]; rw [H1.out.1, le_len] at hown)
    refine HK.out _ _ ?_
    clear HK
    have d0 := cell_later hb2 c0
    have d1 := cell_later hb2 c1
    have d2 := cell_later hb2 c2
    have hb01 : Below w.heap.size w w1 := ((Below.refl _ _).alloc (Nat.le_refl _) _).trans (hb1.mono (by simp))
    have hs1 := hb01.size
    have hs2 := hb2.size
    clear c0 c1 c2
    refine wp_seq_k (fun K hK => ?_)
    have HK := Lib.hid hK
    clear hK
    go_wp2_with (at_builtin; refine wpList_append1 rfl _ _ 26 5 elByte rfl w1.heap.size _ _ _ rfl hown #[.int .u8 (p : Int)] rfl (by simp; rfl) _ rfl (by omega) (by omega) (by omega) ?_; intro v2 w3 hown2 hb3 _)
    refine HK.out _ _ ?_
    clear HK
    have hs1' := hb1.size
    simp at hs1'
    have e0 := (hb3.cell (p := ⟨w.heap.size, 0, none⟩) (by show w.heap.size < _; omega)).trans d0
    have e1 := (hb3.cell (p := ⟨w.heap.size, 1, none⟩) (by show w.heap.size < _; omega)).trans d1
    have e2 := (hb3.cell (p := ⟨w.heap.size, 2, none⟩) (by show w.heap.size < _; omega)).trans d2
    clear d0 d1 d2
    refine wp_seq_k (fun K hK => ?_)
    have HK := Lib.hid hK
    clear hK
    go_wp2_with (go_at_call 56; refine (rput_any _ _ _ (by omega)).mono ?_; rintro e w4 ⟨⟨v4, rfl, hown4⟩, hb4⟩; rw [H3.out.2]; rw [H3.out.1, le_len] at hown4)
    refine HK.out _ _ ?_
    clear HK
    obtain ⟨ma, mcap, rfl, hmr, _, _⟩ := Row.of_owns hown4
    have hown24 := owns_after hown2 hb4
    have hs3 := hb3.size
    have hs4 := hb4.size
    refine wp_seq_k (fun K hK => ?_)
    have HK := Lib.hid hK
    clear hK
    go_wp2_with (at_builtin; refine wpList_append_row rfl _ _ 26 5 elByte rfl w1.heap.size _ _ _ rfl hown24 _ _ _ _ rfl (by simp [bys_len, le_len]) hmr bys_one (by omega) (by omega) (by omega) ?_; intro v5 w5 hown5 hb5)
    refine HK.out _ _ ?_
    clear HK
    go_wp2
    go_ret2
    refine ⟨⟨_, rfl, ?_⟩, ?_⟩
    · have hx := owns_mono hown5 (Nat.le_trans (Nat.le_succ _) hs1')
      simp only [bys_app, List.length_append, le_len, H2.out]
      exact hx
    · exact (((hb01.trans (hb2.mono (by omega))).trans (hb3.mono (by omega))).trans (hb4.mono (by omega))).trans (hb5.mono (by omega))
end Go.Proofs.Ytmnjmjbmnhppfaa
