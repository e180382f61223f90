/- octet: many, Fits, Put, walked. -/
import Derived.Test.YtmnjmjbmnhppfaaO0
import Derived.Test.YtmnjmjbmnhppfaaMem
import Derived.Test.YtmnjmjbmnhppfaaRows
import Derived.WalkKit
import Derived.WalkSpells
import Derived.WalkLawsBesides
import Derived.Handy
import Derived.Deep.QuietTactic
import Derived.BigQuiet
import Derived.Deep.DeepCutAuto
import Derived.Lib.Hide
import Derived.RegionTactic
import Derived.ChangeAlike
namespace Go.Proofs.Ytmnjmjbmnhppfaa
open Go.RowKit

set_option maxHeartbeats 1000000 in
theorem many_any (n : Int) (w : World) : Calls Try.prog 91 #[.int .i64 n] w fun e w' => e = .returned (.int .i64 (manyI n)) ∧ Below w.heap.size w w' := by
  by_cases h0 : n < 0
  · go_enter Try.func91, Try.ntmps91
    go_wp2
    go_ret
    exact ⟨ret_int (by unfold manyI; split; omega; split; omega; split; omega; split <;> omega), (Below.refl _ _).alloc (Nat.le_refl _) _⟩
  · by_cases h7 : 7 ≤ n
    · go_enter Try.func91, Try.ntmps91
      go_wp2
      go_ret
      exact ⟨ret_int (by unfold manyI; split; omega; split; omega; split; omega; split <;> omega), (Below.refl _ _).alloc (Nat.le_refl _) _⟩
    · have h : n = 0 ∨ n = 1 ∨ n = 2 ∨ n = 3 ∨ n = 4 ∨ n = 5 ∨ n = 6 := by omega
      rcases h with rfl | rfl | rfl | rfl | rfl | rfl | rfl
      all_goals
        go_enter Try.func91, Try.ntmps91
        go_wp2
        go_ret
        exact ⟨rfl, (Below.refl _ _).alloc (Nat.le_refl _) _⟩

theorem fits_any (k n : Int) (w : World) : Calls Try.prog 89 #[.int .i64 k, .int .i64 n] w fun e w' => e = .returned (.bool (fitsB k n)) ∧ Below w.heap.size w w' := by
  by_cases h0 : 0 ≤ n
  · go_enter Try.func89, Try.ntmps89
    go_wp2_with (go_at_call 91; refine (many_any _ _).mono ?_; rintro e w1 ⟨rfl, hb1⟩)
    go_ret
    exact ⟨ret_bool (by simp [fitsB, h0]), hb1⟩
  · go_enter Try.func89, Try.ntmps89
    go_wp2
    go_ret
    exact ⟨ret_bool (by unfold fitsB; rw [decide_eq_false (by omega)]; rfl), Below.refl _ _⟩

theorem elByte : ElemT Try.prog 26 5 1 1 := ElemT.of (.int .u8 0) Try.underlying26 (by kernel_rfl) rfl (by decide)

theorem wpList_makeN {P : Program} {w : World} {ops : Array Oper} {rest : List Oper} {o : Oper} {a : Act} {Q : Exit → Act → World → Prop} (hgd : o.guard = none) (l c : Operand) (t : TypeId) (hop : o.op = Op.makeSlice t l c) {e : TypeId} {size bytes : Nat} (hT : ElemT P t e size bytes)
    (base : Nat) (kl kc : IntKind) (L C : Int) (n : Nat) (hl : a.eval l = .int kl L) (hc : a.eval c = .int kc C) (hL : L = (n : Int)) (hC : C = (n : Int)) (hn : n ≤ 4294967296) (hby : bytes ≤ 4096) (b4 : base ≤ w.heap.size)
    (hK : ∀ w' zs, zs.length = n * size → w'.ownsRow base e size (.slice (some ⟨w.heap.size, 0, none⟩) n n) n zs → w.grownBy w' none → wpList P ops Q rest (a.put o.dst (.slice (some ⟨w.heap.size, 0, none⟩) n n)) w') :
    wpList P ops Q (o :: rest) a w := by
  obtain ⟨i, z, ht, hi, hz, hsize, hbytes, hzs, hsz⟩ := hT.ex
  have hb1 : bytes * n ≤ 4096 * 4294967296 := Nat.mul_le_mul hby hn
  exact wpList_make_full w hgd l c t hop base e i z size ht hi hz hsize kl kc L C n hl hc hL hC (by rw [hbytes]; omega) (by unfold maxLen; omega) b4 (fun w' h1 h2 => hK w' _ h1.1 h1 h2)

def OwnBytes (base : Nat) (l : List UInt8) (err : Int) (e : Ending) (w' : World) : Prop := ∃ v, e = .returned (.tuple #[v, .int .i64 err]) ∧ w'.ownsRow base 5 1 v l.length (bys l)

def putL (k n : Int) : List UInt8 := if fitsB k n = true then le k.toNat n.toNat else []
def putE (k n : Int) : Int := if fitsB k n = true then 0 else 2

set_option maxHeartbeats 1000000 in
theorem put_any (k n : Int) (w : World) : Calls Try.prog 55 #[.int .i64 k, .int .i64 n] w fun e w' => OwnBytes w.heap.size (putL k n) (putE k n) e w' ∧ Below w.heap.size w w' := by
  unfold putL putE
  cases hf : fitsB k n
  · rw [if_neg (by simp), if_neg (by simp)]
    have HF := Lib.hid hf
    clear hf
    go_enter Try.func55, Try.ntmps55
    go_wp2_with (go_at_call 89; refine (fits_any _ _ _).mono ?_; rintro e w1 ⟨rfl, hb1⟩; rw [HF.out])
    go_ret2
    exact ⟨⟨.slice none 0 0, rfl, World.ownsRow_nil _ _ _ _⟩, hb1⟩
  · rw [if_pos rfl, if_pos rfl]
    obtain ⟨hk, h0, hn⟩ := fits_w hf
    have HF := Lib.hid hf
    clear hf
    go_enter Try.func55, Try.ntmps55
    refine wp_seq_k (fun K hK => ?_)
    have HK := Lib.hid hK
    clear hK
    go_wp2
    refine HK.out _ _ ?_
    clear HK
    refine wp_seq_k (fun K hK => ?_)
    have HK := Lib.hid hK
    clear hK
    go_wp2_with (go_at_call 89; refine (fits_any _ _ _).mono ?_; rintro e w1 ⟨rfl, hb1⟩; rw [HF.out])
    refine HK.out _ _ ?_
    clear HK
    obtain ⟨kk, rfl⟩ : ∃ kk : Nat, k = kk := ⟨k.toNat, by omega⟩
    obtain ⟨nn, rfl⟩ : ∃ nn : Nat, n = nn := ⟨n.toNat, by omega⟩
    simp only [Int.toNat_natCast]
    have hk6 : kk ≤ 6 := by omega
    have hn48 := (manyI_bd kk).2
    have hz1 := hb1.size
    refine wp_seq_k (fun K hK => ?_)
    have HK := Lib.hid hK
    clear hK
    go_wp2_with (at_make; refine wpList_makeN rfl _ _ _ rfl elByte w1.heap.size .i64 .i64 _ _ kk rfl rfl rfl rfl (by omega) (by omega) (Nat.le_refl _) ?_)
    intro w2 zs hzl hown hgr
    have hb2 := hb1.trans (grown_below hgr hz1 (by simp))
    go_wp2
    refine HK.out _ _ ?_
    clear HK
    refine wp_seq_k (fun K hK => ?_)
    go_cut [] (fun wx => wx.ownsRow w1.heap.size 5 1 (.slice (some ⟨w1.heap.size, 0, none⟩) kk kk) kk (bys (le kk nn)) ∧ Below w.heap.size w wx)
    case first =>
      go_wp2_with fail
      go_loopw [15] (fun i wr => ∃ j : Nat, j ≤ kk ∧ i = .int .i64 j ∧ Below w.heap.size w wr ∧ ∃ zs, zs.length + j = kk ∧ wr.ownsRow w1.heap.size 5 1 (.slice (some ⟨w1.heap.size, 0, none⟩) kk kk) kk (bys (le j nn) ++ zs)) (fun i _ => kk - (intOf i).toNat)
      case atStart => exact ⟨0, by omega, rfl, hb2, zs, by omega, by simpa [le, bys] using hown⟩
      case round =>
        obtain ⟨j, hj, rfl, hbr, zt, hzt, hor⟩ := hrel
        by_cases hlt : j < kk
        · cases zt with
          | nil => simp at hzt; omega
          | cons z0 zt =>
            have hst := hor.stored j (byv (UInt8.ofNat (nn / 256 ^ j % 256)))
            have hc0 := hor.cellAt j (by omega)
            rw [List.getElem?_append_right (by simp [bys_len, le_len]), bys_len, le_len, Nat.sub_self] at hc0
            simp only [List.getElem?_cons_zero] at hc0
            have hf0 := hor.frozenAt j
            have HST := Lib.hid hst
            clear hst
            go_wp2
            have hst := HST.out
            rw [byv_shift] at hst
            refine ⟨⟨j + 1, by omega, by go_num, hbr.trans (grown_below hst.2 hbr.size (fun g hg => by cases hg; exact hz1)), zt, by simp at hzt; omega, ?_⟩, by simp [intOf]; omega⟩
            have h5 := hst.1
            rw [List.set_append_right _ _ (by simp [bys_len, le_len]), bys_len, le_len, Nat.sub_self, List.set_cons_zero] at h5
            rw [le_snoc, bys_app, List.append_assoc]
            have e1 : bys [UInt8.ofNat (nn / 256 ^ j % 256)] = [.int .u8 ((nn : Int) / 2 ^ (8 * j) % 256)] := by simp only [bys, List.map_cons, List.map_nil, byv_shift]
            rw [e1]
            exact h5
        · go_wp2
          go_meet
          obtain rfl : j = kk := by omega
          obtain rfl : zt = [] := List.eq_nil_of_length_eq_zero (by omega)
          exact ⟨by simpa using hor, hbr⟩
    obtain ⟨hown2, hb3⟩ := hcut
    refine hK _ _ ?_; clear hK
    go_wp2
    go_ret2
    refine ⟨⟨.slice (some ⟨w1.heap.size, 0, none⟩) kk kk, rfl, ?_⟩, hb3⟩
    rw [le_len]
    exact owns_mono hown2 hz1
end Go.Proofs.Ytmnjmjbmnhppfaa
