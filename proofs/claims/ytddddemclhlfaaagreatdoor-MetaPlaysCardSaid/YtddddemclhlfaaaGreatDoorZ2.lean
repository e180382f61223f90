/- Texts that the claim leans on, part 2: O1, O2, X2, X3, X4, Flat, Blk, Qui. -/
import Derived.Test.YtddddemclhlfaaaGreatDoorZ1
import Derived.Test.YtddddemclhlfaaaGreatDoorRows
import Derived.WalkKit
import Derived.WalkSpells
import Derived.WalkLawsBesides
import Derived.Handy
import Derived.Deep.QuietTactic
import Derived.BigQuiet
import Derived.Deep.DeepCutAuto
import Derived.Lib.Hide
import Derived.RegionTactic
import Derived.ChangeAlike
import Derived.Laws.Rows
import Derived.Deep.Quiet
import Derived.Deep.RegionHeld3
import Derived.ProofKit
import Derived.OpenShut
import Derived.Laws.CopyOwn
import Derived.Laws.CopyRow
import Derived.Laws.NewBlocks
import Derived.Deep.RegionLaw
import Derived.Laws.ResultCell
import Derived.Outline
namespace Go.Proofs.YtddddemclhlfaaaGreatDoor
open Go.RowKit
set_option maxHeartbeats 1000000 in
theorem many_any (n : Int) (w : World) : Calls Tryz.prog 140 #[.int .i64 n] w fun e w' => e = .returned (.int .i64 (manyI n)) ∧ Below w.heap.size w w' := by
  by_cases h0 : n < 0
  · go_enter Tryz.func140, Tryz.ntmps140
    go_wp2
    go_ret
    exact ⟨ret_int (by unfold manyI; split; omega; split; omega; split; omega; split <;> omega), (Below.refl _ _).alloc (Nat.le_refl _) _⟩
  · by_cases h7 : 7 ≤ n
    · go_enter Tryz.func140, Tryz.ntmps140
      go_wp2
      go_ret
      exact ⟨ret_int (by unfold manyI; split; omega; split; omega; split; omega; split <;> omega), (Below.refl _ _).alloc (Nat.le_refl _) _⟩
    · have h : n = 0 ∨ n = 1 ∨ n = 2 ∨ n = 3 ∨ n = 4 ∨ n = 5 ∨ n = 6 := by omega
      rcases h with rfl | rfl | rfl | rfl | rfl | rfl | rfl
      all_goals
        go_enter Tryz.func140, Tryz.ntmps140
        go_wp2
        go_ret
        exact ⟨rfl, (Below.refl _ _).alloc (Nat.le_refl _) _⟩
theorem fits_any (k n : Int) (w : World) : Calls Tryz.prog 147 #[.int .i64 k, .int .i64 n] w fun e w' => e = .returned (.bool (fitsB k n)) ∧ Below w.heap.size w w' := by
  by_cases h0 : 0 ≤ n
  · go_enter Tryz.func147, Tryz.ntmps147
    go_wp2_with (go_at_call 140; refine (many_any _ _).mono ?_; rintro e w1 ⟨rfl, hb1⟩)
    go_ret
    exact ⟨ret_bool (by simp [fitsB, h0]), hb1⟩
  · go_enter Tryz.func147, Tryz.ntmps147
    go_wp2
    go_ret
    exact ⟨ret_bool (by unfold fitsB; rw [decide_eq_false (by omega)]; rfl), Below.refl _ _⟩
theorem elByte : ElemT Tryz.prog 34 5 1 1 := ElemT.of (.int .u8 0) Tryz.underlying34 (by kernel_rfl) rfl (by decide)
theorem wpList_makeN {P : Program} {w : World} {ops : Array Oper} {rest : List Oper} {o : Oper} {a : Act} {Q : Exit → Act → World → Prop} (hgd : o.guard = none) (l c : Operand) (t : TypeId) (hop : o.op = Op.makeSlice t l c) {e : TypeId} {size bytes : Nat} (hT : ElemT P t e size bytes)
    (base : Nat) (kl kc : IntKind) (L C : Int) (n : Nat) (hl : a.eval l = .int kl L) (hc : a.eval c = .int kc C) (hL : L = (n : Int)) (hC : C = (n : Int)) (hn : n ≤ 4294967296) (hby : bytes ≤ 4096) (b4 : base ≤ w.heap.size)
    (hK : ∀ w' zs, zs.length = n * size → w'.ownsRow base e size (.slice (some ⟨w.heap.size, 0, none⟩) n n) n zs → w.grownBy w' none → wpList P ops Q rest (a.put o.dst (.slice (some ⟨w.heap.size, 0, none⟩) n n)) w') :
    wpList P ops Q (o :: rest) a w := by
  obtain ⟨i, z, ht, hi, hz, hsize, hbytes, hzs, hsz⟩ := hT.ex
  have hb1 : bytes * n ≤ 4096 * 4294967296 := Nat.mul_le_mul hby hn
  exact wpList_make_full w hgd l c t hop base e i z size ht hi hz hsize kl kc L C n hl hc hL hC (by rw [hbytes]; omega) (by unfold maxLen; omega) b4 (fun w' h1 h2 => hK w' _ h1.1 h1 h2)
def OwnBytes (base : Nat) (l : List UInt8) (err : Int) (e : Ending) (w' : World) : Prop := ∃ v, e = .returned (.tuple #[v, .int .i64 err]) ∧ w'.ownsRow base 5 1 v l.length (bys l)
def oputL (k n : Int) : List UInt8 := if fitsB k n = true then le k.toNat n.toNat else []
def oputE (k n : Int) : Int := if fitsB k n = true then 0 else 2
set_option maxHeartbeats 1000000 in
theorem put_any (k n : Int) (w : World) : Calls Tryz.prog 138 #[.int .i64 k, .int .i64 n] w fun e w' => OwnBytes w.heap.size (oputL k n) (oputE k n) e w' ∧ Below w.heap.size w w' := by
  unfold oputL oputE
  cases hf : fitsB k n
  · rw [if_neg (by simp), if_neg (by simp)]
    have HF := Lib.hid hf
    clear hf
    go_enter Tryz.func138, Tryz.ntmps138
    go_wp2_with (go_at_call 147; refine (fits_any _ _ _).mono ?_; rintro e w1 ⟨rfl, hb1⟩; rw [HF.out])
    go_ret2
    exact ⟨⟨.slice none 0 0, rfl, World.ownsRow_nil _ _ _ _⟩, hb1⟩
  · rw [if_pos rfl, if_pos rfl]
    obtain ⟨hk, h0, hn⟩ := fits_w hf
    have HF := Lib.hid hf
    clear hf
    go_enter Tryz.func138, Tryz.ntmps138
    refine wp_seq_k (fun K hK => ?_)
    have HK := Lib.hid hK
    clear hK
    go_wp2
    refine HK.out _ _ ?_
    clear HK
    refine wp_seq_k (fun K hK => ?_)
    have HK := Lib.hid hK
    clear hK
    go_wp2_with (go_at_call 147; refine (fits_any _ _ _).mono ?_; rintro e w1 ⟨rfl, hb1⟩; rw [HF.out])
    refine HK.out _ _ ?_
    clear HK
    obtain ⟨kk, rfl⟩ : ∃ kk : Nat, k = kk := ⟨k.toNat, by omega⟩
    obtain ⟨nn, rfl⟩ : ∃ nn : Nat, n = nn := ⟨n.toNat, by omega⟩
    simp only [Int.toNat_natCast]
    have hk6 : kk ≤ 6 := by omega
    have hn48 := (manyI_bd kk).2
    have hz1 := hb1.size
    refine wp_seq_k (fun K hK => ?_)
    have HK := Lib.hid hK
    clear hK
    go_wp2_with (at_make; refine wpList_makeN rfl _ _ _ rfl elByte w1.heap.size .i64 .i64 _ _ kk rfl rfl rfl rfl (by omega) (by omega) (Nat.le_refl _) ?_)
    intro w2 zs hzl hown hgr
    have hb2 := hb1.trans (grown_below hgr hz1 (by simp))
    go_wp2
    refine HK.out _ _ ?_
    clear HK
    refine wp_seq_k (fun K hK => ?_)
    go_cut [] (fun wx => wx.ownsRow w1.heap.size 5 1 (.slice (some ⟨w1.heap.size, 0, none⟩) kk kk) kk (bys (le kk nn)) ∧ Below w.heap.size w wx)
    case first =>
      go_wp2_with fail
      go_loopw [15] (fun i wr => ∃ j : Nat, j ≤ kk ∧ i = .int .i64 j ∧ Below w.heap.size w wr ∧ ∃ zs, zs.length + j = kk ∧ wr.ownsRow w1.heap.size 5 1 (.slice (some ⟨w1.heap.size, 0, none⟩) kk kk) kk (bys (le j nn) ++ zs)) (fun i _ => kk - (intOf i).toNat)
      case atStart => exact ⟨0, by omega, rfl, hb2, zs, by omega, by simpa [le, bys] using hown⟩
      case round =>
        obtain ⟨j, hj, rfl, hbr, zt, hzt, hor⟩ := hrel
        by_cases hlt : j < kk
        · cases zt with
          | nil => simp at hzt; omega
          | cons z0 zt =>
            have hst := hor.stored j (byv (UInt8.ofNat (nn / 256 ^ j % 256)))
            have hc0 := hor.cellAt j (by omega)
            rw [List.getElem?_append_right (by simp [bys_len, le_len]), bys_len, le_len, Nat.sub_self] at hc0
            simp only [List.getElem?_cons_zero] at hc0
            have hf0 := hor.frozenAt j
            have HST := Lib.hid hst
            clear hst
            go_wp2
            have hst := HST.out
            rw [byv_shift] at hst
            refine ⟨⟨j + 1, by omega, by go_num, hbr.trans (grown_below hst.2 hbr.size (fun g hg => by cases hg; exact hz1)), zt, by simp at hzt; omega, ?_⟩, by simp [intOf]; omega⟩
            have h5 := hst.1
            rw [List.set_append_right _ _ (by simp [bys_len, le_len]), bys_len, le_len, Nat.sub_self, List.set_cons_zero] at h5
            rw [le_snoc, bys_app, List.append_assoc]
            have e1 : bys [UInt8.ofNat (nn / 256 ^ j % 256)] = [.int .u8 ((nn : Int) / 2 ^ (8 * j) % 256)] := by simp only [bys, List.map_cons, List.map_nil, byv_shift]
            rw [e1]
            exact h5
        · go_wp2
          go_meet
          obtain rfl : j = kk := by omega
          obtain rfl : zt = [] := List.eq_nil_of_length_eq_zero (by omega)
          exact ⟨by simpa using hor, hbr⟩
    obtain ⟨hown2, hb3⟩ := hcut
    refine hK _ _ ?_; clear hK
    go_wp2
    go_ret2
    refine ⟨⟨.slice (some ⟨w1.heap.size, 0, none⟩) kk kk, rfl, ?_⟩, hb3⟩
    rw [le_len]
    exact owns_mono hown2 hz1
end Go.Proofs.YtddddemclhlfaaaGreatDoor
namespace Go.Proofs.YtddddemclhlfaaaGreatDoor
open Go.RowKit
def pieceA (a : Option Addr) (cap at_ : Nat) : Option Addr := if cap = at_ then a else a.map (fun x => x.add at_)
theorem Row.drop {w : World} {a : Option Addr} {xs : List Value} (h : Row w a xs) {cap : Nat} (hc : xs.length ≤ cap) (k : Nat) (hk : k ≤ xs.length) : Row w (pieceA a cap k) (xs.drop k) := by
  by_cases he : xs.length = k
  · left; rw [List.drop_of_length_le (by omega)]
  · obtain ⟨b, off, rfl, hcell⟩ := h.at (k := k) (by omega)
    right
    refine ⟨b, off + k, ?_, fun i u hu => ?_⟩
    · unfold pieceA
      rw [if_neg (by omega)]
      simp [addr_add]
    · rw [Nat.add_assoc]
      exact hcell (k + i) u (by rw [List.getElem?_drop] at hu; exact hu)
theorem Row.take {w : World} {a : Option Addr} {xs : List Value} (h : Row w a xs) (n : Nat) : Row w a (xs.take n) := by
  rcases h with h | ⟨b, off, ha, hc⟩
  · left; simp [h]
  · refine .inr ⟨b, off, ha, fun i u hu => hc i u ?_⟩
    have hi := (List.getElem?_eq_some_iff.1 hu).1
    rw [List.length_take] at hi
    rwa [List.getElem?_take_of_lt (by omega)] at hu
def pieceE (len : Nat) (at_ n : Int) : Int := if at_ < 0 ∨ len < at_ then 2 else if len - at_ < n then 10 else 0
set_option maxHeartbeats 1000000 in
theorem piece_bad (a : Option Addr) (len cap : Nat) (at_ n : Int) (w : World) (hm : len ≤ maxLen) (h : pieceE len at_ n ≠ 0) :
    Calls Tryz.prog 141 #[.slice a len cap, .int .i64 at_, .int .i64 n] w fun e w' => e = .returned (.tuple #[.slice none 0 0, .int .i64 (pieceE len at_ n)]) ∧ w = w' := by
  unfold maxLen at hm
  unfold pieceE at h ⊢
  by_cases h1 : at_ < 0
  · rw [if_pos (.inl h1)]
    go_enter Tryz.func141, Tryz.ntmps141
    go_wp2
    go_ret2
    exact ⟨rfl, rfl⟩
  · by_cases h2 : (len : Int) < at_
    · rw [if_pos (.inr h2)]
      go_enter Tryz.func141, Tryz.ntmps141
      go_wp2
      go_ret2
      exact ⟨rfl, rfl⟩
    · rw [if_neg (by omega)] at h ⊢
      by_cases h3 : (len : Int) - at_ < n
      · rw [if_pos h3]
        go_enter Tryz.func141, Tryz.ntmps141
        go_wp2
        go_ret2
        exact ⟨rfl, rfl⟩
      · rw [if_neg h3] at h
        exact absurd rfl h
set_option maxHeartbeats 1000000 in
theorem piece_ok (a : Option Addr) (len cap at_ n : Nat) (w : World) (hm : cap ≤ maxLen) (hlc : len ≤ cap) (h : at_ + n ≤ len) (ha : a = none → cap = 0) :
    Calls Tryz.prog 141 #[.slice a len cap, .int .i64 at_, .int .i64 n] w fun e w' => e = .returned (.tuple #[.slice (pieceA a cap at_) n (cap - at_), .int .i64 0]) ∧ w = w' := by
  unfold maxLen at hm
  have hs : at_ + n - at_ = n := by omega
  by_cases hc : cap = at_
  · subst hc
    go_enter Tryz.func141, Tryz.ntmps141
    go_wp2
    go_ret2
    refine ⟨?_, rfl⟩
    unfold pieceA
    rw [if_pos rfl, hs, Nat.sub_self]
    rfl
  · cases a with
    | none =>
      have := ha rfl
      omega
    | some ad =>
      have hw1 : ¬ cap = at_ := hc
      go_enter Tryz.func141, Tryz.ntmps141
      go_wp2
      go_ret2
      refine ⟨?_, rfl⟩
      unfold pieceA
      rw [if_neg hc, hs]
      rfl
structure SlB (w : World) (a : Option Addr) (cap : Nat) (l : List UInt8) : Prop where
  row : Row w a (bys l)
  le : l.length ≤ cap
  max : cap ≤ maxLen
  nil : a = none → cap = 0
theorem SlB.below {w w' : World} {a : Option Addr} {cap : Nat} {l : List UInt8} (h : SlB w a cap l) (hb : Below w.heap.size w w') : SlB w' a cap l := ⟨h.row.below0 hb, h.le, h.max, h.nil⟩
theorem SlB.of_owns {w : World} {base : Nat} {e : TypeId} {v : Value} {l : List UInt8} (h : w.ownsRow base e 1 v l.length (bys l)) : ∃ a cap, v = .slice a l.length cap ∧ SlB w a cap l := by
  obtain ⟨a, cap, hv, hr, hn, hm⟩ := Row.of_owns h
  refine ⟨a, cap, hv, hr, hn, hm, fun ha => ?_⟩
  obtain ⟨_, ⟨hv', _⟩ | ⟨g, cap', cur, hv', _⟩⟩ := h
  · rw [hv] at hv'
    simp only [Value.slice.injEq] at hv'
    exact hv'.2.2
  · rw [hv] at hv'
    simp only [Value.slice.injEq] at hv'
    rw [ha] at hv'
    cases hv'.1
def getE (len : Nat) (at_ k : Int) : Int := if manyI k = 0 then 2 else pieceE len at_ k
def getN (l : List UInt8) (at_ k : Nat) : Nat := ofLe ((l.drop at_).take k)
set_option maxHeartbeats 1000000 in
theorem get_bad (a : Option Addr) (len cap : Nat) (at_ k : Int) (w : World) (hm : len ≤ maxLen) (h : getE len at_ k ≠ 0) :
    Calls Tryz.prog 118 #[.slice a len cap, .int .i64 at_, .int .i64 k] w fun e w' => e = .returned (.tuple #[.int .i64 0, .int .i64 0, .int .i64 (getE len at_ k)]) ∧ Below w.heap.size w w' := by
  unfold getE at h ⊢
  by_cases h0 : manyI k = 0
  · rw [if_pos h0]
    have HM := Lib.hid h0
    clear h0 h
    go_enter Tryz.func118, Tryz.ntmps118
    go_wp2_with (go_at_call 140; refine (many_any _ _).mono ?_; rintro e w1 ⟨rfl, hb1⟩; rw [HM.out])
    go_ret3
    exact ⟨rfl, hb1⟩
  · rw [if_neg h0] at h ⊢
    have hme : (manyI k == 0) = false := by rw [beq_eq_false_iff_ne]; exact h0
    clear h0
    have hne : ((pieceE len at_ k) != 0) = true := by rw [bne_iff_ne]; exact h
    have HP := Lib.hid h
    clear h
    go_enter Tryz.func118, Tryz.ntmps118
    go_wp2_with (first | (go_at_call 140; refine (many_any _ _).mono ?_; rintro e w1 ⟨rfl, hb1⟩) | (go_at_call 141; refine (piece_bad a len cap at_ k _ hm HP.out).mono ?_; rintro e w1 ⟨rfl, rfl⟩))
    go_ret3
    exact ⟨rfl, hb1⟩
theorem or_byte (n x : Nat) (hn : n < 256 ^ 5) (hx : x < 256) : bits .or .i64 ((n : Int) * 256) (x : Int) = ((x + 256 * n : Nat) : Int) := by
  have e : (n : Int) * 256 = ((2 ^ 8 * n : Nat) : Int) := by omega
  have h1 : 2 ^ 8 * n + x = 2 ^ 8 * n ||| x := Nat.two_pow_add_eq_or_of_lt (by omega) n
  rw [e]
  show IntKind.i64.wrap ((BitVec.ofInt 64 ((2 ^ 8 * n : Nat) : Int) ||| BitVec.ofInt 64 (x : Int)).toNat : Int) = _
  rw [BitVec.toNat_or, ofInt_u64 _ (by omega), ofInt_u64 _ (by omega), ← h1, IntWalk.i64_in _ (by omega)]
  omega
set_option maxHeartbeats 1000000 in
theorem get_ok (a : Option Addr) (cap : Nat) (l : List UInt8) (at_ k : Nat) (w : World) (hs : SlB w a cap l) (hk : k = 1 ∨ k = 2 ∨ k = 4 ∨ k = 6) (h : at_ + k ≤ l.length) :
    Calls Tryz.prog 118 #[.slice a l.length cap, .int .i64 at_, .int .i64 k] w fun e w' => e = .returned (.tuple #[.int .i64 (getN l at_ k), .int .i64 ((at_ : Int) + k), .int .i64 0]) ∧ Below w.heap.size w w' := by
  have hmn : manyI k ≠ 0 := by unfold manyI; rcases hk with rfl | rfl | rfl | rfl <;> simp
  have hme : (manyI k == 0) = false := by rw [beq_eq_false_iff_ne]; exact hmn
  clear hmn
  have hrow : Row w (pieceA a cap at_) (bys ((l.drop at_).take k)) := by
    have h1 := (hs.row.drop (cap := cap) (by rw [bys_len]; exact hs.le) at_ (by rw [bys_len]; omega)).take k
    have e : bys ((l.drop at_).take k) = ((bys l).drop at_).take k := by simp [bys, List.map_take, List.map_drop]
    rw [e]; exact h1
  have hpl : ((l.drop at_).take k).length = k := by rw [List.length_take, List.length_drop]; omega
  have hmx := hs.max
  unfold maxLen at hmx
  have hle := hs.le
  have hnil := hs.nil
  unfold getN
  generalize (l.drop at_).take k = p at *
  go_enter Tryz.func118, Tryz.ntmps118
  refine wp_seq_k (fun K hK => ?_)
  have HK := Lib.hid hK
  clear hK
  go_wp2
  refine HK.out _ _ ?_
  clear HK
  refine wp_seq_k (fun K hK => ?_)
  have HK := Lib.hid hK
  clear hK
  go_wp2_with (go_at_call 140; refine (many_any _ _).mono ?_; rintro e w1 ⟨rfl, hb1⟩)
  refine HK.out _ _ ?_
  clear HK
  have hrow1 := hrow.below0 hb1
  refine wp_seq_k (fun K hK => ?_)
  have HK := Lib.hid hK
  clear hK
  go_wp2_with (go_at_call 141; refine (piece_ok a l.length cap at_ k _ (by unfold maxLen; omega) hle h hnil).mono ?_; rintro e w2 ⟨rfl, rfl⟩)
  refine HK.out _ _ ?_
  clear HK
  generalize pieceA a cap at_ = pa at *
  refine wp_seq_k (fun K hK => ?_)
  have HK := Lib.hid hK
  clear hK
  go_wp2
  refine HK.out _ _ ?_
  clear HK
  refine wp_seq_k (fun K hK => ?_)
  have HK := Lib.hid hK
  clear hK
  go_wp2
  refine HK.out _ _ ?_
  clear HK
  refine wp_seq_k (fun K hK => ?_)
  go_cut [11] (fun n wx => n = .int .i64 (ofLe p : Nat) ∧ wx = w1)
  case first =>
    go_wp2_with fail
    go_loopw [11, 12, 27] (fun n _ i wr => ∃ j : Nat, j ≤ k ∧ i = .int .i64 j ∧ n = .int .i64 (ofLe (p.drop (k - j)) : Nat) ∧ wr = w1) (fun _ _ i _ => k - (intOf i).toNat)
    case atStart => exact ⟨0, by omega, rfl, by rw [Nat.sub_zero, List.drop_of_length_le (by omega)]; rfl, rfl⟩
    case round =>
      obtain ⟨j, hj, rfl, rfl, rfl⟩ := hrel
      by_cases hlt : j < k
      · obtain ⟨b, off, hpa, hc⟩ := hrow1.byte (i := k - 1 - j) (by omega)
        have hst : ofLe (p.drop (k - (j + 1))) = (p[k - 1 - j]'(by omega)).toNat + 256 * ofLe (p.drop (k - j)) := by
          rw [show k - (j + 1) = k - 1 - j by omega, List.drop_eq_getElem_cons (by omega), ofLe, show k - 1 - j + 1 = k - j by omega]
        have hlt2 : ofLe (p.drop (k - j)) < 256 ^ 5 := by
          refine Nat.lt_of_lt_of_le (ofLe_lt _) ?_
          rw [List.length_drop]
          exact Nat.pow_le_pow_right (by omega) (by omega)
        have hb := (p[k - 1 - j]'(by omega)).toNat_lt
        generalize (p[k - 1 - j]'(by omega)).toNat = x at *
        have HST := Lib.hid hst
        clear hst
        generalize ofLe (p.drop (k - j)) = n at *
        have HPA := Lib.hid hpa
        clear hpa
        rw [HPA.out]
        go_wp2
        refine ⟨⟨j + 1, by omega, by go_num, ?_, by first | trivial | rfl⟩, by simp [intOf]; omega⟩
        rw [HST.out, or_byte n x hlt2 hb]
      · obtain rfl : j = k := by omega
        rw [Nat.sub_self, List.drop_zero]
        go_wp2
        go_meet
        exact ⟨rfl, by first | trivial | rfl⟩
  obtain ⟨rfl, rfl⟩ := hcut
  refine hK _ _ ?_; clear hK
  go_wp2
  go_ret3
  exact ⟨rfl, hb1⟩
end Go.Proofs.YtddddemclhlfaaaGreatDoor
namespace Go.Proofs.YtddddemclhlfaaaGreatDoor
structure Tg where
  rep : Int
  reg : Int
  pla : Int
  idx : Int
  inc : Int
  deriving DecidableEq
def zeroTg : Tg := ⟨0, 0, 0, 0, 0⟩
def placesN (r : Int) : Int := if r = 1 then 2 else if r = 2 then 2 else if r = 3 then 24 else if r = 4 then 48 else if r = 5 then 16 else 0
def wideN (r : Int) : Int := if r = 1 then 1 else if r = 2 then 1 else if r = 3 then 1 else if r = 4 then 2 else if r = 5 then 2 else 0
def startN (r : Int) : Int := if r = 1 then 0 else if r = 2 then 2 else if r = 3 then 4 else if r = 4 then 28 else if r = 5 then 124 else 156
def firstN (r p : Int) : Int := if placesN r = 0 ∨ p < 0 ∨ placesN r ≤ p then -1 else startN r + p * wideN r
def mayTg (t : Tg) : Bool := decide (0 ≤ t.rep) && (decide (t.rep ≤ 6) && (decide (0 ≤ t.pla) && (decide (t.pla < placesN t.reg) && (decide (0 ≤ t.idx) && (decide (t.idx ≤ 1099511627776) && (decide (1 ≤ t.inc) && decide (t.inc ≤ 1099511627776)))))))
theorem placesN_reg {r : Int} (h : 0 < placesN r) : 1 ≤ r ∧ r ≤ 5 ∧ placesN r ≤ 48 := by
  unfold placesN at h ⊢
  split at h
  · rename_i h1; subst h1; simp
  · split at h
    · rename_i h1; subst h1; simp
    · split at h
      · rename_i h1; subst h1; simp
      · split at h
        · rename_i h1; subst h1; simp
        · split at h
          · rename_i h1; subst h1; simp
          · omega
theorem mayTg_parts {t : Tg} (h : mayTg t = true) : 0 ≤ t.rep ∧ t.rep ≤ 6 ∧ 0 ≤ t.pla ∧ t.pla < placesN t.reg ∧ 0 ≤ t.idx ∧ t.idx ≤ 1099511627776 ∧ 1 ≤ t.inc ∧ t.inc ≤ 1099511627776 := by
  simpa [mayTg, Bool.and_eq_true, decide_eq_true_eq] using h
theorem mayTg_small {t : Tg} (h : mayTg t = true) : 1 ≤ t.reg ∧ t.reg ≤ 5 ∧ t.pla < 48 := by
  obtain ⟨_, _, h3, h4, _⟩ := mayTg_parts h
  obtain ⟨a, b, c⟩ := placesN_reg (r := t.reg) (by omega)
  exact ⟨a, b, by omega⟩
def tagB (t : Tg) : List UInt8 := le 1 t.rep.toNat ++ (le 1 t.reg.toNat ++ (le 1 t.pla.toNat ++ (le 6 t.idx.toNat ++ le 6 t.inc.toNat)))
theorem tagB_len (t : Tg) : (tagB t).length = 15 := by simp [tagB, le_len]
def tagAt (b : List UInt8) (k : Nat) : Tg := ⟨getN b k 1, getN b (k + 1) 1, getN b (k + 2) 1, getN b (k + 3) 6, getN b (k + 9) 6⟩
theorem getN_of {l pre post : List UInt8} {k n p : Nat} (hl : l = pre ++ (le k n ++ post)) (hp : pre.length = p) (hn : n < 256 ^ k) : getN l p k = n := by
  subst hl hp
  unfold getN
  rw [List.drop_left]
  have : (le k n ++ post).take k = le k n := by
    have := List.take_left (l₁ := le k n) (l₂ := post)
    rwa [le_len] at this
  rw [this]
  exact ofLe_le k n hn
theorem tagAt_of {l pre post : List UInt8} {t : Tg} {p : Nat} (hl : l = pre ++ (tagB t ++ post)) (hp : pre.length = p) (h : mayTg t = true) : tagAt l p = t := by
  obtain ⟨h1, h2, h3, h4, h5, h6, h7, h8⟩ := mayTg_parts h
  obtain ⟨g1, g2, g3⟩ := mayTg_small h
  unfold tagB at hl
  simp only [List.append_assoc] at hl
  have e1 := getN_of (p := p) hl hp (by omega)
  have e2 := getN_of (l := l) (p := p + 1) (pre := pre ++ le 1 t.rep.toNat) (k := 1) (n := t.reg.toNat) (post := le 1 t.pla.toNat ++ (le 6 t.idx.toNat ++ (le 6 t.inc.toNat ++ post))) (by rw [hl]; simp only [List.append_assoc]) (by simp [le_len, hp]) (by omega)
  have e3 := getN_of (l := l) (p := p + 2) (pre := pre ++ (le 1 t.rep.toNat ++ le 1 t.reg.toNat)) (k := 1) (n := t.pla.toNat) (post := le 6 t.idx.toNat ++ (le 6 t.inc.toNat ++ post)) (by rw [hl]; simp only [List.append_assoc]) (by simp [le_len, hp]) (by omega)
  have e4 := getN_of (l := l) (p := p + 3) (pre := pre ++ (le 1 t.rep.toNat ++ (le 1 t.reg.toNat ++ le 1 t.pla.toNat))) (k := 6) (n := t.idx.toNat) (post := le 6 t.inc.toNat ++ post) (by rw [hl]; simp only [List.append_assoc]) (by simp [le_len, hp]) (by omega)
  have e5 := getN_of (l := l) (p := p + 9) (pre := pre ++ (le 1 t.rep.toNat ++ (le 1 t.reg.toNat ++ (le 1 t.pla.toNat ++ le 6 t.idx.toNat)))) (k := 6) (n := t.inc.toNat) (post := post) (by rw [hl]; simp only [List.append_assoc]) (by simp [le_len, hp]) (by omega)
  unfold tagAt
  rw [e1, e2, e3, e4, e5]
  obtain ⟨a, b, c, d, e⟩ := t
  simp only at h1 h2 h3 h4 h5 h6 h7 h8 g1 g2 g3
  simp only [Tg.mk.injEq]
  exact ⟨by omega, by omega, by omega, by omega, by omega⟩
def noughtsB (l : List UInt8) : Bool := l.all (· == 0)
def roomN (n : Nat) : Nat := if n = 64 then 43 else if n = 128 then 88 else 0
def headF (t : Tg) (body : List UInt8) (n : Nat) : List UInt8 := le 2 body.length ++ (tagB t ++ (body ++ List.replicate (n - 21 - body.length) 0))
def sealF (t : Tg) (body : List UInt8) (n : Nat) : List UInt8 := headF t body n ++ le 4 (crcS (headF t body n))
def openF (b : List UInt8) : Nat × Tg × List UInt8 :=
  if roomN b.length = 0 then (2, zeroTg, []) else
  if noughtsB b = true then (0, zeroTg, []) else
  if mayTg (tagAt b 2) = true ∧ getN b 0 2 ≤ roomN b.length ∧ getN b (b.length - 4) 4 = crcS (b.take (b.length - 4)) ∧ noughtsB ((b.drop (17 + getN b 0 2)).take (b.length - 21 - getN b 0 2)) = true
  then (1, tagAt b 2, (b.drop 17).take (getN b 0 2)) else (2, zeroTg, [])
def mineF (b : List UInt8) (rep reg pla : Int) : Nat × Tg × List UInt8 :=
  if (openF b).1 = 1 ∧ ((openF b).2.1.rep ≠ rep ∨ (openF b).2.1.reg ≠ reg ∨ (openF b).2.1.pla ≠ pla) then (2, zeroTg, []) else openF b
theorem roomN_of {n : Nat} (h : 0 < roomN n) : (n = 64 ∨ n = 128) ∧ roomN n + 21 ≤ n := by
  unfold roomN at h ⊢
  split at h
  · rename_i h1; subst h1; simp
  · split at h
    · rename_i h1; subst h1; simp
    · omega
theorem headF_len {t : Tg} {body : List UInt8} {n : Nat} (hn : 0 < roomN n) (hb : body.length ≤ roomN n) : (headF t body n).length = n - 4 := by
  obtain ⟨_, h⟩ := roomN_of hn
  simp only [headF, List.length_append, le_len, tagB_len, List.length_replicate]
  omega
theorem sealF_len {t : Tg} {body : List UInt8} {n : Nat} (hn : 0 < roomN n) (hb : body.length ≤ roomN n) : (sealF t body n).length = n := by
  obtain ⟨_, h⟩ := roomN_of hn
  rw [sealF, List.length_append, headF_len hn hb, le_len]
  omega
theorem noughts_rep (n : Nat) : noughtsB (List.replicate n 0) = true := by simp [noughtsB]
theorem ofLe_noughts : ∀ {l : List UInt8}, noughtsB l = true → ofLe l = 0
  | [], _ => rfl
  | x :: l, h => by
    simp only [noughtsB, List.all_cons, Bool.and_eq_true] at h
    have h1 : x = 0 := by simpa using h.1
    subst h1
    simp only [ofLe]
    rw [ofLe_noughts (l := l) h.2]
    rfl
theorem getN_noughts {l : List UInt8} (h : noughtsB l = true) (p k : Nat) : getN l p k = 0 := by
  unfold getN
  refine ofLe_noughts ?_
  unfold noughtsB at h ⊢
  rw [List.all_eq_true] at h ⊢
  exact fun x hx => h x (List.mem_of_mem_drop (List.mem_of_mem_take hx))
theorem open_seal {t : Tg} {body : List UInt8} {n : Nat} (ht : mayTg t = true) (hn : 0 < roomN n) (hb : body.length ≤ roomN n) : openF (sealF t body n) = (1, t, body) := by
  obtain ⟨hn2, hr⟩ := roomN_of hn
  have hlen := sealF_len (t := t) hn hb
  have hh := headF_len (t := t) hn hb
  have e0 : getN (sealF t body n) 0 2 = body.length := getN_of (pre := []) (k := 2) (post := tagB t ++ (body ++ List.replicate (n - 21 - body.length) 0) ++ le 4 (crcS (headF t body n))) (by simp only [sealF, headF, List.append_assoc, List.nil_append]) rfl (by rcases hn2 with rfl | rfl <;> simp [roomN] at hb <;> omega)
  have e1 : tagAt (sealF t body n) 2 = t := tagAt_of (pre := le 2 body.length) (post := body ++ List.replicate (n - 21 - body.length) 0 ++ le 4 (crcS (headF t body n))) (by simp only [sealF, headF, List.append_assoc]) (le_len _ _) ht
  have e2 : getN (sealF t body n) (n - 4) 4 = crcS (headF t body n) := getN_of (pre := headF t body n) (post := []) (by simp [sealF]) hh (crcS_lt _)
  have e3 : (sealF t body n).take (n - 4) = headF t body n := by rw [sealF, ← hh, List.take_left]
  have e4 : (sealF t body n).drop 17 = body ++ (List.replicate (n - 21 - body.length) 0 ++ le 4 (crcS (headF t body n))) := by
    have h17 : (le 2 body.length ++ tagB t).length = 17 := by simp [le_len, tagB_len]
    have : sealF t body n = (le 2 body.length ++ tagB t) ++ (body ++ (List.replicate (n - 21 - body.length) 0 ++ le 4 (crcS (headF t body n)))) := by simp only [sealF, headF, List.append_assoc]
    rw [this, ← h17, List.drop_left]
  have e5 : (sealF t body n).drop (17 + body.length) = List.replicate (n - 21 - body.length) 0 ++ le 4 (crcS (headF t body n)) := by rw [← List.drop_drop, e4, List.drop_left]
  have hnz : noughtsB (sealF t body n) = false := by
    cases h : noughtsB (sealF t body n) with
    | false => rfl
    | true =>
      have h1 := congrArg Tg.inc e1
      have h2 := getN_noughts h (2 + 9) 6
      unfold tagAt at h1
      simp only at h1
      rw [h2] at h1
      have := (mayTg_parts ht).2.2.2.2.2.2.1
      omega
  unfold openF
  rw [hlen, if_neg (by omega), hnz, e0, e1, e2, e3, e4, e5]
  simp only [Bool.false_eq_true, if_false]
  refine (if_pos ⟨ht, hb, trivial, ?_⟩).trans (by rw [List.take_left])
  have : (List.replicate (n - 21 - body.length) (0 : UInt8) ++ le 4 (crcS (headF t body n))).take (n - 21 - body.length) = List.replicate (n - 21 - body.length) 0 := by
    have h := List.take_left (l₁ := List.replicate (n - 21 - body.length) (0 : UInt8)) (l₂ := le 4 (crcS (headF t body n)))
    rwa [List.length_replicate] at h
  rw [this]
  exact noughts_rep _
theorem mine_seal {t : Tg} {body : List UInt8} {n : Nat} (ht : mayTg t = true) (hn : 0 < roomN n) (hb : body.length ≤ roomN n) : mineF (sealF t body n) t.rep t.reg t.pla = (1, t, body) := by
  unfold mineF
  rw [open_seal ht hn hb]
  simp
end Go.Proofs.YtddddemclhlfaaaGreatDoor
namespace Go.Proofs.YtddddemclhlfaaaGreatDoor
end Go.Proofs.YtddddemclhlfaaaGreatDoor
namespace Go.Proofs.YtddddemclhlfaaaGreatDoor
structure Pl where
  rest : List UInt8
  meant : List UInt8
  lost : Bool
structure Dk where
  pl : List Pl
  waits : List (List UInt8 × Nat)
  down : Bool
  dead : Bool
  left : Int
def zeros64 : List UInt8 := List.replicate 64 0
def zeroPl : Pl := ⟨zeros64, zeros64, false⟩
def newDk (n : Nat) : Dk := ⟨List.replicate n zeroPl, [], false, false, -1⟩
/-! The errors of a call: 1 nobody made it, 2 an argument, 5 down, 50 lost. -/
def thereD (d : Dk) (s : Int) : Int := if d.pl.length = 0 then 1 else if s < 0 ∨ (d.pl.length : Int) ≤ s then 2 else 0
def there0 (d : Dk) : Int := if d.pl.length = 0 then 1 else 0
def liveD (d : Dk) (s : Int) : Int := if 0 < d.pl.length ∧ (d.down = true ∨ d.dead = true) then 5 else thereD d s
def live0 (d : Dk) : Int := if 0 < d.pl.length ∧ (d.down = true ∨ d.dead = true) then 5 else there0 d
def spendD (d : Dk) : Dk × Int := if d.left = 0 then ({ d with dead := true }, 5) else if 0 < d.left then ({ d with left := d.left - 1 }, 0) else (d, 0)
def powerD (d : Dk) (n : Int) : Dk × Int := if live0 d ≠ 0 then (d, live0 d) else if n < 0 then (d, 2) else ({ d with left := n }, 0)
def lastW : List (List UInt8 × Nat) → Nat → Option (List UInt8)
  | [], _ => none
  | (b, k) :: l, s => match lastW l s with
    | some x => some x
    | none => if k = s then some b else none
def readD (d : Dk) (s : Int) : List UInt8 × Int :=
  if liveD d s ≠ 0 then ([], liveD d s) else
  match lastW d.waits s.toNat with
  | some b => (b, 0)
  | none => match d.pl[s.toNat]? with
    | none => ([], 2)
    | some p => if p.lost = true then ([], 50) else (p.rest, 0)
def writeD (d : Dk) (s : Int) (b : List UInt8) : Dk × Int :=
  if liveD d s ≠ 0 then (d, liveD d s) else
  if b.length ≠ 64 then (d, 2) else
  if (spendD d).2 ≠ 0 then spendD d else ({ (spendD d).1 with waits := (spendD d).1.waits ++ [(b, s.toNat)] }, 0)
def thruD : List Pl → List (List UInt8 × Nat) → Nat → (Nat → Bool) → List Pl
  | pl, [], _, _ => pl
  | pl, (b, s) :: l, k, is => thruD (if is k = true then pl.set s ⟨b, b, false⟩ else pl) l (k + 1) is
def flushD (d : Dk) : Dk × Int :=
  if live0 d ≠ 0 then (d, live0 d) else
  if (spendD d).2 ≠ 0 then spendD d else ({ (spendD d).1 with pl := thruD (spendD d).1.pl (spendD d).1.waits 0 (fun _ => true), waits := [] }, 0)
def keepB (keep : List Bool) (k : Nat) : Bool := keep.getD k false
def crashD (d : Dk) (keep : List Bool) : Dk × Int :=
  if 0 < d.pl.length ∧ d.down = true then (d, 5) else
  if there0 d ≠ 0 then (d, there0 d) else ({ d with pl := thruD d.pl d.waits 0 (keepB keep), waits := [], down := true }, 0)
def startD (d : Dk) : Dk × Int :=
  if there0 d ≠ 0 then (d, there0 d) else if d.down = false then (d, 2) else ({ d with down := false, dead := false, left := -1 }, 0)
def upD (d : Dk) : Bool := decide (0 < d.pl.length) && (!d.down && !d.dead)
def turnBit (l : List UInt8) (bit : Nat) : List UInt8 := l.set (bit / 8) (UInt8.ofNat ((l.getD (bit / 8) 0).toNat ^^^ 2 ^ (bit % 8)))
def flipD (d : Dk) (s bit : Int) : Dk × Int :=
  if thereD d s ≠ 0 then (d, thereD d s) else if bit < 0 then (d, 2) else
  ({ d with pl := d.pl.modify s.toNat (fun p => { p with rest := turnBit p.rest (bit.toNat % 512) }) }, 0)
def loseD (d : Dk) (s : Int) : Dk × Int :=
  if thereD d s ≠ 0 then (d, thereD d s) else ({ d with pl := d.pl.modify s.toNat (fun p => { p with lost := true }) }, 0)
def strayD (d : Dk) (s t : Int) : Dk × Int :=
  if thereD d s ≠ 0 then (d, thereD d s) else if thereD d t ≠ 0 then (d, thereD d t) else
  ({ d with pl := d.pl.modify t.toNat (fun p => { p with rest := (d.pl.getD s.toNat zeroPl).rest, lost := (d.pl.getD s.toNat zeroPl).lost }) }, 0)
def restD (d : Dk) (s : Int) : List UInt8 × Bool × Int :=
  if thereD d s ≠ 0 then ([], false, thereD d s) else
  if (d.pl.getD s.toNat zeroPl).lost = true then ([], true, 0) else ((d.pl.getD s.toNat zeroPl).rest, false, 0)
def meantD (d : Dk) (s : Int) : List UInt8 × Int := if thereD d s ≠ 0 then ([], thereD d s) else ((d.pl.getD s.toNat zeroPl).meant, 0)
/-! The cell. -/
structure Cp where
  st : Nat
  tg : Tg
  body : List UInt8
def overC (c x : Cp) : Bool := decide (c.st = 1) && (decide (x.st ≠ 1) || decide (x.tg.idx < c.tg.idx))
def copyC (d : Dk) (rep reg : Int) (i : Int) : Cp := ⟨(mineF (readD d (firstN reg i)).1 rep reg i).1, (mineF (readD d (firstN reg i)).1 rep reg i).2.1, (mineF (readD d (firstN reg i)).1 rep reg i).2.2⟩
def openC (d : Dk) (rep reg : Int) : Int :=
  if d.pl.length = 0 then 1 else if d.pl.length < 156 ∨ (reg ≠ 1 ∧ reg ≠ 2) ∨ rep < 0 ∨ 7 ≤ rep then 2 else if upD d = false then 5 else 0
def loadedC (c0 c1 : Cp) : Nat × Bool × Int :=
  if overC c1 c0 = true then (1, true, 0) else if c0.st = 1 then (0, true, 0) else if c0.st = 0 ∨ c1.st = 0 then (0, false, 0) else (0, false, 70)
theorem over_good {c x : Cp} (h : overC c x = true) : c.st = 1 := by
  simp only [overC, Bool.and_eq_true, decide_eq_true_eq] at h
  exact h.1
def pickC (c0 c1 : Cp) : Cp := if (loadedC c0 c1).1 = 1 then c1 else c0
def loadC (d : Dk) (rep reg : Int) : Int × List UInt8 × Int :=
  if openC d rep reg ≠ 0 then (0, [], openC d rep reg) else
  if (loadedC (copyC d rep reg 0) (copyC d rep reg 1)).2.1 = false then (0, [], (loadedC (copyC d rep reg 0) (copyC d rep reg 1)).2.2) else
  ((pickC (copyC d rep reg 0) (copyC d rep reg 1)).tg.idx, (pickC (copyC d rep reg 0) (copyC d rep reg 1)).body, 0)
def putC (d : Dk) (t : Tg) (body : List UInt8) : Dk × Int :=
  if (writeD d (firstN t.reg t.pla) (sealF t body 64)).2 ≠ 0 then writeD d (firstN t.reg t.pla) (sealF t body 64) else
  flushD (writeD d (firstN t.reg t.pla) (sealF t body 64)).1
def storeC (d : Dk) (rep reg inc : Int) (body : List UInt8) : Dk × Int :=
  if openC d rep reg ≠ 0 ∧ openC d rep reg ≠ 5 then (d, openC d rep reg) else
  if inc < 1 ∨ 1099511627776 < inc then (d, 2) else
  if 43 < body.length then (d, 3) else
  if openC d rep reg ≠ 0 then (d, openC d rep reg) else
  let ld := loadedC (copyC d rep reg 0) (copyC d rep reg 1)
  if ld.2.2 ≠ 0 then (d, ld.2.2) else
  let version := (pickC (copyC d rep reg 0) (copyC d rep reg 1)).tg.idx + 1
  if 1099511627776 < version then (d, 4) else
  let first : Int := if ld.2.1 = true then 1 - (ld.1 : Int) else 0
  let r := putC d ⟨rep, reg, first, version, inc⟩ body
  if r.2 ≠ 0 then r else putC r.1 ⟨rep, reg, 1 - first, version, inc⟩ body
def healC (d : Dk) (rep reg : Int) : Dk × Int :=
  if openC d rep reg ≠ 0 then (d, openC d rep reg) else
  let c0 := copyC d rep reg 0
  let c1 := copyC d rep reg 1
  let ld := loadedC c0 c1
  if ld.2.1 = false then (d, ld.2.2) else
  let x := if ld.1 = 1 then c1 else c0
  let y := if ld.1 = 1 then c0 else c1
  if x.st = y.st ∧ x.tg.idx = y.tg.idx ∧ x.body = y.body then (d, 0) else
  putC d ⟨rep, reg, 1 - (ld.1 : Int), x.tg.idx, x.tg.inc⟩ x.body
end Go.Proofs.YtddddemclhlfaaaGreatDoor
namespace Go.Proofs.YtddddemclhlfaaaGreatDoor
open Go.RowKit
theorem flat_len {α : Type} {f : α → List Value} {n : Nat} (hf : ∀ x, (f x).length = n) : ∀ (l : List α), (l.flatMap f).length = n * l.length
  | [] => by simp
  | x :: l => by
    have := flat_len hf l
    rw [List.flatMap_cons, List.length_append, this, hf, List.length_cons, Nat.mul_succ]
    omega
theorem flat_at {α : Type} {f : α → List Value} {n : Nat} (hf : ∀ x, (f x).length = n) : ∀ {l : List α} {i : Nat} {c : α}, l[i]? = some c → ∀ j u, (f c)[j]? = some u → (l.flatMap f)[i * n + j]? = some u
  | [], i, c, h => by simp at h
  | q :: l, 0, c, h => by
    simp at h
    subst h
    intro j u hj
    have hlt := (List.getElem?_eq_some_iff.1 hj).1
    simp only [List.flatMap_cons, Nat.zero_mul, Nat.zero_add]
    rw [List.getElem?_append_left hlt]
    exact hj
  | q :: l, i + 1, c, h => by
    simp only [List.getElem?_cons_succ] at h
    intro j u hj
    have := flat_at hf h j u hj
    simp only [List.flatMap_cons]
    rw [List.getElem?_append_right (by rw [hf, Nat.succ_mul]; omega), hf]
    rw [show (i + 1) * n + j - n = i * n + j by rw [Nat.succ_mul]; omega]
    exact this
theorem Row.flat {α : Type} {f : α → List Value} {n : Nat} (hf : ∀ x, (f x).length = n) (hn : 0 < n) {w : World} {a : Option Addr} {l : List α} (h : Row w a (l.flatMap f)) {i : Nat} {c : α} (hp : l[i]? = some c) :
    ∃ b off, a = some ⟨b, off, none⟩ ∧ b < w.heap.size ∧ ∀ j u, (f c)[j]? = some u → w.cell? ⟨b, off + i * n + j, none⟩ = some u := by
  have hi := (List.getElem?_eq_some_iff.1 hp).1
  have hpos : 0 < (l.flatMap f).length := by rw [flat_len hf]; exact Nat.mul_pos hn (by omega)
  obtain ⟨b, off, ha, hc⟩ := h.at hpos
  have hat := flat_at hf hp
  have H : ∀ j u, (f c)[j]? = some u → w.cell? ⟨b, off + i * n + j, none⟩ = some u := fun j u hj => by
    rw [Nat.add_assoc]
    exact hc _ _ (hat j u hj)
  refine ⟨b, off, ha, ?_, H⟩
  have h0 : (f c)[0]? = some ((f c)[0]'(by rw [hf]; exact hn)) := List.getElem?_eq_getElem _
  exact World.block_lt_of_cell? _ _ (H 0 _ h0)
theorem Row.flat0 {α : Type} {f : α → List Value} {n : Nat} (hf : ∀ x, (f x).length = n) (hn : 0 < n) {w : World} {a : Option Addr} {l : List α} (h : Row w a (l.flatMap f)) {i : Nat} {c : α} (hp : l[i]? = some c) :
    ∃ b off, a = some ⟨b, off, none⟩ ∧ b < w.heap.size ∧ (∀ u, (f c)[0]? = some u → w.cell? ⟨b, off + i * n, none⟩ = some u) ∧ ∀ j u, (f c)[j]? = some u → w.cell? ⟨b, off + i * n + j, none⟩ = some u := by
  obtain ⟨b, off, ha, hb, hc⟩ := h.flat hf hn hp
  exact ⟨b, off, ha, hb, fun u hu => hc 0 u hu, hc⟩
theorem Row.of_block {w : World} {g : Nat} {cs : List Value} {T : TypeId} {xs : List Value} (h : w.heap[g]? = some (.cells cs.toArray T (0, 0))) (off : Nat) (hx : ∀ i u, xs[i]? = some u → cs[off + i]? = some u) : Row w (some ⟨g, off, none⟩) xs := by
  refine .inr ⟨g, off, rfl, fun i u hu => ?_⟩
  simp only [World.cell?, h]
  simpa using hx i u hu
theorem blk_cell {w : World} {g : Nat} {cs : Array Value} {T : TypeId} (h : w.heap[g]? = some (.cells cs T (0, 0))) (j : Nat) (v : Value) (hj : cs[j]? = some v) : w.cell? ⟨g, j, none⟩ = some v := by
  simp only [World.cell?, h]
  simpa using hj
theorem blw (w : World) (o : Obj) : Below w.heap.size w (w.alloc o) := (Below.refl _ _).alloc (Nat.le_refl _) o
end Go.Proofs.YtddddemclhlfaaaGreatDoor
namespace Go.Proofs.YtddddemclhlfaaaGreatDoor
open Go.RowKit
variable {P : Program}
theorem run_loadVar_part (w : World) (g off n : Nat) (T ty : TypeId) (cs : Array Value) (ha : (isAgg ty).run P w = .ok true w) (hs : (sizeOf ty).run P w = .ok n w) (hg : w.heap[g]? = some (.cells cs T (0, 0))) (hn : off + n ≤ cs.size) :
    (loadVar ty ⟨g, off, none⟩).run P w = .ok (.agg (cs.extract off (off + n))) w := by
  have hlen : (cs.extract off (off + n)).toList.length = n := by simp; omega
  have hl := run_loadCells_list (P := P) (w := w) ⟨g, off, none⟩ (cs.extract off (off + n)).toList (fun j v hv => by
    have hj := (List.getElem?_eq_some_iff.1 hv).1
    rw [hlen] at hj
    rw [addr_add, cell_of_row w g (off + j) cs T (0, 0) hg]
    have h2 : (cs.extract off (off + n))[j]? = some v := by rw [← Array.getElem?_toList]; exact hv
    rw [Array.getElem?_extract] at h2
    split at h2
    · exact h2
    · cases h2)
  rw [hlen] at hl
  simp only [Array.toArray_toList] at hl
  simp only [loadVar, Sem.run_bind, ha, hs, hl, Result.andThen_ok, if_true, Sem.run_pure]
theorem arr_all {cs : Array Value} {n : Nat} (h : cs.size = n) : 0 + n ≤ cs.size ∧ cs.extract 0 (0 + n) = cs := ⟨by omega, by subst h; simp⟩
def LdAt (P : Program) (a : Act) (w : World) (ty : TypeId) (x : Operand) (v : Array Value) : Prop :=
  ∃ (g off n : Nat) (cs : Array Value) (T : TypeId), (∀ w, (isAgg ty).run P w = .ok true w) ∧ (∀ w, (sizeOf ty).run P w = .ok n w) ∧ a.eval x = .pointer (some ⟨g, off, none⟩) ∧ w.heap[g]? = some (.cells cs T (0, 0)) ∧ (off + n ≤ cs.size ∧ cs.extract off (off + n) = v)
theorem wp_ldB {a : Act} {w : World} {K : Act → World → Prop} {Q : Exit → Act → World → Prop} {dst : Option Tmp} {ty' : TypeId} {pos : String} {af : Array Edge} {gd : Option (Nat × Bool)} (ty : TypeId) (x : Operand) (hl : ∃ v, LdAt P a w ty x v ∧ K (a.put dst (.agg v)) w) : (Oper.mk dst (.load ty x) ty' pos af gd).wp P a w K Q := by
  obtain ⟨v, ⟨g, off, n, cs, T, ha, hs, hx, hg, hn, rfl⟩, h⟩ := hl
  unfold Oper.wp execOp
  simp only [hx, Instr.loadAt, Instr.sureAddr, Sem.run_bind, Sem.run_pure, Result.andThen_ok, run_loadVar_part w g off n T ty cs (ha w) (hs w) hg hn]
  exact h
theorem wpList_ldB {ops : Array Oper} {rest : List Oper} {a : Act} {w : World} {Q : Exit → Act → World → Prop} {dst : Option Tmp} {ty' : TypeId} {pos : String} {af : Array Edge} {gd : Option (Nat × Bool)} (ty : TypeId) (x : Operand)
    (hl : Region.wanted (Oper.mk dst (.load ty x) ty' pos af gd) (yielded ops a.tmps) = true ∧ ∃ v, LdAt P a w ty x v ∧ wpList P ops Q rest (a.put dst (.agg v)) w) : wpList P ops Q (Oper.mk dst (.load ty x) ty' pos af gd :: rest) a w :=
  BigFrame.wpList_want hl.1 fun _ hK => wp_ldB ty x (hl.2.imp fun _ h => ⟨h.1, hK _ _ h.2⟩)
theorem exec_ldB {a : Act} {w : World} {dst : Option Tmp} {ty' : TypeId} {pos : String} {af : Array Edge} {gd : Option (Nat × Bool)} (ty : TypeId) (x : Operand) {v : Array Value} (hl : LdAt P a w ty x v) : (execOp a.eval (Oper.mk dst (.load ty x) ty' pos af gd)).run P w = .ok (.value (.agg v)) w := by
  obtain ⟨g, off, n, cs, T, ha, hs, hx, hg, hn, rfl⟩ := hl
  unfold execOp
  simp only [hx, Instr.loadAt, Instr.sureAddr, Sem.run_bind, Sem.run_pure, Result.andThen_ok, run_loadVar_part w g off n T ty cs (ha w) (hs w) hg hn]
theorem run_storeVar_part (w : World) (g off n : Nat) (T ty : TypeId) (cs : Array Value) (v : Value) (hs : (sizeOf ty).run P w = .ok n w) (hv : v.cells.size = n) (h1 : ∀ u ∈ v.cells.toList, u.oneCell' = true) (hg : w.heap[g]? = some (.cells cs T (0, 0))) (hn : off + n ≤ cs.size) :
    (storeVar ty ⟨g, off, none⟩ v).run P w = .ok () (w.setRow g (cs.toList.take off ++ v.cells.toList ++ cs.toList.drop (off + n)).toArray) := by
  have hst := run_storeCells_at P g off T v.cells.toList 0 cs w hg (by simpa [hv] using hn) h1
  simp only [Nat.add_zero, Array.length_toList, hv] at hst
  simp [storeVar, Sem.run_bind, hs, hv, hst]
def StAt (P : Program) (a : Act) (w : World) (ty : TypeId) (x y : Operand) (g : Nat) (T : TypeId) (cs' : Array Value) : Prop :=
  ∃ (off n : Nat) (cs : Array Value), (∀ w, (sizeOf ty).run P w = .ok n w) ∧ a.eval x = .pointer (some ⟨g, off, none⟩) ∧ w.heap[g]? = some (.cells cs T (0, 0)) ∧
    (off + n ≤ cs.size ∧ (a.eval y).cells.size = n ∧ (∀ u ∈ (a.eval y).cells.toList, u.oneCell' = true) ∧ (cs.toList.take off ++ (a.eval y).cells.toList ++ cs.toList.drop (off + n)).toArray = cs')
theorem setRow_grown (w : World) (g : Nat) (cs : Array Value) : w.grownBy (w.setRow g cs) (some g) := grownBy_setRow w g cs
theorem wp_stB {a : Act} {w : World} {K : Act → World → Prop} {Q : Exit → Act → World → Prop} {ty' : TypeId} {pos : String} {af : Array Edge} {gd : Option (Nat × Bool)} (ty : TypeId) (x y : Operand) (hl : ∃ (g : Nat) (T : TypeId) (cs' : Array Value), StAt P a w ty x y g T cs' ∧ ∀ w', w'.heap[g]? = some (.cells cs' T (0, 0)) → w.grownBy w' (some g) → K a w') : (Oper.mk none (.store ty x y) ty' pos af gd).wp P a w K Q := by
  obtain ⟨g, T, cs', ⟨off, n, cs, hs, hx, hg, hn, hv, h1, hc⟩, h⟩ := hl
  unfold Oper.wp execOp
  simp only [hx, Instr.storeAt, Instr.sureAddr, Sem.run_bind, Sem.run_pure, Result.andThen_ok, run_storeVar_part w g off n T ty cs _ (hs w) hv h1 hg hn, hc]
  exact h _ (setRow_heap w g _ _ T _ hg) (setRow_grown w g _)
theorem wpList_stB {ops : Array Oper} {rest : List Oper} {a : Act} {w : World} {Q : Exit → Act → World → Prop} {ty' : TypeId} {pos : String} {af : Array Edge} (ty : TypeId) (x y : Operand) (hl : ∃ (g : Nat) (T : TypeId) (cs' : Array Value), StAt P a w ty x y g T cs' ∧ ∀ w', w'.heap[g]? = some (.cells cs' T (0, 0)) → w.grownBy w' (some g) → wpList P ops Q rest a w') : wpList P ops Q (Oper.mk none (.store ty x y) ty' pos af none :: rest) a w := by
  obtain ⟨g, T, cs', hs, h⟩ := hl
  exact wpList_plain rfl fun _ hK => wp_stB ty x y ⟨g, T, cs', hs, fun w' h1 h2 => hK _ _ (h w' h1 h2)⟩
def StNew (P : Program) (a : Act) (w : World) (ty : TypeId) (x y : Operand) (n : Nat) (cs' : Array Value) : Prop :=
  (∀ w, (sizeOf ty).run P w = .ok n w) ∧ a.eval x = .pointer (some ⟨w.heap.size, 0, none⟩) ∧ (a.eval y).cells = cs' ∧ cs'.size = n ∧ (∀ u ∈ cs'.toList, u.oneCell' = true)
theorem setRow_alloc (w : World) (cs cs' : Array Value) (T : TypeId) : (w.alloc (.cells cs T)).setRow w.heap.size cs' = w.alloc (.cells cs' T) := by
  unfold World.setRow World.alloc
  congr 1
  apply Array.ext
  · simp
  · intro i h1 h2
    rw [Array.getElem_modify]
    simp only [Array.getElem_push]
    by_cases hi : w.heap.size = i
    · subst hi; simp
    · have : i < w.heap.size := by simp at h2; omega
      simp [hi, this]
theorem wp_stNew {a : Act} {w : World} {K : Act → World → Prop} {Q : Exit → Act → World → Prop} {ty' : TypeId} {pos : String} {af : Array Edge} {gd : Option (Nat × Bool)} (ty : TypeId) (x y : Operand) {cs : Array Value} {T : TypeId} (hl : ∃ (n : Nat) (cs' : Array Value), StNew P a w ty x y n cs' ∧ cs.size = n ∧ K a (w.alloc (.cells cs' T))) : (Oper.mk none (.store ty x y) ty' pos af gd).wp P a (w.alloc (.cells cs T)) K Q := by
  obtain ⟨n, cs', ⟨hs, hx, hv, hc, h1⟩, hsz, h⟩ := hl
  have hst := run_storeVar_part (P := P) (w.alloc (.cells cs T)) w.heap.size 0 n T ty cs (a.eval y) (hs _) (by rw [hv]; exact hc) (by rw [hv]; exact h1) (heap_alloc_new w _) (by omega)
  rw [hv] at hst
  have e : (cs.toList.take 0 ++ cs'.toList ++ cs.toList.drop (0 + n)).toArray = cs' := by
    rw [List.drop_of_length_le (by simp; omega)]
    simp
  rw [e, setRow_alloc] at hst
  unfold Oper.wp execOp
  simp only [hx, Instr.storeAt, Instr.sureAddr, Sem.run_bind, Sem.run_pure, Result.andThen_ok, hst]
  exact h
theorem wpList_stNew {ops : Array Oper} {rest : List Oper} {a : Act} {w : World} {Q : Exit → Act → World → Prop} {ty' : TypeId} {pos : String} {af : Array Edge} (ty : TypeId) (x y : Operand) {cs : Array Value} {T : TypeId} (hl : ∃ (n : Nat) (cs' : Array Value), StNew P a w ty x y n cs' ∧ cs.size = n ∧ wpList P ops Q rest a (w.alloc (.cells cs' T))) : wpList P ops Q (Oper.mk none (.store ty x y) ty' pos af none :: rest) a (w.alloc (.cells cs T)) := by
  obtain ⟨n, cs', hs, hsz, h⟩ := hl
  exact wpList_plain rfl fun _ hK => wp_stNew ty x y ⟨n, cs', hs, hsz, hK _ _ h⟩
/-! Facts on blocks, carried on. -/
theorem tr_gb {w w' : World} {r : Option Nat} {j : Nat} {o : Obj} (hg : w.grownBy w' r) (h : w.heap[j]? = some o) (hne : r ≠ some j) : w'.heap[j]? = some o := (hg.block j (Array.getElem?_eq_some_iff.1 h).1 (fun e => hne e.symm)).trans h
theorem tr_st {w w' : World} {g j : Nat} {o : Obj} (hg : w.grownBy w' (some g)) (h : w.heap[j]? = some o) (hne : g ≠ j) : w'.heap[j]? = some o := tr_gb hg h (fun e => hne (Option.some.inj e))
theorem tr_bl {w w' : World} {j : Nat} {o : Obj} (hb : Below w.heap.size w w') (h : w.heap[j]? = some o) : w'.heap[j]? = some o := (hb.block j (Array.getElem?_eq_some_iff.1 h).1).trans h
theorem tr_al {w : World} {j : Nat} {o : Obj} (o' : Obj) (h : w.heap[j]? = some o) : (w.alloc o').heap[j]? = some o := tr_bl (blw w o') h
theorem lt_blk {w : World} {j : Nat} {o : Obj} (h : w.heap[j]? = some o) : j < w.heap.size := (Array.getElem?_eq_some_iff.1 h).1
theorem owns_ne {w w' : World} {base n size g : Nat} {e T : TypeId} {v : Value} {xs : List Value} {cs : Array Value} (h : w.ownsRow base e size v n xs) (hg : w.grownBy w' (some g)) (hc : w.heap[g]? = some (.cells cs T (0, 0))) (hne : e ≠ T) : w'.ownsRow base e size v n xs := by
  obtain ⟨hl, h | ⟨k, cap, cur, hv, hk, hc2, r⟩⟩ := h
  · exact ⟨hl, .inl h⟩
  · refine ⟨hl, .inr ⟨k, cap, cur, hv, hk, tr_st hg hc2 ?_, r⟩⟩
    rintro rfl
    rw [hc] at hc2
    injection hc2 with hc2
    injection hc2 with _ ht
    exact hne ht.symm
theorem owns_bl {w w' : World} {base n size : Nat} {e : TypeId} {v : Value} {xs : List Value} (h : w.ownsRow base e size v n xs) (hb : Below w.heap.size w w') : w'.ownsRow base e size v n xs := owns_after h hb
theorem bl_st {B : Nat} {w w' w'' : World} {g : Nat} (hb : Below B w w') (hg : w'.grownBy w'' (some g)) (hB : B ≤ w'.heap.size) (h : B ≤ g) : Below B w w'' := hb.grown hg hB (fun k e => by cases e; exact h)
/-! Results that lie in blocks. -/
theorem results_c1 {fn : Func} {p t : Nat} {tmps : Array Value} {w : World} {A : Addr} {v : Value} (hf : fn.results = #[.cell p t]) (hp : tmps.getD p undef = .pointer (some A)) (hl : (loadVar t A).run P w = .ok v w) : (results fn tmps).run P w = .ok v w := by
  have hp' : tmps[p]?.getD undef = .pointer (some A) := by simpa using hp
  simp [results, hf, hp', asAddr, hl]
theorem results_c1t1 {fn : Func} {p t q : Nat} {tmps : Array Value} {w : World} {A : Addr} {v : Value} (hf : fn.results = #[.cell p t, .tmp q]) (hp : tmps.getD p undef = .pointer (some A)) (hl : (loadVar t A).run P w = .ok v w) : (results fn tmps).run P w = .ok (.tuple #[v, tmps.getD q undef]) w := by
  have hp' : tmps[p]?.getD undef = .pointer (some A) := by simpa using hp
  simp [results, hf, hp', asAddr, hl]
theorem run_loadVar_all {w : World} {g n : Nat} {T ty : TypeId} {cs : Array Value} (ha : ∀ w, (isAgg ty).run P w = .ok true w) (hs : ∀ w, (sizeOf ty).run P w = .ok n w) (hg : w.heap[g]? = some (.cells cs T (0, 0))) (hn : cs.size = n) : (loadVar ty ⟨g, 0, none⟩).run P w = .ok (.agg cs) w := by
  have := run_loadVar_part (P := P) w g 0 n T ty cs (ha w) (hs w) hg (by omega)
  rw [this]
  subst hn
  simp
end Go.Proofs.YtddddemclhlfaaaGreatDoor
namespace Go.Proofs.YtddddemclhlfaaaGreatDoor
open Go.RowKit
variable {P : Program} {ops : Array Oper} {C : World → Prop}
theorem wp_region_cls {id : Nat} {Q : Exit → Act → World → Prop} {a : Act} {w : World} {l : List Oper} (hm : P.follows .mixedOrders = true) (hB : Region.lexB .any l.toArray = true) (hC : C w.drew)
    (h : wpQuiet P l.toArray C (fun a' => ∀ w', C w' → Q .normal a' w') l a) : (Code.region id l.toArray true).wp P Q a w :=
  wp_region_quiet (C := C) hm hB hC (by simpa using h)
theorem wpQuiet_gen {Q : Act → Prop} {a : Act} {o : Oper} {rest : List Oper} (hw : Region.wanted o (yielded ops a.tmps) = true) (v : Value) (hy : ∀ w, C w → o.quietAt P a C w v)
    (h : wpQuiet P ops C Q rest (a.put o.dst v)) : wpQuiet P ops C Q (o :: rest) a := by
  unfold wpQuiet
  rw [if_pos hw]
  exact ⟨v, hy, h⟩
theorem wpQuiet_val {Q : Act → Prop} {a : Act} {o : Oper} {rest : List Oper} (hw : Region.wanted o (yielded ops a.tmps) = true) (v : Value) (hy : ∀ w, C w → (execOp a.eval o).run P w = .ok (.value v) w)
    (h : wpQuiet P ops C Q rest (a.put o.dst v)) : wpQuiet P ops C Q (o :: rest) a :=
  wpQuiet_gen hw v (fun w hC => by unfold Oper.quietAt; rw [hy w hC]; exact ⟨rfl, rfl⟩) h
theorem wpQuiet_skip {Q : Act → Prop} {a : Act} {o : Oper} {rest : List Oper} (hw : Region.wanted o (yielded ops a.tmps) = false) (h : wpQuiet P ops C Q rest (a.put o.dst undef)) : wpQuiet P ops C Q (o :: rest) a := by
  unfold wpQuiet
  rw [if_neg (by rw [hw]; simp)]
  exact h
end Go.Proofs.YtddddemclhlfaaaGreatDoor
