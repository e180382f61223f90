/- Texts that the claim leans on, part 3: K2b, K8, K9, Flat, I4, I4b, Blk, Qui. -/
import Derived.Test.YtkkoookmnnmiiaaZ1
import Derived.Test.YtkkoookmnnmiiaaZ2
import Derived.Test.YtkkoookmnnmiiaaRows
import Derived.WalkKit
import Derived.WalkSpells
import Derived.WalkLawsBesides
import Derived.Handy
import Derived.Deep.QuietTactic
import Derived.BigQuiet
import Derived.Deep.DeepCutAuto
import Derived.Lib.Hide
import Derived.RegionTactic
import Derived.ChangeAlike
import Derived.Laws.ResultCell
import Derived.Laws.Rows
import Derived.Deep.Quiet
import Derived.Deep.RegionHeld3
import Derived.ProofKit
import Derived.OpenShut
import Derived.Laws.Strings
import Derived.Laws.CopyOwn
import Derived.Laws.CopyRow
import Derived.Laws.NewBlocks
import Derived.Deep.RegionLaw
namespace Go.Proofs.Ytkkoookmnnmiiaa
open Go.RowKit

theorem hasK_at {l : List Pr} {k : Tx} (hr : Rises l) {y : Pr} (hy : l[(lo l k).length]? = some y) : hasK l k = decide (y.1 = k) := by
  unfold hasK
  cases h : look l k with
  | some v =>
    rw [at_yes hr h] at hy
    injection hy with hy
    subst hy
    simp
  | none =>
    have := at_no hr h hy
    simp [this]
theorem hasK_end {l : List Pr} {k : Tx} (hr : Rises l) (hy : l.length ≤ (lo l k).length) : hasK l k = false := by
  unfold hasK
  cases h : look l k with
  | none => rfl
  | some v =>
    have := at_yes hr h
    rw [List.getElem?_eq_none hy] at this
    cases this
theorem lo_le (l : List Pr) (k : Tx) : (lo l k).length ≤ l.length := List.length_filter_le _ _

set_option maxHeartbeats 2000000 in
theorem bsf_any (a : Option Addr) (cap : Nat) (l : List Pr) (k : Tx) (w : World) (hr : Row w a (prs l)) (hl : l.length ≤ 1000000) (hso : Rises l) :
    Calls Try.prog 102 #[.slice a l.length cap, .string k, .func (.func 103) #[] #[]] w fun e w' => e = .returned (.tuple #[.int .i64 (lo l k).length, .bool (hasK l k)]) ∧ Below w.heap.size w w' := by
  go_enter Try.func102, Try.ntmps102
  refine wp_seq_k (fun K hK => ?_)
  have HK := Lib.hid hK
  clear hK
  go_wp2
  refine HK.out _ _ ?_
  clear HK
  refine wp_seq_k (fun K hK => ?_)
  have HK := Lib.hid hK
  clear hK
  go_wp2
  refine HK.out _ _ ?_
  clear HK
  refine wp_seq_k (fun K hK => ?_)
  have HK := Lib.hid hK
  clear hK
  go_wp2
  refine HK.out _ _ ?_
  clear HK
  refine wp_seq_k (fun K hK => ?_)
  go_cut [9] (fun i wx => i = .int .i64 (lo l k).length ∧ Below w.heap.size w wx)
  case first =>
    go_wp2_with fail
    go_loopw [9, 10] (fun i j wr => ∃ a b : Nat, a ≤ b ∧ b ≤ l.length ∧ i = .int .i64 a ∧ j = .int .i64 b ∧ BsK l k a b ∧ Below w.heap.size w wr)
      (fun i j _ => (intOf j).toNat - (intOf i).toNat)
    case atStart => exact ⟨0, l.length, by omega, by omega, rfl, rfl, ⟨fun _ _ _ h => by omega, fun k y h hk => by rw [List.getElem?_eq_none hk] at h; cases h⟩, Below.refl _ _⟩
    case round =>
      obtain ⟨a, b, hab, hb, rfl, rfl, hinv, hbr⟩ := hrel
      by_cases hlt : a < b
      · have hm : (a + b) / 2 < l.length := by omega
        obtain ⟨bb, off, rfl, hblt, hcs⟩ := (hr.below0 hbr).pair (List.getElem?_eq_getElem hm)
        obtain ⟨c0, c1⟩ := hcs ((a + b) / 2) _ (List.getElem?_eq_getElem hm)
        clear hcs
        have hlo := bsK_lo (k := k) hso hinv (List.getElem?_eq_getElem hm)
        have hhi := bsK_hi (k := k) hso hinv (List.getElem?_eq_getElem hm)
        generalize l[(a + b) / 2] = y at *
        obtain ⟨y1, y2⟩ := y
        cases hyx : kl y1 k
        · have hh := hhi hyx
          have hc : ¬ cmpI y1 k < 0 := by
            unfold cmpI
            rw [hyx]
            split
            · rename_i h; cases h
            · split <;> omega
          clear hlo hhi hyx
          go_wp2_with (go_at_call 103; refine (find1_any _ _ _ _).mono ?_; rintro e w1 ⟨rfl, hb1⟩)
          go_roundw
          case rel => exact ⟨a, (a + b) / 2, by omega, by omega, rfl, by go_num, hh, hbr.trans (hb1.mono hbr.size)⟩
          case measure => simp [intOf]; omega
        · have hh := hlo hyx
          have hc : cmpI y1 k < 0 := by rw [cmpI_lt hyx]; decide
          clear hlo hhi hyx
          go_wp2_with (go_at_call 103; refine (find1_any _ _ _ _).mono ?_; rintro e w1 ⟨rfl, hb1⟩)
          go_roundw
          case rel => exact ⟨(a + b) / 2 + 1, b, by omega, hb, by go_num, rfl, hh, hbr.trans (hb1.mono hbr.size)⟩
          case measure => simp [intOf]; omega
      · go_wp2
        go_meet
        have := pos_lo (l := l) (k := k) (i := a) ⟨by omega, hinv.1, by rw [show a = b by omega]; exact hinv.2⟩
        exact ⟨by rw [← this], hbr⟩
  obtain ⟨rfl, hbx⟩ := hcut
  refine hK _ _ ?_; clear hK
  have hle := lo_le l k
  by_cases hlt : (lo l k).length < l.length
  · obtain ⟨bb, off, rfl, hblt, hcs⟩ := (hr.below0 hbx).pair (List.getElem?_eq_getElem hlt)
    obtain ⟨c0, c1⟩ := hcs _ _ (List.getElem?_eq_getElem hlt)
    clear hcs
    have hmem := hasK_at (k := k) hso (List.getElem?_eq_getElem hlt)
    rw [hmem]
    clear hmem
    generalize l[(lo l k).length] = y at *
    obtain ⟨y1, y2⟩ := y
    generalize (lo l k).length = p at *
    have hc : (cmpI y1 k == 0) = decide (y1 = k) := by
      unfold cmpI
      by_cases e : y1 = k
      · subst e; simp [kl_irrefl]
      · simp only [if_neg e, decide_eq_false e]
        split <;> rfl
    rw [← hc]
    clear hc
    go_wp2_with (go_at_call 103; refine (find1_any _ _ _ _).mono ?_; rintro e w1 ⟨rfl, hb1⟩)
    go_returns
    exact ⟨rfl, hbx.trans (hb1.mono hbx.size)⟩
  · have hmem := hasK_end (k := k) hso (by omega)
    rw [hmem]
    clear hmem
    generalize (lo l k).length = p at *
    go_wp2
    go_returns
    exact ⟨rfl, hbx⟩

theorem find_any (a : Option Addr) (cap : Nat) (l : List Pr) (k : Tx) (w : World) (hr : Row w a (prs l)) (hl : l.length ≤ 1000000) (hso : Rises l) :
    Calls Try.prog 93 #[.slice a l.length cap, .string k] w fun e w' => e = .returned (.tuple #[.int .i64 (lo l k).length, .bool (hasK l k)]) ∧ Below w.heap.size w w' := by
  go_enter Try.func93, Try.ntmps93
  go_wp2_with (go_at_call 102; refine (bsf_any _ _ _ _ _ hr hl hso).mono ?_; rintro e w1 ⟨rfl, hb1⟩)
  go_returns
  exact ⟨rfl, hb1⟩

def rpV (r : Rp) : Value := .agg #[.int .i64 r.err, .bool r.found, .string r.val]
end Go.Proofs.Ytkkoookmnnmiiaa

namespace Go.Proofs.Ytkkoookmnnmiiaa
open Go.RowKit

@[go_sem] theorem eqPair (a b c d : Tx) (w : World) : (Op.equalIn 10000 81 (.agg #[.string a, .string b]) (.agg #[.string c, .string d])).run Try.prog w = .ok (a.toList == c.toList && b.toList == d.toList) w := by
  have u3 := Try.underlying9
  have a3 := Try.isAgg9
  have z3 := Try.sizeOf9
  have hS : Try.prog.underlying 81 = some (.struct (Try.prog.fieldsOf 81)) := by kernel_rfl
  rw [show (10000 : Nat) = 9999 + 1 from rfl, run_equalIn_agg w 9999 81 _ _ hS (by kernel_rfl)]
  simp only [Program.fieldsOf, Try.underlying81]
  go_simp
  cases h1 : (a.toList == c.toList) <;> cases h2 : (b.toList == d.toList) <;> simp_all
@[go_sem] theorem eqReply (e e' : Int) (f f' : Bool) (v v' : Tx) (w : World) : (Op.equalIn 10000 51 (.agg #[.int .i64 e, .bool f, .string v]) (.agg #[.int .i64 e', .bool f', .string v'])).run Try.prog w = .ok (e == e' && f == f' && v.toList == v'.toList) w := by
  have u3 := Try.underlying9
  have a3 := Try.isAgg9
  have z3 := Try.sizeOf9
  have u4 := Try.underlying4
  have a4 := Try.isAgg4
  have z4 := Try.sizeOf4
  have u5 := Try.underlying49
  have a5 := Try.isAgg49
  have z5 := Try.sizeOf49
  have hS : Try.prog.underlying 51 = some (.struct (Try.prog.fieldsOf 51)) := by kernel_rfl
  rw [show (10000 : Nat) = 9999 + 1 from rfl, run_equalIn_agg w 9999 51 _ _ hS (by kernel_rfl)]
  simp only [Program.fieldsOf, Try.underlying51]
  go_simp
  cases h1 : (e == e') <;> cases h2 : (f == f') <;> cases h3 : (v.toList == v'.toList) <;> simp_all
@[go_sem] theorem eqOp (k k' : Int) (a b c a' b' c' : Tx) (w : World) : (Op.equalIn 10000 32 (.agg #[.int .u8 k, .string a, .string b, .string c]) (.agg #[.int .u8 k', .string a', .string b', .string c'])).run Try.prog w = .ok (k == k' && a.toList == a'.toList && b.toList == b'.toList && c.toList == c'.toList) w := by
  have u3 := Try.underlying9
  have a3 := Try.isAgg9
  have z3 := Try.sizeOf9
  have u5 := Try.underlying5
  have a5 := Try.isAgg5
  have z5 := Try.sizeOf5
  have hS : Try.prog.underlying 32 = some (.struct (Try.prog.fieldsOf 32)) := by kernel_rfl
  rw [show (10000 : Nat) = 9999 + 1 from rfl, run_equalIn_agg w 9999 32 _ _ hS (by kernel_rfl)]
  simp only [Program.fieldsOf, Try.underlying32]
  go_simp
  cases h1 : (k == k') <;> cases h2 : (a.toList == a'.toList) <;> cases h3 : (b.toList == b'.toList) <;> cases h4 : (c.toList == c'.toList) <;> simp_all

def sameUp (l m : List Pr) (k : Nat) : Prop := ∀ i x y, i < k → l[i]? = some x → m[i]? = some y → x = y
theorem sameUp_zero (l m : List Pr) : sameUp l m 0 := fun i _ _ h => by omega
theorem sameUp_succ {l m : List Pr} {k : Nat} {x : Pr} (h : sameUp l m k) (hx : l[k]? = some x) (hy : m[k]? = some x) : sameUp l m (k + 1) := by
  intro i a b hi ha hb
  by_cases e : i = k
  · subst e
    rw [hx] at ha
    rw [hy] at hb
    exact (Option.some.inj ha).symm.trans (Option.some.inj hb)
  · exact h i a b (by omega) ha hb
theorem sameUp_all {l m : List Pr} (hl : l.length = m.length) (h : sameUp l m l.length) : l = m := by
  refine List.ext_getElem hl fun i h1 h2 => ?_
  exact h i _ _ h1 (List.getElem?_eq_getElem h1) (List.getElem?_eq_getElem h2)

theorem pair_ne {a b c d : Tx} (h : ¬ (a, b) = (c, d)) : (a.toList == c.toList) = false ∨ (a = c ∧ (b.toList == d.toList) = false) := by
  rw [tx_eq, tx_eq, decide_eq_false_iff_not, decide_eq_false_iff_not]
  by_cases e : a = c
  · exact .inr ⟨e, fun e2 => h (by rw [e, e2])⟩
  · exact .inl e

set_option maxHeartbeats 2000000 in
theorem rsame_any (a b : Option Addr) (c d : Nat) (l m : List Pr) (w : World) (ha : Row w a (prs l)) (hb : Row w b (prs m)) (hl : l.length ≤ 1000) (hm : m.length ≤ 1000) (r : Bool) (hr : decide (l = m) = r) :
    Calls Try.prog 37 #[.slice a l.length c, .slice b m.length d] w fun e w' => e = .returned (.bool r) ∧ ∃ q, w' = w.drewN q := by
  have HR := Lib.hid hr
  clear hr
  by_cases hlen : l.length = m.length
  · go_enter Try.func37, Try.ntmps37
    rw [← hlen]
    have hml : m.length = l.length := hlen.symm
    have HL := Lib.hid hlen
    have HML := Lib.hid hml
    clear hlen hml
    refine wp_seq_k (fun K hK => ?_)
    have HK := Lib.hid hK
    clear hK
    go_wp2
    refine HK.out _ _ ?_
    clear HK
    refine wp_seq_k (fun K hK => ?_)
    have HK := Lib.hid hK
    clear hK
    go_wp2
    refine HK.out _ _ ?_
    clear HK
    go_wp2_with fail
    go_loopw [5] (fun i wr => ∃ k q : Nat, k ≤ l.length ∧ i = .int .i64 k ∧ sameUp l m k ∧ wr = w.drewN q) (fun i _ => l.length - (intOf i).toNat)
    case atStart => exact ⟨0, 0, by omega, rfl, sameUp_zero _ _, rfl⟩
    case round =>
      obtain ⟨k, q, hk, rfl, hs, rfl⟩ := hrel
      by_cases hlt : k < l.length
      · have hlt2 : k < m.length := by rw [HML.out]; exact hlt
        obtain ⟨b1, o1, rfl, hbl1, hc1⟩ := ha.pair (List.getElem?_eq_getElem hlt)
        obtain ⟨c0, c1⟩ := hc1 _ _ (List.getElem?_eq_getElem hlt)
        obtain ⟨b2, o2, rfl, hbl2, hc2⟩ := hb.pair (List.getElem?_eq_getElem hlt2)
        obtain ⟨d0, d1⟩ := hc2 _ _ (List.getElem?_eq_getElem hlt2)
        have hsx : l[k] = m[k] → sameUp l m (k + 1) := fun e => sameUp_succ hs (List.getElem?_eq_getElem hlt) (by rw [List.getElem?_eq_getElem hlt2, e])
        have hne : l[k] ≠ m[k] → r = false := fun e => by rw [← HR.out]; exact decide_eq_false fun e2 => e (by subst e2; rfl)
        clear hc1 hc2
        generalize l[k] = x at *
        generalize m[k] = y at *
        obtain ⟨x1, x2⟩ := x
        obtain ⟨y1, y2⟩ := y
        by_cases he : (x1, x2) = (y1, y2)
        · have hs2 := hsx he
          injection he with e1 e2
          subst e1 e2
          clear hsx hne
          go_wp2_with fail
          go_quiet (fail)
          go_wp2
          go_roundw
          case rel => exact ⟨k + 1, _, by omega, by go_num, hs2, rfl⟩
          case measure => simp [intOf]; omega
        · have hr2 := hne he
          have hpn := pair_ne he
          clear hsx hne he
          subst hr2
          rcases hpn with hpn | ⟨rfl, hpn⟩
          all_goals
            go_wp2_with fail
            go_quiet (fail)
            go_wp2
            go_ret
            exact ⟨rfl, q + nq, by rw [World.drewN_drewN]⟩
      · have hall := sameUp_all HL.out (by rw [show l.length = k by omega]; exact hs)
        have hr2 : r = true := by rw [← HR.out]; exact decide_eq_true hall
        subst hr2
        clear hall
        go_wp2
        go_ret
        exact ⟨rfl, _, rfl⟩
  · have hr2 : r = false := by rw [← HR.out]; exact decide_eq_false fun e => hlen (by rw [e])
    subst hr2
    have h1 : ((l.length : Int) != (m.length : Int)) = true := by rw [bne_iff_ne]; omega
    go_enter Try.func37, Try.ntmps37
    go_wp2
    go_ret
    exact ⟨rfl, 0, rfl⟩
set_option maxHeartbeats 2000000 in
theorem equal_any (a b : Option Addr) (c d : Nat) (l m : List Pr) (w : World) (ha : Row w a (prs l)) (hb : Row w b (prs m)) (hl : l.length ≤ 1000) (hm : m.length ≤ 1000) (r : Bool) (hr : decide (l = m) = r) :
    Calls Try.prog 59 #[.slice a l.length c, .slice b m.length d] w fun e w' => e = .returned (.bool r) ∧ ∃ q, w' = w.drewN q := by
  have HR := Lib.hid hr
  clear hr
  by_cases hlen : l.length = m.length
  · go_enter Try.func59, Try.ntmps59
    rw [← hlen]
    have hml : m.length = l.length := hlen.symm
    have HL := Lib.hid hlen
    have HML := Lib.hid hml
    clear hlen hml
    refine wp_seq_k (fun K hK => ?_)
    have HK := Lib.hid hK
    clear hK
    go_wp2
    refine HK.out _ _ ?_
    clear HK
    refine wp_seq_k (fun K hK => ?_)
    have HK := Lib.hid hK
    clear hK
    go_wp2
    refine HK.out _ _ ?_
    clear HK
    go_wp2_with fail
    go_loopw [13] (fun i wr => ∃ k q : Nat, k ≤ l.length ∧ i = .int .i64 k ∧ sameUp l m k ∧ wr = w.drewN q) (fun i _ => l.length - (intOf i).toNat)
    case atStart => exact ⟨0, 0, by omega, rfl, sameUp_zero _ _, rfl⟩
    case round =>
      obtain ⟨k, q, hk, rfl, hs, rfl⟩ := hrel
      by_cases hlt : k < l.length
      · have hlt2 : k < m.length := by rw [HML.out]; exact hlt
        obtain ⟨b1, o1, rfl, hbl1, hc1⟩ := ha.pair (List.getElem?_eq_getElem hlt)
        obtain ⟨c0, c1⟩ := hc1 _ _ (List.getElem?_eq_getElem hlt)
        obtain ⟨b2, o2, rfl, hbl2, hc2⟩ := hb.pair (List.getElem?_eq_getElem hlt2)
        obtain ⟨d0, d1⟩ := hc2 _ _ (List.getElem?_eq_getElem hlt2)
        have hsx : l[k] = m[k] → sameUp l m (k + 1) := fun e => sameUp_succ hs (List.getElem?_eq_getElem hlt) (by rw [List.getElem?_eq_getElem hlt2, e])
        have hne : l[k] ≠ m[k] → r = false := fun e => by rw [← HR.out]; exact decide_eq_false fun e2 => e (by subst e2; rfl)
        clear hc1 hc2
        generalize l[k] = x at *
        generalize m[k] = y at *
        obtain ⟨x1, x2⟩ := x
        obtain ⟨y1, y2⟩ := y
        by_cases he : (x1, x2) = (y1, y2)
        · have hs2 := hsx he
          injection he with e1 e2
          subst e1 e2
          clear hsx hne
          go_wp2_with fail
          go_quiet (fail)
          go_wp2
          go_roundw
          case rel => exact ⟨k + 1, _, by omega, by go_num, hs2, rfl⟩
          case measure => simp [intOf]; omega
        · have hr2 := hne he
          have hpn := pair_ne he
          clear hsx hne he
          subst hr2
          rcases hpn with hpn | ⟨rfl, hpn⟩
          all_goals
            go_wp2_with fail
            go_quiet (fail)
            go_wp2
            go_ret
            exact ⟨rfl, q + nq, by rw [World.drewN_drewN]⟩
      · have hall := sameUp_all HL.out (by rw [show l.length = k by omega]; exact hs)
        have hr2 : r = true := by rw [← HR.out]; exact decide_eq_true hall
        subst hr2
        clear hall
        go_wp2
        go_ret
        exact ⟨rfl, _, rfl⟩
  · have hr2 : r = false := by rw [← HR.out]; exact decide_eq_false fun e => hlen (by rw [e])
    subst hr2
    have h1 : ((l.length : Int) != (m.length : Int)) = true := by rw [bne_iff_ne]; omega
    go_enter Try.func59, Try.ntmps59
    go_wp2
    go_ret
    exact ⟨rfl, 0, rfl⟩
theorem psame_any (a b : Option Addr) (c d : Nat) (l m : List Pr) (w : World) (ha : Row w a (prs l)) (hb : Row w b (prs m)) (hl : l.length ≤ 1000) (hm : m.length ≤ 1000) (r : Bool) (hr : decide (l = m) = r) :
    Calls Try.prog 44 #[.slice a l.length c, .slice b m.length d] w fun e w' => e = .returned (.bool r) ∧ ∃ q, w' = w.drewN q := by
  go_enter Try.func44, Try.ntmps44
  go_wp2_with (go_at_call 59; refine (equal_any a b c d l m _ ha hb hl hm r hr).mono ?_; rintro e w1 ⟨rfl, q, rfl⟩)
  go_ret
  exact ⟨rfl, _, rfl⟩
end Go.Proofs.Ytkkoookmnnmiiaa

namespace Go.Proofs.Ytkkoookmnnmiiaa
open Go.RowKit

def opV (o : Opn) : Value := .agg #[.int .u8 o.kind, .string o.key, .string o.old, .string o.val]

theorem tx_nil {s : Tx} (h : s.size = 0) : s = ⟨#[]⟩ := by
  apply tx_ext
  have := tx_len s
  rw [h] at this
  rw [List.eq_nil_of_length_eq_zero this, ByteArray.toList_eq]
theorem tx_some {s : Tx} (h : ¬ s.size = 0) : s.toList.isEmpty = false ∧ (s.toList == []) = false := by
  have := tx_len s
  cases hl : s.toList with
  | nil => rw [hl] at this; exact absurd this.symm h
  | cons a l => exact ⟨rfl, rfl⟩
theorem nil_size : decide ((⟨#[]⟩ : Tx).size = 0) = true := rfl
theorem valOk_nil : valOk ⟨#[]⟩ = true := by decide

def mayV (k : Int) (old val : Tx) : Bool := if k = 1 ∨ k = 3 then decide (old.size = 0) && decide (val.size = 0) else if k = 2 then decide (old.size = 0) else decide (k = 4)
theorem mayO_eq (k : Int) (key old val : Tx) : mayO ⟨k, key, old, val⟩ = (keyOk key && valOk old && valOk val && mayV k old val) := rfl

set_option maxRecDepth 100000 in
set_option maxHeartbeats 4000000 in
theorem pmayO_any (k : Int) (key old val : Tx) (w : World) (r : Bool) (hr : mayO ⟨k, key, old, val⟩ = r) :
    Calls Try.prog 56 #[.agg #[.int .u8 k, .string key, .string old, .string val]] w fun e w' => e = .returned (.bool r) ∧ Below w.heap.size w w' := by
  rw [mayO_eq] at hr
  by_cases k1 : k = 1 ∨ k = 3
  · have hv : mayV k old val = (decide (old.size = 0) && decide (val.size = 0)) := by simp [mayV, k1]
    rw [hv] at hr
    clear hv
    by_cases o1 : old.size = 0
    · have := tx_nil o1
      subst this
      by_cases v1 : val.size = 0
      · have := tx_nil v1
        subst this
        have hr2 : keyOk key = r := by rw [← hr]; simp only [nil_size, valOk_nil, Bool.and_true]
        clear hr o1 v1
        cases hk : keyOk key
        all_goals
          rw [hk] at hr2
          subst hr2
          rcases k1 with rfl | rfl
          all_goals
            go_enter Try.func56, Try.ntmps56
            go_wp2_with (first | (go_at_call 70; refine (key_any _ _).mono ?_; rintro e w' ⟨rfl, rfl⟩) | (go_at_call 71; refine (value_any _ _).mono ?_; rintro e w' ⟨rfl, rfl⟩))
            go_ret
            exact ⟨rfl, by (repeat' (first | (with_reducible exact Below.refl _ _) | (with_reducible assumption) | (with_reducible refine Below.alloc ?_ ?_ _) | (with_reducible refine Below.drew ?_) | (with_reducible refine below_drewN ?_ _) | (with_reducible refine Below.setCell ?_ ?_ _) | (with_reducible refine Below.trans ?_ (by assumption)) | go_size))⟩
      · obtain ⟨n1, n2⟩ := tx_some v1
        have hr2 : r = false := by rw [← hr]; simp [v1]
        subst hr2
        clear hr
        rcases k1 with rfl | rfl
        all_goals
          go_enter Try.func56, Try.ntmps56
          go_wp2
          go_ret
          exact ⟨rfl, by (repeat' (first | (with_reducible exact Below.refl _ _) | (with_reducible assumption) | (with_reducible refine Below.alloc ?_ ?_ _) | (with_reducible refine Below.drew ?_) | (with_reducible refine below_drewN ?_ _) | (with_reducible refine Below.setCell ?_ ?_ _) | (with_reducible refine Below.trans ?_ (by assumption)) | go_size))⟩
    · obtain ⟨n1, n2⟩ := tx_some o1
      have hr2 : r = false := by rw [← hr]; simp [o1]
      subst hr2
      clear hr
      rcases k1 with rfl | rfl
      all_goals
        go_enter Try.func56, Try.ntmps56
        go_wp2
        go_ret
        exact ⟨rfl, by (repeat' (first | (with_reducible exact Below.refl _ _) | (with_reducible assumption) | (with_reducible refine Below.alloc ?_ ?_ _) | (with_reducible refine Below.drew ?_) | (with_reducible refine below_drewN ?_ _) | (with_reducible refine Below.setCell ?_ ?_ _) | (with_reducible refine Below.trans ?_ (by assumption)) | go_size))⟩
  · have k1a : (k == 1) = false := by rw [beq_eq_false_iff_ne]; exact fun e => k1 (.inl e)
    have k1b : (k == 3) = false := by rw [beq_eq_false_iff_ne]; exact fun e => k1 (.inr e)
    by_cases k2 : k = 2
    · have hv : mayV k old val = decide (old.size = 0) := by simp [mayV, k2]
      rw [hv] at hr
      clear hv k1 k1a k1b
      subst k2
      by_cases o1 : old.size = 0
      · have := tx_nil o1
        subst this
        simp only [nil_size, valOk_nil, Bool.and_true] at hr
        clear o1
        cases hk : keyOk key <;> cases hv : valOk val
        all_goals
          rw [hk, hv] at hr
          simp only [Bool.and_true, Bool.and_false, Bool.and_self] at hr
          subst hr
          go_enter Try.func56, Try.ntmps56
          go_wp2_with (first | (go_at_call 70; refine (key_any _ _).mono ?_; rintro e w' ⟨rfl, rfl⟩) | (go_at_call 71; refine (value_any _ _).mono ?_; rintro e w' ⟨rfl, rfl⟩))
          go_ret
          exact ⟨rfl, by (repeat' (first | (with_reducible exact Below.refl _ _) | (with_reducible assumption) | (with_reducible refine Below.alloc ?_ ?_ _) | (with_reducible refine Below.drew ?_) | (with_reducible refine below_drewN ?_ _) | (with_reducible refine Below.setCell ?_ ?_ _) | (with_reducible refine Below.trans ?_ (by assumption)) | go_size))⟩
      · obtain ⟨n1, n2⟩ := tx_some o1
        have hr2 : r = false := by rw [← hr]; simp [o1]
        subst hr2
        clear hr
        go_enter Try.func56, Try.ntmps56
        go_wp2
        go_ret
        exact ⟨rfl, by (repeat' (first | (with_reducible exact Below.refl _ _) | (with_reducible assumption) | (with_reducible refine Below.alloc ?_ ?_ _) | (with_reducible refine Below.drew ?_) | (with_reducible refine below_drewN ?_ _) | (with_reducible refine Below.setCell ?_ ?_ _) | (with_reducible refine Below.trans ?_ (by assumption)) | go_size))⟩
    · have k2a : (k == 2) = false := by rw [beq_eq_false_iff_ne]; exact k2
      by_cases k4 : k = 4
      · have hv : mayV k old val = true := by simp [mayV, k4]
        rw [hv] at hr
        clear hv k1 k1a k1b k2 k2a
        subst k4
        cases hk : keyOk key <;> cases ho : valOk old <;> cases hv : valOk val
        all_goals
          rw [hk, ho, hv] at hr
          simp only [Bool.and_true, Bool.and_false, Bool.and_self] at hr
          subst hr
          go_enter Try.func56, Try.ntmps56
          go_wp2_with (first | (go_at_call 70; refine (key_any _ _).mono ?_; rintro e w' ⟨rfl, rfl⟩) | (go_at_call 71; refine (value_any _ _).mono ?_; rintro e w' ⟨rfl, rfl⟩))
          go_ret
          exact ⟨rfl, by (repeat' (first | (with_reducible exact Below.refl _ _) | (with_reducible assumption) | (with_reducible refine Below.alloc ?_ ?_ _) | (with_reducible refine Below.drew ?_) | (with_reducible refine below_drewN ?_ _) | (with_reducible refine Below.setCell ?_ ?_ _) | (with_reducible refine Below.trans ?_ (by assumption)) | go_size))⟩
      · have k4a : (k == 4) = false := by rw [beq_eq_false_iff_ne]; exact k4
        have hv : mayV k old val = false := by simp [mayV, k1, k2, k4]
        have hr2 : r = false := by rw [← hr, hv]; simp
        subst hr2
        clear hr hv k1 k2 k4
        go_enter Try.func56, Try.ntmps56
        go_wp2
        go_ret
        exact ⟨rfl, by (repeat' (first | (with_reducible exact Below.refl _ _) | (with_reducible assumption) | (with_reducible refine Below.alloc ?_ ?_ _) | (with_reducible refine Below.drew ?_) | (with_reducible refine below_drewN ?_ _) | (with_reducible refine Below.setCell ?_ ?_ _) | (with_reducible refine Below.trans ?_ (by assumption)) | go_size))⟩

set_option maxRecDepth 100000 in
set_option maxHeartbeats 4000000 in
theorem rmayO_any (k : Int) (key old val : Tx) (w : World) (r : Bool) (hr : mayO ⟨k, key, old, val⟩ = r) :
    Calls Try.prog 67 #[.agg #[.int .u8 k, .string key, .string old, .string val]] w fun e w' => e = .returned (.bool r) ∧ Below w.heap.size w w' := by
  rw [mayO_eq] at hr
  by_cases q0 : key.size = 0
  · have hr2 : r = false := by rw [← hr]; simp [keyOk, q0]
    subst hr2
    have q0a : ((key.size : Int) == 0) = true := by simp [q0]
    clear hr q0
    go_enter Try.func67, Try.ntmps67
    go_wp2
    go_ret
    exact ⟨rfl, by (repeat' (first | (with_reducible exact Below.refl _ _) | (with_reducible assumption) | (with_reducible refine Below.alloc ?_ ?_ _) | (with_reducible refine Below.drew ?_) | (with_reducible refine below_drewN ?_ _) | (with_reducible refine Below.setCell ?_ ?_ _) | (with_reducible refine Below.trans ?_ (by assumption)) | go_size))⟩
  · have q0a : ((key.size : Int) == 0) = false := by rw [beq_eq_false_iff_ne]; omega
    by_cases q8 : key.size ≤ 8
    · by_cases qo : old.size ≤ 16
      · by_cases qv : val.size ≤ 16
        · have hk1 : keyOk key = true := by simp [keyOk, q8]; omega
          have ho1 : valOk old = true := by simp [valOk, qo]
          have hv1 : valOk val = true := by simp [valOk, qv]
          rw [hk1, ho1, hv1] at hr
          simp only [Bool.true_and, Bool.and_self] at hr
          clear hk1 ho1 hv1 q0
          by_cases k1 : k = 1 ∨ k = 3
          · have hv : mayV k old val = (decide (old.size = 0) && decide (val.size = 0)) := by simp [mayV, k1]
            rw [hv] at hr
            clear hv
            by_cases o1 : old.size = 0
            · have := tx_nil o1
              subst this
              by_cases v1 : val.size = 0
              · have := tx_nil v1
                subst this
                simp only [nil_size, Bool.and_self] at hr
                subst hr
                clear o1 v1
                rcases k1 with rfl | rfl
                all_goals
                  go_enter Try.func67, Try.ntmps67
                  go_wp2
                  go_ret
                  exact ⟨rfl, by (repeat' (first | (with_reducible exact Below.refl _ _) | (with_reducible assumption) | (with_reducible refine Below.alloc ?_ ?_ _) | (with_reducible refine Below.drew ?_) | (with_reducible refine below_drewN ?_ _) | (with_reducible refine Below.setCell ?_ ?_ _) | (with_reducible refine Below.trans ?_ (by assumption)) | go_size))⟩
              · obtain ⟨n1, n2⟩ := tx_some v1
                have hr2 : r = false := by rw [← hr]; simp [v1]
                subst hr2
                clear hr
                rcases k1 with rfl | rfl
                all_goals
                  go_enter Try.func67, Try.ntmps67
                  go_wp2
                  go_ret
                  exact ⟨rfl, by (repeat' (first | (with_reducible exact Below.refl _ _) | (with_reducible assumption) | (with_reducible refine Below.alloc ?_ ?_ _) | (with_reducible refine Below.drew ?_) | (with_reducible refine below_drewN ?_ _) | (with_reducible refine Below.setCell ?_ ?_ _) | (with_reducible refine Below.trans ?_ (by assumption)) | go_size))⟩
            · obtain ⟨n1, n2⟩ := tx_some o1
              have hr2 : r = false := by rw [← hr]; simp [o1]
              subst hr2
              clear hr
              rcases k1 with rfl | rfl
              all_goals
                go_enter Try.func67, Try.ntmps67
                go_wp2
                go_ret
                exact ⟨rfl, by (repeat' (first | (with_reducible exact Below.refl _ _) | (with_reducible assumption) | (with_reducible refine Below.alloc ?_ ?_ _) | (with_reducible refine Below.drew ?_) | (with_reducible refine below_drewN ?_ _) | (with_reducible refine Below.setCell ?_ ?_ _) | (with_reducible refine Below.trans ?_ (by assumption)) | go_size))⟩
          · have k1a : (k == 1) = false := by rw [beq_eq_false_iff_ne]; exact fun e => k1 (.inl e)
            have k1b : (k == 3) = false := by rw [beq_eq_false_iff_ne]; exact fun e => k1 (.inr e)
            by_cases k2 : k = 2
            · have hv : mayV k old val = decide (old.size = 0) := by simp [mayV, k2]
              rw [hv] at hr
              clear hv k1 k1a k1b
              subst k2
              by_cases o1 : old.size = 0
              · have := tx_nil o1
                subst this
                simp only [nil_size] at hr
                subst hr
                clear o1
                go_enter Try.func67, Try.ntmps67
                go_wp2
                go_ret
                exact ⟨rfl, by (repeat' (first | (with_reducible exact Below.refl _ _) | (with_reducible assumption) | (with_reducible refine Below.alloc ?_ ?_ _) | (with_reducible refine Below.drew ?_) | (with_reducible refine below_drewN ?_ _) | (with_reducible refine Below.setCell ?_ ?_ _) | (with_reducible refine Below.trans ?_ (by assumption)) | go_size))⟩
              · obtain ⟨n1, n2⟩ := tx_some o1
                have hr2 : r = false := by rw [← hr]; simp [o1]
                subst hr2
                clear hr
                go_enter Try.func67, Try.ntmps67
                go_wp2
                go_ret
                exact ⟨rfl, by (repeat' (first | (with_reducible exact Below.refl _ _) | (with_reducible assumption) | (with_reducible refine Below.alloc ?_ ?_ _) | (with_reducible refine Below.drew ?_) | (with_reducible refine below_drewN ?_ _) | (with_reducible refine Below.setCell ?_ ?_ _) | (with_reducible refine Below.trans ?_ (by assumption)) | go_size))⟩
            · have k2a : (k == 2) = false := by rw [beq_eq_false_iff_ne]; exact k2
              have hv : mayV k old val = decide (k = 4) := by simp [mayV, k1, k2]
              rw [hv] at hr
              clear hv
              by_cases k4 : k = 4
              · subst k4
                simp only [decide_true] at hr
                subst hr
                clear k1 k1a k1b k2 k2a
                go_enter Try.func67, Try.ntmps67
                go_wp2
                go_ret
                exact ⟨rfl, by (repeat' (first | (with_reducible exact Below.refl _ _) | (with_reducible assumption) | (with_reducible refine Below.alloc ?_ ?_ _) | (with_reducible refine Below.drew ?_) | (with_reducible refine below_drewN ?_ _) | (with_reducible refine Below.setCell ?_ ?_ _) | (with_reducible refine Below.trans ?_ (by assumption)) | go_size))⟩
              · have k4a : (k == 4) = false := by rw [beq_eq_false_iff_ne]; exact k4
                have hr2 : r = false := by rw [← hr]; simp [k4]
                subst hr2
                clear hr k1 k2 k4
                go_enter Try.func67, Try.ntmps67
                go_wp2
                go_ret
                exact ⟨rfl, by (repeat' (first | (with_reducible exact Below.refl _ _) | (with_reducible assumption) | (with_reducible refine Below.alloc ?_ ?_ _) | (with_reducible refine Below.drew ?_) | (with_reducible refine below_drewN ?_ _) | (with_reducible refine Below.setCell ?_ ?_ _) | (with_reducible refine Below.trans ?_ (by assumption)) | go_size))⟩
        · have hr2 : r = false := by rw [← hr]; simp [valOk, qv]
          subst hr2
          clear hr q0
          go_enter Try.func67, Try.ntmps67
          go_wp2
          go_ret
          exact ⟨rfl, by (repeat' (first | (with_reducible exact Below.refl _ _) | (with_reducible assumption) | (with_reducible refine Below.alloc ?_ ?_ _) | (with_reducible refine Below.drew ?_) | (with_reducible refine below_drewN ?_ _) | (with_reducible refine Below.setCell ?_ ?_ _) | (with_reducible refine Below.trans ?_ (by assumption)) | go_size))⟩
      · have hr2 : r = false := by rw [← hr]; simp [valOk, qo]
        subst hr2
        clear hr q0
        go_enter Try.func67, Try.ntmps67
        go_wp2
        go_ret
        exact ⟨rfl, by (repeat' (first | (with_reducible exact Below.refl _ _) | (with_reducible assumption) | (with_reducible refine Below.alloc ?_ ?_ _) | (with_reducible refine Below.drew ?_) | (with_reducible refine below_drewN ?_ _) | (with_reducible refine Below.setCell ?_ ?_ _) | (with_reducible refine Below.trans ?_ (by assumption)) | go_size))⟩
    · have hr2 : r = false := by rw [← hr]; simp [keyOk, q8]
      subst hr2
      clear hr q0
      go_enter Try.func67, Try.ntmps67
      go_wp2
      go_ret
      exact ⟨rfl, by (repeat' (first | (with_reducible exact Below.refl _ _) | (with_reducible assumption) | (with_reducible refine Below.alloc ?_ ?_ _) | (with_reducible refine Below.drew ?_) | (with_reducible refine below_drewN ?_ _) | (with_reducible refine Below.setCell ?_ ?_ _) | (with_reducible refine Below.trans ?_ (by assumption)) | go_size))⟩
end Go.Proofs.Ytkkoookmnnmiiaa

namespace Go.Proofs.Ytkkoookmnnmiiaa
open Go.RowKit

theorem flat_len {α : Type} {f : α → List Value} {n : Nat} (hf : ∀ x, (f x).length = n) : ∀ (l : List α), (l.flatMap f).length = n * l.length
  | [] => by simp
  | x :: l => by
    have := flat_len hf l
    rw [List.flatMap_cons, List.length_append, this, hf, List.length_cons, Nat.mul_succ]
    omega
theorem flat_at {α : Type} {f : α → List Value} {n : Nat} (hf : ∀ x, (f x).length = n) : ∀ {l : List α} {i : Nat} {c : α}, l[i]? = some c → ∀ j u, (f c)[j]? = some u → (l.flatMap f)[i * n + j]? = some u
  | [], i, c, h => by simp at h
  | q :: l, 0, c, h => by
    simp at h
    subst h
    intro j u hj
    have hlt := (List.getElem?_eq_some_iff.1 hj).1
    simp only [List.flatMap_cons, Nat.zero_mul, Nat.zero_add]
    rw [List.getElem?_append_left hlt]
    exact hj
  | q :: l, i + 1, c, h => by
    simp only [List.getElem?_cons_succ] at h
    intro j u hj
    have := flat_at hf h j u hj
    simp only [List.flatMap_cons]
    rw [List.getElem?_append_right (by rw [hf, Nat.succ_mul]; omega), hf]
    rw [show (i + 1) * n + j - n = i * n + j by rw [Nat.succ_mul]; omega]
    exact this
theorem Row.flat {α : Type} {f : α → List Value} {n : Nat} (hf : ∀ x, (f x).length = n) (hn : 0 < n) {w : World} {a : Option Addr} {l : List α} (h : Row w a (l.flatMap f)) {i : Nat} {c : α} (hp : l[i]? = some c) :
    ∃ b off, a = some ⟨b, off, none⟩ ∧ b < w.heap.size ∧ ∀ j u, (f c)[j]? = some u → w.cell? ⟨b, off + i * n + j, none⟩ = some u := by
  have hi := (List.getElem?_eq_some_iff.1 hp).1
  have hpos : 0 < (l.flatMap f).length := by rw [flat_len hf]; exact Nat.mul_pos hn (by omega)
  obtain ⟨b, off, ha, hc⟩ := h.at hpos
  have hat := flat_at hf hp
  have H : ∀ j u, (f c)[j]? = some u → w.cell? ⟨b, off + i * n + j, none⟩ = some u := fun j u hj => by
    rw [Nat.add_assoc]
    exact hc _ _ (hat j u hj)
  refine ⟨b, off, ha, ?_, H⟩
  have h0 : (f c)[0]? = some ((f c)[0]'(by rw [hf]; exact hn)) := List.getElem?_eq_getElem _
  exact World.block_lt_of_cell? _ _ (H 0 _ h0)
/-- The same with the first cell's address bare. -/
theorem Row.flat0 {α : Type} {f : α → List Value} {n : Nat} (hf : ∀ x, (f x).length = n) (hn : 0 < n) {w : World} {a : Option Addr} {l : List α} (h : Row w a (l.flatMap f)) {i : Nat} {c : α} (hp : l[i]? = some c) :
    ∃ b off, a = some ⟨b, off, none⟩ ∧ b < w.heap.size ∧ (∀ u, (f c)[0]? = some u → w.cell? ⟨b, off + i * n, none⟩ = some u) ∧ ∀ j u, (f c)[j]? = some u → w.cell? ⟨b, off + i * n + j, none⟩ = some u := by
  obtain ⟨b, off, ha, hb, hc⟩ := h.flat hf hn hp
  exact ⟨b, off, ha, hb, fun u hu => hc 0 u hu, hc⟩
/-- A block's cells as a row. -/
theorem Row.of_block {w : World} {g : Nat} {cs : List Value} {T : TypeId} {xs : List Value} (h : w.heap[g]? = some (.cells cs.toArray T (0, 0))) (off : Nat) (hx : ∀ i u, xs[i]? = some u → cs[off + i]? = some u) : Row w (some ⟨g, off, none⟩) xs := by
  refine .inr ⟨g, off, rfl, fun i u hu => ?_⟩
  simp only [World.cell?, h]
  simpa using hx i u hu
theorem blk_cell {w : World} {g : Nat} {cs : Array Value} {T : TypeId} (h : w.heap[g]? = some (.cells cs T (0, 0))) (j : Nat) (v : Value) (hj : cs[j]? = some v) : w.cell? ⟨g, j, none⟩ = some v := by
  simp only [World.cell?, h]
  simpa using hj
theorem blk_frozen {w : World} {g : Nat} {cs : Array Value} {T : TypeId} (h : w.heap[g]? = some (.cells cs T (0, 0))) (j : Nat) : w.frozen? ⟨g, j, none⟩ = false := by
  simp [World.frozen?, h]
theorem blw (w : World) (o : Obj) : Below w.heap.size w (w.alloc o) := (Below.refl _ _).alloc (Nat.le_refl _) o
end Go.Proofs.Ytkkoookmnnmiiaa

namespace Go.Proofs.Ytkkoookmnnmiiaa
open Go.RowKit

theorem mv1_ok {k : Int} (hk : k = 1 ∨ k = 3) : mayV k ⟨#[]⟩ ⟨#[]⟩ = true := by unfold mayV; rw [if_pos hk]; rfl
theorem mv1_old {k : Int} {old val : Tx} (hk : k = 1 ∨ k = 3) (h : ¬ old.size = 0) : mayV k old val = false := by unfold mayV; rw [if_pos hk, decide_eq_false h]; rfl
theorem mv1_val {k : Int} {old val : Tx} (hk : k = 1 ∨ k = 3) (h : ¬ val.size = 0) : mayV k old val = false := by unfold mayV; rw [if_pos hk, decide_eq_false h, Bool.and_false]
theorem mv2_ok (val : Tx) : mayV 2 ⟨#[]⟩ val = true := by unfold mayV; rw [if_neg (by decide), if_pos rfl]; rfl
theorem mv2_no {old val : Tx} (h : ¬ old.size = 0) : mayV 2 old val = false := by unfold mayV; rw [if_neg (by decide), if_pos rfl, decide_eq_false h]
theorem mv4 (old val : Tx) : mayV 4 old val = true := by unfold mayV; rw [if_neg (by decide), if_neg (by decide)]; rfl
theorem mv_no {k : Int} {old val : Tx} (h1 : (k == 1) = false) (h3 : (k == 3) = false) (h2 : (k == 2) = false) (h4 : (k == 4) = false) : mayV k old val = false := by
  simp only [beq_eq_false_iff_ne] at h1 h2 h3 h4
  unfold mayV
  rw [if_neg (by omega), if_neg h2, decide_eq_false h4]
theorem keyOk_no {key : Tx} (h : key.size < 1 ∨ 8 < key.size) : keyOk key = false := by
  unfold keyOk
  rcases h with h | h
  · rw [decide_eq_false (by omega)]; rfl
  · rw [decide_eq_false (show ¬ key.size ≤ 8 by omega), Bool.and_false]
theorem keyOk_yes {key : Tx} (h : 1 ≤ key.size) (h2 : key.size ≤ 8) : keyOk key = true := by unfold keyOk; rw [decide_eq_true h, decide_eq_true h2]; rfl
theorem mo_key {a b c d r : Bool} (hr : (a && b && c && d) = r) (h : a = false) : r = false := by rw [← hr, h]; rfl
theorem mo_old {a b c d r : Bool} (hr : (a && b && c && d) = r) (h : b = false) : r = false := by rw [← hr, h]; simp
theorem mo_val {a b c d r : Bool} (hr : (a && b && c && d) = r) (h : c = false) : r = false := by rw [← hr, h]; simp
theorem mo_v {a b c d r : Bool} (hr : (a && b && c && d) = r) (h : d = false) : r = false := by rw [← hr, h]; simp
theorem mo_yes {a b c d r : Bool} (hr : (a && b && c && d) = r) (h1 : a = true) (h2 : b = true) (h3 : c = true) (h4 : d = true) : r = true := by rw [← hr, h1, h2, h3, h4]; rfl
theorem vo_yes {v : Tx} (h : v.size ≤ 16) : valOk v = true := decide_eq_true h
theorem vo_no {v : Tx} (h : ¬ v.size ≤ 16) : valOk v = false := decide_eq_false h

set_option maxRecDepth 100000 in
set_option maxHeartbeats 8000000 in
theorem emayO_any (k : Int) (key old val : Tx) (w : World) (r : Bool) (hr : mayO ⟨k, key, old, val⟩ = r) :
    Calls Try.prog 45 #[.agg #[.int .u8 k, .string key, .string old, .string val]] w fun e w' => e = .returned (.bool r) ∧ Below w.heap.size w w' := by
  rw [mayO_eq] at hr
  have HR := Lib.hid hr
  clear hr
  have hb0 : Below w.heap.size w (w.alloc (Obj.cells #[.int .u8 k, .string key, .string old, .string val] 32)) := (Below.refl _ _).alloc (Nat.le_refl _) _
  have hkd : k = 1 ∨ k = 3 ∨ k = 2 ∨ k = 4 ∨ ((k == 1) = false ∧ (k == 3) = false ∧ (k == 2) = false ∧ (k == 4) = false) := by
    simp only [beq_eq_false_iff_ne]
    omega
  have HKD := Lib.hid hkd
  clear hkd
  have hk : key.size < 1 ∨ (1 ≤ key.size ∧ 8 < key.size) ∨ (1 ≤ key.size ∧ key.size ≤ 8) := by omega
  rcases hk with hk | ⟨hk, hk2⟩ | ⟨hk, hk2⟩
  · obtain rfl := mo_key HR.out (keyOk_no (.inl hk))
    rcases HKD.out with rfl | rfl | rfl | rfl | ⟨k1, k2, k3, k4⟩
    all_goals
      go_enter Try.func45, Try.ntmps45
      go_wp2
      go_ret
      exact ⟨ret_bool (by first | rfl | (exact decide_eq_false (by omega))), hb0⟩
  · obtain rfl := mo_key HR.out (keyOk_no (.inr hk2))
    rcases HKD.out with rfl | rfl | rfl | rfl | ⟨k1, k2, k3, k4⟩
    all_goals
      go_enter Try.func45, Try.ntmps45
      go_wp2
      go_ret
      exact ⟨ret_bool (by first | rfl | (exact decide_eq_false (by omega))), hb0⟩
  · rcases HKD.out with rfl | rfl | rfl | rfl | ⟨k1, k2, k3, k4⟩
    · by_cases hv : val.size = 0
      · obtain rfl := tx_nil hv
        by_cases ho : old.size = 0
        · obtain rfl := tx_nil ho
          obtain rfl := mo_yes HR.out (keyOk_yes hk hk2) rfl rfl (mv1_ok (.inl rfl))
          clear hv ho
          go_enter Try.func45, Try.ntmps45
          go_wp2
          go_ret
          exact ⟨ret_bool (by first | rfl | (exact decide_eq_true (by omega)) | (exact decide_eq_false (by omega))), hb0⟩
        · obtain ⟨n1, n2⟩ := tx_some ho
          obtain rfl := mo_v HR.out (mv1_old (.inl rfl) ho)
          clear hv
          go_enter Try.func45, Try.ntmps45
          go_wp2
          go_ret
          exact ⟨ret_bool (by first | rfl | (exact decide_eq_true (by omega)) | (exact decide_eq_false (by omega))), hb0⟩
      · obtain ⟨n1, n2⟩ := tx_some hv
        obtain rfl := mo_v HR.out (mv1_val (.inl rfl) hv)
        go_enter Try.func45, Try.ntmps45
        go_wp2
        go_ret
        exact ⟨ret_bool (by first | rfl | (exact decide_eq_true (by omega)) | (exact decide_eq_false (by omega))), hb0⟩
    · by_cases hv : val.size = 0
      · obtain rfl := tx_nil hv
        by_cases ho : old.size = 0
        · obtain rfl := tx_nil ho
          obtain rfl := mo_yes HR.out (keyOk_yes hk hk2) rfl rfl (mv1_ok (.inr rfl))
          clear hv ho
          go_enter Try.func45, Try.ntmps45
          go_wp2
          go_ret
          exact ⟨ret_bool (by first | rfl | (exact decide_eq_true (by omega)) | (exact decide_eq_false (by omega))), hb0⟩
        · obtain ⟨n1, n2⟩ := tx_some ho
          obtain rfl := mo_v HR.out (mv1_old (.inr rfl) ho)
          clear hv
          go_enter Try.func45, Try.ntmps45
          go_wp2
          go_ret
          exact ⟨ret_bool (by first | rfl | (exact decide_eq_true (by omega)) | (exact decide_eq_false (by omega))), hb0⟩
      · obtain ⟨n1, n2⟩ := tx_some hv
        obtain rfl := mo_v HR.out (mv1_val (.inr rfl) hv)
        go_enter Try.func45, Try.ntmps45
        go_wp2
        go_ret
        exact ⟨ret_bool (by first | rfl | (exact decide_eq_true (by omega)) | (exact decide_eq_false (by omega))), hb0⟩
    · by_cases ho : old.size = 0
      · obtain rfl := tx_nil ho
        clear ho
        by_cases hv : val.size ≤ 16
        · obtain rfl := mo_yes HR.out (keyOk_yes hk hk2) rfl (vo_yes hv) (mv2_ok _)
          go_enter Try.func45, Try.ntmps45
          go_wp2
          go_ret
          exact ⟨ret_bool (by first | rfl | (exact decide_eq_true (by omega)) | (exact decide_eq_false (by omega))), hb0⟩
        · obtain rfl := mo_val HR.out (vo_no hv)
          go_enter Try.func45, Try.ntmps45
          go_wp2
          go_ret
          exact ⟨ret_bool (by first | rfl | (exact decide_eq_true (by omega)) | (exact decide_eq_false (by omega))), hb0⟩
      · obtain ⟨n1, n2⟩ := tx_some ho
        obtain rfl := mo_v HR.out (mv2_no ho)
        go_enter Try.func45, Try.ntmps45
        go_wp2
        go_ret
        exact ⟨ret_bool (by first | rfl | (exact decide_eq_true (by omega)) | (exact decide_eq_false (by omega))), hb0⟩
    · by_cases ho : old.size ≤ 16
      · by_cases hv : val.size ≤ 16
        · obtain rfl := mo_yes HR.out (keyOk_yes hk hk2) (vo_yes ho) (vo_yes hv) (mv4 _ _)
          go_enter Try.func45, Try.ntmps45
          go_wp2
          go_ret
          exact ⟨ret_bool (by first | rfl | (exact decide_eq_true (by omega)) | (exact decide_eq_false (by omega))), hb0⟩
        · obtain rfl := mo_val HR.out (vo_no hv)
          go_enter Try.func45, Try.ntmps45
          go_wp2
          go_ret
          exact ⟨ret_bool (by first | rfl | (exact decide_eq_true (by omega)) | (exact decide_eq_false (by omega))), hb0⟩
      · obtain rfl := mo_old HR.out (vo_no ho)
        go_enter Try.func45, Try.ntmps45
        go_wp2
        go_ret
        exact ⟨ret_bool (by first | rfl | (exact decide_eq_true (by omega)) | (exact decide_eq_false (by omega))), hb0⟩
    · obtain rfl := mo_v HR.out (mv_no k1 k2 k3 k4)
      go_enter Try.func45, Try.ntmps45
      go_wp2
      go_ret
      exact ⟨ret_bool (by first | rfl | (exact decide_eq_true (by omega)) | (exact decide_eq_false (by omega))), hb0⟩

set_option maxRecDepth 100000 in
set_option maxHeartbeats 8000000 in
theorem fmayO_any (k : Int) (key old val : Tx) (w : World) (r : Bool) (hr : mayO ⟨k, key, old, val⟩ = r) :
    Calls Try.prog 50 #[.agg #[.int .u8 k, .string key, .string old, .string val]] w fun e w' => e = .returned (.bool r) ∧ Below w.heap.size w w' := by
  rw [mayO_eq] at hr
  have HR := Lib.hid hr
  clear hr
  have hb0 : Below w.heap.size w (w.alloc (Obj.cells #[.int .u8 k, .string key, .string old, .string val] 32)) := (Below.refl _ _).alloc (Nat.le_refl _) _
  have hkd : k = 1 ∨ k = 3 ∨ k = 2 ∨ k = 4 ∨ ((k == 1) = false ∧ (k == 3) = false ∧ (k == 2) = false ∧ (k == 4) = false) := by
    simp only [beq_eq_false_iff_ne]
    omega
  have HKD := Lib.hid hkd
  clear hkd
  have hk : key.size < 1 ∨ (1 ≤ key.size ∧ 8 < key.size) ∨ (1 ≤ key.size ∧ key.size ≤ 8 ∧ ¬ old.size ≤ 16) ∨ (1 ≤ key.size ∧ key.size ≤ 8 ∧ old.size ≤ 16 ∧ ¬ val.size ≤ 16) ∨ (1 ≤ key.size ∧ key.size ≤ 8 ∧ old.size ≤ 16 ∧ val.size ≤ 16) := by omega
  rcases hk with hk | ⟨hk, hk2⟩ | ⟨hk, hk2, hk3⟩ | ⟨hk, hk2, hk3, hk4⟩ | ⟨hk, hk2, hk3, hk4⟩
  · obtain rfl := mo_key HR.out (keyOk_no (.inl hk))
    go_enter Try.func50, Try.ntmps50
    go_wp2
    go_ret
    exact ⟨ret_bool (by first | rfl | (exact decide_eq_true (by omega)) | (exact decide_eq_false (by omega))), hb0⟩
  · obtain rfl := mo_key HR.out (keyOk_no (.inr hk2))
    go_enter Try.func50, Try.ntmps50
    go_wp2
    go_ret
    exact ⟨ret_bool (by first | rfl | (exact decide_eq_true (by omega)) | (exact decide_eq_false (by omega))), hb0⟩
  · obtain rfl := mo_old HR.out (vo_no hk3)
    go_enter Try.func50, Try.ntmps50
    go_wp2
    go_ret
    exact ⟨ret_bool (by first | rfl | (exact decide_eq_true (by omega)) | (exact decide_eq_false (by omega))), hb0⟩
  · obtain rfl := mo_val HR.out (vo_no hk4)
    go_enter Try.func50, Try.ntmps50
    go_wp2
    go_ret
    exact ⟨ret_bool (by first | rfl | (exact decide_eq_true (by omega)) | (exact decide_eq_false (by omega))), hb0⟩
  · rcases HKD.out with rfl | rfl | rfl | rfl | ⟨k1, k2, k3, k4⟩
    · by_cases hv : val.size = 0
      · obtain rfl := tx_nil hv
        by_cases ho : old.size = 0
        · obtain rfl := tx_nil ho
          obtain rfl := mo_yes HR.out (keyOk_yes hk hk2) rfl rfl (mv1_ok (.inl rfl))
          clear hv ho
          go_enter Try.func50, Try.ntmps50
          go_wp2
          go_ret
          exact ⟨ret_bool (by first | rfl | (exact decide_eq_true (by omega)) | (exact decide_eq_false (by omega))), hb0⟩
        · obtain ⟨n1, n2⟩ := tx_some ho
          obtain rfl := mo_v HR.out (mv1_old (.inl rfl) ho)
          clear hv
          go_enter Try.func50, Try.ntmps50
          go_wp2
          go_ret
          exact ⟨ret_bool (by first | rfl | (exact decide_eq_true (by omega)) | (exact decide_eq_false (by omega))), hb0⟩
      · obtain ⟨n1, n2⟩ := tx_some hv
        by_cases ho : old.size = 0
        · obtain rfl := tx_nil ho
          obtain rfl := mo_v HR.out (mv1_val (.inl rfl) hv)
          clear ho
          go_enter Try.func50, Try.ntmps50
          go_wp2
          go_ret
          exact ⟨ret_bool (by first | rfl | (exact decide_eq_true (by omega)) | (exact decide_eq_false (by omega))), hb0⟩
        · obtain ⟨m1, m2⟩ := tx_some ho
          obtain rfl := mo_v HR.out (mv1_val (.inl rfl) hv)
          go_enter Try.func50, Try.ntmps50
          go_wp2
          go_ret
          exact ⟨ret_bool (by first | rfl | (exact decide_eq_true (by omega)) | (exact decide_eq_false (by omega))), hb0⟩
    · by_cases hv : val.size = 0
      · obtain rfl := tx_nil hv
        by_cases ho : old.size = 0
        · obtain rfl := tx_nil ho
          obtain rfl := mo_yes HR.out (keyOk_yes hk hk2) rfl rfl (mv1_ok (.inr rfl))
          clear hv ho
          go_enter Try.func50, Try.ntmps50
          go_wp2
          go_ret
          exact ⟨ret_bool (by first | rfl | (exact decide_eq_true (by omega)) | (exact decide_eq_false (by omega))), hb0⟩
        · obtain ⟨n1, n2⟩ := tx_some ho
          obtain rfl := mo_v HR.out (mv1_old (.inr rfl) ho)
          clear hv
          go_enter Try.func50, Try.ntmps50
          go_wp2
          go_ret
          exact ⟨ret_bool (by first | rfl | (exact decide_eq_true (by omega)) | (exact decide_eq_false (by omega))), hb0⟩
      · obtain ⟨n1, n2⟩ := tx_some hv
        by_cases ho : old.size = 0
        · obtain rfl := tx_nil ho
          obtain rfl := mo_v HR.out (mv1_val (.inr rfl) hv)
          clear ho
          go_enter Try.func50, Try.ntmps50
          go_wp2
          go_ret
          exact ⟨ret_bool (by first | rfl | (exact decide_eq_true (by omega)) | (exact decide_eq_false (by omega))), hb0⟩
        · obtain ⟨m1, m2⟩ := tx_some ho
          obtain rfl := mo_v HR.out (mv1_val (.inr rfl) hv)
          go_enter Try.func50, Try.ntmps50
          go_wp2
          go_ret
          exact ⟨ret_bool (by first | rfl | (exact decide_eq_true (by omega)) | (exact decide_eq_false (by omega))), hb0⟩
    · by_cases ho : old.size = 0
      · obtain rfl := tx_nil ho
        obtain rfl := mo_yes HR.out (keyOk_yes hk hk2) rfl (vo_yes hk4) (mv2_ok _)
        clear ho
        go_enter Try.func50, Try.ntmps50
        go_wp2
        go_ret
        exact ⟨ret_bool (by first | rfl | (exact decide_eq_true (by omega)) | (exact decide_eq_false (by omega))), hb0⟩
      · obtain ⟨n1, n2⟩ := tx_some ho
        obtain rfl := mo_v HR.out (mv2_no ho)
        go_enter Try.func50, Try.ntmps50
        go_wp2
        go_ret
        exact ⟨ret_bool (by first | rfl | (exact decide_eq_true (by omega)) | (exact decide_eq_false (by omega))), hb0⟩
    · obtain rfl := mo_yes HR.out (keyOk_yes hk hk2) (vo_yes hk3) (vo_yes hk4) (mv4 _ _)
      go_enter Try.func50, Try.ntmps50
      go_wp2
      go_ret
      exact ⟨ret_bool (by first | rfl | (exact decide_eq_true (by omega)) | (exact decide_eq_false (by omega))), hb0⟩
    · obtain rfl := mo_v HR.out (mv_no k1 k2 k3 k4)
      go_enter Try.func50, Try.ntmps50
      go_wp2
      go_ret
      exact ⟨ret_bool (by first | rfl | (exact decide_eq_true (by omega)) | (exact decide_eq_false (by omega))), hb0⟩

end Go.Proofs.Ytkkoookmnnmiiaa

namespace Go.Proofs.Ytkkoookmnnmiiaa
open Go.RowKit

@[go_sem] theorem eqOp9 (k k' : Int) (a b c a' b' c' : Tx) (w : World) : (Op.equalIn 9999 32 (.agg #[.int .u8 k, .string a, .string b, .string c]) (.agg #[.int .u8 k', .string a', .string b', .string c'])).run Try.prog w = .ok (k == k' && a.toList == a'.toList && b.toList == b'.toList && c.toList == c'.toList) w := by
  have u3 := Try.underlying9
  have a3 := Try.isAgg9
  have z3 := Try.sizeOf9
  have u5 := Try.underlying5
  have a5 := Try.isAgg5
  have z5 := Try.sizeOf5
  have hS : Try.prog.underlying 32 = some (.struct (Try.prog.fieldsOf 32)) := by kernel_rfl
  rw [show (9999 : Nat) = 9998 + 1 from rfl, run_equalIn_agg w 9998 32 _ _ hS (by kernel_rfl)]
  simp only [Program.fieldsOf, Try.underlying32]
  go_simp
  cases h1 : (k == k') <;> cases h2 : (a.toList == a'.toList) <;> cases h3 : (b.toList == b'.toList) <;> cases h4 : (c.toList == c'.toList) <;> simp_all
@[go_sem] theorem eqEntry (q q' c1 c1' s s' k k' : Int) (a b c a' b' c' : Tx) (w : World) : (Op.equalIn 10000 34 (.agg #[.int .u8 q, .int .i64 c1, .int .i64 s, .int .u8 k, .string a, .string b, .string c]) (.agg #[.int .u8 q', .int .i64 c1', .int .i64 s', .int .u8 k', .string a', .string b', .string c'])).run Try.prog w = .ok (q == q' && c1 == c1' && s == s' && (k == k' && a.toList == a'.toList && b.toList == b'.toList && c.toList == c'.toList)) w := by
  have u3 := Try.underlying3
  have a3 := Try.isAgg3
  have z3 := Try.sizeOf3
  have u5 := Try.underlying5
  have a5 := Try.isAgg5
  have z5 := Try.sizeOf5
  have a4 := Try.isAgg32
  have z4 := Try.sizeOf32
  have hS : Try.prog.underlying 34 = some (.struct (Try.prog.fieldsOf 34)) := by kernel_rfl
  rw [show (10000 : Nat) = 9999 + 1 from rfl, run_equalIn_agg w 9999 34 _ _ hS (by kernel_rfl)]
  simp only [Program.fieldsOf, Try.underlying34]
  go_simp
  cases h1 : (q == q') <;> cases h2 : (c1 == c1') <;> cases h3 : (s == s') <;> cases h4 : (k == k') <;> cases h5 : (a.toList == a'.toList) <;> cases h6 : (b.toList == b'.toList) <;> cases h7 : (c.toList == c'.toList) <;> simp_all


theorem mayE_noop {e : En} (h : e.kind = 1) : mayE e = (e.cli == 0 && e.seq == 0 && nilO e.op) := by unfold mayE; rw [if_pos h]
theorem mayE_op {e : En} (h : e.kind = 2) : mayE e = (decide (0 ≤ e.cli) && decide (e.cli < 4) && decide (1 ≤ e.seq) && decide (e.seq ≤ 1099511627776) && mayO e.op && e.op.kind != 1) := by
  unfold mayE
  rw [if_neg (by omega)]
  simp [h, big40]
  rfl
theorem mayE_else {e : En} (h : e.kind ≠ 1) (h2 : e.kind ≠ 2) : mayE e = false := by
  unfold mayE
  rw [if_neg h]
  have : (e.kind == 2) = false := by simpa using h2
  simp [this]

set_option maxRecDepth 100000 in
set_option maxHeartbeats 8000000 in
theorem emay_any (e : En) (w : World) (r : Bool) (hr : mayE e = r) : Calls Try.prog 29 #[.agg (enA e)] w fun en w' => en = .returned (.bool r) ∧ Below w.heap.size w w' := by
  obtain ⟨kd, cl, sq, ⟨ok, key, old, val⟩⟩ := e
  unfold enA
  simp only
  have hb0 : Below w.heap.size w (w.alloc (Obj.cells #[.int .u8 kd, .int .i64 cl, .int .i64 sq, .int .u8 ok, .string key, .string old, .string val] 34)) := (Below.refl _ _).alloc (Nat.le_refl _) _
  have HR := Lib.hid hr
  clear hr
  by_cases k1 : kd = 1
  · subst k1
    have hz : (1 == (1 : Int) && cl == 0 && sq == 0 && (ok == 0 && key.toList == [] && old.toList == [] && val.toList == [])) = r := by
      rw [← HR.out, mayE_noop rfl]
      rfl
    have HZ := Lib.hid hz
    clear hz
    go_enter Try.func29, Try.ntmps29
    go_wp2
    all_goals
      go_ret
      exact ⟨ret_bool (by rw [← HZ.out]; simp [*]), by (repeat' (first | (with_reducible exact Below.refl _ _) | (with_reducible assumption) | (with_reducible refine Below.alloc ?_ ?_ _) | (with_reducible refine Below.drew ?_) | (with_reducible refine below_drewN ?_ _) | (with_reducible refine Below.setCell ?_ ?_ _) | (with_reducible refine Below.trans ?_ (by assumption)) | go_size))⟩
  · have k1b : (kd == 1) = false := beq_eq_false_iff_ne.2 k1
    by_cases k2 : kd = 2
    · subst k2
      have hm := (mayE_op (e := ⟨2, cl, sq, ⟨ok, key, old, val⟩⟩) rfl).symm.trans HR.out
      have HM := Lib.hid hm
      have hcs : cl < 0 ∨ (0 ≤ cl ∧ 4 ≤ cl) ∨ (0 ≤ cl ∧ cl < 4 ∧ sq < 1) ∨ (0 ≤ cl ∧ cl < 4 ∧ 1 ≤ sq ∧ 1099511627776 < sq) ∨ (0 ≤ cl ∧ cl < 4 ∧ 1 ≤ sq ∧ sq ≤ 1099511627776) := by omega
      obtain ⟨mo, hmo⟩ : ∃ mo, mayO ⟨ok, key, old, val⟩ = mo := ⟨_, rfl⟩
      have HMO := Lib.hid hmo
      clear hm k1 k1b hmo
      rcases hcs with h | ⟨h, h2⟩ | ⟨h, h2, h3⟩ | ⟨h, h2, h3, h4⟩ | ⟨h, h2, h3, h4⟩
      · obtain rfl : r = false := by rw [← HM.out, decide_eq_false (show ¬ 0 ≤ cl by omega)]; simp
        go_enter Try.func29, Try.ntmps29
        go_wp2
        go_ret
        exact ⟨rfl, hb0⟩
      · obtain rfl : r = false := by rw [← HM.out, decide_eq_false (show ¬ cl < 4 by omega)]; simp
        go_enter Try.func29, Try.ntmps29
        go_wp2
        go_ret
        exact ⟨rfl, hb0⟩
      · obtain rfl : r = false := by rw [← HM.out, decide_eq_false (show ¬ 1 ≤ sq by omega)]; simp
        go_enter Try.func29, Try.ntmps29
        go_wp2
        go_ret
        exact ⟨rfl, hb0⟩
      · obtain rfl : r = false := by rw [← HM.out, decide_eq_false (show ¬ sq ≤ 1099511627776 by omega)]; simp
        go_enter Try.func29, Try.ntmps29
        go_wp2
        go_ret
        exact ⟨rfl, hb0⟩
      · have hr2 : (mo && ok != 1) = r := by rw [← HM.out, HMO.out, decide_eq_true h, decide_eq_true (show cl < 4 by omega), decide_eq_true h3, decide_eq_true h4]; simp
        have HR2 := Lib.hid hr2
        clear hr2
        cases mo
        all_goals
          go_enter Try.func29, Try.ntmps29
          go_wp2_with (go_at_call 45; refine (emayO_any _ _ _ _ _ _ HMO.out).mono ?_; rintro en w1 ⟨rfl, hb1⟩; have d3 := blk_cell ((hb1.block w.heap.size (by simp)).trans (heap_alloc_new w (Obj.cells #[.int .u8 2, .int .i64 cl, .int .i64 sq, .int .u8 ok, .string key, .string old, .string val] 34))) 3 _ rfl)
          all_goals
            go_ret
            exact ⟨ret_bool (by rw [← HR2.out]; first | rfl | simp [*]), hb0.trans (hb1.mono hb0.size)⟩
    · have k2b : (kd == 2) = false := beq_eq_false_iff_ne.2 k2
      have hrf : r = false := by rw [← HR.out]; exact mayE_else k1 k2
      subst hrf
      clear k1 k2
      go_enter Try.func29, Try.ntmps29
      go_wp2
      go_ret
      exact ⟨rfl, hb0⟩

set_option maxRecDepth 100000 in
set_option maxHeartbeats 8000000 in
theorem fmay_any (e : En) (w : World) (r : Bool) (hr : mayE e = r) : Calls Try.prog 36 #[.agg (enA e)] w fun en w' => en = .returned (.bool r) ∧ Below w.heap.size w w' := by
  obtain ⟨kd, cl, sq, ⟨ok, key, old, val⟩⟩ := e
  unfold enA
  simp only
  have hb0 : Below w.heap.size w (w.alloc (Obj.cells #[.int .u8 kd, .int .i64 cl, .int .i64 sq, .int .u8 ok, .string key, .string old, .string val] 34)) := (Below.refl _ _).alloc (Nat.le_refl _) _
  have HR := Lib.hid hr
  clear hr
  go_enter Try.func36, Try.ntmps36
  refine wp_seq_k (fun K hK => ?_)
  have HK := Lib.hid hK
  clear hK
  go_wp2
  refine HK.out _ _ ?_
  clear HK
  have d0 := blk_cell (heap_alloc_new w (Obj.cells #[.int .u8 kd, .int .i64 cl, .int .i64 sq, .int .u8 ok, .string key, .string old, .string val] 34)) 0 _ rfl
  refine wp_seq_k (fun K hK => ?_)
  go_cut [3] (fun z wx => z = .bool (cl == 0 && sq == 0 && (ok == 0 && key.toList == [] && old.toList == [] && val.toList == [])) ∧ wx = w.alloc (Obj.cells #[.int .u8 kd, .int .i64 cl, .int .i64 sq, .int .u8 ok, .string key, .string old, .string val] 34))
  case first =>
    cases h1 : (cl == 0)
    · go_wp2
      go_meet
      exact ⟨bool_eq (by rw [h1]; rfl), rfl⟩
    · cases h2 : (sq == 0)
      · go_wp2
        go_meet
        exact ⟨bool_eq (by rw [h1, h2]; rfl), rfl⟩
      · cases h3 : (ok == 0) <;> cases h4 : (key.toList == []) <;> cases h5 : (old.toList == []) <;> cases h6 : (val.toList == [])
        all_goals
          go_wp2
          go_meet
          exact ⟨bool_eq (by rw [h1, h2, h3, h4, h5, h6]; rfl), rfl⟩
  obtain ⟨rfl, rfl⟩ := hcut
  refine hK _ _ ?_; clear hK
  by_cases k1 : kd = 1
  · subst k1
    have hz : (cl == 0 && sq == 0 && (ok == 0 && key.toList == [] && old.toList == [] && val.toList == [])) = r := by
      rw [← HR.out, mayE_noop rfl]
      rfl
    rw [hz]
    clear hz
    go_wp2
    go_ret
    exact ⟨rfl, hb0⟩
  · have k1b : (kd == 1) = false := beq_eq_false_iff_ne.2 k1
    by_cases k2 : kd = 2
    · subst k2
      have hm := (mayE_op (e := ⟨2, cl, sq, ⟨ok, key, old, val⟩⟩) rfl).symm.trans HR.out
      have HM := Lib.hid hm
      have hcs : cl < 0 ∨ (0 ≤ cl ∧ 3 < cl) ∨ (0 ≤ cl ∧ cl ≤ 3 ∧ sq < 1) ∨ (0 ≤ cl ∧ cl ≤ 3 ∧ 1 ≤ sq ∧ 1099511627776 < sq) ∨ (0 ≤ cl ∧ cl ≤ 3 ∧ 1 ≤ sq ∧ sq ≤ 1099511627776) := by omega
      obtain ⟨mo, hmo⟩ : ∃ mo, mayO ⟨ok, key, old, val⟩ = mo := ⟨_, rfl⟩
      have HMO := Lib.hid hmo
      clear hm k1 k1b hmo
      generalize (cl == 0 && sq == 0 && (ok == 0 && key.toList == [] && old.toList == [] && val.toList == [])) = zz
      rcases hcs with h | ⟨h, h2⟩ | ⟨h, h2, h3⟩ | ⟨h, h2, h3, h4⟩ | ⟨h, h2, h3, h4⟩
      · obtain rfl : r = false := by rw [← HM.out, decide_eq_false (show ¬ 0 ≤ cl by omega)]; simp
        go_wp2
        go_ret
        exact ⟨rfl, hb0⟩
      · obtain rfl : r = false := by rw [← HM.out, decide_eq_false (show ¬ cl < 4 by omega)]; simp
        go_wp2
        go_ret
        exact ⟨rfl, hb0⟩
      · obtain rfl : r = false := by rw [← HM.out, decide_eq_false (show ¬ 1 ≤ sq by omega)]; simp
        go_wp2
        go_ret
        exact ⟨rfl, hb0⟩
      · obtain rfl : r = false := by rw [← HM.out, decide_eq_false (show ¬ sq ≤ 1099511627776 by omega)]; simp
        go_wp2
        go_ret
        exact ⟨rfl, hb0⟩
      · have hr2 : (mo && ok != 1) = r := by rw [← HM.out, HMO.out, decide_eq_true h, decide_eq_true (show cl < 4 by omega), decide_eq_true h3, decide_eq_true h4]; simp
        have HR2 := Lib.hid hr2
        clear hr2
        cases mo
        all_goals
          go_wp2_with (go_at_call 50; refine (fmayO_any _ _ _ _ _ _ HMO.out).mono ?_; rintro en w1 ⟨rfl, hb1⟩; have d3 := blk_cell ((hb1.block w.heap.size (by simp)).trans (heap_alloc_new w (Obj.cells #[.int .u8 2, .int .i64 cl, .int .i64 sq, .int .u8 ok, .string key, .string old, .string val] 34))) 3 _ rfl)
          all_goals
            go_ret
            exact ⟨ret_bool (by rw [← HR2.out]; first | rfl | simp [*]), hb0.trans (hb1.mono hb0.size)⟩
    · have k2b : (kd == 2) = false := beq_eq_false_iff_ne.2 k2
      have hrf : r = false := by rw [← HR.out]; exact mayE_else k1 k2
      subst hrf
      clear k1 k2
      generalize (cl == 0 && sq == 0 && (ok == 0 && key.toList == [] && old.toList == [] && val.toList == [])) = zz
      go_wp2
      go_ret
      exact ⟨rfl, hb0⟩
end Go.Proofs.Ytkkoookmnnmiiaa

namespace Go.Proofs.Ytkkoookmnnmiiaa
open Go.RowKit
variable {P : Program}

theorem run_loadVar_part (w : World) (g off n : Nat) (T ty : TypeId) (cs : Array Value) (ha : (isAgg ty).run P w = .ok true w) (hs : (sizeOf ty).run P w = .ok n w) (hg : w.heap[g]? = some (.cells cs T (0, 0))) (hn : off + n ≤ cs.size) :
    (loadVar ty ⟨g, off, none⟩).run P w = .ok (.agg (cs.extract off (off + n))) w := by
  have hlen : (cs.extract off (off + n)).toList.length = n := by simp; omega
  have hl := run_loadCells_list (P := P) (w := w) ⟨g, off, none⟩ (cs.extract off (off + n)).toList (fun j v hv => by
    have hj := (List.getElem?_eq_some_iff.1 hv).1
    rw [hlen] at hj
    rw [addr_add, cell_of_row w g (off + j) cs T (0, 0) hg]
    have h2 : (cs.extract off (off + n))[j]? = some v := by rw [← Array.getElem?_toList]; exact hv
    rw [Array.getElem?_extract] at h2
    split at h2
    · exact h2
    · cases h2)
  rw [hlen] at hl
  simp only [Array.toArray_toList] at hl
  simp only [loadVar, Sem.run_bind, ha, hs, hl, Result.andThen_ok, if_true, Sem.run_pure]

theorem arr_all {cs : Array Value} {n : Nat} (h : cs.size = n) : 0 + n ≤ cs.size ∧ cs.extract 0 (0 + n) = cs := ⟨by omega, by subst h; simp⟩
/-- What an aggregate's load at an operand reads. -/
def LdAt (P : Program) (a : Act) (w : World) (ty : TypeId) (x : Operand) (v : Array Value) : Prop :=
  ∃ (g off n : Nat) (cs : Array Value) (T : TypeId), (∀ w, (isAgg ty).run P w = .ok true w) ∧ (∀ w, (sizeOf ty).run P w = .ok n w) ∧ a.eval x = .pointer (some ⟨g, off, none⟩) ∧ w.heap[g]? = some (.cells cs T (0, 0)) ∧ (off + n ≤ cs.size ∧ cs.extract off (off + n) = v)

theorem wp_ldB {a : Act} {w : World} {K : Act → World → Prop} {Q : Exit → Act → World → Prop} {dst : Option Tmp} {ty' : TypeId} {pos : String} {af : Array Edge} {gd : Option (Nat × Bool)} (ty : TypeId) (x : Operand) (hl : ∃ v, LdAt P a w ty x v ∧ K (a.put dst (.agg v)) w) : (Oper.mk dst (.load ty x) ty' pos af gd).wp P a w K Q := by
  obtain ⟨v, ⟨g, off, n, cs, T, ha, hs, hx, hg, hn, rfl⟩, h⟩ := hl
  unfold Oper.wp execOp
  simp only [hx, Instr.loadAt, Instr.sureAddr, Sem.run_bind, Sem.run_pure, Result.andThen_ok, run_loadVar_part w g off n T ty cs (ha w) (hs w) hg hn]
  exact h
theorem wpList_ldB {ops : Array Oper} {rest : List Oper} {a : Act} {w : World} {Q : Exit → Act → World → Prop} {dst : Option Tmp} {ty' : TypeId} {pos : String} {af : Array Edge} {gd : Option (Nat × Bool)} (ty : TypeId) (x : Operand)
    (hl : Region.wanted (Oper.mk dst (.load ty x) ty' pos af gd) (yielded ops a.tmps) = true ∧ ∃ v, LdAt P a w ty x v ∧ wpList P ops Q rest (a.put dst (.agg v)) w) : wpList P ops Q (Oper.mk dst (.load ty x) ty' pos af gd :: rest) a w :=
  BigFrame.wpList_want hl.1 fun _ hK => wp_ldB ty x (hl.2.imp fun _ h => ⟨h.1, hK _ _ h.2⟩)
theorem exec_ldB {a : Act} {w : World} {dst : Option Tmp} {ty' : TypeId} {pos : String} {af : Array Edge} {gd : Option (Nat × Bool)} (ty : TypeId) (x : Operand) {v : Array Value} (hl : LdAt P a w ty x v) : (execOp a.eval (Oper.mk dst (.load ty x) ty' pos af gd)).run P w = .ok (.value (.agg v)) w := by
  obtain ⟨g, off, n, cs, T, ha, hs, hx, hg, hn, rfl⟩ := hl
  unfold execOp
  simp only [hx, Instr.loadAt, Instr.sureAddr, Sem.run_bind, Sem.run_pure, Result.andThen_ok, run_loadVar_part w g off n T ty cs (ha w) (hs w) hg hn]

theorem run_storeVar_part (w : World) (g off n : Nat) (T ty : TypeId) (cs : Array Value) (v : Value) (hs : (sizeOf ty).run P w = .ok n w) (hv : v.cells.size = n) (h1 : ∀ u ∈ v.cells.toList, u.oneCell' = true) (hg : w.heap[g]? = some (.cells cs T (0, 0))) (hn : off + n ≤ cs.size) :
    (storeVar ty ⟨g, off, none⟩ v).run P w = .ok () (w.setRow g (cs.toList.take off ++ v.cells.toList ++ cs.toList.drop (off + n)).toArray) := by
  have hst := run_storeCells_at P g off T v.cells.toList 0 cs w hg (by simpa [hv] using hn) h1
  simp only [Nat.add_zero, Array.length_toList, hv] at hst
  simp [storeVar, Sem.run_bind, hs, hv, hst]

/-- What a store at an operand turns a block into. -/
def StAt (P : Program) (a : Act) (w : World) (ty : TypeId) (x y : Operand) (g : Nat) (T : TypeId) (cs' : Array Value) : Prop :=
  ∃ (off n : Nat) (cs : Array Value), (∀ w, (sizeOf ty).run P w = .ok n w) ∧ a.eval x = .pointer (some ⟨g, off, none⟩) ∧ w.heap[g]? = some (.cells cs T (0, 0)) ∧
    (off + n ≤ cs.size ∧ (a.eval y).cells.size = n ∧ (∀ u ∈ (a.eval y).cells.toList, u.oneCell' = true) ∧ (cs.toList.take off ++ (a.eval y).cells.toList ++ cs.toList.drop (off + n)).toArray = cs')

theorem setRow_grown (w : World) (g : Nat) (cs : Array Value) : w.grownBy (w.setRow g cs) (some g) := grownBy_setRow w g cs

theorem wp_stB {a : Act} {w : World} {K : Act → World → Prop} {Q : Exit → Act → World → Prop} {ty' : TypeId} {pos : String} {af : Array Edge} {gd : Option (Nat × Bool)} (ty : TypeId) (x y : Operand) (hl : ∃ (g : Nat) (T : TypeId) (cs' : Array Value), StAt P a w ty x y g T cs' ∧ ∀ w', w'.heap[g]? = some (.cells cs' T (0, 0)) → w.grownBy w' (some g) → K a w') : (Oper.mk none (.store ty x y) ty' pos af gd).wp P a w K Q := by
  obtain ⟨g, T, cs', ⟨off, n, cs, hs, hx, hg, hn, hv, h1, hc⟩, h⟩ := hl
  unfold Oper.wp execOp
  simp only [hx, Instr.storeAt, Instr.sureAddr, Sem.run_bind, Sem.run_pure, Result.andThen_ok, run_storeVar_part w g off n T ty cs _ (hs w) hv h1 hg hn, hc]
  exact h _ (setRow_heap w g _ _ T _ hg) (setRow_grown w g _)
theorem wpList_stB {ops : Array Oper} {rest : List Oper} {a : Act} {w : World} {Q : Exit → Act → World → Prop} {ty' : TypeId} {pos : String} {af : Array Edge} (ty : TypeId) (x y : Operand) (hl : ∃ (g : Nat) (T : TypeId) (cs' : Array Value), StAt P a w ty x y g T cs' ∧ ∀ w', w'.heap[g]? = some (.cells cs' T (0, 0)) → w.grownBy w' (some g) → wpList P ops Q rest a w') : wpList P ops Q (Oper.mk none (.store ty x y) ty' pos af none :: rest) a w := by
  obtain ⟨g, T, cs', hs, h⟩ := hl
  exact wpList_plain rfl fun _ hK => wp_stB ty x y ⟨g, T, cs', hs, fun w' h1 h2 => hK _ _ (h w' h1 h2)⟩

/-- A store over the whole of the newest block. -/
def StNew (P : Program) (a : Act) (w : World) (ty : TypeId) (x y : Operand) (n : Nat) (cs' : Array Value) : Prop :=
  (∀ w, (sizeOf ty).run P w = .ok n w) ∧ a.eval x = .pointer (some ⟨w.heap.size, 0, none⟩) ∧ (a.eval y).cells = cs' ∧ cs'.size = n ∧ (∀ u ∈ cs'.toList, u.oneCell' = true)
theorem setRow_alloc (w : World) (cs cs' : Array Value) (T : TypeId) : (w.alloc (.cells cs T)).setRow w.heap.size cs' = w.alloc (.cells cs' T) := by
  unfold World.setRow World.alloc
  congr 1
  apply Array.ext
  · simp
  · intro i h1 h2
    rw [Array.getElem_modify]
    simp only [Array.getElem_push]
    by_cases hi : w.heap.size = i
    · subst hi; simp
    · have : i < w.heap.size := by simp at h2; omega
      simp [hi, this]
theorem wp_stNew {a : Act} {w : World} {K : Act → World → Prop} {Q : Exit → Act → World → Prop} {ty' : TypeId} {pos : String} {af : Array Edge} {gd : Option (Nat × Bool)} (ty : TypeId) (x y : Operand) {cs : Array Value} {T : TypeId} (hl : ∃ (n : Nat) (cs' : Array Value), StNew P a w ty x y n cs' ∧ cs.size = n ∧ K a (w.alloc (.cells cs' T))) : (Oper.mk none (.store ty x y) ty' pos af gd).wp P a (w.alloc (.cells cs T)) K Q := by
  obtain ⟨n, cs', ⟨hs, hx, hv, hc, h1⟩, hsz, h⟩ := hl
  have hst := run_storeVar_part (P := P) (w.alloc (.cells cs T)) w.heap.size 0 n T ty cs (a.eval y) (hs _) (by rw [hv]; exact hc) (by rw [hv]; exact h1) (heap_alloc_new w _) (by omega)
  rw [hv] at hst
  have e : (cs.toList.take 0 ++ cs'.toList ++ cs.toList.drop (0 + n)).toArray = cs' := by
    rw [List.drop_of_length_le (by simp; omega)]
    simp
  rw [e, setRow_alloc] at hst
  unfold Oper.wp execOp
  simp only [hx, Instr.storeAt, Instr.sureAddr, Sem.run_bind, Sem.run_pure, Result.andThen_ok, hst]
  exact h
theorem wpList_stNew {ops : Array Oper} {rest : List Oper} {a : Act} {w : World} {Q : Exit → Act → World → Prop} {ty' : TypeId} {pos : String} {af : Array Edge} (ty : TypeId) (x y : Operand) {cs : Array Value} {T : TypeId} (hl : ∃ (n : Nat) (cs' : Array Value), StNew P a w ty x y n cs' ∧ cs.size = n ∧ wpList P ops Q rest a (w.alloc (.cells cs' T))) : wpList P ops Q (Oper.mk none (.store ty x y) ty' pos af none :: rest) a (w.alloc (.cells cs T)) := by
  obtain ⟨n, cs', hs, hsz, h⟩ := hl
  exact wpList_plain rfl fun _ hK => wp_stNew ty x y ⟨n, cs', hs, hsz, hK _ _ h⟩

/-! Facts on blocks, carried on. -/
theorem tr_gb {w w' : World} {r : Option Nat} {j : Nat} {o : Obj} (hg : w.grownBy w' r) (h : w.heap[j]? = some o) (hne : r ≠ some j) : w'.heap[j]? = some o := (hg.block j (Array.getElem?_eq_some_iff.1 h).1 (fun e => hne e.symm)).trans h
theorem tr_st {w w' : World} {g j : Nat} {o : Obj} (hg : w.grownBy w' (some g)) (h : w.heap[j]? = some o) (hne : g ≠ j) : w'.heap[j]? = some o := tr_gb hg h (fun e => hne (Option.some.inj e))
theorem tr_bl {w w' : World} {j : Nat} {o : Obj} (hb : Below w.heap.size w w') (h : w.heap[j]? = some o) : w'.heap[j]? = some o := (hb.block j (Array.getElem?_eq_some_iff.1 h).1).trans h
theorem tr_al {w : World} {j : Nat} {o : Obj} (o' : Obj) (h : w.heap[j]? = some o) : (w.alloc o').heap[j]? = some o := tr_bl (blw w o') h
theorem lt_blk {w : World} {j : Nat} {o : Obj} (h : w.heap[j]? = some o) : j < w.heap.size := (Array.getElem?_eq_some_iff.1 h).1

theorem owns_st {w w' : World} {base n size g : Nat} {e : TypeId} {v : Value} {xs : List Value} (h : w.ownsRow base e size v n xs) (hg : w.grownBy w' (some g)) (hlt : g < base) : w'.ownsRow base e size v n xs := by
  obtain ⟨hl, h | ⟨k, cap, cur, hv, hk, hc, r⟩⟩ := h
  · exact ⟨hl, .inl h⟩
  · exact ⟨hl, .inr ⟨k, cap, cur, hv, hk, tr_st hg hc (by omega), r⟩⟩
theorem owns_ne {w w' : World} {base n size g : Nat} {e T : TypeId} {v : Value} {xs : List Value} {cs : Array Value} (h : w.ownsRow base e size v n xs) (hg : w.grownBy w' (some g)) (hc : w.heap[g]? = some (.cells cs T (0, 0))) (hne : e ≠ T) : w'.ownsRow base e size v n xs := by
  obtain ⟨hl, h | ⟨k, cap, cur, hv, hk, hc2, r⟩⟩ := h
  · exact ⟨hl, .inl h⟩
  · refine ⟨hl, .inr ⟨k, cap, cur, hv, hk, tr_st hg hc2 ?_, r⟩⟩
    rintro rfl
    rw [hc] at hc2
    injection hc2 with hc2
    injection hc2 with _ ht
    exact hne ht.symm
theorem owns_bl {w w' : World} {base n size : Nat} {e : TypeId} {v : Value} {xs : List Value} (h : w.ownsRow base e size v n xs) (hb : Below w.heap.size w w') : w'.ownsRow base e size v n xs := owns_after h hb
theorem bl_st {B : Nat} {w w' w'' : World} {g : Nat} (hb : Below B w w') (hg : w'.grownBy w'' (some g)) (hB : B ≤ w'.heap.size) (h : B ≤ g) : Below B w w'' := hb.grown hg hB (fun k e => by cases e; exact h)

/-! Results that lie in blocks. -/
theorem results_c1 {fn : Func} {p t : Nat} {tmps : Array Value} {w : World} {A : Addr} {v : Value} (hf : fn.results = #[.cell p t]) (hp : tmps.getD p undef = .pointer (some A)) (hl : (loadVar t A).run P w = .ok v w) : (results fn tmps).run P w = .ok v w := by
  have hp' : tmps[p]?.getD undef = .pointer (some A) := by simpa using hp
  simp [results, hf, hp', asAddr, hl]
theorem results_c1t1 {fn : Func} {p t q : Nat} {tmps : Array Value} {w : World} {A : Addr} {v : Value} (hf : fn.results = #[.cell p t, .tmp q]) (hp : tmps.getD p undef = .pointer (some A)) (hl : (loadVar t A).run P w = .ok v w) : (results fn tmps).run P w = .ok (.tuple #[v, tmps.getD q undef]) w := by
  have hp' : tmps[p]?.getD undef = .pointer (some A) := by simpa using hp
  simp [results, hf, hp', asAddr, hl]
theorem results_c2t1 {fn : Func} {p t p2 t2 q : Nat} {tmps : Array Value} {w : World} {A A2 : Addr} {v v2 : Value} (hf : fn.results = #[.cell p t, .cell p2 t2, .tmp q]) (hp : tmps.getD p undef = .pointer (some A)) (hl : (loadVar t A).run P w = .ok v w)
    (hp2 : tmps.getD p2 undef = .pointer (some A2)) (hl2 : (loadVar t2 A2).run P w = .ok v2 w) : (results fn tmps).run P w = .ok (.tuple #[v, v2, tmps.getD q undef]) w := by
  have hp' : tmps[p]?.getD undef = .pointer (some A) := by simpa using hp
  have hp2' : tmps[p2]?.getD undef = .pointer (some A2) := by simpa using hp2
  simp [results, hf, hp', hp2', asAddr, hl, hl2]
/-- A whole block, loaded. -/
theorem run_loadVar_all {w : World} {g n : Nat} {T ty : TypeId} {cs : Array Value} (ha : ∀ w, (isAgg ty).run P w = .ok true w) (hs : ∀ w, (sizeOf ty).run P w = .ok n w) (hg : w.heap[g]? = some (.cells cs T (0, 0))) (hn : cs.size = n) : (loadVar ty ⟨g, 0, none⟩).run P w = .ok (.agg cs) w := by
  have := run_loadVar_part (P := P) w g 0 n T ty cs (ha w) (hs w) hg (by omega)
  rw [this]
  subst hn
  simp
end Go.Proofs.Ytkkoookmnnmiiaa

namespace Go.Proofs.Ytkkoookmnnmiiaa
open Go.RowKit
variable {P : Program} {ops : Array Oper} {C : World → Prop}

theorem wp_region_cls {id : Nat} {Q : Exit → Act → World → Prop} {a : Act} {w : World} {l : List Oper} (hm : P.follows .mixedOrders = true) (hB : Region.lexB .any l.toArray = true) (hC : C w.drew)
    (h : wpQuiet P l.toArray C (fun a' => ∀ w', C w' → Q .normal a' w') l a) : (Code.region id l.toArray true).wp P Q a w :=
  wp_region_quiet (C := C) hm hB hC (by simpa using h)
theorem wpQuiet_gen {Q : Act → Prop} {a : Act} {o : Oper} {rest : List Oper} (hw : Region.wanted o (yielded ops a.tmps) = true) (v : Value) (hy : ∀ w, C w → o.quietAt P a C w v)
    (h : wpQuiet P ops C Q rest (a.put o.dst v)) : wpQuiet P ops C Q (o :: rest) a := by
  unfold wpQuiet
  rw [if_pos hw]
  exact ⟨v, hy, h⟩
theorem wpQuiet_val {Q : Act → Prop} {a : Act} {o : Oper} {rest : List Oper} (hw : Region.wanted o (yielded ops a.tmps) = true) (v : Value) (hy : ∀ w, C w → (execOp a.eval o).run P w = .ok (.value v) w)
    (h : wpQuiet P ops C Q rest (a.put o.dst v)) : wpQuiet P ops C Q (o :: rest) a :=
  wpQuiet_gen hw v (fun w hC => by unfold Oper.quietAt; rw [hy w hC]; exact ⟨rfl, rfl⟩) h
theorem wpQuiet_skip {Q : Act → Prop} {a : Act} {o : Oper} {rest : List Oper} (hw : Region.wanted o (yielded ops a.tmps) = false) (h : wpQuiet P ops C Q rest (a.put o.dst undef)) : wpQuiet P ops C Q (o :: rest) a := by
  unfold wpQuiet
  rw [if_neg (by rw [hw]; simp)]
  exact h
end Go.Proofs.Ytkkoookmnnmiiaa

