/- Texts that the claim leans on, part 10: I1, I2, K3, K4, K10, K11, K12, K13. -/
import Derived.Test.YtkkoookmnnmiiaaZ1
import Derived.Test.YtkkoookmnnmiiaaZ2
import Derived.Test.YtkkoookmnnmiiaaZ3
import Derived.Test.YtkkoookmnnmiiaaRows
import Derived.WalkKit
import Derived.WalkSpells
import Derived.WalkLawsBesides
import Derived.Handy
import Derived.Deep.QuietTactic
import Derived.BigQuiet
import Derived.Deep.DeepCutAuto
import Derived.Lib.Hide
import Derived.RegionTactic
import Derived.ChangeAlike
import Derived.Laws.ResultCell
import Derived.Lib.Overlaps
import Derived.StillTailTactics
import Derived.Deep.RegionHeld3
import Derived.Deep.RegionWith
import Derived.Outline
import Derived.Laws.Rows
import Derived.Deep.Quiet
import Derived.ProofKit
import Derived.OpenShut
import Derived.Laws.Strings
import Derived.Laws.CopyOwn
import Derived.Laws.CopyRow
import Derived.Laws.NewBlocks
import Derived.Deep.RegionLaw
namespace Go.Proofs.Ytkkoookmnnmiiaa
open Go.RowKit

set_option maxRecDepth 100000 in
theorem bad_any (er : Int) (fo : Bool) (va : Tx) (w : World) : Calls Try.prog 58 #[.agg #[.int .i64 er, .bool fo, .string va]] w fun e w' => e = .returned (.bool (badR ⟨er, fo, va⟩)) ∧ Below w.heap.size w w' := by
  have hb : badR ⟨er, fo, va⟩ = (decide (er < 0) || decide (999 < er) || decide (16 < va.size)) := rfl
  rw [hb]
  clear hb
  by_cases h1 : er < 0
  · rw [decide_eq_true h1]
    go_enter Try.func58, Try.ntmps58
    go_wp2
    go_ret
    exact ⟨rfl, by (repeat' (first | (with_reducible exact Below.refl _ _) | (with_reducible assumption) | (with_reducible refine Below.alloc ?_ ?_ _) | (with_reducible refine Below.drew ?_) | (with_reducible refine below_drewN ?_ _) | (with_reducible refine Below.setCell ?_ ?_ _) | (with_reducible refine Below.trans ?_ (by assumption)) | go_size))⟩
  · rw [decide_eq_false h1]
    by_cases h2 : 999 < er
    · rw [decide_eq_true h2]
      go_enter Try.func58, Try.ntmps58
      go_wp2
      go_ret
      exact ⟨rfl, by (repeat' (first | (with_reducible exact Below.refl _ _) | (with_reducible assumption) | (with_reducible refine Below.alloc ?_ ?_ _) | (with_reducible refine Below.drew ?_) | (with_reducible refine below_drewN ?_ _) | (with_reducible refine Below.setCell ?_ ?_ _) | (with_reducible refine Below.trans ?_ (by assumption)) | go_size))⟩
    · rw [decide_eq_false h2]
      by_cases h3 : 16 < va.size
      · have h3b : decide ((16 : Int) < (va.size : Int)) = true := decide_eq_true (by omega)
        rw [decide_eq_true h3]
        clear h3
        go_enter Try.func58, Try.ntmps58
        go_wp2
        go_ret
        exact ⟨rfl, by (repeat' (first | (with_reducible exact Below.refl _ _) | (with_reducible assumption) | (with_reducible refine Below.alloc ?_ ?_ _) | (with_reducible refine Below.drew ?_) | (with_reducible refine below_drewN ?_ _) | (with_reducible refine Below.setCell ?_ ?_ _) | (with_reducible refine Below.trans ?_ (by assumption)) | go_size))⟩
      · have h3b : decide ((16 : Int) < (va.size : Int)) = false := decide_eq_false (by omega)
        rw [decide_eq_false h3]
        clear h3
        go_enter Try.func58, Try.ntmps58
        go_wp2
        go_ret
        exact ⟨rfl, by (repeat' (first | (with_reducible exact Below.refl _ _) | (with_reducible assumption) | (with_reducible refine Below.alloc ?_ ?_ _) | (with_reducible refine Below.drew ?_) | (with_reducible refine below_drewN ?_ _) | (with_reducible refine Below.setCell ?_ ?_ _) | (with_reducible refine Below.trans ?_ (by assumption)) | go_size))⟩
set_option maxRecDepth 100000 in
theorem mayReply_any (er : Int) (fo : Bool) (va : Tx) (w : World) : Calls Try.prog 90 #[.agg #[.int .i64 er, .bool fo, .string va]] w fun e w' => e = .returned (.bool (!badR ⟨er, fo, va⟩)) ∧ Below w.heap.size w w' := by
  have hb : badR ⟨er, fo, va⟩ = (decide (er < 0) || decide (999 < er) || decide (16 < va.size)) := rfl
  rw [hb]
  clear hb
  by_cases h1 : er < 0
  · rw [decide_eq_true h1]
    go_enter Try.func90, Try.ntmps90
    go_wp2
    go_ret
    exact ⟨rfl, by (repeat' (first | (with_reducible exact Below.refl _ _) | (with_reducible assumption) | (with_reducible refine Below.alloc ?_ ?_ _) | (with_reducible refine Below.drew ?_) | (with_reducible refine below_drewN ?_ _) | (with_reducible refine Below.setCell ?_ ?_ _) | (with_reducible refine Below.trans ?_ (by assumption)) | go_size))⟩
  · rw [decide_eq_false h1]
    by_cases h2 : 999 < er
    · rw [decide_eq_true h2]
      go_enter Try.func90, Try.ntmps90
      go_wp2
      go_ret
      exact ⟨rfl, by (repeat' (first | (with_reducible exact Below.refl _ _) | (with_reducible assumption) | (with_reducible refine Below.alloc ?_ ?_ _) | (with_reducible refine Below.drew ?_) | (with_reducible refine below_drewN ?_ _) | (with_reducible refine Below.setCell ?_ ?_ _) | (with_reducible refine Below.trans ?_ (by assumption)) | go_size))⟩
    · rw [decide_eq_false h2]
      by_cases h3 : 16 < va.size
      · have h3b : decide ((va.size : Int) ≤ 16) = false := decide_eq_false (by omega)
        rw [decide_eq_true h3]
        clear h3
        go_enter Try.func90, Try.ntmps90
        go_wp2
        go_ret
        exact ⟨rfl, by (repeat' (first | (with_reducible exact Below.refl _ _) | (with_reducible assumption) | (with_reducible refine Below.alloc ?_ ?_ _) | (with_reducible refine Below.drew ?_) | (with_reducible refine below_drewN ?_ _) | (with_reducible refine Below.setCell ?_ ?_ _) | (with_reducible refine Below.trans ?_ (by assumption)) | go_size))⟩
      · have h3b : decide ((va.size : Int) ≤ 16) = true := decide_eq_true (by omega)
        rw [decide_eq_false h3]
        clear h3
        go_enter Try.func90, Try.ntmps90
        go_wp2
        go_ret
        exact ⟨rfl, by (repeat' (first | (with_reducible exact Below.refl _ _) | (with_reducible assumption) | (with_reducible refine Below.alloc ?_ ?_ _) | (with_reducible refine Below.drew ?_) | (with_reducible refine below_drewN ?_ _) | (with_reducible refine Below.setCell ?_ ?_ _) | (with_reducible refine Below.trans ?_ (by assumption)) | go_size))⟩
end Go.Proofs.Ytkkoookmnnmiiaa

namespace Go.Proofs.Ytkkoookmnnmiiaa
open Go.RowKit

@[go_sem] theorem eqReply9 (e e' : Int) (f f' : Bool) (v v' : Tx) (w : World) : (Op.equalIn 9999 51 (.agg #[.int .i64 e, .bool f, .string v]) (.agg #[.int .i64 e', .bool f', .string v'])).run Try.prog w = .ok (e == e' && f == f' && v.toList == v'.toList) w := by
  have u3 := Try.underlying9
  have a3 := Try.isAgg9
  have z3 := Try.sizeOf9
  have u4 := Try.underlying4
  have a4 := Try.isAgg4
  have z4 := Try.sizeOf4
  have u5 := Try.underlying49
  have a5 := Try.isAgg49
  have z5 := Try.sizeOf49
  have hS : Try.prog.underlying 51 = some (.struct (Try.prog.fieldsOf 51)) := by kernel_rfl
  rw [show (9999 : Nat) = 9998 + 1 from rfl, run_equalIn_agg w 9998 51 _ _ hS (by kernel_rfl)]
  simp only [Program.fieldsOf, Try.underlying51]
  go_simp
  cases h1 : (e == e') <;> cases h2 : (f == f') <;> cases h3 : (v.toList == v'.toList) <;> simp_all

@[go_sem] theorem eqRow (s e s' e' : Int) (f f' : Bool) (v v' : Tx) (w : World) : (Op.equalIn 10000 53 (.agg #[.int .i64 s, .int .i64 e, .bool f, .string v]) (.agg #[.int .i64 s', .int .i64 e', .bool f', .string v'])).run Try.prog w = .ok (s == s' && (e == e' && f == f' && v.toList == v'.toList)) w := by
  have u3 := Try.underlying3
  have a3 := Try.isAgg3
  have z3 := Try.sizeOf3
  have a4 := Try.isAgg51
  have z4 := Try.sizeOf51
  have hS : Try.prog.underlying 53 = some (.struct (Try.prog.fieldsOf 53)) := by kernel_rfl
  rw [show (10000 : Nat) = 9999 + 1 from rfl, run_equalIn_agg w 9999 53 _ _ hS (by kernel_rfl)]
  simp only [Program.fieldsOf, Try.underlying53]
  go_simp
  cases h1 : (s == s') <;> cases h2 : (e == e') <;> cases h3 : (f == f') <;> cases h4 : (v.toList == v'.toList) <;> simp_all

set_option maxRecDepth 100000 in
set_option maxHeartbeats 1000000 in
theorem odd_any (s er : Int) (fo : Bool) (va : Tx) (w : World) : Calls Try.prog 73 #[.agg #[.int .i64 s, .int .i64 er, .bool fo, .string va]] w fun e w' => e = .returned (.bool (oddR ⟨s, ⟨er, fo, va⟩⟩)) ∧ Below w.heap.size w w' := by
  have hbx : Below w.heap.size w (w.alloc (Obj.cells #[.int .i64 s, .int .i64 er, .bool fo, .string va] 53)) := (Below.refl _ _).alloc (Nat.le_refl _) _
  by_cases h0 : s = 0
  · subst h0
    have hz : oddR ⟨0, ⟨er, fo, va⟩⟩ = !(er == 0 && fo == false && va.toList == []) := rfl
    rw [hz]
    clear hz
    cases h1 : (er == 0) <;> cases fo <;> cases h2 : (va.toList == [])
    all_goals
      go_enter Try.func73, Try.ntmps73
      go_wp2
      go_ret
      exact ⟨rfl, hbx⟩
  · have hz : oddR ⟨s, ⟨er, fo, va⟩⟩ = (decide (s < 0) || decide (big40 < s) || badR ⟨er, fo, va⟩) := by unfold oddR; rw [if_neg h0]
    rw [hz]
    have h0b : (s == 0) = false := beq_eq_false_iff_ne.2 h0
    clear hz h0
    unfold big40
    by_cases h1 : s < 0
    · rw [decide_eq_true h1]
      go_enter Try.func73, Try.ntmps73
      go_wp2
      go_ret
      exact ⟨rfl, hbx⟩
    · rw [decide_eq_false h1]
      by_cases h2 : 1099511627776 < s
      · rw [decide_eq_true h2]
        go_enter Try.func73, Try.ntmps73
        go_wp2
        go_ret
        exact ⟨rfl, hbx⟩
      · rw [decide_eq_false h2]
        go_enter Try.func73, Try.ntmps73
        go_wp2_with (go_at_call 58; refine (bad_any _ _ _ _).mono ?_; rintro e w1 ⟨rfl, hb1⟩)
        go_ret
        exact ⟨rfl, hbx.trans (hb1.mono hbx.size)⟩
end Go.Proofs.Ytkkoookmnnmiiaa

namespace Go.Proofs.Ytkkoookmnnmiiaa
open Go.RowKit

theorem sizePair : (Try.prog.info? 81).map (·.size) = some 2 := by kernel_rfl
theorem elPair' : ElemT Try.prog 47 81 2 32 := ElemT.of (.agg #[.string ⟨#[]⟩, .string ⟨#[]⟩]) Try.underlying47 (by kernel_rfl) rfl (by decide)
theorem gb_drew {a w : World} {r : Option Nat} (h : a.grownBy w r) : a.grownBy w.drew r := ⟨h.os, h.tape, h.output, h.size, h.block⟩
theorem gb_drewN {a w : World} {r : Option Nat} (h : a.grownBy w r) (n : Nat) : a.grownBy (w.drewN n) r := ⟨h.os, h.tape, h.output, h.size, h.block⟩
theorem gb_trans {a w w' : World} {r r' : Option Nat} (h : a.grownBy w r) (h' : w.grownBy w' r') (hr : ∀ k, r' = some k → a.heap.size ≤ k ∨ r = some k) : a.grownBy w' r :=
  ⟨h'.os.trans h.os, h'.tape.trans h.tape, h'.output.trans h.output, Nat.le_trans h.size h'.size, fun i hi hne => (h'.block i (Nat.lt_of_lt_of_le hi h.size) (fun e => by
    rcases hr i e.symm with h1 | h1
    · omega
    · exact hne h1.symm)).trans (h.block i hi hne)⟩
theorem gb_of_below {a w : World} (h : Below a.heap.size a w) (r : Option Nat) : a.grownBy w r := ⟨h.os, h.tape, h.output, h.size, fun i hi _ => h.block i hi⟩
theorem gb_below {a w w' : World} {r : Option Nat} (h : a.grownBy w r) (h' : Below w.heap.size w w') : a.grownBy w' r := gb_trans h (gb_of_below h' none) (fun _ e => by cases e)
theorem gb_setCell {a w : World} {r : Option Nat} (h : a.grownBy w r) {p : Addr} (hp : r = some p.block ∨ a.heap.size ≤ p.block) (u : Value) : a.grownBy (w.setCell p u) r :=
  gb_trans (r' := some p.block) h ⟨rfl, rfl, rfl, by simp, fun k _ hk => heap_setCell_other w p k u (fun e => hk (by simp [e]))⟩ (fun k e => by cases e; exact hp.symm)
theorem gb_alloc {a w : World} {r : Option Nat} (h : a.grownBy w r) (o : Obj) : a.grownBy (w.alloc o) r := gb_trans h (World.grownBy_alloc w o none) (fun _ e => by cases e)
theorem gb_to_below {w w' : World} {r : Option Nat} (h : w.grownBy w' r) {B : Nat} (hB : B ≤ w.heap.size) (hr : ∀ k, r = some k → B ≤ k) : Below B w w' := (Below.refl _ _).grown h hB hr

theorem run_append_mixed {P : Program} {w : World} {t t' ty e e' : TypeId} (ht : P.underlying t = some (.slice e)) (ht' : P.underlying t' = some (.slice e')) (b b' : Option Addr) (n n' c c' : Nat) :
    (Builtin.append_ #[t, t'] ty #[.slice b n c, .slice b' n' c']).run P w = (Builtin.append_ #[t, t] ty #[.slice b n c, .slice b' n' c']).run P w := by
  simp [Builtin.append_, run_underlying ht, run_underlying ht']
theorem exec_append_mixed {P : Program} {w : World} {o : Oper} {a : Act} {s x : Operand} {t t' e e' : TypeId} (ht : P.underlying t = some (.slice e)) (ht' : P.underlying t' = some (.slice e'))
    (ho : o.op = .call { callee := .builtin .append, args := #[s, x], argTypes := #[t, t'] }) {b b' : Option Addr} {n n' c c' : Nat} (hs : a.eval s = .slice b n c) (hx : a.eval x = .slice b' n' c') :
    (execOp a.eval o).run P w = (execOp a.eval { o with op := .call { callee := .builtin .append, args := #[s, x], argTypes := #[t, t] } }).run P w := by
  simp [execOp, ho, resolve, invoke, builtin, hs, hx, run_append_mixed ht ht']
theorem wpList_appendN' {P : Program} {w : World} {ops : Array Oper} {rest : List Oper} {o : Oper} {a : Act} {Q : Exit → Act → World → Prop} (hgd : o.guard = none) (s x : Operand) (t t' e e' : TypeId) {size bytes : Nat} (hT : ElemT P t e size bytes) (ht' : P.underlying t' = some (.slice e'))
    (ho : o.op = .call { callee := .builtin .append, args := #[s, x], argTypes := #[t, t'] })
    (base : Nat) (v : Value) (n : Nat) (xs : List Value) (hs : a.eval s = v) (hown : w.ownsRow base e size v n xs)
    (ad : Addr) (m c : Nat) (news : List Value) (hx : a.eval x = .slice (some ad) m c) (hl : news.length = m * size) (hnews : ∀ j u, news[j]? = some u → w.cell? (ad.add j) = some u) (h1 : ∀ u ∈ news, u.oneCell' = true)
    (hn : n + m ≤ 4294967296) (hby : bytes ≤ 4096) (hbase : base ≤ w.heap.size)
    (h : ∀ v' w', w'.ownsRow base e size v' (n + m) (xs ++ news) → w.grownBy w' v.ownBlock → wpList P ops Q rest (a.put o.dst v') w') : wpList P ops Q (o :: rest) a w := by
  obtain ⟨i, z, ht, hi, hz, hsize, hbytes, hzs, hsz⟩ := hT.ex
  obtain ⟨b0, c0, hv0, _⟩ := Row.of_owns hown
  have hb1 : (n + m) * bytes ≤ 4294967296 * 4096 := Nat.mul_le_mul hn hby
  obtain ⟨v', w', hr, h2, h3, _⟩ := run_append_own (P := P) (w := w) base t o.type e i z size bytes ht hi hz hsize hbytes hzs hsz v n xs hown ad m c news hl hnews h1 (by unfold maxLen; omega) (by omega) hbase
  have he : (execOp a.eval { o with op := .call { callee := .builtin .append, args := #[s, x], argTypes := #[t, t] } }).run P w = .ok (.value v') w' := exec_append (o := { o with op := .call { callee := .builtin .append, args := #[s, x], argTypes := #[t, t] } }) s x t t rfl _ _ hs hx hr
  exact wpList_run hgd ((exec_append_mixed ht ht' ho (hs.trans hv0) hx).trans he) (h v' w' h2 h3)

def OwnRes2 (base : Nat) (n : Nat) (xs : List Value) (e : Ending) (w' : World) : Prop := ∃ v, e = .returned v ∧ w'.ownsRow base 81 2 v n xs

set_option maxRecDepth 100000 in
set_option maxHeartbeats 1000000 in
theorem insert_end (base n : Nat) (v : Value) (xs : List Value) (w : World) (hown : w.ownsRow base 81 2 v n xs) (vb : Nat) (x y : Value) (e' : TypeId) (hx : w.heap[vb]? = some (.cells #[x, y] e' (0, 0)))
    (h1 : x.oneCell' = true) (h2 : y.oneCell' = true) (hn : n ≤ 1000000) (hbase : base ≤ w.heap.size) :
    Calls Try.prog 94 #[v, .int .i64 n, .slice (some ⟨vb, 0, none⟩) 1 1] w fun e w' => OwnRes2 base (n + 1) (xs ++ [x, y]) e w' ∧ w.grownBy w' v.ownBlock := by
  have hnw : ∀ j u, [x, y][j]? = some u → w.cell? ((⟨vb, 0, none⟩ : Addr).add j) = some u := by
    intro j u hj
    rw [addr_add, Nat.zero_add]
    simpa [World.cell?, hx] using hj
  have HN := Lib.hid hnw
  clear hnw hx
  have hown' := hown
  have HO := Lib.hid hown
  obtain ⟨hl, ⟨rfl, rfl⟩ | ⟨g, cap, cur, rfl, hg, hgc, hnc, hm, hs, ht⟩⟩ := hown
  · clear hl
    go_enter Try.func94, Try.ntmps94
    go_wp2_with (at_builtin; refine wpList_appendN' rfl _ _ 48 47 81 81 elPair Try.underlying47 rfl base _ _ _ rfl hown' ⟨vb, 0, none⟩ 1 1 [x, y] rfl rfl HN.out (by simp [h1, h2]) (by omega) (by omega) hbase ?_)
    intro v' w' ho hb
    go_wp2
    go_ret
    exact ⟨⟨_, rfl, ho⟩, hb⟩
  · unfold maxLen at hm
    clear hgc hs ht hl
    by_cases hcn : cap = n
    · subst hcn
      go_enter Try.func94, Try.ntmps94
      go_wp2_with (at_builtin; refine wpList_appendN' rfl _ _ 48 47 81 81 elPair Try.underlying47 rfl base _ _ _ rfl hown' ⟨vb, 0, none⟩ 1 1 [x, y] rfl rfl HN.out (by simp [h1, h2]) (by omega) (by omega) hbase ?_)
      intro v' w' ho hb
      go_wp2
      go_ret
      exact ⟨⟨_, rfl, ho⟩, hb⟩
    · go_enter Try.func94, Try.ntmps94
      go_wp2_with (at_builtin; refine wpList_appendN' rfl _ _ 48 47 81 81 elPair Try.underlying47 rfl base _ _ _ rfl hown' ⟨vb, 0, none⟩ 1 1 [x, y] rfl rfl HN.out (by simp [h1, h2]) (by omega) (by omega) hbase ?_)
      intro v' w' ho hb
      go_wp2
      go_ret
      exact ⟨⟨_, rfl, ho⟩, hb⟩

set_option maxRecDepth 100000 in
set_option maxHeartbeats 1000000 in
theorem insert_grow (base n i cap g : Nat) (xs : List Value) (w : World) (hl : xs.length = n * 2) (hcur : w.heap[g]? = some (.cells xs.toArray 81 (0, 0))) (_ : base ≤ g) (vb : Nat) (x y : Value) (e' : TypeId) (hx : w.heap[vb]? = some (.cells #[x, y] e' (0, 0)))
    (h1 : x.oneCell' = true) (h1' : y.oneCell' = true) (h2 : ∀ u ∈ xs, u.oneCell' = true) (hn : n ≤ 1000000) (hi : i < n) (hcap : cap = n) (hbase : base ≤ w.heap.size) :
    Calls Try.prog 94 #[.slice (some ⟨g, 0, none⟩) n cap, .int .i64 i, .slice (some ⟨vb, 0, none⟩) 1 1] w fun e w' => OwnRes2 base (n + 1) (xs.take (i * 2) ++ x :: y :: xs.drop (i * 2)) e w' ∧ w.grownBy w' (some g) := by
  have hgs : g < w.heap.size := by
    have := (Array.getElem?_eq_some_iff.1 hcur).1
    exact this
  have hvs : vb < w.heap.size := (Array.getElem?_eq_some_iff.1 hx).1
  have hold : ∀ j u, (xs.take (i * 2))[j]? = some u → w.cell? ((⟨g, 0, none⟩ : Addr).add j) = some u := by
    intro j u hj
    rw [addr_add, Nat.zero_add]
    have : j < i * 2 := by
      have := (List.getElem?_eq_some_iff.1 hj).1
      rw [List.length_take] at this
      omega
    rw [List.getElem?_take_of_lt this] at hj
    simpa [World.cell?, hcur] using hj
  have HC := Lib.hid hcur
  have HX := Lib.hid hx
  have HO := Lib.hid hold
  clear hcur hx hold
  subst hcap
  go_enter Try.func94, Try.ntmps94
  go_wp2_with (at_builtin; refine wpList_append_zeros rfl _ _ 48 3 81 elPair .i64 Try.underlying3 rfl ⟨g, 0, none⟩ i cap (xs.take (i * 2)) (by simp; omega) HO.out (cap + 1 - i) (by omega) (by omega) (by omega) (by omega) rfl ?_ ?_)
  · exact int_eq (by omega)
  intro w1 C zs hC1 hC2 hlen HC1 hg1
  have hx1 := grown_same hg1 HX.out (by simp)
  have hc1 := grown_same hg1 HC.out (by simp)
  have hb1 : w.grownBy w1 (some g) := gb_trans (World.grownBy.refl _ _) hg1 (fun _ e => by cases e)
  have hsz1 := hg1.size
  have hnw : ∀ j u, [x, y][j]? = some u → w1.cell? ((⟨vb, 0, none⟩ : Addr).add j) = some u := cells_row (A := []) (C := []) (by simpa using hx1) rfl
  have HNW := Lib.hid hnw
  have HCX := Lib.hid hc1
  clear hnw hx1 hc1
  unfold maxLen at hC2
  generalize hG : w.heap.size = G at *
  have HG := Lib.hid hG
  clear hG
  have hil : (xs.take (i * 2)).length = i * 2 := by rw [List.length_take]; omega
  have hlz : zs.length = C * 2 - i * 2 := by omega
  go_wp2_with (first | (at_builtin; fail) | (refine wpList_copyK rfl _ _ 48 47 81 2 Try.underlying48 sizePair rfl G (i * 2) (cap + 1 - i) (C - i) ⟨vb, 0, none⟩ 1 1 rfl rfl (xs.take (i * 2) ++ zs) 81 [x, y] HC1.out ?_ HNW.out ?_ (by simp [h1, h1']) ?_))
  · show 2 = min 1 (cap + 1 - i) * 2
    omega
  · simp only [List.length_append, List.length_cons, List.length_nil, hil, hlz]; omega
  intro w2 HC2 hg2
  have hcx := grown_same hg2 HCX.out (by simp; omega)
  have hb2 := gb_trans hb1 hg2 (fun k hk => by cases hk; exact .inl (Nat.le_of_eq HG.out))
  rw [splice_at hil.symm] at HC2
  have hdr : ∀ j u, (xs.drop (i * 2))[j]? = some u → w2.cell? ((⟨g, i * 2, none⟩ : Addr).add j) = some u := cells_row (A := xs.take (i * 2)) (C := []) (by simpa using hcx) hil.symm
  have HDR := Lib.hid hdr
  have hdl : (xs.drop (i * 2)).length = cap * 2 - i * 2 := by rw [List.length_drop, hl]
  have hd1 : ∀ u ∈ xs.drop (i * 2), u.oneCell' = true := fun u hu => h2 u (List.mem_of_mem_drop hu)
  have HD1 := Lib.hid hd1
  have H1 := Lib.hid h1
  have H1' := Lib.hid h1'
  have H2 := Lib.hid h2
  have HDL := Lib.hid hdl
  have HIL := Lib.hid hil
  have HLZ := Lib.hid hlz
  clear hdr hcx hd1 hdl h1 h1' h2 hil hlz
  go_wp2_with fail
  have hw5 : (i : Int) + 1 ≤ (i : Int) + ((cap + 1 - i : Nat) : Int) := by omega
  have hw4 : ¬ C = i + 1 := by omega
  have hw6 : i ≤ cap := by omega
  have hw7 : ¬ cap = i := by omega
  have hw2 : 0 ≤ (i : Int) + 1 := by omega
  have hw3 : ((i : Int) + 1).toNat = i + 1 := by omega
  have hw1 : IntKind.i64.wrap ((i : Int) + 1) = (i : Int) + 1 := IntWalk.i64_in _ (by omega)
  have HC2d : Hid (w2.drew.heap[G]? = some (.cells (xs.take (i * 2) ++ [x, y] ++ zs.drop [x, y].length).toArray 81 (0, 0))) := HC2
  have HDRd : Hid (∀ j u, (xs.drop (i * 2))[j]? = some u → w2.drew.cell? ((⟨g, i * 2, none⟩ : Addr).add j) = some u) := HDR
  have HS1 : Hid ((xs.drop (i * 2)).length = Nat.min (cap - i) (i + (cap + 1 - i) - (i + 1)) * 2) := Lib.hid (by rw [HDL.out]; show cap * 2 - i * 2 = min (cap - i) _ * 2; omega)
  have HS2 : Hid ((i + 1) * 2 + (xs.drop (i * 2)).length ≤ (xs.take (i * 2) ++ [x, y] ++ zs.drop [x, y].length).length) := Lib.hid (by rw [HDL.out]; simp only [List.length_append, List.length_cons, List.length_nil, List.length_drop, HIL.out, HLZ.out]; omega)
  go_still_tail 8, (by kernel_rfl)
  refine wpList_copyK rfl _ _ 48 48 81 2 Try.underlying48 sizePair rfl G ((i + 1) * 2) (i + (cap + 1 - i) - (i + 1)) (C - (i + 1)) ⟨g, i * 2, none⟩ (cap - i) (cap - i) rfl rfl (xs.take (i * 2) ++ [x, y] ++ zs.drop [x, y].length) 81 (xs.drop (i * 2)) HC2d.out HS1.out HDRd.out HS2.out HD1.out ?_
  intro w3 HC3 hg3
  clear hw1 hw2 hw3 hw5 hw6 hw7
  go_wp2
  go_ret
  have hC3 := HC3.out
  rw [splice_at (by simp [HIL.out]; omega)] at hC3
  have hsz2 := hg2.size
  have hb3 := gb_trans (gb_drew hb2) hg3 (fun k hk => by cases hk; exact .inl (Nat.le_of_eq HG.out))
  refine ⟨⟨_, rfl, ?_⟩, hb3⟩
  rw [show i + (cap + 1 - i) = cap + 1 by omega]
  refine owns_of_cur hC3 hbase (by omega) (by unfold maxLen; omega) ?_ ?_
  · simp only [List.length_append, List.length_drop, List.length_cons, List.length_nil, HIL.out, HDL.out, HLZ.out]; omega
  · rw [take_len (by simp only [List.length_append, List.length_cons, List.length_nil, HIL.out, HDL.out]; omega)]
    simp

theorem overlaps_no (w : World) (vb g o lb cb m vc : Nat) (hne : vb ≠ g) (cx cy : Array Value) (tx ty : TypeId) (hx : w.heap[vb]? = some (.cells cx tx (0, 0))) (hy : w.heap[g]? = some (.cells cy ty (0, 0))) (hc : cy.size ≠ 0) :
    (callFunc 105 #[.slice (some ⟨vb, 0, none⟩) m vc, .slice (some ⟨g, o, none⟩) lb cb]).run Try.prog w = .ok (.value (.bool false)) w := by
  rw [run_callFunc_extern Try.func105 (by kernel_rfl) (by kernel_rfl) (by kernel_rfl) (e := Extern.SlicesOverlaps.overlaps #[47, 47] #[4]) (by kernel_rfl),
    Lib.run_overlaps_apart w 47 4 81 Try.underlying47 2 (fun w => by kernel_rfl) ⟨vb, 0, none⟩ ⟨g, o, none⟩ m vc lb cb hne tx ty cx.size cy.size (by simp [World.shape?, hx]) (by simp [World.shape?, hy]) hc (by simp [World.frozen?, hx]) (by simp [World.frozen?, hx])]
  rfl

set_option maxRecDepth 100000 in
set_option maxHeartbeats 1000000 in
theorem insert_shift (base n i cap g : Nat) (A D Z : List Value) (w : World) (hA : A.length = i * 2) (hD : D.length = n * 2 - i * 2) (hZ : Z.length = cap * 2 - n * 2) (hcur : w.heap[g]? = some (.cells (A ++ D ++ Z).toArray 81 (0, 0))) (hbg : base ≤ g) (vb : Nat) (x y : Value) (e' : TypeId) (hx : w.heap[vb]? = some (.cells #[x, y] e' (0, 0)))
    (hne : vb ≠ g) (h1 : x.oneCell' = true) (h1' : y.oneCell' = true) (h2 : ∀ u ∈ D, u.oneCell' = true) (hn : n ≤ 1000000) (hi : i < n) (hcap : n + 1 ≤ cap) (hm : cap ≤ maxLen) (_ : base ≤ w.heap.size) :
    Calls Try.prog 94 #[.slice (some ⟨g, 0, none⟩) n cap, .int .i64 i, .slice (some ⟨vb, 0, none⟩) 1 1] w fun e w' => OwnRes2 base (n + 1) (A ++ x :: y :: D) e w' ∧ w.grownBy w' (some g) := by
  have hgs : g < w.heap.size := (Array.getElem?_eq_some_iff.1 hcur).1
  have hdr : ∀ j u, D[j]? = some u → w.drew.cell? ((⟨g, i * 2, none⟩ : Addr).add j) = some u := cells_row (w := w.drew) (A := A) (C := Z) hcur hA.symm
  have hov : ∀ lb cb, (callFunc 105 #[.slice (some ⟨vb, 0, none⟩) 1 1, .slice (some ⟨g, (i + 1) * 2, none⟩) lb cb]).run Try.prog w = .ok (.value (.bool false)) w := fun lb cb => overlaps_no w vb g ((i + 1) * 2) lb cb 1 1 hne _ _ _ _ hx hcur (by simp [hA, hD, hZ]; omega)
  have HC := Lib.hid hcur
  have HX := Lib.hid hx
  have HDR := Lib.hid hdr
  have HA := Lib.hid hA
  have HD := Lib.hid hD
  have HZ := Lib.hid hZ
  have H1 := Lib.hid h1
  have H1' := Lib.hid h1'
  have H2 := Lib.hid h2
  clear hcur hx hdr hA hD hZ h1 h1' h2
  unfold maxLen at hm
  have hw5 : (i : Int) + 1 ≤ (n : Int) + 1 := by omega
  have hw4 : ¬ cap = i + 1 := by omega
  have hw6 : i ≤ n + 1 := by omega
  have hw8 : i ≤ n := by omega
  have hw9 : (i : Int) ≤ (n : Int) + 1 := by omega
  have hw7 : ¬ cap = i := by omega
  have hw2 : 0 ≤ (i : Int) + 1 := by omega
  have hw3 : ((i : Int) + 1).toNat = i + 1 := by omega
  have hw1 : IntKind.i64.wrap ((i : Int) + 1) = (i : Int) + 1 := IntWalk.i64_in _ (by omega)
  go_enter Try.func94, Try.ntmps94
  go_wp2_with fail
  have HS1 : Hid (D.length = Nat.min (n + 1 - i) (n - i) * 2) := Lib.hid (by rw [HD.out]; show n * 2 - i * 2 = min _ _ * 2; omega)
  have HS2 : Hid ((i + 1) * 2 + D.length ≤ (A ++ D ++ Z).length) := Lib.hid (by simp only [List.length_append, HA.out, HD.out, HZ.out]; omega)
  go_still_tail 8, (by kernel_rfl)
  refine wpList_copyK rfl _ _ 48 48 81 2 Try.underlying48 sizePair rfl g ((i + 1) * 2) (n - i) (cap - (i + 1)) ⟨g, i * 2, none⟩ (n + 1 - i) (cap - i) rfl rfl (A ++ D ++ Z) 81 D HC.out HS1.out HDR.out HS2.out H2.out ?_
  intro w1 HC1 hg1
  have hbA : w.grownBy w1 (some g) := gb_trans (gb_drew (World.grownBy.refl _ _)) hg1 (fun k hk => .inr hk)
  have hx1 := grown_same hg1 (show w.drew.heap[vb]? = _ from HX.out) (by simp; exact hne)
  have hnw : ∀ j u, [x, y][j]? = some u → w1.cell? ((⟨vb, 0, none⟩ : Addr).add j) = some u := cells_row (A := []) (C := []) (by simpa using hx1) rfl
  have HNW := Lib.hid hnw
  have hsz1 : w.heap.size ≤ w1.heap.size := hg1.size
  clear hnw hx1
  have HS3 : Hid (i * 2 + [x, y].length ≤ (splice (A ++ D ++ Z) ((i + 1) * 2) D).length) := Lib.hid (by rw [length_splice _ _ _ HS2.out]; simp only [List.length_append, List.length_cons, List.length_nil, HA.out, HD.out, HZ.out]; omega)
  go_wp2_with (first | (at_builtin; fail) | (refine wpList_copyK rfl _ _ 48 47 81 2 Try.underlying48 sizePair rfl g (i * 2) (n + 1 - i) (cap - i) ⟨vb, 0, none⟩ 1 1 rfl rfl (splice (A ++ D ++ Z) ((i + 1) * 2) D) 81 [x, y] HC1.out ?_ HNW.out HS3.out (by simp [H1.out, H1'.out]) ?_))
  · show 2 = min 1 (n + 1 - i) * 2
    omega
  intro w2 HC2 hg2
  have hb2 := gb_trans hbA hg2 (fun k hk => .inr hk)
  go_wp2
  go_ret
  refine ⟨⟨_, rfl, ?_⟩, hb2⟩
  have hC2 := HC2.out
  have ha := HA.out
  rw [show i * 2 = A.length from ha.symm, show (i + 1) * 2 = A.length + [x, y].length by simp [ha]; omega, ← List.append_assoc, splice_shift (by rw [HZ.out]; simp; omega)] at hC2
  refine owns_of_cur hC2 hbg hcap (by unfold maxLen; omega) ?_ ?_
  · simp only [List.length_append, List.length_drop, List.length_cons, List.length_nil, ha, HD.out, HZ.out]; omega
  · rw [take_len (by simp only [List.length_append, List.length_cons, List.length_nil, ha, HD.out]; omega)]
    simp
end Go.Proofs.Ytkkoookmnnmiiaa

namespace Go.Proofs.Ytkkoookmnnmiiaa
open Go.RowKit

theorem zeroPair : ∃ z : Value, (∀ w, (zeroValue 81).run Try.prog w = .ok z w) ∧ z.cells.size = 2 ∧ ∀ u ∈ z.cells.toList, u.oneCell' = true :=
  ⟨.agg #[.string ⟨#[]⟩, .string ⟨#[]⟩], fun w => by kernel_rfl, rfl, by simp [Value.cells]; rfl⟩

set_option maxRecDepth 100000 in
set_option maxHeartbeats 1000000 in
theorem delete_one (base n i cap g : Nat) (A D Z : List Value) (x y : Value) (w : World) (hA : A.length = i * 2) (hD : D.length = n * 2 - i * 2 - 2) (hZ : Z.length = cap * 2 - n * 2) (hcur : w.heap[g]? = some (.cells (A ++ [x, y] ++ D ++ Z).toArray 81 (0, 0))) (hbg : base ≤ g)
    (h2 : ∀ u ∈ D, u.oneCell' = true) (hn : n ≤ 1000000) (hi : i < n) (hcap : n ≤ cap) (hm : cap ≤ maxLen) (_ : base ≤ w.heap.size) :
    Calls Try.prog 95 #[.slice (some ⟨g, 0, none⟩) n cap, .int .i64 i, .int .i64 ((i : Int) + 1)] w fun e w' => OwnRes2 base (n - 1) (A ++ D) e w' ∧ w.grownBy w' (some g) := by
  have hgs : g < w.heap.size := (Array.getElem?_eq_some_iff.1 hcur).1
  have hdr : ∀ j u, D[j]? = some u → w.drew.cell? ((⟨g, (i + 1) * 2, none⟩ : Addr).add j) = some u := cells_row (w := w.drew) (A := A ++ [x, y]) (C := Z) hcur (by simp [hA]; omega)
  have HC := Lib.hid hcur
  have HDR := Lib.hid hdr
  have HA := Lib.hid hA
  have HD := Lib.hid hD
  have HZ := Lib.hid hZ
  have H2 := Lib.hid h2
  clear hcur hdr hA hD hZ h2
  unfold maxLen at hm
  have hne : ((i : Int) == (i : Int) + 1) = false := by rw [beq_eq_false_iff_ne]; omega
  have hw0 : (i : Int) + 1 ≤ (n : Int) := by omega
  have hw10 : (i : Int) < (n : Int) := by omega
  have hw2 : 0 ≤ (i : Int) + 1 := by omega
  have hw3 : ((i : Int) + 1).toNat = i + 1 := by omega
  have hw6 : (i : Int) ≤ (n : Int) := by omega
  have hw7 : ¬ cap = i := by omega
  have hw8 : i ≤ n := by omega
  have hw11 : i ≤ cap := by omega
  have hw9 : i + 1 ≤ n := by omega
  have HS2 : Hid (i * 2 + D.length ≤ (A ++ [x, y] ++ D ++ Z).length) := Lib.hid (by simp only [List.length_append, List.length_cons, List.length_nil, HA.out, HD.out, HZ.out]; omega)
  by_cases hce : cap = i + 1
  · obtain rfl : n = i + 1 := by omega
    obtain rfl : cap = i + 1 := by omega
    have hv1 : (i : Int) ≤ (i : Int) + 1 := by omega
    have hd0 : D = [] := List.eq_nil_of_length_eq_zero (by rw [HD.out]; omega)
    have hz0 : Z = [] := List.eq_nil_of_length_eq_zero (by rw [HZ.out]; omega)
    subst hd0 hz0
    have HC0 : Hid (w.heap[g]? = some (.cells (A ++ [x, y]).toArray 81 (0, 0))) := by
      have := HC.out
      exact Lib.hid (by simpa using this)
    go_enter Try.func95, Try.ntmps95
    go_wp2_with fail
    go_still_tail 6, (by kernel_rfl)
    refine wpList_append_room rfl _ _ 48 81 elPair rfl g i (i + 1) rfl (A ++ [x, y]) HC0.out ⟨g, 0, none⟩ 0 0 [] rfl (by simp) (by simp) (by simp) (by omega) (by simp [HA.out]) ?_
    intro w1 HC1 hg1
    have hbA : w.grownBy w1 (some g) := gb_trans (gb_drew (World.grownBy.refl _ _)) hg1 (fun k hk => .inr hk)
    have hsz1 : w.heap.size ≤ w1.heap.size := hg1.size
    have HV : Hid (∃ z : Value, (∀ w, (zeroValue 81).run Try.prog w = .ok z w) ∧ z.cells.size = 2 ∧ ∀ u ∈ (Builtin.zeroCells z.cells 1).toList, u.oneCell' = true) := by
      obtain ⟨z, h1, h2, h3⟩ := zeroPair
      exact Lib.hid ⟨z, h1, h2, zeroCells_mem h3⟩
    have hC1 := HC1.out
    have e1 : splice (A ++ [x, y]) (i * 2) [] = A ++ [x, y] := by simp [splice]
    rw [e1] at hC1
    have HC2 := Lib.hid hC1
    clear hC1 HC1 e1
    have HS3 : Hid (i * 2 + 1 * 2 ≤ (A ++ [x, y]).length) := Lib.hid (by simp [HA.out])
    go_wp2_with (first | (at_builtin; fail) | (refine wpList_clearK rfl _ 48 81 elPair rfl g (i * 2) 1 1 rfl (by omega) (A ++ [x, y]) HC2.out HS3.out HV.out ?_))
    intro w2 zs hzl HC3 hg2
    have hb2 := gb_trans hbA hg2 (fun k hk => .inr hk)
    go_wp2
    go_ret
    refine ⟨⟨_, rfl, ?_⟩, hb2⟩
    have ha := HA.out
    have hC3 := HC3.out
    rw [show i * 2 = A.length from ha.symm, splice_at rfl] at hC3
    refine owns_of_cur hC3 hbg (by omega) (by unfold maxLen; omega) ?_ ?_
    · simp [hzl, ha]; omega
    · rw [show i * 2 = A.length from ha.symm]
      simp
  · go_enter Try.func95, Try.ntmps95
    go_wp2_with fail
    go_still_tail 6, (by kernel_rfl)
    refine wpList_append_room rfl _ _ 48 81 elPair rfl g i cap rfl (A ++ [x, y] ++ D ++ Z) HC.out ⟨g, (i + 1) * 2, none⟩ (n - (i + 1)) (cap - (i + 1)) D rfl (by rw [HD.out]; omega) HDR.out H2.out (by omega) (by simpa using HS2.out) ?_
    intro w1 HC1 hg1
    rw [show i + (n - (i + 1)) = n - 1 by omega]
    have hw12 : ((n - 1 : Nat) : Int) ≤ (n : Int) := by omega
    have hw13 : n - 1 ≤ n := by omega
    have hw14 : ¬ cap = n - 1 := by omega
    have hw15 : n - (n - 1) = 1 := by omega
    have hbA : w.grownBy w1 (some g) := gb_trans (gb_drew (World.grownBy.refl _ _)) hg1 (fun k hk => .inr hk)
    have hsz1 : w.heap.size ≤ w1.heap.size := hg1.size
    have HS3 : Hid ((n - 1) * 2 + 1 * 2 ≤ (splice (A ++ [x, y] ++ D ++ Z) (i * 2) D).length) := Lib.hid (by rw [length_splice _ _ _ (by simpa using HS2.out)]; simp only [List.length_append, List.length_cons, List.length_nil, HA.out, HD.out, HZ.out]; omega)
    have HV : Hid (∃ z : Value, (∀ w, (zeroValue 81).run Try.prog w = .ok z w) ∧ z.cells.size = 2 ∧ ∀ u ∈ (Builtin.zeroCells z.cells 1).toList, u.oneCell' = true) := by
      obtain ⟨z, h1, h2, h3⟩ := zeroPair
      exact Lib.hid ⟨z, h1, h2, zeroCells_mem h3⟩
    go_wp2_with (first | (at_builtin; fail) | (refine wpList_clearK rfl _ 48 81 elPair rfl g ((n - 1) * 2) 1 (cap - (n - 1)) rfl (by omega) (splice (A ++ [x, y] ++ D ++ Z) (i * 2) D) HC1.out HS3.out HV.out ?_))
    intro w2 zs hzl HC2 hg2
    have hb2 := gb_trans hbA hg2 (fun k hk => .inr hk)
    go_wp2
    go_ret
    refine ⟨⟨_, rfl, ?_⟩, hb2⟩
    have ha := HA.out
    have hC2 := HC2.out
    have h1 := HS3.out
    have h2 := HS2.out
    have e2 : (n - 1) * 2 = (A ++ D).length := by simp only [List.length_append, HD.out, ha]; omega
    simp only [List.append_assoc, List.cons_append, List.nil_append, show i * 2 = A.length from ha.symm] at hC2 h1 h2
    rw [length_splice _ _ _ h2] at h1
    refine owns_of_cur hC2 hbg (by omega) (by unfold maxLen; omega) ?_ ?_
    · rw [length_splice _ _ _ (by rw [hzl, length_splice _ _ _ h2]; omega), length_splice _ _ _ h2]
      simp only [List.length_append, List.length_cons, HA.out, HD.out, HZ.out]; omega
    · rw [splice_at rfl, e2, splice_at rfl, List.append_assoc, take_len rfl]

theorem insert_own (base n i : Nat) (v : Value) (xs : List Value) (w : World) (hown : w.ownsRow base 81 2 v n xs) (vb : Nat) (x y : Value) (e' : TypeId) (hx : w.heap[vb]? = some (.cells #[x, y] e' (0, 0))) (hne : v.ownBlock ≠ some vb)
    (h1 : x.oneCell' = true) (h1' : y.oneCell' = true) (h2 : ∀ u ∈ xs, u.oneCell' = true) (hn : n ≤ 1000000) (hi : i ≤ n) (hbase : base ≤ w.heap.size) :
    Calls Try.prog 94 #[v, .int .i64 i, .slice (some ⟨vb, 0, none⟩) 1 1] w fun e w' => OwnRes2 base (n + 1) (xs.take (i * 2) ++ x :: y :: xs.drop (i * 2)) e w' ∧ w.grownBy w' v.ownBlock := by
  have hxl : xs.length = n * 2 := by simpa using hown.1
  by_cases hin : i = n
  · subst hin
    rw [List.take_of_length_le (by omega), List.drop_of_length_le (by omega)]
    exact insert_end base i v xs w hown vb x y e' hx h1 h1' hn hbase
  · obtain ⟨hl, ⟨rfl, rfl⟩ | ⟨g, cap, cur, rfl, hg, hgc, hnc, hm, hs, ht⟩⟩ := hown
    · omega
    · by_cases hc : n = cap
      · subst hc
        have hcur : cur = xs.toArray := by
          apply Array.ext'
          rw [← ht, List.take_of_length_le (by simp; omega)]
        rw [hcur] at hgc
        exact insert_grow base n i n g xs w hxl hgc hg vb x y e' hx h1 h1' h2 hn (by omega) rfl hbase
      · have hcur : cur = (xs.take (i * 2) ++ xs.drop (i * 2) ++ cur.toList.drop (n * 2)).toArray := by
          apply Array.ext'
          rw [List.take_append_drop]
          simp only
          conv => lhs; rw [← List.take_append_drop (n * 2) cur.toList, ht]
        rw [hcur] at hgc
        exact insert_shift base n i cap g (xs.take (i * 2)) (xs.drop (i * 2)) (cur.toList.drop (n * 2)) w (by rw [List.length_take]; omega) (by rw [List.length_drop]; omega) (by simp; omega) hgc hg vb x y e' hx
          (fun e => hne (by simp [Value.ownBlock, e])) h1 h1' (fun u hu => h2 u (List.mem_of_mem_drop hu)) hn (by omega) (by omega) hm hbase

theorem delete_own (base n i : Nat) (v : Value) (xs : List Value) (w : World) (hown : w.ownsRow base 81 2 v n xs)
    (h2 : ∀ u ∈ xs, u.oneCell' = true) (hn : n ≤ 1000000) (hi : i < n) (hbase : base ≤ w.heap.size) :
    Calls Try.prog 95 #[v, .int .i64 i, .int .i64 ((i : Int) + 1)] w fun e w' => OwnRes2 base (n - 1) (xs.take (i * 2) ++ xs.drop ((i + 1) * 2)) e w' ∧ w.grownBy w' v.ownBlock := by
  have hxl : xs.length = n * 2 := by simpa using hown.1
  obtain ⟨hl, ⟨rfl, rfl⟩ | ⟨g, cap, cur, rfl, hg, hgc, hnc, hm, hs, ht⟩⟩ := hown
  · omega
  · have hcur : cur = (xs.take (i * 2) ++ [xs[i * 2], xs[i * 2 + 1]] ++ xs.drop ((i + 1) * 2) ++ cur.toList.drop (n * 2)).toArray := by
      apply Array.ext'
      have e : xs.take (i * 2) ++ [xs[i * 2], xs[i * 2 + 1]] ++ xs.drop ((i + 1) * 2) = xs := by
        rw [show (i + 1) * 2 = i * 2 + 1 + 1 by omega]
        have h3 : xs.drop (i * 2) = xs[i * 2] :: xs[i * 2 + 1] :: xs.drop (i * 2 + 1 + 1) := by
          rw [List.drop_eq_getElem_cons (show i * 2 < xs.length by omega), List.drop_eq_getElem_cons (show i * 2 + 1 < xs.length by omega)]
        conv => rhs; rw [← List.take_append_drop (i * 2) xs, h3]
        simp
      rw [e]
      simp only
      conv => lhs; rw [← List.take_append_drop (n * 2) cur.toList, ht]
    rw [hcur] at hgc
    exact delete_one base n i cap g (xs.take (i * 2)) (xs.drop ((i + 1) * 2)) (cur.toList.drop (n * 2)) xs[i * 2] xs[i * 2 + 1] w (by rw [List.length_take]; omega) (by rw [List.length_drop]; omega) (by simp; omega) hgc hg
      (fun u hu => h2 u (List.mem_of_mem_drop hu)) hn hi hnc hm hbase
end Go.Proofs.Ytkkoookmnnmiiaa

namespace Go.Proofs.Ytkkoookmnnmiiaa
open Go.RowKit

theorem trio {w : World} {g : Nat} {x y z : Value} {T : TypeId} (h : w.heap[g]? = some (.cells #[x, y, z] T (0, 0))) :
    w.cell? ⟨g, 0, none⟩ = some x ∧ w.cell? ⟨g, 1, none⟩ = some y ∧ w.cell? ⟨g, 2, none⟩ = some z ∧ w.frozen? ⟨g, 0, none⟩ = false ∧ w.frozen? ⟨g, 1, none⟩ = false ∧ w.frozen? ⟨g, 2, none⟩ = false := by
  refine ⟨?_, ?_, ?_, ?_, ?_, ?_⟩
  all_goals simp [World.cell?, World.frozen?, h]
theorem four {w : World} {g : Nat} {x y z u : Value} {T : TypeId} (h : w.heap[g]? = some (.cells #[x, y, z, u] T (0, 0))) :
    w.cell? ⟨g, 0, none⟩ = some x ∧ w.cell? ⟨g, 1, none⟩ = some y ∧ w.cell? ⟨g, 2, none⟩ = some z ∧ w.cell? ⟨g, 3, none⟩ = some u := by
  refine ⟨?_, ?_, ?_, ?_⟩
  all_goals simp [World.cell?, h]

set_option maxRecDepth 100000 in
set_option maxHeartbeats 1000000 in
theorem was_any (a : Option Addr) (cap : Nat) (l : List Pr) (k : Tx) (w : World) (hr : Row w a (prs l)) (hl : l.length ≤ 1000000) (hso : Rises l) (r : Rp) (hres : wasR l k = r) :
    Calls Try.prog 92 #[.slice a l.length cap, .string k] w fun e w' => e = .returned (rpV r) ∧ Below w.heap.size w w' := by
  have hb0 : Below w.heap.size w (w.alloc (Obj.cells #[.int .i64 0, .bool false, .string ⟨#[]⟩] 51)) := (Below.refl _ _).alloc (Nat.le_refl _) _
  have hr0 := hr.below0 hb0
  subst hres
  cases hlk : look l k with
  | none =>
    have hh : hasK l k = false := by simp [hasK, hlk]
    have hw : wasR l k = ⟨0, false, ⟨#[]⟩⟩ := by simp [wasR, hlk]
    rw [hw]
    have HH := Lib.hid hh
    clear hh hw hlk
    go_enter Try.func92, Try.ntmps92
    go_wp2_with (go_at_call 93; refine (find_any _ _ _ _ _ hr0 hl hso).mono ?_; rintro e w1 ⟨rfl, hb1⟩; rw [HH.out]; obtain ⟨c0, c1, c2, f0, f1, f2⟩ := trio ((hb1.block w.heap.size (by simp)).trans (heap_alloc_new _ _)); have hbw1 := hb0.trans (hb1.mono (by simp)))
    (try simp only [Exit.inBlock, Exit.then])
    refine bodyPost_ret ?hr rfl ⟨rfl, ?_⟩
    case hr =>
      simp only [results, Try.results92]
      go_simp
      try rfl
    (repeat' (first | (with_reducible exact Below.refl _ _) | (with_reducible assumption) | (with_reducible refine Below.alloc ?_ ?_ _) | (with_reducible refine Below.drew ?_) | (with_reducible refine below_drewN ?_ _) | (with_reducible refine Below.setCell ?_ ?_ _) | (with_reducible refine Below.trans ?_ (by assumption)) | go_size))
  | some v =>
    have hh : hasK l k = true := by simp [hasK, hlk]
    have hw : wasR l k = ⟨0, true, v⟩ := by simp [wasR, hlk]
    have hat := at_yes hso hlk
    obtain ⟨bb, off, rfl, hblt, hcs⟩ := hr.pair hat
    obtain ⟨d0, d1⟩ := hcs _ _ hat
    have hlo := (List.getElem?_eq_some_iff.1 hat).1
    rw [hw]
    have HH := Lib.hid hh
    clear hh hw hlk hat hcs
    go_enter Try.func92, Try.ntmps92
    go_wp2_with (go_at_call 93; refine (find_any _ _ _ _ _ hr0 hl hso).mono ?_; rintro e w1 ⟨rfl, hb1⟩; rw [HH.out]; obtain ⟨c0, c1, c2, f0, f1, f2⟩ := trio ((hb1.block w.heap.size (by simp)).trans (heap_alloc_new _ _)); have hbw1 := hb0.trans (hb1.mono (by simp)); have e1 := (hbw1.cell (p := ⟨bb, off + (lo l k).length * 2 + 1, none⟩) hblt).trans d1)
    (try simp only [Exit.inBlock, Exit.then])
    refine bodyPost_ret ?hr rfl ⟨rfl, ?_⟩
    case hr =>
      simp only [results, Try.results92]
      go_simp
      try rfl
    (repeat' (first | (with_reducible exact Below.refl _ _) | (with_reducible assumption) | (with_reducible refine Below.alloc ?_ ?_ _) | (with_reducible refine Below.drew ?_) | (with_reducible refine below_drewN ?_ _) | (with_reducible refine Below.setCell ?_ ?_ _) | (with_reducible refine Below.trans ?_ (by assumption)) | go_size))

set_option maxRecDepth 100000 in
set_option maxHeartbeats 1000000 in
theorem get_any (a : Option Addr) (cap : Nat) (l : List Pr) (o : Opn) (w : World) (hr : Row w a (prs l)) (hl : l.length ≤ 1000000) (hso : Rises l) (r : Rp) (hres : wasR l o.key = r) :
    Calls Try.prog 74 #[.slice a l.length cap, opV o] w fun e w' => e = .returned (.tuple #[.slice a l.length cap, rpV r]) ∧ Below w.heap.size w w' := by
  obtain ⟨kd, key, old, val⟩ := o
  unfold opV
  have hb0 : Below w.heap.size w ((w.alloc (Obj.cells #[.int .u8 kd, .string key, .string old, .string val] 32)).alloc (Obj.cells #[.int .i64 0, .bool false, .string ⟨#[]⟩] 51)) := ((Below.refl _ _).alloc (Nat.le_refl _) _).alloc (by simp) _
  have hr0 := hr.below0 hb0
  go_enter Try.func74, Try.ntmps74
  go_wp2_with (go_at_call 92; refine (was_any _ _ _ _ _ hr0 hl hso r hres).mono ?_; rintro e w1 ⟨rfl, hb1⟩; obtain ⟨c0, c1, c2, f0, f1, f2⟩ := trio ((hb1.block (w.heap.size + 1) (by simp)).trans (heap_alloc2_new _ _ _)); have hbw1 := hb0.trans (hb1.mono (by simp; omega)); unfold rpV)
  (try simp only [Exit.inBlock, Exit.then])
  refine bodyPost_ret ?hr rfl ⟨rfl, ?_⟩
  case hr =>
    simp only [results, Try.results74]
    go_simp
    try rfl
  (repeat' (first | (with_reducible exact Below.refl _ _) | (with_reducible assumption) | (with_reducible refine Below.alloc ?_ ?_ _) | (with_reducible refine Below.drew ?_) | (with_reducible refine below_drewN ?_ _) | (with_reducible refine Below.setCell ?_ ?_ _) | (with_reducible refine Below.trans ?_ (by assumption)) | go_size))
end Go.Proofs.Ytkkoookmnnmiiaa

namespace Go.Proofs.Ytkkoookmnnmiiaa
open Go.RowKit

def StRes (base : Nat) (l : List Pr) (r : Rp) (e : Ending) (w' : World) : Prop := ∃ v', e = .returned (.tuple #[v', rpV r]) ∧ w'.ownsRow base 81 2 v' l.length (prs l)

theorem owns_far {w : World} {base n size : Nat} {e : TypeId} {v : Value} {xs : List Value} (h : w.ownsRow base e size v n xs) {b j : Nat} (hne : v.ownBlock ≠ some b) (u : Value) : (w.setCell ⟨b, j, none⟩ u).ownsRow base e size v n xs :=
  h.kept (row := some b) ⟨rfl, rfl, rfl, by simp, fun k _ hk => heap_setCell_other w ⟨b, j, none⟩ k u (fun e => hk (by simp [e]))⟩ (.inr hne)

theorem prs_set {l : List Pr} {i : Nat} {k v u : Tx} (h : l[i]? = some (k, v)) : prs (l.set i (k, u)) = (prs l).set (i * 2 + 1) (.string u) := by
  induction l generalizing i with
  | nil => simp at h
  | cons p l ih =>
    cases i with
    | zero =>
      simp at h
      subst h
      rfl
    | succ i =>
      simp only [List.getElem?_cons_succ] at h
      have := ih h
      rw [show (i + 1) * 2 + 1 = i * 2 + 1 + 1 + 1 by omega]
      simp only [prs, List.set_cons_succ, List.flatMap_cons, List.cons_append, List.nil_append] at this ⊢
      rw [this]

set_option maxRecDepth 100000 in
set_option maxHeartbeats 2000000 in
theorem put_there_any (base : Nat) (v : Value) (l : List Pr) (o : Opn) (u : Tx) (w : World) (hown : w.ownsRow base 81 2 v l.length (prs l)) (hl : l.length ≤ 1000) (hso : Rises l) (hlk : look l o.key = some u) :
    Calls Try.prog 75 #[v, opV o] w fun e w' => StRes base (putL l o.key o.val) ⟨0, true, u⟩ e w' ∧ w.grownBy w' v.ownBlock := by
  obtain ⟨kd, key, old, val⟩ := o
  unfold opV
  simp only at hlk ⊢
  have hb0 : Below w.heap.size w ((w.alloc (Obj.cells #[.int .u8 kd, .string key, .string old, .string val] 32)).alloc (Obj.cells #[.int .i64 0, .bool false, .string ⟨#[]⟩] 51)) := ((Below.refl _ _).alloc (Nat.le_refl _) _).alloc (by simp) _
  have hat := at_yes hso hlk
  have hlo := (List.getElem?_eq_some_iff.1 hat).1
  obtain ⟨g, cap, rfl, _⟩ := owns_some hown (by omega)
  obtain ⟨a0, c0, hv0, hr, hcap, hmx⟩ := Row.of_owns hown
  injection hv0 with hv1 _ hv2
  subst hv1 hv2
  have hr0 := hr.below0 hb0
  have hh : hasK l key = true := by simp [hasK, hlk]
  have hw : wasR l key = ⟨0, true, u⟩ := by simp [wasR, hlk]
  have hset := prs_set (u := val) hat
  rw [put_there hso hlk] at hset
  have hlen : (putL l key val).length = l.length := by rw [← put_there hso hlk, List.length_set]
  have HH := Lib.hid hh
  have HS := Lib.hid hset
  have HL := Lib.hid hlen
  clear hh hset hat hlen
  go_enter Try.func75, Try.ntmps75
  refine wp_seq_k (fun K hK => ?_)
  have HK := Lib.hid hK
  clear hK
  go_wp2
  refine HK.out _ _ ?_
  clear HK
  refine wp_seq_k (fun K hK => ?_)
  have HK := Lib.hid hK
  clear hK
  go_wp2_with (go_at_call 93; refine (find_any _ _ _ _ _ hr0 (by omega) hso).mono ?_; rintro e w1 ⟨rfl, hb1⟩; rw [HH.out])
  refine HK.out _ _ ?_
  clear HK
  have hbw1 := hb0.trans (hb1.mono (by simp; omega))
  obtain ⟨d0, d1, d2, d3⟩ := four ((hb1.block w.heap.size (by simp; omega)).trans ((heap_alloc_old _ _ (by simp)).trans (heap_alloc_new _ _)))
  have hr1 := hr.below0 hbw1
  refine wp_seq_k (fun K hK => ?_)
  have HK := Lib.hid hK
  clear hK
  go_wp2_with (go_at_call 92; refine (was_any _ _ _ _ _ hr1 (by omega) hso _ hw).mono ?_; rintro e w2 ⟨rfl, hb2⟩; unfold rpV)
  refine HK.out _ _ ?_
  clear HK
  have hs1 := hb1.size
  simp at hs1
  have hs2 := hb2.size
  have hbw2 := hbw1.trans (hb2.mono (by omega))
  have hgs : g < w.heap.size := by
    have := hown.lt g rfl
    omega
  have hb23 : Below w2.heap.size w2 (w2.alloc (Obj.cells #[.int .i64 0, .bool true, .string u] 51)) := (Below.refl _ _).alloc (Nat.le_refl _) _
  have hbw3 := hbw2.trans (hb23.mono (by omega))
  have b3 := (hb23.block w.heap.size (by omega)).trans ((hb2.block w.heap.size (by omega)).trans ((hb1.block w.heap.size (by simp; omega)).trans ((heap_alloc_old _ _ (by simp)).trans (heap_alloc_new w (Obj.cells #[.int .u8 kd, .string key, .string old, .string val] 32)))))
  have b5 := (hb23.block (w.heap.size + 1) (by omega)).trans ((hb2.block (w.heap.size + 1) (by omega)).trans ((hb1.block (w.heap.size + 1) (by simp)).trans (heap_alloc2_new w _ (Obj.cells #[.int .i64 0, .bool false, .string ⟨#[]⟩] 51))))
  have b8 := heap_alloc_new w2 (Obj.cells #[.int .i64 0, .bool true, .string u] 51)
  have hown3 := owns_after hown hbw3
  have hs3 := hbw3.size
  clear d0 d1 d2 d3
  generalize w2.alloc (Obj.cells #[.int .i64 0, .bool true, .string u] 51) = w3 at *
  obtain ⟨d0, d1, d2, d3⟩ := four b3
  have ex : w3.cell? ⟨g, (lo l key).length * 2 + 1, none⟩ = some (.string u) := by
    rw [hown3.cellAt _ (by omega)]
    exact (prs_at (at_yes hso hlk)).2
  have fx : w3.frozen? ⟨g, (lo l key).length * 2 + 1, none⟩ = false := hown3.frozenAt _
  obtain ⟨hown4, hg4⟩ := hown3.stored ((lo l key).length * 2 + 1) (.string val)
  rw [← HS.out] at hown4
  have b5' := (heap_setCell_other w3 ⟨g, (lo l key).length * 2 + 1, none⟩ (w.heap.size + 1) (.string val) (by simp; omega)).trans b5
  have b8' := (heap_setCell_other w3 ⟨g, (lo l key).length * 2 + 1, none⟩ w2.heap.size (.string val) (by simp; omega)).trans b8
  have hbw4 : w.grownBy (w3.setCell ⟨g, (lo l key).length * 2 + 1, none⟩ (.string val)) (some g) := gb_setCell (gb_of_below hbw3 _) (.inl rfl) _
  have HL4 := Lib.hid hown4
  clear hown4 hown3 hlk hw
  go_wp2_with fail
  generalize w3.setCell ⟨g, (lo l key).length * 2 + 1, none⟩ (.string val) = w4 at *
  obtain ⟨p0, p1, p2, q0, q1, q2⟩ := trio b5'
  obtain ⟨r0, r1, r2, s0, s1, s2⟩ := trio b8'
  go_region
  go_wp2
  (try simp only [Exit.inBlock, Exit.then])
  refine bodyPost_ret (v := .tuple #[.slice (some ⟨g, 0, none⟩) l.length cap, rpV ⟨0, true, u⟩]) ?hr rfl ⟨⟨_, rfl, ?_⟩, ?_⟩
  case hr =>
    simp only [results, Try.results75]
    go_simp
    try rfl
  · rw [HL.out]
    repeat (first | exact HL4.out | refine World.ownsRow.drew ?_ | refine owns_far ?_ (by simp [Value.ownBlock]; omega) _)
  · show World.grownBy w _ (some g)
    (repeat' (first | (with_reducible exact World.grownBy.refl _ _) | (with_reducible assumption) | (with_reducible refine gb_alloc ?_ _) | (with_reducible refine gb_drew ?_) | (with_reducible refine gb_drewN ?_ _) | (with_reducible refine gb_setCell ?_ ?_ _) | (with_reducible refine gb_below ?_ (by assumption)) | exact .inl rfl | exact .inr (by first | (simp; done) | (simp; omega) | omega)))
end Go.Proofs.Ytkkoookmnnmiiaa

namespace Go.Proofs.Ytkkoookmnnmiiaa
open Go.RowKit

theorem gb_keep {x y : World} {r : Option Nat} (hg : x.grownBy y r) {p : Addr} {v : Value} (hc : x.cell? p = some v) (hne : r ≠ some p.block) : y.cell? p = some v := hg.cell hc (fun e => hne e.symm)
theorem gb_keepf {x y : World} {r : Option Nat} (hg : x.grownBy y r) {p : Addr} {v : Value} (hc : x.cell? p = some v) (hf : x.frozen? p = false) (hne : r ≠ some p.block) : y.frozen? p = false := by
  rw [World.frozen?_of_block (hg.block p.block (World.block_lt_of_cell? x p hc) (fun e => hne e.symm))]
  exact hf
theorem al_keepf {x : World} {p : Addr} {v : Value} {o : Obj} (hc : x.cell? p = some v) (hf : x.frozen? p = false) : (x.alloc o).frozen? p = false := gb_keepf (World.grownBy_alloc x o none) hc hf (by simp)
theorem al_keep {x : World} {p : Addr} {v : Value} {o : Obj} (hc : x.cell? p = some v) : (x.alloc o).cell? p = some v := gb_keep (World.grownBy_alloc x o none) hc (by simp)
theorem al_keepd {x : World} {p : Addr} {v : Value} {o : Obj} (hc : x.cell? p = some v) : (x.alloc o).drew.cell? p = some v := al_keep hc
theorem al_keepfd {x : World} {p : Addr} {v : Value} {o : Obj} (hc : x.cell? p = some v) (hf : x.frozen? p = false) : (x.alloc o).drew.frozen? p = false := al_keepf hc hf

theorem own_ne {w : World} {base n size g : Nat} {e t : TypeId} {v : Value} {xs : List Value} {cs : Array Value} (h : w.ownsRow base e size v n xs) (hg : w.heap[g]? = some (.cells cs t (0, 0))) (hne : e ≠ t) : v.ownBlock ≠ some g := by
  rcases h.2 with ⟨rfl, _⟩ | ⟨g', cap, cur, rfl, _, hh, _⟩
  · simp [Value.ownBlock]
  · intro he
    have : g' = g := by simpa [Value.ownBlock] using he
    subst this
    rw [hg] at hh
    injection hh with hh
    injection hh with _ ht
    exact hne ht.symm

set_option maxRecDepth 100000 in
set_option maxHeartbeats 2000000 in
theorem put_full_any (base : Nat) (a : Option Addr) (cap : Nat) (l : List Pr) (o : Opn) (w : World) (hown : w.ownsRow base 81 2 (.slice a l.length cap) l.length (prs l)) (hl : l.length = 8) (hso : Rises l) (hlk : look l o.key = none) :
    Calls Try.prog 75 #[.slice a l.length cap, opV o] w fun e w' => StRes base l ⟨211, false, ⟨#[]⟩⟩ e w' ∧ w.grownBy w' (Value.slice a l.length cap).ownBlock := by
  obtain ⟨kd, key, old, val⟩ := o
  unfold opV
  simp only at hlk ⊢
  have hb0 : Below w.heap.size w ((w.alloc (Obj.cells #[.int .u8 kd, .string key, .string old, .string val] 32)).alloc (Obj.cells #[.int .i64 0, .bool false, .string ⟨#[]⟩] 51)) := ((Below.refl _ _).alloc (Nat.le_refl _) _).alloc (by simp) _
  obtain ⟨a0, c0, hv0, hr, hcap, hmx⟩ := Row.of_owns hown
  injection hv0 with hv1 _ hv2
  subst hv1 hv2
  have hr0 := hr.below0 hb0
  have hh : hasK l key = false := by simp [hasK, hlk]
  have hw : wasR l key = ⟨0, false, ⟨#[]⟩⟩ := by simp [wasR, hlk]
  have h8 : ((l.length : Int) == 8) = true := by rw [hl]; rfl
  have HH := Lib.hid hh
  have HL := Lib.hid hl
  have hl2 : l.length ≤ 8 := by omega
  have HO := Lib.hid hown
  clear hh hl hown
  go_enter Try.func75, Try.ntmps75
  refine wp_seq_k (fun K hK => ?_)
  have HK := Lib.hid hK
  clear hK
  go_wp2
  refine HK.out _ _ ?_
  clear HK
  refine wp_seq_k (fun K hK => ?_)
  have HK := Lib.hid hK
  clear hK
  go_wp2_with (go_at_call 93; refine (find_any _ _ _ _ _ hr0 (by omega) hso).mono ?_; rintro e w1 ⟨rfl, hb1⟩; rw [HH.out])
  refine HK.out _ _ ?_
  clear HK
  have hbw1 := hb0.trans (hb1.mono (by simp; omega))
  obtain ⟨d0, d1, d2, d3⟩ := four ((hb1.block w.heap.size (by simp; omega)).trans ((heap_alloc_old _ _ (by simp)).trans (heap_alloc_new _ _)))
  have hr1 := hr.below0 hbw1
  refine wp_seq_k (fun K hK => ?_)
  have HK := Lib.hid hK
  clear hK
  go_wp2_with (go_at_call 92; refine (was_any _ _ _ _ _ hr1 (by omega) hso _ hw).mono ?_; rintro e w2 ⟨rfl, hb2⟩; unfold rpV)
  refine HK.out _ _ ?_
  clear HK
  have hs1 := hb1.size
  simp at hs1
  have hs2 := hb2.size
  have hbw2 := hbw1.trans (hb2.mono (by omega))
  have hb23 : Below w2.heap.size w2 (w2.alloc (Obj.cells #[.int .i64 0, .bool false, .string ⟨#[]⟩] 51)) := (Below.refl _ _).alloc (Nat.le_refl _) _
  have hbw3 := hbw2.trans (hb23.mono (by omega))
  have b5 := (hb23.block (w.heap.size + 1) (by omega)).trans ((hb2.block (w.heap.size + 1) (by omega)).trans ((hb1.block (w.heap.size + 1) (by simp)).trans (heap_alloc2_new w _ (Obj.cells #[.int .i64 0, .bool false, .string ⟨#[]⟩] 51))))
  have hown3 := Lib.hid (owns_after HO.out hbw3)
  have hs3 := hbw3.size
  clear d0 d1 d2 d3
  generalize w2.alloc (Obj.cells #[.int .i64 0, .bool false, .string ⟨#[]⟩] 51) = w3 at *
  obtain ⟨p0, p1, p2, q0, q1, q2⟩ := trio b5
  have hbw4 : w.grownBy w3 (Value.slice a l.length cap).ownBlock := gb_of_below hbw3 _
  have hne : (Value.slice a l.length cap).ownBlock ≠ some (w.heap.size + 1) := by
    intro e
    have := HO.out.lt _ e
    omega
  go_wp2
  (try simp only [Exit.inBlock, Exit.then])
  refine bodyPost_ret (v := .tuple #[.slice a l.length cap, rpV ⟨211, false, ⟨#[]⟩⟩]) ?hr rfl ⟨⟨_, rfl, ?_⟩, ?_⟩
  case hr =>
    simp only [results, Try.results75]
    go_simp
    try rfl
  · repeat (first | exact hown3.out | refine World.ownsRow.drew ?_ | refine owns_far ?_ hne _)
  · (repeat' (first | (with_reducible exact World.grownBy.refl _ _) | (with_reducible assumption) | (with_reducible refine gb_alloc ?_ _) | (with_reducible refine gb_drew ?_) | (with_reducible refine gb_drewN ?_ _) | (with_reducible refine gb_setCell ?_ ?_ _) | (with_reducible refine gb_below ?_ (by assumption)) | exact .inl rfl | exact .inr (by first | (simp; done) | (simp; omega) | omega)))

set_option maxRecDepth 100000 in
set_option maxHeartbeats 4000000 in
theorem put_new_any (base : Nat) (a : Option Addr) (cap : Nat) (l : List Pr) (o : Opn) (w : World) (hown : w.ownsRow base 81 2 (.slice a l.length cap) l.length (prs l)) (hbase : base ≤ w.heap.size) (hl : l.length ≤ 1000) (hl8 : l.length ≠ 8) (hso : Rises l) (hlk : look l o.key = none) :
    Calls Try.prog 75 #[.slice a l.length cap, opV o] w fun e w' => StRes base (putL l o.key o.val) ⟨0, false, ⟨#[]⟩⟩ e w' ∧ w.grownBy w' (Value.slice a l.length cap).ownBlock := by
  obtain ⟨kd, key, old, val⟩ := o
  unfold opV
  simp only at hlk ⊢
  have hb0 : Below w.heap.size w ((w.alloc (Obj.cells #[.int .u8 kd, .string key, .string old, .string val] 32)).alloc (Obj.cells #[.int .i64 0, .bool false, .string ⟨#[]⟩] 51)) := ((Below.refl _ _).alloc (Nat.le_refl _) _).alloc (by simp) _
  obtain ⟨a0, c0, hv0, hr, hcap, hmx⟩ := Row.of_owns hown
  injection hv0 with hv1 _ hv2
  subst hv1 hv2
  have hr0 := hr.below0 hb0
  have hh : hasK l key = false := by simp [hasK, hlk]
  have hw : wasR l key = ⟨0, false, ⟨#[]⟩⟩ := by simp [wasR, hlk]
  have h8 : ((l.length : Int) == 8) = false := by rw [beq_eq_false_iff_ne]; omega
  have hlo := lo_le l key
  have hput := put_new (w := val) hso hlk
  have hprs : (prs l).take ((lo l key).length * 2) ++ .string key :: .string val :: (prs l).drop ((lo l key).length * 2) = prs (putL l key val) := by
    rw [← hput]
    have e : prs l = prs (l.take (lo l key).length) ++ prs (l.drop (lo l key).length) := by rw [← prs_app, List.take_append_drop]
    have e2 : (lo l key).length * 2 = (prs (l.take (lo l key).length)).length := by rw [prs_len, List.length_take]; omega
    rw [e2, e, List.take_left, List.drop_left, prs_app]
    rfl
  have hlen : (putL l key val).length = l.length + 1 := by rw [len_put hso, if_pos hlk]
  have HP := Lib.hid hprs
  have HL := Lib.hid hlen
  have HH := Lib.hid hh
  have HO := Lib.hid hown
  clear hh hown hput hprs hlen
  go_enter Try.func75, Try.ntmps75
  refine wp_seq_k (fun K hK => ?_)
  have HK := Lib.hid hK
  clear hK
  go_wp2
  refine HK.out _ _ ?_
  clear HK
  refine wp_seq_k (fun K hK => ?_)
  have HK := Lib.hid hK
  clear hK
  go_wp2_with (go_at_call 93; refine (find_any _ _ _ _ _ hr0 (by omega) hso).mono ?_; rintro e w1 ⟨rfl, hb1⟩; rw [HH.out])
  refine HK.out _ _ ?_
  clear HK
  have hbw1 := hb0.trans (hb1.mono (by simp; omega))
  obtain ⟨d0, d1, d2, d3⟩ := four ((hb1.block w.heap.size (by simp; omega)).trans ((heap_alloc_old _ _ (by simp)).trans (heap_alloc_new _ _)))
  have hr1 := hr.below0 hbw1
  refine wp_seq_k (fun K hK => ?_)
  have HK := Lib.hid hK
  clear hK
  go_wp2_with (go_at_call 92; refine (was_any _ _ _ _ _ hr1 (by omega) hso _ hw).mono ?_; rintro e w2 ⟨rfl, hb2⟩; unfold rpV)
  refine HK.out _ _ ?_
  clear HK
  have hs1 := hb1.size
  simp at hs1
  have hs2 := hb2.size
  have hbw2 := hbw1.trans (hb2.mono (by omega))
  have hb23 : Below w2.heap.size w2 (w2.alloc (Obj.cells #[.int .i64 0, .bool false, .string ⟨#[]⟩] 51)) := (Below.refl _ _).alloc (Nat.le_refl _) _
  have hbw3 := hbw2.trans (hb23.mono (by omega))
  have b3 := (hb23.block w.heap.size (by omega)).trans ((hb2.block w.heap.size (by omega)).trans ((hb1.block w.heap.size (by simp; omega)).trans ((heap_alloc_old _ _ (by simp)).trans (heap_alloc_new w (Obj.cells #[.int .u8 kd, .string key, .string old, .string val] 32)))))
  have b5 := (hb23.block (w.heap.size + 1) (by omega)).trans ((hb2.block (w.heap.size + 1) (by omega)).trans ((hb1.block (w.heap.size + 1) (by simp)).trans (heap_alloc2_new w _ (Obj.cells #[.int .i64 0, .bool false, .string ⟨#[]⟩] 51))))
  have b8 := heap_alloc_new w2 (Obj.cells #[.int .i64 0, .bool false, .string ⟨#[]⟩] 51)
  have hown3 := Lib.hid (owns_after HO.out hbw3)
  have hs3 := hbw3.size
  have hs4 : w2.heap.size < (w2.alloc (Obj.cells #[.int .i64 0, .bool false, .string ⟨#[]⟩] 51)).heap.size := by simp
  clear d0 d1 d2 d3
  generalize w2.alloc (Obj.cells #[.int .i64 0, .bool false, .string ⟨#[]⟩] 51) = w3 at *
  obtain ⟨d0, d1, d2, d3⟩ := four b3
  obtain ⟨p0, p1, p2, q0, q1, q2⟩ := trio b5
  obtain ⟨r0, r1, r2, s0, s1, s2⟩ := trio b8
  have hbw4 : w.grownBy w3 (Value.slice a l.length cap).ownBlock := gb_of_below hbw3 _
  have hne : (Value.slice a l.length cap).ownBlock ≠ some (w.heap.size + 1) := by
    intro e
    have := HO.out.lt _ e
    omega
  go_wp2_with fail
  have hnw8 : (Value.slice a l.length cap).ownBlock ≠ some w2.heap.size := by
    intro e
    have := HO.out.lt _ e
    omega
  have hnw3 : (Value.slice a l.length cap).ownBlock ≠ some w.heap.size := by
    intro e
    have := HO.out.lt _ e
    omega
  have hbs3 : base ≤ w3.heap.size := by omega
  have hlm : l.length ≤ 1000000 := by omega
  have hnv : (Value.slice a l.length cap).ownBlock ≠ some w3.heap.size := fun e => by have := hown3.out.lt _ e; omega
  have hbs5 : base ≤ w3.heap.size + 1 := by omega
  have H8 := Lib.hid h8
  clear h8
  have hn25 : w2.heap.size ≠ w.heap.size + 1 := by omega
  have hn25' : ¬ w.heap.size + 1 = w2.heap.size := by omega
  go_region_held3 (fun w' => w'.cell? ⟨w.heap.size, 0, none⟩ = some (.int .u8 kd) ∧ w'.cell? ⟨w.heap.size, 1, none⟩ = some (.string key) ∧ w'.cell? ⟨w.heap.size, 2, none⟩ = some (.string old) ∧ w'.cell? ⟨w.heap.size, 3, none⟩ = some (.string val) ∧
      w'.cell? ⟨w2.heap.size, 0, none⟩ = some (.int .i64 0) ∧ w'.cell? ⟨w2.heap.size, 1, none⟩ = some (.bool false) ∧ w'.cell? ⟨w2.heap.size, 2, none⟩ = some (.string ⟨#[]⟩))
    (first
      | exact ⟨d0, d1, d2, d3, r0, r1, r2⟩
      | (go_split_ands; refine ⟨?_, ?_, ?_, ?_, ?_, ?_, ?_⟩ <;> first | exact al_keepd (by assumption) | exact al_keep (by assumption) | exact gb_keep hg4 (by assumption) (by assumption))
      | go_keep)
    ((go_at_call 94; refine (insert_own base l.length (lo l key).length (.slice a l.length cap) (prs l) _ ?_ w3.heap.size (.string key) (.string val) 81 ?_ ?_ rfl rfl prs_one hlm hlo ?_).mono ?_; exact (hown3.out.alloc _).drew; exact heap_alloc_new w3 _; exact hnv; (first | exact hbs5 | (simp; exact hbs5)); rintro e w4 ⟨⟨v4, rfl, hown4⟩, hg4⟩; have P0 := gb_keep hg4 (al_keepd p0) hne; have P1 := gb_keep hg4 (al_keepd p1) hne; have P2 := gb_keep hg4 (al_keepd p2) hne; have Q0 := gb_keepf hg4 (al_keepd p0) (al_keepfd p0 q0) hne; have Q1 := gb_keepf hg4 (al_keepd p1) (al_keepfd p1 q1) hne; have Q2 := gb_keepf hg4 (al_keepd p2) (al_keepfd p2 q2) hne))
  go_wp2
  (try simp only [Exit.inBlock, Exit.then])
  refine bodyPost_ret (v := .tuple #[v4, rpV ⟨0, false, ⟨#[]⟩⟩]) ?hr rfl ⟨⟨_, rfl, ?_⟩, ?_⟩
  case hr =>
    simp only [results, Try.results75]
    go_simp
    try rfl
  · have hB : w4.heap[w.heap.size + 1]? = some (Obj.cells #[.int .i64 0, .bool false, .string ⟨#[]⟩] 51 (0, 0)) := (hg4.block (w.heap.size + 1) (by simp; omega) (fun e => hne e.symm)).trans ((heap_alloc_old w3 _ (by omega)).trans b5)
    have hne4 := own_ne hown4 hB (by decide)
    rw [HL.out, ← HP.out]
    repeat (first | exact hown4 | refine World.ownsRow.drew ?_ | refine owns_far ?_ hne4 _)
  · have hbwx : w.grownBy w4 (Value.slice a l.length cap).ownBlock := gb_trans (gb_drew (gb_alloc hbw4 _)) hg4 (fun k e => .inr e)
    (repeat' (first | (with_reducible exact World.grownBy.refl _ _) | (with_reducible assumption) | (with_reducible refine gb_alloc ?_ _) | (with_reducible refine gb_drew ?_) | (with_reducible refine gb_drewN ?_ _) | (with_reducible refine gb_setCell ?_ ?_ _) | (with_reducible refine gb_below ?_ (by assumption)) | exact .inl rfl | exact .inr (by first | (simp; done) | (simp; omega) | omega)))
end Go.Proofs.Ytkkoookmnnmiiaa

namespace Go.Proofs.Ytkkoookmnnmiiaa
open Go.RowKit

theorem prs_del {l : List Pr} {i : Nat} (hi : i < l.length) : (prs l).take (i * 2) ++ (prs l).drop ((i + 1) * 2) = prs (l.take i ++ l.drop (i + 1)) := by
  have e : prs l = prs (l.take i) ++ prs (l.drop i) := by rw [← prs_app, List.take_append_drop]
  have e2 : prs l = prs (l.take (i + 1)) ++ prs (l.drop (i + 1)) := by rw [← prs_app, List.take_append_drop]
  have l1 : i * 2 = (prs (l.take i)).length := by rw [prs_len, List.length_take]; omega
  have l2 : (i + 1) * 2 = (prs (l.take (i + 1))).length := by rw [prs_len, List.length_take]; omega
  have f1 : (prs l).take (i * 2) = prs (l.take i) := by rw [l1, e, List.take_left]
  have f2 : (prs l).drop ((i + 1) * 2) = prs (l.drop (i + 1)) := by rw [l2, e2, List.drop_left]
  rw [f1, f2, prs_app]

set_option maxRecDepth 100000 in
set_option maxHeartbeats 4000000 in
theorem delete_none_any (base : Nat) (a : Option Addr) (cap : Nat) (l : List Pr) (o : Opn) (w : World) (hown : w.ownsRow base 81 2 (.slice a l.length cap) l.length (prs l)) (hl : l.length ≤ 1000) (hso : Rises l) (hlk : look l o.key = none) :
    Calls Try.prog 76 #[.slice a l.length cap, opV o] w fun e w' => StRes base l ⟨0, false, ⟨#[]⟩⟩ e w' ∧ w.grownBy w' (Value.slice a l.length cap).ownBlock := by
  obtain ⟨kd, key, old, val⟩ := o
  unfold opV
  simp only at hlk ⊢
  have hb0 : Below w.heap.size w ((w.alloc (Obj.cells #[.int .u8 kd, .string key, .string old, .string val] 32)).alloc (Obj.cells #[.int .i64 0, .bool false, .string ⟨#[]⟩] 51)) := ((Below.refl _ _).alloc (Nat.le_refl _) _).alloc (by simp) _
  obtain ⟨a0, c0, hv0, hr, hcap, hmx⟩ := Row.of_owns hown
  injection hv0 with hv1 _ hv2
  subst hv1 hv2
  have hr0 := hr.below0 hb0
  have hh : hasK l key = false := by simp [hasK, hlk]
  have hw : wasR l key = ⟨0, false, ⟨#[]⟩⟩ := by simp [wasR, hlk]
  have HH := Lib.hid hh
  have HO := Lib.hid hown
  clear hh hown
  go_enter Try.func76, Try.ntmps76
  refine wp_seq_k (fun K hK => ?_)
  have HK := Lib.hid hK
  clear hK
  go_wp2
  refine HK.out _ _ ?_
  clear HK
  refine wp_seq_k (fun K hK => ?_)
  have HK := Lib.hid hK
  clear hK
  go_wp2_with (go_at_call 92; refine (was_any _ _ _ _ _ hr0 (by omega) hso _ hw).mono ?_; rintro e w1 ⟨rfl, hb1⟩; unfold rpV)
  refine HK.out _ _ ?_
  clear HK
  have hbw1 := hb0.trans (hb1.mono (by simp; omega))
  have hb12 : Below w1.heap.size w1 (w1.alloc (Obj.cells #[.int .i64 0, .bool false, .string ⟨#[]⟩] 51)) := (Below.refl _ _).alloc (Nat.le_refl _) _
  have hs1 := hb1.size
  simp at hs1
  have hbw2 := hbw1.trans (hb12.mono (by omega))
  have b3 := (hb12.block w.heap.size (by omega)).trans ((hb1.block w.heap.size (by simp; omega)).trans ((heap_alloc_old _ _ (by simp)).trans (heap_alloc_new w (Obj.cells #[.int .u8 kd, .string key, .string old, .string val] 32))))
  have b5 := (hb12.block (w.heap.size + 1) (by omega)).trans ((hb1.block (w.heap.size + 1) (by simp)).trans (heap_alloc2_new w _ (Obj.cells #[.int .i64 0, .bool false, .string ⟨#[]⟩] 51)))
  have b6 := heap_alloc_new w1 (Obj.cells #[.int .i64 0, .bool false, .string ⟨#[]⟩] 51)
  have hs2 : w1.heap.size < (w1.alloc (Obj.cells #[.int .i64 0, .bool false, .string ⟨#[]⟩] 51)).heap.size := by simp
  generalize w1.alloc (Obj.cells #[.int .i64 0, .bool false, .string ⟨#[]⟩] 51) = w2 at *
  obtain ⟨d0, d1, d2, d3⟩ := four b3
  have hr2 := hr.below0 hbw2
  refine wp_seq_k (fun K hK => ?_)
  go_cut [0] (fun s wx => s = .slice a l.length cap ∧ Below w2.heap.size w2 wx)
  case first =>
    go_wp2_with (go_at_call 93; refine (find_any _ _ _ _ _ hr2 (by omega) hso).mono ?_; rintro e w3 ⟨rfl, hb3⟩; rw [HH.out])
    go_meet
    exact ⟨rfl, hb3⟩
  obtain ⟨rfl, hb3⟩ := hcut
  refine hK _ _ ?_; clear hK
  have b5' := (hb3.block (w.heap.size + 1) (by omega)).trans b5
  have b6' := (hb3.block w1.heap.size (by omega)).trans b6
  have hbw3 := hbw2.trans (hb3.mono (by omega))
  have hown3 := Lib.hid (owns_after HO.out hbw3)
  have hbw4 : w.grownBy wc (Value.slice a l.length cap).ownBlock := gb_of_below hbw3 _
  have hne : (Value.slice a l.length cap).ownBlock ≠ some (w.heap.size + 1) := by
    intro e
    have := HO.out.lt _ e
    omega
  obtain ⟨p0, p1, p2, q0, q1, q2⟩ := trio b5'
  obtain ⟨r0, r1, r2, s0, s1, s2⟩ := trio b6'
  go_wp2_with fail
  go_region
  go_wp2
  (try simp only [Exit.inBlock, Exit.then])
  refine bodyPost_ret (v := .tuple #[.slice a l.length cap, rpV ⟨0, false, ⟨#[]⟩⟩]) ?hr rfl ⟨⟨_, rfl, ?_⟩, ?_⟩
  case hr =>
    simp only [results, Try.results76]
    go_simp
    try rfl
  · repeat (first | exact hown3.out | refine World.ownsRow.drew ?_ | refine owns_far ?_ hne _)
  · (repeat' (first | (with_reducible exact World.grownBy.refl _ _) | (with_reducible assumption) | (with_reducible refine gb_alloc ?_ _) | (with_reducible refine gb_drew ?_) | (with_reducible refine gb_drewN ?_ _) | (with_reducible refine gb_setCell ?_ ?_ _) | (with_reducible refine gb_below ?_ (by assumption)) | exact .inl rfl | exact .inr (by first | (simp; done) | (simp; omega) | omega)))
set_option maxRecDepth 100000 in
set_option maxHeartbeats 4000000 in
theorem delete_there_any (base : Nat) (a : Option Addr) (cap : Nat) (l : List Pr) (o : Opn) (w : World) (hown : w.ownsRow base 81 2 (.slice a l.length cap) l.length (prs l)) (hbase : base ≤ w.heap.size) (hl : l.length ≤ 1000) (hso : Rises l) (u : Tx) (hlk : look l o.key = some u) :
    Calls Try.prog 76 #[.slice a l.length cap, opV o] w fun e w' => StRes base (delL l o.key) ⟨0, true, u⟩ e w' ∧ w.grownBy w' (Value.slice a l.length cap).ownBlock := by
  obtain ⟨kd, key, old, val⟩ := o
  unfold opV
  simp only at hlk ⊢
  have hb0 : Below w.heap.size w ((w.alloc (Obj.cells #[.int .u8 kd, .string key, .string old, .string val] 32)).alloc (Obj.cells #[.int .i64 0, .bool false, .string ⟨#[]⟩] 51)) := ((Below.refl _ _).alloc (Nat.le_refl _) _).alloc (by simp) _
  obtain ⟨a0, c0, hv0, hr, hcap, hmx⟩ := Row.of_owns hown
  injection hv0 with hv1 _ hv2
  subst hv1 hv2
  have hr0 := hr.below0 hb0
  have hh : hasK l key = true := by simp [hasK, hlk]
  have hw : wasR l key = ⟨0, true, u⟩ := by simp [wasR, hlk]
  have HH := Lib.hid hh
  have HO := Lib.hid hown
  clear hh hown
  go_enter Try.func76, Try.ntmps76
  refine wp_seq_k (fun K hK => ?_)
  have HK := Lib.hid hK
  clear hK
  go_wp2
  refine HK.out _ _ ?_
  clear HK
  refine wp_seq_k (fun K hK => ?_)
  have HK := Lib.hid hK
  clear hK
  go_wp2_with (go_at_call 92; refine (was_any _ _ _ _ _ hr0 (by omega) hso _ hw).mono ?_; rintro e w1 ⟨rfl, hb1⟩; unfold rpV)
  refine HK.out _ _ ?_
  clear HK
  have hbw1 := hb0.trans (hb1.mono (by simp; omega))
  have hb12 : Below w1.heap.size w1 (w1.alloc (Obj.cells #[.int .i64 0, .bool true, .string u] 51)) := (Below.refl _ _).alloc (Nat.le_refl _) _
  have hs1 := hb1.size
  simp at hs1
  have hbw2 := hbw1.trans (hb12.mono (by omega))
  have b3 := (hb12.block w.heap.size (by omega)).trans ((hb1.block w.heap.size (by simp; omega)).trans ((heap_alloc_old _ _ (by simp)).trans (heap_alloc_new w (Obj.cells #[.int .u8 kd, .string key, .string old, .string val] 32))))
  have b5 := (hb12.block (w.heap.size + 1) (by omega)).trans ((hb1.block (w.heap.size + 1) (by simp)).trans (heap_alloc2_new w _ (Obj.cells #[.int .i64 0, .bool false, .string ⟨#[]⟩] 51)))
  have b6 := heap_alloc_new w1 (Obj.cells #[.int .i64 0, .bool true, .string u] 51)
  have hs2 : w1.heap.size < (w1.alloc (Obj.cells #[.int .i64 0, .bool true, .string u] 51)).heap.size := by simp
  generalize w1.alloc (Obj.cells #[.int .i64 0, .bool true, .string u] 51) = w2 at *
  obtain ⟨d0, d1, d2, d3⟩ := four b3
  have hr2 := hr.below0 hbw2
  have hlo := (List.getElem?_eq_some_iff.1 (at_yes hso hlk)).1
  have hdel := del_there hso hlk
  have hprs := prs_del hlo
  rw [hdel] at hprs
  have hlen : (delL l key).length = l.length - 1 := by
    rw [← hdel, List.length_append, List.length_take, List.length_drop]
    omega
  have HP := Lib.hid hprs
  have HL := Lib.hid hlen
  have hlm : l.length ≤ 1000000 := by omega
  clear hdel hprs hlen hlk hw
  refine wp_seq_k (fun K hK => ?_)
  go_cut [0] (fun s wx => ∃ wy, Below w2.heap.size w2 wy ∧ wx.ownsRow base 81 2 s (l.length - 1) (prs (delL l key)) ∧ wy.grownBy wx (Value.slice a l.length cap).ownBlock)
  case first =>
    go_wp2_with (first
      | (go_at_call 93; refine (find_any _ _ _ _ _ hr2 (by omega) hso).mono ?_; rintro e w3 ⟨rfl, hb3⟩; rw [HH.out])
      | (go_at_call 95; refine (delete_own base l.length (lo l key).length (.slice a l.length cap) (prs l) _ (owns_after HO.out (hbw2.trans (hb3.mono (by omega)))) prs_one hlm hlo ?_).mono ?_; exact Nat.le_trans hbase (Nat.le_trans (hbw2.trans (hb3.mono (by omega))).size (Nat.le_refl _)); rintro e w4 ⟨⟨v4, rfl, hown4⟩, hg4⟩))
    go_meet
    rw [HP.out] at hown4
    exact ⟨w3, hb3, hown4, hg4⟩
  obtain ⟨wy, hb3, hown4, hg4⟩ := hcut
  refine hK _ _ ?_; clear hK
  have hne : (Value.slice a l.length cap).ownBlock ≠ some (w.heap.size + 1) := by
    intro e
    have := HO.out.lt _ e
    omega
  have hne6 : (Value.slice a l.length cap).ownBlock ≠ some w1.heap.size := by
    intro e
    have := HO.out.lt _ e
    omega
  have hs3 := hb3.size
  have b5' := (hg4.block (w.heap.size + 1) (by omega) (fun e => hne e.symm)).trans ((hb3.block (w.heap.size + 1) (by omega)).trans b5)
  have b6' := (hg4.block w1.heap.size (by omega) (fun e => hne6 e.symm)).trans ((hb3.block w1.heap.size (by omega)).trans b6)
  have hbw3 := hbw2.trans (hb3.mono (by omega))
  have hbw4 : w.grownBy wc (Value.slice a l.length cap).ownBlock := gb_trans (gb_of_below hbw3 _) hg4 (fun k e => .inr e)
  have hne4 := own_ne hown4 b5' (by decide)
  have HO4 := Lib.hid hown4
  clear hown4
  obtain ⟨p0, p1, p2, q0, q1, q2⟩ := trio b5'
  obtain ⟨r0, r1, r2, s0, s1, s2⟩ := trio b6'
  go_wp2_with fail
  go_region
  go_wp2
  (try simp only [Exit.inBlock, Exit.then])
  refine bodyPost_ret (v := .tuple #[u0, rpV ⟨0, true, u⟩]) ?hr rfl ⟨⟨_, rfl, ?_⟩, ?_⟩
  case hr =>
    simp only [results, Try.results76]
    go_simp
    try rfl
  · rw [HL.out]
    repeat (first | exact HO4.out | refine World.ownsRow.drew ?_ | refine owns_far ?_ hne4 _)
  · (repeat' (first | (with_reducible exact World.grownBy.refl _ _) | (with_reducible assumption) | (with_reducible refine gb_alloc ?_ _) | (with_reducible refine gb_drew ?_) | (with_reducible refine gb_drewN ?_ _) | (with_reducible refine gb_setCell ?_ ?_ _) | (with_reducible refine gb_below ?_ (by assumption)) | exact .inl rfl | exact .inr (by first | (simp; done) | (simp; omega) | omega)))
end Go.Proofs.Ytkkoookmnnmiiaa

