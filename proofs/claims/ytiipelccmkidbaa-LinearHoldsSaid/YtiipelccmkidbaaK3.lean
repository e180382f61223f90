/- slices.Insert of one pair. -/
import Derived.Test.YtiipelccmkidbaaK2
import Derived.Test.YtiipelccmkidbaaRows
import Derived.WalkKit
import Derived.WalkSpells
import Derived.WalkLawsBesides
import Derived.Handy
import Derived.Deep.QuietTactic
import Derived.BigQuiet
import Derived.Deep.DeepCutAuto
import Derived.Lib.Hide
import Derived.RegionTactic
import Derived.ChangeAlike
import Derived.Lib.Overlaps
import Derived.StillTailTactics
namespace Go.Proofs.Ytiipelccmkidbaa
open Go.RowKit

theorem sizePair : (Try.prog.info? 46).map (·.size) = some 2 := by kernel_rfl
theorem elPair' : ElemT Try.prog 34 46 2 32 := ElemT.of (.agg #[.string ⟨#[]⟩, .string ⟨#[]⟩]) Try.underlying34 (by kernel_rfl) rfl (by decide)
theorem gb_drew {a w : World} {r : Option Nat} (h : a.grownBy w r) : a.grownBy w.drew r := ⟨h.os, h.tape, h.output, h.size, h.block⟩
theorem gb_drewN {a w : World} {r : Option Nat} (h : a.grownBy w r) (n : Nat) : a.grownBy (w.drewN n) r := ⟨h.os, h.tape, h.output, h.size, h.block⟩
theorem gb_trans {a w w' : World} {r r' : Option Nat} (h : a.grownBy w r) (h' : w.grownBy w' r') (hr : ∀ k, r' = some k → a.heap.size ≤ k ∨ r = some k) : a.grownBy w' r :=
  ⟨h'.os.trans h.os, h'.tape.trans h.tape, h'.output.trans h.output, Nat.le_trans h.size h'.size, fun i hi hne => (h'.block i (Nat.lt_of_lt_of_le hi h.size) (fun e => by
    rcases hr i e.symm with h1 | h1
    · omega
    · exact hne h1.symm)).trans (h.block i hi hne)⟩
theorem gb_of_below {a w : World} (h : Below a.heap.size a w) (r : Option Nat) : a.grownBy w r := ⟨h.os, h.tape, h.output, h.size, fun i hi _ => h.block i hi⟩
theorem gb_below {a w w' : World} {r : Option Nat} (h : a.grownBy w r) (h' : Below w.heap.size w w') : a.grownBy w' r := gb_trans h (gb_of_below h' none) (fun _ e => by cases e)
theorem gb_setCell {a w : World} {r : Option Nat} (h : a.grownBy w r) {p : Addr} (hp : r = some p.block ∨ a.heap.size ≤ p.block) (u : Value) : a.grownBy (w.setCell p u) r :=
  gb_trans (r' := some p.block) h ⟨rfl, rfl, rfl, by simp, fun k _ hk => heap_setCell_other w p k u (fun e => hk (by simp [e]))⟩ (fun k e => by cases e; exact hp.symm)
theorem gb_alloc {a w : World} {r : Option Nat} (h : a.grownBy w r) (o : Obj) : a.grownBy (w.alloc o) r := gb_trans h (World.grownBy_alloc w o none) (fun _ e => by cases e)
theorem gb_to_below {w w' : World} {r : Option Nat} (h : w.grownBy w' r) {B : Nat} (hB : B ≤ w.heap.size) (hr : ∀ k, r = some k → B ≤ k) : Below B w w' := (Below.refl _ _).grown h hB hr

theorem run_append_mixed {P : Program} {w : World} {t t' ty e e' : TypeId} (ht : P.underlying t = some (.slice e)) (ht' : P.underlying t' = some (.slice e')) (b b' : Option Addr) (n n' c c' : Nat) :
    (Builtin.append_ #[t, t'] ty #[.slice b n c, .slice b' n' c']).run P w = (Builtin.append_ #[t, t] ty #[.slice b n c, .slice b' n' c']).run P w := by
  simp [Builtin.append_, run_underlying ht, run_underlying ht']
theorem exec_append_mixed {P : Program} {w : World} {o : Oper} {a : Act} {s x : Operand} {t t' e e' : TypeId} (ht : P.underlying t = some (.slice e)) (ht' : P.underlying t' = some (.slice e'))
    (ho : o.op = .call { callee := .builtin .append, args := #[s, x], argTypes := #[t, t'] }) {b b' : Option Addr} {n n' c c' : Nat} (hs : a.eval s = .slice b n c) (hx : a.eval x = .slice b' n' c') :
    (execOp a.eval o).run P w = (execOp a.eval { o with op := .call { callee := .builtin .append, args := #[s, x], argTypes := #[t, t] } }).run P w := by
  simp [execOp, ho, resolve, invoke, builtin, hs, hx, run_append_mixed ht ht']
theorem wpList_appendN' {P : Program} {w : World} {ops : Array Oper} {rest : List Oper} {o : Oper} {a : Act} {Q : Exit → Act → World → Prop} (hgd : o.guard = none) (s x : Operand) (t t' e e' : TypeId) {size bytes : Nat} (hT : ElemT P t e size bytes) (ht' : P.underlying t' = some (.slice e'))
    (ho : o.op = .call { callee := .builtin .append, args := #[s, x], argTypes := #[t, t'] })
    (base : Nat) (v : Value) (n : Nat) (xs : List Value) (hs : a.eval s = v) (hown : w.ownsRow base e size v n xs)
    (ad : Addr) (m c : Nat) (news : List Value) (hx : a.eval x = .slice (some ad) m c) (hl : news.length = m * size) (hnews : ∀ j u, news[j]? = some u → w.cell? (ad.add j) = some u) (h1 : ∀ u ∈ news, u.oneCell' = true)
    (hn : n + m ≤ 4294967296) (hby : bytes ≤ 4096) (hbase : base ≤ w.heap.size)
    (h : ∀ v' w', w'.ownsRow base e size v' (n + m) (xs ++ news) → w.grownBy w' v.ownBlock → wpList P ops Q rest (a.put o.dst v') w') : wpList P ops Q (o :: rest) a w := by
  obtain ⟨i, z, ht, hi, hz, hsize, hbytes, hzs, hsz⟩ := hT.ex
  obtain ⟨b0, c0, hv0, _⟩ := Row.of_owns hown
  have hb1 : (n + m) * bytes ≤ 4294967296 * 4096 := Nat.mul_le_mul hn hby
  obtain ⟨v', w', hr, h2, h3, _⟩ := run_append_own (P := P) (w := w) base t o.type e i z size bytes ht hi hz hsize hbytes hzs hsz v n xs hown ad m c news hl hnews h1 (by unfold maxLen; omega) (by omega) hbase
  have he : (execOp a.eval { o with op := .call { callee := .builtin .append, args := #[s, x], argTypes := #[t, t] } }).run P w = .ok (.value v') w' := exec_append (o := { o with op := .call { callee := .builtin .append, args := #[s, x], argTypes := #[t, t] } }) s x t t rfl _ _ hs hx hr
  exact wpList_run hgd ((exec_append_mixed ht ht' ho (hs.trans hv0) hx).trans he) (h v' w' h2 h3)

def OwnRes2 (base : Nat) (n : Nat) (xs : List Value) (e : Ending) (w' : World) : Prop := ∃ v, e = .returned v ∧ w'.ownsRow base 46 2 v n xs

set_option maxRecDepth 100000 in
set_option maxHeartbeats 1000000 in
theorem insert_end (base n : Nat) (v : Value) (xs : List Value) (w : World) (hown : w.ownsRow base 46 2 v n xs) (vb : Nat) (x y : Value) (e' : TypeId) (hx : w.heap[vb]? = some (.cells #[x, y] e' (0, 0)))
    (h1 : x.oneCell' = true) (h2 : y.oneCell' = true) (hn : n ≤ 1000000) (hbase : base ≤ w.heap.size) :
    Calls Try.prog 32 #[v, .int .i64 n, .slice (some ⟨vb, 0, none⟩) 1 1] w fun e w' => OwnRes2 base (n + 1) (xs ++ [x, y]) e w' ∧ w.grownBy w' v.ownBlock := by
  have hnw : ∀ j u, [x, y][j]? = some u → w.cell? ((⟨vb, 0, none⟩ : Addr).add j) = some u := by
    intro j u hj
    rw [addr_add, Nat.zero_add]
    simpa [World.cell?, hx] using hj
  have HN := Lib.hid hnw
  clear hnw hx
  have hown' := hown
  have HO := Lib.hid hown
  obtain ⟨hl, ⟨rfl, rfl⟩ | ⟨g, cap, cur, rfl, hg, hgc, hnc, hm, hs, ht⟩⟩ := hown
  · clear hl
    go_enter Try.func32, Try.ntmps32
    go_wp2_with (at_builtin; refine wpList_appendN' rfl _ _ 35 34 46 46 elPair Try.underlying34 rfl base _ _ _ rfl hown' ⟨vb, 0, none⟩ 1 1 [x, y] rfl rfl HN.out (by simp [h1, h2]) (by omega) (by omega) hbase ?_)
    intro v' w' ho hb
    go_wp2
    go_ret
    exact ⟨⟨_, rfl, ho⟩, hb⟩
  · unfold maxLen at hm
    clear hgc hs ht hl
    by_cases hcn : cap = n
    · subst hcn
      go_enter Try.func32, Try.ntmps32
      go_wp2_with (at_builtin; refine wpList_appendN' rfl _ _ 35 34 46 46 elPair Try.underlying34 rfl base _ _ _ rfl hown' ⟨vb, 0, none⟩ 1 1 [x, y] rfl rfl HN.out (by simp [h1, h2]) (by omega) (by omega) hbase ?_)
      intro v' w' ho hb
      go_wp2
      go_ret
      exact ⟨⟨_, rfl, ho⟩, hb⟩
    · go_enter Try.func32, Try.ntmps32
      go_wp2_with (at_builtin; refine wpList_appendN' rfl _ _ 35 34 46 46 elPair Try.underlying34 rfl base _ _ _ rfl hown' ⟨vb, 0, none⟩ 1 1 [x, y] rfl rfl HN.out (by simp [h1, h2]) (by omega) (by omega) hbase ?_)
      intro v' w' ho hb
      go_wp2
      go_ret
      exact ⟨⟨_, rfl, ho⟩, hb⟩

set_option maxRecDepth 100000 in
set_option maxHeartbeats 1000000 in
theorem insert_grow (base n i cap g : Nat) (xs : List Value) (w : World) (hl : xs.length = n * 2) (hcur : w.heap[g]? = some (.cells xs.toArray 46 (0, 0))) (_ : base ≤ g) (vb : Nat) (x y : Value) (e' : TypeId) (hx : w.heap[vb]? = some (.cells #[x, y] e' (0, 0)))
    (h1 : x.oneCell' = true) (h1' : y.oneCell' = true) (h2 : ∀ u ∈ xs, u.oneCell' = true) (hn : n ≤ 1000000) (hi : i < n) (hcap : cap = n) (hbase : base ≤ w.heap.size) :
    Calls Try.prog 32 #[.slice (some ⟨g, 0, none⟩) n cap, .int .i64 i, .slice (some ⟨vb, 0, none⟩) 1 1] w fun e w' => OwnRes2 base (n + 1) (xs.take (i * 2) ++ x :: y :: xs.drop (i * 2)) e w' ∧ w.grownBy w' (some g) := by
  have hgs : g < w.heap.size := by
    have := (Array.getElem?_eq_some_iff.1 hcur).1
    exact this
  have hvs : vb < w.heap.size := (Array.getElem?_eq_some_iff.1 hx).1
  have hold : ∀ j u, (xs.take (i * 2))[j]? = some u → w.cell? ((⟨g, 0, none⟩ : Addr).add j) = some u := by
    intro j u hj
    rw [addr_add, Nat.zero_add]
    have : j < i * 2 := by
      have := (List.getElem?_eq_some_iff.1 hj).1
      rw [List.length_take] at this
      omega
    rw [List.getElem?_take_of_lt this] at hj
    simpa [World.cell?, hcur] using hj
  have HC := Lib.hid hcur
  have HX := Lib.hid hx
  have HO := Lib.hid hold
  clear hcur hx hold
  subst hcap
  go_enter Try.func32, Try.ntmps32
  go_wp2_with (at_builtin; refine wpList_append_zeros rfl _ _ 35 3 46 elPair .i64 Try.underlying3 rfl ⟨g, 0, none⟩ i cap (xs.take (i * 2)) (by simp; omega) HO.out (cap + 1 - i) (by omega) (by omega) (by omega) (by omega) rfl ?_ ?_)
  · exact int_eq (by omega)
  intro w1 C zs hC1 hC2 hlen HC1 hg1
  have hx1 := grown_same hg1 HX.out (by simp)
  have hc1 := grown_same hg1 HC.out (by simp)
  have hb1 : w.grownBy w1 (some g) := gb_trans (World.grownBy.refl _ _) hg1 (fun _ e => by cases e)
  have hsz1 := hg1.size
  have hnw : ∀ j u, [x, y][j]? = some u → w1.cell? ((⟨vb, 0, none⟩ : Addr).add j) = some u := cells_row (A := []) (C := []) (by simpa using hx1) rfl
  have HNW := Lib.hid hnw
  have HCX := Lib.hid hc1
  clear hnw hx1 hc1
  unfold maxLen at hC2
  generalize hG : w.heap.size = G at *
  have HG := Lib.hid hG
  clear hG
  have hil : (xs.take (i * 2)).length = i * 2 := by rw [List.length_take]; omega
  have hlz : zs.length = C * 2 - i * 2 := by omega
  go_wp2_with (first | (at_builtin; fail) | (refine wpList_copyK rfl _ _ 35 34 46 2 Try.underlying35 sizePair rfl G (i * 2) (cap + 1 - i) (C - i) ⟨vb, 0, none⟩ 1 1 rfl rfl (xs.take (i * 2) ++ zs) 46 [x, y] HC1.out ?_ HNW.out ?_ (by simp [h1, h1']) ?_))
  · show 2 = min 1 (cap + 1 - i) * 2
    omega
  · simp only [List.length_append, List.length_cons, List.length_nil, hil, hlz]; omega
  intro w2 HC2 hg2
  have hcx := grown_same hg2 HCX.out (by simp; omega)
  have hb2 := gb_trans hb1 hg2 (fun k hk => by cases hk; exact .inl (Nat.le_of_eq HG.out))
  rw [splice_at hil.symm] at HC2
  have hdr : ∀ j u, (xs.drop (i * 2))[j]? = some u → w2.cell? ((⟨g, i * 2, none⟩ : Addr).add j) = some u := cells_row (A := xs.take (i * 2)) (C := []) (by simpa using hcx) hil.symm
  have HDR := Lib.hid hdr
  have hdl : (xs.drop (i * 2)).length = cap * 2 - i * 2 := by rw [List.length_drop, hl]
  have hd1 : ∀ u ∈ xs.drop (i * 2), u.oneCell' = true := fun u hu => h2 u (List.mem_of_mem_drop hu)
  have HD1 := Lib.hid hd1
  have H1 := Lib.hid h1
  have H1' := Lib.hid h1'
  have H2 := Lib.hid h2
  have HDL := Lib.hid hdl
  have HIL := Lib.hid hil
  have HLZ := Lib.hid hlz
  clear hdr hcx hd1 hdl h1 h1' h2 hil hlz
  go_wp2_with fail
  have hw5 : (i : Int) + 1 ≤ (i : Int) + ((cap + 1 - i : Nat) : Int) := by omega
  have hw4 : ¬ C = i + 1 := by omega
  have hw6 : i ≤ cap := by omega
  have hw7 : ¬ cap = i := by omega
  have hw2 : 0 ≤ (i : Int) + 1 := by omega
  have hw3 : ((i : Int) + 1).toNat = i + 1 := by omega
  have hw1 : IntKind.i64.wrap ((i : Int) + 1) = (i : Int) + 1 := IntWalk.i64_in _ (by omega)
  have HC2d : Hid (w2.drew.heap[G]? = some (.cells (xs.take (i * 2) ++ [x, y] ++ zs.drop [x, y].length).toArray 46 (0, 0))) := HC2
  have HDRd : Hid (∀ j u, (xs.drop (i * 2))[j]? = some u → w2.drew.cell? ((⟨g, i * 2, none⟩ : Addr).add j) = some u) := HDR
  have HS1 : Hid ((xs.drop (i * 2)).length = Nat.min (cap - i) (i + (cap + 1 - i) - (i + 1)) * 2) := Lib.hid (by rw [HDL.out]; show cap * 2 - i * 2 = min (cap - i) _ * 2; omega)
  have HS2 : Hid ((i + 1) * 2 + (xs.drop (i * 2)).length ≤ (xs.take (i * 2) ++ [x, y] ++ zs.drop [x, y].length).length) := Lib.hid (by rw [HDL.out]; simp only [List.length_append, List.length_cons, List.length_nil, List.length_drop, HIL.out, HLZ.out]; omega)
  go_still_tail 8, (by kernel_rfl)
  refine wpList_copyK rfl _ _ 35 35 46 2 Try.underlying35 sizePair rfl G ((i + 1) * 2) (i + (cap + 1 - i) - (i + 1)) (C - (i + 1)) ⟨g, i * 2, none⟩ (cap - i) (cap - i) rfl rfl (xs.take (i * 2) ++ [x, y] ++ zs.drop [x, y].length) 46 (xs.drop (i * 2)) HC2d.out HS1.out HDRd.out HS2.out HD1.out ?_
  intro w3 HC3 hg3
  clear hw1 hw2 hw3 hw5 hw6 hw7
  go_wp2
  go_ret
  have hC3 := HC3.out
  rw [splice_at (by simp [HIL.out]; omega)] at hC3
  have hsz2 := hg2.size
  have hb3 := gb_trans (gb_drew hb2) hg3 (fun k hk => by cases hk; exact .inl (Nat.le_of_eq HG.out))
  refine ⟨⟨_, rfl, ?_⟩, hb3⟩
  rw [show i + (cap + 1 - i) = cap + 1 by omega]
  refine owns_of_cur hC3 hbase (by omega) (by unfold maxLen; omega) ?_ ?_
  · simp only [List.length_append, List.length_drop, List.length_cons, List.length_nil, HIL.out, HDL.out, HLZ.out]; omega
  · rw [take_len (by simp only [List.length_append, List.length_cons, List.length_nil, HIL.out, HDL.out]; omega)]
    simp

theorem overlaps_no (w : World) (vb g o lb cb m vc : Nat) (hne : vb ≠ g) (cx cy : Array Value) (tx ty : TypeId) (hx : w.heap[vb]? = some (.cells cx tx (0, 0))) (hy : w.heap[g]? = some (.cells cy ty (0, 0))) (hc : cy.size ≠ 0) :
    (callFunc 37 #[.slice (some ⟨vb, 0, none⟩) m vc, .slice (some ⟨g, o, none⟩) lb cb]).run Try.prog w = .ok (.value (.bool false)) w := by
  rw [run_callFunc_extern Try.func37 (by kernel_rfl) (by kernel_rfl) (by kernel_rfl) (e := Extern.SlicesOverlaps.overlaps #[34, 34] #[4]) (by kernel_rfl),
    Lib.run_overlaps_apart w 34 4 46 Try.underlying34 2 (fun w => by kernel_rfl) ⟨vb, 0, none⟩ ⟨g, o, none⟩ m vc lb cb hne tx ty cx.size cy.size (by simp [World.shape?, hx]) (by simp [World.shape?, hy]) hc (by simp [World.frozen?, hx]) (by simp [World.frozen?, hx])]
  rfl

set_option maxRecDepth 100000 in
set_option maxHeartbeats 1000000 in
theorem insert_shift (base n i cap g : Nat) (A D Z : List Value) (w : World) (hA : A.length = i * 2) (hD : D.length = n * 2 - i * 2) (hZ : Z.length = cap * 2 - n * 2) (hcur : w.heap[g]? = some (.cells (A ++ D ++ Z).toArray 46 (0, 0))) (hbg : base ≤ g) (vb : Nat) (x y : Value) (e' : TypeId) (hx : w.heap[vb]? = some (.cells #[x, y] e' (0, 0)))
    (hne : vb ≠ g) (h1 : x.oneCell' = true) (h1' : y.oneCell' = true) (h2 : ∀ u ∈ D, u.oneCell' = true) (hn : n ≤ 1000000) (hi : i < n) (hcap : n + 1 ≤ cap) (hm : cap ≤ maxLen) (_ : base ≤ w.heap.size) :
    Calls Try.prog 32 #[.slice (some ⟨g, 0, none⟩) n cap, .int .i64 i, .slice (some ⟨vb, 0, none⟩) 1 1] w fun e w' => OwnRes2 base (n + 1) (A ++ x :: y :: D) e w' ∧ w.grownBy w' (some g) := by
  have hgs : g < w.heap.size := (Array.getElem?_eq_some_iff.1 hcur).1
  have hdr : ∀ j u, D[j]? = some u → w.drew.cell? ((⟨g, i * 2, none⟩ : Addr).add j) = some u := cells_row (w := w.drew) (A := A) (C := Z) hcur hA.symm
  have hov : ∀ lb cb, (callFunc 37 #[.slice (some ⟨vb, 0, none⟩) 1 1, .slice (some ⟨g, (i + 1) * 2, none⟩) lb cb]).run Try.prog w = .ok (.value (.bool false)) w := fun lb cb => overlaps_no w vb g ((i + 1) * 2) lb cb 1 1 hne _ _ _ _ hx hcur (by simp [hA, hD, hZ]; omega)
  have HC := Lib.hid hcur
  have HX := Lib.hid hx
  have HDR := Lib.hid hdr
  have HA := Lib.hid hA
  have HD := Lib.hid hD
  have HZ := Lib.hid hZ
  have H1 := Lib.hid h1
  have H1' := Lib.hid h1'
  have H2 := Lib.hid h2
  clear hcur hx hdr hA hD hZ h1 h1' h2
  unfold maxLen at hm
  have hw5 : (i : Int) + 1 ≤ (n : Int) + 1 := by omega
  have hw4 : ¬ cap = i + 1 := by omega
  have hw6 : i ≤ n + 1 := by omega
  have hw8 : i ≤ n := by omega
  have hw9 : (i : Int) ≤ (n : Int) + 1 := by omega
  have hw7 : ¬ cap = i := by omega
  have hw2 : 0 ≤ (i : Int) + 1 := by omega
  have hw3 : ((i : Int) + 1).toNat = i + 1 := by omega
  have hw1 : IntKind.i64.wrap ((i : Int) + 1) = (i : Int) + 1 := IntWalk.i64_in _ (by omega)
  go_enter Try.func32, Try.ntmps32
  go_wp2_with fail
  have HS1 : Hid (D.length = Nat.min (n + 1 - i) (n - i) * 2) := Lib.hid (by rw [HD.out]; show n * 2 - i * 2 = min _ _ * 2; omega)
  have HS2 : Hid ((i + 1) * 2 + D.length ≤ (A ++ D ++ Z).length) := Lib.hid (by simp only [List.length_append, HA.out, HD.out, HZ.out]; omega)
  go_still_tail 8, (by kernel_rfl)
  refine wpList_copyK rfl _ _ 35 35 46 2 Try.underlying35 sizePair rfl g ((i + 1) * 2) (n - i) (cap - (i + 1)) ⟨g, i * 2, none⟩ (n + 1 - i) (cap - i) rfl rfl (A ++ D ++ Z) 46 D HC.out HS1.out HDR.out HS2.out H2.out ?_
  intro w1 HC1 hg1
  have hbA : w.grownBy w1 (some g) := gb_trans (gb_drew (World.grownBy.refl _ _)) hg1 (fun k hk => .inr hk)
  have hx1 := grown_same hg1 (show w.drew.heap[vb]? = _ from HX.out) (by simp; exact hne)
  have hnw : ∀ j u, [x, y][j]? = some u → w1.cell? ((⟨vb, 0, none⟩ : Addr).add j) = some u := cells_row (A := []) (C := []) (by simpa using hx1) rfl
  have HNW := Lib.hid hnw
  have hsz1 : w.heap.size ≤ w1.heap.size := hg1.size
  clear hnw hx1
  have HS3 : Hid (i * 2 + [x, y].length ≤ (splice (A ++ D ++ Z) ((i + 1) * 2) D).length) := Lib.hid (by rw [length_splice _ _ _ HS2.out]; simp only [List.length_append, List.length_cons, List.length_nil, HA.out, HD.out, HZ.out]; omega)
  go_wp2_with (first | (at_builtin; fail) | (refine wpList_copyK rfl _ _ 35 34 46 2 Try.underlying35 sizePair rfl g (i * 2) (n + 1 - i) (cap - i) ⟨vb, 0, none⟩ 1 1 rfl rfl (splice (A ++ D ++ Z) ((i + 1) * 2) D) 46 [x, y] HC1.out ?_ HNW.out HS3.out (by simp [H1.out, H1'.out]) ?_))
  · show 2 = min 1 (n + 1 - i) * 2
    omega
  intro w2 HC2 hg2
  have hb2 := gb_trans hbA hg2 (fun k hk => .inr hk)
  go_wp2
  go_ret
  refine ⟨⟨_, rfl, ?_⟩, hb2⟩
  have hC2 := HC2.out
  have ha := HA.out
  rw [show i * 2 = A.length from ha.symm, show (i + 1) * 2 = A.length + [x, y].length by simp [ha]; omega, ← List.append_assoc, splice_shift (by rw [HZ.out]; simp; omega)] at hC2
  refine owns_of_cur hC2 hbg hcap (by unfold maxLen; omega) ?_ ?_
  · simp only [List.length_append, List.length_drop, List.length_cons, List.length_nil, ha, HD.out, HZ.out]; omega
  · rw [take_len (by simp only [List.length_append, List.length_cons, List.length_nil, ha, HD.out]; omega)]
    simp
end Go.Proofs.Ytiipelccmkidbaa
