/- Texts that the claim leans on, part 5: J8, J9, J11, J23, J15, J16, J17, J18. -/
import Derived.Test.YtkkoookmnnmiiaaZ1
import Derived.Test.YtkkoookmnnmiiaaZ2
import Derived.Test.YtkkoookmnnmiiaaZ3
import Derived.Test.YtkkoookmnnmiiaaZ4
import Derived.Test.YtkkoookmnnmiiaaRows
import Derived.WalkKit
import Derived.WalkSpells
import Derived.WalkLawsBesides
import Derived.Handy
import Derived.Deep.QuietTactic
import Derived.BigQuiet
import Derived.Deep.DeepCutAuto
import Derived.Lib.Hide
import Derived.RegionTactic
import Derived.ChangeAlike
import Derived.Shelf.Abstract
import Derived.Shelf.RegionOpen
import Derived.OwnWalkIn
import Derived.TacticsInMore
import Derived.LoopNIn
import Derived.LoopIn
import Derived.Maps.AppendAt
import Derived.Maps.OwnIn
import Derived.Maps.Keyed
import Derived.Maps.Views
import Derived.Laws.ResultCell
import Derived.Outline
import Derived.LoopN
import Derived.Shelf.SlIterI.Nil
import Derived.Shelf.SortM.Plain
import Derived.Shelf.SortM.SortNone
import Derived.RangeFuncNested
import Derived.RangeFuncBound
import Derived.RangeFuncCalls
import Derived.RangeFuncLeaves
import Derived.RangeFuncBox
import Derived.RangeFuncRecord
import Derived.Maps.OwnSet
import Derived.Lib.SlKeysI
import Derived.Laws.Rows
import Derived.Deep.Quiet
import Derived.Deep.RegionHeld3
import Derived.ProofKit
import Derived.OpenShut
import Derived.Laws.Strings
import Derived.Laws.CopyOwn
import Derived.Laws.CopyRow
import Derived.Laws.NewBlocks
import Derived.Deep.RegionLaw
namespace Go.Proofs.Ytkkoookmnnmiiaa
open Go.RowKit Go.Shelf Go.Maps

attribute [local go_sem] Oper.semAt_some

theorem jall_stops {wc : World} {a : Option Addr} {ls : List PartA} (h : PartsA wc a ls) (cap m : Nat) (hlen : ls.length ≤ 1000000) (hlen2 : ∀ x ∈ ls, x.2.2.length ≤ 1000000) (hok : ∀ x ∈ ls, ∀ y ∈ x.2.2, okI y) {w : World} (hm : wc.heap.size ≤ m) (hm2 : m < w.heap.size) (hB : Below wc.heap.size wc w) (hq : w.cell? ⟨m, 0, none⟩ = some (.slice a ls.length cap)) :
    SeqStopsK Fence.wide 2 Try.prog 60 #[.pointer (some ⟨m, 0, none⟩)] (fun x : Ap => #[Value.agg (apA (fixI x))]) (KpB wc.heap.size m) (fun xs => xs = flatJ (lstA ls)) (fun _ => True) ((lstA ls).flatten.length + 1) w :=
  fun l J Jx W hW hJ _ hY h0 => jall_in h cap m l hlen hlen2 hok J Jx W hm (Nat.lt_of_lt_of_le hm2 hW.size) (hB.trans (hW.mono (by omega))) (cell_later hW hq) hJ hY h0
theorem ownFrom_map {β : Type} {B b : Nat} (hb : b < B) (k : β → Nat) (D : β → DataW En) : OwnFrom B (fun (s : β) W => W.ownsMap Try.prog 3 rdE b (k s) (D s)) :=
  fun s W W' row hs hg hr => hs.kept hg (fun e => by have := (hr b e.symm).1; omega)
theorem ownFrom_blk {β : Type} {B b : Nat} (hb : b < B) (o : Obj) : OwnFrom B (fun (_ : β) W => W.heap[b]? = some o) :=
  fun s W W' row hs hg hr => (hg.block b (Array.getElem?_eq_some_iff.1 hs).1 (fun e => by have := (hr b e.symm).1; omega)).trans hs
theorem infoI : (Try.prog.info? 3).map (fun i => (i.zero, i.size, i.bytes)) = some (some (.int .i64 0), 1, 8) := by kernel_rfl
def zE0 : En := ⟨0, 0, 0, ⟨0, ⟨#[]⟩, ⟨#[]⟩, ⟨#[]⟩⟩⟩
theorem zeroEn (w : World) : (zeroValue 34).run Try.prog w = .ok (.agg (enA zE0)) w := by
  refine (Try.zeroValue34 w).trans ?_
  kernel_rfl
/-- What a look-up finds. -/
theorem look_told {f : List Ap} {D : DataW En} (h : Told f D) (i : Int) : ∃ e, D.atKey (keyL i) (.held zE0) = .held e ∧ (has D (keyL i) = true → firstJ f i = some e) ∧ (has D (keyL i) = false → firstJ f i = none) := by
  have hi := h.is i
  cases hf : firstJ f i with
  | some e =>
    rw [hf] at hi
    exact ⟨e, h.at_ i e _ hf, fun _ => rfl, fun hn => (by rw [hn] at hi; cases hi)⟩
  | none =>
    rw [hf] at hi
    exact ⟨zE0, atKey_of_not_has hi _, fun hn => (by rw [hn] at hi; cases hi), fun _ => rfl⟩
theorem wpListIn_lookE {F : Fence} {nF : Nat} (w : World) {ops : Array Oper} {rest : List Oper} {o : Oper} {a : Act} {Q : Exit → Act → World → Prop} (hg : o.guard = none) (m x : Operand) (hop : o.op = Op.lookup 65 m x true) (b n : Nat) (D : DataW En)
    (hm : a.eval m = .map (some b)) (hown : w.ownsMap Try.prog 3 rdE b n D) (i : Int) (hx : a.eval x = .int .i64 i) (hi : (Lit.int .i64 i).wf = true) (e : En) (he : D.atKey (keyL i) (.held zE0) = .held e) (hb : Bool) (hhb : has D (keyL i) = hb)
    (hK : wpListIn F nF Try.prog ops Q rest (a.put o.dst (.tuple #[.agg (enA e), .bool hb])) w) : wpListIn F nF Try.prog ops Q (o :: rest) a w :=
  wpListIn_lookup_own_ok w hg m x 65 hop 3 34 (int_keyed Try.underlying3) Try.underlying65 rdE (zeroEn w) (.held zE0) [] (rdE_mk zE0) b n D hm hown (.int .i64 i) (keyL i) hx (keyOf_int_mk Try.underlying3 hi) (fun v ps hv => by
    rw [he] at hv
    rw [rdE_inv hv, hhb]
    exact hK)
/-- A round's own tmps. -/
def actJ (a : Option Addr) (n cap F m : Nat) (x : Ap) (q : Nat) : Act := { tmps := #[.slice a n cap, undef, .pointer (some ⟨F, 0, none⟩), .pointer (some ⟨F + 1, 0, none⟩), .pointer (some ⟨q, 0, none⟩), undef, undef, .map (some (F + 1 + 1)), .slice a n cap, .func (.func 60) #[] #[.pointer (some ⟨m, 0, none⟩)], .agg (apA (fixI x)), undef, undef, undef, undef, undef, undef, undef, undef, undef, undef, undef, undef, undef, undef, undef, undef, undef, undef, undef, undef, undef, undef, undef, undef, undef, undef, undef], defers := [] }
def AxJ (a : Option Addr) (n cap F m : Nat) (x : Ap) (a' : Act) (W : World) : Prop := ∃ q, F + 4 ≤ q ∧ W.heap[q]? = some (Obj.cells (apA (fixI x)) 36 (0, 0)) ∧ a' = actJ a n cap F m x q
theorem ownFrom_ax (B : Nat) (a : Option Addr) (n cap F m : Nat) (x : Ap) (a' : Act) : OwnFrom B (fun (_ : Unit) W => AxJ a n cap F m x a' W) := by
  rintro s W W' row ⟨q, hq, hx, e⟩ hg hr
  refine ⟨q, hq, (hg.block q (Array.getElem?_eq_some_iff.1 hx).1 (fun e2 => ?_)).trans hx, e⟩
  obtain ⟨_, o, ho, hc⟩ := hr q e2.symm
  rw [hx] at ho
  injection ho with ho
  subst ho
  cases hc
/-- What is carried from round to round. -/
def InvJ (w : World) (pre : List Ap) (W : World) : Prop := W.heap[w.heap.size]? = some (Obj.cells #[.map (some (w.heap.size + 1 + 1))] 65) ∧ W.ownsMap Try.prog 3 rdE (w.heap.size + 1 + 1) pre.length (mapJ (pre.map fixI)) ∧ (∃ v, Boxed W (w.heap.size + 1) 66 v ∧ W.ownsRow (w.heap.size + 4) 3 1 v (oddJ (pre.map fixI)).length ((oddJ (pre.map fixI)).map (Value.int .i64)) ∧ True) ∧ Below w.heap.size w W ∧ w.heap.size + 4 ≤ W.heap.size
theorem ownFrom_inv (w : World) {B : Nat} (hB : w.heap.size + 4 ≤ B) : OwnFrom B (InvJ w) :=
  OwnFrom.and (ownFrom_blk (b := w.heap.size) (by omega) (Obj.cells #[.map (some (w.heap.size + 1 + 1))] 65)) (OwnFrom.and (ownFrom_map (b := w.heap.size + 1 + 1) (by omega) (fun (pre : List Ap) => pre.length) (fun (pre : List Ap) => mapJ (pre.map fixI))) (OwnFrom.and (Own.from (holdsRow_own (w.heap.size + 4) (w.heap.size + 1) 66 3 1 (fun (pre : List Ap) => (oddJ (pre.map fixI)).length) (fun (pre : List Ap) => (oddJ (pre.map fixI)).map (Value.int .i64)) (fun _ _ => True)) B) (OwnFrom.and (ownFrom_below (Nat.le_refl _) (by omega)) (fun _ _ _ _ hs hg _ => Nat.le_trans hs hg.size))))
set_option maxRecDepth 100000 in
theorem run_neE (e0 e : En) (w : World) : (binOp .neq 34 (.agg (enA e0)) (.agg (enA e))).run Try.prog w = .ok (.bool (!eqE e0 e)) w := by
  rw [← eqE_lit]
  obtain ⟨kd0, cl0, sq0, ⟨ok0, key0, old0, val0⟩⟩ := e0
  obtain ⟨kd, cl, sq, ⟨ok, key, old, val⟩⟩ := e
  unfold enA
  have h := eqEntry kd0 kd cl0 cl sq0 sq ok0 ok key0 old0 val0 key old val w
  simp only at h ⊢
  generalize (kd0 == kd && cl0 == cl && sq0 == sq && (ok0 == ok && key0.toList == key.toList && old0.toList == old.toList && val0.toList == val.toList)) = r at *
  go_simp
theorem run_gE (x y : Operand) (u v : Array Value) (w : World) : (eqGuard .neq 34 x y (.agg u) (.agg v)).run Try.prog w = .ok () w := by
  have h : Try.prog.eqGuardType Try.prog.depth 34 = false := by kernel_rfl
  unfold eqGuard
  go_simp
theorem wpListIn_neE {F : Fence} {nF : Nat} (w : World) {ops : Array Oper} {rest : List Oper} {o : Oper} {a : Act} {Q : Exit → Act → World → Prop} (hg : o.guard = none) (x y : Operand) (hop : o.op = Op.binOp .neq 34 x y 34) (e0 e : En)
    (hx : a.eval x = .agg (enA e0)) (hy : a.eval y = .agg (enA e)) (r : Bool) (hr : eqE e0 e = r)
    (hK : wpListIn F nF Try.prog ops Q rest (a.put o.dst (.bool (!r))) w) : wpListIn F nF Try.prog ops Q (o :: rest) a w := by
  refine wpListIn_plain hg fun K' hK' => ?_
  have hrun := run_neE e0 e w
  have hg2 := run_gE x y (enA e0) (enA e) w
  rw [hr] at hrun
  generalize enA e0 = u0 at *
  generalize enA e = u at *
  unfold Oper.wpIn
  refine ⟨by simp [Oper.about, hop], ?_⟩
  rw [Oper.semAt_plain F _ _ (by rw [hop]; intro c hc'; cases hc')]
  simp only [execOp, hop, hx, hy, Sem.run_bind, hg2, hrun, Result.andThen]
  exact hK' _ _ hK
theorem map_at {W W' : World} {b n : Nat} {D : DataW En} (h : W.ownsMap Try.prog 3 rdE b n D) (e : W'.heap[b]? = W.heap[b]?) : W'.ownsMap Try.prog 3 rdE b n D := by
  obtain ⟨es, clock, hb, r⟩ := h
  exact ⟨es, clock, e.trans hb, r⟩
theorem box_appB {W w1 : World} {n₀ n1 B m : Nat} {t e : TypeId} {size : Nat} {v v' : Value} {k k' : Nat} {xs ys : List Value} {tmp : Obj}
    (hv : Boxed W B t v) (hte : t ≠ e) (hrow : W.ownsRow n1 e size v k xs) (hn1 : n1 ≤ W.heap.size) (hB : n₀ ≤ B) (hBm : B < m) (hm : m < n1)
    (hown' : w1.ownsRow n1 e size v' k' ys) (hgrow : (W.alloc tmp).grownBy w1 v.ownBlock) :
    Boxed w1 B t v ∧ Boxed (w1.setCell ⟨B, 0, none⟩ v') B t v' ∧ (w1.setCell ⟨B, 0, none⟩ v').ownsRow n1 e size v' k' ys ∧ KeepsOthers W (w1.setCell ⟨B, 0, none⟩ v') ∧ KpB n₀ m W (w1.setCell ⟨B, 0, none⟩ v') ∧ ∀ k, k < n1 → k ≠ B → (w1.setCell ⟨B, 0, none⟩ v').heap[k]? = W.heap[k]? := by
  obtain ⟨h1, h2, _, h4, h5⟩ := hv.appended hte (owns_mono hrow (show n₀ ≤ n1 by omega)) (by omega) hB (owns_mono hown' (show n₀ ≤ n1 by omega)) hgrow
  have hk : ∀ k, k < n1 → k ≠ B → (w1.setCell ⟨B, 0, none⟩ v').heap[k]? = W.heap[k]? := fun k hk1 hk2 => by
    have hkw : k < W.heap.size := by omega
    have e1 : (w1.setCell ⟨B, 0, none⟩ v').heap[k]? = w1.heap[k]? := Below.heap_setCell _ _ _ k (by simp only; omega)
    have e2 : w1.heap[k]? = (W.alloc tmp).heap[k]? := hgrow.block k (by simp; omega) (fun e => by
      rcases hrow.2 with ⟨rfl, _⟩ | ⟨g, cap, cur, rfl, hg, _⟩
      · simp [Value.ownBlock] at e
      · simp [Value.ownBlock] at e
        omega)
    exact e1.trans (e2.trans (Below.heap_alloc W tmp k hkw))
  exact ⟨h1, h2, hown'.kept (grownBy_setCell' w1 B v') (.inr (h1.not_row hte hown').symm), h4, ⟨h5, hk m hm (by omega)⟩, hk⟩
theorem flat_le {L : List (List Ap)} {b : Nat} (h : ∀ x ∈ L, x.length ≤ b) : L.flatten.length ≤ L.length * b := by
  induction L with
  | nil => simp
  | cons x L ih =>
    have h1 := h x List.mem_cons_self
    have h2 := ih fun y hy => h y (List.mem_cons_of_mem _ hy)
    rw [List.flatten_cons, List.length_append, List.length_cons, Nat.succ_mul]
    omega
theorem keptB {w W W' : World} {B : Nat} (hB : w.heap.size + 4 ≤ B) (hsW : w.heap.size + 4 ≤ W.heap.size) (hg : W.grownBy W' (some (w.heap.size + 1 + 1))) : KeepsFrom B W W' ∧ KpB w.heap.size (w.heap.size + 3) W W' :=
  ⟨KeepsFrom.of_grownBy hg (fun j e => by cases e; omega), (Below.refl _ _).grown hg (by omega) (fun k e => by cases e; omega), hg.block _ (by omega) (fun e => by injection e with e; omega)⟩
theorem results_c2J {P : Program} {fn : Func} {p t p2 t2 : Nat} {tmps : Array Value} {w : World} {A A2 : Addr} {v v2 : Value} (hf : fn.results = #[.cell p t, .cell p2 t2]) (hp : tmps.getD p undef = .pointer (some A)) (hl : (loadVar t A).run P w = .ok v w)
    (hp2 : tmps.getD p2 undef = .pointer (some A2)) (hl2 : (loadVar t2 A2).run P w = .ok v2 w) : (results fn tmps).run P w = .ok (.tuple #[v, v2]) w := by
  have hp' : tmps[p]?.getD undef = .pointer (some A) := by simpa using hp
  have hp2' : tmps[p2]?.getD undef = .pointer (some A2) := by simpa using hp2
  simp [results, hf, hp', hp2', asAddr, hl, hl2]
theorem load_mapJ {w : World} {g : Nat} {x : Value} (B : Boxed w g 65 x) : (loadVar 65 ⟨g, 0, none⟩).run Try.prog w = .ok x w := by
  have c := B.cell
  have ha := Try.isAgg65
  simp [loadVar, Sem.run_bind, ha, go_sem, c]
theorem load_slJ {w : World} {g : Nat} {x : Value} (B : Boxed w g 66 x) : (loadVar 66 ⟨g, 0, none⟩).run Try.prog w = .ok x w := by
  have c := B.cell
  have ha := Try.isAgg66
  simp [loadVar, Sem.run_bind, ha, go_sem, c]
/-- The last region stores back what it has loaded. -/
theorem gather_end {w W : World} {D : Nat} {x y : Value} {n : Nat} {M : DataW En} {l : List Int} (hD4 : w.heap.size + 4 ≤ D) (hB0 : Boxed W w.heap.size 65 x) (hv : Boxed W (w.heap.size + 1) 66 y) (hM : W.ownsMap Try.prog 3 rdE (w.heap.size + 1 + 1) n M)
    (hrow : W.ownsRow (w.heap.size + 4) 3 1 y l.length (l.map (Value.int .i64))) (hB : Below w.heap.size w W) (hK : W.heap[D]? = some (.deferred (some []))) :
    let Wd := ((W.setCell ⟨w.heap.size, 0, none⟩ x).setCell ⟨w.heap.size + 1, 0, none⟩ y).drew
    Wd.heap[D]? = some (.deferred (some [])) ∧ Boxed (Wd.putObj D (.deferred none)) w.heap.size 65 x ∧ Boxed (Wd.putObj D (.deferred none)) (w.heap.size + 1) 66 y ∧ (Wd.putObj D (.deferred none)).ownsMap Try.prog 3 rdE (w.heap.size + 1 + 1) n M ∧
      (Wd.putObj D (.deferred none)).ownsRow w.heap.size 3 1 y l.length (l.map (Value.int .i64)) ∧ Below w.heap.size w (Wd.putObj D (.deferred none)) := by
  intro Wd
  have hk : ∀ k, k ≠ w.heap.size → k ≠ w.heap.size + 1 → Wd.heap[k]? = W.heap[k]? := fun k h1 h2 => (Below.heap_setCell _ _ _ k (fun e => h2 e)).trans (Below.heap_setCell _ _ _ k (fun e => h1 e))
  have hKd : Wd.heap[D]? = some (.deferred (some [])) := (hk D (by omega) (by omega)).trans hK
  have hown : ∀ j, j < w.heap.size + 4 → y.ownBlock = none ∨ y.ownBlock ≠ some j := fun j hj => by
    rcases hrow.2 with ⟨rfl, _⟩ | ⟨g, cap, cur, rfl, hg, _⟩
    · exact .inl rfl
    · refine .inr fun e => ?_
      simp [Value.ownBlock] at e
      omega
  refine ⟨hKd, ?_, ?_, ?_, ?_, ?_⟩
  · exact (World.putObj_heap_other (by omega)).trans ((hB0.set x).other (by omega) y)
  · exact (World.putObj_heap_other (by omega)).trans ((hv.other (by omega) x).set y)
  · exact map_at hM ((World.putObj_heap_other (by omega)).trans (hk _ (by omega) (by omega)))
  · refine owns_mono ?_ (Nat.le_add_right _ 4)
    exact ownsRow_putObj (World.ownsRow.drew ((hrow.kept (grownBy_setCell' W w.heap.size x) (hown _ (by omega))).kept (grownBy_setCell' _ (w.heap.size + 1) y) (hown _ (by omega)))) _ hKd rfl
  · exact below_mark (((hB.setCell (Nat.le_refl _) x).setCell (by simp) y).drew) (by omega)
set_option maxRecDepth 100000 in
set_option maxHeartbeats 2000000 in
theorem gather_any {a : Option Addr} {ls : List PartA} {w : World} (h : PartsA w a ls) (cap : Nat) (hlen : ls.length ≤ 1000000) (hlen2 : ∀ x ∈ ls, x.2.2.length ≤ 1000000) (hok : ∀ x ∈ ls, ∀ y ∈ x.2.2, okI y) : Calls Try.prog 31 #[.slice a ls.length cap] w fun e w' =>
    ∃ mb v n, e = .returned (.tuple #[.map (some mb), v]) ∧ w.heap.size ≤ mb ∧ w'.ownsMap Try.prog 3 rdE mb n (mapJ (flatJ (lstA ls))) ∧ n ≤ (flatJ (lstA ls)).length ∧ w'.ownsRow w.heap.size 3 1 v (oddJ (flatJ (lstA ls))).length ((oddJ (flatJ (lstA ls))).map (Value.int .i64)) ∧ Below w.heap.size w w' := by
  obtain ⟨i0, hi, hz0, hz1, hz2⟩ := info_parts infoI
  have hmm := @run_makeMap Try.prog
  refine calls_marks Try.func31 rfl ?_
  simp only [Try.ntmps31, List.size_toArray, List.length_cons, List.length_nil, Nat.reduceAdd, Nat.reduceSub, Array.replicate_succ, Array.replicate_zero, List.push_toArray, List.append_toArray, List.nil_append, List.cons_append]
  go_wp2_with fail
  have B0 := tr_al (Obj.map #[] 0) (tr_al (Obj.cells #[.slice none 0 0] 66) (heap_alloc_new w (Obj.cells #[.map (some (w.heap.size + 1 + 1))] 65)))
  have B1 := tr_al (Obj.map #[] 0) (heap_alloc_new (w.alloc (Obj.cells #[.map (some (w.heap.size + 1 + 1))] 65)) (Obj.cells #[.slice none 0 0] 66))
  have OM := World.ownsMap_made ((w.alloc (Obj.cells #[.map (some (w.heap.size + 1 + 1))] 65)).alloc (Obj.cells #[.slice none 0 0] 66)) Try.prog 3 rdE
  have hb3 : Below w.heap.size w (((w.alloc (Obj.cells #[.map (some (w.heap.size + 1 + 1))] 65)).alloc (Obj.cells #[.slice none 0 0] 66)).alloc (Obj.map #[] 0)) := (((Below.refl _ _).alloc (Nat.le_refl _) _).alloc (by simp) _).alloc (by simp; omega) _
  have hsz : (((w.alloc (Obj.cells #[.map (some (w.heap.size + 1 + 1))] 65)).alloc (Obj.cells #[.slice none 0 0] 66)).alloc (Obj.map #[] 0)).heap.size = w.heap.size + 3 := by simp
  simp only [World.size_alloc] at B1 OM
  generalize ((w.alloc (Obj.cells #[.map (some (w.heap.size + 1 + 1))] 65)).alloc (Obj.cells #[.slice none 0 0] 66)).alloc (Obj.map #[] 0) = w3 at *
  refine (jall_any a ls.length cap w3).mono ?_
  rintro e w4 ⟨rfl, rfl⟩
  go_wp2
  have hw4 : (w3.alloc (Obj.cells #[.slice a ls.length cap] 26)).heap.size = w.heap.size + 4 := by simp [hsz]
  have hb4 : Below w.heap.size w (w3.alloc (Obj.cells #[.slice a ls.length cap] 26)) := hb3.alloc (by omega) _
  have hq4 : (w3.alloc (Obj.cells #[.slice a ls.length cap] 26)).cell? ⟨w3.heap.size, 0, none⟩ = some (.slice a ls.length cap) := blk_cell (heap_alloc_new w3 (Obj.cells #[.slice a ls.length cap] 26)) 0 _ rfl
  have B0' := tr_al (Obj.cells #[.slice a ls.length cap] 26) B0
  have B1' := tr_al (Obj.cells #[.slice a ls.length cap] 26) B1
  have OM' := OM.alloc (Obj.cells #[.slice a ls.length cap] 26)
  have hI0 : InvJ w [] (w3.alloc (Obj.cells #[.slice a ls.length cap] 26)) := ⟨B0', OM', ⟨_, B1', World.ownsRow_nil _ _ _ _, trivial⟩, hb4, by omega⟩
  clear B0 B1 OM hb3 B0' B1' OM'
  rw [hsz] at hq4
  clear hsz
  generalize w3.alloc (Obj.cells #[.slice a ls.length cap] 26) = w4 at *
  have hsq := jall_stops h cap (w.heap.size + 3) hlen hlen2 hok (by omega) (by omega) hb4 hq4
  have hkb := KpB.put2 (n := w.heap.size) (m := w.heap.size + 3) (w := w4) (by omega) (by omega)
  have hIo := ownFrom_inv w (B := w4.heap.size) (by omega)
  have hen := enters_of Try.func60 (by kernel_rfl) rfl
  have hfb : (lstA ls).flatten.length ≤ 1000000 * 1000000 := by
    refine Nat.le_trans (flat_le (b := 1000000) fun x hx => ?_) (Nat.mul_le_mul_right _ (by unfold lstA; rw [List.length_map]; exact hlen))
    obtain ⟨y, hy, rfl⟩ := List.mem_map.1 hx
    exact hlen2 _ hy
  refine wp_range_h (gf := 60) rfl hen hsq KpB.trans hkb (fun _ => rfl) (InvJ w) (fun _ _ _ => False) hIo (fun _ _ _ _ _ hs _ _ => hs) hI0
    (AxJ a ls.length cap w.heap.size (w.heap.size + 3)) (fun x a' => ownFrom_ax _ _ _ _ _ _ x a') ?assign ?body ?done ?stop
  case assign =>
    intro l pre x W K hI hK
    have hsW := hI.2.2.2.2
    have hK2 := fun W' h1 h2 h3 q h4 h5 => hK _ W' h1 h2 h3 ⟨q, h4, h5, rfl⟩
    clear hK
    unfold actJ at hK2
    generalize fixI x = y at *
    obtain ⟨yi, ⟨kd, cl, sq, ⟨ok, key, old, val⟩⟩⟩ := y
    simp only [apA] at hK2 ⊢
    gi_wp2
    refine hK2 _ ?_ ?_ ?_ W.heap.size hsW (heap_alloc_new W (Obj.cells #[.int .i64 yi, .int .u8 kd, .int .i64 cl, .int .i64 sq, .int .u8 ok, .string key, .string old, .string val] 36))
    · exact (KeepsOthers.alloc W (Obj.cells #[.int .i64 yi, .int .u8 kd, .int .i64 cl, .int .i64 sq, .int .u8 ok, .string key, .string old, .string val] 36)).from _
    · exact KpB.below (blw W (Obj.cells #[.int .i64 yi, .int .u8 kd, .int .i64 cl, .int .i64 sq, .int .u8 ok, .string key, .string old, .string val] 36)) (by omega) (by omega)
    · exact (ownFrom_inv w (B := w.heap.size + 4) (Nat.le_refl _)).alloc _ hI
  case body =>
    rintro l pre x a' W ⟨hB0, hM, ⟨v, hv, hrow, _⟩, hB, hsW⟩ ⟨q, hq, hxq, rfl⟩ hlt
    have hT := told_map (pre.map fixI)
    obtain ⟨e0, hat, hat1, hat0⟩ := look_told hT (fixI x).idx
    have hwf : (Lit.int .i64 (fixI x).idx).wf = true := fixI_ok x
    have hms : ∀ b, has (mapJ (pre.map fixI)) (keyL (fixI x).idx) = b → mapJ ((pre ++ [x]).map fixI) = if b = true then mapJ (pre.map fixI) else (mapJ (pre.map fixI)).put (keyL (fixI x).idx) (.held (fixI x).e) := fun b hb => by
      rw [List.map_append, List.map_singleton, mapJ_snoc]
      unfold stepD
      rw [hb]
    have hos : oddJ ((pre ++ [x]).map fixI) = oddJ (pre.map fixI) ++ (if oddAt (pre.map fixI) (fixI x) = true then [(fixI x).idx] else []) := by
      rw [List.map_append, List.map_singleton, odd_snoc]
    have hlm : (oddJ (pre.map fixI)).length ≤ pre.length := by
      unfold oddJ
      rw [List.length_map]
      exact Nat.le_trans (List.length_filter_le _ _) (by rw [List.length_map]; exact Nat.le_refl _)
    unfold oddAt at hos
    unfold actJ
    have HM := Lib.hid hms
    have HO := Lib.hid hos
    have HA := Lib.hid (And.intro hat1 hat0)
    clear hms hos hat1 hat0 hT
    obtain ⟨hb, hhb⟩ : ∃ hb, has (mapJ (pre.map fixI)) (keyL (fixI x).idx) = hb := ⟨_, rfl⟩
    generalize fixI x = y at *
    obtain ⟨yi, ⟨kd, cl, sq, ⟨ok, key, old, val⟩⟩⟩ := y
    obtain ⟨kd0, cl0, sq0, ⟨ok0, key0, old0, val0⟩⟩ := e0
    simp only [apA] at hxq ⊢
    simp only at hwf hat hhb
    have c0 := blk_cell hxq 0 _ rfl
    have c1 := blk_cell hxq 1 _ rfl
    have c2 := blk_cell hxq 2 _ rfl
    have c3 := blk_cell hxq 3 _ rfl
    have c4 := blk_cell hxq 4 _ rfl
    have c5 := blk_cell hxq 5 _ rfl
    have c6 := blk_cell hxq 6 _ rfl
    have c7 := blk_cell hxq 7 _ rfl
    have cm := blk_cell hB0 0 _ rfl
    have co := hv.cell
    have hM2 := hM.alloc (Obj.cells #[.int .u8 kd0, .int .i64 cl0, .int .i64 sq0, .int .u8 ok0, .string key0, .string old0, .string val0] 34)
    have hx2 := tr_al (Obj.cells #[.int .u8 kd0, .int .i64 cl0, .int .i64 sq0, .int .u8 ok0, .string key0, .string old0, .string val0] 34) hxq
    have d0 := blk_cell hx2 0 _ rfl
    have d1 := blk_cell hx2 1 _ rfl
    have d2 := blk_cell hx2 2 _ rfl
    have d3 := blk_cell hx2 3 _ rfl
    have d4 := blk_cell hx2 4 _ rfl
    have d5 := blk_cell hx2 5 _ rfl
    have d6 := blk_cell hx2 6 _ rfl
    have d7 := blk_cell hx2 7 _ rfl
    have dm := blk_cell (tr_al (Obj.cells #[.int .u8 kd0, .int .i64 cl0, .int .i64 sq0, .int .u8 ok0, .string key0, .string old0, .string val0] 34) hB0) 0 _ rfl
    have hv2 : Boxed (W.alloc (Obj.cells #[.int .u8 kd0, .int .i64 cl0, .int .i64 sq0, .int .u8 ok0, .string key0, .string old0, .string val0] 34)) (w.heap.size + 1) 66 v := tr_al (Obj.cells #[.int .u8 kd0, .int .i64 cl0, .int .i64 sq0, .int .u8 ok0, .string key0, .string old0, .string val0] 34) hv
    have do_ := hv2.cell
    have dfz := hv2.frozen
    have hnl : pre.length + 1 ≤ 1000000000001 := by omega
    have HH := Lib.hid hhb
    cases hb
    case false =>
      have hm2 := HM.out false HH.out
      rw [if_neg (by decide)] at hm2
      have ho2 := HO.out
      simp only [HA.out.2 HH.out] at ho2
      rw [if_neg (by decide), List.append_nil] at ho2
      have HM2 := Lib.hid (And.intro hm2 ho2)
      clear hm2 ho2
      gi_wp2_with (first
        | (gi_at_lookup; refine wpListIn_lookE _ rfl _ _ rfl (w.heap.size + 1 + 1) pre.length _ rfl hM yi rfl hwf _ hat false hhb ?_; unfold enA)
        | (gi_at_mapUpdate; refine wpListIn_mapUpdate_own _ rfl _ _ _ 65 rfl 3 34 (int_keyed Try.underlying3) Try.underlying65 rdE (w.heap.size + 1 + 1) pre.length _ rfl hM2 (by unfold maxLen; omega) _ _ (keyL yi) rfl rfl (keyOf_int_mk Try.underlying3 hwf) (.held ⟨kd, cl, sq, ⟨ok, key, old, val⟩⟩) [] (rdE_mk ⟨kd, cl, sq, ⟨ok, key, old, val⟩⟩) ?_; intro w5 hM5 hg5))
      have hg6 := (World.grownBy_alloc W (Obj.cells #[.int .u8 kd0, .int .i64 cl0, .int .i64 sq0, .int .u8 ok0, .string key0, .string old0, .string val0] 34) (some (w.heap.size + 1 + 1))).trans hg5
      obtain ⟨k1, k2⟩ := keptB (B := w.heap.size + 4) (Nat.le_refl _) hsW hg6
      refine ⟨k1, k2, (hg6.block _ (by omega) (fun e => by injection e with e; omega)).trans hB0, ?_, ⟨v, (hg6.block _ (by omega) (fun e => by injection e with e; omega)).trans hv, ?_, trivial⟩, hB.trans k2.bl, Nat.le_trans hsW k1.size⟩
      · rw [HM2.out.1, List.length_append]
        exact hM5
      · rw [HM2.out.2]
        refine hrow.kept hg6 ?_
        rcases hrow.2 with ⟨rfl, _⟩ | ⟨g, cap, cur, rfl, hg, _⟩
        · exact .inl rfl
        · refine .inr fun e => ?_
          simp [Value.ownBlock] at e
          omega
    case true =>
      have hm2 := HM.out true HH.out
      rw [if_pos rfl] at hm2
      have ho2 := HO.out
      simp only [HA.out.1 HH.out] at ho2
      have HM2 := Lib.hid (And.intro hm2 ho2)
      clear hm2 ho2
      obtain ⟨r, hr⟩ : ∃ r, eqE ⟨kd0, cl0, sq0, ⟨ok0, key0, old0, val0⟩⟩ ⟨kd, cl, sq, ⟨ok, key, old, val⟩⟩ = r := ⟨_, rfl⟩
      have HR := Lib.hid hr
      cases r
      case true =>
        gi_wp2_with (first
          | (gi_at_lookup; refine wpListIn_lookE _ rfl _ _ rfl (w.heap.size + 1 + 1) pre.length _ rfl hM yi rfl hwf _ hat true hhb ?_; unfold enA)
          | (refine wpListIn_neE _ rfl _ _ rfl ⟨kd0, cl0, sq0, ⟨ok0, key0, old0, val0⟩⟩ ⟨kd, cl, sq, ⟨ok, key, old, val⟩⟩ rfl rfl _ hr ?_))
        have h2 := HM2.out.2
        rw [HR.out, if_neg (by decide), List.append_nil] at h2
        refine ⟨(KeepsOthers.alloc W (Obj.cells #[.int .u8 kd0, .int .i64 cl0, .int .i64 sq0, .int .u8 ok0, .string key0, .string old0, .string val0] 34)).from _, KpB.below (blw W (Obj.cells #[.int .u8 kd0, .int .i64 cl0, .int .i64 sq0, .int .u8 ok0, .string key0, .string old0, .string val0] 34)) (by omega) (by omega), tr_al (Obj.cells #[.int .u8 kd0, .int .i64 cl0, .int .i64 sq0, .int .u8 ok0, .string key0, .string old0, .string val0] 34) hB0, ?_, ⟨v, hv2, ?_, trivial⟩, hB.trans ((blw W (Obj.cells #[.int .u8 kd0, .int .i64 cl0, .int .i64 sq0, .int .u8 ok0, .string key0, .string old0, .string val0] 34)).mono (by omega)), by rw [World.size_alloc]; omega⟩
        · rw [HM2.out.1, List.length_append]
          exact hM2.mono (by omega)
        · rw [h2]
          exact hrow.alloc (Obj.cells #[.int .u8 kd0, .int .i64 cl0, .int .i64 sq0, .int .u8 ok0, .string key0, .string old0, .string val0] 34)
      case false =>
        have hrow2 := hrow.alloc (Obj.cells #[.int .u8 kd0, .int .i64 cl0, .int .i64 sq0, .int .u8 ok0, .string key0, .string old0, .string val0] 34)
        have hcn : ∀ j u, [Value.int .i64 yi][j]? = some u → ((W.alloc (Obj.cells #[.int .u8 kd0, .int .i64 cl0, .int .i64 sq0, .int .u8 ok0, .string key0, .string old0, .string val0] 34)).alloc (Obj.cells #[.int .i64 yi] 3)).cell? ((⟨W.heap.size + 1, 0, none⟩ : Addr).add j) = some u := fun j u hj => by
          have h := cell_one_new (W.alloc (Obj.cells #[.int .u8 kd0, .int .i64 cl0, .int .i64 sq0, .int .u8 ok0, .string key0, .string old0, .string val0] 34)) (.int .i64 yi) 3 j u hj
          rw [World.size_alloc] at h
          exact h
        gi_wp2_with (first
          | (gi_at_lookup; refine wpListIn_lookE _ rfl _ _ rfl (w.heap.size + 1 + 1) pre.length _ rfl hM yi rfl hwf _ hat true hhb ?_; unfold enA)
          | (refine wpListIn_neE _ rfl _ _ rfl ⟨kd0, cl0, sq0, ⟨ok0, key0, old0, val0⟩⟩ ⟨kd, cl, sq, ⟨ok, key, old, val⟩⟩ rfl rfl _ hr ?_)
          | (gi_at_builtin; refine wpListIn_append_own _ rfl _ _ 66 rfl (w.heap.size + 4) 3 i0 (.int .i64 0) 1 8 Try.underlying66 hi hz0 hz1 hz2 rfl (by decide) _ _ _ rfl (hrow2.alloc _) ⟨W.heap.size + 1, 0, none⟩ 1 1 [.int .i64 yi] rfl rfl hcn (by simp [Value.oneCell']) (by simp [maxLen]; omega) (by omega) (by simp; omega) ?_; intro v' w1 hown' hgrow _; obtain ⟨g', cap', rfl⟩ := ownsRow_succ hown'; obtain ⟨hv1, hv3, hr2, hk2, hb2, ho2⟩ := box_appB (n₀ := w.heap.size) (m := w.heap.size + 3) hv2 (by decide) hrow2 (by simp; omega) (by omega) (by omega) (by omega) hown' hgrow; have hc1 := hv1.cell; have hf1 := hv1.frozen))
        have h2 := HM2.out.2
        rw [HR.out, if_pos (show (!false) = true from rfl)] at h2
        have hk0 := KpB.below (n := w.heap.size) (m := w.heap.size + 3) (blw W (Obj.cells #[.int .u8 kd0, .int .i64 cl0, .int .i64 sq0, .int .u8 ok0, .string key0, .string old0, .string val0] 34)) (by omega) (by omega)
        refine ⟨((KeepsOthers.alloc W (Obj.cells #[.int .u8 kd0, .int .i64 cl0, .int .i64 sq0, .int .u8 ok0, .string key0, .string old0, .string val0] 34)).trans hk2).from _, hk0.trans hb2, (ho2 _ (by omega) (by omega)).trans (tr_al (Obj.cells #[.int .u8 kd0, .int .i64 cl0, .int .i64 sq0, .int .u8 ok0, .string key0, .string old0, .string val0] 34) hB0), ?_, ⟨_, hv3, ?_, trivial⟩, hB.trans (hk0.trans hb2).bl, Nat.le_trans hsW ((KeepsOthers.alloc W (Obj.cells #[.int .u8 kd0, .int .i64 cl0, .int .i64 sq0, .int .u8 ok0, .string key0, .string old0, .string val0] 34)).trans hk2).size⟩
        · rw [HM2.out.1, List.length_append]
          exact (map_at hM2 (ho2 _ (by omega) (by omega))).mono (by omega)
        · rw [h2, List.length_append, List.map_append]
          exact hr2
  case done =>
    rintro D ys W hD rfl ⟨hB0, hM, ⟨v, hv, hrow, _⟩, hB, hsW⟩ hK
    have hfix : (flatJ (lstA ls)).map fixI = flatJ (lstA ls) := by
      rw [List.map_congr_left (g := id) fun x hx => ?_, List.map_id]
      have hx2 := (List.mem_filter.1 hx).1
      obtain ⟨l, hl, hxl⟩ := List.mem_flatten.1 hx2
      obtain ⟨y, hy, rfl⟩ := List.mem_map.1 hl
      exact fixI_of (hok y hy x hxl)
    rw [hfix] at hM hrow
    have hro := hrow
    obtain ⟨ad, c, rfl, hR, _⟩ := Row.of_owns hrow
    have cm := blk_cell hB0 0 _ rfl
    have co := hv.cell
    have f0 := blk_frozen hB0 0
    have f1 := hv.frozen
    go_wp2
    go_region
    all_goals go_wp2
    obtain ⟨hKd, z0, z1, z2, z3, z4⟩ := gather_end (by omega) hB0 hv hM hro hB hK
    exact marks_ret hKd (results_c2J rfl rfl (load_mapJ z0) rfl (load_slJ z1)) ⟨_, _, _, rfl, by omega, z2, Nat.le_refl _, z3, z4⟩
  case stop =>
    rintro D c pre W _ _ h _
    exact h.elim
end Go.Proofs.Ytkkoookmnnmiiaa

namespace Go.Proofs.Ytkkoookmnnmiiaa
open Go.RowKit Go.Shelf

theorem min_step (x y : Int) : (if y < x then y else x) = min x y := by
  rw [Int.min_def]
  split <;> split <;> omega
theorem minI_snoc {l : List Int} (hl : l ≠ []) (x : Int) : minI (l ++ [x]) = min (minI l) x := by
  cases l with
  | nil => exact absurd rfl hl
  | cons y l => simp [minI, List.foldl_append]
theorem minI_take {l : List Int} {k : Nat} (hk : k < l.length) (h1 : 1 ≤ k) : minI (l.take (k + 1)) = min (minI (l.take k)) l[k] := by
  rw [List.take_succ_eq_append_getElem hk, minI_snoc]
  intro e
  have := congrArg List.length e
  rw [List.length_take, List.length_nil] at this
  omega
set_option maxRecDepth 100000 in
theorem min_any {a : Option Addr} {c : Nat} {l : List Int} {w : World} (hR : Row w a (l.map (Value.int .i64))) (hl : 1 ≤ l.length) (hm : l.length ≤ 4000000000000000) : Calls Try.prog 34 #[.slice a l.length c] w fun e w' => e = .returned (.int .i64 (minI l)) ∧ w' = w := by
  obtain ⟨b, off, rfl, hcs⟩ := hR.at (k := 0) (by rw [List.length_map]; omega)
  have hc : ∀ j (hj : j < l.length), w.cell? ⟨b, off + j, none⟩ = some (.int .i64 l[j]) := fun j hj => hcs j _ (by rw [List.getElem?_map, List.getElem?_eq_getElem hj]; rfl)
  have c0 := hc 0 (by omega)
  have h0 : minI (l.take 1) = l[0] := by
    cases l with
    | nil => simp at hl
    | cons x l => rfl
  simp only [Nat.add_zero] at c0
  have hlt1 : ¬ (l.length : Int) < 1 := by omega
  go_enter Try.func34, Try.ntmps34
  go_wp2
  go_loopw [3, 4] (fun m i wr => ∃ k : Nat, 1 ≤ k ∧ k ≤ l.length ∧ i = .int .i64 k ∧ m = .int .i64 (minI (l.take k)) ∧ wr = w) (fun _ i _ => l.length - (Go.RowKit.intOf i).toNat)
  case atStart => exact ⟨1, Nat.le_refl _, hl, rfl, by rw [h0], rfl⟩
  case round =>
    obtain ⟨k, hk1, hk, rfl, rfl, rfl⟩ := hrel
    by_cases hlt : k < l.length
    · have ck := hc k hlt
      have hmt := minI_take hlt hk1
      go_wp2
      go_roundw
      case rel => exact ⟨k + 1, by omega, by omega, by go_num, by rw [hmt, ← min_step]; exact ⟨rfl, trivial⟩⟩
      case measure => simp [Go.RowKit.intOf]; omega
    · obtain rfl : k = l.length := by omega
      rw [List.take_length]
      go_wp2
      go_ret
      exact ⟨rfl, rfl⟩
set_option maxRecDepth 100000 in
theorem agree_any {a : Option Addr} {ls : List PartA} {w : World} (h : PartsA w a ls) (cap : Nat) (hlen : ls.length ≤ 1000000) (hlen2 : ∀ x ∈ ls, x.2.2.length ≤ 1000000) (hok : ∀ x ∈ ls, ∀ y ∈ x.2.2, okI y) : Calls Try.prog 13 #[.slice a ls.length cap] w fun e w' => e = .returned (.bool (agreeJ (flatJ (lstA ls)))) ∧ Below w.heap.size w w' := by
  have hg := gather_any h cap hlen hlen2 hok
  have hag : agreeJ (flatJ (lstA ls)) = ((oddJ (flatJ (lstA ls))).length == 0) := by
    unfold agreeJ
    cases oddJ (flatJ (lstA ls)) <;> rfl
  rw [hag]
  generalize oddJ (flatJ (lstA ls)) = od at *
  go_enter Try.func13, Try.ntmps13
  go_wp2_with (go_at_call 31; refine hg.mono ?_; rintro e w1 ⟨mb, v, n, rfl, hmb, hM, hn, hrow, hb⟩; obtain ⟨ad, c, rfl, hR, _⟩ := Row.of_owns hrow)
  go_ret
  exact ⟨ret_bool (by cases od <;> simp <;> omega), hb⟩
set_option maxRecDepth 100000 in
theorem first_any {a : Option Addr} {ls : List PartA} {w : World} (h : PartsA w a ls) (cap : Nat) (hlen : ls.length ≤ 1000000) (hlen2 : ∀ x ∈ ls, x.2.2.length ≤ 1000000) (hok : ∀ x ∈ ls, ∀ y ∈ x.2.2, okI y) : Calls Try.prog 14 #[.slice a ls.length cap] w fun e w' => e = .returned (.int .i64 (firstOdd (flatJ (lstA ls)))) ∧ Below w.heap.size w w' := by
  have hg := gather_any h cap hlen hlen2 hok
  have hfb : (oddJ (flatJ (lstA ls))).length ≤ 1000000 * 1000000 := by
    refine Nat.le_trans ?_ (Nat.le_trans (flat_le (L := lstA ls) (b := 1000000) fun x hx => ?_) (Nat.mul_le_mul_right _ (by unfold lstA; rw [List.length_map]; exact hlen)))
    · unfold oddJ
      rw [List.length_map]
      exact Nat.le_trans (List.length_filter_le _ _) (flat_len_le _)
    · obtain ⟨y, hy, rfl⟩ := List.mem_map.1 hx
      exact hlen2 _ hy
  unfold firstOdd
  generalize oddJ (flatJ (lstA ls)) = od at *
  by_cases h0 : od.length = 0
  · go_enter Try.func14, Try.ntmps14
    go_wp2_with (go_at_call 31; refine hg.mono ?_; rintro e w1 ⟨mb, v, n, rfl, hmb, hM, hn, hrow, hb⟩; obtain ⟨ad, c, rfl, hR, _⟩ := Row.of_owns hrow; rw [h0])
    go_ret
    obtain rfl := List.eq_nil_of_length_eq_zero h0
    exact ⟨rfl, hb⟩
  · have hi0 : ((od.length : Int) == 0) = false := by rw [beq_eq_false_iff_ne]; omega
    go_enter Try.func14, Try.ntmps14
    go_wp2_with (first
      | (go_at_call 31; refine hg.mono ?_; rintro e w1 ⟨mb, v, n, rfl, hmb, hM, hn, hrow, hb⟩; obtain ⟨ad, c, rfl, hR, _⟩ := Row.of_owns hrow)
      | (go_at_call 34; refine (min_any hR (by omega) (by omega)).mono ?_; rintro e w2 ⟨rfl, rfl⟩))
    go_ret
    exact ⟨rfl, hb⟩
end Go.Proofs.Ytkkoookmnnmiiaa

namespace Go.Proofs.Ytkkoookmnnmiiaa
open Go.RowKit

def eqA (x y : Ap) : Bool := x.idx == y.idx && eqE x.e y.e
theorem eqA_iff {x y : Ap} : eqA x y = true ↔ x = y := by
  unfold eqA
  rw [Bool.and_eq_true, beq_iff_eq, eqE_iff]
  constructor
  · rintro ⟨h1, h2⟩
    obtain ⟨a, b⟩ := x
    obtain ⟨c, d⟩ := y
    simp only at h1 h2
    rw [h1, h2]
  · rintro rfl
    exact ⟨rfl, rfl⟩
theorem eqA_lit (a b : Ap) : (a.idx == b.idx && (a.e.kind == b.e.kind && a.e.cli == b.e.cli && a.e.seq == b.e.seq && (a.e.op.kind == b.e.op.kind && a.e.op.key.toList == b.e.op.key.toList && a.e.op.old.toList == b.e.op.old.toList && a.e.op.val.toList == b.e.op.val.toList))) = eqA a b := by
  unfold eqA
  rw [eqE_lit]
set_option maxRecDepth 100000 in
theorem run_neA (x y : Ap) (w : World) : (binOp .neq 36 (.agg (apA x)) (.agg (apA y))).run Try.prog w = .ok (.bool (!eqA x y)) w := by
  rw [← eqA_lit]
  obtain ⟨i0, ⟨kd0, cl0, sq0, ⟨ok0, key0, old0, val0⟩⟩⟩ := x
  obtain ⟨i, ⟨kd, cl, sq, ⟨ok, key, old, val⟩⟩⟩ := y
  unfold apA
  have h := eqAp i0 i kd0 kd cl0 cl sq0 sq ok0 ok key0 old0 val0 key old val w
  simp only at h ⊢
  generalize (i0 == i && (kd0 == kd && cl0 == cl && sq0 == sq && (ok0 == ok && key0.toList == key.toList && old0.toList == old.toList && val0.toList == val.toList))) = r at *
  go_simp
theorem run_gA (x y : Operand) (u v : Array Value) (w : World) : (eqGuard .neq 36 x y (.agg u) (.agg v)).run Try.prog w = .ok () w := by
  have h : Try.prog.eqGuardType Try.prog.depth 36 = false := by kernel_rfl
  unfold eqGuard
  go_simp
theorem take_eq {l m : List Ap} {k : Nat} (h1 : k < l.length) (h2 : k < m.length) (h : l.take k = m.take k) (e : l[k] = m[k]) : l.take (k + 1) = m.take (k + 1) := by
  rw [List.take_succ_eq_append_getElem h1, List.take_succ_eq_append_getElem h2, h, e]
set_option maxRecDepth 100000 in
set_option maxHeartbeats 2000000 in
theorem same_any {a b : Option Addr} {l m : List Ap} {c d : Nat} {w : World} (ha : Row w a (aps l)) (hb : Row w b (aps m)) (hl : l.length ≤ 1000000000000) : Calls Try.prog 28 #[.slice a l.length c, .slice b m.length d] w fun e w' => (∃ r, e = .returned (.bool r) ∧ (r = true ↔ l = m)) ∧ Below w.heap.size w w' := by
  by_cases hlm : l.length = m.length
  · have hi0 : ((l.length : Int) == (m.length : Int)) = true := by rw [beq_iff_eq]; omega
    go_enter Try.func28, Try.ntmps28
    go_wp2
    go_loopw [5] (fun i wr => ∃ k : Nat, k ≤ l.length ∧ i = .int .i64 k ∧ Hid (l.take k = m.take k) ∧ Below w.heap.size w wr) (fun i _ => l.length - (Go.RowKit.intOf i).toNat)
    case atStart => exact ⟨0, by omega, rfl, Lib.hid rfl, Below.refl _ _⟩
    case round =>
      obtain ⟨k, hk, rfl, hT, hbr⟩ := hrel
      by_cases hlt : k < l.length
      · have hlt2 : k < m.length := by omega
        obtain ⟨b1, o1, rfl, hb1, c0, c1, c2, c3, c4, c5, c6, c7⟩ := ap_cells (ha.below0 hbr) hlt
        obtain ⟨b2, o2, rfl, hb2, d0, d1, d2, d3, d4, d5, d6, d7⟩ := ap_cells (hb.below0 hbr) hlt2
        have HT2 := Lib.hid (fun e => take_eq hlt hlt2 hT.out e)
        have HLM := Lib.hid (fun (e : l = m) => show l[k] = m[k] by subst e; rfl)
        have HI1 := Lib.hid (show k + 1 ≤ l.length by omega)
        obtain ⟨r, hr⟩ : ∃ r, eqA l[k] m[k] = r := ⟨_, rfl⟩
        have HR := Lib.hid hr
        clear hT hr
        generalize l[k] = x at *
        generalize m[k] = y at *
        have hne := fun w => run_neA x y w
        have hgu := fun p q w => run_gA p q (apA x) (apA y) w
        rw [HR.out] at hne
        obtain ⟨i0, ⟨kd0, cl0, sq0, ⟨ok0, key0, old0, val0⟩⟩⟩ := x
        obtain ⟨i1, ⟨kd, cl, sq, ⟨ok, key, old, val⟩⟩⟩ := y
        simp only at c0 c1 c2 c3 c4 c5 c6 c7 d0 d1 d2 d3 d4 d5 d6 d7
        simp only [apA] at hne hgu
        cases r
        case true =>
          go_wp2
          go_region
          all_goals go_wp2
          all_goals go_roundw
          case rel => exact ⟨k + 1, HI1.out, by go_num, Lib.hid (HT2.out (eqA_iff.1 HR.out)), hbr.drew⟩
          case measure => have := HI1.out; simp [Go.RowKit.intOf]; omega
        case false =>
          go_wp2
          go_region
          all_goals go_wp2
          all_goals go_ret
          exact ⟨⟨false, rfl, fun h => (by cases h), fun h => (by have := eqA_iff.2 (HLM.out h); rw [HR.out] at this; cases this)⟩, hbr.drew⟩
      · obtain rfl : k = l.length := by omega
        have he := hT.out
        rw [List.take_length] at he
        rw [hlm, List.take_length] at he
        go_wp2
        go_ret
        exact ⟨⟨true, rfl, fun _ => he, fun _ => rfl⟩, hbr⟩
  · have hi0 : ((l.length : Int) == (m.length : Int)) = false := by rw [beq_eq_false_iff_ne]; omega
    go_enter Try.func28, Try.ntmps28
    go_wp2
    go_ret
    exact ⟨⟨false, rfl, fun h => (by cases h), fun h => absurd (congrArg List.length h) hlm⟩, Below.refl _ _⟩
end Go.Proofs.Ytkkoookmnnmiiaa

namespace Go.Proofs.Ytkkoookmnnmiiaa
open Go.RowKit

set_option maxRecDepth 100000 in
theorem run_eqA (x y : Ap) (w : World) : (binOp .eql 36 (.agg (apA x)) (.agg (apA y))).run Try.prog w = .ok (.bool (eqA x y)) w := by
  rw [← eqA_lit]
  obtain ⟨i0, ⟨kd0, cl0, sq0, ⟨ok0, key0, old0, val0⟩⟩⟩ := x
  obtain ⟨i, ⟨kd, cl, sq, ⟨ok, key, old, val⟩⟩⟩ := y
  unfold apA
  have h := eqAp i0 i kd0 kd cl0 cl sq0 sq ok0 ok key0 old0 val0 key old val w
  simp only at h ⊢
  generalize (i0 == i && (kd0 == kd && cl0 == cl && sq0 == sq && (ok0 == ok && key0.toList == key.toList && old0.toList == old.toList && val0.toList == val.toList))) = r at *
  go_simp
theorem run_gqA (x y : Operand) (u v : Array Value) (w : World) : (eqGuard .eql 36 x y (.agg u) (.agg v)).run Try.prog w = .ok () w := by
  have h : Try.prog.eqGuardType Try.prog.depth 36 = false := by kernel_rfl
  unfold eqGuard
  go_simp
end Go.Proofs.Ytkkoookmnnmiiaa

namespace Go.Proofs.Ytkkoookmnnmiiaa
open Go.RowKit Go.Maps Go.Sort Go.Shelf

def keysL_ren : Ren := ⟨fun | 7 => 33 | 10 => 49 | n => n, fun | 23 => 65 | 26 => 3 | 3 => 34 | 28 => 71 | 0 => 0 | 27 => 70 | 33 => 93 | 4 => 4 | n => n, fun n => n⟩
theorem keysL : SlLaysZI.n7 Try.prog keysL_ren where
  mixed := by kernel_rfl
  f7 := ⟨"maps.Keys[map[int]sexton/api.Entry,int,sexton/api.Entry]", by decide, Try.func33.trans (congrArg some (by kernel_rfl))⟩
  f10 := ⟨"maps.Keys[map[int]sexton/api.Entry,int,sexton/api.Entry]$1", by decide, Try.func49.trans (congrArg some (by kernel_rfl))⟩
  t0 := Try.underlying0
  a0 := Try.isAgg0
  z0 := Try.sizeOf0
  v0 := Try.zeroValue0
  t4 := Try.underlying4
  a4 := Try.isAgg4
  z4 := Try.sizeOf4
  v4 := Try.zeroValue4
  t23 := Try.underlying65
  a23 := Try.isAgg65
  z23 := Try.sizeOf65
  v23 := Try.zeroValue65
  t26 := Try.underlying3
  a26 := Try.isAgg3
  z26 := Try.sizeOf3
  v26 := Try.zeroValue3
  t27 := Try.underlying70
  a27 := Try.isAgg70
  z27 := Try.sizeOf70
  v27 := Try.zeroValue70
  t28 := Try.underlying71
  a28 := Try.isAgg71
  z28 := Try.sizeOf71
  v28 := Try.zeroValue71
  t33 := Try.underlying93
  a33 := Try.isAgg93
  z33 := Try.sizeOf93
  v33 := Try.zeroValue93

def sortedL_ren : Ren := ⟨fun | 6 => 32 | 8 => 47 | 9 => 48 | 11 => 61 | 13 => 63 | 12 => 62 | 23 => 87 | 24 => 88 | 14 => 78 | 15 => 79 | 16 => 80 | 17 => 81 | 18 => 82 | 19 => 83 | 20 => 84 | 21 => 85 | 22 => 86 | 25 => 96 | 26 => 97 | 27 => 98 | 28 => 99 | 29 => 100 | 30 => 101 | 31 => 107 | n => n, fun | 26 => 3 | 28 => 71 | 24 => 66 | 0 => 0 | 3 => 3 | 37 => 104 | 48 => 122 | 50 => 39 | 4 => 4 | 40 => 114 | 39 => 113 | 45 => 119 | 5 => 5 | 9 => 9 | 51 => 130 | 55 => 134 | 57 => 141 | 58 => 142 | 33 => 93 | n => n, fun n => n⟩
theorem sortedL : SlLaysZI.n6 Try.prog sortedL_ren where
  mixed := by kernel_rfl
  f6 := ⟨"slices.Sorted[int]", by decide, Try.func32.trans (congrArg some (by kernel_rfl))⟩
  f8 := ⟨"slices.Collect[int]", by decide, Try.func47.trans (congrArg some (by kernel_rfl))⟩
  f11 := ⟨"slices.AppendSeq[[]int,int]", by decide, Try.func61.trans (congrArg some (by kernel_rfl))⟩
  t0 := Try.underlying0
  a0 := Try.isAgg0
  z0 := Try.sizeOf0
  v0 := Try.zeroValue0
  t24 := Try.underlying66
  a24 := Try.isAgg66
  z24 := Try.sizeOf66
  v24 := Try.zeroValue66
  t26 := Try.underlying3
  a26 := Try.isAgg3
  z26 := Try.sizeOf3
  v26 := Try.zeroValue3
  t28 := Try.underlying71
  a28 := Try.isAgg71
  z28 := Try.sizeOf71
  v28 := Try.zeroValue71
  i26 := by kernel_rfl

def sortL_ren : Ren := ⟨fun | 5 => 48 | 8 => 63 | 7 => 62 | 19 => 87 | 20 => 88 | 10 => 78 | 11 => 79 | 12 => 80 | 13 => 81 | 14 => 82 | 15 => 83 | 16 => 84 | 17 => 85 | 18 => 86 | 30 => 96 | 31 => 97 | 32 => 98 | 33 => 99 | 34 => 100 | 35 => 101 | 40 => 107 | n => n, fun | 23 => 66 | 25 => 3 | 3 => 3 | 32 => 104 | 22 => 66 | 0 => 0 | 44 => 122 | 46 => 39 | 4 => 4 | 36 => 114 | 35 => 113 | 41 => 119 | 5 => 5 | 9 => 9 | 53 => 130 | 57 => 134 | 63 => 141 | 64 => 142 | n => n, fun n => n⟩
theorem sortL : SlLaysM.n5 Try.prog sortL_ren where
  mixed := by kernel_rfl
  f5 := ⟨"slices.Sort[[]int,int]", by decide, Try.func48.trans (congrArg some (by kernel_rfl))⟩
  f7 := ⟨"slices.pdqsortOrdered[int]", by decide, Try.func62.trans (congrArg some (by kernel_rfl))⟩
  f8 := Try.func63.trans (congrArg some (by kernel_rfl))
  f10 := ⟨"slices.insertionSortOrdered[int]", by decide, Try.func78.trans (congrArg some (by kernel_rfl))⟩
  f11 := ⟨"slices.heapSortOrdered[int]", by decide, Try.func79.trans (congrArg some (by kernel_rfl))⟩
  f12 := ⟨"slices.breakPatternsOrdered[int]", by decide, Try.func80.trans (congrArg some (by kernel_rfl))⟩
  f13 := ⟨"slices.choosePivotOrdered[int]", by decide, Try.func81.trans (congrArg some (by kernel_rfl))⟩
  f14 := ⟨"slices.reverseRangeOrdered[int]", by decide, Try.func82.trans (congrArg some (by kernel_rfl))⟩
  f15 := ⟨"slices.partialInsertionSortOrdered[int]", by decide, Try.func83.trans (congrArg some (by kernel_rfl))⟩
  f16 := ⟨"cmp.Less[int]", by decide, Try.func84.trans (congrArg some (by kernel_rfl))⟩
  f17 := ⟨"slices.partitionEqualOrdered[int]", by decide, Try.func85.trans (congrArg some (by kernel_rfl))⟩
  f18 := ⟨"slices.partitionOrdered[int]", by decide, Try.func86.trans (congrArg some (by kernel_rfl))⟩
  f19 := Try.func87.trans (congrArg some (by kernel_rfl))
  f20 := Try.func88.trans (congrArg some (by kernel_rfl))
  f30 := ⟨"slices.siftDownOrdered[int]", by decide, Try.func96.trans (congrArg some (by kernel_rfl))⟩
  f31 := Try.func97.trans (congrArg some (by kernel_rfl))
  f32 := Try.func98.trans (congrArg some (by kernel_rfl))
  f33 := ⟨"slices.medianAdjacentOrdered[int]", by decide, Try.func99.trans (congrArg some (by kernel_rfl))⟩
  f34 := ⟨"slices.medianOrdered[int]", by decide, Try.func100.trans (congrArg some (by kernel_rfl))⟩
  f35 := ⟨"cmp.isNaN[int]", by decide, Try.func101.trans (congrArg some (by kernel_rfl))⟩
  f40 := ⟨"slices.order2Ordered[int]", by decide, Try.func107.trans (congrArg some (by kernel_rfl))⟩
  t0 := Try.underlying0
  a0 := Try.isAgg0
  z0 := Try.sizeOf0
  v0 := Try.zeroValue0
  t3 := Try.underlying3
  a3 := Try.isAgg3
  z3 := Try.sizeOf3
  v3 := Try.zeroValue3
  t4 := Try.underlying4
  a4 := Try.isAgg4
  z4 := Try.sizeOf4
  v4 := Try.zeroValue4
  t5 := Try.underlying5
  a5 := Try.isAgg5
  z5 := Try.sizeOf5
  v5 := Try.zeroValue5
  t9 := Try.underlying9
  a9 := Try.isAgg9
  z9 := Try.sizeOf9
  v9 := Try.zeroValue9
  t22 := Try.underlying66
  a22 := Try.isAgg66
  z22 := Try.sizeOf66
  v22 := Try.zeroValue66
  t23 := Try.underlying66
  a23 := Try.isAgg66
  z23 := Try.sizeOf66
  v23 := Try.zeroValue66
  t25 := Try.underlying3
  a25 := Try.isAgg3
  z25 := Try.sizeOf3
  v25 := Try.zeroValue3
  t32 := Try.underlying104
  a32 := Try.isAgg104
  z32 := Try.sizeOf104
  v32 := Try.zeroValue104
  t35 := Try.underlying113
  a35 := Try.isAgg113
  z35 := Try.sizeOf113
  v35 := Try.zeroValue113
  t36 := Try.underlying114
  a36 := Try.isAgg114
  z36 := Try.sizeOf114
  v36 := Try.zeroValue114
  t41 := Try.underlying119
  a41 := Try.isAgg119
  z41 := Try.sizeOf119
  v41 := Try.zeroValue119
  t44 := Try.underlying122
  a44 := Try.isAgg122
  z44 := Try.sizeOf122
  v44 := Try.zeroValue122
  t46 := Try.underlying39
  a46 := Try.isAgg39
  z46 := Try.sizeOf39
  v46 := Try.zeroValue39
  t53 := Try.underlying130
  a53 := Try.isAgg130
  z53 := Try.sizeOf130
  v53 := Try.zeroValue130
  t57 := Try.underlying134
  a57 := Try.isAgg134
  z57 := Try.sizeOf134
  v57 := Try.zeroValue134
  t63 := Try.underlying141
  a63 := Try.isAgg141
  z63 := Try.sizeOf141
  v63 := Try.zeroValue141
  t64 := Try.underlying142
  a64 := Try.isAgg142
  z64 := Try.sizeOf142
  v64 := Try.zeroValue142

end Go.Proofs.Ytkkoookmnnmiiaa

namespace Go.Proofs.Ytkkoookmnnmiiaa
open Go.RowKit Go.Maps Go.Sort Go.Shelf

theorem sortsL (m : Nat) : AnyZI.SortsIn Try.prog sortedL_ren Fence.wide m :=
  ⟨fun blk off cap ss W hH hblk hsz => callsIn_wide.2 (AnyM.slices_Sort_int sortL blk off cap ss W hH hblk hsz),
   fun p cap W => callsIn_wide.2 (AnyM.slices_Sort_int_none sortL p cap W)⟩
theorem keys_call (mb : Option Nat) (W : World) : Calls Try.prog 33 #[.map mb] W fun e w' => e = .returned (.func (.func 49) #[] #[.pointer (some ⟨W.heap.size, 0, none⟩)]) ∧ w' = W.alloc (.cells #[.map mb] 65) :=
  (callsIn_wide (n := 5)).1 (AnyZI.keys_in keysL Fence.wide 5 trivial rfl mb W)
set_option maxRecDepth 100000 in
set_option maxHeartbeats 1000000 in
theorem sorted_call {H : Type} {b nn : Nat} {D0 : DataW H} {R : Value → Option (DataW H × List MemPlace)} {w : World} (hown : w.ownsMap Try.prog 3 R b nn D0) (hmax : Maps.size D0 ≤ maxLen) (hbytes : Maps.size D0 * 8 ≤ 140737488355328) :
    Calls Try.prog 32 #[.func (.func 49) #[] #[.pointer (some ⟨w.heap.size, 0, none⟩)]] (w.alloc (.cells #[.map (some b)] 65)) fun e w' => ∃ (v : Value) (ss : List Int), e = .returned v ∧ ss.Perm (intKeys D0) ∧
      w'.ownsRow (w.heap.size + 1) 3 1 v ss.length ((ss.mergeSort (fun x y => decide (x ≤ y))).map encZ) ∧ (v = .slice none 0 0 ↔ ss = []) ∧ Below (w.heap.size + 1) (w.alloc (.cells #[.map (some b)] 65)) w' := by
  have hbl := hown.lt
  have hseq : SeqGives Fence.wide 2 Try.prog 49 #[.pointer (some ⟨w.heap.size, 0, none⟩)] encZ (fun ss => ss.Perm (intKeys D0)) (Maps.size D0) (w.alloc (.cells #[.map (some b)] 65)) :=
    AnyZI.keys_gives (ρ := keysL_ren) { keysL with } Fence.wide _ trivial rfl (by omega) w.heap.size b nn D0 _ (by simp) (by simp) (by
      obtain ⟨es, clock, hb, Ft, hs, hD⟩ := hown
      exact ⟨es, clock, (Below.heap_alloc _ _ b hbl).trans hb, Ft, hs, hD⟩)
  have cS := AnyZI.sorted_in sortedL Fence.wide 5 trivial trivial trivial trivial rfl (by omega) (sortsL _) (enters_of Try.func48 (by kernel_rfl) rfl) 49 #[.pointer (some ⟨w.heap.size, 0, none⟩)] trivial (enters_of Try.func49 (by kernel_rfl) rfl) _ _ hmax hbytes _ hseq
  change CallsIn _ _ Try.prog 32 _ _ _ at cS
  refine (callsIn_wide.1 cS).mono ?_
  rintro e w' ⟨v, ss, rfl, hS, hrow, hnil, hb⟩
  rw [World.size_alloc] at hrow hb
  exact ⟨v, ss, rfl, hS, hrow, hnil, hb⟩
end Go.Proofs.Ytkkoookmnnmiiaa

namespace Go.Proofs.Ytkkoookmnnmiiaa
open Go.RowKit Go.Shelf Go.Maps

theorem infoA : (Try.prog.info? 36).map (fun i => (i.zero, i.size, i.bytes)) = some (some (.agg (apA ⟨0, zeroE⟩)), 8, 88) := by kernel_rfl
theorem aps_snoc (l : List Ap) (x : Ap) : aps (l ++ [x]) = aps l ++ apC x := by
  unfold aps
  rw [List.flatMap_append]
  simp
theorem ap_one (x : Ap) : ∀ u ∈ apC x, u.oneCell' = true := by
  intro u hu
  simp [apC, apA] at hu
  rcases hu with rfl | rfl | rfl | rfl | rfl | rfl | rfl | rfl <;> rfl
theorem chosen_len (f : List Ap) : (chosenJ f).length = (keysJ f).length := by
  unfold chosenJ
  rw [List.length_map]
/-- What the look-up of a key finds. -/
theorem chosen_at {f : List Ap} {k : Nat} (hk : k < (keysJ f).length) : (∃ x ∈ f, x.idx = (keysJ f)[k]) ∧ ∃ e, (chosenJ f)[k]? = some ⟨(keysJ f)[k], e⟩ ∧ firstJ f (keysJ f)[k] = some e := by
  have hm := (keys_mem f _).1 (List.getElem_mem hk)
  refine ⟨hm, ?_⟩
  have hs := first_key.2 (List.getElem_mem hk)
  obtain ⟨e, he⟩ := Option.isSome_iff_exists.1 hs
  refine ⟨e, ?_, he⟩
  unfold chosenJ
  rw [List.getElem?_map, List.getElem?_eq_getElem hk]
  show some (atJ f (keysJ f)[k]) = _
  unfold atJ
  rw [he]
  rfl
end Go.Proofs.Ytkkoookmnnmiiaa

namespace Go.Proofs.Ytkkoookmnnmiiaa
open Go.RowKit Go.Shelf Go.Maps

theorem gb_belowJ {w w' : World} {r : Option Nat} (h : w.grownBy w' r) {B : Nat} (hB : B ≤ w.heap.size) (hr : ∀ k, r = some k → B ≤ k) : Below B w w' := (Below.refl _ _).grown h hB hr
set_option maxRecDepth 100000 in
set_option maxHeartbeats 2000000 in
theorem chosen_any {a : Option Addr} {ls : List PartA} {w : World} (h : PartsA w a ls) (cap : Nat) (hlen : ls.length ≤ 1000000) (hlen2 : ∀ x ∈ ls, x.2.2.length ≤ 1000000) (hok : ∀ x ∈ ls, ∀ y ∈ x.2.2, okI y) : Calls Try.prog 12 #[.slice a ls.length cap] w fun e w' => ∃ v, e = .returned v ∧ w'.ownsRow w.heap.size 36 8 v (chosenJ (flatJ (lstA ls))).length (aps (chosenJ (flatJ (lstA ls)))) ∧ Below w.heap.size w w' := by
  obtain ⟨i0, hi, hz0, hz1, hz2⟩ := info_parts infoA
  have hg := gather_any h cap hlen hlen2 hok
  have hfb : (flatJ (lstA ls)).length ≤ 1000000 * 1000000 := by
    refine Nat.le_trans (flat_len_le _) (Nat.le_trans (flat_le (L := lstA ls) (b := 1000000) fun x hx => ?_) (Nat.mul_le_mul_right _ (by unfold lstA; rw [List.length_map]; exact hlen)))
    obtain ⟨y, hy, rfl⟩ := List.mem_map.1 hx
    exact hlen2 _ hy
  have hwf : ∀ x ∈ flatJ (lstA ls), okI x := fun x hx => by
    obtain ⟨l, hl, hxl⟩ := List.mem_flatten.1 (List.mem_filter.1 hx).1
    obtain ⟨y, hy, rfl⟩ := List.mem_map.1 hl
    exact hok y hy x hxl
  generalize flatJ (lstA ls) = f at *
  have hT := told_map f
  have hkl := Nat.le_trans (keys_len f) hfb
  have hcl := chosen_len f
  have hsz : Maps.size (mapJ f) ≤ 1000000 * 1000000 := by rw [size_le hT]; exact hkl
  have HW := Lib.hid hwf
  have HT := Lib.hid hT
  have HC := Lib.hid (fun k (hk : k < (keysJ f).length) => chosen_at hk)
  clear hwf hT h hok
  go_enter Try.func12, Try.ntmps12
  go_wp2_with (first
    | (go_at_call 31; refine hg.mono ?_; rintro e w1 ⟨mb, v, n, rfl, hmb, hM, hn, hrow, hb⟩)
    | (go_at_call 33; refine (keys_call _ _).mono ?_; rintro e w2 ⟨rfl, rfl⟩)
    | (go_at_call 32; refine (sorted_call hM (by unfold maxLen; omega) (by omega)).mono ?_; rintro e w3 ⟨vs, ss, rfl, hS, hrs, hnil, hb3⟩; rw [HT.out.sorted hS, show ss.length = (keysJ f).length from (hS.trans HT.out.perm.symm).length_eq] at hrs; obtain ⟨ad, c, rfl, hR, _⟩ := Row.of_owns hrs))
  have hmbl := hM.lt
  have hb3s := hb3.size
  rw [World.size_alloc] at hb3s
  have hM3 := map_at (hM.alloc (Obj.cells #[.map (some mb)] 65)) (hb3.block mb (by omega))
  have hbw3 : Below w.heap.size w w3 := (hb.trans ((blw w1 (Obj.cells #[.map (some mb)] 65)).mono hb.size)).trans (hb3.mono (by have := hb.size; omega))
  have HK := Lib.hid hkl
  clear hb3 hM hrs hnil hS hrow hg hb hsz
  go_loopw [5, 17] (fun v0 i wr => ∃ (k : Nat) (v : Value), v0 = v ∧ k ≤ (keysJ f).length ∧ i = .int .i64 k ∧ wr.ownsRow w3.heap.size 36 8 v k (aps ((chosenJ f).take k)) ∧ Below w3.heap.size w3 wr) (fun _ i _ => (keysJ f).length - (Go.RowKit.intOf i).toNat)
  case atStart => exact ⟨0, _, rfl, by omega, rfl, World.ownsRow_nil _ _ _ _, Below.refl _ _⟩
  case round =>
    obtain ⟨k, v, rfl, hk, rfl, hown, hbr⟩ := hrel
    by_cases hlt : k < (keysJ f).length
    · obtain ⟨⟨x, hx, hxi⟩, e, hce, hfe⟩ := HC.out k hlt
      obtain ⟨b, off, rfl, hcs⟩ := (hR.below0 hbr).at (k := k) (by rw [List.length_map]; exact hlt)
      have hck := hcs k _ (by rw [List.getElem?_map, List.getElem?_eq_getElem hlt]; rfl)
      have hwk : (Lit.int .i64 (keysJ f)[k]).wf = true := by rw [← hxi]; exact HW.out x hx
      have htk : (chosenJ f).take (k + 1) = (chosenJ f).take k ++ [⟨(keysJ f)[k], e⟩] := by
        obtain ⟨hlt2, he2⟩ := List.getElem?_eq_some_iff.1 hce
        rw [List.take_succ_eq_append_getElem hlt2, he2]
      have HTK := Lib.hid htk
      obtain ⟨u, ps, hrun, hru⟩ := (map_at hM3 (hbr.block mb (by omega))).lookup (int_keyed Try.underlying3) Try.underlying65 (zeroEn wr) (rdE_mk zE0) (keyOf_int_mk Try.underlying3 hwk)
      rw [show (Lit.int .i64 (keysJ f)[k]) = keyL (keysJ f)[k] from rfl, HT.out.at_ _ e _ hfe] at hru
      have hu := rdE_inv hru
      subst hu
      have hge := fun j hj => (hown.lt j hj).1
      have hkm := HK.out
      clear hcs htk hce hfe hx hxi hru
      generalize (keysJ f)[k] = yi at *
      have HI1 := Lib.hid (show k + 1 ≤ (keysJ f).length by omega)
      obtain ⟨kd, cl, sq, ⟨ok, key, old, val⟩⟩ := e
      simp only [enA] at hrun
      have hcn : ∀ j u, (apC ⟨yi, ⟨kd, cl, sq, ⟨ok, key, old, val⟩⟩⟩)[j]? = some u → (wr.alloc (Obj.cells #[.int .i64 yi, .int .u8 kd, .int .i64 cl, .int .i64 sq, .int .u8 ok, .string key, .string old, .string val] 36)).cell? ((⟨wr.heap.size, 0, none⟩ : Addr).add j) = some u := fun j u hj => by
        rw [addr_add, Nat.zero_add]
        exact blk_cell (heap_alloc_new wr (Obj.cells #[.int .i64 yi, .int .u8 kd, .int .i64 cl, .int .i64 sq, .int .u8 ok, .string key, .string old, .string val] 36)) j u (by simpa [apC, apA] using hj)
      have hob := hown.alloc (Obj.cells #[.int .i64 yi, .int .u8 kd, .int .i64 cl, .int .i64 sq, .int .u8 ok, .string key, .string old, .string val] 36)
      have hbs := hbr.size
      go_wp2_with (at_builtin; refine wpList_append_own _ rfl _ _ 29 rfl w3.heap.size 36 i0 (.agg (apA ⟨0, zeroE⟩)) 8 88 Try.underlying29 hi hz0 hz1 hz2 rfl (by decide) _ _ _ rfl hob ⟨wr.heap.size, 0, none⟩ 1 1 (apC ⟨yi, ⟨kd, cl, sq, ⟨ok, key, old, val⟩⟩⟩) rfl rfl hcn (ap_one _) (by unfold maxLen; omega) (by omega) (by rw [World.size_alloc]; omega) ?_; intro v' w' hown' hgrow _)
      go_roundw
      case rel => exact ⟨k + 1, _, rfl, HI1.out, by go_num, by rw [HTK.out, aps_snoc]; exact hown', (hbr.alloc (by omega) (Obj.cells #[.int .i64 yi, .int .u8 kd, .int .i64 cl, .int .i64 sq, .int .u8 ok, .string key, .string old, .string val] 36)).trans (gb_belowJ hgrow (by rw [World.size_alloc]; omega) hge)⟩
      case measure => have := HI1.out; simp [Go.RowKit.intOf]; omega
    · obtain rfl : k = (keysJ f).length := by omega
      rw [← hcl, List.take_length] at hown
      go_wp2
      go_ret
      exact ⟨_, rfl, owns_mono hown hbw3.size, hbw3.trans (hbr.mono hbw3.size)⟩
end Go.Proofs.Ytkkoookmnnmiiaa

