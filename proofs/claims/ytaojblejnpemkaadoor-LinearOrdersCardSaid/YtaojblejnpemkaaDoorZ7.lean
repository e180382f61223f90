/- Texts that the claim leans on, part 7: L12, RowSt, L13, LQ, QI, L2, L4, L5. -/
import Derived.Test.YtaojblejnpemkaaDoorZ1
import Derived.Test.YtaojblejnpemkaaDoorZ2
import Derived.Test.YtaojblejnpemkaaDoorZ3
import Derived.Test.YtaojblejnpemkaaDoorZ4
import Derived.Test.YtaojblejnpemkaaDoorZ5
import Derived.Test.YtaojblejnpemkaaDoorZ6
import Derived.Test.YtaojblejnpemkaaDoorRows
import Derived.WalkKit
import Derived.WalkSpells
import Derived.WalkLawsBesides
import Derived.Handy
import Derived.Deep.QuietTactic
import Derived.BigQuiet
import Derived.Deep.DeepCutAuto
import Derived.Lib.Hide
import Derived.RegionTactic
import Derived.ChangeAlike
import Derived.Laws.ResultCell
import Derived.Outline
import Derived.IntWalk
import Derived.Shelf.Strconv.Quote
import Derived.Shelf.Strings.BuilderK
import Derived.Shelf.Strings.BuilderF
import Derived.Lib.LaidPrint
import Derived.Lib.QuoteLoop
import Derived.Lib.MapLaws
import Derived.Laws.BytesArg
import Derived.LoopN
import Derived.Maps.OwnSet
import Derived.Maps.Keyed
import Derived.WideKeyEntry
import Derived.DeepKeys4
import Derived.Laws.BitsAllLaws
import Derived.Laws.Shifts
import Derived.Laws.Rows
import Derived.Deep.Quiet
import Derived.Deep.RegionHeld3
import Derived.Laws.EntriesVeiled
import Derived.StillTailTactics
import Derived.Deep.RegionWith
import Derived.Lib.Overlaps
import Derived.ProofKit
import Derived.OpenShut
import Derived.Laws.Strings
import Derived.Laws.CopyOwn
import Derived.Laws.CopyRow
import Derived.Laws.NewBlocks
import Derived.Deep.RegionLaw
namespace Go.Proofs.YtaojblejnpemkaaDoor
open Go.RowKit Go.Maps
def doneC (d : Dn) : List Value := [.int .i64 d.cli, .int .u8 d.op.kind, .string d.op.key, .string d.op.old, .string d.op.val, .int .u8 d.ah, .int .u8 d.be, .bool d.lost]
theorem doneC_len (d : Dn) : (doneC d).length = 8 := rfl
structure SlD (w : World) (a : Option Addr) (cap : Nat) (l : List Dn) : Prop where
  row : Row w a (l.flatMap doneC)
  le : l.length ≤ cap
  max : cap ≤ maxLen
theorem SlD.below {w w' : World} {a : Option Addr} {cap : Nat} {l : List Dn} (h : SlD w a cap l) (hb : Below w.heap.size w w') : SlD w' a cap l := ⟨h.row.below0 hb, h.le, h.max⟩
def greatP (l : List Dn) (most : Nat) : Bool := decide (most < l.length) || !l.all fun d => mayO d.op
set_option maxRecDepth 100000 in
set_option maxHeartbeats 4000000 in
theorem great_any (a : Option Addr) (cap : Nat) (l : List Dn) (most : Nat) (hm : most ≤ 1000) (w : World) (hs : SlD w a cap l) :
    Calls Tryd.prog 15 #[.slice a l.length cap, .int .i64 most] w fun e w' => e = .returned (.bool (greatP l most)) ∧ Below w.heap.size w w' := by
  have hr := hs.row
  have hle := hs.le
  have hmx := hs.max
  unfold maxLen at hmx
  by_cases hl : most < l.length
  · have hg : greatP l most = true := by unfold greatP; rw [decide_eq_true hl]; rfl
    rw [hg]
    go_enter Tryd.func15, Tryd.ntmps15
    go_wp2
    go_ret
    exact ⟨rfl, Below.refl _ _⟩
  · have hg : greatP l most = !l.all fun d => mayO d.op := by unfold greatP; rw [decide_eq_false hl]; rfl
    have HG := Lib.hid hg
    clear hg
    go_enter Tryd.func15, Tryd.ntmps15
    refine wp_seq_k (fun K hK => ?_)
    have HK := Lib.hid hK
    clear hK
    go_wp2
    refine HK.out _ _ ?_
    clear HK
    refine wp_seq_k (fun K hK => ?_)
    have HK := Lib.hid hK
    clear hK
    go_wp2
    refine HK.out _ _ ?_
    clear HK
    go_wp2_with fail
    go_loopw [5] (fun i wr => ∃ k : Nat, k ≤ l.length ∧ i = .int .i64 k ∧ Below w.heap.size w wr ∧ Hid (∀ j (h : j < l.length), j < k → mayO l[j].op = true)) (fun i _ => l.length - (intOf i).toNat)
    case atStart => exact ⟨0, by omega, rfl, Below.refl _ _, Lib.hid fun j _ h => absurd h (by omega)⟩
    case round =>
      obtain ⟨k, hk, rfl, hbr, HJ⟩ := hrel
      by_cases hlt : k < l.length
      · obtain ⟨bb, off, rfl, hblt, ht⟩ := hr.flat doneC_len (by decide) (List.getElem?_eq_getElem hlt)
        have hbs := hbr.size
        have c1 := (hbr.cell hblt).trans (ht 1 (.int .u8 l[k].op.kind) rfl)
        have c2 := (hbr.cell hblt).trans (ht 2 (.string l[k].op.key) rfl)
        have c3 := (hbr.cell hblt).trans (ht 3 (.string l[k].op.old) rfl)
        have c4 := (hbr.cell hblt).trans (ht 4 (.string l[k].op.val) rfl)
        obtain ⟨r, hrr⟩ : ∃ r, mayO l[k].op = r := ⟨_, rfl⟩
        have HD := Lib.hid (show mayO ⟨l[k].op.kind, l[k].op.key, l[k].op.old, l[k].op.val⟩ = r from hrr)
        have HR := Lib.hid hrr
        clear ht hrr
        generalize l[k].op.kind = kd at *
        generalize l[k].op.key = key at *
        generalize l[k].op.old = old at *
        generalize l[k].op.val = val at *
        go_wp2_with (go_at_call 27; refine (pmayO_any _ _ _ _ _ _ HD.out).mono ?_; rintro e w3 ⟨rfl, hb3⟩; have hb4 := hbr.trans (hb3.mono hbs); cases r)
        · go_wp2
          (try simp only [Exit.noGoto])
          go_ret
          refine ⟨?_, hb4⟩
          rw [HG.out]
          have : l.all (fun d => mayO d.op) = false := by
            rw [List.all_eq_false]
            exact ⟨l[k], List.getElem_mem hlt, by rw [HR.out]; simp⟩
          rw [this]
          rfl
        · go_wp2
          go_roundw
          case rel =>
            refine ⟨k + 1, by omega, by go_num, hb4, Lib.hid fun j h h2 => ?_⟩
            by_cases hjk : j = k
            · subst hjk; exact HR.out
            · exact HJ.out j h (by omega)
          case measure => simp [intOf]; omega
      · go_wp2
        go_ret
        refine ⟨?_, hbr⟩
        rw [HG.out]
        have : l.all (fun d => mayO d.op) = true := by
          rw [List.all_eq_true]
          intro d hd
          obtain ⟨j, hj, rfl⟩ := List.getElem_of_mem hd
          exact HJ.out j hj (by omega)
        rw [this]
        rfl
end Go.Proofs.YtaojblejnpemkaaDoor
namespace Go.Proofs.YtaojblejnpemkaaDoor
open Go.RowKit
theorem split_at {α : Type} {l : List α} {i : Nat} {x : α} (h : l[i]? = some x) : l = l.take i ++ x :: l.drop (i + 1) ∧ (l.take i).length = i := by
  have hlt := (List.getElem?_eq_some_iff.1 h).1
  have hx := (List.getElem?_eq_some_iff.1 h).2
  refine ⟨?_, by rw [List.length_take]; omega⟩
  conv => lhs; rw [← List.take_append_drop i l, ← List.getElem_cons_drop hlt, hx]
theorem flat_splice {α : Type} {f : α → List Value} {n : Nat} (hf : ∀ x, (f x).length = n) {l : List α} {i j : Nat} {x x' : α} {vs : List Value} (hx : l[i]? = some x) (hj : j + vs.length ≤ n) (hv : (f x).take j ++ vs ++ (f x).drop (j + vs.length) = f x') :
    (l.flatMap f).take (i * n + j) ++ vs ++ (l.flatMap f).drop (i * n + j + vs.length) = (l.set i x').flatMap f := by
  obtain ⟨e, hi⟩ := split_at hx
  generalize hA : l.take i = A at *
  generalize hB : l.drop (i + 1) = B at *
  clear hA hB
  subst e
  have hlA : (A.flatMap f).length = i * n := by rw [flat_len hf, hi, Nat.mul_comm]
  rw [List.set_append_right _ _ (by omega), show i - A.length = 0 by omega, List.set_cons_zero]
  simp only [List.flatMap_append, List.flatMap_cons]
  have h1 : (A.flatMap f ++ (f x ++ B.flatMap f)).take (i * n + j) = A.flatMap f ++ (f x).take j := by
    rw [List.take_append, List.take_of_length_le (by omega), hlA, show i * n + j - i * n = j by omega, List.take_append_of_le_length (by rw [hf]; omega)]
  have h2 : (A.flatMap f ++ (f x ++ B.flatMap f)).drop (i * n + j + vs.length) = (f x).drop (j + vs.length) ++ B.flatMap f := by
    rw [List.drop_append, List.drop_of_length_le (by omega), hlA, List.nil_append, show i * n + j + vs.length - i * n = j + vs.length by omega, List.drop_append_of_le_length (by rw [hf]; omega)]
  rw [h1, h2, ← hv]
  simp only [List.append_assoc]
theorem flat_set {α : Type} {f : α → List Value} {n : Nat} (hf : ∀ x, (f x).length = n) {l : List α} {i j : Nat} {x x' : α} {u : Value} (hx : l[i]? = some x) (hj : j < n) (hv : (f x).set j u = f x') : (l.flatMap f).set (i * n + j) u = (l.set i x').flatMap f := by
  have h := flat_splice hf (vs := [u]) hx hj (j := j) (x' := x') (by rw [← hv, List.set_eq_take_append_cons_drop, if_pos (by rw [hf]; exact hj)]; simp)
  have hlt := (List.getElem?_eq_some_iff.1 hx).1
  rw [← h, List.set_eq_take_append_cons_drop, if_pos (by rw [flat_len hf]; have := Nat.mul_le_mul_left n (show i + 1 ≤ l.length from hlt); rw [Nat.mul_succ] at this; rw [Nat.mul_comm i n]; omega)]
  simp
section
variable {w w' : World} {base n size g cap : Nat} {e : TypeId} {xs : List Value} {cs cs' : Array Value}
theorem own_block (h : w.ownsRow base e size (.slice (some ⟨g, 0, none⟩) n cap) n xs) : ∃ cs, w.heap[g]? = some (.cells cs e (0, 0)) ∧ cs.toList.take (n * size) = xs ∧ base ≤ g ∧ n * size ≤ cs.size := by
  obtain ⟨_, h | ⟨g', cap', cur, hv, hb, hc, h1, h2, h3, h4⟩⟩ := h
  · cases h.1
  · injection hv with hv1 _ hv3
    injection hv1 with hv1
    injection hv1 with hv1
    subst hv1 hv3
    exact ⟨cur, hc, h4, hb, by rw [h3]; exact Nat.mul_le_mul_right _ h1⟩
theorem own_splice (h : w.ownsRow base e size (.slice (some ⟨g, 0, none⟩) n cap) n xs) (hc : w.heap[g]? = some (.cells cs e (0, 0))) (hc' : w'.heap[g]? = some (.cells cs' e (0, 0))) {o : Nat} {vs : List Value} (ho : o + vs.length ≤ n * size)
    (hs : (cs.toList.take o ++ vs ++ cs.toList.drop (o + vs.length)).toArray = cs') : w'.ownsRow base e size (.slice (some ⟨g, 0, none⟩) n cap) n (xs.take o ++ vs ++ xs.drop (o + vs.length)) := by
  obtain ⟨hl, h | ⟨g', cap', cur, hv, hb, hcu, h1, h2, h3, h4⟩⟩ := h
  · cases h.1
  · injection hv with hv1 _ hv3
    injection hv1 with hv1
    injection hv1 with hv1
    subst hv1 hv3
    rw [hc] at hcu
    injection hcu with hcu
    injection hcu with hcu
    subst hcu
    have hsz : n * size ≤ cs.toList.length := by rw [Array.length_toList, h3]; exact Nat.mul_le_mul_right _ h1
    refine ⟨?_, .inr ⟨g, cap, cs', rfl, hb, hc', h1, h2, ?_, ?_⟩⟩
    · simp only [List.length_append, List.length_take, List.length_drop]
      omega
    · rw [← hs, List.size_toArray, ← h3]
      simp only [List.length_append, List.length_take, List.length_drop, Array.length_toList]
      rw [Array.length_toList] at hsz
      omega
    · rw [← hs, ← h4, List.toList_toArray]
      rw [List.take_append, List.take_append]
      simp only [List.length_append, List.length_take]
      rw [Nat.min_eq_left (show o ≤ cs.toList.length by omega), List.take_take, Nat.min_eq_right (show o ≤ n * size by omega), List.take_of_length_le (l := vs) (by omega), List.take_take, Nat.min_eq_left (show o ≤ n * size by omega), List.drop_take,
        show n * size - (o + vs.length) = n * size - (o + vs.length) from rfl]
end
end Go.Proofs.YtaojblejnpemkaaDoor
namespace Go.Proofs.YtaojblejnpemkaaDoor
open Go.RowKit Go.Maps
theorem st_all {cs : Array Value} {v : Value} {vs : Array Value} {n : Nat} (h : cs.size = n) (hv : v.cells = vs ∧ vs.size = n ∧ ∀ u ∈ vs.toList, u.oneCell' = true) :
    0 + n ≤ cs.size ∧ v.cells.size = n ∧ (∀ u ∈ v.cells.toList, u.oneCell' = true) ∧ (cs.toList.take 0 ++ v.cells.toList ++ cs.toList.drop (0 + n)).toArray = vs := by
  rw [hv.1]
  refine ⟨by omega, hv.2.1, hv.2.2, ?_⟩
  rw [List.take_zero, List.nil_append, List.drop_of_length_le (by rw [Array.length_toList]; omega), List.append_nil, Array.toArray_toList]
theorem at_sub {k a : Nat} (hk : k ≤ 40) (ha : a ≤ 255) : IntKind.i64.wrap (600 * (k : Int) + 600 - IntKind.i64.wrap (IntKind.i64.wrap (a : Int) * 2)) = 600 * (k : Int) + 600 - 2 * (a : Int) := by
  rw [IntWalk.i64_in (a : Int) (by omega), IntWalk.i64_in ((a : Int) * 2) (by omega), IntWalk.i64_in _ (by omega)]
  omega
theorem at_add {k a : Nat} (hk : k ≤ 40) (ha : a ≤ 255) : IntKind.i64.wrap (IntKind.i64.wrap (600 * (k : Int) + 600 + IntKind.i64.wrap (IntKind.i64.wrap (a : Int) * 8)) + 1) = 600 * (k : Int) + 600 + 8 * (a : Int) + 1 := by
  rw [IntWalk.i64_in (a : Int) (by omega), IntWalk.i64_in ((a : Int) * 8) (by omega), IntWalk.i64_in (600 * (k : Int) + 600 + (a : Int) * 8) (by omega), IntWalk.i64_in _ (by omega)]
  omega
theorem sH_succ (l : List Dn) (k : Nat) : sH l (k + 1) = (doP (sH l k) (dnN l k).op).1 := by rw [sH]
theorem pH_succ (l : List Dn) (k : Nat) : pH l (k + 1) = if ((dnN l k).lost && decide (pH l k < 8)) = true then pH l k + 1 else pH l k := by rw [pH]
theorem hAt_eq (l : List Dn) (k : Nat) : hAt l k = ⟨(dnN l k).cli % 4, (dnN l k).op, if ((dnN l k).lost && decide (pH l k < 8)) = true then nilRp else (doP (sH l k) (dnN l k).op).2, 600 * (k : Int) + 600 - 2 * ((dnN l k).ah : Int), if ((dnN l k).lost && decide (pH l k < 8)) = true then 0 else 600 * (k : Int) + 600 + 8 * ((dnN l k).be : Int) + 1⟩ := by rw [hAt, lostH]
theorem dn_at {l : List Dn} {k : Nat} (h : k < l.length) : l[k]? = some (dnN l k) := by unfold dnN; rw [List.getD_eq_getElem?_getD, List.getElem?_eq_getElem h]; rfl
theorem st_repC (c : Cl) (r : Rp) : 5 + 3 ≤ (clvA c).size ∧ (Value.agg #[.int .i64 r.err, .bool r.found, .string r.val]).cells.size = 3 ∧ (∀ u ∈ (Value.agg #[.int .i64 r.err, .bool r.found, .string r.val]).cells.toList, u.oneCell' = true) ∧
    ((clvA c).toList.take 5 ++ (Value.agg #[.int .i64 r.err, .bool r.found, .string r.val]).cells.toList ++ (clvA c).toList.drop (5 + 3)).toArray = clvA { c with rep := r } :=
  ⟨by show 8 ≤ 10; decide, rfl, (rpl_new r).2.2, rfl⟩
theorem st_enC (c : Cl) (e : Int) : 9 + 1 ≤ (clvA c).size ∧ (Value.int .i64 e).cells.size = 1 ∧ (∀ u ∈ (Value.int .i64 e).cells.toList, u.oneCell' = true) ∧ ((clvA c).toList.take 9 ++ (Value.int .i64 e).cells.toList ++ (clvA c).toList.drop (9 + 1)).toArray = clvA { c with en := e } :=
  ⟨by show 10 ≤ 10; decide, rfl, by simp [Value.cells, Value.oneCell'], rfl⟩
theorem wpList_app1 {P : Program} {w : World} {ops : Array Oper} {rest : List Oper} {o : Oper} {a : Act} {Q : Exit → Act → World → Prop} (hgd : o.guard = none) (s x : Operand) (t e : TypeId) {size bytes : Nat} (hT : ElemT P t e size bytes)
    (ho : o.op = .call { callee := .builtin .append, args := #[s, x], argTypes := #[t, t] })
    (base : Nat) (v : Value) (n : Nat) (xs : List Value) (hs : a.eval s = v) (hown : w.ownsRow base e size v n xs)
    (cs : Array Value) (hcs : cs.size = size) (h1 : ∀ u ∈ cs.toList, u.oneCell' = true) (e' : TypeId) (hx : a.eval x = .slice (some ⟨w.heap.size, 0, none⟩) 1 1)
    (hn : n < 4294967296) (hby : bytes ≤ 4096) (hbase : base ≤ w.heap.size)
    (h : ∀ v' w', w'.ownsRow base e size v' (n + 1) (xs ++ cs.toList) → (w.alloc (.cells cs e')).grownBy w' v.ownBlock → wpList P ops Q rest (a.put o.dst v') w') :
    wpList P ops Q (o :: rest) a (w.alloc (.cells cs e')) := by
  obtain ⟨i, z, ht, _⟩ := hT.ex
  refine wpList_appendN' hgd s x t t e e hT ht ho base v n xs hs (hown.alloc _) ⟨w.heap.size, 0, none⟩ 1 1 cs.toList hx (by simp [hcs]) (fun j u hj => ?_) h1 (by omega) hby (by simp; omega) h
  rw [addr_add, Nat.zero_add, cell_new]
  simpa using hj
theorem own_ne2 {w : World} {b1 b2 s1 s2 n1 n2 : Nat} {e1 e2 : TypeId} {v1 v2 : Value} {x1 x2 : List Value} (h1 : w.ownsRow b1 e1 s1 v1 n1 x1) (h2 : w.ownsRow b2 e2 s2 v2 n2 x2) (hne : e1 ≠ e2) : v1.ownBlock = none ∨ v1.ownBlock ≠ v2.ownBlock := by
  rcases h1.2 with ⟨rfl, _⟩ | ⟨g1, c1, u1, rfl, _, k1, _⟩
  · exact .inl rfl
  · rcases h2.2 with ⟨rfl, _⟩ | ⟨g2, c2, u2, rfl, _, k2, _⟩
    · exact .inr (fun e => by cases e)
    · refine .inr (fun e => ?_)
      have e : some g1 = some g2 := e
      injection e with e
      rw [e, k2] at k1
      injection k1 with k1
      injection k1 with _ k1
      exact hne k1.symm
theorem bl_tr {w w' w'' : World} (h1 : Below w.heap.size w w') (h2 : Below w'.heap.size w' w'') : Below w.heap.size w w'' := h1.trans (h2.mono h1.size)
theorem sH_may (l : List Dn) : ∀ k, mayS (sH l k) = true
  | 0 => may_nil
  | k + 1 => doP_may _ (sH_may l k)
theorem cli_mod (x : Int) : IntKind.i64.wrap ((IntKind.u64.wrap x).tmod 4) = x % 4 := by
  have h : IntKind.u64.wrap x = x % 18446744073709551616 := by
    unfold IntKind.wrap
    rfl
  rw [h, Int.tmod_eq_emod_of_nonneg (by omega)]
  have h2 : x % 18446744073709551616 % 4 = x % 4 := by omega
  rw [h2]
  have : ∀ y : Int, 0 ≤ y → y < 4 → IntKind.i64.wrap y = y := by
    intro y h1 h2
    have : y = 0 ∨ y = 1 ∨ y = 2 ∨ y = 3 := by omega
    rcases this with rfl | rfl | rfl | rfl <;> rfl
  exact this _ (by omega) (by omega)
theorem elCallL : ElemT Tryd.prog 22 38 10 112 := ElemT.of (.agg (clvA ⟨0, ⟨0, ⟨#[]⟩, ⟨#[]⟩, ⟨#[]⟩⟩, ⟨0, false, ⟨#[]⟩⟩, 0, 0⟩)) Tryd.underlying22 (by kernel_rfl) rfl (by decide)
set_option maxRecDepth 100000 in
set_option maxHeartbeats 4000000 in
theorem history_any (a : Option Addr) (cap : Nat) (l : List Dn) (hl : l.length ≤ 40) (hok : OkDn l) (w : World) (hs : SlD w a cap l) :
    Calls Tryd.prog 16 #[.slice a l.length cap] w fun e w' => (∃ v, e = .returned v ∧ w'.ownsRow w.heap.size 38 10 v l.length (calls (hist l))) ∧ Below w.heap.size w w' := by
  have hr := hs.row
  have hle := hs.le
  have hmx := hs.max
  unfold maxLen at hmx
  have HOK := Lib.hid hok
  clear hok
  go_enter Tryd.func16, Tryd.ntmps16
  refine wp_seq_k (fun K hK => ?_)
  have HK := Lib.hid hK
  clear hK
  go_wp2
  refine HK.out _ _ ?_
  clear HK
  refine wp_seq_k (fun K hK => ?_)
  have HK := Lib.hid hK
  clear hK
  go_wp2
  refine HK.out _ _ ?_
  clear HK
  refine wp_seq_k (fun K hK => ?_)
  have HK := Lib.hid hK
  clear hK
  go_wp2
  refine HK.out _ _ ?_
  clear HK
  refine wp_seq_k (fun K hK => ?_)
  have HK := Lib.hid hK
  clear hK
  go_wp2
  refine HK.out _ _ ?_
  clear HK
  go_wp2_with fail
  go_loopw [3, 4, 5, 6] (fun s o p i wr => ∃ k : Nat, k ≤ l.length ∧ i = .int .i64 k ∧ p = .int .i64 (pH l k) ∧ Below w.heap.size w wr ∧ wr.ownsRow w.heap.size 72 2 s (sH l k).length (prs (sH l k)) ∧ wr.ownsRow w.heap.size 38 10 o k (calls (histN l k))) (fun _ _ _ i _ => l.length - (intOf i).toNat)
  case atStart => exact ⟨0, by omega, rfl, rfl, Below.refl _ _, World.ownsRow_nil _ _ _ _, World.ownsRow_nil _ _ _ _⟩
  case round =>
    obtain ⟨k, hk, rfl, rfl, hbr, hS, hO⟩ := hrel
    by_cases hlt : k < l.length
    · obtain ⟨bb, off, rfl, hblt, ht⟩ := hr.flat doneC_len (by decide) (dn_at hlt)
      have hda := okdn_at HOK.out hlt
      have hHA := hAt_eq l k
      have hs1 := sH_succ l k
      have hp1 := pH_succ l k
      obtain ⟨d, hd0⟩ : ∃ d, dnN l k = d := ⟨_, rfl⟩
      rw [hd0] at ht hda hs1 hp1 hHA
      have hk40 : k ≤ 40 := by omega
      have hah := hda.2.1
      have hbe := hda.2.2
      have HS1 := Lib.hid hs1
      have HP1 := Lib.hid hp1
      have HHA := Lib.hid hHA
      have hbs := hbr.size
      have c0 : wr.cell? ⟨bb, off + k * 8, none⟩ = some (.int .i64 d.cli) := (hbr.cell hblt).trans (ht 0 (.int .i64 d.cli) rfl)
      have c5 := (hbr.cell hblt).trans (ht 5 (.int .u8 d.ah) rfl)
      have c6 := (hbr.cell hblt).trans (ht 6 (.int .u8 d.be) rfl)
      have c7 := (hbr.cell hblt).trans (ht 7 (.bool d.lost) rfl)
      have hop : ∀ (j : Nat) u, (#[Value.int .u8 d.op.kind, .string d.op.key, .string d.op.old, .string d.op.val] : Array Value)[j]? = some u → wr.cell? ⟨bb, off + k * 8 + 1 + j, none⟩ = some u := fun j u h => by
        rw [Nat.add_assoc (off + k * 8)]
        refine (hbr.cell hblt).trans (ht (1 + j) u ?_)
        rw [Nat.add_comm]
        match j, h with
        | 0, h => exact h
        | 1, h => exact h
        | 2, h => exact h
        | 3, h => exact h
      clear ht hda hd0 hs1 hp1 hHA
      refine wp_seq_k (fun K hK => ?_)
      have HK := Lib.hid hK
      clear hK
      go_wp2
      refine HK.out _ _ ?_
      clear HK
      refine wp_seq_k (fun K hK => ?_)
      have HK2 := Lib.hid hK
      clear hK
      refine wp_block ?_
      refine wp_seq_k (fun K hK => ?_)
      have HK := Lib.hid hK
      clear hK
      go_wp2
      refine HK.out _ _ ?_
      clear HK
      refine wp_seq_k (fun K hK => ?_)
      have HK3 := Lib.hid hK
      clear hK
      go_wp2_with fail
      have hS8 : Below wr.heap.size wr wr.drew := (Below.refl _ _).drew
      refine wp_region_held_drew (S := fun w' => Below wr.heap.size wr w') (by kernel_rfl) hS8 (fun hS0 => ?_)
      clear hS0
      have hbx : bb < wr.heap.size := by omega
      refine wpAnyH_take (i := 0) (oi := ⟨_, _, _, _, _, _⟩) (v := ?_) rfl (by kernel_rfl) (by kernel_rfl) (by kernel_rfl) (fun _ _ _ h => h) (Or.inl ⟨by rfl, ?_⟩) (by assumption) ?_
      rotate_left
      · intro wS hSw; go_simp; (try with_reducible rfl)
      (try simp only [Act.put]); (try simp only [List.setIfInBounds_toArray]); (try simp only [List.set_cons_succ]); (try simp only [List.set_cons_zero])
      refine wpAnyH_take (i := 1) (oi := ⟨_, _, _, _, _, _⟩) (v := ?_) rfl (by kernel_rfl) (by kernel_rfl) (by kernel_rfl) (fun _ _ _ h => h) (Or.inl ⟨by rfl, ?_⟩) (by assumption) ?_
      rotate_left
      · intro wS hSw; go_simp; (try with_reducible rfl)
      (try simp only [Act.put]); (try simp only [List.setIfInBounds_toArray]); (try simp only [List.set_cons_succ]); (try simp only [List.set_cons_zero])
      refine wpAnyH_take (i := 2) (oi := ⟨_, _, _, _, _, _⟩) (v := ?_) rfl (by kernel_rfl) (by kernel_rfl) (by kernel_rfl) (fun _ _ _ h => h) (Or.inl ⟨by rfl, ?_⟩) (by assumption) ?_
      rotate_left
      · intro wS hSw; go_simp; (try with_reducible rfl)
      (try simp only [Act.put]); (try simp only [List.setIfInBounds_toArray]); (try simp only [List.set_cons_succ]); (try simp only [List.set_cons_zero])
      refine wpAnyH_take (i := 3) (oi := ⟨_, _, _, _, _, _⟩) (v := ?_) rfl (by kernel_rfl) (by kernel_rfl) (by kernel_rfl) (fun _ _ _ h => h) (Or.inl ⟨by rfl, ?_⟩) (by assumption) ?_
      rotate_left
      · intro wS hSw; go_simp; (try with_reducible rfl)
      (try simp only [Act.put]); (try simp only [List.setIfInBounds_toArray]); (try simp only [List.set_cons_succ]); (try simp only [List.set_cons_zero])
      refine wpAnyH_take (i := 4) (oi := ⟨_, _, _, _, _, _⟩) (v := ?_) rfl (by kernel_rfl) (by kernel_rfl) (by kernel_rfl) (fun _ _ _ h => h) (Or.inl ⟨by rfl, ?_⟩) (by assumption) ?_
      rotate_left
      · intro wS hSw
        have c := (hSw.cell hbx).trans c0; go_simp; (try with_reducible rfl)
      (try simp only [Act.put]); (try simp only [List.setIfInBounds_toArray]); (try simp only [List.set_cons_succ]); (try simp only [List.set_cons_zero])
      refine wpAnyH_take (i := 5) (oi := ⟨_, _, _, _, _, _⟩) (v := ?_) rfl (by kernel_rfl) (by kernel_rfl) (by kernel_rfl) (fun _ _ _ h => h) (Or.inl ⟨by rfl, ?_⟩) (by assumption) ?_
      rotate_left
      · intro wS hSw; go_simp; (try with_reducible rfl)
      (try simp only [Act.put]); (try simp only [List.setIfInBounds_toArray]); (try simp only [List.set_cons_succ]); (try simp only [List.set_cons_zero])
      refine wpAnyH_take (i := 6) (oi := ⟨_, _, _, _, _, _⟩) (v := ?_) rfl (by kernel_rfl) (by kernel_rfl) (by kernel_rfl) (fun _ _ _ h => h) (Or.inl ⟨by rfl, ?_⟩) (by assumption) ?_
      rotate_left
      · intro wS hSw; go_simp; (try with_reducible rfl)
      (try simp only [Act.put]); (try simp only [List.setIfInBounds_toArray]); (try simp only [List.set_cons_succ]); (try simp only [List.set_cons_zero])
      refine wpAnyH_take (i := 7) (oi := ⟨_, _, _, _, _, _⟩) (v := .int .i64 (d.cli % 4)) rfl (by kernel_rfl) (by kernel_rfl) (by kernel_rfl) (fun _ _ _ h => h) (Or.inl ⟨by rfl, fun wS hSw => ?_⟩) (by assumption) ?_
      · go_simp; exact cli_mod _
      (try simp only [Act.put]); (try simp only [List.setIfInBounds_toArray]); (try simp only [List.set_cons_succ]); (try simp only [List.set_cons_zero])
      refine wpAnyH_take (i := 8) (oi := ⟨_, _, _, _, _, _⟩) (v := ?_) rfl (by kernel_rfl) (by kernel_rfl) (by kernel_rfl) (fun _ _ _ h => h) (Or.inl ⟨by rfl, ?_⟩) (by assumption) ?_
      rotate_left
      · intro wS hSw; go_simp; (try with_reducible rfl)
      (try simp only [Act.put]); (try simp only [List.setIfInBounds_toArray]); (try simp only [List.set_cons_succ]); (try simp only [List.set_cons_zero])
      refine wpAnyH_take (i := 9) (oi := ⟨_, _, _, _, _, _⟩) (v := ?_) rfl (by kernel_rfl) (by kernel_rfl) (by kernel_rfl) (fun _ _ _ h => h) (Or.inl ⟨by rfl, ?_⟩) (by assumption) ?_
      rotate_left
      · intro wS hSw; go_simp; (try with_reducible rfl)
      (try simp only [Act.put]); (try simp only [List.setIfInBounds_toArray]); (try simp only [List.set_cons_succ]); (try simp only [List.set_cons_zero])
      refine wpAnyH_take (i := 10) (oi := ⟨_, _, _, _, _, _⟩) (v := ?_) rfl (by kernel_rfl) (by kernel_rfl) (by kernel_rfl) (fun _ _ _ h => h) (Or.inl ⟨by rfl, ?_⟩) (by assumption) ?_
      rotate_left
      · intro wS hSw; go_simp; (try with_reducible rfl)
      (try simp only [Act.put]); (try simp only [List.setIfInBounds_toArray]); (try simp only [List.set_cons_succ]); (try simp only [List.set_cons_zero])
      refine wpAnyH_take (i := 11) (oi := ⟨_, _, _, _, _, _⟩) (v := ?_) rfl (by kernel_rfl) (by kernel_rfl) (by kernel_rfl) (fun _ _ _ h => h) (Or.inl ⟨by rfl, ?_⟩) (by assumption) ?_
      rotate_left
      · intro wS hSw; go_simp; (try with_reducible rfl)
      (try simp only [Act.put]); (try simp only [List.setIfInBounds_toArray]); (try simp only [List.set_cons_succ]); (try simp only [List.set_cons_zero])
      refine wpAnyH_take (i := 12) (oi := ⟨_, _, _, _, _, _⟩) (v := .agg (#[.int .u8 d.op.kind, .string d.op.key, .string d.op.old, .string d.op.val])) rfl (by kernel_rfl) (by kernel_rfl) (by kernel_rfl) (fun _ _ _ h => h) (Or.inl ⟨by rfl, fun wS hSw => ?_⟩) (by assumption) ?_
      · exact exec_ldC 34 _ ⟨_, _, _, Tryd.isAgg34, Tryd.sizeOf34, rfl, rfl, (fun j u h => (hSw.cell hbx).trans (hop j u h))⟩
      (try simp only [Act.put]); (try simp only [List.setIfInBounds_toArray]); (try simp only [List.set_cons_succ]); (try simp only [List.set_cons_zero])
      refine wpAnyH_take (i := 13) (oi := ⟨_, _, _, _, _, _⟩) (v := ?_) rfl (by kernel_rfl) (by kernel_rfl) (by kernel_rfl) (fun _ _ _ h => h) (Or.inl ⟨by rfl, ?_⟩) (by assumption) ?_
      rotate_left
      · intro wS hSw; go_simp; (try with_reducible rfl)
      (try simp only [Act.put]); (try simp only [List.setIfInBounds_toArray]); (try simp only [List.set_cons_succ]); (try simp only [List.set_cons_zero])
      refine wpAnyH_take (i := 14) (oi := ⟨_, _, _, _, _, _⟩) (v := ?_) rfl (by kernel_rfl) (by kernel_rfl) (by kernel_rfl) (fun _ _ _ h => h) (Or.inl ⟨by rfl, ?_⟩) (by assumption) ?_
      rotate_left
      · intro wS hSw; go_simp; (try with_reducible rfl)
      (try simp only [Act.put]); (try simp only [List.setIfInBounds_toArray]); (try simp only [List.set_cons_succ]); (try simp only [List.set_cons_zero])
      refine wpAnyH_take (i := 15) (oi := ⟨_, _, _, _, _, _⟩) (v := ?_) rfl (by kernel_rfl) (by kernel_rfl) (by kernel_rfl) (fun _ _ _ h => h) (Or.inl ⟨by rfl, ?_⟩) (by assumption) ?_
      rotate_left
      · intro wS hSw; go_simp; (try with_reducible rfl)
      (try simp only [Act.put]); (try simp only [List.setIfInBounds_toArray]); (try simp only [List.set_cons_succ]); (try simp only [List.set_cons_zero])
      refine wpAnyH_take (i := 16) (oi := ⟨_, _, _, _, _, _⟩) (v := ?_) rfl (by kernel_rfl) (by kernel_rfl) (by kernel_rfl) (fun _ _ _ h => h) (Or.inl ⟨by rfl, ?_⟩) (by assumption) ?_
      rotate_left
      · intro wS hSw; go_simp; (try with_reducible rfl)
      (try simp only [Act.put]); (try simp only [List.setIfInBounds_toArray]); (try simp only [List.set_cons_succ]); (try simp only [List.set_cons_zero])
      refine wpAnyH_take (i := 17) (oi := ⟨_, _, _, _, _, _⟩) (v := ?_) rfl (by kernel_rfl) (by kernel_rfl) (by kernel_rfl) (fun _ _ _ h => h) (Or.inl ⟨by rfl, ?_⟩) (by assumption) ?_
      rotate_left
      · intro wS hSw; go_simp; (try with_reducible rfl)
      (try simp only [Act.put]); (try simp only [List.setIfInBounds_toArray]); (try simp only [List.set_cons_succ]); (try simp only [List.set_cons_zero])
      refine wpAnyH_take (i := 18) (oi := ⟨_, _, _, _, _, _⟩) (v := ?_) rfl (by kernel_rfl) (by kernel_rfl) (by kernel_rfl) (fun _ _ _ h => h) (Or.inl ⟨by rfl, ?_⟩) (by assumption) ?_
      rotate_left
      · intro wS hSw
        have c := (hSw.cell hbx).trans c5; go_simp; (try with_reducible rfl)
      (try simp only [Act.put]); (try simp only [List.setIfInBounds_toArray]); (try simp only [List.set_cons_succ]); (try simp only [List.set_cons_zero])
      refine wpAnyH_take (i := 19) (oi := ⟨_, _, _, _, _, _⟩) (v := ?_) rfl (by kernel_rfl) (by kernel_rfl) (by kernel_rfl) (fun _ _ _ h => h) (Or.inl ⟨by rfl, ?_⟩) (by assumption) ?_
      rotate_left
      · intro wS hSw; go_simp; (try with_reducible rfl)
      (try simp only [Act.put]); (try simp only [List.setIfInBounds_toArray]); (try simp only [List.set_cons_succ]); (try simp only [List.set_cons_zero])
      refine wpAnyH_take (i := 20) (oi := ⟨_, _, _, _, _, _⟩) (v := ?_) rfl (by kernel_rfl) (by kernel_rfl) (by kernel_rfl) (fun _ _ _ h => h) (Or.inl ⟨by rfl, ?_⟩) (by assumption) ?_
      rotate_left
      · intro wS hSw; go_simp; (try with_reducible rfl)
      (try simp only [Act.put]); (try simp only [List.setIfInBounds_toArray]); (try simp only [List.set_cons_succ]); (try simp only [List.set_cons_zero])
      refine wpAnyH_take (i := 21) (oi := ⟨_, _, _, _, _, _⟩) (v := .int .i64 (600 * (k : Int) + 600 - 2 * (d.ah : Int))) rfl (by kernel_rfl) (by kernel_rfl) (by kernel_rfl) (fun _ _ _ h => h) (Or.inl ⟨by rfl, fun wS hSw => ?_⟩) (by assumption) ?_
      · go_simp; exact at_sub hk40 hah
      (try simp only [Act.put]); (try simp only [List.setIfInBounds_toArray]); (try simp only [List.set_cons_succ]); (try simp only [List.set_cons_zero])
      refine wpAnyH_take (i := 22) (oi := ⟨_, _, _, _, _, _⟩) (v := ?_) rfl (by kernel_rfl) (by kernel_rfl) (by kernel_rfl) (fun _ _ _ h => h) (Or.inl ⟨by rfl, ?_⟩) (by assumption) ?_
      rotate_left
      · intro wS hSw; go_simp; (try with_reducible rfl)
      (try simp only [Act.put]); (try simp only [List.setIfInBounds_toArray]); (try simp only [List.set_cons_succ]); (try simp only [List.set_cons_zero])
      refine wpAnyH_take (i := 23) (oi := ⟨_, _, _, _, _, _⟩) (v := ?_) rfl (by kernel_rfl) (by kernel_rfl) (by kernel_rfl) (fun _ _ _ h => h) (Or.inl ⟨by rfl, ?_⟩) (by assumption) ?_
      rotate_left
      · intro wS hSw; go_simp; (try with_reducible rfl)
      (try simp only [Act.put]); (try simp only [List.setIfInBounds_toArray]); (try simp only [List.set_cons_succ]); (try simp only [List.set_cons_zero])
      refine wpAnyH_take (i := 24) (oi := ⟨_, _, _, _, _, _⟩) (v := ?_) rfl (by kernel_rfl) (by kernel_rfl) (by kernel_rfl) (fun _ _ _ h => h) (Or.inl ⟨by rfl, ?_⟩) (by assumption) ?_
      rotate_left
      · intro wS hSw; go_simp; (try with_reducible rfl)
      (try simp only [Act.put]); (try simp only [List.setIfInBounds_toArray]); (try simp only [List.set_cons_succ]); (try simp only [List.set_cons_zero])
      refine wpAnyH_take (i := 25) (oi := ⟨_, _, _, _, _, _⟩) (v := ?_) rfl (by kernel_rfl) (by kernel_rfl) (by kernel_rfl) (fun _ _ _ h => h) (Or.inl ⟨by rfl, ?_⟩) (by assumption) ?_
      rotate_left
      · intro wS hSw; go_simp; (try with_reducible rfl)
      (try simp only [Act.put]); (try simp only [List.setIfInBounds_toArray]); (try simp only [List.set_cons_succ]); (try simp only [List.set_cons_zero])
      refine wpAnyH_take (i := 26) (oi := ⟨_, _, _, _, _, _⟩) (v := ?_) rfl (by kernel_rfl) (by kernel_rfl) (by kernel_rfl) (fun _ _ _ h => h) (Or.inl ⟨by rfl, ?_⟩) (by assumption) ?_
      rotate_left
      · intro wS hSw; go_simp; (try with_reducible rfl)
      (try simp only [Act.put]); (try simp only [List.setIfInBounds_toArray]); (try simp only [List.set_cons_succ]); (try simp only [List.set_cons_zero])
      refine wpAnyH_take (i := 27) (oi := ⟨_, _, _, _, _, _⟩) (v := ?_) rfl (by kernel_rfl) (by kernel_rfl) (by kernel_rfl) (fun _ _ _ h => h) (Or.inl ⟨by rfl, ?_⟩) (by assumption) ?_
      rotate_left
      · intro wS hSw
        have c := (hSw.cell hbx).trans c6; go_simp; (try with_reducible rfl)
      (try simp only [Act.put]); (try simp only [List.setIfInBounds_toArray]); (try simp only [List.set_cons_succ]); (try simp only [List.set_cons_zero])
      refine wpAnyH_take (i := 28) (oi := ⟨_, _, _, _, _, _⟩) (v := ?_) rfl (by kernel_rfl) (by kernel_rfl) (by kernel_rfl) (fun _ _ _ h => h) (Or.inl ⟨by rfl, ?_⟩) (by assumption) ?_
      rotate_left
      · intro wS hSw; go_simp; (try with_reducible rfl)
      (try simp only [Act.put]); (try simp only [List.setIfInBounds_toArray]); (try simp only [List.set_cons_succ]); (try simp only [List.set_cons_zero])
      refine wpAnyH_take (i := 29) (oi := ⟨_, _, _, _, _, _⟩) (v := ?_) rfl (by kernel_rfl) (by kernel_rfl) (by kernel_rfl) (fun _ _ _ h => h) (Or.inl ⟨by rfl, ?_⟩) (by assumption) ?_
      rotate_left
      · intro wS hSw; go_simp; (try with_reducible rfl)
      (try simp only [Act.put]); (try simp only [List.setIfInBounds_toArray]); (try simp only [List.set_cons_succ]); (try simp only [List.set_cons_zero])
      refine wpAnyH_take (i := 30) (oi := ⟨_, _, _, _, _, _⟩) (v := ?_) rfl (by kernel_rfl) (by kernel_rfl) (by kernel_rfl) (fun _ _ _ h => h) (Or.inl ⟨by rfl, ?_⟩) (by assumption) ?_
      rotate_left
      · intro wS hSw; go_simp; (try with_reducible rfl)
      (try simp only [Act.put]); (try simp only [List.setIfInBounds_toArray]); (try simp only [List.set_cons_succ]); (try simp only [List.set_cons_zero])
      refine wpAnyH_take (i := 31) (oi := ⟨_, _, _, _, _, _⟩) (v := .int .i64 (600 * (k : Int) + 600 + 8 * (d.be : Int) + 1)) rfl (by kernel_rfl) (by kernel_rfl) (by kernel_rfl) (fun _ _ _ h => h) (Or.inl ⟨by rfl, fun wS hSw => ?_⟩) (by assumption) ?_
      · go_simp; exact at_add hk40 hbe
      (try simp only [Act.put]); (try simp only [List.setIfInBounds_toArray]); (try simp only [List.set_cons_succ]); (try simp only [List.set_cons_zero])
      refine wpAnyH_take (i := 32) (oi := ⟨_, _, _, _, _, _⟩) (v := .agg (clvA ⟨d.cli % 4, d.op, nilRp, 600 * (k : Int) + 600 - 2 * (d.ah : Int), 600 * (k : Int) + 600 + 8 * (d.be : Int) + 1⟩)) rfl (by kernel_rfl) (by kernel_rfl) (by kernel_rfl) (fun _ _ _ h => h) (Or.inl ⟨by rfl, fun wS hSw => ?_⟩) (by assumption) ?_
      · go_simp; rfl
      (try simp only [Act.put]); (try simp only [List.setIfInBounds_toArray]); (try simp only [List.set_cons_succ]); (try simp only [List.set_cons_zero])
      refine wpAnyH_ready (rs := [33]) (by kernel_rfl) (by simp) ?_
      refine AllReadyH.cons (o := ⟨_, _, _, _, _, _⟩) rfl (fun K' hK' => ?_) AllReadyH.nil
      refine (if_pos (by rfl)).mpr ?_
      go_simp
      change K' _ (World.drew (World.alloc _ (Obj.cells (clvA ⟨0, ⟨0, ⟨#[]⟩, ⟨#[]⟩, ⟨#[]⟩⟩, ⟨0, false, ⟨#[]⟩⟩, 0, 0⟩) 38)))
      have hb7 : Below wr.heap.size wr (World.drew (wr.alloc (Obj.cells (clvA ⟨0, ⟨0, ⟨#[]⟩, ⟨#[]⟩, ⟨#[]⟩⟩, ⟨0, false, ⟨#[]⟩⟩, 0, 0⟩) 38))) := (blw wr (Obj.cells (clvA ⟨0, ⟨0, ⟨#[]⟩, ⟨#[]⟩, ⟨#[]⟩⟩, ⟨0, false, ⟨#[]⟩⟩, 0, 0⟩) 38)).drew
      have N7 : (World.drew (wr.alloc (Obj.cells (clvA ⟨0, ⟨0, ⟨#[]⟩, ⟨#[]⟩, ⟨#[]⟩⟩, ⟨0, false, ⟨#[]⟩⟩, 0, 0⟩) 38))).heap[wr.heap.size]? = some (Obj.cells (clvA ⟨0, ⟨0, ⟨#[]⟩, ⟨#[]⟩, ⟨#[]⟩⟩, ⟨0, false, ⟨#[]⟩⟩, 0, 0⟩) 38) := tr_bl (Below.refl _ _).drew (heap_alloc_new wr (Obj.cells (clvA ⟨0, ⟨0, ⟨#[]⟩, ⟨#[]⟩, ⟨#[]⟩⟩, ⟨0, false, ⟨#[]⟩⟩, 0, 0⟩) 38))
      refine hK'.out _ _ hb7 (fun _ => ?_)
      (try simp only [Act.put]); (try simp only [List.setIfInBounds_toArray]); (try simp only [List.set_cons_succ]); (try simp only [List.set_cons_zero])
      generalize World.drew (wr.alloc (Obj.cells (clvA ⟨0, ⟨0, ⟨#[]⟩, ⟨#[]⟩, ⟨#[]⟩⟩, ⟨0, false, ⟨#[]⟩⟩, 0, 0⟩) 38)) = w7 at *
      refine wpAnyH_ready (rs := [34]) (by kernel_rfl) (by simp) ?_
      refine AllReadyH.cons (o := ⟨_, _, _, _, _, _⟩) rfl (fun K' hK' => ?_) AllReadyH.nil
      refine (if_pos (by rfl)).mpr ?_
      refine wp_stB 38 _ _ ?_
      refine ⟨_, _, _, ⟨_, _, _, Tryd.sizeOf38, rfl, N7, st_all rfl (clv_new ⟨d.cli % 4, d.op, nilRp, 600 * (k : Int) + 600 - 2 * (d.ah : Int), 600 * (k : Int) + 600 + 8 * (d.be : Int) + 1⟩)⟩, ?_⟩
      intro w8 N8 g8
      have hb8 := bl_st hb7 g8 hb7.size (Nat.le_refl _)
      refine hK'.out _ _ hb8 (fun _ => ?_)
      (try simp only [Act.put]); (try simp only [List.setIfInBounds_toArray]); (try simp only [List.set_cons_succ]); (try simp only [List.set_cons_zero])
      refine wpAnyH_done (by kernel_rfl) ?_ _
      go_wp2
      refine HK3.out _ _ ?_
      clear HK3
      have S8 := owns_bl hS hb8
      have O8 := owns_bl hO hb8
      have hbs8 := Nat.le_trans hbs hb8.size
      have c7 := (hb8.cell hbx).trans c7
      have hop8 := fun j u h => (hb8.cell hbx).trans (hop j u h)
      have hbw8 := hbr.trans (hb8.mono hbs)
      have hQ8 : wr.heap.size < w8.heap.size := lt_blk N8
      have hQ0 := hbs
      have hneO : u4.ownBlock ≠ some wr.heap.size := fun e => Nat.lt_irrefl _ (hO.lt _ e).2
      clear hb7 N7 g8 hS8 hS hO c0 c5 c6 hop hbr hbs hb8
      generalize wr.heap.size = q8 at *
      obtain ⟨⟨s2, r⟩, hd⟩ : ∃ z, doP (sH l k) d.op = z := ⟨_, rfl⟩
      obtain ⟨sa, scap, rfl, hsl8⟩ := SlP.of_owns S8
      have h8 := (may_spec (sH_may l k)).1
      have hdo := do_ownL sa scap (sH l k) d.op w8 hsl8 (by omega) s2 r hd
      have HD := Lib.hid hd
      have HLT := Lib.hid hlt
      obtain ⟨c1, hc1⟩ : ∃ c : Cl, c = ⟨d.cli % 4, d.op, nilRp, 600 * (k : Int) + 600 - 2 * (d.ah : Int), 600 * (k : Int) + 600 + 8 * (d.be : Int) + 1⟩ := ⟨_, rfl⟩
      rw [← hc1] at N8
      have HC1 := Lib.hid hc1
      have hz8 := Below.refl q8 w8
      have hbb8 : w.heap.size ≤ w8.heap.size := by omega
      clear hd hsl8 hc1 S8
      refine wp_seq_k (fun K hK => ?_)
      have HK := Lib.hid hK
      clear hK
      go_wp2_with (first
              | ((with_reducible refine wpList_ldC 34 _ ?_); refine ⟨rfl, _, ⟨_, _, _, Tryd.isAgg34, Tryd.sizeOf34, rfl, (show (#[Value.int .u8 d.op.kind, .string d.op.key, .string d.op.old, .string d.op.val] : Array Value).size = 4 from rfl), hop8⟩, ?_⟩)
              | (go_at_call 17; refine hdo.mono ?_; rintro e w9 ⟨⟨na, ncap, rfl, hown9⟩, hb9⟩)
              | ((first | (with_reducible refine wpList_stNew 36 _ _ ?_) | (with_reducible refine wp_stNew 36 _ _ ?_)); refine ⟨_, _, ⟨Tryd.sizeOf36, rfl, rpl_new r⟩, rfl, ?_⟩))
      refine HK.out _ _ ?_
      clear HK
      have R10 := heap_alloc_new w9 (Obj.cells (rplL r) 36)
      have hb10 := hb9.trans ((blw w9 (Obj.cells (rplL r) 36)).mono hb9.size)
      have N10 := tr_bl hb10 N8
      have O10 := owns_bl O8 hb10
      have S10 := owns_mono (owns_bl hown9 (blw w9 (Obj.cells (rplL r) 36))) hbb8
      have hz10 := hz8.trans (hb10.mono (Nat.le_of_lt hQ8))
      have hbw10 := hbw8.trans (hb10.mono hbb8)
      have hne10 : q8 ≠ w9.heap.size := by have := hb9.size; omega
      clear hown9 hb9 hb10 N8 O8 hz8 hbw8 hdo hop8 hbb8
      generalize w9.alloc (Obj.cells (rplL r) 36) = w10 at *
      generalize w9.heap.size = q9 at *
      refine wp_seq_k (fun K hK => ?_)
      have HK := Lib.hid hK
      clear hK
      go_wp2_with (first
              | ((with_reducible refine wpList_ldB 36 _ ?_); refine ⟨rfl, _, ⟨_, _, _, _, _, Tryd.isAgg36, Tryd.sizeOf36, rfl, ‹_›, rpl_all r⟩, ?_⟩)
              | ((first | (with_reducible refine wpList_stB 36 _ _ ?_) | (with_reducible refine wp_stB 36 _ _ ?_)); refine ⟨_, _, _, ⟨_, _, _, Tryd.sizeOf36, rfl, ‹_›, st_repC c1 r⟩, ?_⟩; intro w11 N11 g11))
      refine HK.out _ _ ?_
      clear HK
      have O11 := O10.kept g11 (.inr hneO)
      have S11 := owns_ne S10 g11 N10 (by decide)
      have hz11 := bl_st hz10 g11 (Nat.le_of_lt (lt_blk N10)) (Nat.le_refl _)
      have hbw11 := bl_st hbw10 g11 hbw10.size hQ0
      have c11 := (hz11.cell hbx).trans c7
      clear N10 O10 S10 hz10 hbw10 c7 g11 R10
      have hs2 : sH l (k + 1) = s2 := by rw [HS1.out, HD.out]
      have HS2 := Lib.hid hs2
      clear hs2
      cases hlo : d.lost
      case false =>
        have hpk : pH l (k + 1) = pH l k := by rw [HP1.out, hlo]; rfl
        have hck : ({ c1 with rep := r } : Cl) = hAt l k := by rw [HHA.out, HC1.out, hlo, HD.out]; rfl
        have HPK := Lib.hid hpk
        have HCK := Lib.hid hck
        clear hpk hck
        rw [hlo] at c11
        clear hlo
        refine wp_seq_k (fun K hK => ?_)
        have HK := Lib.hid hK
        clear hK
        go_wp2
        refine HK.out _ _ ?_
        clear HK
        refine wp_seq_k (fun K hK => ?_)
        have HK := Lib.hid hK
        clear hK
        go_wp2
        refine HK.out _ _ ?_
        clear HK
        have hOn := O11
        have hSn := S11
        have hbX := hbw11
        have hne2 := own_ne2 hSn hOn (by decide)
        have hN3 := N11
        obtain ⟨c3, hc3⟩ : ∃ c, c = { c1 with rep := r } := ⟨_, rfl⟩
        rw [← hc3] at hN3
        have HC3 := Lib.hid hc3
        clear hc3
        have k0 := blk_cell hN3 0 (.int .i64 c3.cli) rfl
        have k1 := blk_cell hN3 1 (.int .u8 c3.op.kind) rfl
        have k2 := blk_cell hN3 2 (.string c3.op.key) rfl
        have k3 := blk_cell hN3 3 (.string c3.op.old) rfl
        have k4 := blk_cell hN3 4 (.string c3.op.val) rfl
        have k5 := blk_cell hN3 5 (.int .i64 c3.rep.err) rfl
        have k6 := blk_cell hN3 6 (.bool c3.rep.found) rfl
        have k7 := blk_cell hN3 7 (.string c3.rep.val) rfl
        have k8 := blk_cell hN3 8 (.int .i64 c3.st) rfl
        have k9 := blk_cell hN3 9 (.int .i64 c3.en) rfl
        go_wp2_with (at_builtin; refine wpList_app1 rfl _ _ 22 38 elCallL rfl w.heap.size _ _ _ rfl hOn #[.int .i64 c3.cli, .int .u8 c3.op.kind, .string c3.op.key, .string c3.op.old, .string c3.op.val, .int .i64 c3.rep.err, .bool c3.rep.found, .string c3.rep.val, .int .i64 c3.st, .int .i64 c3.en] rfl (clv_new c3).2.2 38 rfl (by omega) (by decide) hbX.size ?_; intro v14 w14 O14 g14)
        have S14 := (hSn.alloc _).kept g14 hne2
        have hb14 := (bl_tr hbX (blw _ _)).grown g14 (by simp; have := hbX.size; omega) (fun k' hk' => (hOn.lt k' hk').1)
        have e14 : calls (histN l (k + 1)) = calls (histN l k) ++ (clvA c3).toList := by
          rw [HC3.out, HCK.out, histN_succ]
          simp [calls, clvA, callC]
        (try simp only [Exit.inBlock, Exit.then])
        refine HK2.out _ _ ?_
        clear HK2
        go_wp2
        go_roundw
        case rel => exact ⟨k + 1, HLT.out, by go_num, (by rw [HPK.out] <;> rfl), hb14, by rw [HS2.out]; exact S14, by rw [e14]; exact O14⟩
        case measure => have := HLT.out; simp [intOf]; omega
      case true =>
        rw [hlo] at c11
        by_cases hp8 : pH l k < 8
        case neg =>
          have hpk : pH l (k + 1) = pH l k := by rw [HP1.out, hlo, decide_eq_false hp8]; rfl
          have hck : ({ c1 with rep := r } : Cl) = hAt l k := by rw [HHA.out, HC1.out, hlo, HD.out, decide_eq_false hp8]; rfl
          have HPK := Lib.hid hpk
          have HCK := Lib.hid hck
          clear hpk hck hlo
          refine wp_seq_k (fun K hK => ?_)
          have HK := Lib.hid hK
          clear hK
          go_wp2
          refine HK.out _ _ ?_
          clear HK
          refine wp_seq_k (fun K hK => ?_)
          have HK := Lib.hid hK
          clear hK
          go_wp2
          refine HK.out _ _ ?_
          clear HK
          have hOn := O11
          have hSn := S11
          have hbX := hbw11
          have hne2 := own_ne2 hSn hOn (by decide)
          have hN3 := N11
          obtain ⟨c3, hc3⟩ : ∃ c, c = { c1 with rep := r } := ⟨_, rfl⟩
          rw [← hc3] at hN3
          have HC3 := Lib.hid hc3
          clear hc3
          have k0 := blk_cell hN3 0 (.int .i64 c3.cli) rfl
          have k1 := blk_cell hN3 1 (.int .u8 c3.op.kind) rfl
          have k2 := blk_cell hN3 2 (.string c3.op.key) rfl
          have k3 := blk_cell hN3 3 (.string c3.op.old) rfl
          have k4 := blk_cell hN3 4 (.string c3.op.val) rfl
          have k5 := blk_cell hN3 5 (.int .i64 c3.rep.err) rfl
          have k6 := blk_cell hN3 6 (.bool c3.rep.found) rfl
          have k7 := blk_cell hN3 7 (.string c3.rep.val) rfl
          have k8 := blk_cell hN3 8 (.int .i64 c3.st) rfl
          have k9 := blk_cell hN3 9 (.int .i64 c3.en) rfl
          go_wp2_with (at_builtin; refine wpList_app1 rfl _ _ 22 38 elCallL rfl w.heap.size _ _ _ rfl hOn #[.int .i64 c3.cli, .int .u8 c3.op.kind, .string c3.op.key, .string c3.op.old, .string c3.op.val, .int .i64 c3.rep.err, .bool c3.rep.found, .string c3.rep.val, .int .i64 c3.st, .int .i64 c3.en] rfl (clv_new c3).2.2 38 rfl (by omega) (by decide) hbX.size ?_; intro v14 w14 O14 g14)
          have S14 := (hSn.alloc _).kept g14 hne2
          have hb14 := (bl_tr hbX (blw _ _)).grown g14 (by simp; have := hbX.size; omega) (fun k' hk' => (hOn.lt k' hk').1)
          have e14 : calls (histN l (k + 1)) = calls (histN l k) ++ (clvA c3).toList := by
            rw [HC3.out, HCK.out, histN_succ]
            simp [calls, clvA, callC]
          (try simp only [Exit.inBlock, Exit.then])
          refine HK2.out _ _ ?_
          clear HK2
          go_wp2
          go_roundw
          case rel => exact ⟨k + 1, HLT.out, by go_num, (by rw [HPK.out] <;> rfl), hb14, by rw [HS2.out]; exact S14, by rw [e14]; exact O14⟩
          case measure => have := HLT.out; simp [intOf]; omega
        case pos =>
          have hpk : pH l (k + 1) = pH l k + 1 := by rw [HP1.out, hlo, decide_eq_true hp8]; rfl
          have hck : ({ c1 with rep := nilRp, en := 0 } : Cl) = hAt l k := by rw [HHA.out, HC1.out, hlo, decide_eq_true hp8]; rfl
          have HPK := Lib.hid hpk
          have HCK := Lib.hid hck
          clear hpk hck hlo
          refine wp_seq_k (fun K hK => ?_)
          have HK := Lib.hid hK
          clear hK
          go_wp2_with (first
                      | ((first | (with_reducible refine wpList_stB 36 _ _ ?_) | (with_reducible refine wp_stB 36 _ _ ?_)); refine ⟨_, _, _, ⟨_, _, _, Tryd.sizeOf36, rfl, ‹_›, st_repC { c1 with rep := r } nilRp⟩, ?_⟩; intro w12 N12 g12)
                      | ((first | (with_reducible refine wpList_stB 3 _ _ ?_) | (with_reducible refine wp_stB 3 _ _ ?_)); refine ⟨_, _, _, ⟨_, _, _, Tryd.sizeOf3, rfl, ‹_›, st_enC { c1 with rep := nilRp } 0⟩, ?_⟩; intro w13 N13 g13))
          refine HK.out _ _ ?_
          clear HK
          have O13 := (O11.kept g12 (.inr hneO)).kept g13 (.inr hneO)
          have S13 := owns_ne (owns_ne S11 g12 N11 (by decide)) g13 N12 (by decide)
          have hb12 := bl_st hbw11 g12 hbw11.size hQ0
          have hbw13 := bl_st hb12 g13 hb12.size hQ0
          clear O11 S11 N11 N12 g12 g13 hb12 hbw11 hz11 c11
          refine wp_seq_k (fun K hK => ?_)
          have HK := Lib.hid hK
          clear hK
          go_wp2
          refine HK.out _ _ ?_
          clear HK
          have hOn := O13
          have hSn := S13
          have hbX := hbw13
          have hne2 := own_ne2 hSn hOn (by decide)
          have hN3 := N13
          obtain ⟨c3, hc3⟩ : ∃ c, c = { c1 with rep := nilRp, en := 0 } := ⟨_, rfl⟩
          rw [← hc3] at hN3
          have HC3 := Lib.hid hc3
          clear hc3
          have k0 := blk_cell hN3 0 (.int .i64 c3.cli) rfl
          have k1 := blk_cell hN3 1 (.int .u8 c3.op.kind) rfl
          have k2 := blk_cell hN3 2 (.string c3.op.key) rfl
          have k3 := blk_cell hN3 3 (.string c3.op.old) rfl
          have k4 := blk_cell hN3 4 (.string c3.op.val) rfl
          have k5 := blk_cell hN3 5 (.int .i64 c3.rep.err) rfl
          have k6 := blk_cell hN3 6 (.bool c3.rep.found) rfl
          have k7 := blk_cell hN3 7 (.string c3.rep.val) rfl
          have k8 := blk_cell hN3 8 (.int .i64 c3.st) rfl
          have k9 := blk_cell hN3 9 (.int .i64 c3.en) rfl
          go_wp2_with (at_builtin; refine wpList_app1 rfl _ _ 22 38 elCallL rfl w.heap.size _ _ _ rfl hOn #[.int .i64 c3.cli, .int .u8 c3.op.kind, .string c3.op.key, .string c3.op.old, .string c3.op.val, .int .i64 c3.rep.err, .bool c3.rep.found, .string c3.rep.val, .int .i64 c3.st, .int .i64 c3.en] rfl (clv_new c3).2.2 38 rfl (by omega) (by decide) hbX.size ?_; intro v14 w14 O14 g14)
          have S14 := (hSn.alloc _).kept g14 hne2
          have hb14 := (bl_tr hbX (blw _ _)).grown g14 (by simp; have := hbX.size; omega) (fun k' hk' => (hOn.lt k' hk').1)
          have e14 : calls (histN l (k + 1)) = calls (histN l k) ++ (clvA c3).toList := by
            rw [HC3.out, HCK.out, histN_succ]
            simp [calls, clvA, callC]
          (try simp only [Exit.inBlock, Exit.then])
          refine HK2.out _ _ ?_
          clear HK2
          go_wp2
          go_roundw
          case rel => exact ⟨k + 1, HLT.out, by go_num, (by rw [HPK.out] <;> rfl), hb14, by rw [HS2.out]; exact S14, by rw [e14]; exact O14⟩
          case measure => have := HLT.out; simp [intOf]; omega
    · obtain rfl : k = l.length := by omega
      go_wp2
      go_ret
      exact ⟨⟨_, rfl, hO⟩, hbr⟩
end Go.Proofs.YtaojblejnpemkaaDoor
namespace Go.Proofs.YtaojblejnpemkaaDoor
open Go.RowKit Go.Shelf
def ren_n177 : Ren := ⟨fun | 177 => 47 | 250 => 55 | 289 => 62 | 197 => 65 | 323 => 66 | 260 => 68 | 339 => 69 | 340 => 70 | 242 => 71 | 119 => 72 | 345 => 73 | 346 => 74 | 278 => 75 | n => n, fun | 9 => 9 | 5 => 5 | 4 => 4 | 3 => 3 | 37 => 85 | 21 => 21 | 105 => 111 | 46 => 110 | 119 => 117 | 0 => 0 | 139 => 120 | 138 => 119 | 49 => 121 | 234 => 122 | 131 => 96 | 51 => 124 | 236 => 125 | n => n, fun | 3 => 0 | 4 => 1 | 20 => 2 | 21 => 3 | 22 => 4 | 23 => 5 | 24 => 6 | n => n⟩
set_option maxRecDepth 100000 in
theorem lays_n177 : Lays.n177 Tryd.prog ren_n177 where
  mixed := by kernel_rfl
  f119 := Tryd.func72.trans (congrArg some (by kernel_rfl))
  f177 := Tryd.func47.trans (congrArg some (by kernel_rfl))
  f197 := Tryd.func65.trans (congrArg some (by kernel_rfl))
  f242 := Tryd.func71.trans (congrArg some (by kernel_rfl))
  f250 := Tryd.func55.trans (congrArg some (by kernel_rfl))
  f260 := Tryd.func68.trans (congrArg some (by kernel_rfl))
  f278 := Tryd.func75.trans (congrArg some (by kernel_rfl))
  f289 := Tryd.func62.trans (congrArg some (by kernel_rfl))
  f323 := Tryd.func66.trans (congrArg some (by kernel_rfl))
  f339 := Tryd.func69.trans (congrArg some (by kernel_rfl))
  f340 := Tryd.func70.trans (congrArg some (by kernel_rfl))
  f345 := Tryd.func73.trans (congrArg some (by kernel_rfl))
  f346 := Tryd.func74.trans (congrArg some (by kernel_rfl))
  t0 := Tryd.underlying0
  a0 := Tryd.isAgg0
  z0 := Tryd.sizeOf0
  v0 := Tryd.zeroValue0
  t3 := Tryd.underlying3
  a3 := Tryd.isAgg3
  z3 := Tryd.sizeOf3
  v3 := Tryd.zeroValue3
  t4 := Tryd.underlying4
  a4 := Tryd.isAgg4
  z4 := Tryd.sizeOf4
  v4 := Tryd.zeroValue4
  t5 := Tryd.underlying5
  a5 := Tryd.isAgg5
  z5 := Tryd.sizeOf5
  v5 := Tryd.zeroValue5
  t9 := Tryd.underlying9
  a9 := Tryd.isAgg9
  z9 := Tryd.sizeOf9
  v9 := Tryd.zeroValue9
  t21 := Tryd.underlying21
  a21 := Tryd.isAgg21
  z21 := Tryd.sizeOf21
  v21 := Tryd.zeroValue21
  t37 := Tryd.underlying85
  a37 := Tryd.isAgg85
  z37 := Tryd.sizeOf85
  v37 := Tryd.zeroValue85
  t46 := Tryd.underlying110
  a46 := Tryd.isAgg110
  z46 := Tryd.sizeOf110
  v46 := Tryd.zeroValue110
  t49 := Tryd.underlying121
  a49 := Tryd.isAgg121
  z49 := Tryd.sizeOf121
  v49 := Tryd.zeroValue121
  t51 := Tryd.underlying124
  a51 := Tryd.isAgg124
  z51 := Tryd.sizeOf124
  v51 := Tryd.zeroValue124
  t105 := Tryd.underlying111
  a105 := Tryd.isAgg111
  z105 := Tryd.sizeOf111
  v105 := Tryd.zeroValue111
  t119 := Tryd.underlying117
  a119 := Tryd.isAgg117
  z119 := Tryd.sizeOf117
  t131 := Tryd.underlying96
  a131 := Tryd.isAgg96
  z131 := Tryd.sizeOf96
  v131 := Tryd.zeroValue96
  t138 := Tryd.underlying119
  a138 := Tryd.isAgg119
  z138 := Tryd.sizeOf119
  v138 := Tryd.zeroValue119
  t139 := Tryd.underlying120
  a139 := Tryd.isAgg120
  z139 := Tryd.sizeOf120
  v139 := Tryd.zeroValue120
  t234 := Tryd.underlying122
  a234 := Tryd.isAgg122
  z234 := Tryd.sizeOf122
  v234 := Tryd.zeroValue122
  t236 := Tryd.underlying125
  a236 := Tryd.isAgg125
  z236 := Tryd.sizeOf125
  v236 := Tryd.zeroValue125
  g3 := by kernel_rfl
  g4 := by kernel_rfl
  g20 := by kernel_rfl
  g21 := by kernel_rfl
  g22 := by kernel_rfl
  g23 := by kernel_rfl
  g24 := by kernel_rfl
def ren_n166 : Ren := ⟨fun | 166 => 46 | 240 => 54 | 276 => 61 | n => n, fun | 0 => 0 | 3 => 3 | 4 => 4 | 9 => 9 | 20 => 20 | 37 => 85 | 70 => 84 | 72 => 87 | 75 => 89 | 164 => 107 | 5 => 5 | 80 => 93 | n => n, fun n => n⟩
set_option maxRecDepth 100000 in
theorem lays_n166 : Lays.n166 Tryd.prog ren_n166 where
  mixed := by kernel_rfl
  f166 := Tryd.func46.trans (congrArg some (by kernel_rfl))
  f240 := Tryd.func54.trans (congrArg some (by kernel_rfl))
  f276 := Tryd.func61.trans (congrArg some (by kernel_rfl))
  t0 := Tryd.underlying0
  a0 := Tryd.isAgg0
  z0 := Tryd.sizeOf0
  v0 := Tryd.zeroValue0
  t3 := Tryd.underlying3
  a3 := Tryd.isAgg3
  z3 := Tryd.sizeOf3
  v3 := Tryd.zeroValue3
  t4 := Tryd.underlying4
  a4 := Tryd.isAgg4
  z4 := Tryd.sizeOf4
  v4 := Tryd.zeroValue4
  t9 := Tryd.underlying9
  a9 := Tryd.isAgg9
  z9 := Tryd.sizeOf9
  v9 := Tryd.zeroValue9
  t20 := Tryd.underlying20
  a20 := Tryd.isAgg20
  z20 := Tryd.sizeOf20
  v20 := Tryd.zeroValue20
  t37 := Tryd.underlying85
  a37 := Tryd.isAgg85
  z37 := Tryd.sizeOf85
  v37 := Tryd.zeroValue85
  t70 := Tryd.underlying84
  a70 := Tryd.isAgg84
  z70 := Tryd.sizeOf84
  v70 := Tryd.zeroValue84
  t72 := Tryd.underlying87
  a72 := Tryd.isAgg87
  z72 := Tryd.sizeOf87
  v72 := Tryd.zeroValue87
  t75 := Tryd.underlying89
  a75 := Tryd.isAgg89
  z75 := Tryd.sizeOf89
  v75 := Tryd.zeroValue89
  t164 := Tryd.underlying107
  a164 := Tryd.isAgg107
  z164 := Tryd.sizeOf107
  v164 := Tryd.zeroValue107
def ren_n169 : Ren := ⟨fun | 169 => 48 | n => n, fun | 70 => 84 | 9 => 9 | 0 => 0 | 72 => 87 | 37 => 85 | 127 => 101 | 3 => 3 | 5 => 5 | n => n, fun n => n⟩
set_option maxRecDepth 100000 in
theorem lays_n169 : Lays.n169 Tryd.prog ren_n169 where
  mixed := by kernel_rfl
  f169 := Tryd.func48.trans (congrArg some (by kernel_rfl))
  t0 := Tryd.underlying0
  a0 := Tryd.isAgg0
  z0 := Tryd.sizeOf0
  v0 := Tryd.zeroValue0
  t3 := Tryd.underlying3
  a3 := Tryd.isAgg3
  z3 := Tryd.sizeOf3
  v3 := Tryd.zeroValue3
  t9 := Tryd.underlying9
  a9 := Tryd.isAgg9
  z9 := Tryd.sizeOf9
  v9 := Tryd.zeroValue9
  t37 := Tryd.underlying85
  a37 := Tryd.isAgg85
  z37 := Tryd.sizeOf85
  v37 := Tryd.zeroValue85
  t70 := Tryd.underlying84
  a70 := Tryd.isAgg84
  z70 := Tryd.sizeOf84
  v70 := Tryd.zeroValue84
  t72 := Tryd.underlying87
  a72 := Tryd.isAgg87
  z72 := Tryd.sizeOf87
  v72 := Tryd.zeroValue87
  t127 := Tryd.underlying101
  a127 := Tryd.isAgg101
  z127 := Tryd.sizeOf101
  v127 := Tryd.zeroValue101
theorem extra_n166 : Builder.Extra Tryd.prog ren_n166 where
  sizeBuilder := by kernel_rfl
  liesBuilder := by kernel_rfl
  t5 := Tryd.underlying5
  a5 := Tryd.isAgg5
  z5 := Tryd.sizeOf5
  v5 := Tryd.zeroValue5
  infoByte := by kernel_rfl
  cellsByte := by kernel_rfl
  sizeByte := by kernel_rfl
  neB5 := by decide
theorem extra_n169 : Builder.Extra Tryd.prog ren_n169 where
  sizeBuilder := by kernel_rfl
  liesBuilder := by kernel_rfl
  t5 := Tryd.underlying5
  a5 := Tryd.isAgg5
  z5 := Tryd.sizeOf5
  v5 := Tryd.zeroValue5
  infoByte := by kernel_rfl
  cellsByte := by kernel_rfl
  sizeByte := by kernel_rfl
  neB5 := by decide
theorem quote_any (T : Lib.PrintTabs) (s : ByteArray) (w : World) (hlen : 10 * s.size + 12 ≤ 140737488355328) (hT : Lib.PrintTabsAt 2 3 4 5 T w) (hU : Lib.Utf8Tabs 0 1 w) :
    Calls Tryd.prog 47 #[.string s] w fun e w' => e = .returned (.string (strOfNums (Lib.quoteZ T s))) ∧ Below w.heap.size w w' := Any.strconv_Quote lays_n177 (by kernel_rfl) T s w hlen hT hU
theorem bwrite_any (B b : Nat) (bs : List Value) (s : ByteArray) (w : World) (h : Lib.IsBuilderF 87 5 B b bs w) (hlen : bs.length + s.size ≤ 140737488355328) (hBw : B ≤ w.heap.size) :
    Calls Tryd.prog 46 #[.pointer (some ⟨b, 0, none⟩), .string s] w fun e w' => e = .returned (.tuple #[.int .i64 s.size, .nilIface]) ∧ (Lib.BuilderAtF 87 5 B b (.pointer (some ⟨b, 0, none⟩)) (bs ++ Lib.strCells s) w' ∧ Below B w w' ∧ Lib.OthersKept 5 (some b) w w') := Any.Builder_WriteString_k lays_n166 extra_n166 B b bs s w h hlen hBw
theorem bstring_any (B b : Nat) (l : List UInt8) (w : World) (h : Lib.IsBuilderF 87 5 B b (Lib.byteCells l) w) (hBw : B ≤ w.heap.size) :
    Calls Tryd.prog 48 #[.pointer (some ⟨b, 0, none⟩)] w fun e w' => e = .returned (.string ⟨l.toArray⟩) ∧ Below B w w' := (Any.Builder_String_any_f lays_n169 extra_n169 B b l w h hBw).mono fun _ _ h => ⟨h.1, h.2.2⟩
end Go.Proofs.YtaojblejnpemkaaDoor
namespace Go.Proofs.YtaojblejnpemkaaDoor
open Go.Lib
inductive QK
  | good (r : Nat)
  | bad (b : Nat)
def codeQ (T : Lib.PrintTabs) : QK → List Int
  | .good r => escRune T (r : Int)
  | .bad b => [92, 120, Lib.hexDigit (b / 16), Lib.hexDigit (b % 16)]
def okQ : QK → Prop
  | .good r => r < 55296 ∨ (57343 < r ∧ r ≤ 1114111)
  | .bad b => 128 ≤ b ∧ b < 256
def hxv (x : Int) : Nat := if x < 58 then (x - 48).toNat else (x - 87).toNat
def nmQ (c : Int) : Nat := if c = 97 then 7 else if c = 98 then 8 else if c = 102 then 12 else if c = 110 then 10 else if c = 114 then 13 else if c = 116 then 9 else if c = 118 then 11 else c.toNat
def dec2 : List Int → Option (QK × List Int)
  | a :: b :: t => some (if 128 ≤ hxv a * 16 + hxv b then .bad (hxv a * 16 + hxv b) else .good (hxv a * 16 + hxv b), t)
  | _ => none
def dec4 : List Int → Option (QK × List Int)
  | a :: b :: c :: d :: t => some (.good (((hxv a * 16 + hxv b) * 16 + hxv c) * 16 + hxv d), t)
  | _ => none
def dec8 : List Int → Option (QK × List Int)
  | a :: b :: c :: d :: e :: f :: g :: h :: t => some (.good (((((((hxv a * 16 + hxv b) * 16 + hxv c) * 16 + hxv d) * 16 + hxv e) * 16 + hxv f) * 16 + hxv g) * 16 + hxv h), t)
  | _ => none
def decE : List Int → Option (QK × List Int)
  | c :: t => if c = 120 then dec2 t else if c = 117 then dec4 t else if c = 85 then dec8 t else some (.good (nmQ c), t)
  | _ => none
def decU2 (x : Int) : List Int → Option (QK × List Int)
  | a :: t => some (.good ((x - 192) * 64 + (a - 128)).toNat, t)
  | _ => none
def decU3 (x : Int) : List Int → Option (QK × List Int)
  | a :: b :: t => some (.good (((x - 224) * 64 + (a - 128)) * 64 + (b - 128)).toNat, t)
  | _ => none
def decU4 (x : Int) : List Int → Option (QK × List Int)
  | a :: b :: c :: t => some (.good ((((x - 240) * 64 + (a - 128)) * 64 + (b - 128)) * 64 + (c - 128)).toNat, t)
  | _ => none
def decQ : List Int → Option (QK × List Int)
  | x :: t => if x = 92 then decE t else if x < 128 then some (.good x.toNat, t) else if x < 224 then decU2 x t else if x < 240 then decU3 x t else decU4 x t
  | _ => none
theorem hxv_dig {x : Nat} (h : x < 16) : hxv (Lib.hexDigit x) = x := by
  unfold hxv Lib.hexDigit
  split <;> split <;> omega
theorem dec2_hex {v : Nat} (h : v < 256) (t : List Int) : dec2 (Lib.hexDigit (v / 16) :: Lib.hexDigit (v % 16) :: t) = some (if 128 ≤ v then .bad v else .good v, t) := by
  unfold dec2
  simp only
  rw [hxv_dig (by omega), hxv_dig (by omega), show v / 16 * 16 + v % 16 = v by omega]
theorem dec4_hex {v : Nat} (h : v < 65536) (t : List Int) : dec4 (hexDigits v 4 ++ t) = some (.good v, t) := by
  show dec4 (Lib.hexDigit (v / 16 ^ 3 % 16) :: Lib.hexDigit (v / 16 ^ 2 % 16) :: Lib.hexDigit (v / 16 ^ 1 % 16) :: Lib.hexDigit (v / 16 ^ 0 % 16) :: t) = _
  unfold dec4
  simp only
  rw [hxv_dig (by omega), hxv_dig (by omega), hxv_dig (by omega), hxv_dig (by omega)]
  congr 3
  omega
theorem dec8_hex {v : Nat} (h : v < 4294967296) (t : List Int) : dec8 (hexDigits v 8 ++ t) = some (.good v, t) := by
  show dec8 (Lib.hexDigit (v / 16 ^ 7 % 16) :: Lib.hexDigit (v / 16 ^ 6 % 16) :: Lib.hexDigit (v / 16 ^ 5 % 16) :: Lib.hexDigit (v / 16 ^ 4 % 16) :: Lib.hexDigit (v / 16 ^ 3 % 16) :: Lib.hexDigit (v / 16 ^ 2 % 16) :: Lib.hexDigit (v / 16 ^ 1 % 16) :: Lib.hexDigit (v / 16 ^ 0 % 16) :: t) = _
  unfold dec8
  simp only
  rw [hxv_dig (by omega), hxv_dig (by omega), hxv_dig (by omega), hxv_dig (by omega), hxv_dig (by omega), hxv_dig (by omega), hxv_dig (by omega), hxv_dig (by omega)]
  congr 3
  omega
theorem dec_enc {r : Nat} (h : r < 55296 ∨ (57343 < r ∧ r ≤ 1114111)) (h92 : r ≠ 92) (t : List Int) : decQ (encodeRuneZ (r : Int) ++ t) = some (.good r, t) := by
  unfold encodeRuneZ
  by_cases c1 : r ≤ 127
  · rw [if_pos (by omega)]
    show decQ ((r : Int) :: t) = _
    unfold decQ
    simp only
    rw [if_neg (by omega), if_pos (by omega), Int.toNat_natCast]
  rw [if_neg (by omega)]
  by_cases c2 : r ≤ 2047
  · rw [if_pos (by omega)]
    simp only [List.cons_append, List.nil_append]
    unfold decQ
    simp only
    rw [if_neg (by omega), if_neg (by omega), if_pos (by omega)]
    unfold decU2
    simp only
    congr 3
    omega
  rw [if_neg (by omega)]
  by_cases c3 : r ≤ 65535
  · rw [if_pos (by omega)]
    simp only [List.cons_append, List.nil_append]
    unfold decQ
    simp only
    rw [if_neg (by omega), if_neg (by omega), if_neg (by omega), if_pos (by omega)]
    unfold decU3
    simp only
    congr 3
    omega
  rw [if_neg (by omega), if_pos (by omega)]
  simp only [List.cons_append, List.nil_append]
  unfold decQ
  simp only
  rw [if_neg (by omega), if_neg (by omega), if_neg (by omega), if_neg (by omega)]
  unfold decU4
  simp only
  congr 3
  omega
theorem decQ_esc (t : List Int) : decQ (92 :: t) = decE t := by unfold decQ; simp
theorem decE_nm {c : Int} (h : c ≠ 120 ∧ c ≠ 117 ∧ c ≠ 85) (t : List Int) : decE (c :: t) = some (.good (nmQ c), t) := by
  unfold decE
  simp only
  rw [if_neg h.1, if_neg h.2.1, if_neg h.2.2]
theorem dec_code (T : Lib.PrintTabs) {k : QK} (hk : okQ k) (t : List Int) : decQ (codeQ T k ++ t) = some (k, t) := by
  cases k with
  | bad b =>
    have h : 128 ≤ b ∧ b < 256 := hk
    show decQ (92 :: 120 :: Lib.hexDigit (b / 16) :: Lib.hexDigit (b % 16) :: t) = _
    rw [decQ_esc]
    unfold decE
    simp only
    rw [if_pos trivial, dec2_hex h.2, if_pos h.1]
  | good r =>
    have h : r < 55296 ∨ (57343 < r ∧ r ≤ 1114111) := hk
    show decQ (escRune T (r : Int) ++ t) = _
    unfold escRune
    by_cases c0 : (r : Int) = 34 ∨ (r : Int) = 92
    · rw [if_pos c0]
      show decQ (92 :: (r : Int) :: t) = _
      rw [decQ_esc, decE_nm (by omega)]
      congr 3
      unfold nmQ
      rw [if_neg (by omega), if_neg (by omega), if_neg (by omega), if_neg (by omega), if_neg (by omega), if_neg (by omega), if_neg (by omega)]
      omega
    rw [if_neg c0]
    by_cases c1 : isPrintR T r = true
    · rw [if_pos c1]
      exact dec_enc h (by omega) t
    rw [if_neg c1]
    clear c1
    by_cases e7 : r = 7
    · subst e7; rw [if_pos (by omega)]; rfl
    rw [if_neg (by omega)]
    by_cases e8 : r = 8
    · subst e8; rw [if_pos (by omega)]; rfl
    rw [if_neg (by omega)]
    by_cases e12 : r = 12
    · subst e12; rw [if_pos (by omega)]; rfl
    rw [if_neg (by omega)]
    by_cases e10 : r = 10
    · subst e10; rw [if_pos (by omega)]; rfl
    rw [if_neg (by omega)]
    by_cases e13 : r = 13
    · subst e13; rw [if_pos (by omega)]; rfl
    rw [if_neg (by omega)]
    by_cases e9 : r = 9
    · subst e9; rw [if_pos (by omega)]; rfl
    rw [if_neg (by omega)]
    by_cases e11 : r = 11
    · subst e11; rw [if_pos (by omega)]; rfl
    rw [if_neg (by omega)]
    by_cases c2 : (r : Int) < 32 ∨ (r : Int) = 127
    · rw [if_pos c2, Int.toNat_natCast]
      show decQ (92 :: 120 :: Lib.hexDigit (r / 16) :: Lib.hexDigit (r % 16) :: t) = _
      rw [decQ_esc]
      unfold decE
      simp only
      rw [if_pos trivial, dec2_hex (by omega), if_neg (by omega)]
    rw [if_neg c2]
    rw [if_neg (by
      show ¬ validRune (r : Int) = false
      simp only [validRune, decide_eq_false_iff_not]
      omega)]
    by_cases c3 : (r : Int) < 65536
    · rw [if_pos c3, Int.toNat_natCast]
      show decQ (92 :: 117 :: (hexDigits r 4 ++ t)) = _
      rw [decQ_esc]
      unfold decE
      simp only
      rw [if_neg (by decide), if_pos trivial, dec4_hex (by omega)]
    rw [if_neg c3, Int.toNat_natCast]
    show decQ (92 :: 85 :: (hexDigits r 8 ++ t)) = _
    rw [decQ_esc]
    unfold decE
    simp only
    rw [if_neg (by decide), if_neg (by decide), if_pos trivial, dec8_hex (by omega)]
theorem code_34 (T : Lib.PrintTabs) (k : QK) (hk : okQ k) (t t' : List Int) : codeQ T k ++ t ≠ 34 :: t' := by
  intro e
  have h := dec_code T hk t
  rw [e] at h
  have h2 : decQ (34 :: t') = some (.good 34, t') := rfl
  rw [h2] at h
  injection h with h
  injection h with h3 _
  rw [← h3] at e
  revert e
  show escRune T (34 : Nat) ++ t ≠ _
  simp [escRune]
def keyQ (s : ByteArray) : QK := if (Utf8.decode s 0).2 = 1 ∧ (Utf8.decode s 0).1 = 65533 then .bad (s.get! 0).toNat else .good (Utf8.decode s 0).1
theorem step_key (T : Lib.PrintTabs) (s : ByteArray) : quoteStep T s = codeQ T (keyQ s) := by
  unfold quoteStep keyQ
  split <;> rfl
theorem dec_L (s : ByteArray) : decodeL s.data.toList = Utf8.decode s 0 := by unfold decodeL; congr 1
theorem get_L (s : ByteArray) (h : 0 < s.size) : s.get! 0 = s.data.toList.getD 0 0 := by
  cases s with
  | mk d =>
    cases d with
    | mk l =>
      cases l with
      | nil => exact absurd h (by decide)
      | cons x l => rfl
theorem key_ok (s : ByteArray) (_ : 0 < s.size) : okQ (keyQ s) := by
  unfold keyQ
  split
  · rename_i hc
    refine ⟨?_, (s.get! 0).toNat_lt⟩
    have hd := decode_at s 0
    by_cases hb : (s.get! 0).toNat < 128
    · rw [hd] at hc
      unfold decodeN at hc
      rw [if_pos hb] at hc
      have := hc.2
      simp only at this
      omega
    · omega
  · have := rune_valid s
    show (Utf8.decode s 0).1 < 55296 ∨ (57343 < (Utf8.decode s 0).1 ∧ (Utf8.decode s 0).1 ≤ 1114111)
    simp only [Lib.validRune, decide_eq_true_eq] at this
    omega
def bytQ : QK → List UInt8
  | .good r => encodeRune (r : Int)
  | .bad b => [UInt8.ofNat b]
theorem key_bytes (s : ByteArray) (h : 0 < s.size) : s.data.toList = bytQ (keyQ s) ++ (s.extract (Utf8.decode s 0).2 s.size).data.toList := by
  have hne : s.data.toList ≠ [] := by
    intro e
    have h2 : s.size = s.data.toList.length := rfl
    rw [e] at h2
    rw [h2] at h
    exact absurd h (by decide)
  have hx : (s.extract (Utf8.decode s 0).2 s.size).data.toList = s.data.toList.drop (Utf8.decode s 0).2 := by
    rw [ByteArray.data_extract, Array.toList_extract, List.extract_eq_take_drop]
    exact List.take_of_length_le (by rw [List.length_drop]; exact Nat.le_refl _)
  rw [hx]
  unfold keyQ
  split
  · rename_i hc
    rw [hc.1, get_L s h]
    show _ = [UInt8.ofNat (s.data.toList.getD 0 0).toNat] ++ _
    rw [← byteOfM, ← takeA _ (List.length_pos_iff.2 hne), List.take_append_drop]
  · rename_i hc
    have := encode_decode s.data.toList hne (by rw [dec_L]; exact fun e => hc ⟨e.2, e.1⟩)
    rw [dec_L] at this
    show _ = encodeRune _ ++ _
    rw [this, List.take_append_drop]
theorem from_inj (T : Lib.PrintTabs) : ∀ (f : Nat) (s s' : ByteArray) (f' : Nat) (t t' : List Int), s.size ≤ f → s'.size ≤ f' → quoteFrom T f s ++ 34 :: t = quoteFrom T f' s' ++ 34 :: t' → s = s' ∧ t = t' := by
  intro f
  induction f with
  | zero =>
    intro s s' f' t t' h h' e
    have h0 : s.size = 0 := by omega
    rw [quoteFrom_end T 0 s (by omega), List.nil_append] at e
    by_cases h1 : 0 < s'.size
    · rw [quoteFrom_step T f' s' h1 h', step_key, List.append_assoc] at e
      exact absurd e.symm (code_34 T _ (key_ok s' h1) _ _)
    · rw [quoteFrom_end T f' s' h1, List.nil_append] at e
      injection e with _ e
      refine ⟨?_, e⟩
      apply ByteArray.ext
      apply Array.ext
      · exact h0.trans (by have : s'.size = 0 := by omega
                           exact this.symm)
      · intro i hi _
        have : s.size = s.data.size := rfl
        omega
  | succ f ih =>
    intro s s' f' t t' h h' e
    by_cases h0 : 0 < s.size
    · rw [quoteFrom_step T (f + 1) s h0 h, step_key, List.append_assoc] at e
      by_cases h1 : 0 < s'.size
      · rw [quoteFrom_step T f' s' h1 h', step_key, List.append_assoc] at e
        have d1 := dec_code T (key_ok s h0) (quoteFrom T (f + 1 - 1) (s.extract (Utf8.decode s 0).2 s.size) ++ 34 :: t)
        have d2 := dec_code T (key_ok s' h1) (quoteFrom T (f' - 1) (s'.extract (Utf8.decode s' 0).2 s'.size) ++ 34 :: t')
        rw [e, d2] at d1
        injection d1 with d1
        injection d1 with hk ht
        have p1 := width_pos s 0
        have p2 := width_pos s' 0
        obtain ⟨hs, htt⟩ := ih _ _ _ _ _ (by rw [size_rest]; omega) (by rw [size_rest]; omega) ht.symm
        refine ⟨?_, htt⟩
        apply ByteArray.ext
        apply Array.toList_inj.1
        rw [key_bytes s h0, key_bytes s' h1, hk, hs]
      · rw [quoteFrom_end T f' s' h1, List.nil_append] at e
        exact absurd e (code_34 T _ (key_ok s h0) _ _)
    · rw [quoteFrom_end T (f + 1) s h0, List.nil_append] at e
      by_cases h1 : 0 < s'.size
      · rw [quoteFrom_step T f' s' h1 h', step_key, List.append_assoc] at e
        exact absurd e.symm (code_34 T _ (key_ok s' h1) _ _)
      · rw [quoteFrom_end T f' s' h1, List.nil_append] at e
        injection e with _ e
        refine ⟨?_, e⟩
        apply ByteArray.ext
        apply Array.ext
        · have a1 : s.size = s.data.size := rfl
          have a2 : s'.size = s'.data.size := rfl
          omega
        · intro i hi _
          have : s.size = s.data.size := rfl
          omega
theorem quote_inj (T : Lib.PrintTabs) {s s' : ByteArray} {t t' : List Int} (e : quoteZ T s ++ t = quoteZ T s' ++ t') : s = s' ∧ t = t' := by
  unfold quoteZ at e
  simp only [List.cons_append, List.append_assoc, List.nil_append] at e
  injection e with _ e
  exact from_inj T _ s s' _ t t' (Nat.le_refl _) (Nat.le_refl _) e
theorem quote_pos (T : Lib.PrintTabs) (s : ByteArray) : quoteZ T s ≠ [] := by unfold quoteZ; simp
end Go.Proofs.YtaojblejnpemkaaDoor
namespace Go.Proofs.YtaojblejnpemkaaDoor
open Go.Lib
theorem hex_byte {x : Nat} (h : x < 16) : 0 ≤ Go.Lib.hexDigit x ∧ Go.Lib.hexDigit x < 256 := by unfold Go.Lib.hexDigit; split <;> omega
theorem hexs_byte (r : Nat) : ∀ n, ∀ x ∈ hexDigits r n, 0 ≤ x ∧ x < 256
  | 0, x, h => by cases h
  | n + 1, x, h => by
    unfold hexDigits at h
    rcases List.mem_cons.1 h with rfl | h
    · exact hex_byte (Nat.mod_lt _ (by decide))
    · exact hexs_byte r n x h
theorem enc_byte (r : Int) : ∀ x ∈ encodeRuneZ r, 0 ≤ x ∧ x < 256 := by
  intro x h
  unfold encodeRuneZ at h
  split at h
  · rw [List.mem_singleton] at h; omega
  · split at h
    · simp only [List.mem_cons, List.not_mem_nil, or_false] at h; omega
    · split at h
      · simp only [List.mem_cons, List.not_mem_nil, or_false] at h; omega
      · split at h
        · simp only [List.mem_cons, List.not_mem_nil, or_false] at h; omega
        · simp only [List.mem_cons, List.not_mem_nil, or_false] at h; omega
theorem code_byte (T : PrintTabs) {k : QK} (hk : okQ k) : ∀ x ∈ codeQ T k, 0 ≤ x ∧ x < 256 := by
  intro x h
  cases k with
  | bad b =>
    have hb : 128 ≤ b ∧ b < 256 := hk
    have h1 := hex_byte (x := b / 16) (by omega)
    have h2 := hex_byte (x := b % 16) (by omega)
    simp only [codeQ, List.mem_cons, List.not_mem_nil, or_false] at h
    omega
  | good r =>
    have h : x ∈ escRune T (r : Int) := h
    have two : ∀ a : Int, 0 ≤ a → a < 256 → x ∈ [92, a] → 0 ≤ x ∧ x < 256 := fun a h1 h2 hx => by
      simp only [List.mem_cons, List.not_mem_nil, or_false] at hx
      omega
    have hexs : ∀ (c v n : Nat), c < 256 → x ∈ ((92 : Int) :: (c : Int) :: hexDigits v n) → 0 ≤ x ∧ x < 256 := fun c v n hc hx => by
      rcases List.mem_cons.1 hx with rfl | hx
      · decide
      · rcases List.mem_cons.1 hx with rfl | hx
        · omega
        · exact hexs_byte _ _ x hx
    unfold escRune at h
    by_cases c0 : (r : Int) = 34 ∨ (r : Int) = 92
    · rw [if_pos c0] at h; exact two _ (by omega) (by omega) h
    rw [if_neg c0] at h
    by_cases c1 : isPrintR T r = true
    · rw [if_pos c1] at h; exact enc_byte _ x h
    rw [if_neg c1] at h
    by_cases e7 : (r : Int) = 7
    · rw [if_pos e7] at h; exact two 97 (by decide) (by decide) h
    rw [if_neg e7] at h
    by_cases e8 : (r : Int) = 8
    · rw [if_pos e8] at h; exact two 98 (by decide) (by decide) h
    rw [if_neg e8] at h
    by_cases e12 : (r : Int) = 12
    · rw [if_pos e12] at h; exact two 102 (by decide) (by decide) h
    rw [if_neg e12] at h
    by_cases e10 : (r : Int) = 10
    · rw [if_pos e10] at h; exact two 110 (by decide) (by decide) h
    rw [if_neg e10] at h
    by_cases e13 : (r : Int) = 13
    · rw [if_pos e13] at h; exact two 114 (by decide) (by decide) h
    rw [if_neg e13] at h
    by_cases e9 : (r : Int) = 9
    · rw [if_pos e9] at h; exact two 116 (by decide) (by decide) h
    rw [if_neg e9] at h
    by_cases e11 : (r : Int) = 11
    · rw [if_pos e11] at h; exact two 118 (by decide) (by decide) h
    rw [if_neg e11] at h
    by_cases c2 : (r : Int) < 32 ∨ (r : Int) = 127
    · rw [if_pos c2] at h
      have h1 := hex_byte (x := (r : Int).toNat / 16) (by omega)
      have h2 := hex_byte (x := (r : Int).toNat % 16) (by omega)
      simp only [List.mem_cons, List.not_mem_nil, or_false] at h
      omega
    rw [if_neg c2] at h
    by_cases c3 : Go.Lib.validRune (r : Int) = false
    · rw [if_pos c3] at h; exact hexs 117 _ _ (by decide) h
    rw [if_neg c3] at h
    by_cases c4 : (r : Int) < 65536
    · rw [if_pos c4] at h; exact hexs 117 _ _ (by decide) h
    rw [if_neg c4] at h
    exact hexs 85 _ _ (by decide) h
theorem from_byte (T : PrintTabs) : ∀ (f : Nat) (s : ByteArray), ∀ x ∈ quoteFrom T f s, 0 ≤ x ∧ x < 256
  | 0, s, x, h => by cases h
  | f + 1, s, x, h => by
    unfold quoteFrom at h
    split at h
    · rename_i h0
      rcases List.mem_append.1 h with h | h
      · rw [step_key] at h
        exact code_byte T (key_ok s h0) x h
      · exact from_byte T f _ x h
    · cases h
theorem quote_byte (T : PrintTabs) (s : ByteArray) : ∀ x ∈ quoteZ T s, 0 ≤ x ∧ x < 256 := by
  intro x h
  unfold quoteZ at h
  rcases List.mem_cons.1 h with rfl | h
  · decide
  · rcases List.mem_append.1 h with h | h
    · exact from_byte T _ _ x h
    · rw [List.mem_singleton] at h; omega
theorem byte_inj {x y : Int} (hx : 0 ≤ x ∧ x < 256) (hy : 0 ≤ y ∧ y < 256) (h : UInt8.ofNat x.toNat = UInt8.ofNat y.toNat) : x = y := by
  have h2 := congrArg UInt8.toNat h
  rw [UInt8.toNat_ofNat', UInt8.toNat_ofNat', Nat.mod_eq_of_lt (by omega), Nat.mod_eq_of_lt (by omega)] at h2
  omega
theorem bytes_inj : ∀ {xs ys : List Int}, (∀ x ∈ xs, 0 ≤ x ∧ x < 256) → (∀ y ∈ ys, 0 ≤ y ∧ y < 256) → (xs.map fun n => UInt8.ofNat n.toNat) = (ys.map fun n => UInt8.ofNat n.toNat) → xs = ys
  | [], [], _, _, _ => rfl
  | [], y :: ys, _, _, h => by cases h
  | x :: xs, [], _, _, h => by cases h
  | x :: xs, y :: ys, hx, hy, h => by
    rw [List.map_cons, List.map_cons] at h
    injection h with h1 h2
    rw [byte_inj (hx x List.mem_cons_self) (hy y List.mem_cons_self) h1, bytes_inj (fun z hz => hx z (List.mem_cons_of_mem _ hz)) (fun z hz => hy z (List.mem_cons_of_mem _ hz)) h2]
theorem nums_inj {xs ys : List Int} (hx : ∀ x ∈ xs, 0 ≤ x ∧ x < 256) (hy : ∀ y ∈ ys, 0 ≤ y ∧ y < 256) (h : strOfNums xs = strOfNums ys) : xs = ys := by
  refine bytes_inj hx hy ?_
  rw [← strOfNums_data, ← strOfNums_data, h]
def toldZ (T : PrintTabs) (s : List Pr) : List Int := s.flatMap fun p => quoteZ T p.1 ++ quoteZ T p.2
theorem toldZ_byte (T : PrintTabs) (s : List Pr) : ∀ x ∈ toldZ T s, 0 ≤ x ∧ x < 256 := by
  intro x h
  unfold toldZ at h
  obtain ⟨p, _, hp⟩ := List.mem_flatMap.1 h
  rcases List.mem_append.1 hp with hp | hp
  · exact quote_byte T _ x hp
  · exact quote_byte T _ x hp
theorem toldZ_inj (T : PrintTabs) : ∀ {s s' : List Pr}, toldZ T s = toldZ T s' → s = s'
  | [], [], _ => rfl
  | [], p :: s', h => by
    unfold toldZ at h
    rw [List.flatMap_nil, List.flatMap_cons, List.append_assoc] at h
    have := congrArg List.length h
    unfold quoteZ at this
    simp at this
  | p :: s, [], h => by
    unfold toldZ at h
    rw [List.flatMap_nil, List.flatMap_cons, List.append_assoc] at h
    have := congrArg List.length h
    unfold quoteZ at this
    simp at this
  | p :: s, p' :: s', h => by
    unfold toldZ at h
    rw [List.flatMap_cons, List.flatMap_cons, List.append_assoc, List.append_assoc] at h
    obtain ⟨h1, h2⟩ := quote_inj T h
    obtain ⟨h3, h4⟩ := quote_inj T h2
    rw [toldZ_inj T h4]
    obtain ⟨a, b⟩ := p
    obtain ⟨a', b'⟩ := p'
    simp only at h1 h3
    rw [h1, h3]
def toldB (T : PrintTabs) (s : List Pr) : ByteArray := strOfNums (toldZ T s)
theorem toldB_inj (T : PrintTabs) {s s' : List Pr} (h : toldB T s = toldB T s') : s = s' := toldZ_inj T (nums_inj (toldZ_byte T s) (toldZ_byte T s') h)
theorem toldZ_snoc (T : PrintTabs) (s : List Pr) (p : Pr) : toldZ T (s ++ [p]) = (toldZ T s ++ quoteZ T p.1) ++ quoteZ T p.2 := by
  unfold toldZ
  rw [List.flatMap_append, List.flatMap_singleton, List.append_assoc]
end Go.Proofs.YtaojblejnpemkaaDoor
namespace Go.Proofs.YtaojblejnpemkaaDoor
open Go.RowKit
def Tabs (T : Lib.PrintTabs) (w : World) : Prop := Lib.PrintTabsAt 2 3 4 5 T w ∧ Lib.Utf8Tabs 0 1 w
theorem cell_below {w w' : World} {a : Addr} {v : Value} (hb : Below w.heap.size w w') (h : w.cell? a = some v) : w'.cell? a = some v := (hb.cell (World.block_lt_of_cell? _ _ h)).trans h
theorem slice_below {w w' : World} {g : Nat} {k : IntKind} {t : List Nat} (hb : Below w.heap.size w w') (h : Lib.TabSlice g k t w) : Lib.TabSlice g k t w' := by
  obtain ⟨R, o, c, h1, h2⟩ := h
  exact ⟨R, o, c, cell_below hb h1, fun j hj => cell_below hb (h2 j hj)⟩
theorem Tabs.below {T : Lib.PrintTabs} {w w' : World} (h : Tabs T w) (hb : Below w.heap.size w w') : Tabs T w' := by
  obtain ⟨⟨h1, h2, h3, h4, h5⟩, h6, h7⟩ := h
  exact ⟨⟨slice_below hb h1, slice_below hb h2, slice_below hb h3, slice_below hb h4, h5⟩, fun c hc => cell_below hb (h6 c hc), fun i hi => ⟨cell_below hb (h7 i hi).1, cell_below hb (h7 i hi).2⟩⟩
theorem qt_any {T : Lib.PrintTabs} {w : World} (h : Tabs T w) (s : ByteArray) (hs : s.size ≤ 16) : Calls Tryd.prog 47 #[.string s] w fun e w' => e = .returned (.string (strOfNums (Lib.quoteZ T s))) ∧ Below w.heap.size w w' := quote_any T s w (by omega) h.1 h.2
abbrev BldF (B b : Nat) (l : List UInt8) (w : World) : Prop := Lib.IsBuilderF 87 5 B b (Lib.byteCells l) w
theorem rowF_below {w w' : World} {B : Nat} {e : TypeId} {n : Nat} {v : Value} {xs : List Value} (h : w.ownsRowF B e 1 v n xs) (hb : Below w.heap.size w w') : w'.ownsRowF B e 1 v n xs := by
  obtain ⟨h1, h2 | ⟨g, cap, cur, fz, h3, h4, h5, h6⟩⟩ := h
  · exact ⟨h1, .inl h2⟩
  · exact ⟨h1, .inr ⟨g, cap, cur, fz, h3, h4, (hb.block g (Array.getElem?_eq_some_iff.1 h5).1).trans h5, h6⟩⟩
theorem bldF_below {w w' : World} {B b : Nat} {l : List UInt8} (h : BldF B b l w) (hb : Below w.heap.size w w') : BldF B b l w' := by
  rcases h with ⟨h1, v, h2, h3, h4⟩ | ⟨h1, v, h2, h3, h4⟩
  · exact .inl ⟨h1, v, (hb.block b (Array.getElem?_eq_some_iff.1 h2).1).trans h2, rowF_below h3 hb, h4⟩
  · exact .inr ⟨h1, v, (hb.block b (Array.getElem?_eq_some_iff.1 h2).1).trans h2, rowF_below h3 hb, h4⟩
def numB (xs : List Int) : List UInt8 := xs.map fun n => UInt8.ofNat n.toNat
theorem numB_app (xs ys : List Int) : numB (xs ++ ys) = numB xs ++ numB ys := List.map_append
theorem cells_app (xs ys : List Int) : Lib.byteCells (numB xs) ++ Lib.strCells (strOfNums ys) = Lib.byteCells (numB (xs ++ ys)) := by
  rw [Lib.strCells_eq, strOfNums_data, numB_app]
  unfold Lib.byteCells
  rw [List.map_append]
  rfl
theorem toldB_eq (T : Lib.PrintTabs) (l : List Pr) : (⟨(numB (toldZ T l)).toArray⟩ : ByteArray) = toldB T l := rfl
def ShortS (l : List Pr) : Prop := l.length ≤ 8 ∧ ∀ p ∈ l, p.1.size ≤ 16 ∧ p.2.size ≤ 16
theorem toldZ_len (T : Lib.PrintTabs) : ∀ {l : List Pr}, (∀ p ∈ l, p.1.size ≤ 16 ∧ p.2.size ≤ 16) → (toldZ T l).length ≤ 324 * l.length
  | [], _ => by simp [toldZ]
  | p :: l, h => by
    have ih := toldZ_len T (l := l) fun q hq => h q (List.mem_cons_of_mem _ hq)
    have h1 := Lib.quoteZ_length_le T p.1
    have h2 := Lib.quoteZ_length_le T p.2
    have h3 := h p List.mem_cons_self
    unfold toldZ at ih ⊢
    rw [List.flatMap_cons, List.length_append, List.length_append, List.length_cons]
    omega
theorem take_succZ (T : Lib.PrintTabs) {l : List Pr} {k : Nat} {p : Pr} (h : l[k]? = some p) : toldZ T (l.take (k + 1)) = (toldZ T (l.take k) ++ Lib.quoteZ T p.1) ++ Lib.quoteZ T p.2 := by
  have e : l.take (k + 1) = l.take k ++ [p] := by rw [List.take_add_one, h]; rfl
  rw [e, toldZ_snoc]
theorem bldF_lt {w : World} {B b : Nat} {l : List UInt8} (h : BldF B b l w) : b < w.heap.size := by
  rcases h with h | h
  · exact h.lt
  · exact h.lt
theorem len_fits (T : Lib.PrintTabs) {xs : List Int} {s : ByteArray} (hx : xs.length ≤ 10000) (hs : s.size ≤ 16) : (Lib.byteCells (numB xs)).length + (strOfNums (Lib.quoteZ T s)).size ≤ 140737488355328 := by
  have := Lib.quoteZ_length_le T s
  rw [Lib.byteCells_length, strOfNums_size]
  unfold numB
  rw [List.length_map]
  omega
theorem bld_new (w : World) : BldF w.heap.size w.heap.size (numB []) (w.alloc (Obj.cells #[.pointer none, .slice none 0 0] 87)) := .inl ⟨Nat.le_refl _, .slice none 0 0, heap_alloc_new w (Obj.cells #[.pointer none, .slice none 0 0] 87), ⟨by simp [numB, Lib.byteCells], .inl ⟨rfl, by simp [numB, Lib.byteCells]⟩⟩, by simp [Value.ownBlock]⟩
set_option maxRecDepth 100000 in
set_option maxHeartbeats 2000000 in
theorem told_any (T : Lib.PrintTabs) (a : Option Addr) (cap : Nat) (l : List Pr) (w : World) (hs : SlP w a cap l) (hl : ShortS l) (hT : Tabs T w) :
    Calls Tryd.prog 34 #[.slice a l.length cap] w fun e w' => e = .returned (.string (toldB T l)) ∧ Below w.heap.size w w' := by
  have HL := Lib.hid hl
  have h8 : l.length ≤ 8 := hl.1
  have HB0 := Lib.hid (bld_new w)
  have hb0 := blw w (Obj.cells #[.pointer none, .slice none 0 0] 87)
  clear hl
  go_enter Tryd.func34, Tryd.ntmps34
  refine wp_seq_k (fun K hK => ?_)
  have HK := Lib.hid hK
  clear hK
  go_wp2
  refine HK.out _ _ ?_
  clear HK
  refine wp_seq_k (fun K hK => ?_)
  have HK := Lib.hid hK
  clear hK
  go_wp2
  refine HK.out _ _ ?_
  clear HK
  have S0 := HB0.out
  generalize w.alloc (Obj.cells #[.pointer none, .slice none 0 0] 87) = w1 at *
  refine wp_seq_k (fun K hK => ?_)
  go_cut [8] (fun _ wx => BldF w.heap.size w.heap.size (numB (toldZ T l)) wx ∧ Below w.heap.size w wx ∧ w.heap.size ≤ wx.heap.size)
  case first =>
    go_wp2
    go_loopw [8] (fun i wr => ∃ k : Nat, k ≤ l.length ∧ i = .int .i64 k ∧ Hid (BldF w.heap.size w.heap.size (numB (toldZ T (l.take k))) wr) ∧ Below w.heap.size w wr) (fun i _ => l.length - (intOf i).toNat)
    case atStart => exact ⟨0, by omega, rfl, Lib.hid (by rw [List.take_zero]; exact S0), hb0⟩
    case round =>
      clear S0 hb0
      obtain ⟨k, hk, rfl, hB, hbr⟩ := hrel
      by_cases hlt : k < l.length
      · have hgt := List.getElem?_eq_getElem hlt
        obtain ⟨b, off, rfl, hblt, hat⟩ := hs.row.pair hgt
        obtain ⟨c0, c1⟩ := hat k _ hgt
        obtain ⟨p, hp⟩ : ∃ p, l[k] = p := ⟨_, rfl⟩
        rw [hp] at c0 c1 hgt
        have hps := HL.out.2 p (List.mem_of_getElem? hgt)
        have HP := Lib.hid (And.intro hgt hps)
        have c0 := cell_below hbr c0
        have c1 := cell_below hbr c1
        have hTr := hT.below hbr
        have HLT := Lib.hid hlt
        clear hat hp hgt hps
        refine wp_seq_k (fun K hK => ?_)
        have HK := Lib.hid hK
        clear hK
        go_wp2
        refine HK.out _ _ ?_
        clear HK
        refine wp_seq_k (fun K hK => ?_)
        have HK := Lib.hid hK
        clear hK
        go_wp2
        refine HK.out _ _ ?_
        clear HK
        refine wp_seq_k (fun K hK => ?_)
        have HK2 := Lib.hid hK
        clear hK
        refine wp_block ?_
        refine wp_seq_k (fun K hK => ?_)
        have HK := Lib.hid hK
        clear hK
        go_wp2
        refine HK.out _ _ ?_
        clear HK
        have bx := heap_alloc_new wr (Obj.cells #[.string p.1, .string p.2] 72)
        have hb1 := blw wr (Obj.cells #[.string p.1, .string p.2] 72)
        have hw1 := hbr.trans (hb1.mono hbr.size)
        have hT1 := hTr.below hb1
        have hB1 := bldF_below hB.out hb1
        have hql := bldF_lt hB.out
        clear c0 c1 hTr hB hb1 hbr
        generalize wr.alloc (Obj.cells #[.string p.1, .string p.2] 72) = w2 at *
        generalize wr.heap.size = q at *
        have hn0 : (toldZ T (l.take k)).length ≤ 4000 := by
          have := toldZ_len T (l := l.take k) fun p hp => HL.out.2 p (List.mem_of_mem_take hp)
          rw [List.length_take] at this
          omega
        have HN0 := Lib.hid hn0
        have hq1 := Lib.quoteZ_length_le T p.1
        have HN1 := Lib.hid (show (toldZ T (l.take k) ++ Lib.quoteZ T p.1).length ≤ 10000 by rw [List.length_append]; have := HP.out.2.1; omega)
        have z0 := blk_cell bx 0 (.string p.1) rfl
        clear hn0 hq1
        refine wp_seq_k (fun K hK => ?_)
        have HK := Lib.hid hK
        clear hK
        go_wp2_with (first
                  | (go_at_call 47; refine (qt_any hT1 p.1 HP.out.2.1).mono ?_; rintro e w3 ⟨rfl, hb3⟩; have B3 := bldF_below hB1 hb3)
                  | (go_at_call 46; refine (bwrite_any _ _ _ _ _ B3 (len_fits T (Nat.le_trans HN0.out (by decide)) HP.out.2.1) (hw1.trans (hb3.mono hw1.size)).size).mono ?_; rintro e w4 ⟨rfl, B4, hb4, ok4⟩))
        refine HK.out _ _ ?_
        clear HK
        rw [cells_app] at B4
        have B4 : BldF w.heap.size w.heap.size (numB (toldZ T (l.take k) ++ Lib.quoteZ T p.1)) w4 := .inr B4
        have hw4 := (hw1.trans (hb3.mono hw1.size)).trans hb4
        have bx4 := ok4 q _ (tr_bl hb3 bx) (by simp; omega) (by rintro c fz h; injection h with _ h _; revert h; decide)
        have hT4 := hT.below hw4
        have z1 := blk_cell bx4 1 (.string p.2) rfl
        clear hT1 hB1 B3 hb3 hb4 ok4 z0 bx hw1
        go_wp2_with (first
          | (go_at_call 47; refine (qt_any hT4 p.2 HP.out.2.2).mono ?_; rintro e w5 ⟨rfl, hb5⟩; have B5 := bldF_below B4 hb5)
          | (go_at_call 46; refine (bwrite_any _ _ _ _ _ B5 (len_fits T HN1.out HP.out.2.2) (hw4.trans (hb5.mono hw4.size)).size).mono ?_; rintro e w6 ⟨rfl, B6, hb6, _⟩))
        rw [cells_app, ← take_succZ T HP.out.1] at B6
        have HB6 := Lib.hid (show BldF w.heap.size w.heap.size (numB (toldZ T (l.take (k + 1)))) w6 from .inr B6)
        have hw6 := (hw4.trans (hb5.mono hw4.size)).trans hb6
        clear B4 B5 B6 hb5 hb6 bx4 z1 hT4
        (try simp only [Exit.inBlock, Exit.then])
        refine HK2.out _ _ ?_
        clear HK2
        go_wp2
        go_roundw
        case rel => exact ⟨k + 1, HLT.out, by go_num, HB6, hw6⟩
        case measure => have := HLT.out; simp [intOf]; omega
      · obtain rfl : k = l.length := by omega
        go_wp2
        go_meet
        rw [List.take_length] at hB
        exact ⟨hB.out, hbr, hbr.size⟩
  obtain ⟨hB, hb, hsz⟩ := hcut
  refine hK _ _ ?_
  clear hK
  go_wp2_with (go_at_call 48; refine (bstring_any _ _ _ _ hB hsz).mono ?_; rintro e w9 ⟨rfl, hb9⟩)
  rw [toldB_eq]
  go_wp2
  go_ret
  exact ⟨rfl, hb.trans hb9⟩
end Go.Proofs.YtaojblejnpemkaaDoor
namespace Go.Proofs.YtaojblejnpemkaaDoor
open Go.RowKit Go.Maps Go.ChangeMaps Go.MapKept Go.WideElems
section
variable {H : Type} {P : Program} {t k e : TypeId} {R : Value → Option (DataW H × List MemPlace)} {b n : Nat} {D : DataW H} {w : World}
theorem set_grown (w : World) (b : Nat) (o : Obj) : w.grownBy (setBlock w b o) (some b) :=
  ⟨rfl, rfl, rfl, by simp [setBlock], fun i _ hi => by
    have hne : b ≠ i := fun e => hi (by rw [e])
    show (w.heap.setIfInBounds b o)[i]? = _
    rw [Array.getElem?_setIfInBounds_ne hne]⟩
theorem set_at {w : World} {b : Nat} {o o' : Obj} (h : w.heap[b]? = some o') : (setBlock w b o).heap[b]? = some o := by
  show (w.heap.setIfInBounds b o)[b]? = _
  rw [Array.getElem?_setIfInBounds_self, if_pos (Array.getElem?_eq_some_iff.1 h).1]
theorem map_heap {w' : World} (h : w.ownsMap P k R b n D) (e : w'.heap[b]? = w.heap[b]?) : w'.ownsMap P k R b n D := by
  obtain ⟨es, clock, hb, r⟩ := h
  exact ⟨es, clock, e.trans hb, r⟩
theorem entry_gen (K : WideMaps.KeyLaw P k) (ht : P.underlying t = some (.map k e)) {z : Value} (hz : ∀ u : World, (zeroValue e).run P u = .ok z u) {dz : DataW H} {pz : List MemPlace} (hRz : R z = some (dz, pz)) (h : w.ownsMap P k R b n D) (hn : n < maxLen)
    {key : Value} {kl : Lit} (hkey : keyOf P k key = some kl) {v : Value} {d : DataW H} {p : List MemPlace} (hv : R v = some (d, p)) :
    ∃ (v0 : Value) (st : Nat) (w1 : World) (es1 : Array MapEntry) (ck1 : Nat), (Instr.mapEntry t (.map (some b)) key).run P w = .ok (.tuple #[v0, goInt st]) w1 ∧ w.grownBy w1 (some b) ∧ w1.heap[b]? = some (.map es1 ck1) ∧
      (w1.ownsMap P k R b (n + 1) (D.put kl dz) ∨ w1.ownsMap P k R b n D) ∧
      ∀ w2 : World, w2.heap[b]? = some (.map es1 ck1) → ∃ w3, (Instr.entryStore t (.map (some b)) (goInt st) v).run P w2 = .ok () w3 ∧ w3.ownsMap P k R b (n + 1) (D.put kl d) ∧ w2.grownBy w3 (some b) := by
  have hM := h
  obtain ⟨wu, hu1, hu2, _⟩ := h.update (Keyed.of_law K) ht hn hkey hv
  obtain ⟨wz, hz1, hz2, _⟩ := h.update (Keyed.of_law K) ht hn hkey hRz
  obtain ⟨es, clock, hb, F, _, _⟩ := h
  obtain ⟨v0, st, es1, clock1, e1, e2, e3⟩ := entry_then_store K ht hz hb F hkey
  refine ⟨v0, st, _, es1, clock1, e1, set_grown _ _ _, set_at hb, ?_, fun w2 hw2 => ?_⟩
  · rcases K.find w hkey es.toList F.keys with ⟨h1, h2⟩ | ⟨j, e0, h1, h2, h3⟩
    · have x1 : (Instr.mapEntry t (.map (some b)) key).run P w = .ok (.tuple #[z, goInt clock]) (setBlock w b (.map (es.push ⟨key, z, clock⟩) (clock + 1))) := by
        simp [Instr.mapEntry, run_underlying ht, MapKept.run_getObj_map hb, K.check w false hkey, h1, hz, MapKept.run_setObj_map _ hb, Result.andThen, setBlock]
      have x2 : (Instr.mapUpdate t (.map (some b)) key z).run P w = .ok () (setBlock w b (.map (es.push ⟨key, z, clock⟩) (clock + 1))) := by
        simp [Instr.mapUpdate, run_underlying ht, MapKept.run_getObj_map hb, K.check w false hkey, h1, MapKept.run_setObj_map _ hb, Result.andThen, setBlock]
      rw [x1] at e1
      injection e1 with _ e1
      rw [x2] at hz1
      injection hz1 with _ hz1
      left
      rw [← e1, hz1]
      exact hz2
    · have hj : es[j]? = some e0 := by simpa using h2
      have hsame : es.modify j (fun e => { e with key := key }) = es := by
        apply Array.ext'
        rw [Array.toList_modify, modify_eq_set _ _ _ _ h2]
        have : ({ e0 with key := key } : MapEntry) = e0 := by rw [← h3]
        rw [this]
        exact set_self _ _ _ h2
      have x1 : (Instr.mapEntry t (.map (some b)) key).run P w = .ok (.tuple #[e0.val, goInt e0.born]) (setBlock w b (.map es clock)) := by
        simp [Instr.mapEntry, run_underlying ht, MapKept.run_getObj_map hb, K.check w false hkey, h1, hj, h3, K.stays w hkey, hsame, MapKept.run_setObj_map _ hb, Result.andThen, setBlock]
      rw [x1] at e1
      injection e1 with _ e1
      right
      rw [← e1]
      exact map_heap hM (by rw [set_at hb, hb])
  · obtain ⟨es', clock', y1, y2⟩ := e3 w2 v hw2
    refine ⟨_, y1, ?_, set_grown _ _ _⟩
    rw [y2] at hu1
    injection hu1 with _ hu1
    refine map_heap hu2 ?_
    rw [← hu1, set_at hw2, set_at hb]
end
theorem linLaid : laidOutB Tryd.prog = true := by kernel_rfl
theorem lawSpot : WideMaps.KeyLaw Tryd.prog 79 := deep_law_laid linLaid (m := 3) (by omega) (of_decide_eq_true (by kernel_rfl)) (by kernel_rfl) (by kernel_rfl)
theorem keySpot : Keyed Tryd.prog 79 := Keyed.of_law lawSpot
def spotV (m : Nat) (s : ByteArray) : Value := .agg #[.int .u64 (m : Int), .string s]
def spotL (m : Nat) (s : ByteArray) : Lit := .string (keyBytes [.int .u64 (m : Int), .string s.data.toList])
section
variable {m m' : Nat} {s s' : ByteArray}
theorem lits_u64 (d : Nat) (hm : m < 2 ^ 40) : Tryd.prog.keyLits (d + 1) 50 [.int .u64 (m : Int)] = some [.int .u64 (m : Int)] := by
  have hw : (Lit.int .u64 (m : Int)).wf = true := by
    have e1 : IntKind.u64.min = 0 := by decide
    have e2 : IntKind.u64.max = 18446744073709551615 := by decide
    simp only [Lit.wf, e1, e2, Bool.and_eq_true, decide_eq_true_eq]
    omega
  unfold Program.keyLits
  simp only [Tryd.underlying50]
  rw [if_pos ⟨trivial, hw⟩]
theorem lits_str (d : Nat) (hs : s.size ≤ maxLen) : Tryd.prog.keyLits (d + 1) 9 [.string s] = some [.string s.data.toList] := by
  unfold Program.keyLits
  simp only [Tryd.underlying9]
  rw [if_pos hs]
theorem lits_spot (d : Nat) (hm : m < 2 ^ 40) (hs : s.size ≤ maxLen) : Tryd.prog.keyLits (d + 2) 79 [.int .u64 (m : Int), .string s] = some [.int .u64 (m : Int), .string s.data.toList] := by
  have h1 : Tryd.prog.cellsOf 50 = 1 := by kernel_rfl
  have h2 : Tryd.prog.cellsOf 9 = 1 := by kernel_rfl
  have h3 : Tryd.prog.cellsOf 79 = 2 := by kernel_rfl
  unfold Program.keyLits
  simp only [Tryd.underlying79]
  rw [if_pos ⟨by rw [h3]; rfl, by kernel_rfl⟩]
  simp only [List.mapM_cons, List.mapM_nil, h1, h2, List.drop_zero, List.take_succ_cons, List.take_zero, List.drop_succ_cons, lits_u64 d hm, lits_str d hs]
  rfl
theorem key_spot (hm : m < 2 ^ 40) (hs : s.size ≤ maxLen) : keyOf Tryd.prog 79 (spotV m s) = some (spotL m s) := by
  have h3 : Tryd.prog.cellsOf 79 = 2 := by kernel_rfl
  have hk : Tryd.prog.keyType 79 = true := by kernel_rfl
  obtain ⟨d, hd⟩ : ∃ d, Tryd.prog.types.size + 1 = d + 2 := ⟨Tryd.prog.types.size - 1, by have : 1 ≤ Tryd.prog.types.size := of_decide_eq_true (by kernel_rfl); omega⟩
  unfold keyOf spotV
  simp only [Tryd.underlying79]
  rw [if_pos (by rw [hk]; simp [Value.formed, Tryd.underlying79, h3]), hd]
  show ((Tryd.prog.keyLits (d + 2) 79 [.int .u64 (m : Int), .string s]).map fun ls => Lit.string (keyBytes ls)) = _
  rw [lits_spot d hm hs]
  rfl
theorem spot_inj (hm : m < 2 ^ 40) (hs : s.size ≤ maxLen) (hm' : m' < 2 ^ 40) (hs' : s'.size ≤ maxLen) (h : spotL m s = spotL m' s') : m = m' ∧ s = s' := by
  have h1 := keySpot.inj (key_spot hm hs) (h ▸ key_spot hm' hs')
  unfold spotV at h1
  injection h1 with h1
  have h2 := congrArg Array.toList h1
  simp only [List.cons.injEq, Value.int.injEq, Value.string.injEq, and_true, true_and] at h2
  exact ⟨by omega, h2.2⟩
end
abbrev MapS (w : World) (b n : Nat) (D : DataW Unit) : Prop := w.ownsMap Tryd.prog 79 (plainElem Tryd.prog 3) b n D
def look0 (D : DataW Unit) (k : Lit) (c : Int) : Prop := D.atKey k (.lit (.int .i64 0)) = .lit (.int .i64 c)
theorem zeroI (w : World) : (zeroValue 3).run Tryd.prog w = .ok (.int .i64 0) w := by kernel_rfl
section
variable {w : World} {b n m : Nat} {s : ByteArray} {D : DataW Unit}
theorem look_spot (h : MapS w b n D) (hm : m < 2 ^ 40) (hs : s.size ≤ maxLen) : ∃ c : Int, (Instr.lookup 63 (.map (some b)) (spotV m s) false).run Tryd.prog w = .ok (.int .i64 c) w ∧ look0 D (spotL m s) c := by
  obtain ⟨c, h1, h2, _⟩ := h.lookup_int keySpot Tryd.underlying63 Tryd.underlying3 (zeroI w) (key_spot hm hs)
  exact ⟨c, h1, h2⟩
set_option maxRecDepth 100000 in
theorem look_at (h : MapS w b n D) (hm : m < 2 ^ 40) (hs : s.size ≤ maxLen) {c : Int} (h0 : look0 D (spotL m s) c) : (Instr.lookup 63 (.map (some b)) (spotV m s) false).run Tryd.prog w = .ok (.int .i64 c) w := by
  obtain ⟨c', h1, h2⟩ := look_spot h hm hs
  have h3 : c' = c := by
    have h4 : (DataW.lit (H := Unit) (Lit.int .i64 c')) = .lit (.int .i64 c) := h2.symm.trans h0
    injection h4 with h4
    injection h4
  exact h3 ▸ h1
theorem wf1 : (Lit.int .i64 1).wf = true := by decide
theorem wf0 : (Lit.int .i64 0).wf = true := by decide
set_option maxRecDepth 100000 in
theorem entry_spot (h : MapS w b n D) (hn : n < maxLen) (hm : m < 2 ^ 40) (hs : s.size ≤ maxLen) (h0 : look0 D (spotL m s) 0) :
    ∃ (v0 : Value) (st : Int) (w1 : World) (es1 : Array MapEntry) (ck1 : Nat), (Instr.mapEntry 63 (.map (some b)) (spotV m s)).run Tryd.prog w = .ok (.tuple #[v0, .int .i64 st]) w1 ∧ w.grownBy w1 (some b) ∧ w1.heap[b]? = some (.map es1 ck1) ∧
      (Instr.lookup 63 (.map (some b)) (spotV m s) false).run Tryd.prog w1 = .ok (.int .i64 0) w1 ∧
      ∀ w2 : World, w2.heap[b]? = some (.map es1 ck1) → ∃ w3, (Instr.entryStore 63 (.map (some b)) (.int .i64 st) (.int .i64 1)).run Tryd.prog w2 = .ok () w3 ∧ MapS w3 b (n + 1) (D.put (spotL m s) (.lit (.int .i64 1))) ∧ w2.grownBy w3 (some b) := by
  obtain ⟨v0, st, w1, es1, ck1, e1, e2, e3, e4, e5⟩ := entry_gen lawSpot Tryd.underlying63 zeroI (plainElem_int Tryd.underlying3 wf0) h hn (key_spot hm hs) (plainElem_int Tryd.underlying3 wf1)
  refine ⟨v0, st, w1, es1, ck1, e1, e2, e3, ?_, e5⟩
  rcases e4 with e4 | e4
  · exact look_at e4 hm hs (atKey_put_same (h.isMap) (keySpot.key (key_spot hm hs)) _ _)
  · exact look_at e4 hm hs h0
end
end Go.Proofs.YtaojblejnpemkaaDoor
