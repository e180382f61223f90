/- Texts that the claim leans on, part 13: R0, Blk2, R1, R2, R3, EO. -/
import Derived.Test.YtmnjmjbmnhppfaaZ1
import Derived.Test.YtmnjmjbmnhppfaaZ2
import Derived.Test.YtmnjmjbmnhppfaaZ3
import Derived.Test.YtmnjmjbmnhppfaaZ4
import Derived.Test.YtmnjmjbmnhppfaaZ5
import Derived.Test.YtmnjmjbmnhppfaaZ6
import Derived.Test.YtmnjmjbmnhppfaaZ7
import Derived.Test.YtmnjmjbmnhppfaaZ8
import Derived.Test.YtmnjmjbmnhppfaaZ9
import Derived.Test.YtmnjmjbmnhppfaaZ10
import Derived.Test.YtmnjmjbmnhppfaaZ11
import Derived.Test.YtmnjmjbmnhppfaaZ12
import Derived.Test.YtmnjmjbmnhppfaaRows
import Derived.WalkKit
import Derived.WalkSpells
import Derived.WalkLawsBesides
import Derived.Handy
import Derived.Deep.QuietTactic
import Derived.BigQuiet
import Derived.Deep.DeepCutAuto
import Derived.Lib.Hide
import Derived.RegionTactic
import Derived.ChangeAlike
import Derived.Laws.ResultCell
import Derived.Outline
import Derived.Deep.Slices
import Derived.Deep.Strs
import Derived.OpenShut
import Derived.Lib.SmallJoins
import Derived.ProofKit
import Derived.Lib.AppendStr
import Derived.Laws.IdiomStrings
import Derived.Laws.BytesArg
import Derived.Recover
import Derived.Defers
import Derived.Deep.RegionHeld3
import Derived.Deep.Quiet
import Derived.ChangeKeysEq
import Derived.ChangeSlices
import Derived.Laws.EntriesVeiled
import Derived.StillTailTactics
import Derived.Laws.Rows
import Derived.Lib.Overlaps
import Derived.Deep.RegionWith
import Derived.Laws.Strings
import Derived.Laws.CopyOwn
import Derived.Laws.CopyRow
import Derived.Laws.NewBlocks
import Derived.Deep.RegionLaw
namespace Go.Proofs.Ytmnjmjbmnhppfaa

def runP (m : Im) : List En → Option (Im × List Rp)
  | [] => some (m, [])
  | e :: l =>
    if (applyP m (m.idx + 1) e).2.2 = 0 then
      match runP (applyP m (m.idx + 1) e).1 l with
      | none => none
      | some (m', t) => some (m', (applyP m (m.idx + 1) e).2.1 :: t)
    else none

theorem tb_at_put (t : Tb) (c d : Nat) (r : Rw) (hc : c < 4) (hd : d < 4) : (t.put c r).at d = if d = c then r else t.at d := by
  rcases four_cases hc with rfl | rfl | rfl | rfl <;> rcases four_cases hd with rfl | rfl | rfl | rfl <;> simp [Tb.put, Tb.at]
theorem tb_ext {t u : Tb} (h : ∀ c : Nat, c < 4 → t.at c = u.at c) : t = u := by
  have h0 := h 0 (by omega)
  have h1 := h 1 (by omega)
  have h2 := h 2 (by omega)
  have h3 := h 3 (by omega)
  simp [Tb.at] at h0 h1 h2 h3
  obtain ⟨a, b, c, d⟩ := t
  obtain ⟨a', b', c', d'⟩ := u
  simp only at h0 h1 h2 h3
  rw [h0, h1, h2, h3]
theorem mayT_at {t : Tb} : mayT t = true ↔ ∀ c : Nat, c < 4 → oddR (t.at c) = false := by
  rw [mayT_any, Bool.not_eq_true', List.any_eq_false]
  constructor
  · intro h c hc
    have := h (t.at c) (List.mem_of_getElem? (show t.list[c]? = some (t.at c) from by rcases four_cases hc with rfl | rfl | rfl | rfl <;> rfl))
    simpa using this
  · intro h r hr
    simp only [Tb.list, List.mem_cons, List.not_mem_nil, or_false] at hr
    have h0 := h 0 (by omega)
    have h1 := h 1 (by omega)
    have h2 := h 2 (by omega)
    have h3 := h 3 (by omega)
    simp [Tb.at] at h0 h1 h2 h3
    rcases hr with rfl | rfl | rfl | rfl <;> simp [*]

/-- What a good step comes to: the index goes on, the image may be, a row changes only to a greater number. -/
structure StepOk (m : Im) (e : En) (r : Im × Rp × Int) : Prop where
  may : mayI r.1 = true
  idx : r.1.idx = m.idx + 1
  err : r.2.2 = 0
  ent : mayE e = true
  rows : ∀ c : Nat, c < 4 → r.1.tb.at c = m.tb.at c ∨ (m.tb.at c).seq < (r.1.tb.at c).seq
  mine : e.kind ≠ 1 → ∀ c : Nat, e.cli = c → (e.seq < (m.tb.at c).seq ∧ r.1.tb = m.tb ∧ r.1.st = m.st ∧ r.2.1 = ⟨220, false, ⟨#[]⟩⟩) ∨ (e.seq = (m.tb.at c).seq ∧ r.1.tb = m.tb ∧ r.1.st = m.st ∧ r.2.1 = (m.tb.at c).rep) ∨ ((m.tb.at c).seq < e.seq ∧ r.1.tb.at c = ⟨e.seq, r.2.1⟩)

theorem step_ok {m : Im} {e : En} (h : (applyP m (m.idx + 1) e).2.2 = 0) : StepOk m e (applyP m (m.idx + 1) e) := by
  cases hb : badAp m (m.idx + 1) e with
  | true => rw [badAp_yes hb] at h; cases h
  | false =>
    obtain ⟨h1, h2, h3, _⟩ := badAp_no hb
    obtain ⟨i0, i1, hs, ht⟩ := mayI_parts h1
    have hidx : decide (0 ≤ m.idx + 1) = true ∧ decide (m.idx + 1 ≤ big40) = true := ⟨decide_eq_true (by omega), decide_eq_true (by unfold big40; omega)⟩
    have base : ∀ (st : List Pr) (tb : Tb), mayS st = true → mayT tb = true → mayI ⟨m.idx + 1, st, tb⟩ = true := by
      intro st tb a b
      unfold mayI
      simp only
      rw [hidx.1, hidx.2, a, b]
      rfl
    by_cases hk : e.kind = 1
    · rw [applyP_noop hb hk]
      exact ⟨base _ _ hs ht, rfl, rfl, h2, fun c _ => .inl rfl, fun hne => absurd hk hne⟩
    · obtain ⟨hk2, hc0, hc4, hq1, hq2, hmo⟩ := mayE_parts h2 hk
      obtain ⟨c, hc⟩ : ∃ c : Nat, e.cli = c := ⟨e.cli.toNat, by omega⟩
      have hc4' : c < 4 := by omega
      rcases Int.lt_trichotomy e.seq (m.tb.at e.cli).seq with hq | hq | hq
      · rw [applyP_old hb hk hq]
        refine ⟨base _ _ hs ht, rfl, rfl, h2, fun c _ => .inl rfl, fun _ d hd => .inl ⟨by rw [← hd]; exact hq, rfl, rfl, rfl⟩⟩
      · rw [applyP_same hb hk hq]
        refine ⟨base _ _ hs ht, rfl, rfl, h2, fun c _ => .inl rfl, fun _ d hd => .inr (.inl ⟨by rw [← hd]; exact hq, rfl, rfl, by rw [← hd]⟩)⟩
      · rw [applyP_fresh hb hk hq]
        have hnew : oddR ⟨e.seq, (doP m.st e.op).2⟩ = false := by
          unfold oddR
          simp only
          rw [if_neg (by omega), doP_bad_no hs, decide_eq_false (by omega), decide_eq_false (by unfold big40; omega)]
          rfl
        refine ⟨base _ _ (doP_may e.op hs) ?_, rfl, rfl, h2, ?_, ?_⟩
        · rw [mayT_at]
          intro d hd
          rw [hc, tb_at_put m.tb c d _ hc4' hd]
          split
          · exact hnew
          · exact mayT_at.1 ht d hd
        · intro d hd
          simp only
          rw [hc, tb_at_put m.tb c d _ hc4' hd]
          by_cases hdc : d = c
          · subst hdc
            rw [if_pos rfl]
            right
            rw [hc] at hq
            exact hq
          · rw [if_neg hdc]
            exact .inl rfl
        · intro _ d hd
          have : d = c := by omega
          subst this
          right; right
          rw [hc] at hq
          refine ⟨hq, ?_⟩
          simp only
          rw [hc, tb_at_put m.tb d d _ hc4' hc4', if_pos rfl]

/-- What a run comes to. -/
theorem run_spec : ∀ {l : List En} {m out : Im} {told : List Rp}, runP m l = some (out, told) → mayI m = true →
    mayI out = true ∧ out.idx = m.idx + l.length ∧ told.length = l.length ∧ (∀ e ∈ l, mayE e = true) ∧ ∀ c : Nat, c < 4 → out.tb.at c = m.tb.at c ∨ (m.tb.at c).seq < (out.tb.at c).seq
  | [], m, out, told, h, hm => by
    simp only [runP] at h
    injection h with h
    injection h with h1 h2
    subst h1 h2
    exact ⟨hm, by simp, rfl, by simp, fun c _ => .inl rfl⟩
  | e :: l, m, out, told, h, hm => by
    simp only [runP] at h
    split at h
    · rename_i he
      have hst := step_ok he
      split at h
      · cases h
      · rename_i m' t hr
        injection h with h
        injection h with h1 h2
        subst h1 h2
        obtain ⟨a1, a2, a3, a4, a5⟩ := run_spec hr hst.may
        refine ⟨a1, ?_, by simp [a3], ?_, ?_⟩
        · rw [a2, hst.idx, List.length_cons]
          omega
        · intro x hx
          rcases List.mem_cons.1 hx with rfl | hx
          · exact hst.ent
          · exact a4 x hx
        · intro c hc
          rcases a5 c hc with b | b <;> rcases hst.rows c hc with d | d
          · exact .inl (b.trans d)
          · exact .inr (by rw [b]; exact d)
          · exact .inr (by rw [← d]; exact b)
          · exact .inr (by omega)
    · cases h

/-- The request that came at a place: its client's row is not behind it; where it is its own, it tells what was told. -/
theorem run_once : ∀ {l : List En} {m out : Im} {told : List Rp} {k : Nat} {e : En} {c : Nat}, runP m l = some (out, told) → mayI m = true → l[k]? = some e → e.kind ≠ 1 → e.cli = c → c < 4 →
    e.seq ≤ (out.tb.at c).seq ∧ (e.seq = (out.tb.at c).seq → told[k]? = some (out.tb.at c).rep)
  | [], m, out, told, k, e, c, h, hm, hk, _, _, _ => by simp at hk
  | x :: l, m, out, told, k, e, c, h, hm, hk, hkd, hc, hc4 => by
    simp only [runP] at h
    split at h
    · rename_i he
      have hst := step_ok he
      split at h
      · cases h
      · rename_i m' t hr
        injection h with h
        injection h with h1 h2
        subst h1 h2
        obtain ⟨_, _, _, _, hrows⟩ := run_spec hr hst.may
        cases k with
        | succ k =>
          simp only [List.getElem?_cons_succ] at hk ⊢
          exact run_once hr hst.may hk hkd hc hc4
        | zero =>
          simp at hk
          subst hk
          simp only [List.getElem?_cons_zero]
          have hr1 := hrows c hc4
          rcases hst.mine hkd c hc with ⟨h1, h2, _, _⟩ | ⟨h1, h2, _, h4⟩ | ⟨h1, h2⟩
          · rw [h2] at hr1
            rcases hr1 with hr1 | hr1
            · rw [hr1]; exact ⟨by omega, fun e1 => by omega⟩
            · exact ⟨by omega, fun e1 => by omega⟩
          · rw [h2] at hr1
            rcases hr1 with hr1 | hr1
            · rw [hr1]
              exact ⟨by omega, fun _ => by rw [h4]⟩
            · exact ⟨by omega, fun e1 => by omega⟩
          · rcases hr1 with hr1 | hr1
            · rw [hr1, h2]
              exact ⟨Int.le_refl _, fun _ => rfl⟩
            · rw [h2] at hr1
              simp only at hr1
              exact ⟨by omega, fun e1 => by omega⟩
    · cases h
/-- It comes again. -/
theorem again_same {out : Im} {e : En} {c : Nat} (hm : mayI out = true) (he : mayE e = true) (hi : out.idx < 1099511627776) (hk : e.kind ≠ 1) (hc : e.cli = c) (hs : e.seq ≤ (out.tb.at c).seq) :
    applyP out (out.idx + 1) e = (⟨out.idx + 1, out.st, out.tb⟩, if e.seq = (out.tb.at c).seq then (out.tb.at c).rep else ⟨220, false, ⟨#[]⟩⟩, 0) := by
  have hb : badAp out (out.idx + 1) e = false := by
    unfold badAp
    rw [hm, he]
    have : ¬ out.idx = 1099511627776 := by omega
    simp [this]
  by_cases h : e.seq = (out.tb.at c).seq
  · rw [applyP_same hb hk (by rw [hc]; exact h), if_pos h, hc]
  · rw [applyP_old hb hk (by rw [hc]; omega), if_neg h]

/-- Cut anywhere. -/
theorem run_app : ∀ (l : List En) (m : Im) (l2 : List En), runP m (l ++ l2) = match runP m l with | none => none | some (m1, t1) => match runP m1 l2 with | none => none | some (m2, t2) => some (m2, t1 ++ t2)
  | [], m, l2 => by
    simp only [List.nil_append, runP]
    cases runP m l2 with
    | none => rfl
    | some r => rfl
  | e :: l, m, l2 => by
    simp only [List.cons_append, runP]
    split
    · rw [run_app l _ l2]
      cases runP (applyP m (m.idx + 1) e).1 l with
      | none => rfl
      | some r =>
        obtain ⟨m1, t1⟩ := r
        simp only
        cases runP m1 l2 with
        | none => rfl
        | some r2 => rfl
    · rfl
end Go.Proofs.Ytmnjmjbmnhppfaa

namespace Go.Proofs.Ytmnjmjbmnhppfaa
open Go.RowKit
variable {P : Program}

/-- What an aggregate's load at an operand reads, cell by cell. -/
def LdCs (P : Program) (a : Act) (w : World) (ty : TypeId) (x : Operand) (v : Array Value) : Prop :=
  ∃ (b off n : Nat), (∀ w, (isAgg ty).run P w = .ok true w) ∧ (∀ w, (sizeOf ty).run P w = .ok n w) ∧ a.eval x = .pointer (some ⟨b, off, none⟩) ∧ v.size = n ∧ ∀ j u, v[j]? = some u → w.cell? ⟨b, off + j, none⟩ = some u
theorem run_loadVar_cs (w : World) (b off n : Nat) (ty : TypeId) (v : Array Value) (ha : (isAgg ty).run P w = .ok true w) (hs : (sizeOf ty).run P w = .ok n w) (hn : v.size = n) (hc : ∀ j u, v[j]? = some u → w.cell? ⟨b, off + j, none⟩ = some u) :
    (loadVar ty ⟨b, off, none⟩).run P w = .ok (.agg v) w := by
  have hl := run_loadCells_list (P := P) (w := w) ⟨b, off, none⟩ v.toList (fun j u hu => by
    rw [addr_add]
    exact hc j u (by rw [← Array.getElem?_toList]; exact hu))
  rw [Array.length_toList, hn] at hl
  simp only [Array.toArray_toList] at hl
  simp only [loadVar, Sem.run_bind, ha, hs, hl, Result.andThen_ok, if_true, Sem.run_pure]
theorem exec_ldC {a : Act} {w : World} {dst : Option Tmp} {ty' : TypeId} {pos : String} {af : Array Edge} {gd : Option (Nat × Bool)} (ty : TypeId) (x : Operand) {v : Array Value} (hl : LdCs P a w ty x v) : (execOp a.eval (Oper.mk dst (.load ty x) ty' pos af gd)).run P w = .ok (.value (.agg v)) w := by
  obtain ⟨b, off, n, ha, hs, hx, hn, hc⟩ := hl
  unfold execOp
  simp only [hx, Instr.loadAt, Instr.sureAddr, Sem.run_bind, Sem.run_pure, Result.andThen_ok, run_loadVar_cs w b off n ty v (ha w) (hs w) hn hc]
theorem wpList_ldC {ops : Array Oper} {rest : List Oper} {a : Act} {w : World} {Q : Exit → Act → World → Prop} {dst : Option Tmp} {ty' : TypeId} {pos : String} {af : Array Edge} {gd : Option (Nat × Bool)} (ty : TypeId) (x : Operand)
    (hl : Region.wanted (Oper.mk dst (.load ty x) ty' pos af gd) (yielded ops a.tmps) = true ∧ ∃ v, LdCs P a w ty x v ∧ wpList P ops Q rest (a.put dst (.agg v)) w) : wpList P ops Q (Oper.mk dst (.load ty x) ty' pos af gd :: rest) a w := by
  obtain ⟨hw, v, h1, h2⟩ := hl
  refine BigFrame.wpList_want hw fun K hK => ?_
  unfold Oper.wp
  rw [exec_ldC ty x h1]
  exact hK _ _ h2
end Go.Proofs.Ytmnjmjbmnhppfaa

namespace Go.Proofs.Ytmnjmjbmnhppfaa
open Go.RowKit

def enC (e : En) : List Value := (enA e).toList
theorem enC_len (e : En) : (enC e).length = 7 := rfl
def ens (l : List En) : List Value := l.flatMap enC
def rplC (r : Rp) : List Value := (rpA r).toList
theorem rplC_len (r : Rp) : (rplC r).length = 3 := rfl
def rps (l : List Rp) : List Value := l.flatMap rplC
theorem elReply : ElemT Try.prog 90 43 3 32 := ElemT.of (.agg #[.int .i64 0, .bool false, .string ⟨#[]⟩]) Try.underlying90 (by kernel_rfl) rfl (by decide)
/-- A row of replies of one's own, behind a store into another block of replies that is beyond it. -/
theorem owns_rp {w w' : World} {base n size g : Nat} {e : TypeId} {v : Value} {xs : List Value} (h : w.ownsRow base e size v n xs) (hg : w.grownBy w' (some g)) (hne : v.ownBlock ≠ some g) : w'.ownsRow base e size v n xs := by
  obtain ⟨hl, h | ⟨k, cap, cur, hv, hk, hc, r⟩⟩ := h
  · exact ⟨hl, .inl h⟩
  · exact ⟨hl, .inr ⟨k, cap, cur, hv, hk, tr_st hg hc (fun e => hne (by rw [hv, e]; rfl)), r⟩⟩
theorem owns_gbt {w w' : World} {b1 b2 n1 n2 s1 s2 : Nat} {e1 e2 : TypeId} {v1 v2 : Value} {x1 x2 : List Value} (h1 : w.ownsRow b1 e1 s1 v1 n1 x1) (h2 : w.ownsRow b2 e2 s2 v2 n2 x2) (hg : w.grownBy w' v2.ownBlock) (hne : e2 ≠ e1) : w'.ownsRow b1 e1 s1 v1 n1 x1 := by
  obtain ⟨hl, h | ⟨k, cap, cur, hv, hk, hc, r⟩⟩ := h1
  · exact ⟨hl, .inl h⟩
  · exact ⟨hl, .inr ⟨k, cap, cur, hv, hk, tr_gb hg hc (own_ne h2 hc hne), r⟩⟩
theorem results_c1t2 {P : Program} {fn : Func} {p t q q2 : Nat} {tmps : Array Value} {w : World} {A : Addr} {v : Value} (hf : fn.results = #[.cell p t, .tmp q, .tmp q2]) (hp : tmps.getD p undef = .pointer (some A)) (hl : (loadVar t A).run P w = .ok v w) : (results fn tmps).run P w = .ok (.tuple #[v, tmps.getD q undef, tmps.getD q2 undef]) w := by
  have hp' : tmps[p]?.getD undef = .pointer (some A) := by simpa using hp
  simp [results, hf, hp', asAddr, hl]
def pre (tk : List Rp) : Option (Im × List Rp) → Option (Im × List Rp)
  | none => none
  | some (o, t) => some (o, tk ++ t)
theorem pre_ok {mk : Im} {e : En} {l : List En} {tk : List Rp} (h : (applyP mk (mk.idx + 1) e).2.2 = 0) : pre tk (runP mk (e :: l)) = pre (tk ++ [(applyP mk (mk.idx + 1) e).2.1]) (runP (applyP mk (mk.idx + 1) e).1 l) := by
  simp only [runP]
  rw [if_pos h]
  cases runP (applyP mk (mk.idx + 1) e).1 l with
  | none => rfl
  | some r => obtain ⟨o, t⟩ := r; simp [pre]
theorem pre_no {mk : Im} {e : En} {l : List En} {tk : List Rp} (h : (applyP mk (mk.idx + 1) e).2.2 ≠ 0) : pre tk (runP mk (e :: l)) = none := by
  simp only [runP]
  rw [if_neg h]
  rfl

/-- A state that does not lie in the two boxes that run stores into: it is the one that came in, or one's own. -/
def OffB (N : Nat) (a0 : Option Addr) (l0 : List Pr) (a : Option Addr) (l : List Pr) : Prop := l = [] ∨ ∃ b off, a = some ⟨b, off, none⟩ ∧ ((a0 = a ∧ l = l0 ∧ b < N) ∨ N + 2 ≤ b)
def RunO (N : Nat) (a0 : Option Addr) (l0 : List Pr) (o : Option (Im × List Rp)) (e : Ending) (w' : World) : Prop :=
  match o with
  | none => e = .returned (.tuple #[.agg (imA 0 (.slice none 0 0) zeroT), .slice none 0 0, .bool false])
  | some (out, told) => ∃ a' cap' ta tcap, e = .returned (.tuple #[.agg (imA out.idx (.slice a' out.st.length cap') out.tb), .slice ta told.length tcap, .bool true]) ∧ SlP w' a' cap' out.st ∧ OffB N a0 l0 a' out.st ∧ w'.ownsRow (N + 2) 43 3 (.slice ta told.length tcap) told.length (rps told)
def RunRes (N : Nat) (a0 : Option Addr) (m : Im) (L : List En) (e : Ending) (w' : World) : Prop := RunO N a0 m.st (runP m L) e w'

theorem apply_o (m : Im) (a : Option Addr) (cap : Nat) (index : Int) (e : En) (o1 : Im) (o2 : Rp) (o3 : Int) (ho : applyP m index e = (o1, o2, o3)) (w : World) (hs : SlP w a cap m.st) (hl : m.st.length ≤ 1000) :
    Calls Try.prog 48 #[.agg (imA m.idx (.slice a m.st.length cap) m.tb), .int .i64 index, .agg (enA e)] w fun en w' => (∃ a' c', en = .returned (.tuple #[.agg (imA o1.idx (.slice a' o1.st.length c') o1.tb), .agg (rpA o2), .int .i64 o3]) ∧ w'.ownsRow w.heap.size 74 2 (.slice a' o1.st.length c') o1.st.length (prs o1.st)) ∧ Below w.heap.size w w' := by
  refine (apply_any m a cap index e w hs hl).mono ?_
  intro en w' h
  rw [ho] at h
  exact h
theorem rpA_lt3 (r : Rp) : 0 + 3 ≤ (rpA r).size ∧ (rpA r).extract 0 (0 + 3) = #[.int .i64 r.err, .bool r.found, .string r.val] := arr_all rfl
theorem drop_at {α : Type} {l : List α} {k : Nat} (h : k < l.length) : ∃ e, l[k]? = some e ∧ l.drop k = e :: l.drop (k + 1) := ⟨l[k], List.getElem?_eq_getElem h, List.drop_eq_getElem_cons h⟩
theorem may_st {m : Im} (h : mayI m = true) : m.st.length ≤ 8 := (may_spec (mayI_parts h).2.2.1).1
theorem may_ix {m : Im} (h : mayI m = true) : 0 ≤ m.idx ∧ m.idx ≤ 1099511627776 := ⟨(mayI_parts h).1, (mayI_parts h).2.1⟩
theorem rps_snoc (l : List Rp) (r : Rp) : rps (l ++ [r]) = rps l ++ rplC r := by simp [rps]
theorem rplC_one (r : Rp) : ∀ u ∈ rplC r, u.oneCell' = true := rpA_one r
theorem pre_some {tk : List Rp} {r o : Option (Im × List Rp)} (h : pre tk r = o) {x : Im × List Rp} (hx : r = some x) : o = some (x.1, tk ++ x.2) := by subst hx; exact h.symm
theorem prs_nil {l : List Pr} (h : prs l = []) : l = [] := by
  cases l with
  | nil => rfl
  | cons p l => have := congrArg List.length h; rw [prs_len] at this; simp at this
theorem OffB.of {w : World} {a : Option Addr} {c : Nat} {l : List Pr} (h : SlP w a c l) : OffB w.heap.size a l a l := by
  by_cases hl : l = []
  · exact .inl hl
  · have hp : 0 < (prs l).length := by
      rw [prs_len]
      have := List.length_pos_iff.2 hl
      omega
    obtain ⟨b, off, ha, hc⟩ := h.row.at hp
    obtain ⟨u, hu⟩ : ∃ u, (prs l)[0]? = some u := ⟨_, List.getElem?_eq_getElem hp⟩
    exact .inr ⟨b, off, ha, .inl ⟨rfl, rfl, World.block_lt_of_cell? _ _ (hc 0 u hu)⟩⟩
theorem OffB.own {w : World} {base N c n : Nat} {e : TypeId} {a : Option Addr} {l : List Pr} (h : w.ownsRow base e 2 (.slice a n c) n (prs l)) (hb : N + 2 ≤ base) (a0 : Option Addr) (l0 : List Pr) : OffB N a0 l0 a l := by
  rcases Row.of_owns h with ⟨b, cap, hv, hr, _⟩
  by_cases hl : l = []
  · exact .inl hl
  · obtain ⟨hln, ⟨hv, h0⟩ | ⟨g, cap', cur, hv, hg, _⟩⟩ := h
    · exact .inl (prs_nil (List.eq_nil_of_length_eq_zero (by rw [h0] at hln; simpa using hln)))
    · injection hv with e1 _ _
      exact .inr ⟨g, 0, e1, .inr (by omega)⟩
theorem SlP.st {w w' : World} {a a0 : Option Addr} {c N g : Nat} {l l0 : List Pr} (h : SlP w a c l) (ho : OffB N a0 l0 a l) (hg : w.grownBy w' (some g)) (h1 : N ≤ g) (h2 : g < N + 2) : SlP w' a c l := by
  refine ⟨?_, h.le, h.max, h.nil⟩
  rcases ho with rfl | ⟨b, off, ha, hb⟩
  · exact .inl rfl
  · rcases h.row with h0 | ⟨b', off', ha', hc⟩
    · exact .inl h0
    · rw [ha] at ha'
      injection ha' with ha'
      injection ha' with e1 e2
      subst e1 e2
      exact .inr ⟨b, off, ha, fun i u hu => hg.cell (hc i u hu) (fun e => by injection e with e; simp only at e; omega)⟩
theorem SlR.of {w w' : World} {base c n g : Nat} {e T : TypeId} {a : Option Addr} {xs : List Value} {cs : Array Value} (h : w.ownsRow base e 3 (.slice a n c) n xs) (hg : w.grownBy w' (some g)) (hc : w.heap[g]? = some (.cells cs T (0, 0))) (hne : e ≠ T) : Row w' a xs := by
  obtain ⟨a', c', hv, hr, _⟩ := Row.of_owns (owns_ne h hg hc hne)
  injection hv with e1 _ _
  subst e1
  exact hr

set_option maxRecDepth 100000 in
set_option maxHeartbeats 16000000 in
theorem run_any (m : Im) (a : Option Addr) (cap : Nat) (L : List En) (la : Option Addr) (lc : Nat) (w : World) (hs : SlP w a cap m.st) (hm : mayI m = true) (hr : Row w la (ens L)) (hL : L.length ≤ 1000) :
    Calls Try.prog 53 #[.agg (imA m.idx (.slice a m.st.length cap) m.tb), .slice la L.length lc] w fun e w' => RunRes w.heap.size a m L e w' ∧ Below w.heap.size w w' := by
  obtain ⟨N, hN⟩ : ∃ N, w.heap.size = N := ⟨_, rfl⟩
  have hb0 : Below w.heap.size w ((w.alloc (Obj.cells (imA m.idx (.slice a m.st.length cap) m.tb) 49)).alloc (Obj.cells (imA 0 (.slice none 0 0) zeroT) 49)) := ((Below.refl _ _).alloc (Nat.le_refl _) _).alloc (by simp) _
  have B2 := tr_al (Obj.cells (imA 0 (.slice none 0 0) zeroT) 49) (heap_alloc_new w (Obj.cells (imA m.idx (.slice a m.st.length cap) m.tb) 49))
  have B4 := heap_alloc2_new w (Obj.cells (imA m.idx (.slice a m.st.length cap) m.tb) 49) (Obj.cells (imA 0 (.slice none 0 0) zeroT) 49)
  have hs0 := hs.below hb0
  have hof0 : OffB N a m.st a m.st := by rw [← hN]; exact OffB.of hs
  have HB : Hid (∀ w', Below N w w' → Row w' la (ens L)) := Lib.hid (fun w' h => hr.below0 (by rw [hN]; exact h))
  have hsz0 : ((w.alloc (Obj.cells (imA m.idx (.slice a m.st.length cap) m.tb) 49)).alloc (Obj.cells (imA 0 (.slice none 0 0) zeroT) 49)).heap.size = w.heap.size + 2 := by simp
  have HM := Lib.hid hm
  clear hm hr hs
  unfold RunRes
  rw [hN]
  go_enter Try.func53, Try.ntmps53
  refine wp_seq_k (fun K hK => ?_)
  have HK := Lib.hid hK
  clear hK
  go_wp2
  refine HK.out _ _ ?_
  clear HK
  change Code.wp _ _ _ _ ((w.alloc (Obj.cells (imA m.idx (.slice a m.st.length cap) m.tb) 49)).alloc (Obj.cells (imA 0 (.slice none 0 0) zeroT) 49))
  generalize (w.alloc (Obj.cells (imA m.idx (.slice a m.st.length cap) m.tb) 49)).alloc (Obj.cells (imA 0 (.slice none 0 0) zeroT) 49) = w0 at *
  simp only [hN] at *
  have HSZ := Lib.hid hsz0
  clear hsz0 hN
  have hz0 : N + 2 ≤ w0.heap.size := by have := HSZ.out; omega
  clear HSZ
  obtain ⟨o, ho⟩ : ∃ o, runP m L = o := ⟨_, rfl⟩
  have HPR0 : Hid (pre [] (runP m L) = o) := Lib.hid (by rw [ho]; cases o with | none => rfl | some x => obtain ⟨x, y⟩ := x; rfl)
  have HO := Lib.hid ho
  rw [ho]
  clear ho
  refine wp_seq_k (fun K hK => ?_)
  have HK := Lib.hid hK
  clear hK
  go_wp2
  refine HK.out _ _ ?_
  clear HK
  go_wp2_with fail
  go_loopw [8, 7] (fun i v wr => ∃ (k : Nat) (mk : Im) (ak : Option Addr) (ck : Nat) (tk : List Rp), k ≤ L.length ∧ tk.length = k ∧ i = .int .i64 (k : Nat) ∧ Hid (mayI mk = true) ∧ Hid (pre tk (runP mk (L.drop k)) = o) ∧ SlP wr ak ck mk.st ∧ OffB N a m.st ak mk.st ∧ wr.heap[N]? = some (.cells (imA mk.idx (.slice ak mk.st.length ck) mk.tb) 49 (0, 0)) ∧ wr.heap[N + 1]? = some (.cells (imA 0 (.slice none 0 0) zeroT) 49 (0, 0)) ∧ wr.ownsRow (N + 2) 43 3 v tk.length (rps tk) ∧ Below N w wr) (fun i _ _ => L.length - (intOf i).toNat)
  case atStart => exact ⟨0, m, a, cap, [], by omega, rfl, rfl, HM, HPR0, hs0, hof0, B2, B4, (show w0.ownsRow (N + 2) 43 3 (.slice none 0 0) 0 [] from World.ownsRow_nil _ _ _ _), hb0⟩
  case round =>
    obtain ⟨k, mk, ak, ck, tk, hk, htk, rfl, hmk, hpr, hsk, hof, C2, C4, hto, hbr⟩ := hrel
    have hzr : N + 2 ≤ wr.heap.size := by have := lt_blk C4; omega
    have HTK := Lib.hid htk
    clear htk
    by_cases hlt : k < L.length
    case neg =>
      have ho : o = some (mk, tk) := by
        have h := hpr.out
        rw [List.drop_of_length_le (by omega)] at h
        simp only [runP, pre, List.append_nil] at h
        exact h.symm
      obtain ⟨ta, tc, rfl, htr, _⟩ := Row.of_owns hto
      have HOO := Lib.hid ho
      clear ho
      go_wp2_with (first
        | ((with_reducible refine wpList_ldB 49 _ ?_); refine ⟨rfl, _, ⟨_, _, _, _, _, Try.isAgg49, Try.sizeOf49, rfl, ‹_›, imA_all _ _ _⟩, ?_⟩)
        | ((first | (with_reducible refine wpList_stB 49 _ _ ?_) | (with_reducible refine wp_stB 49 _ _ ?_)); refine ⟨_, _, _, ⟨_, _, _, Try.sizeOf49, rfl, ‹_›, imA_over _ _ _ _ _ 0 (.slice none 0 0) zeroT⟩, ?_⟩; intro wz D4 gz))
      refine bodyPost_ret (results_c1t2 rfl rfl (run_loadVar_all Try.isAgg49 Try.sizeOf49 D4 rfl)) rfl ?_
      refine ⟨?_, bl_st hbr gz (by omega) (by omega)⟩
      rw [HOO.out]
      exact ⟨ak, ck, ta, tc, rfl, hsk.st hof gz (by omega) (by omega), hof, owns_ne hto gz C4 (by decide)⟩
    case pos =>
      obtain ⟨e, he, hdr⟩ := drop_at hlt
      have HDR := Lib.hid hdr
      clear hdr
      obtain ⟨le, lo, rfl, hlb, hl0, hcs⟩ := (HB.out _ hbr).flat0 enC_len (by decide) he
      obtain ⟨⟨o1, o2, o3⟩, hap⟩ : ∃ o, applyP mk (mk.idx + 1) e = o := ⟨_, rfl⟩
      have HAP := Lib.hid hap
      have hml := may_st hmk.out
      obtain ⟨hi0, hi1⟩ := may_ix hmk.out
      clear hap
      go_wp2_with fail
      go_cut [9, 10, 11] from 18 to 30 (fun v9 v10 v11 wx => ∃ p q a2 c2, v9 = .pointer (some ⟨p, 0, none⟩) ∧ v10 = .pointer (some ⟨q, 0, none⟩) ∧ v11 = .int .i64 o3 ∧ wx.heap[p]? = some (.cells (imA o1.idx (.slice a2 o1.st.length c2) o1.tb) 49 (0, 0)) ∧ wx.heap[q]? = some (.cells (rpA o2) 43 (0, 0)) ∧ wx.ownsRow wr.heap.size 74 2 (.slice a2 o1.st.length c2) o1.st.length (prs o1.st) ∧ wr.heap.size ≤ p ∧ wr.heap.size ≤ q ∧ Below wr.heap.size wr wx)
      case first =>
        obtain ⟨B, hB⟩ : ∃ B, wr.heap.size = B := ⟨_, rfl⟩
        have HB1 : ∀ w', Below B wr w' → w'.heap[N]? = some (.cells (imA mk.idx (.slice ak mk.st.length ck) mk.tb) 49 (0, 0)) := fun w' h => tr_bl (by rw [hB]; exact h) C2
        have HB2 : ∀ w', Below B wr w' → SlP w' ak ck mk.st := fun w' h => hsk.below (by rw [hB]; exact h)
        have HB3 : ∀ w', Below B wr w' → ∀ j u, (enC e)[j]? = some u → w'.cell? ⟨le, lo + k * 7 + j, none⟩ = some u := fun w' h j u hu => (h.cell (by rw [← hB]; exact hlb)).trans (hcs j u hu)
        have hb := (Below.refl wr.heap.size wr).drew
        have hz : wr.heap.size ≤ wr.drew.heap.size := Nat.le_refl _
        rw [hB] at hb hz
        have HBB := Lib.hid hB
        clear hB C2 C4 hsk hcs hl0 hto hbr hpr hmk hof
        refine wp_region_held_drew (S := fun w' => Below B wr w') (by kernel_rfl) hb (fun hS0 => ?_)
        generalize wr.drew = x0 at *
        refine wpAnyH_take (i := 0) (oi := ⟨_, _, _, _, _, _⟩) (v := .agg (imA mk.idx (.slice ak mk.st.length ck) mk.tb)) rfl (by kernel_rfl) (by kernel_rfl) (by kernel_rfl) (fun _ _ _ h => h) (Or.inl ⟨by rfl, fun wS hSw => ?_⟩) (by assumption) ?_
        · exact exec_ldB 49 _ ⟨_, _, _, _, _, Try.isAgg49, Try.sizeOf49, rfl, HB1 _ hSw, imA_all _ _ _⟩
        (try simp only [Act.put])
        (try simp only [List.setIfInBounds_toArray])
        (try simp only [List.set_cons_succ])
        (try simp only [List.set_cons_zero])
        refine wpAnyH_take (i := 1) (oi := ⟨_, _, _, _, _, _⟩) (v := ?_) rfl (by kernel_rfl) (by kernel_rfl) (by kernel_rfl) (fun _ _ _ h => h) (Or.inl ⟨by rfl, ?_⟩) (by assumption) ?_
        rotate_left
        · intro wS hSw
          go_simp; (try with_reducible rfl)
        (try simp only [Act.put])
        (try simp only [List.setIfInBounds_toArray])
        (try simp only [List.set_cons_succ])
        (try simp only [List.set_cons_zero])
        refine wpAnyH_take (i := 2) (oi := ⟨_, _, _, _, _, _⟩) (v := ?_) rfl (by kernel_rfl) (by kernel_rfl) (by kernel_rfl) (fun _ _ _ h => h) (Or.inl ⟨by rfl, ?_⟩) (by assumption) ?_
        rotate_left
        · intro wS hSw
          have c := imA_c0 (HB1 _ hSw); go_simp; (try with_reducible rfl)
        (try simp only [Act.put])
        (try simp only [List.setIfInBounds_toArray])
        (try simp only [List.set_cons_succ])
        (try simp only [List.set_cons_zero])
        refine wpAnyH_take (i := 3) (oi := ⟨_, _, _, _, _, _⟩) (v := .int .i64 (mk.idx + 1)) rfl (by kernel_rfl) (by kernel_rfl) (by kernel_rfl) (fun _ _ _ h => h) (Or.inl ⟨by rfl, fun wS hSw => ?_⟩) (by assumption) ?_
        · have e3 := IntWalk.i64_in (mk.idx + 1) (by omega); go_simp; (first | done | rw [e3] | simp only [e3])
        (try simp only [Act.put])
        (try simp only [List.setIfInBounds_toArray])
        (try simp only [List.set_cons_succ])
        (try simp only [List.set_cons_zero])
        refine wpAnyH_take (i := 4) (oi := ⟨_, _, _, _, _, _⟩) (v := ?_) rfl (by kernel_rfl) (by kernel_rfl) (by kernel_rfl) (fun _ _ _ h => h) (Or.inl ⟨by rfl, ?_⟩) (by assumption) ?_
        rotate_left
        · intro wS hSw
          go_simp; (try with_reducible rfl)
        (try simp only [Act.put])
        (try simp only [List.setIfInBounds_toArray])
        (try simp only [List.set_cons_succ])
        (try simp only [List.set_cons_zero])
        refine wpAnyH_take (i := 5) (oi := ⟨_, _, _, _, _, _⟩) (v := ?_) rfl (by kernel_rfl) (by kernel_rfl) (by kernel_rfl) (fun _ _ _ h => h) (Or.inl ⟨by rfl, ?_⟩) (by assumption) ?_
        rotate_left
        · intro wS hSw
          go_simp; (try with_reducible rfl)
        (try simp only [Act.put])
        (try simp only [List.setIfInBounds_toArray])
        (try simp only [List.set_cons_succ])
        (try simp only [List.set_cons_zero])
        refine wpAnyH_take (i := 6) (oi := ⟨_, _, _, _, _, _⟩) (v := ?_) rfl (by kernel_rfl) (by kernel_rfl) (by kernel_rfl) (fun _ _ _ h => h) (Or.inl ⟨by rfl, ?_⟩) (by assumption) ?_
        rotate_left
        · intro wS hSw
          go_simp; (try with_reducible rfl)
        (try simp only [Act.put])
        (try simp only [List.setIfInBounds_toArray])
        (try simp only [List.set_cons_succ])
        (try simp only [List.set_cons_zero])
        refine wpAnyH_take (i := 7) (oi := ⟨_, _, _, _, _, _⟩) (v := .agg (enA e)) rfl (by kernel_rfl) (by kernel_rfl) (by kernel_rfl) (fun _ _ _ h => h) (Or.inl ⟨by rfl, fun wS hSw => ?_⟩) (by assumption) ?_
        · exact exec_ldC 80 _ ⟨_, _, _, Try.isAgg80, Try.sizeOf80, rfl, rfl, fun j u hu => HB3 _ hSw j u (by rw [enC, Array.getElem?_toList]; exact hu)⟩
        (try simp only [Act.put])
        (try simp only [List.setIfInBounds_toArray])
        (try simp only [List.set_cons_succ])
        (try simp only [List.set_cons_zero])
        refine wpAnyH_ready (rs := [8, 13, 14]) (by kernel_rfl) (by simp) ?_
        refine AllReadyH.cons (o := ⟨_, _, _, _, _, _⟩) rfl (fun K' hK' => ?_) (AllReadyH.cons (o := ⟨_, _, _, _, _, _⟩) rfl (fun K' hK' => ?_) (AllReadyH.cons (o := ⟨_, _, _, _, _, _⟩) rfl (fun K' hK' => ?_) (AllReadyH.nil)))
        · refine (if_pos (by rfl)).mpr ?_
          go_simp
          refine (apply_o mk ak ck (mk.idx + 1) e o1 o2 o3 HAP.out _ (HB2 _ hb) (by omega)).mono ?_
          rintro en x1 ⟨⟨a2, c2, rfl, ho⟩, hbk⟩
          have ho := owns_mono ho hz
          have hb := hb.trans (hbk.mono hz)
          have hz := Nat.le_trans hz hbk.size
          clear hbk
          refine hK'.out _ _ hb (fun _ => ?_)
          refine wpAnyH_take (i := 9) (oi := ⟨_, _, _, _, _, _⟩) (v := ?_) rfl (by kernel_rfl) (by kernel_rfl) (by kernel_rfl) (fun _ _ _ h => h) (Or.inl ⟨by rfl, ?_⟩) (by assumption) ?_
          rotate_left
          · intro wS hSw
            go_simp; (try with_reducible rfl)
          (try simp only [Act.put])
          (try simp only [List.setIfInBounds_toArray])
          (try simp only [List.set_cons_succ])
          (try simp only [List.set_cons_zero])
          refine wpAnyH_take (i := 10) (oi := ⟨_, _, _, _, _, _⟩) (v := ?_) rfl (by kernel_rfl) (by kernel_rfl) (by kernel_rfl) (fun _ _ _ h => h) (Or.inl ⟨by rfl, ?_⟩) (by assumption) ?_
          rotate_left
          · intro wS hSw
            go_simp; (try with_reducible rfl)
          (try simp only [Act.put])
          (try simp only [List.setIfInBounds_toArray])
          (try simp only [List.set_cons_succ])
          (try simp only [List.set_cons_zero])
          refine wpAnyH_take (i := 11) (oi := ⟨_, _, _, _, _, _⟩) (v := ?_) rfl (by kernel_rfl) (by kernel_rfl) (by kernel_rfl) (fun _ _ _ h => h) (Or.inl ⟨by rfl, ?_⟩) (by assumption) ?_
          rotate_left
          · intro wS hSw
            go_simp; (try with_reducible rfl)
          (try simp only [Act.put])
          (try simp only [List.setIfInBounds_toArray])
          (try simp only [List.set_cons_succ])
          (try simp only [List.set_cons_zero])
          refine wpAnyH_take (i := 12) (oi := ⟨_, _, _, _, _, _⟩) (v := ?_) rfl (by kernel_rfl) (by kernel_rfl) (by kernel_rfl) (fun _ _ _ h => h) (Or.inl ⟨by rfl, ?_⟩) (by assumption) ?_
          rotate_left
          · intro wS hSw
            go_simp; (try with_reducible rfl)
          (try simp only [Act.put])
          (try simp only [List.setIfInBounds_toArray])
          (try simp only [List.set_cons_succ])
          (try simp only [List.set_cons_zero])
          refine wpAnyH_ready (rs := [13, 14]) (by kernel_rfl) (by simp) ?_
          refine AllReadyH.cons (o := ⟨_, _, _, _, _, _⟩) rfl (fun K' hK' => ?_) (AllReadyH.cons (o := ⟨_, _, _, _, _, _⟩) rfl (fun K' hK' => ?_) (AllReadyH.nil))
          · refine (if_pos (by rfl)).mpr ?_
            go_simp
            change K' _ (World.alloc _ (Obj.cells (imA 0 (.slice none 0 0) zeroT) 49))
            have D := heap_alloc_new x1 (Obj.cells (imA 0 (.slice none 0 0) zeroT) 49)
            have ho := owns_bl ho (blw _ (Obj.cells (imA 0 (.slice none 0 0) zeroT) 49))
            have hb := hb.trans ((blw _ (Obj.cells (imA 0 (.slice none 0 0) zeroT) 49)).mono hz)
            have hp : B ≤ x1.heap.size := hz
            have hz := Nat.le_trans hz (blw x1 (Obj.cells (imA 0 (.slice none 0 0) zeroT) 49)).size
            refine hK'.out _ _ hb (fun _ => ?_)
            generalize x1.alloc (Obj.cells (imA 0 (.slice none 0 0) zeroT) 49) = x2 at *
            obtain ⟨p, hpn⟩ : ∃ g, x1.heap.size = g := ⟨_, rfl⟩
            simp only [hpn] at D hp ⊢
            clear hpn
            refine wpAnyH_ready (rs := [14]) (by kernel_rfl) (by simp) ?_
            refine AllReadyH.cons (o := ⟨_, _, _, _, _, _⟩) rfl (fun K' hK' => ?_) (AllReadyH.nil)
            · refine (if_pos (by rfl)).mpr ?_
              go_simp
              change K' _ (World.alloc _ (Obj.cells (rpA zeroR) 43))
              have E := heap_alloc_new x2 (Obj.cells (rpA zeroR) 43)
              have hpq := lt_blk D
              have D := tr_al (Obj.cells (rpA zeroR) 43) D
              have ho := owns_bl ho (blw _ (Obj.cells (rpA zeroR) 43))
              have hb := hb.trans ((blw _ (Obj.cells (rpA zeroR) 43)).mono hz)
              have hq : B ≤ x2.heap.size := hz
              have hz := Nat.le_trans hz (blw x2 (Obj.cells (rpA zeroR) 43)).size
              refine hK'.out _ _ hb (fun _ => ?_)
              generalize x2.alloc (Obj.cells (rpA zeroR) 43) = x3 at *
              obtain ⟨q, hqn⟩ : ∃ g, x2.heap.size = g := ⟨_, rfl⟩
              simp only [hqn] at E hq hpq ⊢
              clear hqn
              refine wpAnyH_ready (rs := [15]) (by kernel_rfl) (by simp) ?_
              refine AllReadyH.cons (o := ⟨_, _, _, _, _, _⟩) rfl (fun K' hK' => ?_) (AllReadyH.nil)
              refine (if_pos (by rfl)).mpr ?_
              refine wp_stB 49 _ _ ?_
              have D0 := D
              refine ⟨_, _, _, ⟨_, _, _, Try.sizeOf49, rfl, D, imA_over _ _ _ _ _ 0 (.slice none 0 0) zeroT⟩, ?_⟩
              intro y1 D1 g1
              have E1 := tr_st g1 E (by omega)
              have ho1 := owns_ne ho g1 D0 (by decide)
              have hb1 := bl_st hb g1 hz hp
              have hz1 := Nat.le_trans hz g1.size
              refine hK'.out _ _ hb1 (fun _ => ?_)
              refine wpAnyH_ready (rs := [16]) (by kernel_rfl) (by simp) ?_
              refine AllReadyH.cons (o := ⟨_, _, _, _, _, _⟩) rfl (fun K' hK' => ?_) (AllReadyH.nil)
              refine (if_pos (by rfl)).mpr ?_
              refine wp_stB 43 _ _ ?_
              have E2 := E1
              refine ⟨_, _, _, ⟨_, _, _, Try.sizeOf43, rfl, E1, rpA_over _ zeroR⟩, ?_⟩
              intro y2 F g2
              have D2 := tr_st g2 D1 (by omega)
              have ho2 := owns_ne ho1 g2 E2 (by decide)
              have hb2 := bl_st hb1 g2 hz1 hq
              refine hK'.out _ _ hb2 (fun _ => ?_)
              refine wpAnyH_take (i := 17) (oi := ⟨_, _, _, _, _, _⟩) (v := ?_) rfl (by kernel_rfl) (by kernel_rfl) (by kernel_rfl) (fun _ _ _ h => h) (Or.inl ⟨by rfl, ?_⟩) (by assumption) ?_
              rotate_left
              · intro wS hSw
                go_simp; (try with_reducible rfl)
              (try simp only [Act.put])
              (try simp only [List.setIfInBounds_toArray])
              (try simp only [List.set_cons_succ])
              (try simp only [List.set_cons_zero])
              refine wpAnyH_done (by kernel_rfl) ?_ _
              go_wp2
              go_meet
              rw [HBB.out]
              exact ⟨p, q, a2, c2, rfl, rfl, rfl, D2, F, ho2, hp, hq, hb2⟩
          · refine (if_pos (by rfl)).mpr ?_
            go_simp
            change K' _ (World.alloc _ (Obj.cells (rpA zeroR) 43))
            have E := heap_alloc_new x1 (Obj.cells (rpA zeroR) 43)
            have ho := owns_bl ho (blw _ (Obj.cells (rpA zeroR) 43))
            have hb := hb.trans ((blw _ (Obj.cells (rpA zeroR) 43)).mono hz)
            have hq : B ≤ x1.heap.size := hz
            have hz := Nat.le_trans hz (blw x1 (Obj.cells (rpA zeroR) 43)).size
            refine hK'.out _ _ hb (fun _ => ?_)
            generalize x1.alloc (Obj.cells (rpA zeroR) 43) = x4 at *
            obtain ⟨q, hqn⟩ : ∃ g, x1.heap.size = g := ⟨_, rfl⟩
            simp only [hqn] at E hq ⊢
            clear hqn
            refine wpAnyH_ready (rs := [13]) (by kernel_rfl) (by simp) ?_
            refine AllReadyH.cons (o := ⟨_, _, _, _, _, _⟩) rfl (fun K' hK' => ?_) (AllReadyH.nil)
            · refine (if_pos (by rfl)).mpr ?_
              go_simp
              change K' _ (World.alloc _ (Obj.cells (imA 0 (.slice none 0 0) zeroT) 49))
              have D := heap_alloc_new x4 (Obj.cells (imA 0 (.slice none 0 0) zeroT) 49)
              have hpq := lt_blk E
              have E := tr_al (Obj.cells (imA 0 (.slice none 0 0) zeroT) 49) E
              have ho := owns_bl ho (blw _ (Obj.cells (imA 0 (.slice none 0 0) zeroT) 49))
              have hb := hb.trans ((blw _ (Obj.cells (imA 0 (.slice none 0 0) zeroT) 49)).mono hz)
              have hp : B ≤ x4.heap.size := hz
              have hz := Nat.le_trans hz (blw x4 (Obj.cells (imA 0 (.slice none 0 0) zeroT) 49)).size
              refine hK'.out _ _ hb (fun _ => ?_)
              generalize x4.alloc (Obj.cells (imA 0 (.slice none 0 0) zeroT) 49) = x5 at *
              obtain ⟨p, hpn⟩ : ∃ g, x4.heap.size = g := ⟨_, rfl⟩
              simp only [hpn] at D hp hpq ⊢
              clear hpn
              refine wpAnyH_ready (rs := [15]) (by kernel_rfl) (by simp) ?_
              refine AllReadyH.cons (o := ⟨_, _, _, _, _, _⟩) rfl (fun K' hK' => ?_) (AllReadyH.nil)
              refine (if_pos (by rfl)).mpr ?_
              refine wp_stB 49 _ _ ?_
              have D0 := D
              refine ⟨_, _, _, ⟨_, _, _, Try.sizeOf49, rfl, D, imA_over _ _ _ _ _ 0 (.slice none 0 0) zeroT⟩, ?_⟩
              intro y1 D1 g1
              have E1 := tr_st g1 E (by omega)
              have ho1 := owns_ne ho g1 D0 (by decide)
              have hb1 := bl_st hb g1 hz hp
              have hz1 := Nat.le_trans hz g1.size
              refine hK'.out _ _ hb1 (fun _ => ?_)
              refine wpAnyH_ready (rs := [16]) (by kernel_rfl) (by simp) ?_
              refine AllReadyH.cons (o := ⟨_, _, _, _, _, _⟩) rfl (fun K' hK' => ?_) (AllReadyH.nil)
              refine (if_pos (by rfl)).mpr ?_
              refine wp_stB 43 _ _ ?_
              have E2 := E1
              refine ⟨_, _, _, ⟨_, _, _, Try.sizeOf43, rfl, E1, rpA_over _ zeroR⟩, ?_⟩
              intro y2 F g2
              have D2 := tr_st g2 D1 (by omega)
              have ho2 := owns_ne ho1 g2 E2 (by decide)
              have hb2 := bl_st hb1 g2 hz1 hq
              refine hK'.out _ _ hb2 (fun _ => ?_)
              refine wpAnyH_take (i := 17) (oi := ⟨_, _, _, _, _, _⟩) (v := ?_) rfl (by kernel_rfl) (by kernel_rfl) (by kernel_rfl) (fun _ _ _ h => h) (Or.inl ⟨by rfl, ?_⟩) (by assumption) ?_
              rotate_left
              · intro wS hSw
                go_simp; (try with_reducible rfl)
              (try simp only [Act.put])
              (try simp only [List.setIfInBounds_toArray])
              (try simp only [List.set_cons_succ])
              (try simp only [List.set_cons_zero])
              refine wpAnyH_done (by kernel_rfl) ?_ _
              go_wp2
              go_meet
              rw [HBB.out]
              exact ⟨p, q, a2, c2, rfl, rfl, rfl, D2, F, ho2, hp, hq, hb2⟩
        · refine (if_pos (by rfl)).mpr ?_
          go_simp
          change K' _ (World.alloc _ (Obj.cells (imA 0 (.slice none 0 0) zeroT) 49))
          have D := heap_alloc_new x0 (Obj.cells (imA 0 (.slice none 0 0) zeroT) 49)
          have hb := hb.trans ((blw _ (Obj.cells (imA 0 (.slice none 0 0) zeroT) 49)).mono hz)
          have hp : B ≤ x0.heap.size := hz
          have hz := Nat.le_trans hz (blw x0 (Obj.cells (imA 0 (.slice none 0 0) zeroT) 49)).size
          refine hK'.out _ _ hb (fun _ => ?_)
          generalize x0.alloc (Obj.cells (imA 0 (.slice none 0 0) zeroT) 49) = x6 at *
          obtain ⟨p, hpn⟩ : ∃ g, x0.heap.size = g := ⟨_, rfl⟩
          simp only [hpn] at D hp ⊢
          clear hpn
          refine wpAnyH_ready (rs := [8, 14]) (by kernel_rfl) (by simp) ?_
          refine AllReadyH.cons (o := ⟨_, _, _, _, _, _⟩) rfl (fun K' hK' => ?_) (AllReadyH.cons (o := ⟨_, _, _, _, _, _⟩) rfl (fun K' hK' => ?_) (AllReadyH.nil))
          · refine (if_pos (by rfl)).mpr ?_
            go_simp
            refine (apply_o mk ak ck (mk.idx + 1) e o1 o2 o3 HAP.out _ (HB2 _ hb) (by omega)).mono ?_
            rintro en x7 ⟨⟨a2, c2, rfl, ho⟩, hbk⟩
            have ho := owns_mono ho hz
            have hb := hb.trans (hbk.mono hz)
            have hz := Nat.le_trans hz hbk.size
            have D := tr_bl hbk D
            clear hbk
            refine hK'.out _ _ hb (fun _ => ?_)
            refine wpAnyH_take (i := 9) (oi := ⟨_, _, _, _, _, _⟩) (v := ?_) rfl (by kernel_rfl) (by kernel_rfl) (by kernel_rfl) (fun _ _ _ h => h) (Or.inl ⟨by rfl, ?_⟩) (by assumption) ?_
            rotate_left
            · intro wS hSw
              go_simp; (try with_reducible rfl)
            (try simp only [Act.put])
            (try simp only [List.setIfInBounds_toArray])
            (try simp only [List.set_cons_succ])
            (try simp only [List.set_cons_zero])
            refine wpAnyH_take (i := 10) (oi := ⟨_, _, _, _, _, _⟩) (v := ?_) rfl (by kernel_rfl) (by kernel_rfl) (by kernel_rfl) (fun _ _ _ h => h) (Or.inl ⟨by rfl, ?_⟩) (by assumption) ?_
            rotate_left
            · intro wS hSw
              go_simp; (try with_reducible rfl)
            (try simp only [Act.put])
            (try simp only [List.setIfInBounds_toArray])
            (try simp only [List.set_cons_succ])
            (try simp only [List.set_cons_zero])
            refine wpAnyH_take (i := 11) (oi := ⟨_, _, _, _, _, _⟩) (v := ?_) rfl (by kernel_rfl) (by kernel_rfl) (by kernel_rfl) (fun _ _ _ h => h) (Or.inl ⟨by rfl, ?_⟩) (by assumption) ?_
            rotate_left
            · intro wS hSw
              go_simp; (try with_reducible rfl)
            (try simp only [Act.put])
            (try simp only [List.setIfInBounds_toArray])
            (try simp only [List.set_cons_succ])
            (try simp only [List.set_cons_zero])
            refine wpAnyH_take (i := 12) (oi := ⟨_, _, _, _, _, _⟩) (v := ?_) rfl (by kernel_rfl) (by kernel_rfl) (by kernel_rfl) (fun _ _ _ h => h) (Or.inl ⟨by rfl, ?_⟩) (by assumption) ?_
            rotate_left
            · intro wS hSw
              go_simp; (try with_reducible rfl)
            (try simp only [Act.put])
            (try simp only [List.setIfInBounds_toArray])
            (try simp only [List.set_cons_succ])
            (try simp only [List.set_cons_zero])
            refine wpAnyH_ready (rs := [14]) (by kernel_rfl) (by simp) ?_
            refine AllReadyH.cons (o := ⟨_, _, _, _, _, _⟩) rfl (fun K' hK' => ?_) (AllReadyH.nil)
            · refine (if_pos (by rfl)).mpr ?_
              go_simp
              change K' _ (World.alloc _ (Obj.cells (rpA zeroR) 43))
              have E := heap_alloc_new x7 (Obj.cells (rpA zeroR) 43)
              have hpq := lt_blk D
              have D := tr_al (Obj.cells (rpA zeroR) 43) D
              have ho := owns_bl ho (blw _ (Obj.cells (rpA zeroR) 43))
              have hb := hb.trans ((blw _ (Obj.cells (rpA zeroR) 43)).mono hz)
              have hq : B ≤ x7.heap.size := hz
              have hz := Nat.le_trans hz (blw x7 (Obj.cells (rpA zeroR) 43)).size
              refine hK'.out _ _ hb (fun _ => ?_)
              generalize x7.alloc (Obj.cells (rpA zeroR) 43) = x8 at *
              obtain ⟨q, hqn⟩ : ∃ g, x7.heap.size = g := ⟨_, rfl⟩
              simp only [hqn] at E hq hpq ⊢
              clear hqn
              refine wpAnyH_ready (rs := [15]) (by kernel_rfl) (by simp) ?_
              refine AllReadyH.cons (o := ⟨_, _, _, _, _, _⟩) rfl (fun K' hK' => ?_) (AllReadyH.nil)
              refine (if_pos (by rfl)).mpr ?_
              refine wp_stB 49 _ _ ?_
              have D0 := D
              refine ⟨_, _, _, ⟨_, _, _, Try.sizeOf49, rfl, D, imA_over _ _ _ _ _ 0 (.slice none 0 0) zeroT⟩, ?_⟩
              intro y1 D1 g1
              have E1 := tr_st g1 E (by omega)
              have ho1 := owns_ne ho g1 D0 (by decide)
              have hb1 := bl_st hb g1 hz hp
              have hz1 := Nat.le_trans hz g1.size
              refine hK'.out _ _ hb1 (fun _ => ?_)
              refine wpAnyH_ready (rs := [16]) (by kernel_rfl) (by simp) ?_
              refine AllReadyH.cons (o := ⟨_, _, _, _, _, _⟩) rfl (fun K' hK' => ?_) (AllReadyH.nil)
              refine (if_pos (by rfl)).mpr ?_
              refine wp_stB 43 _ _ ?_
              have E2 := E1
              refine ⟨_, _, _, ⟨_, _, _, Try.sizeOf43, rfl, E1, rpA_over _ zeroR⟩, ?_⟩
              intro y2 F g2
              have D2 := tr_st g2 D1 (by omega)
              have ho2 := owns_ne ho1 g2 E2 (by decide)
              have hb2 := bl_st hb1 g2 hz1 hq
              refine hK'.out _ _ hb2 (fun _ => ?_)
              refine wpAnyH_take (i := 17) (oi := ⟨_, _, _, _, _, _⟩) (v := ?_) rfl (by kernel_rfl) (by kernel_rfl) (by kernel_rfl) (fun _ _ _ h => h) (Or.inl ⟨by rfl, ?_⟩) (by assumption) ?_
              rotate_left
              · intro wS hSw
                go_simp; (try with_reducible rfl)
              (try simp only [Act.put])
              (try simp only [List.setIfInBounds_toArray])
              (try simp only [List.set_cons_succ])
              (try simp only [List.set_cons_zero])
              refine wpAnyH_done (by kernel_rfl) ?_ _
              go_wp2
              go_meet
              rw [HBB.out]
              exact ⟨p, q, a2, c2, rfl, rfl, rfl, D2, F, ho2, hp, hq, hb2⟩
          · refine (if_pos (by rfl)).mpr ?_
            go_simp
            change K' _ (World.alloc _ (Obj.cells (rpA zeroR) 43))
            have E := heap_alloc_new x6 (Obj.cells (rpA zeroR) 43)
            have hpq := lt_blk D
            have D := tr_al (Obj.cells (rpA zeroR) 43) D
            have hb := hb.trans ((blw _ (Obj.cells (rpA zeroR) 43)).mono hz)
            have hq : B ≤ x6.heap.size := hz
            have hz := Nat.le_trans hz (blw x6 (Obj.cells (rpA zeroR) 43)).size
            refine hK'.out _ _ hb (fun _ => ?_)
            generalize x6.alloc (Obj.cells (rpA zeroR) 43) = x9 at *
            obtain ⟨q, hqn⟩ : ∃ g, x6.heap.size = g := ⟨_, rfl⟩
            simp only [hqn] at E hq hpq ⊢
            clear hqn
            refine wpAnyH_ready (rs := [8]) (by kernel_rfl) (by simp) ?_
            refine AllReadyH.cons (o := ⟨_, _, _, _, _, _⟩) rfl (fun K' hK' => ?_) (AllReadyH.nil)
            · refine (if_pos (by rfl)).mpr ?_
              go_simp
              refine (apply_o mk ak ck (mk.idx + 1) e o1 o2 o3 HAP.out _ (HB2 _ hb) (by omega)).mono ?_
              rintro en x10 ⟨⟨a2, c2, rfl, ho⟩, hbk⟩
              have ho := owns_mono ho hz
              have hb := hb.trans (hbk.mono hz)
              have hz := Nat.le_trans hz hbk.size
              have D := tr_bl hbk D
              have E := tr_bl hbk E
              clear hbk
              refine hK'.out _ _ hb (fun _ => ?_)
              refine wpAnyH_take (i := 9) (oi := ⟨_, _, _, _, _, _⟩) (v := ?_) rfl (by kernel_rfl) (by kernel_rfl) (by kernel_rfl) (fun _ _ _ h => h) (Or.inl ⟨by rfl, ?_⟩) (by assumption) ?_
              rotate_left
              · intro wS hSw
                go_simp; (try with_reducible rfl)
              (try simp only [Act.put])
              (try simp only [List.setIfInBounds_toArray])
              (try simp only [List.set_cons_succ])
              (try simp only [List.set_cons_zero])
              refine wpAnyH_take (i := 10) (oi := ⟨_, _, _, _, _, _⟩) (v := ?_) rfl (by kernel_rfl) (by kernel_rfl) (by kernel_rfl) (fun _ _ _ h => h) (Or.inl ⟨by rfl, ?_⟩) (by assumption) ?_
              rotate_left
              · intro wS hSw
                go_simp; (try with_reducible rfl)
              (try simp only [Act.put])
              (try simp only [List.setIfInBounds_toArray])
              (try simp only [List.set_cons_succ])
              (try simp only [List.set_cons_zero])
              refine wpAnyH_take (i := 11) (oi := ⟨_, _, _, _, _, _⟩) (v := ?_) rfl (by kernel_rfl) (by kernel_rfl) (by kernel_rfl) (fun _ _ _ h => h) (Or.inl ⟨by rfl, ?_⟩) (by assumption) ?_
              rotate_left
              · intro wS hSw
                go_simp; (try with_reducible rfl)
              (try simp only [Act.put])
              (try simp only [List.setIfInBounds_toArray])
              (try simp only [List.set_cons_succ])
              (try simp only [List.set_cons_zero])
              refine wpAnyH_take (i := 12) (oi := ⟨_, _, _, _, _, _⟩) (v := ?_) rfl (by kernel_rfl) (by kernel_rfl) (by kernel_rfl) (fun _ _ _ h => h) (Or.inl ⟨by rfl, ?_⟩) (by assumption) ?_
              rotate_left
              · intro wS hSw
                go_simp; (try with_reducible rfl)
              (try simp only [Act.put])
              (try simp only [List.setIfInBounds_toArray])
              (try simp only [List.set_cons_succ])
              (try simp only [List.set_cons_zero])
              refine wpAnyH_ready (rs := [15]) (by kernel_rfl) (by simp) ?_
              refine AllReadyH.cons (o := ⟨_, _, _, _, _, _⟩) rfl (fun K' hK' => ?_) (AllReadyH.nil)
              refine (if_pos (by rfl)).mpr ?_
              refine wp_stB 49 _ _ ?_
              have D0 := D
              refine ⟨_, _, _, ⟨_, _, _, Try.sizeOf49, rfl, D, imA_over _ _ _ _ _ 0 (.slice none 0 0) zeroT⟩, ?_⟩
              intro y1 D1 g1
              have E1 := tr_st g1 E (by omega)
              have ho1 := owns_ne ho g1 D0 (by decide)
              have hb1 := bl_st hb g1 hz hp
              have hz1 := Nat.le_trans hz g1.size
              refine hK'.out _ _ hb1 (fun _ => ?_)
              refine wpAnyH_ready (rs := [16]) (by kernel_rfl) (by simp) ?_
              refine AllReadyH.cons (o := ⟨_, _, _, _, _, _⟩) rfl (fun K' hK' => ?_) (AllReadyH.nil)
              refine (if_pos (by rfl)).mpr ?_
              refine wp_stB 43 _ _ ?_
              have E2 := E1
              refine ⟨_, _, _, ⟨_, _, _, Try.sizeOf43, rfl, E1, rpA_over _ zeroR⟩, ?_⟩
              intro y2 F g2
              have D2 := tr_st g2 D1 (by omega)
              have ho2 := owns_ne ho1 g2 E2 (by decide)
              have hb2 := bl_st hb1 g2 hz1 hq
              refine hK'.out _ _ hb2 (fun _ => ?_)
              refine wpAnyH_take (i := 17) (oi := ⟨_, _, _, _, _, _⟩) (v := ?_) rfl (by kernel_rfl) (by kernel_rfl) (by kernel_rfl) (fun _ _ _ h => h) (Or.inl ⟨by rfl, ?_⟩) (by assumption) ?_
              rotate_left
              · intro wS hSw
                go_simp; (try with_reducible rfl)
              (try simp only [Act.put])
              (try simp only [List.setIfInBounds_toArray])
              (try simp only [List.set_cons_succ])
              (try simp only [List.set_cons_zero])
              refine wpAnyH_done (by kernel_rfl) ?_ _
              go_wp2
              go_meet
              rw [HBB.out]
              exact ⟨p, q, a2, c2, rfl, rfl, rfl, D2, F, ho2, hp, hq, hb2⟩
        · refine (if_pos (by rfl)).mpr ?_
          go_simp
          change K' _ (World.alloc _ (Obj.cells (rpA zeroR) 43))
          have E := heap_alloc_new x0 (Obj.cells (rpA zeroR) 43)
          have hb := hb.trans ((blw _ (Obj.cells (rpA zeroR) 43)).mono hz)
          have hq : B ≤ x0.heap.size := hz
          have hz := Nat.le_trans hz (blw x0 (Obj.cells (rpA zeroR) 43)).size
          refine hK'.out _ _ hb (fun _ => ?_)
          generalize x0.alloc (Obj.cells (rpA zeroR) 43) = x11 at *
          obtain ⟨q, hqn⟩ : ∃ g, x0.heap.size = g := ⟨_, rfl⟩
          simp only [hqn] at E hq ⊢
          clear hqn
          refine wpAnyH_ready (rs := [8, 13]) (by kernel_rfl) (by simp) ?_
          refine AllReadyH.cons (o := ⟨_, _, _, _, _, _⟩) rfl (fun K' hK' => ?_) (AllReadyH.cons (o := ⟨_, _, _, _, _, _⟩) rfl (fun K' hK' => ?_) (AllReadyH.nil))
          · refine (if_pos (by rfl)).mpr ?_
            go_simp
            refine (apply_o mk ak ck (mk.idx + 1) e o1 o2 o3 HAP.out _ (HB2 _ hb) (by omega)).mono ?_
            rintro en x12 ⟨⟨a2, c2, rfl, ho⟩, hbk⟩
            have ho := owns_mono ho hz
            have hb := hb.trans (hbk.mono hz)
            have hz := Nat.le_trans hz hbk.size
            have E := tr_bl hbk E
            clear hbk
            refine hK'.out _ _ hb (fun _ => ?_)
            refine wpAnyH_take (i := 9) (oi := ⟨_, _, _, _, _, _⟩) (v := ?_) rfl (by kernel_rfl) (by kernel_rfl) (by kernel_rfl) (fun _ _ _ h => h) (Or.inl ⟨by rfl, ?_⟩) (by assumption) ?_
            rotate_left
            · intro wS hSw
              go_simp; (try with_reducible rfl)
            (try simp only [Act.put])
            (try simp only [List.setIfInBounds_toArray])
            (try simp only [List.set_cons_succ])
            (try simp only [List.set_cons_zero])
            refine wpAnyH_take (i := 10) (oi := ⟨_, _, _, _, _, _⟩) (v := ?_) rfl (by kernel_rfl) (by kernel_rfl) (by kernel_rfl) (fun _ _ _ h => h) (Or.inl ⟨by rfl, ?_⟩) (by assumption) ?_
            rotate_left
            · intro wS hSw
              go_simp; (try with_reducible rfl)
            (try simp only [Act.put])
            (try simp only [List.setIfInBounds_toArray])
            (try simp only [List.set_cons_succ])
            (try simp only [List.set_cons_zero])
            refine wpAnyH_take (i := 11) (oi := ⟨_, _, _, _, _, _⟩) (v := ?_) rfl (by kernel_rfl) (by kernel_rfl) (by kernel_rfl) (fun _ _ _ h => h) (Or.inl ⟨by rfl, ?_⟩) (by assumption) ?_
            rotate_left
            · intro wS hSw
              go_simp; (try with_reducible rfl)
            (try simp only [Act.put])
            (try simp only [List.setIfInBounds_toArray])
            (try simp only [List.set_cons_succ])
            (try simp only [List.set_cons_zero])
            refine wpAnyH_take (i := 12) (oi := ⟨_, _, _, _, _, _⟩) (v := ?_) rfl (by kernel_rfl) (by kernel_rfl) (by kernel_rfl) (fun _ _ _ h => h) (Or.inl ⟨by rfl, ?_⟩) (by assumption) ?_
            rotate_left
            · intro wS hSw
              go_simp; (try with_reducible rfl)
            (try simp only [Act.put])
            (try simp only [List.setIfInBounds_toArray])
            (try simp only [List.set_cons_succ])
            (try simp only [List.set_cons_zero])
            refine wpAnyH_ready (rs := [13]) (by kernel_rfl) (by simp) ?_
            refine AllReadyH.cons (o := ⟨_, _, _, _, _, _⟩) rfl (fun K' hK' => ?_) (AllReadyH.nil)
            · refine (if_pos (by rfl)).mpr ?_
              go_simp
              change K' _ (World.alloc _ (Obj.cells (imA 0 (.slice none 0 0) zeroT) 49))
              have D := heap_alloc_new x12 (Obj.cells (imA 0 (.slice none 0 0) zeroT) 49)
              have hpq := lt_blk E
              have E := tr_al (Obj.cells (imA 0 (.slice none 0 0) zeroT) 49) E
              have ho := owns_bl ho (blw _ (Obj.cells (imA 0 (.slice none 0 0) zeroT) 49))
              have hb := hb.trans ((blw _ (Obj.cells (imA 0 (.slice none 0 0) zeroT) 49)).mono hz)
              have hp : B ≤ x12.heap.size := hz
              have hz := Nat.le_trans hz (blw x12 (Obj.cells (imA 0 (.slice none 0 0) zeroT) 49)).size
              refine hK'.out _ _ hb (fun _ => ?_)
              generalize x12.alloc (Obj.cells (imA 0 (.slice none 0 0) zeroT) 49) = x13 at *
              obtain ⟨p, hpn⟩ : ∃ g, x12.heap.size = g := ⟨_, rfl⟩
              simp only [hpn] at D hp hpq ⊢
              clear hpn
              refine wpAnyH_ready (rs := [15]) (by kernel_rfl) (by simp) ?_
              refine AllReadyH.cons (o := ⟨_, _, _, _, _, _⟩) rfl (fun K' hK' => ?_) (AllReadyH.nil)
              refine (if_pos (by rfl)).mpr ?_
              refine wp_stB 49 _ _ ?_
              have D0 := D
              refine ⟨_, _, _, ⟨_, _, _, Try.sizeOf49, rfl, D, imA_over _ _ _ _ _ 0 (.slice none 0 0) zeroT⟩, ?_⟩
              intro y1 D1 g1
              have E1 := tr_st g1 E (by omega)
              have ho1 := owns_ne ho g1 D0 (by decide)
              have hb1 := bl_st hb g1 hz hp
              have hz1 := Nat.le_trans hz g1.size
              refine hK'.out _ _ hb1 (fun _ => ?_)
              refine wpAnyH_ready (rs := [16]) (by kernel_rfl) (by simp) ?_
              refine AllReadyH.cons (o := ⟨_, _, _, _, _, _⟩) rfl (fun K' hK' => ?_) (AllReadyH.nil)
              refine (if_pos (by rfl)).mpr ?_
              refine wp_stB 43 _ _ ?_
              have E2 := E1
              refine ⟨_, _, _, ⟨_, _, _, Try.sizeOf43, rfl, E1, rpA_over _ zeroR⟩, ?_⟩
              intro y2 F g2
              have D2 := tr_st g2 D1 (by omega)
              have ho2 := owns_ne ho1 g2 E2 (by decide)
              have hb2 := bl_st hb1 g2 hz1 hq
              refine hK'.out _ _ hb2 (fun _ => ?_)
              refine wpAnyH_take (i := 17) (oi := ⟨_, _, _, _, _, _⟩) (v := ?_) rfl (by kernel_rfl) (by kernel_rfl) (by kernel_rfl) (fun _ _ _ h => h) (Or.inl ⟨by rfl, ?_⟩) (by assumption) ?_
              rotate_left
              · intro wS hSw
                go_simp; (try with_reducible rfl)
              (try simp only [Act.put])
              (try simp only [List.setIfInBounds_toArray])
              (try simp only [List.set_cons_succ])
              (try simp only [List.set_cons_zero])
              refine wpAnyH_done (by kernel_rfl) ?_ _
              go_wp2
              go_meet
              rw [HBB.out]
              exact ⟨p, q, a2, c2, rfl, rfl, rfl, D2, F, ho2, hp, hq, hb2⟩
          · refine (if_pos (by rfl)).mpr ?_
            go_simp
            change K' _ (World.alloc _ (Obj.cells (imA 0 (.slice none 0 0) zeroT) 49))
            have D := heap_alloc_new x11 (Obj.cells (imA 0 (.slice none 0 0) zeroT) 49)
            have hpq := lt_blk E
            have E := tr_al (Obj.cells (imA 0 (.slice none 0 0) zeroT) 49) E
            have hb := hb.trans ((blw _ (Obj.cells (imA 0 (.slice none 0 0) zeroT) 49)).mono hz)
            have hp : B ≤ x11.heap.size := hz
            have hz := Nat.le_trans hz (blw x11 (Obj.cells (imA 0 (.slice none 0 0) zeroT) 49)).size
            refine hK'.out _ _ hb (fun _ => ?_)
            generalize x11.alloc (Obj.cells (imA 0 (.slice none 0 0) zeroT) 49) = x14 at *
            obtain ⟨p, hpn⟩ : ∃ g, x11.heap.size = g := ⟨_, rfl⟩
            simp only [hpn] at D hp hpq ⊢
            clear hpn
            refine wpAnyH_ready (rs := [8]) (by kernel_rfl) (by simp) ?_
            refine AllReadyH.cons (o := ⟨_, _, _, _, _, _⟩) rfl (fun K' hK' => ?_) (AllReadyH.nil)
            · refine (if_pos (by rfl)).mpr ?_
              go_simp
              refine (apply_o mk ak ck (mk.idx + 1) e o1 o2 o3 HAP.out _ (HB2 _ hb) (by omega)).mono ?_
              rintro en x15 ⟨⟨a2, c2, rfl, ho⟩, hbk⟩
              have ho := owns_mono ho hz
              have hb := hb.trans (hbk.mono hz)
              have hz := Nat.le_trans hz hbk.size
              have D := tr_bl hbk D
              have E := tr_bl hbk E
              clear hbk
              refine hK'.out _ _ hb (fun _ => ?_)
              refine wpAnyH_take (i := 9) (oi := ⟨_, _, _, _, _, _⟩) (v := ?_) rfl (by kernel_rfl) (by kernel_rfl) (by kernel_rfl) (fun _ _ _ h => h) (Or.inl ⟨by rfl, ?_⟩) (by assumption) ?_
              rotate_left
              · intro wS hSw
                go_simp; (try with_reducible rfl)
              (try simp only [Act.put])
              (try simp only [List.setIfInBounds_toArray])
              (try simp only [List.set_cons_succ])
              (try simp only [List.set_cons_zero])
              refine wpAnyH_take (i := 10) (oi := ⟨_, _, _, _, _, _⟩) (v := ?_) rfl (by kernel_rfl) (by kernel_rfl) (by kernel_rfl) (fun _ _ _ h => h) (Or.inl ⟨by rfl, ?_⟩) (by assumption) ?_
              rotate_left
              · intro wS hSw
                go_simp; (try with_reducible rfl)
              (try simp only [Act.put])
              (try simp only [List.setIfInBounds_toArray])
              (try simp only [List.set_cons_succ])
              (try simp only [List.set_cons_zero])
              refine wpAnyH_take (i := 11) (oi := ⟨_, _, _, _, _, _⟩) (v := ?_) rfl (by kernel_rfl) (by kernel_rfl) (by kernel_rfl) (fun _ _ _ h => h) (Or.inl ⟨by rfl, ?_⟩) (by assumption) ?_
              rotate_left
              · intro wS hSw
                go_simp; (try with_reducible rfl)
              (try simp only [Act.put])
              (try simp only [List.setIfInBounds_toArray])
              (try simp only [List.set_cons_succ])
              (try simp only [List.set_cons_zero])
              refine wpAnyH_take (i := 12) (oi := ⟨_, _, _, _, _, _⟩) (v := ?_) rfl (by kernel_rfl) (by kernel_rfl) (by kernel_rfl) (fun _ _ _ h => h) (Or.inl ⟨by rfl, ?_⟩) (by assumption) ?_
              rotate_left
              · intro wS hSw
                go_simp; (try with_reducible rfl)
              (try simp only [Act.put])
              (try simp only [List.setIfInBounds_toArray])
              (try simp only [List.set_cons_succ])
              (try simp only [List.set_cons_zero])
              refine wpAnyH_ready (rs := [15]) (by kernel_rfl) (by simp) ?_
              refine AllReadyH.cons (o := ⟨_, _, _, _, _, _⟩) rfl (fun K' hK' => ?_) (AllReadyH.nil)
              refine (if_pos (by rfl)).mpr ?_
              refine wp_stB 49 _ _ ?_
              have D0 := D
              refine ⟨_, _, _, ⟨_, _, _, Try.sizeOf49, rfl, D, imA_over _ _ _ _ _ 0 (.slice none 0 0) zeroT⟩, ?_⟩
              intro y1 D1 g1
              have E1 := tr_st g1 E (by omega)
              have ho1 := owns_ne ho g1 D0 (by decide)
              have hb1 := bl_st hb g1 hz hp
              have hz1 := Nat.le_trans hz g1.size
              refine hK'.out _ _ hb1 (fun _ => ?_)
              refine wpAnyH_ready (rs := [16]) (by kernel_rfl) (by simp) ?_
              refine AllReadyH.cons (o := ⟨_, _, _, _, _, _⟩) rfl (fun K' hK' => ?_) (AllReadyH.nil)
              refine (if_pos (by rfl)).mpr ?_
              refine wp_stB 43 _ _ ?_
              have E2 := E1
              refine ⟨_, _, _, ⟨_, _, _, Try.sizeOf43, rfl, E1, rpA_over _ zeroR⟩, ?_⟩
              intro y2 F g2
              have D2 := tr_st g2 D1 (by omega)
              have ho2 := owns_ne ho1 g2 E2 (by decide)
              have hb2 := bl_st hb1 g2 hz1 hq
              refine hK'.out _ _ hb2 (fun _ => ?_)
              refine wpAnyH_take (i := 17) (oi := ⟨_, _, _, _, _, _⟩) (v := ?_) rfl (by kernel_rfl) (by kernel_rfl) (by kernel_rfl) (fun _ _ _ h => h) (Or.inl ⟨by rfl, ?_⟩) (by assumption) ?_
              rotate_left
              · intro wS hSw
                go_simp; (try with_reducible rfl)
              (try simp only [Act.put])
              (try simp only [List.setIfInBounds_toArray])
              (try simp only [List.set_cons_succ])
              (try simp only [List.set_cons_zero])
              refine wpAnyH_done (by kernel_rfl) ?_ _
              go_wp2
              go_meet
              rw [HBB.out]
              exact ⟨p, q, a2, c2, rfl, rfl, rfl, D2, F, ho2, hp, hq, hb2⟩
      obtain ⟨p, q, a2, c2, rfl, rfl, rfl, D9, D10, ho2, hp, hq, hbc⟩ := hcut
      have E2 := tr_bl hbc C2
      have E4 := tr_bl hbc C4
      have hto := owns_bl hto hbc
      have hsk := hsk.below hbc
      have hbx := hbr.trans (hbc.mono (by omega))
      have hzx : N + 2 ≤ wc.heap.size := by have := hbc.size; omega
      clear C2 C4 hbc hbr hcs hl0
      by_cases h3 : o3 = 0
      case neg =>
        have ho : o = none := by
          have h := hpr.out
          rw [HDR.out, pre_no (by rw [HAP.out]; exact h3)] at h
          exact h.symm
        have HOO := Lib.hid ho
        clear ho
        go_wp2_with (first
          | ((first | (with_reducible refine wpList_stB 49 _ _ ?_) | (with_reducible refine wp_stB 49 _ _ ?_)); refine ⟨_, _, _, ⟨_, _, _, Try.sizeOf49, rfl, ‹_›, imA_over 0 none 0 0 zeroT 0 (.slice none 0 0) zeroT⟩, ?_⟩; intro wz F4 gz))
        refine bodyPost_ret (results_c1t2 rfl rfl (run_loadVar_all Try.isAgg49 Try.sizeOf49 F4 rfl)) rfl ?_
        refine ⟨?_, bl_st hbx gz (by omega) (by omega)⟩
        rw [HOO.out]
        exact rfl
      case pos =>
        subst h3
        have hst := step_ok (m := mk) (e := e) (by rw [HAP.out])
        have hpr' : pre (tk ++ [o2]) (runP o1 (L.drop (k + 1))) = o := by
          have h := hpr.out
          rw [HDR.out, pre_ok (by rw [HAP.out]), HAP.out] at h
          exact h
        have hmk' : mayI o1 = true := by have := hst.may; rw [HAP.out] at this; exact this
        have HPR := Lib.hid hpr'
        have HMK := Lib.hid hmk'
        clear hst hpr' hmk' hpr hmk
        clear hsk hof
        go_wp2_with (first
          | ((with_reducible refine wpList_ldB 49 _ ?_); refine ⟨rfl, _, ⟨_, _, _, _, _, Try.isAgg49, Try.sizeOf49, rfl, ‹_›, imA_all _ _ _⟩, ?_⟩)
          | ((first | (with_reducible refine wpList_stB 49 _ _ ?_) | (with_reducible refine wp_stB 49 _ _ ?_)); refine ⟨_, _, _, ⟨_, _, _, Try.sizeOf49, rfl, ‹_›, imA_over _ _ _ _ _ mk.idx (.slice ak mk.st.length ck) mk.tb⟩, ?_⟩; intro wS F2 gS; have F4 := tr_st gS E4 (by omega); have G10 := tr_st gS D10 (by omega); have ho3 := owns_ne ho2 gS E2 (by decide); have hto3 := owns_ne hto gS E2 (by decide); have hbS := bl_st hbx gS (by omega) (by omega); have hzS : N + 2 ≤ wS.heap.size := Nat.le_trans hzx gS.size; clear E2 E4 D9 D10 ho2 hto hbx hzx gS; obtain ⟨ta, tc, rfl, _⟩ := Row.of_owns hto3)
          | ((with_reducible refine wpList_ldB 43 _ ?_); refine ⟨rfl, _, ⟨_, _, _, _, _, Try.isAgg43, Try.sizeOf43, rfl, ‹_›, rpA_lt3 _⟩, ?_⟩)
          | (at_builtin; refine wpList_appendN' rfl _ _ 90 90 43 43 elReply Try.underlying90 rfl (N + 2) _ _ _ rfl (owns_bl hto3 (blw wS (Obj.cells (rpA o2) 43))) ⟨wS.heap.size, 0, none⟩ 1 1 (rplC o2) rfl rfl (fun j u hu => ?_) (rplC_one o2) (by have := HTK.out; omega) (by decide) (by simp; omega) ?_; (rw [addr_add]; exact blk_cell (heap_alloc_new wS (Obj.cells (rpA o2) 43)) _ u (by rw [Nat.zero_add, ← Array.getElem?_toList]; exact hu)); intro v7 w7 hto7 hg7))
        have G2 := tr_gb hg7 (tr_al (Obj.cells (rpA o2) 43) F2) (own_ne (owns_bl hto3 (blw wS (Obj.cells (rpA o2) 43))) (tr_al (Obj.cells (rpA o2) 43) F2) (by decide))
        have G4 := tr_gb hg7 (tr_al (Obj.cells (rpA o2) 43) F4) (own_ne (owns_bl hto3 (blw wS (Obj.cells (rpA o2) 43))) (tr_al (Obj.cells (rpA o2) 43) F4) (by decide))
        have ho4 := owns_gbt (owns_bl ho3 (blw wS (Obj.cells (rpA o2) 43))) (owns_bl hto3 (blw wS (Obj.cells (rpA o2) 43))) hg7 (by decide)
        have hzA : N + 2 ≤ (wS.alloc (Obj.cells (rpA o2) 43)).heap.size := Nat.le_trans hzS (blw wS (Obj.cells (rpA o2) 43)).size
        have hbA : Below N w (wS.alloc (Obj.cells (rpA o2) 43)) := hbS.trans ((blw wS (Obj.cells (rpA o2) 43)).mono (by omega))
        have hb7 : Below N w w7 := hbA.grown hg7 (by omega) (fun j e => by have := ((owns_bl hto3 (blw wS (Obj.cells (rpA o2) 43))).lt j e).1; omega)
        have hlen : (tk ++ [o2]).length = k + 1 := by rw [List.length_append, HTK.out]; rfl
        have HLEN := Lib.hid hlen
        clear hlen F2 F4 G10 hbA hzA hg7 hbS
        go_roundw
        case rel => exact ⟨k + 1, o1, a2, c2, tk ++ [o2], by omega, HLEN.out, by go_num, HMK, HPR, SlP.of_own1 ho4, OffB.own ho4 (by omega) _ _, G2, G4, by rw [rps_snoc, List.length_append]; exact hto7, hb7⟩
        case measure => simp [intOf]; omega
end Go.Proofs.Ytmnjmjbmnhppfaa

namespace Go.Proofs.Ytmnjmjbmnhppfaa
open Go.RowKit

def greatL (l : List En) : Bool := decide (60 < l.length) || l.any longE
theorem greatL_no {l : List En} (h : greatL l = false) : l.length ≤ 60 := by
  unfold greatL at h
  rw [Bool.or_eq_false_iff] at h
  have := of_decide_eq_false h.1
  omega
/-- A slice of entries. -/
structure SlE (w : World) (a : Option Addr) (cap : Nat) (l : List En) : Prop where
  row : Row w a (ens l)
  le : l.length ≤ cap
  max : cap ≤ maxLen
  nil : a = none → cap = 0
theorem SlE.below {w w' : World} {a : Option Addr} {cap : Nat} {l : List En} (h : SlE w a cap l) (hb : Below w.heap.size w w') : SlE w' a cap l := ⟨h.row.below0 hb, h.le, h.max, h.nil⟩
theorem ens_len (l : List En) : (ens l).length = 7 * l.length := flat_len enC_len l
theorem en_cells {w : World} {b off : Nat} {e : En} (h : ∀ (j : Nat) u, (enC e)[j]? = some u → w.cell? ⟨b, off + j, none⟩ = some u) : ∀ (j : Nat) u, (enA e)[j]? = some u → w.cell? ⟨b, off + j, none⟩ = some u :=
  fun j u hu => h j u (by rw [enC, Array.getElem?_toList]; exact hu)

set_option maxRecDepth 100000 in
theorem greatL_any (l : List En) (a : Option Addr) (cap : Nat) (w : World) (hs : SlE w a cap l) (r : Bool) (hres : greatL l = r) :
    Calls Try.prog 52 #[.slice a l.length cap] w fun en w' => en = .returned (.bool r) ∧ Below w.heap.size w w' := by
  have HB : Hid (∀ w', Below w.heap.size w w' → Row w' a (ens l)) := Lib.hid (fun w' h => hs.row.below0 h)
  have hmx := hs.max
  have hlc := hs.le
  unfold maxLen at hmx
  have HR := Lib.hid hres
  clear hres hs
  go_enter Try.func52, Try.ntmps52
  refine wp_seq_k (fun K hK => ?_)
  have HK := Lib.hid hK
  clear hK
  go_wp2
  refine HK.out _ _ ?_
  clear HK
  by_cases h60 : 60 < l.length
  case pos =>
    obtain rfl : r = true := by rw [← HR.out]; unfold greatL; rw [decide_eq_true h60]; rfl
    go_wp2
    go_ret
    exact ⟨rfl, Below.refl _ _⟩
  case neg =>
    refine wp_seq_k (fun K hK => ?_)
    have HK := Lib.hid hK
    clear hK
    go_wp2
    refine HK.out _ _ ?_
    clear HK
    go_wp2_with fail
    go_loopw [3] (fun i wr => ∃ k : Nat, k ≤ l.length ∧ i = .int .i64 (k : Nat) ∧ Hid ((l.drop k).any longE = r) ∧ Below w.heap.size w wr) (fun i _ => l.length - (intOf i).toNat)
    case atStart => exact ⟨0, by omega, rfl, Lib.hid (by rw [← HR.out]; unfold greatL; rw [decide_eq_false h60]; rfl), Below.refl _ _⟩
    case round =>
      obtain ⟨k, hk, rfl, hre, hbr⟩ := hrel
      by_cases hlt : k < l.length
      case neg =>
        obtain rfl : r = false := by have h := hre.out; rw [List.drop_of_length_le (by omega)] at h; exact h.symm
        go_wp2
        go_ret
        exact ⟨rfl, hbr⟩
      case pos =>
        obtain ⟨e, he, hdr⟩ := drop_at hlt
        obtain ⟨le, lo, rfl, hlb, hl0, hcs⟩ := (HB.out _ hbr).flat0 enC_len (by decide) he
        have hre2 : (longE e || (l.drop (k + 1)).any longE) = r := by have h := hre.out; rw [hdr] at h; simpa using h
        have HDR := Lib.hid hdr
        clear hdr hre
        cases hlg : longE e
        case true =>
          obtain rfl : r = true := by rw [← hre2, hlg]; rfl
          have HLG := Lib.hid hlg
          clear hlg hre2
          go_wp2_with (first
            | ((with_reducible refine wpList_ldC 80 _ ?_); refine ⟨rfl, _, ⟨_, _, _, Try.isAgg80, Try.sizeOf80, rfl, (show (enA e).size = 7 from rfl), en_cells hcs⟩, ?_⟩)
            | (go_at_call 45; refine (longE_any e _ _ HLG.out).mono ?_; rintro en w1 ⟨rfl, hb1⟩))
          go_ret
          exact ⟨rfl, step_b hbr hb1⟩
        case false =>
          have HRE := Lib.hid (show (l.drop (k + 1)).any longE = r by rw [← hre2, hlg]; rfl)
          have HLG := Lib.hid hlg
          clear hlg hre2
          go_wp2_with (first
            | ((with_reducible refine wpList_ldC 80 _ ?_); refine ⟨rfl, _, ⟨_, _, _, Try.isAgg80, Try.sizeOf80, rfl, (show (enA e).size = 7 from rfl), en_cells hcs⟩, ?_⟩)
            | (go_at_call 45; refine (longE_any e _ _ HLG.out).mono ?_; rintro en w1 ⟨rfl, hb1⟩))
          go_roundw
          case rel => exact ⟨k + 1, by omega, by go_num, HRE, step_b hbr hb1⟩
          case measure => simp [intOf]; omega

theorem run_no (m : Im) (a : Option Addr) (cap : Nat) (L : List En) (la : Option Addr) (lc : Nat) (w : World) (hs : SlP w a cap m.st) (hm : mayI m = true) (hr : Row w la (ens L)) (hL : L.length ≤ 1000) (ho : runP m L = none) :
    Calls Try.prog 53 #[.agg (imA m.idx (.slice a m.st.length cap) m.tb), .slice la L.length lc] w fun e w' => e = .returned (.tuple #[.agg (imA 0 (.slice none 0 0) zeroT), .slice none 0 0, .bool false]) ∧ Below w.heap.size w w' := by
  refine (run_any m a cap L la lc w hs hm hr hL).mono ?_
  rintro e w' ⟨h, hb⟩
  unfold RunRes at h
  rw [ho] at h
  exact ⟨h, hb⟩
theorem row_own {w : World} {base n c : Nat} {e : TypeId} {a : Option Addr} {xs : List Value} (h : w.ownsRow base e 3 (.slice a n c) n xs) : Row w a xs := by
  obtain ⟨a', c', hv, hr, _⟩ := Row.of_owns h
  injection hv with e1 _ _
  subst e1
  exact hr
/-- What run hands back stays behind a store into a box that was made between. -/
theorem off_st {x0 x2 x3 : World} {p N : Nat} {a a0 : Option Addr} {c c0 : Nat} {l l0 : List Pr} (h : SlP x2 a c l) (ho : OffB N a0 l0 a l) (h0 : SlP x0 a0 c0 l0) (hp : x0.heap.size = p) (hN : p < N) (hg : x2.grownBy x3 (some p)) : SlP x3 a c l := by
  refine ⟨?_, h.le, h.max, h.nil⟩
  rcases ho with rfl | ⟨b, off, ha, hb⟩
  · exact .inl rfl
  · rcases h.row with h1 | ⟨b', off', ha', hc⟩
    · exact .inl h1
    · rw [ha] at ha'
      injection ha' with ha'
      injection ha' with e1 e2
      subst e1 e2
      refine .inr ⟨b, off, ha, fun i u hu => hg.cell (hc i u hu) (fun e => ?_)⟩
      injection e with e
      simp only at e
      rcases hb with ⟨ea, el, _⟩ | hb
      · subst el
        rcases h0.row with h2 | ⟨b2, off2, hb2, hc2⟩
        · rw [h2] at hu; simp at hu
        · rw [ea, ha] at hb2
          injection hb2 with hb2
          injection hb2 with e1 e2
          subst e1 e2
          have := World.block_lt_of_cell? _ _ (hc2 i u hu)
          simp only at this
          omega
      · omega
theorem ens_take (l : List En) (s : Nat) : ens (l.take s) = (ens l).take (s * 7) := by
  induction l generalizing s with
  | nil => simp [ens]
  | cons e l ih =>
    cases s with
    | zero => simp [ens]
    | succ s =>
      have := ih s
      simp only [ens, List.take_succ_cons, List.flatMap_cons] at this ⊢
      rw [this, List.take_append, enC_len, List.take_of_length_le (l := enC e) (by rw [enC_len]; omega), show (s + 1) * 7 - 7 = s * 7 by omega]
theorem ens_drop (l : List En) (s : Nat) : ens (l.drop s) = (ens l).drop (s * 7) := by
  induction l generalizing s with
  | nil => simp [ens]
  | cons e l ih =>
    cases s with
    | zero => simp [ens]
    | succ s =>
      have := ih s
      simp only [ens, List.drop_succ_cons, List.flatMap_cons] at this ⊢
      rw [this, List.drop_append, enC_len, List.drop_of_length_le (show (enC e).length ≤ (s + 1) * 7 by rw [enC_len]; omega), show (s + 1) * 7 - 7 = s * 7 by omega, List.nil_append]
theorem row_take {w : World} {a : Option Addr} {l : List En} (h : Row w a (ens l)) (s : Nat) : Row w a (ens (l.take s)) := by
  rw [ens_take]
  exact h.take _
def RunOk (N : Nat) (a0 : Option Addr) (l0 : List Pr) (out : Im) (n : Nat) (told : List Rp) (e : Ending) (w' : World) : Prop :=
  ∃ a' cap' ta tcap, e = .returned (.tuple #[.agg (imA out.idx (.slice a' out.st.length cap') out.tb), .slice ta n tcap, .bool true]) ∧ SlP w' a' cap' out.st ∧ OffB N a0 l0 a' out.st ∧ w'.ownsRow (N + 2) 43 3 (.slice ta n tcap) n (rps told)
theorem run_ok (m out : Im) (told : List Rp) (a : Option Addr) (cap n : Nat) (L : List En) (la : Option Addr) (lc : Nat) (w : World) (hs : SlP w a cap m.st) (hm : mayI m = true) (hr : Row w la (ens L)) (hL : L.length ≤ 1000) (hn : L.length = n) (ho : runP m L = some (out, told)) :
    Calls Try.prog 53 #[.agg (imA m.idx (.slice a m.st.length cap) m.tb), .slice la n lc] w fun e w' => RunOk w.heap.size a m.st out n told e w' ∧ Below w.heap.size w w' := by
  subst hn
  have hlen := (run_spec ho hm).2.2.1
  refine (run_any m a cap L la lc w hs hm hr hL).mono ?_
  rintro e w' ⟨h, hb⟩
  unfold RunRes at h
  rw [ho] at h
  obtain ⟨a', cap', ta, tcap, rfl, h1, h2, h3⟩ := h
  rw [hlen] at h3 ⊢
  exact ⟨⟨a', cap', ta, tcap, rfl, h1, h2, h3⟩, hb⟩
end Go.Proofs.Ytmnjmjbmnhppfaa

namespace Go.Proofs.Ytmnjmjbmnhppfaa
open Go.RowKit

theorem once_plain {m out : Im} {l : List En} {told : List Rp} {s : Nat} {e : En} (h : runP m l = some (out, told)) (hm : mayI m = true) (hs : l[s]? = some e) (hk : e.kind = 2) (hi : m.idx ≤ 1073741824) (hl : l.length ≤ 60) :
    ∃ c : Nat, c < 4 ∧ e.cli = (c : Int) ∧ ((e.seq = (out.tb.at c).seq ∧ told[s]? = some (out.tb.at c).rep ∧ applyP out (out.idx + 1) e = (⟨out.idx + 1, out.st, out.tb⟩, (out.tb.at c).rep, 0)) ∨
      (e.seq ≠ (out.tb.at c).seq ∧ applyP out (out.idx + 1) e = (⟨out.idx + 1, out.st, out.tb⟩, ⟨220, false, ⟨#[]⟩⟩, 0))) := by
  obtain ⟨h1, h2, h3, h4, _⟩ := run_spec h hm
  have hme := h4 e (List.mem_of_getElem? hs)
  have hk1 : e.kind ≠ 1 := by omega
  obtain ⟨_, hc0, hc4, _⟩ := mayE_parts hme hk1
  obtain ⟨c, hc⟩ : ∃ c : Nat, e.cli = c := ⟨e.cli.toNat, by omega⟩
  have hc4' : c < 4 := by omega
  obtain ⟨a1, a2⟩ := run_once h hm hs hk1 hc hc4'
  have ha := again_same h1 hme (by omega) hk1 hc a1
  refine ⟨c, hc4', hc, ?_⟩
  by_cases hq : e.seq = (out.tb.at c).seq
  · rw [if_pos hq] at ha
    exact .inl ⟨hq, a2 hq, ha⟩
  · rw [if_neg hq] at ha
    exact .inr ⟨hq, ha⟩
theorem imA_seq {w : World} {g : Nat} {i : Int} {s : Value} {t : Tb} {T : TypeId} (h : w.heap[g]? = some (.cells (imA i s t) T (0, 0))) {c : Nat} (hc : c < 4) : w.cell? ⟨g, 2 + c * 4, none⟩ = some (.int .i64 (t.at c).seq) := by
  rcases four_cases hc with rfl | rfl | rfl | rfl <;> exact blk_cell h _ _ rfl
theorem imA_rep (i : Int) (s : Value) (t : Tb) {c : Nat} (h : c < 4) : 2 + c * 4 + 1 + 3 ≤ (imA i s t).size ∧ (imA i s t).extract (2 + c * 4 + 1) (2 + c * 4 + 1 + 3) = #[.int .i64 (t.at c).rep.err, .bool (t.at c).rep.found, .string (t.at c).rep.val] := by
  rcases four_cases h with rfl | rfl | rfl | rfl <;> exact ⟨by show _ ≤ 18; omega, rfl⟩
theorem imA_rp (i : Int) (s : Value) {t : Tb} {c : Nat} (h : c < 4) {r : Rp} (hr : (t.at c).rep = r) : 2 + c * 4 + 1 + 3 ≤ (imA i s t).size ∧ (imA i s t).extract (2 + c * 4 + 1) (2 + c * 4 + 1 + 3) = #[.int .i64 r.err, .bool r.found, .string r.val] := by
  subst hr
  exact imA_rep i s t h
theorem once_n (x : Int) (L : Nat) (h1 : 1 ≤ L) (h2 : L ≤ 1000000) : ∃ s : Nat, s < L ∧ wrap64 ((IntKind.u64.wrap x).tmod L) = s := by
  have h0 := wrap_u64_nonneg x
  generalize IntKind.u64.wrap x = y at *
  have e1 : y.tmod L = y % L := Int.tmod_eq_emod_of_nonneg h0
  have e2 := Int.emod_nonneg y (show (L : Int) ≠ 0 by omega)
  have e3 := Int.emod_lt_of_pos y (show (0 : Int) < L by omega)
  rw [e1]
  generalize y % (L : Int) = z at *
  unfold wrap64
  exact ⟨z.toNat, by omega, by omega⟩

set_option maxRecDepth 100000 in
set_option maxHeartbeats 1000000 in
theorem once_law (m : Im) (a : Option Addr) (cap : Nat) (l : List En) (la : Option Addr) (lc : Nat) (which : Int) (w : World) (hs : SlP w a cap m.st) (he : SlE w la lc l) :
    Calls Try.prog 11 #[.agg (imA m.idx (.slice a m.st.length cap) m.tb), .slice la l.length lc, .int .i64 which] w fun en w' => en = .returned (.bool true) ∧ Below w.heap.size w w' := by
  have hb0 := blw w (Obj.cells (imA m.idx (.slice a m.st.length cap) m.tb) 49)
  have B3 := heap_alloc_new w (Obj.cells (imA m.idx (.slice a m.st.length cap) m.tb) 49)
  have hs0 := hs.below hb0
  have he0 := he.below hb0
  have hmx := he.max
  have hlc := he.le
  unfold maxLen at hmx
  go_enter Try.func11, Try.ntmps11
  refine wp_seq_k (fun K hK => ?_)
  have HK := Lib.hid hK
  clear hK
  go_wp2
  refine HK.out _ _ ?_
  clear HK
  change Code.wp _ _ _ _ (w.alloc (Obj.cells (imA m.idx (.slice a m.st.length cap) m.tb) 49))
  generalize w.alloc (Obj.cells (imA m.idx (.slice a m.st.length cap) m.tb) 49) = w0 at *
  refine wp_seq_k (fun K hK => ?_)
  have HK := Lib.hid hK
  clear hK
  go_wp2_with (go_at_call 51; refine (awake_any _).mono ?_; rintro en wa ⟨rfl, hba⟩)
  refine HK.out _ _ ?_
  clear HK
  have B3 := tr_bl hba B3
  have hs1 := hs0.below hba
  have he1 := he0.below hba
  have hb1 := step_b hb0 hba
  clear hs hs0 he he0 hb0 hba
  cases hg : greatI m
  case true =>
    have HG := Lib.hid hg
    clear hg
    go_wp2_with (first
      | ((with_reducible refine wpList_ldB 49 _ ?_); refine ⟨rfl, _, ⟨_, _, _, _, _, Try.isAgg49, Try.sizeOf49, rfl, ‹_›, imA_all _ _ _⟩, ?_⟩)
      | (go_at_call 23; refine (greatI_any _ _ _ _ hs1 _ HG.out).mono ?_; rintro en w1 ⟨rfl, hb2⟩; have B3 := tr_bl hb2 B3; have hs2 := hs1.below hb2; have he2 := he1.below hb2))
    go_ret
    exact ⟨rfl, step_b hb1 hb2⟩
  case false =>
    have HG := Lib.hid hg
    have hgs : greatB m.st = false := by
      unfold greatI at hg
      rw [Bool.or_eq_false_iff] at hg
      exact hg.2
    have hl40 := (great_no hgs).1
    clear hg hgs
    cases hgl : greatL l
    case true =>
      have HL := Lib.hid hgl
      clear hgl
      go_wp2_with (first
        | ((with_reducible refine wpList_ldB 49 _ ?_); refine ⟨rfl, _, ⟨_, _, _, _, _, Try.isAgg49, Try.sizeOf49, rfl, ‹_›, imA_all _ _ _⟩, ?_⟩)
        | (go_at_call 23; refine (greatI_any _ _ _ _ hs1 _ HG.out).mono ?_; rintro en w1 ⟨rfl, hb2⟩; have B3 := tr_bl hb2 B3; have hs2 := hs1.below hb2; have he2 := he1.below hb2) | (go_at_call 52; refine (greatL_any _ _ _ _ he2 _ HL.out).mono ?_; rintro en w2 ⟨rfl, hb3⟩; have B3 := tr_bl hb3 B3; have hs3 := hs2.below hb3; have he3 := he2.below hb3))
      go_ret
      exact ⟨rfl, step_b (step_b hb1 hb2) hb3⟩
    case false =>
      have HL := Lib.hid hgl
      have h60 := greatL_no hgl
      clear hgl
      by_cases h0 : l.length = 0
      · obtain rfl : l = [] := List.eq_nil_of_length_eq_zero h0
        clear h0
        go_wp2_with (first
          | ((with_reducible refine wpList_ldB 49 _ ?_); refine ⟨rfl, _, ⟨_, _, _, _, _, Try.isAgg49, Try.sizeOf49, rfl, ‹_›, imA_all _ _ _⟩, ?_⟩)
          | (go_at_call 23; refine (greatI_any _ _ _ _ hs1 _ HG.out).mono ?_; rintro en w1 ⟨rfl, hb2⟩; have B3 := tr_bl hb2 B3; have hs2 := hs1.below hb2; have he2 := he1.below hb2) | (go_at_call 52; refine (greatL_any _ _ _ _ he2 _ HL.out).mono ?_; rintro en w2 ⟨rfl, hb3⟩; have B3 := tr_bl hb3 B3; have hs3 := hs2.below hb3; have he3 := he2.below hb3))
        go_ret
        exact ⟨rfl, step_b (step_b hb1 hb2) hb3⟩
      have h0b : ((l.length : Int) == 0) = false := by simp; exact fun h => h0 (by rw [h]; rfl)
      cases hm : mayI m
      case false =>
        have HM := Lib.hid hm
        clear hm
        go_wp2_with (first
          | ((with_reducible refine wpList_ldB 49 _ ?_); refine ⟨rfl, _, ⟨_, _, _, _, _, Try.isAgg49, Try.sizeOf49, rfl, ‹_›, imA_all _ _ _⟩, ?_⟩)
          | (go_at_call 23; refine (greatI_any _ _ _ _ hs1 _ HG.out).mono ?_; rintro en w1 ⟨rfl, hb2⟩; have B3 := tr_bl hb2 B3; have hs2 := hs1.below hb2; have he2 := he1.below hb2) | (go_at_call 52; refine (greatL_any _ _ _ _ he2 _ HL.out).mono ?_; rintro en w2 ⟨rfl, hb3⟩; have B3 := tr_bl hb3 B3; have hs3 := hs2.below hb3; have he3 := he2.below hb3) | (go_at_call 49; refine (imay_any _ _ _ _ _ _ hs3.row (by omega) _ HM.out).mono ?_; rintro en w3 ⟨rfl, hb4⟩; have B3 := tr_bl hb4 B3; have hs4 := hs3.below hb4; have he4 := he3.below hb4; have q3 := imA_c0 B3))
        go_ret
        exact ⟨rfl, step_b (step_b (step_b hb1 hb2) hb3) hb4⟩
      case true =>
        have HM := Lib.hid hm
        obtain ⟨hi0, hi1⟩ := may_ix hm
        clear hm
        by_cases h30 : 1073741824 < m.idx
        · go_wp2_with (first
            | ((with_reducible refine wpList_ldB 49 _ ?_); refine ⟨rfl, _, ⟨_, _, _, _, _, Try.isAgg49, Try.sizeOf49, rfl, ‹_›, imA_all _ _ _⟩, ?_⟩)
            | (go_at_call 23; refine (greatI_any _ _ _ _ hs1 _ HG.out).mono ?_; rintro en w1 ⟨rfl, hb2⟩; have B3 := tr_bl hb2 B3; have hs2 := hs1.below hb2; have he2 := he1.below hb2) | (go_at_call 52; refine (greatL_any _ _ _ _ he2 _ HL.out).mono ?_; rintro en w2 ⟨rfl, hb3⟩; have B3 := tr_bl hb3 B3; have hs3 := hs2.below hb3; have he3 := he2.below hb3) | (go_at_call 49; refine (imay_any _ _ _ _ _ _ hs3.row (by omega) _ HM.out).mono ?_; rintro en w3 ⟨rfl, hb4⟩; have B3 := tr_bl hb4 B3; have hs4 := hs3.below hb4; have he4 := he3.below hb4; have q3 := imA_c0 B3))
          go_ret
          exact ⟨rfl, step_b (step_b (step_b hb1 hb2) hb3) hb4⟩
        refine wp_seq_k (fun K hK => ?_)
        have HK := Lib.hid hK
        clear hK
        go_wp2_with (first
                  | ((with_reducible refine wpList_ldB 49 _ ?_); refine ⟨rfl, _, ⟨_, _, _, _, _, Try.isAgg49, Try.sizeOf49, rfl, ‹_›, imA_all _ _ _⟩, ?_⟩)
                  | (go_at_call 23; refine (greatI_any _ _ _ _ hs1 _ HG.out).mono ?_; rintro en w1 ⟨rfl, hb2⟩; have B3 := tr_bl hb2 B3; have hs2 := hs1.below hb2; have he2 := he1.below hb2) | (go_at_call 52; refine (greatL_any _ _ _ _ he2 _ HL.out).mono ?_; rintro en w2 ⟨rfl, hb3⟩; have B3 := tr_bl hb3 B3; have hs3 := hs2.below hb3; have he3 := he2.below hb3) | (go_at_call 49; refine (imay_any _ _ _ _ _ _ hs3.row (by omega) _ HM.out).mono ?_; rintro en w3 ⟨rfl, hb4⟩; have B3 := tr_bl hb4 B3; have hs4 := hs3.below hb4; have he4 := he3.below hb4; have q3 := imA_c0 B3))
        refine HK.out _ _ ?_
        clear HK
        have hb4 := step_b (step_b (step_b hb1 hb2) hb3) hb4
        clear hb1 hs1 he1 hb2 hs2 he2 hb3 hs3 he3 HG HL q3
        cases hrun : runP m l
        case none =>
          have HRUN := Lib.hid hrun
          clear hrun
          go_wp2_with (first
            | ((with_reducible refine wpList_ldB 49 _ ?_); refine ⟨rfl, _, ⟨_, _, _, _, _, Try.isAgg49, Try.sizeOf49, rfl, ‹_›, imA_all _ _ _⟩, ?_⟩)
            | (go_at_call 53; refine (run_no m a cap l la lc _ hs4 HM.out he4.row (by omega) HRUN.out).mono ?_; rintro en w5 ⟨rfl, hb5⟩)
            | ((first | (with_reducible refine wpList_stNew 49 _ _ ?_) | (with_reducible refine wp_stNew 49 _ _ ?_)); refine ⟨_, _, ⟨Try.sizeOf49, rfl, imA_new _ _ _ _ _⟩, rfl, ?_⟩))
          go_ret
          exact ⟨rfl, step_b (step_b hb4 hb5) (blw _ _)⟩
        case some x =>
          obtain ⟨out, told⟩ := x
          have hsp := run_spec hrun HM.out
          have hmo := hsp.1
          obtain ⟨ho0, _⟩ := may_ix hmo
          have ho1 : out.idx ≤ 1073741884 := by have := hsp.2.1; omega
          have HTL := Lib.hid hsp.2.2.1
          have HMO := Lib.hid hmo
          have HRUN := Lib.hid hrun
          have ho8 := may_st hmo
          clear hsp hmo hrun
          refine wp_seq_k (fun K hK => ?_)
          have HK := Lib.hid hK
          clear hK
          go_wp2_with (first
                      | ((with_reducible refine wpList_ldB 49 _ ?_); refine ⟨rfl, _, ⟨_, _, _, _, _, Try.isAgg49, Try.sizeOf49, rfl, ‹_›, imA_all _ _ _⟩, ?_⟩)
                      | (go_at_call 53; refine (run_ok m out told a cap l.length l la lc _ hs4 HM.out he4.row (by omega) rfl HRUN.out).mono ?_; rintro en w5 ⟨⟨a7, c7, ta, tc, rfl, so, _, ro⟩, hb5⟩; have rt := row_own ro; clear ro)
                      | ((first | (with_reducible refine wpList_stNew 49 _ _ ?_) | (with_reducible refine wp_stNew 49 _ _ ?_)); refine ⟨_, _, ⟨Try.sizeOf49, rfl, imA_new _ _ _ _ _⟩, rfl, ?_⟩))
          refine HK.out _ _ ?_
          clear HK
          have hbn := hb5.trans ((blw w5 (Obj.cells (imA out.idx (.slice a7 out.st.length c7) out.tb) 49)).mono hb5.size)
          have B7 := heap_alloc_new w5 (Obj.cells (imA out.idx (.slice a7 out.st.length c7) out.tb) 49)
          have so := so.below (blw w5 (Obj.cells (imA out.idx (.slice a7 out.st.length c7) out.tb) 49))
          have rt := rt.below0 (blw w5 (Obj.cells (imA out.idx (.slice a7 out.st.length c7) out.tb) 49))
          have he5 := he4.below hbn
          have hb6 := step_b hb4 hbn
          generalize w5.alloc (Obj.cells (imA out.idx (.slice a7 out.st.length c7) out.tb) 49) = w6 at *
          obtain ⟨g7, hg7⟩ : ∃ g, w5.heap.size = g := ⟨_, rfl⟩
          simp only [hg7] at B7 ⊢
          clear hg7 hb5 hbn he4 hs4 B3 hb4
          refine wp_seq_k (fun K hK => ?_)
          have HK := Lib.hid hK
          clear hK
          go_wp2
          refine HK.out _ _ ?_
          clear HK
          obtain ⟨s, hsl, hse⟩ := once_n which l.length (by omega) (by omega)
          have HSE := Lib.hid hse
          clear hse
          refine wp_seq_k (fun K hK => ?_)
          have HK := Lib.hid hK
          clear hK
          go_wp2
          refine HK.out _ _ ?_
          clear HK
          simp only [HSE.out]
          obtain ⟨e, hes⟩ : ∃ e, l[s]? = some e := ⟨l[s], List.getElem?_eq_getElem hsl⟩
          obtain ⟨le, lo, rfl, hlb, hl0, hcs⟩ := he5.row.flat0 enC_len (by decide) hes
          have HES := Lib.hid hes
          clear hes
          refine wp_seq_k (fun K hK => ?_)
          have HK := Lib.hid hK
          clear hK
          go_wp2_with (first
                      | ((with_reducible refine wpList_ldC 80 _ ?_); refine ⟨rfl, _, ⟨_, _, _, Try.isAgg80, Try.sizeOf80, rfl, (show (enA e).size = 7 from rfl), en_cells hcs⟩, ?_⟩)
                      | ((first | (with_reducible refine wpList_stNew 80 _ _ ?_) | (with_reducible refine wp_stNew 80 _ _ ?_)); refine ⟨_, _, ⟨Try.sizeOf80, rfl, enA_new _⟩, rfl, ?_⟩))
          refine HK.out _ _ ?_
          clear HK
          have B10 := heap_alloc_new w6 (Obj.cells (enA e) 80)
          have B7 := tr_al (Obj.cells (enA e) 80) B7
          have so := so.below (blw w6 (Obj.cells (enA e) 80))
          have rt := rt.below0 (blw w6 (Obj.cells (enA e) 80))
          have hb7 := step_b hb6 (blw w6 (Obj.cells (enA e) 80))
          generalize w6.alloc (Obj.cells (enA e) 80) = w7 at *
          obtain ⟨g10, hg10⟩ : ∃ g, w6.heap.size = g := ⟨_, rfl⟩
          simp only [hg10] at B10 ⊢
          clear hg10 hcs hl0 hlb he5 hb6
          have c0 := (enA_c B10).1
          by_cases hk : e.kind = 2
          case neg =>
            have hkb : (e.kind != 2) = true := by simpa using hk
            go_wp2
            go_ret
            exact ⟨rfl, hb7⟩
          case pos =>
            obtain ⟨c, hc4, hcl, hcase⟩ := once_plain HRUN.out HM.out HES.out hk (by omega) (by omega)
            obtain ⟨r, hap, hr⟩ : ∃ r, applyP out (out.idx + 1) e = (⟨out.idx + 1, out.st, out.tb⟩, r, 0) ∧ ((e.seq = (out.tb.at c).seq ∧ told[s]? = some r ∧ (out.tb.at c).rep = r) ∨ (e.seq ≠ (out.tb.at c).seq ∧ r = oldR)) := by
              rcases hcase with ⟨a1, a2, a3⟩ | ⟨a1, a2⟩
              · exact ⟨_, a3, .inl ⟨a1, a2, rfl⟩⟩
              · exact ⟨_, a2, .inr ⟨a1, rfl⟩⟩
            rw [hk] at c0
            have HAP := Lib.hid hap
            have HR := Lib.hid hr
            have HCL := Lib.hid hcl
            clear hcase hap hr hk hcl
            refine wp_seq_k (fun K hK => ?_)
            have HK := Lib.hid hK
            clear hK
            go_wp2
            refine HK.out _ _ ?_
            clear HK
            clear c0
            have q7 := imA_c0 B7
            refine wp_seq_k (fun K hK => ?_)
            have HK := Lib.hid hK
            clear hK
            go_wp2_with (first
                          | ((with_reducible refine wpList_ldB 49 _ ?_); refine ⟨rfl, _, ⟨_, _, _, _, _, Try.isAgg49, Try.sizeOf49, rfl, ‹_›, imA_all _ _ _⟩, ?_⟩)
                          | ((with_reducible refine wpList_ldB 80 _ ?_); refine ⟨rfl, _, ⟨_, _, _, _, _, Try.isAgg80, Try.sizeOf80, rfl, ‹_›, enA_all _⟩, ?_⟩)
                          | (go_at_call 48; refine (apply_o out a7 c7 (out.idx + 1) e ⟨out.idx + 1, out.st, out.tb⟩ r 0 HAP.out _ so (by omega)).mono ?_; rintro en w9 ⟨⟨a3, c3, rfl, ho⟩, hb9⟩)
                          | ((with_reducible refine wpList_stB 49 _ _ ?_); refine ⟨_, _, _, ⟨_, _, _, Try.sizeOf49, rfl, tr_al _ (heap_alloc_new _ _), imA_over _ _ _ _ _ 0 (.slice none 0 0) zeroT⟩, ?_⟩; intro w10 D8 g10; have D9 := tr_st g10 (heap_alloc2_new w9 _ _) (by omega))
                          | ((with_reducible refine wpList_stB 43 _ _ ?_); refine ⟨_, _, _, ⟨_, _, _, Try.sizeOf43, rfl, D9, rpA_over _ zeroR⟩, ?_⟩; intro w11 H12 g11; have H11 := tr_st g11 D8 (by omega)))
            refine HK.out _ _ ?_
            clear HK
            have hbn := step_b hb9 (bl_two g10 g11)
            have s3 := (SlP.of_own1 ho).below (bl_two g10 g11)
            have B7 := tr_bl hbn B7
            have B10 := tr_bl hbn B10
            have so := so.below hbn
            have rt := rt.below0 hbn
            have hb11 := step_b hb7 hbn
            obtain ⟨gx, hgx⟩ : ∃ g, w9.heap.size = g := ⟨_, rfl⟩
            simp only [hgx] at H11 H12 ⊢
            clear hgx g10 g11 D8 D9 hb9 hbn ho q7 hb7
            have q7 := imA_c0 B7
            have q11 := imA_c0 H11
            have d7 := imA_c1 B7
            have d11 := imA_c1 H11
            have ht : tbEq out.tb out.tb = true := tbEq_iff.2 rfl
            refine wp_seq_k (fun K hK => ?_)
            have HK := Lib.hid hK
            clear hK
            go_wp2_with (first
                          | ((with_reducible refine wpList_ldB 47 _ ?_); refine ⟨rfl, _, ⟨_, _, _, _, _, Try.isAgg47, Try.sizeOf47, rfl, ‹_›, imA_tb _ _ _⟩, ?_⟩)
                          | (go_at_call 37; refine (psame_any a3 a7 c3 c7 out.st out.st _ s3.row so.row (by omega) (by omega) true (by simp)).mono ?_; rintro en wy ⟨rfl, q, rfl⟩))
            refine HK.out _ _ ?_
            clear HK
            have hbq : Below w11.heap.size w11 (w11.drewN q) := below_drewN (Below.refl _ _) q
            have B7 := tr_bl hbq B7
            have B10 := tr_bl hbq B10
            have H12 := tr_bl hbq H12
            have rt := rt.below0 hbq
            have hb12 := step_b hb11 hbq
            generalize w11.drewN q = w12 at *
            clear q7 q11 d7 d11 ht H11 so s3 hbq
            have hc0 : (0 : Int) ≤ c := by omega
            have hc1 : (c : Int) < 4 := by omega
            rcases HR.out with ⟨hq, htl, hrep⟩ | ⟨hq, hrr⟩
            case inl =>
              have HQ := Lib.hid hq
              have HTLS := Lib.hid htl
              have HREP := Lib.hid hrep
              clear hq htl hrep
              refine wp_seq_k (fun K hK => ?_)
              have HK := Lib.hid hK
              clear hK
              refine wp_seq_k (fun K hK => ?_)
              have HK2 := Lib.hid hK
              clear hK
              go_wp2_with fail
              refine wp_region_cls (C := fun w' => Below w12.heap.size w12 w') (by kernel_rfl) (by kernel_rfl) (Below.refl _ _).drew ?_
              refine wpQuiet_val (by rfl) ?_ ?_ ?_
              rotate_left
              · intro wS hSw
                go_simp
                (try with_reducible rfl)
              (try simp only [Act.put])
              (try simp only [List.setIfInBounds_toArray])
              (try simp only [List.set_cons_succ])
              (try simp only [List.set_cons_zero])
              refine wpQuiet_val (by rfl) ?_ ?_ ?_
              rotate_left
              · intro wS hSw
                have c := (enA_c (tr_bl hSw B10)).2.1; rw [HCL.out] at c
                go_simp
                (try with_reducible rfl)
              (try simp only [Act.put])
              (try simp only [List.setIfInBounds_toArray])
              (try simp only [List.set_cons_succ])
              (try simp only [List.set_cons_zero])
              refine wpQuiet_val (by rfl) ?_ ?_ ?_
              rotate_left
              · intro wS hSw
                go_simp
                (try with_reducible rfl)
              (try simp only [Act.put])
              (try simp only [List.setIfInBounds_toArray])
              (try simp only [List.set_cons_succ])
              (try simp only [List.set_cons_zero])
              refine wpQuiet_val (by rfl) ?_ ?_ ?_
              rotate_left
              · intro wS hSw
                go_simp
                (try with_reducible rfl)
              (try simp only [Act.put])
              (try simp only [List.setIfInBounds_toArray])
              (try simp only [List.set_cons_succ])
              (try simp only [List.set_cons_zero])
              refine wpQuiet_val (by rfl) ?_ ?_ ?_
              rotate_left
              · intro wS hSw
                go_simp
                (try with_reducible rfl)
              (try simp only [Act.put])
              (try simp only [List.setIfInBounds_toArray])
              (try simp only [List.set_cons_succ])
              (try simp only [List.set_cons_zero])
              refine wpQuiet_val (by rfl) ?_ ?_ ?_
              rotate_left
              · intro wS hSw
                have c := imA_seq (tr_bl hSw B7) hc4
                go_simp
                (try with_reducible rfl)
              (try simp only [Act.put])
              (try simp only [List.setIfInBounds_toArray])
              (try simp only [List.set_cons_succ])
              (try simp only [List.set_cons_zero])
              refine wpQuiet_val (by rfl) ?_ ?_ ?_
              rotate_left
              · intro wS hSw
                go_simp
                (try with_reducible rfl)
              (try simp only [Act.put])
              (try simp only [List.setIfInBounds_toArray])
              (try simp only [List.set_cons_succ])
              (try simp only [List.set_cons_zero])
              refine wpQuiet_val (by rfl) ?_ ?_ ?_
              rotate_left
              · intro wS hSw
                have c := (enA_c (tr_bl hSw B10)).2.2
                go_simp
                (try with_reducible rfl)
              (try simp only [Act.put])
              (try simp only [List.setIfInBounds_toArray])
              (try simp only [List.set_cons_succ])
              (try simp only [List.set_cons_zero])
              refine wpQuiet_val (by rfl) (.bool true) (fun wS hSw => ?_) ?_
              · go_simp; simp [HQ.out]
              (try simp only [Act.put])
              (try simp only [List.setIfInBounds_toArray])
              (try simp only [List.set_cons_succ])
              (try simp only [List.set_cons_zero])
              refine wpQuiet_nil ?_
              intro wE hE
              refine HK2.out _ _ ?_
              clear HK2
              have B7 := tr_bl hE B7
              have B10 := tr_bl hE B10
              have H12 := tr_bl hE H12
              have rt := rt.below0 hE
              have hbE := step_b hb12 hE
              clear hb12 hE
              obtain ⟨lt, lu, rfl, htb, ht0, hts⟩ := rt.flat0 rplC_len (by decide) HTLS.out
              have hslI : (s : Int) < l.length := by omega
              go_wp2_with fail
              refine wp_region_cls (C := fun w' => Below wE.heap.size wE w') (by kernel_rfl) (by kernel_rfl) (Below.refl _ _).drew ?_
              refine wpQuiet_val (by rfl) (.agg (#[.int .i64 r.err, .bool r.found, .string r.val])) (fun wS hSw => exec_ldB 43 _ ⟨_, _, _, _, _, Try.isAgg43, Try.sizeOf43, rfl, tr_bl hSw H12, rpA_lt3 _⟩) ?_
              (try simp only [Act.put])
              (try simp only [List.setIfInBounds_toArray])
              (try simp only [List.set_cons_succ])
              (try simp only [List.set_cons_zero])
              refine wpQuiet_val (by rfl) ?_ ?_ ?_
              rotate_left
              · intro wS hSw
                go_simp
                (try with_reducible rfl)
              (try simp only [Act.put])
              (try simp only [List.setIfInBounds_toArray])
              (try simp only [List.set_cons_succ])
              (try simp only [List.set_cons_zero])
              refine wpQuiet_val (by rfl) ?_ ?_ ?_
              rotate_left
              · intro wS hSw
                go_simp
                (try with_reducible rfl)
              (try simp only [Act.put])
              (try simp only [List.setIfInBounds_toArray])
              (try simp only [List.set_cons_succ])
              (try simp only [List.set_cons_zero])
              refine wpQuiet_val (by rfl) ?_ ?_ ?_
              rotate_left
              · intro wS hSw
                go_simp
                (try with_reducible rfl)
              (try simp only [Act.put])
              (try simp only [List.setIfInBounds_toArray])
              (try simp only [List.set_cons_succ])
              (try simp only [List.set_cons_zero])
              refine wpQuiet_val (by rfl) (.agg #[.int .i64 r.err, .bool r.found, .string r.val]) (fun wS hSw => ?_) ?_
              · exact exec_ldC 43 _ ⟨_, _, _, Try.isAgg43, Try.sizeOf43, rfl, rfl, fun j u hu => (hSw.cell htb).trans (hts j u (by rw [rplC, Array.getElem?_toList]; exact hu))⟩
              (try simp only [Act.put])
              (try simp only [List.setIfInBounds_toArray])
              (try simp only [List.set_cons_succ])
              (try simp only [List.set_cons_zero])
              refine wpQuiet_val (by rfl) (.bool true) (fun wS hSw => ?_) ?_
              · go_simp
              (try simp only [Act.put])
              (try simp only [List.setIfInBounds_toArray])
              (try simp only [List.set_cons_succ])
              (try simp only [List.set_cons_zero])
              refine wpQuiet_val (by rfl) ?_ ?_ ?_
              rotate_left
              · intro wS hSw
                go_simp
                (try with_reducible rfl)
              (try simp only [Act.put])
              (try simp only [List.setIfInBounds_toArray])
              (try simp only [List.set_cons_succ])
              (try simp only [List.set_cons_zero])
              refine wpQuiet_val (by rfl) (.agg (#[.int .i64 r.err, .bool r.found, .string r.val])) (fun wS hSw => exec_ldB 43 _ ⟨_, _, _, _, _, Try.isAgg43, Try.sizeOf43, rfl, tr_bl hSw H12, rpA_lt3 _⟩) ?_
              (try simp only [Act.put])
              (try simp only [List.setIfInBounds_toArray])
              (try simp only [List.set_cons_succ])
              (try simp only [List.set_cons_zero])
              refine wpQuiet_val (by rfl) ?_ ?_ ?_
              rotate_left
              · intro wS hSw
                go_simp
                (try with_reducible rfl)
              (try simp only [Act.put])
              (try simp only [List.setIfInBounds_toArray])
              (try simp only [List.set_cons_succ])
              (try simp only [List.set_cons_zero])
              refine wpQuiet_val (by rfl) ?_ ?_ ?_
              rotate_left
              · intro wS hSw
                have c := (enA_c (tr_bl hSw B10)).2.1; rw [HCL.out] at c
                go_simp
                (try with_reducible rfl)
              (try simp only [Act.put])
              (try simp only [List.setIfInBounds_toArray])
              (try simp only [List.set_cons_succ])
              (try simp only [List.set_cons_zero])
              refine wpQuiet_val (by rfl) ?_ ?_ ?_
              rotate_left
              · intro wS hSw
                go_simp
                (try with_reducible rfl)
              (try simp only [Act.put])
              (try simp only [List.setIfInBounds_toArray])
              (try simp only [List.set_cons_succ])
              (try simp only [List.set_cons_zero])
              refine wpQuiet_val (by rfl) ?_ ?_ ?_
              rotate_left
              · intro wS hSw
                go_simp
                (try with_reducible rfl)
              (try simp only [Act.put])
              (try simp only [List.setIfInBounds_toArray])
              (try simp only [List.set_cons_succ])
              (try simp only [List.set_cons_zero])
              refine wpQuiet_val (by rfl) ?_ ?_ ?_
              rotate_left
              · intro wS hSw
                go_simp
                (try with_reducible rfl)
              (try simp only [Act.put])
              (try simp only [List.setIfInBounds_toArray])
              (try simp only [List.set_cons_succ])
              (try simp only [List.set_cons_zero])
              refine wpQuiet_val (by rfl) (.agg (#[.int .i64 r.err, .bool r.found, .string r.val])) (fun wS hSw => exec_ldB 43 _ ⟨_, _, _, _, _, Try.isAgg43, Try.sizeOf43, rfl, tr_bl hSw B7, imA_rp _ _ hc4 HREP.out⟩) ?_
              (try simp only [Act.put])
              (try simp only [List.setIfInBounds_toArray])
              (try simp only [List.set_cons_succ])
              (try simp only [List.set_cons_zero])
              refine wpQuiet_val (by rfl) (.bool true) (fun wS hSw => ?_) ?_
              · go_simp
              (try simp only [Act.put])
              (try simp only [List.setIfInBounds_toArray])
              (try simp only [List.set_cons_succ])
              (try simp only [List.set_cons_zero])
              refine wpQuiet_val (by rfl) ?_ ?_ ?_
              rotate_left
              · intro wS hSw
                go_simp
                (try with_reducible rfl)
              (try simp only [Act.put])
              (try simp only [List.setIfInBounds_toArray])
              (try simp only [List.set_cons_succ])
              (try simp only [List.set_cons_zero])
              refine wpQuiet_val (by rfl) ?_ ?_ ?_
              rotate_left
              · intro wS hSw
                go_simp
                (try with_reducible rfl)
              (try simp only [Act.put])
              (try simp only [List.setIfInBounds_toArray])
              (try simp only [List.set_cons_succ])
              (try simp only [List.set_cons_zero])
              refine wpQuiet_nil ?_
              intro wF hF
              go_wp2
              go_ret
              exact ⟨rfl, step_b hbE hF⟩
            case inr =>
              subst hrr
              have HQ := Lib.hid (Ne.symm hq)
              clear hq
              refine wp_seq_k (fun K hK => ?_)
              have HK := Lib.hid hK
              clear hK
              refine wp_seq_k (fun K hK => ?_)
              have HK2 := Lib.hid hK
              clear hK
              go_wp2_with fail
              refine wp_region_cls (C := fun w' => Below w12.heap.size w12 w') (by kernel_rfl) (by kernel_rfl) (Below.refl _ _).drew ?_
              refine wpQuiet_val (by rfl) ?_ ?_ ?_
              rotate_left
              · intro wS hSw
                go_simp
                (try with_reducible rfl)
              (try simp only [Act.put])
              (try simp only [List.setIfInBounds_toArray])
              (try simp only [List.set_cons_succ])
              (try simp only [List.set_cons_zero])
              refine wpQuiet_val (by rfl) ?_ ?_ ?_
              rotate_left
              · intro wS hSw
                have c := (enA_c (tr_bl hSw B10)).2.1; rw [HCL.out] at c
                go_simp
                (try with_reducible rfl)
              (try simp only [Act.put])
              (try simp only [List.setIfInBounds_toArray])
              (try simp only [List.set_cons_succ])
              (try simp only [List.set_cons_zero])
              refine wpQuiet_val (by rfl) ?_ ?_ ?_
              rotate_left
              · intro wS hSw
                go_simp
                (try with_reducible rfl)
              (try simp only [Act.put])
              (try simp only [List.setIfInBounds_toArray])
              (try simp only [List.set_cons_succ])
              (try simp only [List.set_cons_zero])
              refine wpQuiet_val (by rfl) ?_ ?_ ?_
              rotate_left
              · intro wS hSw
                go_simp
                (try with_reducible rfl)
              (try simp only [Act.put])
              (try simp only [List.setIfInBounds_toArray])
              (try simp only [List.set_cons_succ])
              (try simp only [List.set_cons_zero])
              refine wpQuiet_val (by rfl) ?_ ?_ ?_
              rotate_left
              · intro wS hSw
                go_simp
                (try with_reducible rfl)
              (try simp only [Act.put])
              (try simp only [List.setIfInBounds_toArray])
              (try simp only [List.set_cons_succ])
              (try simp only [List.set_cons_zero])
              refine wpQuiet_val (by rfl) ?_ ?_ ?_
              rotate_left
              · intro wS hSw
                have c := imA_seq (tr_bl hSw B7) hc4
                go_simp
                (try with_reducible rfl)
              (try simp only [Act.put])
              (try simp only [List.setIfInBounds_toArray])
              (try simp only [List.set_cons_succ])
              (try simp only [List.set_cons_zero])
              refine wpQuiet_val (by rfl) ?_ ?_ ?_
              rotate_left
              · intro wS hSw
                go_simp
                (try with_reducible rfl)
              (try simp only [Act.put])
              (try simp only [List.setIfInBounds_toArray])
              (try simp only [List.set_cons_succ])
              (try simp only [List.set_cons_zero])
              refine wpQuiet_val (by rfl) ?_ ?_ ?_
              rotate_left
              · intro wS hSw
                have c := (enA_c (tr_bl hSw B10)).2.2
                go_simp
                (try with_reducible rfl)
              (try simp only [Act.put])
              (try simp only [List.setIfInBounds_toArray])
              (try simp only [List.set_cons_succ])
              (try simp only [List.set_cons_zero])
              refine wpQuiet_val (by rfl) (.bool false) (fun wS hSw => ?_) ?_
              · go_simp; simp [HQ.out]
              (try simp only [Act.put])
              (try simp only [List.setIfInBounds_toArray])
              (try simp only [List.set_cons_succ])
              (try simp only [List.set_cons_zero])
              refine wpQuiet_nil ?_
              intro wE hE
              refine HK2.out _ _ ?_
              clear HK2
              have H12 := tr_bl hE H12
              have hbE := step_b hb12 hE
              clear hb12 hE B7 B10 rt
              go_wp2
              refine HK.out _ _ ?_
              clear HK
              go_wp2_with ((with_reducible refine wpList_ldB 43 _ ?_); refine ⟨rfl, _, ⟨_, _, _, _, _, Try.isAgg43, Try.sizeOf43, rfl, ‹_›, rpA_o⟩, ?_⟩)
              go_ret
              exact ⟨rfl, hbE⟩
end Go.Proofs.Ytmnjmjbmnhppfaa

namespace Go.Proofs.Ytmnjmjbmnhppfaa
open Go.ChangeShapes Go.WideShapes Go.ChangeAt Go.RowKit

set_option maxRecDepth 100000 in
theorem entry_of {H : Type} {enc : TypeId × Value → H} {W : World} {sp : Nat → Bool} {hd : Bool} {b0 fuel : Nat} {cs : List Value} {x : DataW H × List MemPlace}
    (h : DataW.trod enc Try.prog W b0 sp hd fuel 80 cs = some x) : ∃ e : En, cs = enC e := by
  obtain ⟨y0, y1, y2, y3, n, hl, h0, h1, h2, h3⟩ := trod_str4 Try.underlying80 h
  rw [cEntry] at hl
  obtain ⟨a0, a1, a2, a3, a4, a5, a6, rfl⟩ := list7 hl
  obtain ⟨u0, u1, u2, u3, k, _, e0, e1, e2, e3⟩ := trod_str4 Try.underlying61 h3
  simp [cOpn, cInt, cU8, cellsString] at h0 h1 h2 e0 e1 e2 e3
  obtain ⟨kd, q0, _⟩ := DataW.trod_int Try.underlying5 h0
  obtain ⟨cl, q1, _⟩ := DataW.trod_int Try.underlying3 h1
  obtain ⟨sq, q2, _⟩ := DataW.trod_int Try.underlying3 h2
  obtain ⟨ok, q3, _⟩ := DataW.trod_int Try.underlying5 e0
  obtain ⟨s1, q4, _⟩ := DataW.trod_string Try.underlying9 e1
  obtain ⟨s2, q5, _⟩ := DataW.trod_string Try.underlying9 e2
  obtain ⟨s3, q6, _⟩ := DataW.trod_string Try.underlying9 e3
  simp at q0 q1 q2 q3 q4 q5 q6
  subst q0 q1 q2 q3 q4 q5 q6
  exact ⟨⟨kd, cl, sq, ⟨ok, s1, s2, s3⟩⟩, rfl⟩

theorem flat_range {α : Type} {fc : α → List Value} {n : Nat} (hn : 0 < n) (hlen : ∀ x, (fc x).length = n) (f : Nat → α) (len i : Nat) (u : Value) (h : (((List.range len).map f).flatMap fc)[i]? = some u) : ∃ j r, j < len ∧ r < n ∧ i = j * n + r ∧ (fc (f j))[r]? = some u := by
  have hi := (List.getElem?_eq_some_iff.1 h).1
  rw [flat_len hlen, List.length_map, List.length_range] at hi
  have hj : i / n < len := Nat.div_lt_of_lt_mul hi
  have hget : ((List.range len).map f)[i / n]? = some (f (i / n)) := by simp [hj]
  have hr : i % n < n := Nat.mod_lt _ hn
  obtain ⟨v, hv⟩ : ∃ v, (fc (f (i / n)))[i % n]? = some v := ⟨_, List.getElem?_eq_getElem (by rw [hlen]; exact hr)⟩
  have e : i / n * n + i % n = i := by rw [Nat.mul_comm]; exact Nat.div_add_mod i n
  have := flat_at hlen hget (i % n) v hv
  rw [e, h] at this
  refine ⟨i / n, i % n, hj, hr, e.symm, ?_⟩
  rw [hv, ← this]

set_option maxRecDepth 100000 in
theorem open_entries {H : Type} {enc : TypeId × Value → H} {W : World} {base : Nat} {sp : Nat → Bool} {hd : Bool} {b0 : Nat} {v : Value} {d : DataW H} {p : List MemPlace}
    (hv : Value.okWide Try.prog W .any base 88 v) (h : DataW.Trod enc Try.prog W b0 sp hd 88 v d p) : ∃ (a : Option Addr) (l : List En) (cap : Nat), v = .slice a l.length cap ∧ SlE W a cap l := by
  obtain ⟨a0, len, cap, rfl⟩ := okWide_slice Try.underlying88 hv
  obtain ⟨fuel, hf⟩ := h
  rcases Go.Deep.open_slice Try.underlying88 hf with ⟨hcs, hx⟩ | ⟨a, len', cap', m, n, D, Pl, hcs, _, hl, hm, hmm, hx, hel⟩
  · simp [Value.cells] at hcs
    obtain ⟨rfl, rfl, rfl⟩ := hcs
    exact ⟨none, [], 0, rfl, .inl rfl, Nat.le_refl _, by simp [maxLen], fun _ => rfl⟩
  · simp [Value.cells] at hcs
    obtain ⟨rfl, rfl, rfl⟩ := hcs
    have hlm : len ≤ m := by rw [hmm]; split <;> omega
    have hstr : ∀ i, i < len → ∃ c : En, ∀ r u, (enC c)[r]? = some u → W.cell? (a.add (i * 7 + r)) = some u := by
      intro i hi
      obtain ⟨cs', hc, ht⟩ := hel i (by omega)
      rw [cEntry] at hc
      obtain ⟨_, hlen2, hat⟩ := World.cells?_some hc
      obtain ⟨c, rfl⟩ := entry_of ht
      refine ⟨c, fun r u hr => ?_⟩
      have hlt := (List.getElem?_eq_some_iff.1 hr).1
      have := hat r (by simpa [enC_len] using hlt)
      rw [Go.Deep.add_add] at this
      rw [this, ← hr, List.getElem?_eq_getElem hlt]
    have : Inhabited En := ⟨⟨0, 0, 0, ⟨0, ⟨#[]⟩, ⟨#[]⟩, ⟨#[]⟩⟩⟩⟩
    obtain ⟨f, hf2⟩ := Go.Deep.choose_lt hstr
    refine ⟨some a, (List.range len).map f, cap, by simp, ?_, by simpa using hl, hm, fun e => by cases e⟩
    by_cases h0 : len = 0
    · left
      subst h0
      rfl
    · right
      obtain ⟨b, off, spot⟩ := a
      have hspot : spot = none := by
        have := World.cell?_spot (hf2 0 (by omega) 0 _ rfl)
        simpa [Addr.add] using this
      subst hspot
      refine ⟨b, off, rfl, fun i u hu => ?_⟩
      obtain ⟨j, r, hj, _, rfl, hr⟩ := flat_range (by decide) enC_len f len i u hu
      have := hf2 j hj r u hr
      rw [addr_add] at this
      exact this
end Go.Proofs.Ytmnjmjbmnhppfaa

