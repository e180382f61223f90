/- Texts that the claim leans on, part 3: Blk, Qui, Blk2, Gb, OX, Y2, K6, K7. -/
import Derived.Test.YtbdonjenekhmdaaGreatDoorZ1
import Derived.Test.YtbdonjenekhmdaaGreatDoorZ2
import Derived.Laws.Rows
import Derived.Deep.Quiet
import Derived.Deep.RegionHeld3
import Derived.Lib.AppendStr
import Derived.Laws.IdiomStrings
import Derived.Laws.BytesArg
import Derived.Laws.ResultCell
namespace Go.Proofs.YtbdonjenekhmdaaGreatDoor
open Go.RowKit Go.Proofs.Tryz
set_option maxRecDepth 100000
set_option maxHeartbeats 32000000
section
variable {P:Program}
theorem run_loadVar_part (w:World) (g off n:Nat) (T ty:TypeId) (cs:Array Value) (ha:(isAgg ty).run P w=.ok true w) (hs:(sizeOf ty).run P w=.ok n w) (hg:w.heap[g]?=some (.cells cs T (0,0))) (hn:off+n≤cs.size) :
  (loadVar ty ⟨g,off,none⟩).run P w=.ok (.agg (cs.extract off (off+n))) w:=by
 have hlen:(cs.extract off (off+n)).toList.length=n:=by simp;omega
 have hl:=run_loadCells_list (P:=P) (w:=w) ⟨g,off,none⟩ (cs.extract off (off+n)).toList (fun j v hv=>by
  have hj:=(List.getElem?_eq_some_iff.1 hv).1
  rw [hlen] at hj
  rw [addr_add,cell_of_row w g (off+j) cs T (0,0) hg]
  have h2:(cs.extract off (off+n))[j]?=some v:=by rw [← Array.getElem?_toList];exact hv
  rw [Array.getElem?_extract] at h2
  split at h2
  ·exact h2
  ·cases h2)
 rw [hlen] at hl
 simp only [Array.toArray_toList] at hl
 simp only [loadVar,Sem.run_bind,ha,hs,hl,Result.andThen_ok,if_true,Sem.run_pure]
theorem arr_all {cs:Array Value} {n:Nat} (h:cs.size=n):0+n≤cs.size∧cs.extract 0 (0+n)=cs:=⟨by omega,by subst h;simp⟩
def LdAt (P:Program) (a:Act) (w:World) (ty:TypeId) (x:Operand) (v:Array Value):Prop:=
 ∃ (g off n:Nat) (cs:Array Value) (T:TypeId),(∀ w,(isAgg ty).run P w=.ok true w)∧(∀ w,(sizeOf ty).run P w=.ok n w)∧a.eval x=.pointer (some ⟨g,off,none⟩)∧w.heap[g]?=some (.cells cs T (0,0))∧(off+n≤cs.size∧cs.extract off (off+n)=v)
theorem wp_ldB {a:Act} {w:World} {K:Act→World→Prop} {Q:Exit→Act→World→Prop} {dst:Option Tmp} {ty':TypeId} {pos:String} {af:Array Edge} {gd:Option (Nat×Bool)} (ty:TypeId) (x:Operand) (hl:∃ v,LdAt P a w ty x v∧K (a.put dst (.agg v)) w):(Oper.mk dst (.load ty x) ty' pos af gd).wp P a w K Q:=by
 obtain ⟨v,⟨g,off,n,cs,T,ha,hs,hx,hg,hn,rfl⟩,h⟩:=hl
 unfold Oper.wp execOp
 simp only [hx,Instr.loadAt,Instr.sureAddr,Sem.run_bind,Sem.run_pure,Result.andThen_ok,run_loadVar_part w g off n T ty cs (ha w) (hs w) hg hn]
 exact h
theorem wpList_ldB {ops:Array Oper} {rest:List Oper} {a:Act} {w:World} {Q:Exit→Act→World→Prop} {dst:Option Tmp} {ty':TypeId} {pos:String} {af:Array Edge} {gd:Option (Nat×Bool)} (ty:TypeId) (x:Operand)
  (hl:Region.wanted (Oper.mk dst (.load ty x) ty' pos af gd) (yielded ops a.tmps)=true∧∃ v,LdAt P a w ty x v∧wpList P ops Q rest (a.put dst (.agg v)) w):wpList P ops Q (Oper.mk dst (.load ty x) ty' pos af gd :: rest) a w:=
 BigFrame.wpList_want hl.1 fun _ hK=>wp_ldB ty x (hl.2.imp fun _ h=>⟨h.1,hK _ _ h.2⟩)
theorem exec_ldB {a:Act} {w:World} {dst:Option Tmp} {ty':TypeId} {pos:String} {af:Array Edge} {gd:Option (Nat×Bool)} (ty:TypeId) (x:Operand) {v:Array Value} (hl:LdAt P a w ty x v):(execOp a.eval (Oper.mk dst (.load ty x) ty' pos af gd)).run P w=.ok (.value (.agg v)) w:=by
 obtain ⟨g,off,n,cs,T,ha,hs,hx,hg,hn,rfl⟩:=hl
 unfold execOp
 simp only [hx,Instr.loadAt,Instr.sureAddr,Sem.run_bind,Sem.run_pure,Result.andThen_ok,run_loadVar_part w g off n T ty cs (ha w) (hs w) hg hn]
theorem run_storeVar_part (w:World) (g off n:Nat) (T ty:TypeId) (cs:Array Value) (v:Value) (hs:(sizeOf ty).run P w=.ok n w) (hv:v.cells.size=n) (h1:∀ u ∈ v.cells.toList,u.oneCell'=true) (hg:w.heap[g]?=some (.cells cs T (0,0))) (hn:off+n≤cs.size) :
  (storeVar ty ⟨g,off,none⟩ v).run P w=.ok () (w.setRow g (cs.toList.take off++v.cells.toList++cs.toList.drop (off+n)).toArray):=by
 have hst:=run_storeCells_at P g off T v.cells.toList 0 cs w hg (by simpa [hv] using hn) h1
 simp only [Nat.add_zero,Array.length_toList,hv] at hst
 simp [storeVar,Sem.run_bind,hs,hv,hst]
def StAt (P:Program) (a:Act) (w:World) (ty:TypeId) (x y:Operand) (g:Nat) (T:TypeId) (cs':Array Value):Prop:=
 ∃ (off n:Nat) (cs:Array Value),(∀ w,(sizeOf ty).run P w=.ok n w)∧a.eval x=.pointer (some ⟨g,off,none⟩)∧w.heap[g]?=some (.cells cs T (0,0)) ∧
  (off+n≤cs.size∧(a.eval y).cells.size=n∧(∀ u ∈ (a.eval y).cells.toList,u.oneCell'=true)∧(cs.toList.take off++(a.eval y).cells.toList++cs.toList.drop (off+n)).toArray=cs')
theorem setRow_grown (w:World) (g:Nat) (cs:Array Value):w.grownBy (w.setRow g cs) (some g):=grownBy_setRow w g cs
theorem wp_stB {a:Act} {w:World} {K:Act→World→Prop} {Q:Exit→Act→World→Prop} {ty':TypeId} {pos:String} {af:Array Edge} {gd:Option (Nat×Bool)} (ty:TypeId) (x y:Operand) (hl:∃ (g:Nat) (T:TypeId) (cs':Array Value),StAt P a w ty x y g T cs'∧∀ w',w'.heap[g]?=some (.cells cs' T (0,0))→w.grownBy w' (some g)→K a w'):(Oper.mk none (.store ty x y) ty' pos af gd).wp P a w K Q:=by
 obtain ⟨g,T,cs',⟨off,n,cs,hs,hx,hg,hn,hv,h1,hc⟩,h⟩:=hl
 unfold Oper.wp execOp
 simp only [hx,Instr.storeAt,Instr.sureAddr,Sem.run_bind,Sem.run_pure,Result.andThen_ok,run_storeVar_part w g off n T ty cs _ (hs w) hv h1 hg hn,hc]
 exact h _ (setRow_heap w g _ _ T _ hg) (setRow_grown w g _)
theorem wpList_stB {ops:Array Oper} {rest:List Oper} {a:Act} {w:World} {Q:Exit→Act→World→Prop} {ty':TypeId} {pos:String} {af:Array Edge} (ty:TypeId) (x y:Operand) (hl:∃ (g:Nat) (T:TypeId) (cs':Array Value),StAt P a w ty x y g T cs'∧∀ w',w'.heap[g]?=some (.cells cs' T (0,0))→w.grownBy w' (some g)→wpList P ops Q rest a w'):wpList P ops Q (Oper.mk none (.store ty x y) ty' pos af none :: rest) a w:=by
 obtain ⟨g,T,cs',hs,h⟩:=hl
 exact wpList_plain rfl fun _ hK=>wp_stB ty x y ⟨g,T,cs',hs,fun w' h1 h2=>hK _ _ (h w' h1 h2)⟩
def StNew (P:Program) (a:Act) (w:World) (ty:TypeId) (x y:Operand) (n:Nat) (cs':Array Value):Prop:=
 (∀ w,(sizeOf ty).run P w=.ok n w)∧a.eval x=.pointer (some ⟨w.heap.size,0,none⟩)∧(a.eval y).cells=cs'∧cs'.size=n∧(∀ u ∈ cs'.toList,u.oneCell'=true)
theorem setRow_alloc (w:World) (cs cs':Array Value) (T:TypeId):(w.alloc (.cells cs T)).setRow w.heap.size cs'=w.alloc (.cells cs' T):=by
 unfold World.setRow World.alloc
 congr 1
 apply Array.ext
 ·simp
 ·intro i h1 h2
  rw [Array.getElem_modify]
  simp only [Array.getElem_push]
  by_cases hi:w.heap.size=i
  ·subst hi;simp
  ·have:i < w.heap.size:=by simp at h2;omega
   simp [hi,this]
theorem wp_stNew {a:Act} {w:World} {K:Act→World→Prop} {Q:Exit→Act→World→Prop} {ty':TypeId} {pos:String} {af:Array Edge} {gd:Option (Nat×Bool)} (ty:TypeId) (x y:Operand) {cs:Array Value} {T:TypeId} (hl:∃ (n:Nat) (cs':Array Value),StNew P a w ty x y n cs'∧cs.size=n∧K a (w.alloc (.cells cs' T))):(Oper.mk none (.store ty x y) ty' pos af gd).wp P a (w.alloc (.cells cs T)) K Q:=by
 obtain ⟨n,cs',⟨hs,hx,hv,hc,h1⟩,hsz,h⟩:=hl
 have hst:=run_storeVar_part (P:=P) (w.alloc (.cells cs T)) w.heap.size 0 n T ty cs (a.eval y) (hs _) (by rw [hv];exact hc) (by rw [hv];exact h1) (heap_alloc_new w _) (by omega)
 rw [hv] at hst
 have e:(cs.toList.take 0++cs'.toList++cs.toList.drop (0+n)).toArray=cs':=by
  rw [List.drop_of_length_le (by simp;omega)]
  simp
 rw [e,setRow_alloc] at hst
 unfold Oper.wp execOp
 simp only [hx,Instr.storeAt,Instr.sureAddr,Sem.run_bind,Sem.run_pure,Result.andThen_ok,hst]
 exact h
theorem wpList_stNew {ops:Array Oper} {rest:List Oper} {a:Act} {w:World} {Q:Exit→Act→World→Prop} {ty':TypeId} {pos:String} {af:Array Edge} (ty:TypeId) (x y:Operand) {cs:Array Value} {T:TypeId} (hl:∃ (n:Nat) (cs':Array Value),StNew P a w ty x y n cs'∧cs.size=n∧wpList P ops Q rest a (w.alloc (.cells cs' T))):wpList P ops Q (Oper.mk none (.store ty x y) ty' pos af none :: rest) a (w.alloc (.cells cs T)):=by
 obtain ⟨n,cs',hs,hsz,h⟩:=hl
 exact wpList_plain rfl fun _ hK=>wp_stNew ty x y ⟨n,cs',hs,hsz,hK _ _ h⟩
/-! Facts on blocks,carried on. -/
theorem tr_gb {w w':World} {r:Option Nat} {j:Nat} {o:Obj} (hg:w.grownBy w' r) (h:w.heap[j]?=some o) (hne:r≠some j):w'.heap[j]?=some o:=(hg.block j (Array.getElem?_eq_some_iff.1 h).1 (fun e=>hne e.symm)).trans h
theorem tr_st {w w':World} {g j:Nat} {o:Obj} (hg:w.grownBy w' (some g)) (h:w.heap[j]?=some o) (hne:g≠j):w'.heap[j]?=some o:=tr_gb hg h (fun e=>hne (Option.some.inj e))
theorem tr_bl {w w':World} {j:Nat} {o:Obj} (hb:Below w.heap.size w w') (h:w.heap[j]?=some o):w'.heap[j]?=some o:=(hb.block j (Array.getElem?_eq_some_iff.1 h).1).trans h
theorem tr_al {w:World} {j:Nat} {o:Obj} (o':Obj) (h:w.heap[j]?=some o):(w.alloc o').heap[j]?=some o:=tr_bl (blw w o') h
theorem lt_blk {w:World} {j:Nat} {o:Obj} (h:w.heap[j]?=some o):j < w.heap.size:=(Array.getElem?_eq_some_iff.1 h).1
theorem owns_ne {w w':World} {base n size g:Nat} {e T:TypeId} {v:Value} {xs:List Value} {cs:Array Value} (h:w.ownsRow base e size v n xs) (hg:w.grownBy w' (some g)) (hc:w.heap[g]?=some (.cells cs T (0,0))) (hne:e≠T):w'.ownsRow base e size v n xs:=by
 obtain ⟨hl,h | ⟨k,cap,cur,hv,hk,hc2,r⟩⟩:=h
 ·exact ⟨hl,.inl h⟩
 ·refine ⟨hl,.inr ⟨k,cap,cur,hv,hk,tr_st hg hc2 ?_,r⟩⟩
  rintro rfl
  rw [hc] at hc2
  injection hc2 with hc2
  injection hc2 with _ ht
  exact hne ht.symm
theorem owns_bl {w w':World} {base n size:Nat} {e:TypeId} {v:Value} {xs:List Value} (h:w.ownsRow base e size v n xs) (hb:Below w.heap.size w w'):w'.ownsRow base e size v n xs:=owns_after h hb
theorem bl_st {B:Nat} {w w' w'':World} {g:Nat} (hb:Below B w w') (hg:w'.grownBy w'' (some g)) (hB:B≤w'.heap.size) (h:B≤g):Below B w w'':=hb.grown hg hB (fun k e=>by cases e;exact h)
/-! Results that lie in blocks. -/
theorem results_c1 {fn:Func} {p t:Nat} {tmps:Array Value} {w:World} {A:Addr} {v:Value} (hf:fn.results=#[.cell p t]) (hp:tmps.getD p undef=.pointer (some A)) (hl:(loadVar t A).run P w=.ok v w):(results fn tmps).run P w=.ok v w:=by
 have hp':tmps[p]?.getD undef=.pointer (some A):=by simpa using hp
 simp [results,hf,hp',asAddr,hl]
theorem results_c1t1 {fn:Func} {p t q:Nat} {tmps:Array Value} {w:World} {A:Addr} {v:Value} (hf:fn.results=#[.cell p t,.tmp q]) (hp:tmps.getD p undef=.pointer (some A)) (hl:(loadVar t A).run P w=.ok v w):(results fn tmps).run P w=.ok (.tuple #[v,tmps.getD q undef]) w:=by
 have hp':tmps[p]?.getD undef=.pointer (some A):=by simpa using hp
 simp [results,hf,hp',asAddr,hl]
theorem results_c2t1 {fn:Func} {p t p2 t2 q:Nat} {tmps:Array Value} {w:World} {A A2:Addr} {v v2:Value} (hf:fn.results=#[.cell p t,.cell p2 t2,.tmp q]) (hp:tmps.getD p undef=.pointer (some A)) (hl:(loadVar t A).run P w=.ok v w)
  (hp2:tmps.getD p2 undef=.pointer (some A2)) (hl2:(loadVar t2 A2).run P w=.ok v2 w):(results fn tmps).run P w=.ok (.tuple #[v,v2,tmps.getD q undef]) w:=by
 have hp':tmps[p]?.getD undef=.pointer (some A):=by simpa using hp
 have hp2':tmps[p2]?.getD undef=.pointer (some A2):=by simpa using hp2
 simp [results,hf,hp',hp2',asAddr,hl,hl2]
theorem run_loadVar_all {w:World} {g n:Nat} {T ty:TypeId} {cs:Array Value} (ha:∀ w,(isAgg ty).run P w=.ok true w) (hs:∀ w,(sizeOf ty).run P w=.ok n w) (hg:w.heap[g]?=some (.cells cs T (0,0))) (hn:cs.size=n):(loadVar ty ⟨g,0,none⟩).run P w=.ok (.agg cs) w:=by
 have:=run_loadVar_part (P:=P) w g 0 n T ty cs (ha w) (hs w) hg (by omega)
 rw [this]
 subst hn
 simp
end
section
variable {P:Program} {ops:Array Oper} {C:World→Prop}
theorem wp_region_cls {id:Nat} {Q:Exit→Act→World→Prop} {a:Act} {w:World} {l:List Oper} (hm:P.follows .mixedOrders=true) (hB:Region.lexB .any l.toArray=true) (hC:C w.drew)
  (h:wpQuiet P l.toArray C (fun a'=>∀ w',C w'→Q .normal a' w') l a):(Code.region id l.toArray true).wp P Q a w:=
 wp_region_quiet (C:=C) hm hB hC (by simpa using h)
theorem wpQuiet_gen {Q:Act→Prop} {a:Act} {o:Oper} {rest:List Oper} (hw:Region.wanted o (yielded ops a.tmps)=true) (v:Value) (hy:∀ w,C w→o.quietAt P a C w v)
  (h:wpQuiet P ops C Q rest (a.put o.dst v)):wpQuiet P ops C Q (o :: rest) a:=by
 unfold wpQuiet
 rw [if_pos hw]
 exact ⟨v,hy,h⟩
theorem wpQuiet_val {Q:Act→Prop} {a:Act} {o:Oper} {rest:List Oper} (hw:Region.wanted o (yielded ops a.tmps)=true) (v:Value) (hy:∀ w,C w→(execOp a.eval o).run P w=.ok (.value v) w)
  (h:wpQuiet P ops C Q rest (a.put o.dst v)):wpQuiet P ops C Q (o :: rest) a:=
 wpQuiet_gen hw v (fun w hC=>by unfold Oper.quietAt;rw [hy w hC];exact ⟨rfl,rfl⟩) h
theorem wpQuiet_skip {Q:Act→Prop} {a:Act} {o:Oper} {rest:List Oper} (hw:Region.wanted o (yielded ops a.tmps)=false) (h:wpQuiet P ops C Q rest (a.put o.dst undef)):wpQuiet P ops C Q (o :: rest) a:=by
 unfold wpQuiet
 rw [if_neg (by rw [hw];simp)]
 exact h
section
variable {P:Program} {ops:Array Oper} {C:World→Prop}
theorem qvP {Q:Act→Prop} {a a2:Act} {o:Oper} {rest:List Oper} {v:Value} (h:wpQuiet P ops C Q rest a2) (hw:Region.wanted o (yielded ops a.tmps)=true:=by rfl)
  (hy:∀ w,C w→(execOp a.eval o).run P w=.ok (.value v) w:=by intro wS hSw;go_simp;(try with_reducible rfl)) (ha:a.put o.dst v=a2:=by (try simp only [Act.put,qa1,qa2,qa3]);(try rfl)) :
  wpQuiet P ops C Q (o :: rest) a:=wpQuiet_val hw v hy (by rw [ha];exact h)
end
end
section
variable {P:Program}
def LdCs (P:Program) (a:Act) (w:World) (ty:TypeId) (x:Operand) (v:Array Value):Prop:=
 ∃ (b off n:Nat),(∀ w,(isAgg ty).run P w=.ok true w)∧(∀ w,(sizeOf ty).run P w=.ok n w)∧a.eval x=.pointer (some ⟨b,off,none⟩)∧v.size=n∧∀ j u,v[j]?=some u→w.cell? ⟨b,off+j,none⟩=some u
theorem run_loadVar_cs (w:World) (b off n:Nat) (ty:TypeId) (v:Array Value) (ha:(isAgg ty).run P w=.ok true w) (hs:(sizeOf ty).run P w=.ok n w) (hn:v.size=n) (hc:∀ j u,v[j]?=some u→w.cell? ⟨b,off+j,none⟩=some u) :
  (loadVar ty ⟨b,off,none⟩).run P w=.ok (.agg v) w:=by
 have hl:=run_loadCells_list (P:=P) (w:=w) ⟨b,off,none⟩ v.toList (fun j u hu=>by
  rw [addr_add]
  exact hc j u (by rw [← Array.getElem?_toList];exact hu))
 rw [Array.length_toList,hn] at hl
 simp only [Array.toArray_toList] at hl
 simp only [loadVar,Sem.run_bind,ha,hs,hl,Result.andThen_ok,if_true,Sem.run_pure]
theorem exec_ldC {a:Act} {w:World} {dst:Option Tmp} {ty':TypeId} {pos:String} {af:Array Edge} {gd:Option (Nat×Bool)} (ty:TypeId) (x:Operand) {v:Array Value} (hl:LdCs P a w ty x v):(execOp a.eval (Oper.mk dst (.load ty x) ty' pos af gd)).run P w=.ok (.value (.agg v)) w:=by
 obtain ⟨b,off,n,ha,hs,hx,hn,hc⟩:=hl
 unfold execOp
 simp only [hx,Instr.loadAt,Instr.sureAddr,Sem.run_bind,Sem.run_pure,Result.andThen_ok,run_loadVar_cs w b off n ty v (ha w) (hs w) hn hc]
theorem wpList_ldC {ops:Array Oper} {rest:List Oper} {a:Act} {w:World} {Q:Exit→Act→World→Prop} {dst:Option Tmp} {ty':TypeId} {pos:String} {af:Array Edge} {gd:Option (Nat×Bool)} (ty:TypeId) (x:Operand)
  (hl:Region.wanted (Oper.mk dst (.load ty x) ty' pos af gd) (yielded ops a.tmps)=true∧∃ v,LdCs P a w ty x v∧wpList P ops Q rest (a.put dst (.agg v)) w):wpList P ops Q (Oper.mk dst (.load ty x) ty' pos af gd :: rest) a w:=by
 obtain ⟨hw,v,h1,h2⟩:=hl
 refine BigFrame.wpList_want hw fun K hK=>?_
 unfold Oper.wp
 rw [exec_ldC ty x h1]
 exact hK _ _ h2
end
section
theorem own_ne {w:World} {base n size g:Nat} {e t:TypeId} {v:Value} {xs:List Value} {cs:Array Value} (h:w.ownsRow base e size v n xs) (hg:w.heap[g]?=some (.cells cs t (0,0))) (hne:e≠t):v.ownBlock≠some g:=by
 rcases h.2 with ⟨rfl,_⟩ | ⟨g',cap,cur,rfl,_,hh,_⟩
 ·simp [Value.ownBlock]
 ·intro he
  have:g'=g:=by simpa [Value.ownBlock] using he
  subst this
  rw [hg] at hh
  injection hh with hh
  injection hh with _ ht
  exact hne ht.symm
theorem gb_trans {a w w':World} {r r':Option Nat} (h:a.grownBy w r) (h':w.grownBy w' r') (hr:∀ k,r'=some k→a.heap.size≤k∨r=some k):a.grownBy w' r:=
 ⟨h'.os.trans h.os,h'.tape.trans h.tape,h'.output.trans h.output,Nat.le_trans h.size h'.size,fun i hi hne=>(h'.block i (Nat.lt_of_lt_of_le hi h.size) (fun e=>by
  rcases hr i e.symm with h1 | h1
  ·omega
  ·exact hne h1.symm)).trans (h.block i hi hne)⟩
theorem gb_of_below {a w:World} (h:Below a.heap.size a w) (r:Option Nat):a.grownBy w r:=⟨h.os,h.tape,h.output,h.size,fun i hi _=>h.block i hi⟩
theorem gb_to_below {w w':World} {r:Option Nat} (h:w.grownBy w' r) {B:Nat} (hB:B≤w.heap.size) (hr:∀ k,r=some k→B≤k):Below B w w':=(Below.refl _ _).grown h hB hr
theorem run_append_mixed {P:Program} {w:World} {t t' ty e e':TypeId} (ht:P.underlying t=some (.slice e)) (ht':P.underlying t'=some (.slice e')) (b b':Option Addr) (n n' c c':Nat) :
  (Builtin.append_ #[t,t'] ty #[.slice b n c,.slice b' n' c']).run P w=(Builtin.append_ #[t,t] ty #[.slice b n c,.slice b' n' c']).run P w:=by
 simp [Builtin.append_,run_underlying ht,run_underlying ht']
theorem exec_append_mixed {P:Program} {w:World} {o:Oper} {a:Act} {s x:Operand} {t t' e e':TypeId} (ht:P.underlying t=some (.slice e)) (ht':P.underlying t'=some (.slice e'))
  (ho:o.op=.call { callee:=.builtin .append,args:=#[s,x],argTypes:=#[t,t'] }) {b b':Option Addr} {n n' c c':Nat} (hs:a.eval s=.slice b n c) (hx:a.eval x=.slice b' n' c') :
  (execOp a.eval o).run P w=(execOp a.eval { o with op:=.call { callee:=.builtin .append,args:=#[s,x],argTypes:=#[t,t] } }).run P w:=by
 simp [execOp,ho,resolve,invoke,builtin,hs,hx,run_append_mixed ht ht']
theorem wpList_appendN' {P:Program} {w:World} {ops:Array Oper} {rest:List Oper} {o:Oper} {a:Act} {Q:Exit→Act→World→Prop} (hgd:o.guard=none) (s x:Operand) (t t' e e':TypeId) {size bytes:Nat} (hT:ElemT P t e size bytes) (ht':P.underlying t'=some (.slice e'))
  (ho:o.op=.call { callee:=.builtin .append,args:=#[s,x],argTypes:=#[t,t'] })
  (base:Nat) (v:Value) (n:Nat) (xs:List Value) (hs:a.eval s=v) (hown:w.ownsRow base e size v n xs)
  (ad:Addr) (m c:Nat) (news:List Value) (hx:a.eval x=.slice (some ad) m c) (hl:news.length=m * size) (hnews:∀ j u,news[j]?=some u→w.cell? (ad.add j)=some u) (h1:∀ u ∈ news,u.oneCell'=true)
  (hn:n+m≤4294967296) (hby:bytes≤4096) (hbase:base≤w.heap.size)
  (h:∀ v' w',w'.ownsRow base e size v' (n+m) (xs++news)→w.grownBy w' v.ownBlock→wpList P ops Q rest (a.put o.dst v') w'):wpList P ops Q (o :: rest) a w:=by
 obtain ⟨i,z,ht,hi,hz,hsize,hbytes,hzs,hsz⟩:=hT.ex
 obtain ⟨b0,c0,hv0,_⟩:=Row.of_owns hown
 have hb1:(n+m) * bytes≤4294967296 * 4096:=Nat.mul_le_mul hn hby
 obtain ⟨v',w',hr,h2,h3,_⟩:=run_append_own (P:=P) (w:=w) base t o.type e i z size bytes ht hi hz hsize hbytes hzs hsz v n xs hown ad m c news hl hnews h1 (by unfold maxLen;omega) (by omega) hbase
 have he:(execOp a.eval { o with op:=.call { callee:=.builtin .append,args:=#[s,x],argTypes:=#[t,t] } }).run P w=.ok (.value v') w':=exec_append (o:={ o with op:=.call { callee:=.builtin .append,args:=#[s,x],argTypes:=#[t,t] } }) s x t t rfl _ _ hs hx hr
 exact wpList_run hgd ((exec_append_mixed ht ht' ho (hs.trans hv0) hx).trans he) (h v' w' h2 h3)
theorem wp_run {P:Program} {w w':World} {v:Value} {o:Oper} {a:Act} {K:Act→World→Prop} {Q:Exit→Act→World→Prop} (hr:(execOp a.eval o).run P w=.ok (.value v) w') (h:K (a.put o.dst v) w'):o.wp P a w K Q:=by
 unfold Oper.wp
 rw [hr]
 exact h
theorem wp_appN {P:Program} {w:World} {o:Oper} {a:Act} {K:Act→World→Prop} {Q:Exit→Act→World→Prop} (s x:Operand) (t t' e e':TypeId) {size bytes:Nat} (hT:ElemT P t e size bytes) (ht':P.underlying t'=some (.slice e'))
  (ho:o.op=.call { callee:=.builtin .append,args:=#[s,x],argTypes:=#[t,t'] })
  (base:Nat) (v:Value) (n:Nat) (xs:List Value) (hs:a.eval s=v) (hown:w.ownsRow base e size v n xs)
  (ad:Addr) (m c:Nat) (news:List Value) (hx:a.eval x=.slice (some ad) m c) (hl:news.length=m * size) (hnews:∀ j u,news[j]?=some u→w.cell? (ad.add j)=some u) (h1:∀ u ∈ news,u.oneCell'=true)
  (hn:n+m≤4294967296) (hby:bytes≤4096) (hbase:base≤w.heap.size)
  (h:∀ v' w',w'.ownsRow base e size v' (n+m) (xs++news)→w.grownBy w' v.ownBlock→K (a.put o.dst v') w'):o.wp P a w K Q:=by
 obtain ⟨i,z,ht,hi,hz,hsize,hbytes,hzs,hsz⟩:=hT.ex
 obtain ⟨b0,c0,hv0,_⟩:=Row.of_owns hown
 have hb1:(n+m) * bytes≤4294967296 * 4096:=Nat.mul_le_mul hn hby
 obtain ⟨v',w',hr,h2,h3,_⟩:=run_append_own (P:=P) (w:=w) base t o.type e i z size bytes ht hi hz hsize hbytes hzs hsz v n xs hown ad m c news hl hnews h1 (by unfold maxLen;omega) (by omega) hbase
 have he:(execOp a.eval { o with op:=.call { callee:=.builtin .append,args:=#[s,x],argTypes:=#[t,t] } }).run P w=.ok (.value v') w':=exec_append (o:={ o with op:=.call { callee:=.builtin .append,args:=#[s,x],argTypes:=#[t,t] } }) s x t t rfl _ _ hs hx hr
 exact wp_run ((exec_append_mixed ht ht' ho (hs.trans hv0) hx).trans he) (h v' w' h2 h3)
theorem wp_ldC {P:Program} {a:Act} {w:World} {K:Act→World→Prop} {Q:Exit→Act→World→Prop} {dst:Option Tmp} {ty':TypeId} {pos:String} {af:Array Edge} {gd:Option (Nat×Bool)} (ty:TypeId) (x:Operand) {v:Array Value} (hl:LdCs P a w ty x v) (hK:K (a.put dst (.agg v)) w):(Oper.mk dst (.load ty x) ty' pos af gd).wp P a w K Q:=
 wp_run (exec_ldC ty x hl) hK
end
section
def txt (s:Tx):List UInt8:=le 1 s.size++s.toList
def txOf (l:List UInt8):Tx:=⟨l.toArray⟩
theorem txOf_list (l:List UInt8):(txOf l).toList=l:=by
 rw [ByteArray.toList_eq]
 rfl
theorem txOf_size (l:List UInt8):(txOf l).size=l.length:=rfl
def rdN (l:List UInt8) (a k:Nat):Option (Nat×Nat):=if a+k≤l.length then some (getN l a k,a+k) else none
def rdT (l:List UInt8) (a:Nat):Option (Tx×Nat):=
 match rdN l a 1 with
 | none=>none
 | some (n,a1)=>if a1+n≤l.length then some (txOf ((l.drop a1).take n),a1+n) else none
theorem rdN_spec {l:List UInt8} {a k n a1:Nat} (h:rdN l a k=some (n,a1)):l.drop a=le k n++l.drop a1∧a1=a+k∧a1≤l.length∧n < 256 ^ k:=by
 unfold rdN at h
 split at h
 ·rename_i hk
  injection h with h
  injection h with h1 h2
  subst h1 h2
  have hpl:((l.drop a).take k).length=k:=by rw [List.length_take,List.length_drop];omega
  refine ⟨?_,rfl,hk,?_⟩
  ·have e:=le_ofLe ((l.drop a).take k)
   rw [hpl] at e
   unfold getN
   rw [e,← List.drop_drop,List.take_append_drop]
  ·unfold getN
   have:=ofLe_lt ((l.drop a).take k)
   rwa [hpl] at this
 ·cases h
theorem rdT_spec {l:List UInt8} {a a1:Nat} {s:Tx} (h:rdT l a=some (s,a1)):l.drop a=txt s++l.drop a1∧a≤a1∧a1≤l.length∧s.size < 256:=by
 unfold rdT at h
 split at h
 ·cases h
 ·rename_i n a2 h1
  obtain ⟨e1,e2,e3,e4⟩:=rdN_spec h1
  split at h
  ·rename_i hn
   injection h with h
   injection h with h2 h3
   subst h2 h3
   have hsz:(txOf ((l.drop a2).take n)).size=n:=by rw [txOf_size,List.length_take,List.length_drop];omega
   refine ⟨?_,by omega,hn,by rw [hsz];omega⟩
   unfold txt
   rw [hsz,txOf_list,e1,List.append_assoc]
   congr 1
   rw [← List.drop_drop,List.take_append_drop]
  ·cases h
theorem strCells_bys (s:Tx):Lib.strCells s=bys s.toList:=by
 rw [ByteArray.toList_eq]
 rfl
theorem text_any (s:Tx) (w:World) (hs:s.size≤255):Calls Tryz.prog 218 #[.string s] w fun e w'=>OwnBytes w.heap.size (txt s) 0 e w'∧Below w.heap.size w w':=by
 obtain ⟨i0,hi,hz0,hz1,hz2⟩:=info_parts (show (Tryz.prog.info? 5).map (fun i=>(i.zero,i.size,i.bytes))=some (some (.int .u8 0),1,1) by kernel_rfl)
 go_enter func218,ntmps218
 refine seqH fun K HK=>?_
 go_wp2
 refine HK.out _ _ ?_
 clear HK
 refine seqH fun K HK=>?_
 go_wp2
 refine HK.out _ _ ?_
 clear HK
 refine seqH fun K HK=>?_
 have hown:(w.alloc (Obj.cells #[.int .u8 (s.size:Int)] 5)).ownsRow w.heap.size 5 1 (.slice (some ⟨w.heap.size,0,none⟩) 1 1) 1 [.int .u8 (s.size:Int)]:=
  owns_of_cur (cur:=[.int .u8 (s.size:Int)]) (heap_alloc_new w _) (Nat.le_refl _) (Nat.le_refl _) (by simp [maxLen]) (by simp) (by simp)
 have hb0:=blw w (Obj.cells #[.int .u8 (s.size:Int)] 5)
 go_wp2_with (at_builtin;refine Lib.wpList_append_own_string _ rfl _ _ 37 9 rfl w.heap.size 5 i0 underlying37 underlying9 hi hz0 hz1 hz2 _ _ _ rfl hown s rfl (by unfold maxLen;omega) (by omega) (by simp) ?_;intro v1 w1 hown1 hgr1 _)
 refine HK.out _ _ ?_
 clear HK
 go_wp2
 go_ret2
 have hbw:Below w.heap.size w w1:=hb0.grown hgr1 hb0.size (fun k e=>(hown.lt k e).1)
 refine ⟨⟨_,rfl,?_⟩,hbw⟩
 have e:txt s=UInt8.ofNat (s.size % 256) :: s.toList:=rfl
 rw [e,List.length_cons,tx_len,Nat.add_comm]
 have e2:bys (UInt8.ofNat (s.size % 256) :: s.toList)=[.int .u8 (s.size:Int)]++Lib.strCells s:=by
  rw [strCells_bys]
  have:=byv_low s.size
  simp only [bys,List.map_cons,List.singleton_append,this]
  congr 2
  omega
 rw [e2]
 exact hown1
theorem conv_bytes (ad:Option Addr) (c:Nat) (p:List UInt8) (w:World) (h:Row w ad (bys p)):(convert 37 9 (.slice ad p.length c)).run Tryz.prog w=.ok (.string (txOf p)) w:=by
 cases ad with
 | none=>
  have hp:p=[]:=by
   rcases h with h | ⟨b,off,ha,_⟩
   ·have:=congrArg List.length h
    rw [bys_len] at this
    exact List.eq_nil_of_length_eq_zero this
   ·cases ha
  subst hp
  exact run_convert_bytes_nil w _ _ underlying37 underlying5 _ _ _ underlying9
 | some ad=>
  refine run_convert_bytes_back (P:=Tryz.prog) w _ _ 5 ad c p underlying37 underlying5 underlying9 (fun j hj=>?_)
  obtain ⟨b,off,ha,hc⟩:=h.at (k:=j) (by rw [bys_len];exact hj)
  injection ha with ha
  subst ha
  rw [addr_add]
  exact hc j _ (by simp [bys,hj,byv])
theorem getE_short {len p k:Nat} (hk:k=1∨k=2∨k=6) (hp:p≤len) (h:¬ p+k≤len):getE len p k=10:=by
 unfold getE pieceE
 have hm:¬ manyI k=0:=by unfold manyI;rcases hk with rfl | rfl | rfl <;> simp
 rw [if_neg hm,if_neg (by omega),if_pos (by omega)]
def getV (l:List UInt8) (p k:Nat):Value:=match rdN l p k with | some (n,p1)=>.tuple #[.int .i64 n,.int .i64 p1,.int .i64 0] | none=>.tuple #[.int .i64 0,.int .i64 0,.int .i64 10]
theorem get_v (a:Option Addr) (cap:Nat) (l:List UInt8) (p k:Nat) (w:World) (hs:SlB w a cap l) (hp:p≤l.length) (hk:k=1∨k=2∨k=6) :
  Calls Tryz.prog 99 #[.slice a l.length cap,.int .i64 p,.int .i64 k] w fun e w'=>e=.returned (getV l p k)∧Below w.heap.size w w':=by
 unfold getV rdN
 by_cases h:p+k≤l.length
 ·rw [if_pos h]
  refine (get_ok a cap l p k w hs (by omega) h).mono ?_
  rintro e w' ⟨rfl,hb⟩
  exact ⟨by simp,hb⟩
 ·rw [if_neg h]
  have he:=getE_short hk hp h
  refine (get_bad a l.length cap p k w (Nat.le_trans hs.le hs.max) (by rw [he];decide)).mono ?_
  rintro e w' ⟨rfl,hb⟩
  exact ⟨by rw [he],hb⟩
def readV (l:List UInt8) (p:Nat):Value:=match rdT l p with | some (s,p1)=>.tuple #[.string s,.int .i64 p1,.int .i64 0] | none=>.tuple #[.string ⟨#[]⟩,.int .i64 0,.int .i64 10]
theorem read_v (a:Option Addr) (cap:Nat) (l:List UInt8) (p:Nat) (w:World) (hs:SlB w a cap l) (hp:p≤l.length) (hl:l.length≤1000000) :
  Calls Tryz.prog 237 #[.slice a l.length cap,.int .i64 p] w fun e w'=>e=.returned (readV l p)∧Below w.heap.size w w':=by
 unfold readV rdT
 cases h1:rdN l p 1 with
 | none=>
  have hg:getV l p 1=.tuple #[.int .i64 0,.int .i64 0,.int .i64 10]:=by unfold getV;rw [h1]
  have HG:=Lib.hid hg
  clear hg h1
  go_enter func237,ntmps237
  go_wp2_with (go_at_call 99;refine (get_v a cap l p 1 _ hs hp (.inl rfl)).mono ?_;rintro e w1 ⟨rfl,hb1⟩;rw [HG.out])
  go_ret3
  exact ⟨rfl,hb1⟩
 | some r=>
  obtain ⟨n,p1⟩:=r
  have hp1:=(rdN_spec h1).2.2.1
  have hg:getV l p 1=.tuple #[.int .i64 n,.int .i64 p1,.int .i64 0]:=by unfold getV;rw [h1]
  have HG:=Lib.hid hg
  clear hg h1
  simp only
  have hmx:=hs.max
  by_cases h2:p1+n≤l.length
  ·rw [if_pos h2]
   have HS:=Lib.hid hs
   go_enter func237,ntmps237
   refine seqH fun K HK=>?_
   go_wp2
   refine HK.out _ _ ?_
   clear HK
   refine seqH fun K HK=>?_
   go_wp2_with (go_at_call 99;refine (get_v a cap l p 1 _ hs hp (.inl rfl)).mono ?_;rintro e w1 ⟨rfl,hb1⟩;rw [HG.out])
   refine HK.out _ _ ?_
   clear HK
   have hs1:=HS.out.below hb1
   have hrow:Row w1 (pieceA a cap p1) (bys ((l.drop p1).take n)):=by
    have h1:=(hs1.row.drop (cap:=cap) (by rw [bys_len];exact hs.le) p1 (by rw [bys_len];omega)).take n
    have e:bys ((l.drop p1).take n)=((bys l).drop p1).take n:=by simp [bys,List.map_take,List.map_drop]
    rw [e];exact h1
   have hpl:((l.drop p1).take n).length=n:=by rw [List.length_take,List.length_drop];omega
   have hcv:=conv_bytes (pieceA a cap p1) (cap - p1) _ _ hrow
   rw [hpl] at hcv
   have hle:=hs.le
   have hnil:=hs.nil
   have HX:=Lib.hid hpl
   clear hpl hrow hs1 hs
   refine seqH fun K HK=>?_
   go_wp2
   refine HK.out _ _ ?_
   clear HK
   refine seqH fun K HK=>?_
   go_wp2_with (go_at_call 175;refine (piece_ok a l.length cap p1 n _ hmx hle h2 hnil).mono ?_;rintro e w2 ⟨rfl,rfl⟩)
   refine HK.out _ _ ?_
   clear HK
   go_wp2
   go_ret3
   exact ⟨rfl,hb1⟩
  ·rw [if_neg h2]
   have hpe:pieceE l.length p1 n=10:=by unfold pieceE;rw [if_neg (by omega),if_pos (by omega)]
   have HP:=Lib.hid hpe
   clear hpe
   go_enter func237,ntmps237
   go_wp2_with (first
    | (go_at_call 99;refine (get_v a cap l p 1 _ hs hp (.inl rfl)).mono ?_;rintro e w1 ⟨rfl,hb1⟩;rw [HG.out])
    | (go_at_call 175;refine (piece_bad a l.length cap p1 n _ (Nat.le_trans hs.le hmx) (by rw [HP.out];decide)).mono ?_;rintro e w1 ⟨rfl,rfl⟩;rw [HP.out]))
   go_ret3
   exact ⟨rfl,hb1⟩
end
section
def mayBl (b:Bal):Bool:=decide (1≤b.rnd) && (decide (b.rnd≤big40) && (decide (0≤b.rep) && decide (b.rep < 7)))
def recB (b:Bal) (wh:Nat):List UInt8:=le 6 b.rnd.toNat++(le 1 b.rep.toNat++le 1 wh)
def parseR (l:List UInt8):Option (Bal×Nat):=if l.length=8∧mayBl ⟨getN l 0 6,getN l 6 1⟩=true∧getN l 7 1 < 2 then some (⟨getN l 0 6,getN l 6 1⟩,getN l 7 1) else none
def opB (e:En):List UInt8:=le 1 e.cli.toNat++(le 6 e.seq.toNat++(le 1 e.op.kind.toNat++(txt e.op.key++(txt e.op.old++txt e.op.val))))
def entB (e:En):List UInt8:=le 1 e.kind.toNat++(if e.kind=2 then opB e else [])
def bodyE (b:Bal) (e:En):List UInt8:=le 6 b.rnd.toNat++(le 1 b.rep.toNat++entB e)
/-! A pen that reads: where it is,and whether it went wrong. -/
structure Pen where
 at':Nat
 bad:Bool
def pgN (l:List UInt8) (p:Pen) (k:Nat):Nat:=if p.bad=false∧p.at'+k≤l.length then getN l p.at' k else 0
def pgS (l:List UInt8) (p:Pen) (k:Nat):Pen:=if p.bad=false∧p.at'+k≤l.length then ⟨p.at'+k,false⟩ else ⟨p.at',true⟩
def ptT (l:List UInt8) (p:Pen):Tx:=if p.bad=true then ⟨#[]⟩ else match rdT l p.at' with | some (s,_)=>s | none=>⟨#[]⟩
def ptS (l:List UInt8) (p:Pen):Pen:=if p.bad=true then p else match rdT l p.at' with | some (_,a)=>⟨a,false⟩ | none=>⟨p.at',true⟩
def opR (l:List UInt8) (k:Int) (p:Pen):En×Pen:=
 let p2:=pgS l p 1
 let p3:=pgS l p2 6
 let p4:=pgS l p3 1
 let p5:=ptS l p4
 let p6:=ptS l p5
 (⟨k,pgN l p 1,pgN l p2 6,⟨pgN l p3 1,ptT l p4,ptT l p5,ptT l p6⟩⟩,ptS l p6)
def zeroE (k:Int):En:=⟨k,0,0,⟨0,⟨#[]⟩,⟨#[]⟩,⟨#[]⟩⟩⟩
def entP (l:List UInt8) (a:Nat):En×Pen:=
 if pgN l ⟨a,false⟩ 1=2 then opR l 2 (pgS l ⟨a,false⟩ 1) else (zeroE (pgN l ⟨a,false⟩ 1),pgS l ⟨a,false⟩ 1)
def entR (l:List UInt8) (a:Nat):Option (En×Nat):=if (entP l a).2.bad=true∨mayE (entP l a).1=false then none else some ((entP l a).1,(entP l a).2.at')
def parseE (l:List UInt8):Option (Bal×En):=
 let p1:=pgS l ⟨0,false⟩ 6
 let p2:=pgS l p1 1
 match entR l p2.at' with
 | none=>none
 | some (e,n)=>if p2.bad=true∨n < l.length∨mayBl ⟨pgN l ⟨0,false⟩ 6,pgN l p1 1⟩=false then none else some (⟨pgN l ⟨0,false⟩ 6,pgN l p1 1⟩,e)
section
variable {b:Bal} {e:En} {wh:Nat} {l:List UInt8}
theorem recB_len:(recB b wh).length=8:=by simp [recB,le_len]
theorem txt_len (s:Tx):(txt s).length=1+s.size:=by simp [txt,le_len,tx_len]
theorem mayBl_parts (h:mayBl b=true):1≤b.rnd∧b.rnd≤1099511627776∧0≤b.rep∧b.rep < 7:=by
 unfold mayBl big40 at h
 simp only [Bool.and_eq_true,decide_eq_true_eq] at h
 exact ⟨h.1,h.2.1,h.2.2.1,h.2.2.2⟩
theorem mayE_two (h:mayE e=true) (hk:e.kind≠1):e.kind=2∧0≤e.cli∧e.cli < 4∧1≤e.seq∧e.seq≤1099511627776∧mayO e.op=true∧e.op.kind≠1:=by
 unfold mayE big40 at h
 rw [if_neg hk] at h
 simp only [Bool.and_eq_true,decide_eq_true_eq,beq_iff_eq,bne_iff_ne] at h
 exact ⟨h.1.1.1.1.1.1,h.1.1.1.1.1.2,h.1.1.1.1.2,h.1.1.1.2,h.1.1.2,h.1.2,h.2⟩
theorem tx_nought {s:Tx} (h:(s.toList==[])=true):s=⟨#[]⟩:=tx_ext (by rw [beq_iff_eq] at h;rw [h,ByteArray.toList_eq])
theorem may_noop (h:mayE e=true) (hk:e.kind=1):e=zeroE 1:=by
 unfold mayE nilO at h
 rw [if_pos hk] at h
 simp only [Bool.and_eq_true] at h
 obtain ⟨⟨h1,h2⟩,⟨⟨h3,h4⟩,h5⟩,h6⟩:=h
 obtain ⟨k,c,q,⟨o,x,y,z⟩⟩:=e
 simp only at h1 h2 h3 h4 h5 h6 hk
 rw [beq_iff_eq] at h1 h2 h3
 unfold zeroE
 rw [hk,h1,h2,h3,tx_nought h4,tx_nought h5,tx_nought h6]
theorem may_kind (h:mayE e=true):e.kind=1∨e.kind=2:=by
 by_cases hk:e.kind=1
 ·exact .inl hk
 ·exact .inr (mayE_two h hk).1
theorem mayO_parts {o:Opn} (h:mayO o=true):1≤o.key.size∧o.key.size≤8∧o.old.size≤16∧o.val.size≤16∧1≤o.kind∧o.kind≤4:=by
 unfold mayO keyOk valOk at h
 simp only [Bool.and_eq_true,decide_eq_true_eq] at h
 obtain ⟨⟨⟨⟨h1,h2⟩,h3⟩,h4⟩,h5⟩:=h
 refine ⟨h1,h2,h3,h4,?_⟩
 split at h5
 ·omega
 ·split at h5
  ·omega
  ·simp only [decide_eq_true_eq] at h5
   omega
theorem opB_len (hm:mayE e=true) (hk:e.kind=2):(opB e).length≤51:=by
 obtain ⟨_,_,_,_,_,ho,_⟩:=mayE_two hm (by omega)
 obtain ⟨_,h2,h3,h4,_⟩:=mayO_parts ho
 simp only [opB,List.length_append,le_len,txt_len]
 omega
theorem bodyE_len (b:Bal) (hm:mayE e=true):8≤(bodyE b e).length∧(bodyE b e).length≤59:=by
 simp only [bodyE,entB,List.length_append,le_len]
 split
 ·have:=opB_len hm (by assumption)
  omega
 ·simp
end
end
section
end
section
def rpOf (x:Option Tx):Rp:=match x with | none=>⟨0,false,⟨#[]⟩⟩ | some v=>⟨0,true,v⟩
def stepK (o:Opn) (x:Option Tx):Option Tx×Rp:=
 if o.kind=1 then (x,rpOf x)
 else if o.kind=2 then (some o.val,rpOf x)
 else if o.kind=3 then (none,rpOf x)
 else if x=some o.old then (some o.val,rpOf x) else (x,{ rpOf x with found:=false })
def getO (k:Tx):Opn:=⟨1,k,⟨#[]⟩,⟨#[]⟩⟩
def valueP (l:List Pr) (k:Tx):Tx×Bool:=let r:=(doP l (getO k)).2;(r.val,r.found && decide (r.err=0))
end
end Go.Proofs.YtbdonjenekhmdaaGreatDoor
