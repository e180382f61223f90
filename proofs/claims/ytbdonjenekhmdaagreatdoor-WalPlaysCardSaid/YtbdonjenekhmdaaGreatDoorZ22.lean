/- Texts that the claim leans on, part 22: C30, W21, Rng, Rng2, Rng4, V11, V12, V10. -/
import Derived.Test.YtbdonjenekhmdaaGreatDoorZ1
import Derived.Test.YtbdonjenekhmdaaGreatDoorZ2
import Derived.Test.YtbdonjenekhmdaaGreatDoorZ3
import Derived.Test.YtbdonjenekhmdaaGreatDoorZ4
import Derived.Test.YtbdonjenekhmdaaGreatDoorZ5
import Derived.Test.YtbdonjenekhmdaaGreatDoorZ6
import Derived.Test.YtbdonjenekhmdaaGreatDoorZ7
import Derived.Test.YtbdonjenekhmdaaGreatDoorZ8
import Derived.Test.YtbdonjenekhmdaaGreatDoorZ9
import Derived.Test.YtbdonjenekhmdaaGreatDoorZ10
import Derived.Test.YtbdonjenekhmdaaGreatDoorZ11
import Derived.Test.YtbdonjenekhmdaaGreatDoorZ12
import Derived.Test.YtbdonjenekhmdaaGreatDoorZ13
import Derived.Test.YtbdonjenekhmdaaGreatDoorZ14
import Derived.Test.YtbdonjenekhmdaaGreatDoorZ15
import Derived.Test.YtbdonjenekhmdaaGreatDoorZ16
import Derived.Test.YtbdonjenekhmdaaGreatDoorZ17
import Derived.Test.YtbdonjenekhmdaaGreatDoorZ18
import Derived.Test.YtbdonjenekhmdaaGreatDoorZ19
import Derived.Test.YtbdonjenekhmdaaGreatDoorZ20
import Derived.Test.YtbdonjenekhmdaaGreatDoorZ21
import Derived.RangeFuncNested
import Derived.RangeFuncBound
import Derived.RangeFuncCalls
import Derived.RangeFuncLeaves
import Derived.RangeFuncBox
import Derived.RangeFuncRecord
import Derived.Shelf.Abstract
import Derived.Shelf.RegionOpen
import Derived.OwnWalkIn
import Derived.TacticsInMore
import Derived.LoopNIn
import Derived.LoopIn
import Derived.Maps.AppendAt
import Derived.Maps.OwnIn
namespace Go.Proofs.YtbdonjenekhmdaaGreatDoor
open Go.RowKit Go.Proofs.Tryz
set_option maxRecDepth 100000
set_option maxHeartbeats 32000000
section
section
variable {B g:Nat} {q:RQ} {d:Dk} {w w':World}
theorem Kx.own {X:TypeId→Bool} {w1 w2:World} {q5:Nat} (h:Kx X B w w1) (hg:w1.grownBy w2 (some q5)) (hq:w.heap.size≤q5) (hB:B≤w.heap.size):Kx X B w w2:=
 ⟨h.bl.grown hg (Nat.le_trans hB h.bl.size) (fun k e=>by cases e;exact Nat.le_trans hB hq),fun j cs T a b=>tr_st hg (h.ty j cs T a b) (by have:=lt_blk a;omega)⟩
theorem RefB.stO {q5:Nat} {cs:Array Value} {T:TypeId} (h:RefB B g q d w) (hg:w.grownBy w' (some q5)) (hc:w.heap[q5]?=some (.cells cs T (0,0))) (hT:fT T=false):RefB B g q d w':=
 h.keep fun j cs' T' h1 a=>tr_st hg a (by
  rintro rfl
  rw [hc] at a
  injection a with a
  injection a with _ e
  subst e
  rw [hT] at h1
  cases h1)
end
end
section
def LrB (w:World) (q g:Nat) (s:Lg):Prop:=w.heap[q]?=some (.cells (lgA g s) 81 (0,0))
def OpnW (T:TypeId) (g:Nat) (s:Lg) (r:Int) (w:World) (e:Ending) (w':World):Prop:=(r=0∧∃ q,e=.returned (.tuple #[.pointer (some ⟨q,0,none⟩),.int .i64 0])∧w.heap.size≤q∧w'.heap[q]?=some (.cells (lgA g s) T (0,0)))∨(r≠0∧e=.returned (.tuple #[.pointer none,.int .i64 r]))
theorem OpnW.bad {T:TypeId} {g:Nat} {s:Lg} {r:Int} {w w':World} (h:r≠0):OpnW T g s r w (.returned (.tuple #[.pointer none,.int .i64 r])) w':=.inr ⟨h,rfl⟩
section
variable {w w':World} {q g B:Nat} {s:Lg} {X:TypeId→Bool}
theorem LrB.below (h:LrB w q g s) (hb:Below w.heap.size w w'):LrB w' q g s:=tr_bl hb h
theorem LrB.kt (h:LrB w q g s) (hk:Kt B w w'):LrB w' q g s:=hk.ty _ _ _ h (by decide) (by decide) (by decide)
theorem LrB.kx (h:LrB w q g s) (hk:Kx rT B w w'):LrB w' q g s:=hk.ty _ _ _ h (by decide)
theorem LrB.kf (h:LrB w q g s) (hk:Kx fT B w w'):LrB w' q g s:=hk.ty _ _ _ h (by decide)
theorem LrB.c0 (h:LrB w q g s):w.cell? ⟨q,0,none⟩=some (.pointer (some ⟨g,0,none⟩)):=blk_cell h 0 _ rfl
theorem LrB.c1 (h:LrB w q g s):w.cell? ⟨q,1,none⟩=some (.int .i64 s.rep):=blk_cell h 1 _ rfl
theorem LrB.c2 (h:LrB w q g s):w.cell? ⟨q,2,none⟩=some (.int .i64 s.inc):=blk_cell h 2 _ rfl
theorem LrB.c3 (h:LrB w q g s):w.cell? ⟨q,3,none⟩=some (.int .i64 s.snap):=blk_cell h 3 _ rfl
theorem LgB.kx (h:LgB w q g s) (hk:Kx rT B w w'):LgB w' q g s:=hk.ty _ _ _ h (by decide)
theorem LgB.kf (h:LgB w q g s) (hk:Kx fT B w w'):LgB w' q g s:=hk.ty _ _ _ h (by decide)
theorem rfits11_any (n:Int) (w:World):Calls Tryz.prog 76 #[.int .i64 n] w fun e w'=>e=.returned (.bool (fitW n))∧w=w':=by
 unfold fitW
 by_cases h:0≤n
 ·rw [decide_eq_true h]
  go_enter func76,ntmps76
  go_wp2
  go_ret
  exact ⟨ret_bool (by simp),rfl⟩
 ·rw [decide_eq_false h]
  go_enter func76,ntmps76
  go_wp2
  go_ret
  exact ⟨ret_bool (by simp),rfl⟩
def hasW (s:Lg) (i:Int):Bool:=decide (s.snap < i) && decide (i≤s.snap+24)
theorem rhas11_any (h:LrB w q g s) (hs:0≤s.snap∧s.snap≤1099511627752) (i:Int):Calls Tryz.prog 85 #[.pointer (some ⟨q,0,none⟩),.int .i64 i] w fun e w'=>e=.returned (.bool (hasW s i))∧w=w':=by
 have c3:=h.c3
 unfold hasW
 by_cases h1:s.snap < i
 ·rw [decide_eq_true h1]
  go_enter func85,ntmps85
  go_wp2
  go_ret
  exact ⟨ret_bool (by simp),rfl⟩
 ·rw [decide_eq_false h1]
  go_enter func85,ntmps85
  go_wp2
  go_ret
  exact ⟨rfl,rfl⟩
theorem live_has {d:Dk} {i:Int} (h:hasW s i=true):liveW d s i=if upD d=false then 5 else 0:=by
 unfold hasW at h
 rw [Bool.and_eq_true,decide_eq_true_iff,decide_eq_true_iff] at h
 unfold liveW
 rw [if_neg (by omega)]
theorem has_not {d:Dk} {i:Int} (h:hasW s i=false):liveW d s i=2:=by
 unfold liveW
 rw [if_pos]
 unfold hasW at h
 by_cases h1:s.snap < i
 ·rw [decide_eq_true h1,Bool.true_and,decide_eq_false_iff_not] at h
  omega
 ·omega
end
section
variable {B g:Nat} {qq:RQ} {d:Dk} {w:World}
theorem up_is (R:RefB B g qq d w):upD d=(!d.down && !d.dead):=by unfold upD;rw [decide_eq_true R.n0];rfl
theorem up_cases (R:RefB B g qq d w):(upD d=true∧d.down=false∧d.dead=false)∨(upD d=false∧d.down=false∧d.dead=true)∨(upD d=false∧d.down=true):=by
 rw [up_is R]
 cases d.down <;> cases d.dead <;> simp
theorem ropen11_any (R:RefB B g qq d w) (rep inc snap:Int) (h156:156≤d.pl.length):Calls Tryz.prog 22 #[.pointer (some ⟨g,0,none⟩),.int .i64 rep,.int .i64 inc,.int .i64 snap] w fun e w'=>OpnW 81 g ⟨rep,inc,snap⟩ (openE d rep inc snap) w e w'∧Below w.heap.size w w':=by
 have hfi:=fun w=>rfits11_any snap w
 have c0:=R.c0
 have c4:=R.c4
 have c5:=R.c5
 have hn0:¬ ((d.pl.length:Int) < 156):=by omega
 have hup:=up_cases R
 clear R
 rcases (show rep < 0∨(¬ rep < 0∧6 < rep)∨(¬ rep < 0∧¬ 6 < rep∧inc < 1)∨(¬ rep < 0∧¬ 6 < rep∧¬ inc < 1∧1099511627776 < inc)∨(¬ rep < 0∧¬ 6 < rep∧¬ inc < 1∧¬ 1099511627776 < inc) by omega) with h | ⟨h1,h⟩ | ⟨h1,h2,h⟩ | ⟨h1,h2,h3,h⟩ | ⟨h1,h2,h3,h4⟩
 ·skip
  have hr:openE d rep inc snap=2:=by unfold openE;rw [if_pos (by omega)]
  rw [hr]
  clear hr
  go_enter func22,ntmps22
  go_wp2_with (go_at_call 76;refine (hfi _).mono ?_;rintro e w1 ⟨rfl,rfl⟩)
  go_ret2
  exact ⟨OpnW.bad (by decide),Below.refl _ _⟩
 ·skip
  have hr:openE d rep inc snap=2:=by unfold openE;rw [if_pos (by omega)]
  rw [hr]
  clear hr
  go_enter func22,ntmps22
  go_wp2_with (go_at_call 76;refine (hfi _).mono ?_;rintro e w1 ⟨rfl,rfl⟩)
  go_ret2
  exact ⟨OpnW.bad (by decide),Below.refl _ _⟩
 ·skip
  have hr:openE d rep inc snap=2:=by unfold openE;rw [if_pos (by omega)]
  rw [hr]
  clear hr
  go_enter func22,ntmps22
  go_wp2_with (go_at_call 76;refine (hfi _).mono ?_;rintro e w1 ⟨rfl,rfl⟩)
  go_ret2
  exact ⟨OpnW.bad (by decide),Below.refl _ _⟩
 ·skip
  have hr:openE d rep inc snap=2:=by unfold openE;rw [if_pos (by omega)]
  rw [hr]
  clear hr
  go_enter func22,ntmps22
  go_wp2_with (go_at_call 76;refine (hfi _).mono ?_;rintro e w1 ⟨rfl,rfl⟩)
  go_ret2
  exact ⟨OpnW.bad (by decide),Below.refl _ _⟩
 ·cases hf:fitW snap
  ·rw [hf] at hfi
   skip
   have hr:openE d rep inc snap=2:=by unfold openE;rw [if_pos (by simp [hf])]
   rw [hr]
   clear hr
   go_enter func22,ntmps22
   go_wp2_with (go_at_call 76;refine (hfi _).mono ?_;rintro e w1 ⟨rfl,rfl⟩)
   go_ret2
   exact ⟨OpnW.bad (by decide),Below.refl _ _⟩
  ·rw [hf] at hfi
   have hr:openE d rep inc snap=if upD d=false then 5 else 0:=by unfold openE;rw [if_neg (by rw [hf];simp;omega)]
   rw [hr]
   clear hr hf
   rcases hup with ⟨hu,e1,e2⟩ | ⟨hu,e1,e2⟩ | ⟨hu,e1⟩
   ·rw [hu]
    rw [e1] at c4
    rw [e2] at c5
    clear hu
    go_enter func22,ntmps22
    go_wp2_with (go_at_call 76;refine (hfi _).mono ?_;rintro e w1 ⟨rfl,rfl⟩)
    go_ret2
    exact ⟨.inl ⟨rfl,_,rfl,Nat.le_refl _,heap_alloc_new _ (Obj.cells #[.pointer (some ⟨g,0,none⟩),.int .i64 rep,.int .i64 inc,.int .i64 snap] 81)⟩,blw _ (Obj.cells #[.pointer (some ⟨g,0,none⟩),.int .i64 rep,.int .i64 inc,.int .i64 snap] 81)⟩
   ·rw [hu]
    rw [e1] at c4
    rw [e2] at c5
    clear hu
    go_enter func22,ntmps22
    go_wp2_with (go_at_call 76;refine (hfi _).mono ?_;rintro e w1 ⟨rfl,rfl⟩)
    go_ret2
    exact ⟨OpnW.bad (by decide),Below.refl _ _⟩
   ·rw [hu]
    rw [e1] at c4
    clear hu
    go_enter func22,ntmps22
    go_wp2_with (go_at_call 76;refine (hfi _).mono ?_;rintro e w1 ⟨rfl,rfl⟩)
    go_ret2
    exact ⟨OpnW.bad (by decide),Below.refl _ _⟩
end
end
section
theorem calls_marks {P:Program} {f:FuncId} {fn:Func} {c:Code} {args:Array Value} {w:World} {R:Ending→World→Prop} (hf:P.funcs[f]?=some fn) (hb:fn.body=some c)
  (h:c.wp P (bodyPostM Fence.wide 3 P fn R) { tmps:=args++Array.replicate (fn.ntmps - args.size) undef,defers:=[] } w):Calls P f args w R:=
 callsIn_wide.1 (callsIn_of_wp_marks (F:=Fence.wide) (n:=3) hf hb trivial (wpIn_wide.2 h))
structure KpH (n m:Nat) (W W':World):Prop where
 bl:Below n W W'
 bx:∀ k,m≤k→k < m+4→W'.heap[k]?=W.heap[k]?
theorem KpH.trans {n m:Nat} {A B C:World} (h:KpH n m A B) (k:KpH n m B C):KpH n m A C:=⟨h.bl.trans k.bl,fun i h1 h2=>(k.bx i h1 h2).trans (h.bx i h1 h2)⟩
theorem KpH.put {n m:Nat} {w:World} (hn:n≤w.heap.size) (hm:m+4≤w.heap.size) (W:World) (l:Nat) (o o':Obj) (hl:w.heap.size≤l) (h:W.heap[l]?=some o) (h1:o.isCells=false) (h2:o.isWalk=false):KpH n m W (W.putObj l o'):=
 ⟨belowK_b hn W l o o' hl h h1 h2,fun k _ hk=>(grownBy_putObj' W l o').block k (by have:=(Array.getElem?_eq_some_iff.1 h).1;omega) (fun e=>by cases e;omega)⟩
theorem KpH.below {n m:Nat} {W W':World} (h:Below W.heap.size W W') (hn:n≤W.heap.size) (hm:m+4≤W.heap.size):KpH n m W W':=⟨h.mono hn,fun k _ hk=>h.block k (by omega)⟩
theorem gb_none {w w':World} (h:Below w.heap.size w w'):w.grownBy w' none:=⟨h.os,h.tape,h.output,h.size,fun i hi _=>h.block i hi⟩
theorem abides_bl {β:Type} {B:Nat} {J:β→World→Prop} (hJ:AbidesFrom B J) {s:β} {w w':World} (hs:J s w) (h:Below w.heap.size w w'):J s w':=hJ s w w' none hs (gb_none h) (fun r e=>by cases e)
theorem marks_ret {P:Program} {fn:Func} {R:Ending→World→Prop} {tmps:Array Value} {D:Nat} {v:Value} {w:World} (hK:w.heap[D]?=some (.deferred (some []))) (hres:(results fn tmps).run P (w.putObj D (.deferred none))=.ok v (w.putObj D (.deferred none)))
  (hR:R (.returned v) (w.putObj D (.deferred none))):bodyPostM Fence.wide 3 P fn R .ret { tmps:=tmps,defers:=[{ target:=.collected D,args:=#[] }] } w:=
 ⟨by simp,.inl ⟨_,_,rfl,run_takeDeferred hK,v,hres,hR⟩⟩
theorem below_mark {n D:Nat} {w W:World} (h:Below n w W) (hD:n≤D):Below n w (W.putObj D (.deferred none)):=
 h.trans ⟨rfl,rfl,rfl,by simp [World.putObj],fun k hk=>World.putObj_heap_other (by omega)⟩
end
section
structure KpB (n m:Nat) (A B:World):Prop where
 bl:Below n A B
 bx:B.heap[m]?=A.heap[m]?
theorem KpB.trans {n m:Nat} {A B C:World} (h:KpB n m A B) (k:KpB n m B C):KpB n m A C:=⟨h.bl.trans k.bl,k.bx.trans h.bx⟩
theorem KpB.put {n m:Nat} {W:World} {l:Nat} {o:Obj} (o':Obj) (hn:n≤l) (hm:m < l) (h:W.heap[l]?=some o):KpB n m W (W.putObj l o'):=by
 have hl:=(Array.getElem?_eq_some_iff.1 h).1
 exact ⟨(Below.refl n W).grown (grownBy_putObj' W l o') (by omega) (fun k e=>by cases e;exact hn),(grownBy_putObj' W l o').block m (by omega) (fun e=>by cases e;omega)⟩
def Carry {α:Type} (B m:Nat) (I:List α→World→Prop):Prop:=
 ∀ s A B' row,I s A→A.grownBy B' row→(∀ r,row=some r→r=m∨(B≤r∧∃ o:Obj,A.heap[r]?=some o∧o.isCells=false))→I s B'
theorem Carry.put {α:Type} {B m l:Nat} {I:List α→World→Prop} (h:Carry B m I) {s:List α} {W:World} {o:Obj} (o':Obj) (hs:I s W) (hB:B≤l) (hl:W.heap[l]?=some o) (ho:o.isCells=false):I s (W.putObj l o'):=
 h s W _ (some l) hs (grownBy_putObj' W l o') (fun r e=>by cases e;exact .inr ⟨hB,o,hl,ho⟩)
theorem Carry.al {α:Type} {B m:Nat} {I:List α→World→Prop} (h:Carry B m I) {s:List α} {W:World} (o:Obj) (hs:I s W):I s (W.alloc o):=
 h s W _ none hs (World.grownBy_alloc W o none) (fun r e=>by cases e)
end
section
theorem wp_range_h {α:Type} {P:Program} {g:Operand} {ps:Array Tmp} {assign body:Code} {Q:Exit→Act→World→Prop} {a:Act} {w:World}
  {gf:Nat} {lb:Array Value} (hg:a.eval g=.func (.func gf) #[] lb) (eg:∀ args w,(callFunc gf args).run P w=.ok (.enter gf args) w)
  {encs:α→Array Value} {Kp:World→World→Prop} {S Sp:List α→Prop} {N:Nat} (hseq:SeqStopsK Fence.wide 2 P gf lb encs Kp S Sp N w)
  (hKt:∀ {A B C:World},Kp A B→Kp B C→Kp A C) (hKb:∀ (W:World) (l:Nat) (o o':Obj),w.heap.size≤l→W.heap[l]?=some o→o.isCells=false→o.isWalk=false→Kp W (W.putObj l o')) (hps:∀ x,(encs x).size=ps.size)
  (I:List α→World→Prop) (Ix:Code→List α→World→Prop) (hI:OwnFrom w.heap.size I) (hIx:∀ c,OwnFrom w.heap.size (Ix c)) (h0:I [] w) (Ax:α→Act→World→Prop) (hAx:∀ x a',OwnFrom w.heap.size (fun (_:Unit) W=>Ax x a' W))
  (hassign:∀ (l:Nat) (pre:List α) (x:α) (W:World) (K:Act→World→Prop),I pre W→(∀ a' W',KeepsFrom w.heap.size W W'→Kp W W'→I pre W'→Ax x a' W'→K a' W') →
   assign.wpIn (Fence.wide.inRound l) (3 - 1 - 1) P (Exit.then K (fun _ _ _=>False)) { tmps:=(ps.zip (encs x)).foldl (fun t (p,v)=>t.setIfInBounds p v) a.tmps,defers:=[] } W)
  (hbody:∀ (l:Nat) (pre:List α) (x:α) (a':Act) (W:World),I pre W→Ax x a' W→pre.length < N→body.wpIn (Fence.wide.inRound l) (3 - 1 - 1) P (ownPostG w.heap.size Kp I Ix (pre++[x]) W) a' W)
  (hdone:∀ (D:Nat) (xs:List α) (W:World),w.heap.size≤D→S xs→I xs W→W.heap[D]?=some (.deferred (some []))→Q .normal { a with defers:={ target:=.collected D,args:=#[] } :: a.defers } W)
  (hstop:∀ (D:Nat) (c:Code) (pre:List α) (W:World),w.heap.size≤D→Sp pre→Ix c pre W→W.heap[D]?=some (.deferred (some []))→c.wp P Q { a with defers:={ target:=.collected D,args:=#[] } :: a.defers } W) :
  (Code.rangeFunc g ps assign body).wp P Q a w:=
 wpIn_wide.1 (wpIn_rangeFunc_ownH (F:=Fence.wide) (n:=3) rfl (by decide) hg trivial eg hseq hKt hKb (Below.refl _ _) hps I Ix hI hIx h0 Ax hAx hassign (fun l pre x a' W _ _ h1 h2 h3=>hbody l pre x a' W h1 h2 h3) hdone (fun D c pre W h1 h2 h3 h4=>wpIn_wide.2 (hstop D c pre W h1 h2 h3 h4)))
theorem KpB.put2 {n m:Nat} {w:World} (hn:n≤w.heap.size) (hm:m < w.heap.size) (W:World) (l:Nat) (o o':Obj) (hl:w.heap.size≤l) (h:W.heap[l]?=some o) (_:o.isCells=false) (_:o.isWalk=false):KpB n m W (W.putObj l o'):=KpB.put o' (by omega) (by omega) h
theorem KpB.below {n m:Nat} {W W':World} (h:Below W.heap.size W W') (hn:n≤W.heap.size) (hm:m < W.heap.size):KpB n m W W':=⟨h.mono hn,h.block m hm⟩
theorem KpB.refl (n m:Nat) (W:World):KpB n m W W:=⟨Below.refl _ _,rfl⟩
end
section
open Go.RowKit Go.Shelf
def slotW (d:Dk) (s:Lg) (k:Nat):Int×Rpt:=((repW d s (s.snap+1+k)).1,rptW d s (s.snap+1+k))
def slotsL (d:Dk) (s:Lg) (n:Nat):List (Int×Rpt):=(List.range n).map (slotW d s)
theorem slotsL_succ (d:Dk) (s:Lg) (n:Nat):slotsL d s (n+1)=slotsL d s n++[slotW d s n]:=by
 unfold slotsL
 rw [List.range_succ,List.map_append]
 rfl
theorem slotsL_len (d:Dk) (s:Lg) (n:Nat):(slotsL d s n).length=n:=by simp [slotsL]
theorem yld_bool {e:Ending} {A C:Prop} (h:(e=.returned (.bool true)∧A)∨(e=.returned (.bool false)∧C)):∃ b,e=.returned (.bool b)∧((b=true∧A)∨(b=false∧C)):=by
 rcases h with ⟨h1,h2⟩ | ⟨h1,h2⟩
 ·exact ⟨true,h1,.inl ⟨rfl,h2⟩⟩
 ·exact ⟨false,h1,.inr ⟨rfl,h2⟩⟩
section
variable {B g gp q:Nat} {wv:Value} {d:Dk} {wc w:World} {s:Lg}
theorem lslots_any (w:World):Calls Tryz.prog 91 #[.pointer (some ⟨q,0,none⟩)] w fun e w'=>e=.returned (.func (.func 166) #[] #[.pointer (some ⟨w.heap.size,0,none⟩)])∧w'=w.alloc (Obj.cells #[.pointer (some ⟨q,0,none⟩)] 62):=by
 go_enter func91,ntmps91
 go_wp2
 go_ret
 exact ⟨rfl,rfl⟩
theorem lslots_in (h:LgB wc q g s) (hd:DiskB B g gp wv d wc) (hs:LgOk s) (m l:Nat) (J Jx:List (Int×Rpt)→World→Prop) (W:World) (hm:wc.heap.size≤m) (hm2:m < W.heap.size) (hB:Below wc.heap.size wc W) (hq:W.cell? ⟨m,0,none⟩=some (.pointer (some ⟨q,0,none⟩))) (hJ:AbidesFrom W.heap.size J)
  (hY:∀ pre x W1,J pre W1→pre.length < 24→YieldAt Fence.wide 1 Tryz.prog l #[.int .u8 x.1,.agg (rptA x.2)] W1 fun e W'=>(e=.returned (.bool true)∧J (pre++[x]) W'∧KpB wc.heap.size m W1 W')∨(e=.returned (.bool false)∧Jx (pre++[x]) W')) (h0:J [] W) :
  CallsIn Fence.wide 2 Tryz.prog 166 (#[.func (.yield l) #[] #[]]++#[.pointer (some ⟨m,0,none⟩)]) W fun e W'=>(∃ v,e=.returned v)∧((∃ xs,xs=slotsL d s 24∧J xs W')∨(∃ pre,True∧Jx pre W')):=by
 refine callsIn_of_wp func166 rfl trivial ?_ rfl
 simp only [ntmps166,List.size_toArray,List.length_cons,List.length_nil,Nat.reduceAdd,Nat.reduceSub,Array.replicate_succ,Array.replicate_zero,List.push_toArray,List.append_toArray,List.nil_append,List.cons_append]
 have hsp:=hs.p
 have HY:=Lib.hid hY
 clear hY
 gi_wp2
 gi_loopw [4,3] (fun i _ wr=>∃ k:Nat,k≤24∧i=.int .i64 k∧J (slotsL d s k) wr∧KpB wc.heap.size m W wr) (fun i _ _=>24 - (Go.RowKit.intOf i).toNat)
 case atStart=>exact ⟨0,by omega,rfl,h0,KpB.refl _ _ _⟩
 case round=>
  obtain ⟨k,hk,rfl,hJs,hKr⟩:=hrel
  by_cases hlt:k < 24
  ·have hbr:=hB.trans hKr.bl
   have L1:=h.below hbr
   have D1:=hd.below hbr
   have c3:=L1.c3
   have cm:wr.cell? ⟨m,0,none⟩=some (.pointer (some ⟨q,0,none⟩)):=by
    unfold World.cell? at hq ⊢
    simp only at hq ⊢
    rw [hKr.bx]
    exact hq
   have hyk:=HY.out (slotsL d s k) (slotW d s k)
   rw [← slotsL_succ] at hyk
   have hll:=slotsL_len d s k
   have hwa:=fun w' (L:LgB w' q g s) (D:DiskB B g gp wv d w')=>wwhat_any L D (s.snap+1+k) (by omega) (by omega)
   have hyk2:=fun W1 hj=>hyk W1 hj (by omega)
   have hst:slotW d s k=((repW d s (s.snap+1+k)).1,rptW d s (s.snap+1+k)):=rfl
   rw [hst] at hyk2
   simp only at hyk2
   have e9:rptA (rptW d s (s.snap+1+k))=rpA (s.snap+1+k) (repW d s (s.snap+1+k)).2.1 (repW d s (s.snap+1+k)).2.2.1 (repW d s (s.snap+1+k)).2.2.2:=rfl
   rw [e9] at hyk2
   generalize repW d s (s.snap+1+k)=z at *
   clear hll hst e9 hyk
   have hki:(k:Int) < 24:=by omega
   have hbd:=(Below.refl wr.heap.size wr).drew
   have hwd:=hwa _ (L1.below hbd) (D1.below hbd)
   have hmx:Tryz.prog.follows .mixedOrders=true:=by kernel_rfl
   have hz1:IntKind.i64.wrap (s.snap+1)=s.snap+1:=IntWalk.i64_in _ (by omega)
   have hz2:IntKind.i64.wrap (s.snap+1+k)=s.snap+1+k:=IntWalk.i64_in _ (by omega)
   gi_wp2
   gi_region_with_o (first | (refine hR.mono ?_;rintro e W3 h3;obtain ⟨yb,rfl,h4⟩:=yld_bool h3) | (refine ⟨trivial,?_⟩;(try rw [hz1,hz2]);gi_at_call 167;refine (callsIn_wide.2 hwd).mono ?_;rintro e w3 ⟨rfl,hb3⟩;have hb4:=hbd.trans (hb3.mono hbd.size);obtain ⟨fn,tmps,assign,body,hy,hR⟩:=hyk2 w3 (abides_bl hJ hJs hb4)))
   all_goals
    rcases h4 with ⟨rfl,hJ3,hk4⟩ | ⟨rfl,hJx3⟩
    ·gi_wp2
     have hsz:=hKr.bl.size
     go_roundw
     case rel=>exact ⟨k+1,by omega,by go_num,hJ3,(hKr.trans (KpB.below hb4 (by omega) (by omega))).trans hk4⟩
     case measure=>simp [Go.RowKit.intOf];omega
    ·gi_wp2
     refine bodyPost_ret (results_none rfl _ _ _) rfl ?_
     first | exact ⟨⟨_,rfl⟩,.inr ⟨_,trivial,hJx3⟩⟩ | exact ⟨⟨_,rfl⟩,.inr ⟨_,hJx3⟩⟩
  ·obtain rfl:k=24:=by omega
   gi_wp2
   go_end0
   exact ⟨⟨_,rfl⟩,.inl ⟨_,rfl,hJs⟩⟩
theorem lslots_stops (h:LgB wc q g s) (hd:DiskB B g gp wv d wc) (hs:LgOk s) (m:Nat) (hm:wc.heap.size≤m) (hm2:m < w.heap.size) (hB:Below wc.heap.size wc w) (hq:w.cell? ⟨m,0,none⟩=some (.pointer (some ⟨q,0,none⟩))) :
  SeqStopsK Fence.wide 2 Tryz.prog 166 #[.pointer (some ⟨m,0,none⟩)] (fun x:Int×Rpt=>#[Value.int .u8 x.1,.agg (rptA x.2)]) (KpB wc.heap.size m) (fun xs=>xs=slotsL d s 24) (fun _=>True) 24 w:=
 fun l J Jx W hW hJ _ hY h0=>lslots_in h hd hs m l J Jx W hm (Nat.lt_of_lt_of_le hm2 hW.size) (hB.trans (hW.mono (by omega))) (cell_later hW hq) hJ hY h0
end
end
section
open Go.RowKit Go.Shelf Go.Maps
attribute [local go_sem] Oper.semAt_some
def toldC (x:Int×Rpt):Bool:=x.1==3 || x.1==2
def toldL (l:List (Int×Rpt)):List Rpt:=(l.filter toldC).map (·.2)
def rptC (r:Rpt):List Value:=(rptA r).toList
theorem rptC_len (r:Rpt):(rptC r).length=11:=rfl
theorem toldL_snoc (l:List (Int×Rpt)) (x:Int×Rpt):toldL (l++[x])=toldL l++(if toldC x=true then [x.2] else []):=by
 unfold toldL
 rw [List.filter_append,List.map_append]
 cases h:toldC x <;> simp [h]
theorem toldL_len (l:List (Int×Rpt)):(toldL l).length≤l.length:=by
 unfold toldL
 rw [List.length_map]
 exact List.length_filter_le _ _
def allW (d:Dk) (s:Lg):List Rpt:=toldL (slotsL d s 24)
theorem infoRp:(Tryz.prog.info? 163).map (fun i=>(i.zero,i.size,i.bytes))=some (some (.agg (rptA zeroR')),11,112):=by kernel_rfl
def InvA (w:World) (pre:List (Int×Rpt)) (W:World):Prop:=(∃ v,Boxed W w.heap.size 82 v∧W.ownsRow (w.heap.size+2) 163 11 v (toldL pre).length ((toldL pre).flatMap rptC)∧True)∧Below w.heap.size w W∧w.heap.size+2≤W.heap.size
theorem ownFrom_invA (w:World) {B:Nat} (hB:w.heap.size+2≤B):OwnFrom B (InvA w):=
 OwnFrom.and (Own.from (holdsRow_own (w.heap.size+2) w.heap.size 82 163 11 (fun (pre:List (Int×Rpt))=>(toldL pre).length) (fun (pre:List (Int×Rpt))=>(toldL pre).flatMap rptC) (fun _ _=>True)) B) (OwnFrom.and (ownFrom_below (Nat.le_refl _) (by omega)) (fun _ _ _ _ hs hg _=>Nat.le_trans hs hg.size))
theorem box_appW {W w1:World} {n₀ n1 B m:Nat} {t e:TypeId} {size:Nat} {v v':Value} {k k':Nat} {xs ys:List Value} {tmp:Obj}
  (hv:Boxed W B t v) (hte:t≠e) (hrow:W.ownsRow n1 e size v k xs) (hn1:n1≤W.heap.size) (hB:n₀≤B) (hBm:B < m) (hm:m < n1)
  (hown':w1.ownsRow n1 e size v' k' ys) (hgrow:(W.alloc tmp).grownBy w1 v.ownBlock) :
  Boxed w1 B t v∧Boxed (w1.setCell ⟨B,0,none⟩ v') B t v'∧(w1.setCell ⟨B,0,none⟩ v').ownsRow n1 e size v' k' ys∧KeepsOthers W (w1.setCell ⟨B,0,none⟩ v')∧KpB n₀ m W (w1.setCell ⟨B,0,none⟩ v')∧∀ k,k < n1→k≠B→(w1.setCell ⟨B,0,none⟩ v').heap[k]?=W.heap[k]?:=by
 obtain ⟨h1,h2,_,h4,h5⟩:=hv.appended hte (owns_mono hrow (show n₀≤n1 by omega)) (by omega) hB (owns_mono hown' (show n₀≤n1 by omega)) hgrow
 have hk:∀ k,k < n1→k≠B→(w1.setCell ⟨B,0,none⟩ v').heap[k]?=W.heap[k]?:=fun k hk1 hk2=>by
  have hkw:k < W.heap.size:=by omega
  have e1:(w1.setCell ⟨B,0,none⟩ v').heap[k]?=w1.heap[k]?:=Below.heap_setCell _ _ _ k (by simp only;omega)
  have e2:w1.heap[k]?=(W.alloc tmp).heap[k]?:=hgrow.block k (by simp;omega) (fun e=>by
   rcases hrow.2 with ⟨rfl,_⟩ | ⟨g,cap,cur,rfl,hg,_⟩
   ·simp [Value.ownBlock] at e
   ·simp [Value.ownBlock] at e
    omega)
  exact e1.trans (e2.trans (Below.heap_alloc W tmp k hkw))
 exact ⟨h1,h2,hown'.kept (grownBy_setCell' w1 B v') (.inr (h1.not_row hte hown').symm),h4,⟨h5,hk m hm (by omega)⟩,hk⟩
def actA (q g F:Nat) (x:Int×Rpt) (q9:Nat):Act:={ tmps:=#[Value.pointer (some ⟨q,0,none⟩),undef,.slice none 0 0,.int .i64 0,Value.pointer (some ⟨F,0,none⟩),.int .u8 x.1,Value.pointer (some ⟨q9,0,none⟩),Value.pointer (some ⟨q,0,none⟩),.bool false,Value.pointer (some ⟨q,0,none⟩),Value.pointer (some ⟨q,0,none⟩),Value.pointer (some ⟨q,0,none⟩),Value.pointer (some ⟨g,0,none⟩),.bool true,.bool false,Value.pointer (some ⟨q,0,none⟩),.func (.func 166) #[] #[.pointer (some ⟨F+1,0,none⟩)],.int .u8 x.1,.agg (rptA x.2),undef,undef,undef,undef,undef,undef,undef,undef,undef,undef,undef],defers:=[] }
def AxA (q g F:Nat) (x:Int×Rpt) (a':Act) (W:World):Prop:=∃ q9,F+2≤q9∧W.heap[q9]?=some (Obj.cells (rptA x.2) 163 (0,0))∧a'=actA q g F x q9
theorem ownFrom_axA (B q g F:Nat) (x:Int×Rpt) (a':Act):OwnFrom B (fun (_:Unit) W=>AxA q g F x a' W):=by
 rintro s W W' row ⟨q9,hq,hx,e⟩ hg hr
 refine ⟨q9,hq,(hg.block q9 (Array.getElem?_eq_some_iff.1 hx).1 (fun e2=>?_)).trans hx,e⟩
 obtain ⟨_,o,ho,hc⟩:=hr q9 e2.symm
 rw [hx] at ho
 injection ho with ho
 subst ho
 cases hc
theorem new_rowA (w:World) (cs:Array Value) (T:TypeId):∀ (j:Nat) (u:Value),cs.toList[j]?=some u→(w.alloc (Obj.cells cs T)).cell? ((⟨w.heap.size,0,none⟩:Addr).add j)=some u:=fun j u h=>by
 rw [addr_add,Nat.zero_add,cell_new]
 simpa using h
section
variable {B g gp q:Nat} {wv:Value} {d:Dk} {w:World} {s:Lg}
theorem lall_any2 (h:LgB w q g s) (hd:DiskB B g gp wv d w) (hs:LgOk s) (hup:upD d=true):Calls Tryz.prog 28 #[.pointer (some ⟨q,0,none⟩)] w fun e w'=>∃ v,e=.returned (.tuple #[v,.int .i64 0])∧w'.ownsRow w.heap.size 163 11 v (allW d s).length ((allW d s).flatMap rptC)∧Below w.heap.size w w':=by
 refine calls_marks func28 rfl ?_
 simp only [ntmps28,List.size_toArray,List.length_cons,List.length_nil,Nat.reduceAdd,Nat.reduceSub,Array.replicate_succ,Array.replicate_zero,List.push_toArray,List.append_toArray,List.nil_append,List.cons_append]
 obtain ⟨i0,hi,hz0,hz1,hz2⟩:=info_parts infoRp
 have hno:=lnone_any2 h
 have hu:=up_any hd
 rw [hup] at hu
 have c0:=h.c0
 go_wp2_with (first
  | (go_at_call 90;refine hno.mono ?_;rintro e w1 ⟨rfl,rfl⟩)
  | (go_at_call 43;refine hu.mono ?_;rintro e w1 ⟨rfl,rfl⟩))
 refine (lslots_any (q:=q) _).mono ?_
 rintro e w1 ⟨rfl,rfl⟩
 go_wp2
 have hb0:=blw w (Obj.cells #[.slice none 0 0] 82)
 have hb2:=hb0.trans ((blw (w.alloc (Obj.cells #[.slice none 0 0] 82)) (Obj.cells #[.pointer (some ⟨q,0,none⟩)] 62)).mono hb0.size)
 have hbx:Boxed ((w.alloc (Obj.cells #[.slice none 0 0] 82)).alloc (Obj.cells #[.pointer (some ⟨q,0,none⟩)] 62)) w.heap.size 82 (.slice none 0 0):=tr_al (Obj.cells #[.pointer (some ⟨q,0,none⟩)] 62) (heap_alloc_new w (Obj.cells #[.slice none 0 0] 82))
 have hsz:((w.alloc (Obj.cells #[.slice none 0 0] 82)).alloc (Obj.cells #[.pointer (some ⟨q,0,none⟩)] 62)).heap.size=w.heap.size+2:=by simp
 have hq2:((w.alloc (Obj.cells #[.slice none 0 0] 82)).alloc (Obj.cells #[.pointer (some ⟨q,0,none⟩)] 62)).cell? ⟨w.heap.size+1,0,none⟩=some (.pointer (some ⟨q,0,none⟩)):=blk_cell (new_two w (Obj.cells #[.slice none 0 0] 82) (Obj.cells #[.pointer (some ⟨q,0,none⟩)] 62)) 0 _ rfl
 have hI0:InvA w [] ((w.alloc (Obj.cells #[.slice none 0 0] 82)).alloc (Obj.cells #[.pointer (some ⟨q,0,none⟩)] 62)):=⟨⟨_,hbx,World.ownsRow_nil _ _ _ _,trivial⟩,hb2,by omega⟩
 clear hbx
 generalize (w.alloc (Obj.cells #[.slice none 0 0] 82)).alloc (Obj.cells #[.pointer (some ⟨q,0,none⟩)] 62)=w2 at *
 have hsq:=lslots_stops h hd hs (w:=w2) (w.heap.size+1) (by omega) (by omega) hb2 hq2
 have hkb:=KpB.put2 (n:=w.heap.size) (m:=w.heap.size+1) (w:=w2) (by omega) (by omega)
 have hIo:=ownFrom_invA w (B:=w2.heap.size) (by omega)
 have hen:=enters_of func166 (by kernel_rfl) rfl
 refine wp_range_h (gf:=166) rfl hen hsq KpB.trans hkb (fun _=>rfl) (InvA w) (fun _ _ _=>False) hIo (fun _ _ _ _ _ hs _ _=>hs) hI0
  (AxA q g w.heap.size) (fun x a'=>ownFrom_axA _ _ _ _ x a') ?assign ?body ?done ?stop
 case assign=>
  intro l pre x W K hI hK
  have hsW:=hI.2.2
  have hK2:=fun W' h1 h2 h3 q h4 h5=>hK _ W' h1 h2 h3 ⟨q,h4,h5,rfl⟩
  clear hK
  unfold actA at hK2
  obtain ⟨cl,⟨ri,rs,⟨br,bp⟩,⟨kd,ec,es,⟨ok,key,old,val⟩⟩⟩⟩:=x
  simp only [rptA,rpA] at hK2 ⊢
  gi_wp2
  refine hK2 _ ?_ ?_ ?_ W.heap.size hsW (heap_alloc_new W _)
  ·exact (KeepsOthers.alloc W _).from _
  ·exact KpB.below (blw W _) (by omega) (by omega)
  ·exact (ownFrom_invA w (B:=w.heap.size+2) (Nat.le_refl _)).alloc _ hI
 case body=>
  rintro l pre x a' W ⟨⟨v,hv,hrow,_⟩,hB,hsW⟩ ⟨q9,hq9,hxq,rfl⟩ hlt
  have hsn:=toldL_snoc pre x
  have hln:=toldL_len pre
  unfold toldC at hsn
  unfold actA
  obtain ⟨cl,⟨ri,rs,⟨br,bp⟩,⟨kd,ec,es,⟨ok,key,old,val⟩⟩⟩⟩:=x
  have hrc:(toldL pre++[(⟨ri,rs,⟨br,bp⟩,⟨kd,ec,es,⟨ok,key,old,val⟩⟩⟩:Rpt)]).flatMap rptC=(toldL pre).flatMap rptC++rptC ⟨ri,rs,⟨br,bp⟩,⟨kd,ec,es,⟨ok,key,old,val⟩⟩⟩:=by simp
  simp only at hsn
  have HRC:=Lib.hid hrc
  have HSN:=Lib.hid hsn
  clear hrc hsn
  cases h3:(cl==3)
  case false=>
   cases h2:(cl==2)
   case false=>
    have hs2:=HSN.out
    rw [h3,h2,if_neg (by decide),List.append_nil] at hs2
    have HS2:=Lib.hid hs2
    clear hs2
    gi_wp2
    exact ⟨(KeepsOthers.refl W).from _,KpB.refl _ _ _,⟨v,hv,by rw [HS2.out];exact hrow,trivial⟩,hB,hsW⟩
   case true=>
    have hs2:=HSN.out
    rw [h3,h2,if_pos (by decide)] at hs2
    have HS2:=Lib.hid hs2
    clear hs2
    simp only [rptA,rpA] at hxq
    have c0:=blk_cell hxq 0 _ rfl
    have c1:=blk_cell hxq 1 _ rfl
    have c2:=blk_cell hxq 2 _ rfl
    have c3:=blk_cell hxq 3 _ rfl
    have c4:=blk_cell hxq 4 _ rfl
    have c5:=blk_cell hxq 5 _ rfl
    have c6:=blk_cell hxq 6 _ rfl
    have c7:=blk_cell hxq 7 _ rfl
    have c8:=blk_cell hxq 8 _ rfl
    have c9:=blk_cell hxq 9 _ rfl
    have c10:=blk_cell hxq 10 _ rfl
    have co:=hv.cell
    have dfz:=hv.frozen
    have hcn:=new_rowA W (rptA ⟨ri,rs,⟨br,bp⟩,⟨kd,ec,es,⟨ok,key,old,val⟩⟩⟩) 163
    gi_wp2_with (gi_at_builtin;refine wpListIn_append_own _ rfl _ _ 82 rfl (w.heap.size+2) 163 i0 (.agg (rptA zeroR')) 11 112 underlying82 hi hz0 hz1 hz2 rfl (by decide) _ _ _ rfl (hrow.alloc _) ⟨W.heap.size,0,none⟩ 1 1 (rptC ⟨ri,rs,⟨br,bp⟩,⟨kd,ec,es,⟨ok,key,old,val⟩⟩⟩) rfl rfl hcn (by simp [rptC,rptA,rpA,Value.oneCell']) (by simp [maxLen];omega) (by omega) (by simp;omega) ?_;intro v' w1 hown' hgrow _;obtain ⟨g',cap',rfl⟩:=ownsRow_succ hown';obtain ⟨hv1,hv3,hr2,hk2,hb2,ho2⟩:=box_appW (n₀:=w.heap.size) (m:=w.heap.size+1) hv (by decide) hrow (by omega) (by omega) (by omega) (by omega) hown' hgrow;have hc1:=hv1.cell;have hf1:=hv1.frozen)
    refine ⟨hk2.from _,hb2,⟨_,hv3,?_,trivial⟩,hB.trans hb2.bl,Nat.le_trans hsW hk2.size⟩
    rw [HS2.out,List.length_append,HRC.out]
    exact hr2
  case true=>
   have hs2:=HSN.out
   rw [h3,if_pos (by rfl)] at hs2
   have HS2:=Lib.hid hs2
   clear hs2
   simp only [rptA,rpA] at hxq
   have c0:=blk_cell hxq 0 _ rfl
   have c1:=blk_cell hxq 1 _ rfl
   have c2:=blk_cell hxq 2 _ rfl
   have c3:=blk_cell hxq 3 _ rfl
   have c4:=blk_cell hxq 4 _ rfl
   have c5:=blk_cell hxq 5 _ rfl
   have c6:=blk_cell hxq 6 _ rfl
   have c7:=blk_cell hxq 7 _ rfl
   have c8:=blk_cell hxq 8 _ rfl
   have c9:=blk_cell hxq 9 _ rfl
   have c10:=blk_cell hxq 10 _ rfl
   have co:=hv.cell
   have dfz:=hv.frozen
   have hcn:=new_rowA W (rptA ⟨ri,rs,⟨br,bp⟩,⟨kd,ec,es,⟨ok,key,old,val⟩⟩⟩) 163
   gi_wp2_with (gi_at_builtin;refine wpListIn_append_own _ rfl _ _ 82 rfl (w.heap.size+2) 163 i0 (.agg (rptA zeroR')) 11 112 underlying82 hi hz0 hz1 hz2 rfl (by decide) _ _ _ rfl (hrow.alloc _) ⟨W.heap.size,0,none⟩ 1 1 (rptC ⟨ri,rs,⟨br,bp⟩,⟨kd,ec,es,⟨ok,key,old,val⟩⟩⟩) rfl rfl hcn (by simp [rptC,rptA,rpA,Value.oneCell']) (by simp [maxLen];omega) (by omega) (by simp;omega) ?_;intro v' w1 hown' hgrow _;obtain ⟨g',cap',rfl⟩:=ownsRow_succ hown';obtain ⟨hv1,hv3,hr2,hk2,hb2,ho2⟩:=box_appW (n₀:=w.heap.size) (m:=w.heap.size+1) hv (by decide) hrow (by omega) (by omega) (by omega) (by omega) hown' hgrow;have hc1:=hv1.cell;have hf1:=hv1.frozen)
   refine ⟨hk2.from _,hb2,⟨_,hv3,?_,trivial⟩,hB.trans hb2.bl,Nat.le_trans hsW hk2.size⟩
   rw [HS2.out,List.length_append,HRC.out]
   exact hr2
 case done=>
  rintro D ys W hD rfl ⟨⟨v,hv,hrow,_⟩,hB,hsW⟩ hK
  have hcl:=hv.cell
  go_wp2
  refine marks_ret hK (results_tmp2 rfl _ _ _) ?_
  exact ⟨_,rfl,owns_mono (ownsRow_putObj hrow _ hK rfl) (by omega),below_mark hB (by omega)⟩
 case stop=>
  rintro D c pre W _ _ h _
  exact h.elim
end
end
section
section
variable {B g gp q:Nat} {wv:Value} {d:Dk} {w w':World} {s:Lg} {b:Bal} {e:En}
theorem lput_ok (h:LgB w q g s) (hd:DiskB B g gp wv d w) (hb:B≤w.heap.size) (hs:LgOk s) (i:Int) (hl:liveW d s i=0) (hbm:mayBl b=true) (hem:mayE e=true) (hw:d.waits.length≤900):Calls Tryz.prog 23 #[.pointer (some ⟨q,0,none⟩),.int .i64 i,.agg (blA b),.agg (enA e)] w fun en w'=>en=.returned (.int .i64 (putW d s i b e).2)∧(∃ wv',DiskB B g gp wv' (putW d s i b e).1 w')∧Kt B w w':=by
 obtain ⟨h1,h2,_⟩:=live_in hs hl
 have hli:=fun w' (h:LgB w' q g s) (D:DiskB B g gp wv d w')=>llive_any2 h D hs.p i
 rw [hl] at hli
 have hpr:=fun w=>eprint_ok (w:=w) (b:=b) (e:=e) hbm hem
 have hre:=fun w' (h:LgB w' q g s) (D:DiskB B g gp wv d w')=>wread_any h D i h1 h2
 have hwh:(recW d s i).wh=0∨(recW d s i).wh=1:=recOf_wh _
 have hnx:=fun w=>next_any2 (p:=recW d s i) (f:=ffW d s i) (i:=i) hwh w
 have hk2:=nextS_lt (recW d s i) (ffW d s i) i
 have hpl:=fun w=>wplace_any i h1 h2 w
 have hbl:=bodyE_len b hem
 obtain ⟨r,hr⟩:∃ r,putW d s i b e=r:=⟨_,rfl⟩
 rw [hr]
 unfold putW at hr
 generalize recW d s i=p at *
 generalize ffW d s i=f at *
 obtain ⟨k,hk⟩:∃ k,nextS p f i=k:=⟨_,rfl⟩
 rw [hk] at hr hnx hk2
 have hsp:=fun w=>sprint_ok (w:=w) (b:=b) hbm k hk2
 have hmy4:=mayT4 hs h1 h2 hk2
 have hmy3:=mayT3 hs h1 h2
 have hpin:=plW_in (i:=i)
 have hf4:=first4 (p:=2 * plW i+k) (by omega)
 have hf3:=first3 hpin
 have hW4:=fun w' (L:LgB w' q g s) (D:DiskB B g gp wv d w') hB a cap S=>lwrite2_any (f:=firstN 4 (2 * plW i+k)) L D hB rfl (by omega) (by omega) i a cap (bodyE b e) S hmy4 (by omega)
 have ht4:=lputD_wt d (firstN 4 (2 * plW i+k)) (frmL s i k b e) 2
 unfold putL1 putL2 at hr
 obtain ⟨r4,hr4⟩:∃ r4,lputD d (firstN 4 (2 * plW i+k)) (frmL s i k b e) 2=r4:=⟨_,rfl⟩
 rw [show sealF ⟨s.rep,4,2 * plW i+k,i,s.inc⟩ (bodyE b e) 128=frmL s i k b e from rfl,hr4] at hW4
 rw [hr4] at hr ht4
 have hW3:=fun w' wv' (L:LgB w' q g s) (D:DiskB B g gp wv' r4.1 w') hB a cap S=>lwrite1_any (f:=firstN 3 (plW i)) L D hB rfl (by omega) (by omega) i a cap (recB b k) S hmy3 (by rw [recB_len];omega)
 obtain ⟨r3,hr3⟩:∃ r3,lputD r4.1 (firstN 3 (plW i)) (frmR s i k b) 1=r3:=⟨_,rfl⟩
 rw [show sealF ⟨s.rep,3,plW i,i,s.inc⟩ (recB b k) 64=frmR s i k b from rfl,hr3] at hW3
 rw [hr3] at hr
 have HR:=Lib.hid hr
 have hki:0≤(k:Int)∧(k:Int) < 2:=by omega
 clear hr hr3 hr4 ht4 hf3 hf4 hmy3 hmy4 hk hwh hbl hs hl hbm hem
 generalize plW i=pp at *
 generalize bodyE b e=body at *
 generalize recB b k=rbd at *
 generalize (k:Int)=ki at *
 have hbB:=blw w (Obj.cells (blA b) 69)
 have hb0:=hbB.trans ((blw (w.alloc (Obj.cells (blA b) 69)) (Obj.cells (enA e) 73)).mono hbB.size)
 have Bx:((w.alloc (Obj.cells (blA b) 69)).alloc (Obj.cells (enA e) 73)).heap[w.heap.size]?=some (.cells (blA b) 69 (0,0)):=tr_al (Obj.cells (enA e) 73) (heap_alloc_new w (Obj.cells (blA b) 69))
 have Ex:((w.alloc (Obj.cells (blA b) 69)).alloc (Obj.cells (enA e) 73)).heap[w.heap.size+1]?=some (.cells (enA e) 73 (0,0)):=new_two w (Obj.cells (blA b) 69) (Obj.cells (enA e) 73)
 have L0:=h.below hb0
 have D0:=hd.below hb0
 go_enter func23,ntmps23
 refine seqH fun K HK=>?_
 go_wp2
 refine HK.out _ _ ?_
 clear HK
 generalize (w.alloc (Obj.cells (blA b) 69)).alloc (Obj.cells (enA e) 73)=w0 at *
 clear h hd hbB
 refine seqH fun K HK=>?_
 go_wp2_with (go_at_call 77;refine (hli _ L0 D0).mono ?_;rintro en w1 ⟨rfl,rfl⟩)
 refine HK.out _ _ ?_
 clear HK
 refine seqH fun K HK=>?_
 go_wp2
 refine HK.out _ _ ?_
 clear HK
 refine seqH fun K HK=>?_
 go_wp2_with (first
   | ((with_reducible refine wpList_ldB 69 _ ?_);refine ⟨rfl,_,⟨_,_,_,_,_,isAgg69,sizeOf69,rfl,‹_›,arr_all rfl⟩,?_⟩)
   | ((with_reducible refine wpList_ldB 73 _ ?_);refine ⟨rfl,_,⟨_,_,_,_,_,isAgg73,sizeOf73,rfl,‹_›,arr_all rfl⟩,?_⟩)
   | (go_at_call 78;refine (hpr _).mono ?_;rintro en w2 ⟨⟨a2,c2,rfl,O2⟩,hb2⟩))
 refine HK.out _ _ ?_
 clear HK
 have L2:=L0.below hb2
 have D2:=D0.below hb2
 have B2:=tr_bl hb2 Bx
 have hx2:=hb0.trans (hb2.mono hb0.size)
 have O2:=O2.mono hb0.size
 clear L0 D0 Bx Ex hb0 hb2 hpr hli
 refine seqH fun K HK=>?_
 go_wp2
 refine HK.out _ _ ?_
 clear HK
 refine seqH fun K HK=>?_
 go_wp2_with (first
   | (go_at_call 79;refine (hre _ L2 D2).mono ?_;rintro en w4 ⟨rfl,hb6⟩;have X40:((w4.alloc (Obj.cells #[.int .u8 0,.int .i64 0,.int .i64 0,.int .i64 0,.int .i64 0] 147)).alloc (Obj.cells #[.int .u8 0,.int .i64 0,.int .i64 0,.int .i64 0,.int .u8 0,.int .i64 0,.int .i64 0,.int .u8 0,.string ⟨#[]⟩,.string ⟨#[]⟩,.string ⟨#[]⟩,.int .u8 0,.int .i64 0,.int .i64 0,.int .i64 0,.int .u8 0,.int .i64 0,.int .i64 0,.int .u8 0,.string ⟨#[]⟩,.string ⟨#[]⟩,.string ⟨#[]⟩] 150)).heap[w4.heap.size]?=some (.cells (recA (zRec 0)) 147 (0,0)):=tr_al (Obj.cells #[.int .u8 0,.int .i64 0,.int .i64 0,.int .i64 0,.int .u8 0,.int .i64 0,.int .i64 0,.int .u8 0,.string ⟨#[]⟩,.string ⟨#[]⟩,.string ⟨#[]⟩,.int .u8 0,.int .i64 0,.int .i64 0,.int .i64 0,.int .u8 0,.int .i64 0,.int .i64 0,.int .u8 0,.string ⟨#[]⟩,.string ⟨#[]⟩,.string ⟨#[]⟩] 150) (heap_alloc_new w4 (Obj.cells #[.int .u8 0,.int .i64 0,.int .i64 0,.int .i64 0,.int .i64 0] 147));have Y40:((w4.alloc (Obj.cells #[.int .u8 0,.int .i64 0,.int .i64 0,.int .i64 0,.int .i64 0] 147)).alloc (Obj.cells #[.int .u8 0,.int .i64 0,.int .i64 0,.int .i64 0,.int .u8 0,.int .i64 0,.int .i64 0,.int .u8 0,.string ⟨#[]⟩,.string ⟨#[]⟩,.string ⟨#[]⟩,.int .u8 0,.int .i64 0,.int .i64 0,.int .i64 0,.int .u8 0,.int .i64 0,.int .i64 0,.int .u8 0,.string ⟨#[]⟩,.string ⟨#[]⟩,.string ⟨#[]⟩] 150)).heap[w4.heap.size+1]?=some (.cells (ffA (fun _=>zCp 0)) 150 (0,0)):=new_two w4 (Obj.cells #[.int .u8 0,.int .i64 0,.int .i64 0,.int .i64 0,.int .i64 0] 147) (Obj.cells #[.int .u8 0,.int .i64 0,.int .i64 0,.int .i64 0,.int .u8 0,.int .i64 0,.int .i64 0,.int .u8 0,.string ⟨#[]⟩,.string ⟨#[]⟩,.string ⟨#[]⟩,.int .u8 0,.int .i64 0,.int .i64 0,.int .i64 0,.int .u8 0,.int .i64 0,.int .i64 0,.int .u8 0,.string ⟨#[]⟩,.string ⟨#[]⟩,.string ⟨#[]⟩] 150))
   | ((with_reducible refine wpList_stB 147 _ _ ?_);refine ⟨_,_,_,⟨_,_,_,sizeOf147,rfl,X40,rec_over _ p⟩,?_⟩;intro w41 X41 g41;have Y41:=tr_st g41 Y40 (by omega))
   | ((with_reducible refine wpList_stB 150 _ _ ?_);refine ⟨_,_,_,⟨_,_,_,sizeOf150,rfl,Y41,ff_over _ f⟩,?_⟩;intro w42 Y42 g42))
 refine HK.out _ _ ?_
 clear HK
 have X42:=tr_st g42 X41 (by omega)
 have hbb:=hb6.trans (((blw w4 (Obj.cells #[.int .u8 0,.int .i64 0,.int .i64 0,.int .i64 0,.int .i64 0] 147)).trans ((blw (w4.alloc (Obj.cells #[.int .u8 0,.int .i64 0,.int .i64 0,.int .i64 0,.int .i64 0] 147)) (Obj.cells #[.int .u8 0,.int .i64 0,.int .i64 0,.int .i64 0,.int .u8 0,.int .i64 0,.int .i64 0,.int .u8 0,.string ⟨#[]⟩,.string ⟨#[]⟩,.string ⟨#[]⟩,.int .u8 0,.int .i64 0,.int .i64 0,.int .i64 0,.int .u8 0,.int .i64 0,.int .i64 0,.int .u8 0,.string ⟨#[]⟩,.string ⟨#[]⟩,.string ⟨#[]⟩] 150)).mono (blw w4 (Obj.cells #[.int .u8 0,.int .i64 0,.int .i64 0,.int .i64 0,.int .i64 0] 147)).size)).mono hb6.size)
 have hsz4:=hb6.size
 have hk42:Below w2.heap.size w2 w42:=bls (bls hbb (Nat.le_refl _) g41 hsz4) (Nat.le_refl _) g42 (by omega)
 have L42:=L2.below hk42
 have D42:=D2.below hk42
 have B42:=tr_bl hk42 B2
 have O42:=O2.below hk42
 have hx42:=hx2.trans (hk42.mono hx2.size)
 clear hre L2 D2 B2 O2 hx2 hb6 hbb hsz4 hk42 X40 Y40 X41 Y41 g41 g42
 generalize w4.heap.size=cb at *
 refine seqH fun K HK=>?_
 go_wp2_with (first
   | ((with_reducible refine wpList_ldB 147 _ ?_);refine ⟨rfl,_,⟨_,_,_,_,_,isAgg147,sizeOf147,rfl,‹_›,arr_all rfl⟩,?_⟩)
   | ((with_reducible refine wpList_ldB 150 _ ?_);refine ⟨rfl,_,⟨_,_,_,_,_,isAgg150,sizeOf150,rfl,‹_›,arr_all rfl⟩,?_⟩)
   | (go_at_call 80;refine (hnx _).mono ?_;rintro en w5 ⟨rfl,hb7⟩))
 refine HK.out _ _ ?_
 clear HK
 have L5:=L42.below hb7
 have D5:=D42.below hb7
 have B5:=tr_bl hb7 B42
 have S5:=(O42.below hb7).slb
 have hx5:=hx42.trans (hb7.mono hx42.size)
 have hB5:=Nat.le_trans hb hx5.size
 have k5:=Kt.of hx5 hb
 clear L42 D42 B42 O42 hx42 hb7 X42 Y42 hnx hx5
 refine seqH fun K HK=>?_
 refine seqH fun K HK=>?_
 go_wp2_with (first
   | (go_at_call 82;refine (hpl _).mono ?_;rintro en w6 ⟨rfl,rfl⟩)
   | (go_at_call 81;refine (hW4 _ L5 D5 hB5 a2 c2 S5).mono ?_;rintro en w7 ⟨rfl,⟨wv7,D7⟩,k7⟩))
 refine HK.out _ _ ?_
 clear HK
 have B7:=k7.ty _ _ _ B5 (by decide) (by decide) (by decide)
 have L7:=L5.kt k7
 have hB7:=Nat.le_trans hB5 k7.bl.size
 have k8:=k5.trans k7
 clear L5 D5 B5 S5 k5 k7 hW4 hB5
 by_cases h4:r4.2=0
 case neg=>
  obtain rfl:r4=r:=by rw [← HR.out,if_pos h4]
  have e4:(r4.2 != 0)=true:=by rw [bne_iff_ne];exact h4
  clear HR h4
  go_wp2
  go_ret
  exact ⟨rfl,⟨_,D7⟩,k8⟩
 case pos=>
  obtain rfl:r3=r:=by rw [← HR.out,if_neg (by simp [h4])]
  rw [h4]
  clear HR h4
  go_wp2
  refine HK.out _ _ ?_
  clear HK
  refine seqH fun K HK=>?_
  go_wp2_with (first
     | ((with_reducible refine wpList_ldB 69 _ ?_);refine ⟨rfl,_,⟨_,_,_,_,_,isAgg69,sizeOf69,rfl,‹_›,arr_all rfl⟩,?_⟩)
     | (go_at_call 83;refine (hsp _).mono ?_;rintro en w9 ⟨⟨a9,c9,rfl,O9⟩,hb9⟩))
  refine HK.out _ _ ?_
  clear HK
  have hW3':=hW3 w9 wv7 (L7.below hb9) (D7.below hb9) (Nat.le_trans hB7 hb9.size) a9 c9 O9.slb
  have k9:=k8.trans (Kt.of hb9 hB7)
  clear L7 D7 B7 k8 hW3 O9 hb9 hB7 hsp
  go_wp2_with (first
   | (go_at_call 82;refine (hpl _).mono ?_;rintro en w6 ⟨rfl,rfl⟩)
   | (go_at_call 81;refine hW3'.mono ?_;rintro en w10 ⟨rfl,⟨wv10,D10⟩,k10⟩))
  go_ret
  exact ⟨rfl,⟨_,D10⟩,k9.trans k10⟩
end
end
end Go.Proofs.YtbdonjenekhmdaaGreatDoor
