/- Texts that the claim leans on, part 26: Open, OB, Args, OBB, OA. -/
import Derived.Test.YtbdonjenekhmdaaGreatDoorZ1
import Derived.Test.YtbdonjenekhmdaaGreatDoorZ2
import Derived.Test.YtbdonjenekhmdaaGreatDoorZ3
import Derived.Test.YtbdonjenekhmdaaGreatDoorZ4
import Derived.Test.YtbdonjenekhmdaaGreatDoorZ5
import Derived.Test.YtbdonjenekhmdaaGreatDoorZ6
import Derived.Test.YtbdonjenekhmdaaGreatDoorZ7
import Derived.Test.YtbdonjenekhmdaaGreatDoorZ8
import Derived.Test.YtbdonjenekhmdaaGreatDoorZ9
import Derived.Test.YtbdonjenekhmdaaGreatDoorZ10
import Derived.Test.YtbdonjenekhmdaaGreatDoorZ11
import Derived.Test.YtbdonjenekhmdaaGreatDoorZ12
import Derived.Test.YtbdonjenekhmdaaGreatDoorZ13
import Derived.Test.YtbdonjenekhmdaaGreatDoorZ14
import Derived.Test.YtbdonjenekhmdaaGreatDoorZ15
import Derived.Test.YtbdonjenekhmdaaGreatDoorZ16
import Derived.Test.YtbdonjenekhmdaaGreatDoorZ17
import Derived.Test.YtbdonjenekhmdaaGreatDoorZ18
import Derived.Test.YtbdonjenekhmdaaGreatDoorZ19
import Derived.Test.YtbdonjenekhmdaaGreatDoorZ20
import Derived.ChangeSlices
import Derived.Lib.SmallJoins
import Derived.Deep.Slices
namespace Go.Proofs.YtbdonjenekhmdaaGreatDoor
open Go.RowKit Go.Proofs.Tryz
set_option maxRecDepth 100000
set_option maxHeartbeats 32000000
section
open Go.ChangeShapes Go.WideShapes Go.ChangeAt Go.RowKit
variable {H:Type} {enc:TypeId×Value→H} {P:Program}
end
section
open Go.ChangeShapes Go.WideShapes Go.ChangeAt Go.RowKit
theorem cellsU8:Tryz.prog.cellsOf 5=1:=by kernel_rfl
end
section
open Go.ChangeShapes Go.WideShapes Go.ChangeAt Go.RowKit
section
variable {H:Type} {enc:TypeId×Value→H} {P:Program} {w:World} {base:Nat} {spare:Nat→Bool} {held:Bool}
theorem trodAll_5 {t0 t1 t2 t3 t4:TypeId} {args:Array Value} {ds:List (DataW H)} {ps:List MemPlace} (h:DataW.TrodAll enc P w base spare held [t0,t1,t2,t3,t4] args.toList ds ps) :
  ∃ v0 v1 v2 v3 v4 d0 d1 d2 d3 d4 p0 p1 p2 p3 p4,args=#[v0,v1,v2,v3,v4]∧ds=[d0,d1,d2,d3,d4]∧ps=p0++p1++p2++p3++p4∧DataW.Trod enc P w base spare held t0 v0 d0 p0∧DataW.Trod enc P w base spare held t1 v1 d1 p1∧DataW.Trod enc P w base spare held t2 v2 d2 p2∧DataW.Trod enc P w base spare held t3 v3 d3 p3∧DataW.Trod enc P w base spare held t4 v4 d4 p4:=by
 obtain ⟨v0,vs0,d0,e0,p0,q0,hargs,rfl,rfl,h0,r0⟩:=trodAll_cons h
 obtain ⟨v1,vs1,d1,e1,p1,q1,rfl,rfl,rfl,h1,r1⟩:=trodAll_cons r0
 obtain ⟨v2,vs2,d2,e2,p2,q2,rfl,rfl,rfl,h2,r2⟩:=trodAll_cons r1
 obtain ⟨v3,vs3,d3,e3,p3,q3,rfl,rfl,rfl,h3,r3⟩:=trodAll_cons r2
 obtain ⟨v4,vs4,d4,e4,p4,q4,rfl,rfl,rfl,h4,r4⟩:=trodAll_cons r3
 obtain ⟨rfl,rfl,rfl⟩:=trodAll_nil r4
 exact ⟨v0,v1,v2,v3,v4,d0,d1,d2,d3,d4,p0,p1,p2,p3,p4,by cases args;simp_all,rfl,by simp,h0,h1,h2,h3,h4⟩
end
end
section
open Go.ChangeShapes Go.WideShapes Go.ChangeAt Go.RowKit
section
variable {H:Type} {enc:TypeId×Value→H} {P:Program} {w:World} {base:Nat} {spare:Nat→Bool} {held:Bool}
end
theorem bytes_of {H:Type} {enc:TypeId×Value→H} {W:World} {b0:Nat} {sp:Nat→Bool} {hd:Bool} {fuel:Nat} {v:Value} {x:DataW H×List MemPlace} (h:DataW.trod enc Tryz.prog W b0 sp hd fuel 37 [v]=some x) :
  ∃ (a:Option Addr) (cap:Nat) (l:List UInt8),v=.slice a l.length cap∧SlB W a cap l:=by
 rcases open_ints underlying37 underlying5 cellsU8 h with ⟨hcs,hx⟩ | ⟨a,len,cap,zs,hcs,_,hl,hm,hz,hx,hcell,hwz⟩
 ·simp only [List.cons.injEq,and_true] at hcs
  subst hcs
  exact ⟨none,0,[],rfl,⟨.inl rfl,Nat.le_refl _,by simp,fun _=>rfl⟩⟩
 ·simp only [List.cons.injEq,and_true] at hcs
  subst hcs
  have hlen:len≤zs.length:=by rw [hz];split <;> omega
  have hb:∀ n ∈ zs,0≤n∧n < 256:=fun n hn=>by
   have h1:=hwz n hn
   have m0:IntKind.u8.min=0:=by decide
   have m1:IntKind.u8.max=255:=by decide
   replace h1:(decide (IntKind.u8.min≤n) && decide (n≤IntKind.u8.max))=true:=h1
   rw [m0,m1,Bool.and_eq_true,decide_eq_true_eq,decide_eq_true_eq] at h1
   omega
  refine ⟨some a,cap,(zs.take len).map (fun n=>UInt8.ofNat n.toNat),by simp;omega,⟨?_,by simp;omega,hm,fun e=>by cases e⟩⟩
  by_cases h0:len=0
  ·left;simp [h0,bys]
  ·right
   obtain ⟨b,off,rfl,hc'⟩:=ints_at hcell (by omega)
   refine ⟨b,off,rfl,fun i u hu=>?_⟩
   have hi:=(List.getElem?_eq_some_iff.1 hu).1
   simp only [bys_len,List.length_map,List.length_take] at hi
   rw [hc' i (by omega)]
   unfold bys at hu
   simp only [List.getElem?_map,List.getElem?_take_of_lt (show i < len by omega),Option.map_eq_some_iff] at hu
   obtain ⟨y,⟨z,hz2,rfl⟩,rfl⟩:=hu
   rw [List.getD_eq_getElem?_getD,hz2]
   have:=hb z (List.mem_of_getElem? hz2)
   unfold byv
   rw [show ((UInt8.ofNat z.toNat).toNat:Int)=z by rw [UInt8.toNat_ofNat'];omega]
   rfl
theorem cellsSl:Tryz.prog.cellsOf 37=1:=by kernel_rfl
end
section
open Go.ChangeShapes Go.WideShapes Go.ChangeAt Go.RowKit
section
variable {H:Type} {enc:TypeId×Value→H} {P:Program} {w:World} {base:Nat} {spare:Nat→Bool} {held:Bool}
theorem trod_struct_5 {t:TypeId} {f0 f1 f2 f3 f4:Field} {fuel:Nat} {cs:List Value} {x:DataW H×List MemPlace} (ht:P.underlying t=some (.struct #[f0,f1,f2,f3,f4])) (h:DataW.trod enc P w base spare held fuel t cs=some x) :
  ∃ y0 y1 y2 y3 y4 n,cs.length=P.cellsOf t∧DataW.trod enc P w base spare held n f0.type ((cs.drop f0.offset).take (P.cellsOf f0.type))=some y0 ∧
   DataW.trod enc P w base spare held n f1.type ((cs.drop f1.offset).take (P.cellsOf f1.type))=some y1∧DataW.trod enc P w base spare held n f2.type ((cs.drop f2.offset).take (P.cellsOf f2.type))=some y2 ∧
   DataW.trod enc P w base spare held n f3.type ((cs.drop f3.offset).take (P.cellsOf f3.type))=some y3∧DataW.trod enc P w base spare held n f4.type ((cs.drop f4.offset).take (P.cellsOf f4.type))=some y4:=by
 obtain ⟨xs,n,_,rfl,hl,hlen,hf⟩:=DataW.trod_struct ht h
 match xs,hlen with
 | [y0,y1,y2,y3,y4],_=>exact ⟨y0,y1,y2,y3,y4,n,hl,by simpa using hf 0 f0 rfl,by simpa using hf 1 f1 rfl,by simpa using hf 2 f2 rfl,by simpa using hf 3 f3 rfl,by simpa using hf 4 f4 rfl⟩
end
theorem cellsBl6:Tryz.prog.cellsOf 4=1:=by kernel_rfl
theorem cellsIn6:Tryz.prog.cellsOf 3=1:=by kernel_rfl
theorem cellsBls6:Tryz.prog.cellsOf 40=1:=by kernel_rfl
theorem cellsTag:Tryz.prog.cellsOf 39=5:=by kernel_rfl
theorem cellsA5:Tryz.prog.cellsOf 42=5:=by kernel_rfl
theorem cellsA6:Tryz.prog.cellsOf 44=12:=by kernel_rfl
section
variable {H:Type} {enc:TypeId×Value→H} {W:World} {sp:Nat→Bool} {hd:Bool} {b0 fuel:Nat}
theorem bool6_of {v:Value} {x:DataW H×List MemPlace} (h:DataW.trod enc Tryz.prog W b0 sp hd fuel 4 [v]=some x):∃ z,v=.bool z:=by
 obtain ⟨z,q,_⟩:=DataW.trod_bool underlying4 h
 simp only [List.cons.injEq,and_true] at q
 exact ⟨z,q⟩
theorem u8_of6 {v:Value} {x:DataW H×List MemPlace} (h:DataW.trod enc Tryz.prog W b0 sp hd fuel 5 [v]=some x):∃ n:Nat,v=.int .u8 (n:Int)∧n < 256:=by
 obtain ⟨y,q,_,h2⟩:=DataW.trod_int underlying5 h
 simp at q
 subst q
 have m0:IntKind.u8.min=0:=by decide
 have m1:IntKind.u8.max=255:=by decide
 replace h2:(decide (IntKind.u8.min≤y) && decide (y≤IntKind.u8.max))=true:=h2
 rw [m0,m1,Bool.and_eq_true,decide_eq_true_eq,decide_eq_true_eq] at h2
 exact ⟨y.toNat,by rw [show ((y.toNat:Nat):Int)=y by omega],by omega⟩
theorem int_of6 {v:Value} {x:DataW H×List MemPlace} (h:DataW.trod enc Tryz.prog W b0 sp hd fuel 3 [v]=some x):∃ n:Int,v=.int .i64 n∧n≤9223372036854775807:=by
 obtain ⟨y,q,_,h2⟩:=DataW.trod_int underlying3 h
 simp at q
 subst q
 have m1:IntKind.i64.max=9223372036854775807:=by decide
 replace h2:(decide (IntKind.i64.min≤y) && decide (y≤IntKind.i64.max))=true:=h2
 rw [m1,Bool.and_eq_true,decide_eq_true_eq,decide_eq_true_eq] at h2
 exact ⟨y,rfl,h2.2⟩
theorem bools6_of {v:Value} {x:DataW H×List MemPlace} (h:DataW.trod enc Tryz.prog W b0 sp hd fuel 40 [v]=some x):∃ (a:Option Addr) (l:List Bool) (cap:Nat),v=.slice a l.length cap∧Row W a (l.map Value.bool):=by
 rcases Go.Deep.open_slice1 underlying40 cellsBl6 h with ⟨hcs,hx⟩ | ⟨a,len',cap',m,n,V,D,Pl,hcs,_,hl,hm,hmm,hx,hel⟩
 ·simp only [List.cons.injEq,and_true] at hcs
  subst hcs
  exact ⟨none,[],0,rfl,.inl rfl⟩
 ·simp only [List.cons.injEq,and_true] at hcs
  subst hcs
  have hlm:len'≤m:=by rw [hmm];split <;> omega
  have hex:∀ i,i < len'→∃ y:Bool,W.cell? (a.add i)=some (.bool y):=by
   intro i hi
   obtain ⟨hc,ht⟩:=hel i (by omega)
   obtain ⟨y,e⟩:=bool6_of ht
   exact ⟨y,by rw [hc,e]⟩
  obtain ⟨f,hf2⟩:=Go.Deep.choose_lt hex
  refine ⟨some a,(List.range len').map f,cap',by simp,?_⟩
  by_cases h0:len'=0
  ·left
   subst h0
   rfl
  ·right
   obtain ⟨b,off,spot⟩:=a
   have hspot:spot=none:=by
    have:=World.cell?_spot (hf2 0 (by omega))
    simpa [Addr.add] using this
   subst hspot
   refine ⟨b,off,rfl,fun i u hu=>?_⟩
   have hi:=(List.getElem?_eq_some_iff.1 hu).1
   simp only [List.length_map,List.length_range] at hi
   have:=hf2 i hi
   rw [addr_add] at this
   rw [this]
   simp only [List.map_map,List.getElem?_map,List.getElem?_range hi,Option.map_some,Function.comp] at hu
   exact hu
theorem tag_of {c0 c1 c2 c3 c4:Value} {x:DataW H×List MemPlace} (h:DataW.trod enc Tryz.prog W b0 sp hd fuel 39 [c0,c1,c2,c3,c4]=some x):∃ t:Tg,[c0,c1,c2,c3,c4]=[.int .i64 t.rep,.int .i64 t.reg,.int .i64 t.pla,.int .i64 t.idx,.int .i64 t.inc]:=by
 obtain ⟨y0,y1,y2,y3,y4,n,_,h0,h1,h2,h3,h4⟩:=trod_struct_5 underlying39 h
 simp [cellsIn6] at h0 h1 h2 h3 h4
 obtain ⟨n0,rfl,_⟩:=int_of6 h0
 obtain ⟨n1,rfl,_⟩:=int_of6 h1
 obtain ⟨n2,rfl,_⟩:=int_of6 h2
 obtain ⟨n3,rfl,_⟩:=int_of6 h3
 obtain ⟨n4,rfl,_⟩:=int_of6 h4
 exact ⟨⟨n0,n1,n2,n3,n4⟩,rfl⟩
theorem a5_of {c0 c1 c2 c3 c4:Value} {x:DataW H×List MemPlace} (h:DataW.trod enc Tryz.prog W b0 sp hd fuel 42 [c0,c1,c2,c3,c4]=some x):∃ a:A5,[c0,c1,c2,c3,c4]=a5L a∧A5in W a∧a.kind < 256∧a.n≤9223372036854775807:=by
 obtain ⟨y0,y1,y2,y3,y4,n,_,h0,h1,h2,h3,h4⟩:=trod_struct_5 underlying42 h
 simp [cellsIn6,cellsU8,cellsSl,cellsBls6] at h0 h1 h2 h3 h4
 obtain ⟨k,rfl,hk⟩:=u8_of6 h0
 obtain ⟨n1,rfl,_⟩:=int_of6 h1
 obtain ⟨n2,rfl,hn⟩:=int_of6 h2
 obtain ⟨ba,bc,bl,rfl,hb⟩:=bytes_of h3
 obtain ⟨ka,kl,kc,rfl,hkl⟩:=bools6_of h4
 exact ⟨⟨k,n1,n2,ba,bl,bc,ka,kl,kc⟩,rfl,⟨hb,hkl⟩,hk,hn⟩
theorem list12 {α:Type} {l:List α} (h:l.length=12):∃ a b c d e f g i j k m n,l=[a,b,c,d,e,f,g,i,j,k,m,n]:=by
 match l,h with
 | [a,b,c,d,e,f,g,i,j,k,m,n],_=>exact ⟨a,b,c,d,e,f,g,i,j,k,m,n,rfl⟩
theorem a6_of {cs:List Value} {x:DataW H×List MemPlace} (h:DataW.trod enc Tryz.prog W b0 sp hd fuel 44 cs=some x):∃ a:A6,cs=a6L a∧A6in W a:=by
 obtain ⟨y0,y1,y2,y3,n,_,hl,h0,h1,h2,h3⟩:=Go.Joins.trod_struct4 underlying44 h
 rw [cellsA6] at hl
 obtain ⟨a0,a1,a2,a3,a4,a5,a6,a7,a8,a9,a10,a11,rfl⟩:=list12 hl
 simp [cellsBl6,cellsTag,cellsSl,cellsA5] at h0 h1 h2 h3
 obtain ⟨z,rfl⟩:=bool6_of h0
 obtain ⟨t,e1⟩:=tag_of h1
 obtain ⟨oa,oc,ol,rfl,hb⟩:=bytes_of h2
 obtain ⟨d,e3,hd1,hk,hn⟩:=a5_of h3
 refine ⟨⟨z,t,oa,ol,oc,d⟩,?_,⟨hb,hd1,hk,hn⟩⟩
 unfold a5L at e3
 simp only [List.cons.injEq,and_true] at e1 e3
 obtain ⟨rfl,rfl,rfl,rfl,rfl⟩:=e1
 obtain ⟨rfl,rfl,rfl,rfl,rfl⟩:=e3
 rfl
end
end
end Go.Proofs.YtbdonjenekhmdaaGreatDoor
