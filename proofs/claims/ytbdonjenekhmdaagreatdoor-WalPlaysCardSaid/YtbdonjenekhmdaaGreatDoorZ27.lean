/- WalPlays: whatever is done to a log and its disk, what each call answers, and what each slot is and tells then, is what the chapter says. No condition. -/
import Derived.Test.YtbdonjenekhmdaaGreatDoorZ1
import Derived.Test.YtbdonjenekhmdaaGreatDoorZ2
import Derived.Test.YtbdonjenekhmdaaGreatDoorZ3
import Derived.Test.YtbdonjenekhmdaaGreatDoorZ4
import Derived.Test.YtbdonjenekhmdaaGreatDoorZ5
import Derived.Test.YtbdonjenekhmdaaGreatDoorZ6
import Derived.Test.YtbdonjenekhmdaaGreatDoorZ7
import Derived.Test.YtbdonjenekhmdaaGreatDoorZ8
import Derived.Test.YtbdonjenekhmdaaGreatDoorZ9
import Derived.Test.YtbdonjenekhmdaaGreatDoorZ10
import Derived.Test.YtbdonjenekhmdaaGreatDoorZ11
import Derived.Test.YtbdonjenekhmdaaGreatDoorZ12
import Derived.Test.YtbdonjenekhmdaaGreatDoorZ13
import Derived.Test.YtbdonjenekhmdaaGreatDoorZ14
import Derived.Test.YtbdonjenekhmdaaGreatDoorZ15
import Derived.Test.YtbdonjenekhmdaaGreatDoorZ16
import Derived.Test.YtbdonjenekhmdaaGreatDoorZ17
import Derived.Test.YtbdonjenekhmdaaGreatDoorZ18
import Derived.Test.YtbdonjenekhmdaaGreatDoorZ19
import Derived.Test.YtbdonjenekhmdaaGreatDoorZ20
import Derived.Test.YtbdonjenekhmdaaGreatDoorZ21
import Derived.Test.YtbdonjenekhmdaaGreatDoorZ22
import Derived.Test.YtbdonjenekhmdaaGreatDoorZ23
import Derived.Test.YtbdonjenekhmdaaGreatDoorZ24
import Derived.Test.YtbdonjenekhmdaaGreatDoorZ25
import Derived.Test.YtbdonjenekhmdaaGreatDoorZ26
import Derived.Test.YtbdonjenekhmdaaGreatDoorTie
import Derived.Test.YtbdonjenekhmdaaGreatDoorCards
import Derived.ChangeMaps5
import Derived.Lay
import Derived.SevenTiedAt
namespace Go.Proofs.YtbdonjenekhmdaaGreatDoor
open Go.RowKit Go.Proofs.Tryz
set_option maxRecDepth 100000
set_option maxHeartbeats 32000000
section
open Go.ChangeShapes Go.WideShapes Go.ChangeAt Go.RowKit
section
variable {H:Type} {enc:TypeId×Value→H} {P:Program} {w:World} {base:Nat} {spare:Nat→Bool} {held:Bool}
theorem trod_w2 {t:TypeId} {f0 f1:Field} {fuel:Nat} {cs:List Value} {x:DataW H×List MemPlace} (ht:P.underlying t=some (.struct #[f0,f1])) (h:DataW.trod enc P w base spare held fuel t cs=some x) :
  ∃ y0 y1 n,cs.length=P.cellsOf t∧DataW.trod enc P w base spare held n f0.type ((cs.drop f0.offset).take (P.cellsOf f0.type))=some y0∧DataW.trod enc P w base spare held n f1.type ((cs.drop f1.offset).take (P.cellsOf f1.type))=some y1:=by
 obtain ⟨xs,n,_,rfl,hl,hlen,hf⟩:=DataW.trod_struct ht h
 match xs,hlen with
 | [y0,y1],_=>exact ⟨y0,y1,n,hl,by simpa using hf 0 f0 rfl,by simpa using hf 1 f1 rfl⟩
theorem trod_w6 {t:TypeId} {f0 f1 f2 f3 f4 f5:Field} {fuel:Nat} {cs:List Value} {x:DataW H×List MemPlace} (ht:P.underlying t=some (.struct #[f0,f1,f2,f3,f4,f5])) (h:DataW.trod enc P w base spare held fuel t cs=some x) :
  ∃ y0 y1 y2 y3 y4 y5 n,cs.length=P.cellsOf t∧DataW.trod enc P w base spare held n f0.type ((cs.drop f0.offset).take (P.cellsOf f0.type))=some y0∧DataW.trod enc P w base spare held n f1.type ((cs.drop f1.offset).take (P.cellsOf f1.type))=some y1 ∧
   DataW.trod enc P w base spare held n f2.type ((cs.drop f2.offset).take (P.cellsOf f2.type))=some y2∧DataW.trod enc P w base spare held n f3.type ((cs.drop f3.offset).take (P.cellsOf f3.type))=some y3 ∧
   DataW.trod enc P w base spare held n f4.type ((cs.drop f4.offset).take (P.cellsOf f4.type))=some y4∧DataW.trod enc P w base spare held n f5.type ((cs.drop f5.offset).take (P.cellsOf f5.type))=some y5:=by
 obtain ⟨xs,n,_,rfl,hl,hlen,hf⟩:=DataW.trod_struct ht h
 match xs,hlen with
 | [y0,y1,y2,y3,y4,y5],_=>exact ⟨y0,y1,y2,y3,y4,y5,n,hl,by simpa using hf 0 f0 rfl,by simpa using hf 1 f1 rfl,by simpa using hf 2 f2 rfl,by simpa using hf 3 f3 rfl,by simpa using hf 4 f4 rfl,by simpa using hf 5 f5 rfl⟩
end
theorem cellsA11:Tryz.prog.cellsOf 75=24:=by kernel_rfl
theorem cellsBal11:Tryz.prog.cellsOf 69=2:=by kernel_rfl
theorem cellsEn11:Tryz.prog.cellsOf 73=7:=by kernel_rfl
theorem cellsOp11:Tryz.prog.cellsOf 71=4:=by kernel_rfl
theorem cellsInt11:Tryz.prog.cellsOf 3=1:=by kernel_rfl
theorem cellsU11:Tryz.prog.cellsOf 5=1:=by kernel_rfl
theorem cellsStr11:Tryz.prog.cellsOf 9=1:=by kernel_rfl
theorem list24 {α:Type} {l:List α} (h:l.length=24):∃ a b c d e f g i j k m n r,l=[a,b,c,d,e,f,g,i,j,k,m,n]++r∧r.length=12:=by
 match l,h with
 | a :: b :: c :: d :: e :: f :: g :: i :: j :: k :: m :: n :: r,h=>exact ⟨a,b,c,d,e,f,g,i,j,k,m,n,r,rfl,by simpa using h⟩
section
variable {H:Type} {enc:TypeId×Value→H} {W:World} {sp:Nat→Bool} {hd:Bool} {b0 fuel:Nat}
theorem en11_of {cs:List Value} {x:DataW H×List MemPlace} {p0 p1 p2 p3 p4 p5 p6:Value} (hcs:cs=[p0,p1,p2,p3,p4,p5,p6]) (h:DataW.trod enc Tryz.prog W b0 sp hd fuel 73 cs=some x):∃ e:En,cs=[.int .u8 e.kind,.int .i64 e.cli,.int .i64 e.seq,.int .u8 e.op.kind,.string e.op.key,.string e.op.old,.string e.op.val]:=by
 subst hcs
 obtain ⟨y0,y1,y2,y3,n,_,hl,h0,h1,h2,h3⟩:=Go.Joins.trod_struct4 underlying73 h
 obtain ⟨u0,u1,u2,u3,k,_,hl2,e0,e1,e2,e3⟩:=Go.Joins.trod_struct4 underlying71 h3
 simp [cellsOp11,cellsInt11,cellsU11,cellsStr11] at h0 h1 h2 e0 e1 e2 e3
 obtain ⟨kd,q0,_⟩:=DataW.trod_int underlying5 h0
 obtain ⟨cl,q1,_⟩:=DataW.trod_int underlying3 h1
 obtain ⟨sq,q2,_⟩:=DataW.trod_int underlying3 h2
 obtain ⟨ok,q3,_⟩:=DataW.trod_int underlying5 e0
 obtain ⟨s1,q4,_⟩:=DataW.trod_string underlying9 e1
 obtain ⟨s2,q5,_⟩:=DataW.trod_string underlying9 e2
 obtain ⟨s3,q6,_⟩:=DataW.trod_string underlying9 e3
 simp at q0 q1 q2 q3 q4 q5 q6
 subst q0 q1 q2 q3 q4 q5 q6
 exact ⟨⟨kd,cl,sq,⟨ok,s1,s2,s3⟩⟩,rfl⟩
theorem a11_of {cs:List Value} {x:DataW H×List MemPlace} (h:DataW.trod enc Tryz.prog W b0 sp hd fuel 75 cs=some x):∃ a:A11,cs=a11L a∧A11in W a:=by
 obtain ⟨y0,y1,y2,y3,y4,y5,n,hl,h0,h1,h2,h3,h4,h5⟩:=trod_w6 underlying75 h
 rw [cellsA11] at hl
 obtain ⟨a0,a1,a2,a3,a4,a5,a6,a7,a8,a9,a10,a11,r,rfl,hr⟩:=list24 hl
 simp [cellsInt11,cellsU11,cellsBal11,cellsEn11,cellsA6] at h0 h1 h2 h3 h4 h5
 rw [List.take_of_length_le (by omega)] at h5
 obtain ⟨k,rfl,hk⟩:=u8_of6 h0
 obtain ⟨n1,rfl,_⟩:=int_of6 h1
 obtain ⟨n2,rfl,_⟩:=int_of6 h2
 obtain ⟨z0,z1,m,_,f0,f1⟩:=trod_w2 underlying69 h3
 simp [cellsInt11] at f0 f1
 obtain ⟨rn,rfl,_⟩:=int_of6 f0
 obtain ⟨rp,rfl,_⟩:=int_of6 f1
 obtain ⟨e,he⟩:=en11_of rfl h4
 obtain ⟨o,rfl,ho⟩:=a6_of h5
 simp only [List.cons.injEq,and_true] at he
 obtain ⟨rfl,rfl,rfl,rfl,rfl,rfl,rfl⟩:=he
 exact ⟨⟨k,n1,n2,⟨rn,rp⟩,e,o⟩,rfl,⟨ho,hk⟩⟩
end
theorem open_acts11 {H:Type} {enc:TypeId×Value→H} {W:World} {base:Nat} {sp:Nat→Bool} {hd:Bool} {b0:Nat} {v:Value} {d:DataW H} {p:List MemPlace}
  (hv:Value.okWide Tryz.prog W .any base 60 v) (h:DataW.Trod enc Tryz.prog W b0 sp hd 60 v d p):∃ (a:Option Addr) (l:List A11) (cap:Nat),v=.slice a l.length cap∧Acts11 W a l:=by
 obtain ⟨a0,len,cap,rfl⟩:=okWide_slice underlying60 hv
 obtain ⟨fuel,hf⟩:=h
 rcases Go.Deep.open_slice underlying60 hf with ⟨hcs,hx⟩ | ⟨a,len',cap',m,n,D,Pl,hcs,_,hl,hm,hmm,hx,hel⟩
 ·simp [Value.cells] at hcs
  obtain ⟨rfl,rfl,rfl⟩:=hcs
  exact ⟨none,[],0,rfl,⟨fun j hj=>by simp at hj⟩⟩
 ·simp [Value.cells] at hcs
  obtain ⟨rfl,rfl,rfl⟩:=hcs
  have hlm:len≤m:=by rw [hmm];split <;> omega
  have hex:∀ i,i < len→∃ s:A11,(∀ r u,(a11L s)[r]?=some u→W.cell? (a.add (i * 24+r))=some u)∧A11in W s:=by
   intro i hi
   obtain ⟨cs',hc,ht⟩:=hel i (by omega)
   rw [cellsA11] at hc
   obtain ⟨_,hlen2,hat⟩:=World.cells?_some hc
   obtain ⟨s,rfl,h2⟩:=a11_of ht
   refine ⟨s,fun r u hr=>?_,h2⟩
   have hlt:=(List.getElem?_eq_some_iff.1 hr).1
   have:=hat r (by simpa [a11L,a6L] using hlt)
   rw [Go.Deep.add_add] at this
   rw [this,← hr,List.getElem?_eq_getElem hlt]
  have:Inhabited A11:=⟨⟨0,0,0,zeroL,zeroE 0,⟨false,zeroTg,none,[],0,⟨0,0,0,none,[],0,none,[],0⟩⟩⟩⟩
  obtain ⟨f,hf2⟩:=Go.Deep.choose_lt hex
  refine ⟨some a,(List.range len).map f,cap,by simp,⟨fun j hj=>?_⟩⟩
  simp only [List.length_map,List.length_range] at hj
  obtain ⟨b,off,spot⟩:=a
  have hspot:spot=none:=by
   have:=World.cell?_spot ((hf2 0 (by omega)).1 0 _ rfl)
   simpa [Addr.add] using this
  subst hspot
  obtain ⟨h1,h2⟩:=hf2 j hj
  simp only [addr_add] at h1
  simp only [List.getElem_map,List.getElem_range]
  refine ⟨b,off,rfl,fun r u hu=>?_,h2⟩
  have:=h1 r u hu
  rw [← Nat.add_assoc] at this
  exact this
theorem Tryzown:ownKnob Tryz.prog.godebug=none:=by kernel_rfl
theorem Tryzlaid:laidOutB Tryz.prog=true:=by kernel_rfl
theorem walPlays_lifted (os:Os) (started:os.Started) (H:Type) (enc:TypeId×Value→H) :
  ReturnsInHanded {} Tryz.checked os 4 .any (fun w args=>(Rows.walPlaysSpec.pre enc Tryz.prog Tryz.f4 [] false w args∧laidMetH Tryz.prog Rows.walPlaysRow.laid w)∧sizedMet enc Tryz.prog Tryz.f4 (OpenSpec.ofChange Rows.walPlaysSpec) false w args)
   (Rows.walPlaysSpec.post enc Tryz.prog Tryz.f4 false true false false):=by
 refine returnsInHanded_of_change_and (C:=Tryz.checked) (X:=fun w _=>laidMetH Tryz.prog Rows.walPlaysRow.laid w) (fun _ _ _ hh h=>h.of_heap hh) Tryzown started (by kernel_rfl) func4
  (ChangeSpec.witness_shaped (enc:=enc) (C:=Tryz.checked) (os:=os) (X:=fun w _=>laidMetH Tryz.prog Rows.walPlaysRow.laid w) false (World.laidAll Tryz.prog os Rows.walPlaysRow.laid) #[.int .i64 0,.int .i64 0,.int .i64 0,.slice none 0 0,.int .i64 0] 8 (World.laidAll_os _ _ _)
   (World.shaped_of_ZipB (by kernel_rfl) (by kernel_rfl)) (by kernel_rfl) (by kernel_rfl) (by kernel_rfl)
   (by rw [MakeChecks.laidMetH_plain _ _ _ (by kernel_rfl)];exact laidMet_laidAll _ (by kernel_rfl) (by kernel_rfl))) ?_
 intro W base args ds gs before hval0 hW _ _ _ _
 have hval:∀ (j:Nat) t v,Tryz.f4.params[j]?=some t→args[j]?=some v→Value.okWide Tryz.prog W .any base t v:=hval0
 have hW':=hW
 obtain ⟨p,q,hA0,hV,rfl,hfz,hnd⟩:=hW
 have hA:DataW.TrodAll enc Tryz.prog W 0 (fun _=>true) true Tryz.f4.params.toList args.toList ds p:=hA0
 rw [Tryz.params4] at hA hval
 obtain ⟨v0,v1,v2,v3,v4,d0,d1,d2,d3,d4,p0,p1,p2,p3,p4,rfl,rfl,rfl,h0,h1,h2,h3,h4⟩:=trodAll_5 hA
 obtain ⟨rfl,rfl⟩:=trodVars_none hV
 obtain ⟨n0,rfl⟩:=okWide_int underlying3 (hval 0 3 v0 rfl rfl)
 obtain ⟨n1,rfl⟩:=okWide_int underlying3 (hval 1 3 v1 rfl rfl)
 obtain ⟨n2,rfl⟩:=okWide_int underlying3 (hval 2 3 v2 rfl rfl)
 obtain ⟨a,l,c,rfl,hl⟩:=open_acts11 (hval 3 60 v3 rfl rfl) h3
 obtain ⟨n4,rfl⟩:=okWide_int underlying3 (hval 4 3 v4 rfl rfl)
 clear hA0 hval0
 refine (plays11_law n0 n1 n2 a c l n4 W hl).mono fun e W' ⟨he,hb⟩=>?_
 subst he
 exact ⟨_,rfl,law_post Tryzlaid (by kernel_rfl) rfl underlying4 rfl ⟨rfl,rfl,rfl⟩ hW' hb⟩
theorem walPlays_h1:(Rows.walPlaysRow.inPlace==Tryz.prog.inPlace 4)=true:=by kernel_rfl
theorem walPlays_h2:(Rows.walPlaysRow.unfollowed==Tryz.prog.unfollowed 4)=true:=by kernel_rfl
theorem walPlays_h3:(Rows.walPlaysRow.recurses==Tryz.prog.recurses 4)=true:=by kernel_rfl
theorem walPlays_h4:(Rows.walPlaysRow.named==Tryz.prog.varsNamed 4)=true:=by kernel_rfl
theorem walPlays_facts:joinedFacts Tryz.prog 4 Tryz.f4 Rows.walPlaysSpec Rows.walPlaysRow=true:=by
 unfold joinedFacts
 rw [walPlays_h1,walPlays_h2,walPlays_h3,walPlays_h4]
 kernel_rfl
theorem walPlays_holds:Rows.WalPlaysSaid:=
 OpenClaim.holds_of_wide 4 Tryz.f4 rfl rfl rfl rfl rfl rfl rfl ⟨rfl,rfl,rfl,rfl,rfl⟩ rfl rfl rfl rfl rfl (by kernel_rfl) func4 walPlays_facts
  (of_decide_eq_true (by kernel_rfl)) (by unfold Func.isWrapper;first | (rw [if_pos (by decide +kernel)];kernel_rfl) | (rw [if_neg (by decide +kernel)];exact ⟨rfl,rfl⟩))
  (fun os started H enc _=>walPlays_lifted os started H enc)
theorem walPlays_card:Rows.WalPlaysCardSaid:=
 Claim7.holds_tied_plain_at .later [] [.data,.pinned] true Rows.walPlaysCard.stood.harness false
  walPlays_holds (fun _ h=>by cases h) (by kernel_rfl) (fun _ h=>by cases h) walPlays_row_tie rfl ⟨rfl,rfl⟩ (by kernel_rfl) rfl
  (fun f fn hf hfn=>by
   obtain rfl:f=4:=Option.some.inj ((show Tryz.prog.funcNamed Rows.walPlaysRow.func=some 4 by kernel_rfl).symm.trans hf) |>.symm
   obtain rfl:fn=Tryz.f4:=(Option.some.inj (func4.symm.trans hfn)).symm
   exact ⟨by kernel_rfl,fun j t ht=>by
    rw [Tryz.params4] at ht
    have hm:t ∈ [3,3,3,60,3]:=by simpa using Array.mem_of_getElem? ht
    have hall:([3,3,3,60,3].all fun u=>!Tryz.prog.wantsStandIn u)=true:=by kernel_rfl
    exact (show Tryz.prog.wantsStandIn t=false by simpa using List.all_eq_true.1 hall t hm)⟩)
  (by kernel_rfl)
end
end Go.Proofs.YtbdonjenekhmdaaGreatDoor
