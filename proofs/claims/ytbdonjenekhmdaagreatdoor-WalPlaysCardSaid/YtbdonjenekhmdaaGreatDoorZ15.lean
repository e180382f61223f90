/- Texts that the claim leans on, part 15: V2, V6, V7, V8, X12, X13, X14, V3. -/
import Derived.Test.YtbdonjenekhmdaaGreatDoorZ1
import Derived.Test.YtbdonjenekhmdaaGreatDoorZ2
import Derived.Test.YtbdonjenekhmdaaGreatDoorZ3
import Derived.Test.YtbdonjenekhmdaaGreatDoorZ4
import Derived.Test.YtbdonjenekhmdaaGreatDoorZ5
import Derived.Test.YtbdonjenekhmdaaGreatDoorZ6
import Derived.Test.YtbdonjenekhmdaaGreatDoorZ7
import Derived.Test.YtbdonjenekhmdaaGreatDoorZ8
import Derived.Test.YtbdonjenekhmdaaGreatDoorZ9
import Derived.Test.YtbdonjenekhmdaaGreatDoorZ10
import Derived.Test.YtbdonjenekhmdaaGreatDoorZ11
import Derived.Test.YtbdonjenekhmdaaGreatDoorZ12
import Derived.Test.YtbdonjenekhmdaaGreatDoorZ13
import Derived.Test.YtbdonjenekhmdaaGreatDoorZ14
namespace Go.Proofs.YtbdonjenekhmdaaGreatDoor
open Go.RowKit Go.Proofs.Tryz
set_option maxRecDepth 100000
set_option maxHeartbeats 32000000
section
section
variable {B g gp q:Nat} {wv:Value} {d:Dk} {w:World} {s:Lg}
theorem frame1_any (h:LgB w q g s) (hd:DiskB B g gp wv d w) (p:Int) (hp:0≤p∧p < 24):Calls Tryz.prog 196 #[.pointer (some ⟨q,0,none⟩),.int .i64 3,.int .i64 p] w fun e w'=>FrRes w.heap.size (fr1 d s.rep 3 p) e w'∧Below w.heap.size w w':=by
 have hf:=first3 hp
 unfold fr1
 obtain ⟨f,hff⟩:∃ f,firstN 3 p=f:=⟨_,rfl⟩
 rw [hff] at hf ⊢
 obtain ⟨r,hr⟩:∃ r,(if (readD d f).2≠0 then ((2:Nat),zeroTg,([]:List UInt8)) else mineF (preW d f 1) s.rep 3 p)=r:=⟨_,rfl⟩
 rw [hr]
 have HR:=Lib.hid hr
 clear hr
 have hfb:0≤f∧f < 200:=by omega
 have HF:=Lib.hid hff
 clear hf hff
 go_enter func196,ntmps196
 refine seqH fun K HK=>?_
 go_wp2
 refine HK.out _ _ ?_
 clear HK
 have hbz:=blw w (Obj.cells #[.int .i64 0,.int .i64 0,.int .i64 0,.int .i64 0,.int .i64 0] 39)
 have RZ:=heap_alloc_new w (Obj.cells #[.int .i64 0,.int .i64 0,.int .i64 0,.int .i64 0,.int .i64 0] 39)
 generalize w.alloc (Obj.cells #[.int .i64 0,.int .i64 0,.int .i64 0,.int .i64 0,.int .i64 0] 39)=w0 at *
 refine seqH fun K HK=>?_
 go_wp2
 refine HK.out _ _ ?_
 clear HK
 refine seqH fun K HK=>?_
 go_wp2_with (go_at_call 111;refine (wide_any 3 _).mono ?_;rintro e w1 ⟨rfl,hb1⟩)
 rw [show wideN 3=1 from rfl]
 have hbz1:=hbz.trans (hb1.mono hbz.size)
 have RZ1:=tr_bl hb1 RZ
 clear hbz hb1 RZ
 go_loopw [15,9] (fun i o wr=>∃ (j:Nat) (v:Value),j≤1∧i=.int .i64 (j:Nat)∧o=v∧(∀ t:Nat,t < j→(readD d (f+t)).2=0)∧wr.ownsRow (w.heap.size+1) 5 1 v (preW d f j).length (bys (preW d f j))∧Below w.heap.size w wr∧wr.heap[w.heap.size]?=some (.cells #[.int .i64 0,.int .i64 0,.int .i64 0,.int .i64 0,.int .i64 0] 39 (0,0))) (fun i _ _=>1 - (intOf i).toNat)
 case atStart=>exact ⟨0,_,by omega,rfl,rfl,fun t ht=>absurd ht (by omega),World.ownsRow_nil _ _ _ _,hbz1,RZ1⟩
 case' round=>
  clear hbz1 RZ1
  obtain ⟨j,v,hj,rfl,rfl,hall,hown,hbr,RB⟩:=hrel
 rcases (show j=0∨j=1 by omega) with rfl | rfl
 ·skip
  have hrd:=fun w' (h':DiskB B g gp wv d w')=>read_slb h' (f)
  obtain ⟨bs,re,hbs⟩:∃ bs re,readD d (f)=(bs,re):=⟨_,_,rfl⟩
  have hrl:=read_len hd (f)
  rw [hbs] at hrl
  simp only [hbs] at hrd
  simp only at hrl
  have HBS:=Lib.hid hbs
  clear hbs
  have hdr:=hd.below hbr
  have hsr:=h.below hbr
  have hpl:(preW d f 0).length=64 * 0:=rfl
  have HPL:=Lib.hid hpl
  have HPS:=Lib.hid (show preW d f (0+1)=preW d f 0++(readD d (f)).1 from rfl)
  clear hpl
  generalize preW d f 0=pr at *
  refine seqH fun K HK=>?_
  go_wp2
  refine HK.out _ _ ?_
  clear HK
  refine seqH fun K HK=>?_
  go_wp2
  refine HK.out _ _ ?_
  clear HK
  refine seqH fun K HK2=>?_
  refine wp_block ?_
  refine seqH fun K HK=>?_
  go_wp2
  refine HK.out _ _ ?_
  clear HK
  refine seqH fun K HK3=>?_
  go_wp2_with fail
  have hbd:=(Below.refl wr.heap.size wr).drew
  have D1:=hdr.below hbd
  have S1:=hsr.below hbd
  have R1:=tr_bl hbd RB
  have hb1:=hbr.trans (hbd.mono hbr.size)
  have o1:=owns_bl hown hbd
  refine wp_region_held_drew (S:=fun w'=>LgB w' q g s) (by kernel_rfl) S1 (fun hS0=>?_)
  clear hbd hdr hsr hown hbr RB
  generalize wr.drew=x0 at *
  refine tkP 0 rfl ?_
  refine tkP 1 rfl ?_
  refine tkP 2 rfl ?_
  refine tkT 3 rfl (by intro wS hSw;have c:=hSw.c0;go_simp;(try with_reducible rfl)) ?_
  refine tkP 4 rfl ?_
  refine tkP 5 rfl ?_
  refine tkP 7 rfl ?_
  refine rdy1 6 rfl (fun K' hK'=>?_)
  go_simp
  refine (first_any 3 p _).mono ?_
  rintro e w2 ⟨rfl,hb2⟩
  rw [HF.out]
  have D2:=D1.below hb2
  have S2:=S1.below hb2
  have R2:=tr_bl hb2 R1
  have o2:=owns_bl o1 hb2
  have hb3:=hb1.trans (hb2.mono hb1.size)
  refine hK'.out _ _ S2 (fun _=>?_)
  clear hK' D1 S1 R1 o1 hb1 hb2 hS0
  (try simp only [Act.put,qa1,qa2,qa3])
  refine tkT 8 (v:=.int .i64 (f)) rfl (by intro wS hSw;go_simp;(try rw [IntWalk.i64_in _ (by omega)])) ?_
  refine rdy1 9 rfl (fun K' hK'=>?_)
  go_simp
  refine (hrd _ D2).mono ?_
  rintro e w4 ⟨⟨a4,c4,rfl,s4⟩,hb4⟩
  have S4:=S2.below hb4
  have R4:=tr_bl hb4 R2
  have o4:=owns_bl o2 hb4
  have hb5:=hb3.trans (hb4.mono hb3.size)
  refine hK'.out _ _ S4 (fun _=>?_)
  clear hK' D2 S2 R2 o2 hb3 hb4 hrd
  (try simp only [Act.put,qa1,qa2,qa3])
  refine tkP 10 rfl ?_
  refine tkP 11 rfl ?_
  refine tkP 12 rfl ?_
  refine tkP 13 rfl ?_
  refine tkP 14 rfl ?_
  refine wpAnyH_done (by kernel_rfl) ?_ _
  refine HK3.out _ _ ?_
  clear HK3
  by_cases h0:re=0
  ·subst h0
   have HBL:=Lib.hid (hrl.1 rfl)
   clear hrl
   refine seqH fun K HK=>?_
   go_wp2
   refine HK.out _ _ ?_
   clear HK
   go_wp2_with (at_builtin;refine wpList_append_row rfl _ _ 37 5 elByte rfl (w.heap.size+1) _ pr.length (bys pr) rfl o4 a4 bs.length c4 (bys bs) rfl (by rw [bys_len];omega) s4.row bys_one (by have:=HPL.out;have:=HBL.out;omega) (by decide) (lt_blk R4) ?_;intro v6 w6 ho6 hb6)
   (try simp only [Exit.inBlock,Exit.then])
   refine HK2.out _ _ ?_
   clear HK2
   go_wp2
   go_roundw
   case rel=>
    refine ⟨0+1,_,by omega,by rfl,rfl,fun t ht=>?_,?_,hb5.trans (hb6.mono (by omega)),(hb6.block _ (by omega)).trans R4⟩
    ·by_cases htj:t < 0
     ·exact hall t htj
     ·obtain rfl:t=0:=by omega
      rw [show f+((0:Nat):Int)=f by omega,HBS.out]
    ·rw [HPS.out,HBS.out,List.length_append,bys_app]
     exact ho6
   case measure=>simp [intOf]
  ·have hn:(re != 0)=true:=by rw [bne_iff_ne];exact h0
   have hr0:r=(2,zeroTg,[]):=by
    rw [← HR.out,if_pos]
    (rw [HBS.out];exact h0)
   clear HK HR HPS
   subst hr0
   go_wp2_with ((with_reducible refine wpList_stB 39 _ _ ?_);refine ⟨_,_,_,⟨_,_,_,sizeOf39,rfl,R4,st5 _ rfl 0 0 0 0 0⟩,?_⟩;intro w8 B8 g8)
   refine bodyPost_ret (results_t1c1t1 rfl rfl (run_loadVar_all isAgg39 sizeOf39 B8 rfl)) rfl ⟨FrRes.none rfl,bl_st hb5 g8 hb5.size (by omega)⟩
 ·have hr0:=hall 0 (by omega)
  rw [show f+((0:Nat):Int)=f by omega] at hr0
  skip
  have hlen:(preW d f 1).length=64 * 1:=(read_len hd f).1 hr0
  clear hall
  generalize preW d f 1=b at *
  obtain ⟨a2,c2,rfl,s2⟩:=SlB.of_owns hown
  have hmi:=mine_any a2 c2 b s.rep 3 p wr s2 (by omega)
  have hml:=mine_len3 b s.rep 3 p
  obtain ⟨st,tg,body,hmm⟩:∃ st tg body,mineF b s.rep 3 p=(st,tg,body):=⟨_,_,_,rfl⟩
  have hrr:=HR.out
  rw [if_neg (by simp [hr0]),hmm] at hrr
  rw [hmm] at hmi
  have c1:=(h.below hbr).c1
  clear hmm hown hlen HR hml
  generalize hbn:b.length=bn at *
  clear hbn
  subst hrr
  go_wp2
  refine HK.out _ _ ?_
  clear HK
  go_wp2_with (first
   | (go_at_call 171;refine hmi.mono ?_;rintro e w2 ⟨⟨a3,c3,rfl,hO⟩,hb2⟩;have R2:=tr_bl hb2 RB)
   | ((with_reducible refine wpList_stB 39 _ _ ?_);refine ⟨_,_,_,⟨_,_,_,sizeOf39,rfl,R2,st5 _ rfl tg.rep tg.reg tg.pla tg.idx tg.inc⟩,?_⟩;intro w8 B8 g8))
  have hb3:=hbr.trans (hb2.mono hbr.size)
  refine bodyPost_ret (results_t1c1t1 rfl rfl (run_loadVar_all isAgg39 sizeOf39 B8 rfl)) rfl ⟨⟨a3,c3,rfl,(hO.mono hbr.size).st g8 R2 (by decide)⟩,bl_st hb3 g8 hb3.size (Nat.le_refl _)⟩
theorem frame2_any (h:LgB w q g s) (hd:DiskB B g gp wv d w) (p:Int) (hp:0≤p∧p < 48):Calls Tryz.prog 196 #[.pointer (some ⟨q,0,none⟩),.int .i64 4,.int .i64 p] w fun e w'=>FrRes w.heap.size (fr2 d s.rep 4 p) e w'∧Below w.heap.size w w':=by
 have hf:=first4 hp
 unfold fr2
 obtain ⟨f,hff⟩:∃ f,firstN 4 p=f:=⟨_,rfl⟩
 rw [hff] at hf ⊢
 obtain ⟨r,hr⟩:∃ r,(if (readD d f).2≠0∨(readD d (f+1)).2≠0 then ((2:Nat),zeroTg,([]:List UInt8)) else mineF (preW d f 2) s.rep 4 p)=r:=⟨_,rfl⟩
 rw [hr]
 have HR:=Lib.hid hr
 clear hr
 have hfb:0≤f∧f < 200:=by omega
 have HF:=Lib.hid hff
 clear hf hff
 go_enter func196,ntmps196
 refine seqH fun K HK=>?_
 go_wp2
 refine HK.out _ _ ?_
 clear HK
 have hbz:=blw w (Obj.cells #[.int .i64 0,.int .i64 0,.int .i64 0,.int .i64 0,.int .i64 0] 39)
 have RZ:=heap_alloc_new w (Obj.cells #[.int .i64 0,.int .i64 0,.int .i64 0,.int .i64 0,.int .i64 0] 39)
 generalize w.alloc (Obj.cells #[.int .i64 0,.int .i64 0,.int .i64 0,.int .i64 0,.int .i64 0] 39)=w0 at *
 refine seqH fun K HK=>?_
 go_wp2
 refine HK.out _ _ ?_
 clear HK
 refine seqH fun K HK=>?_
 go_wp2_with (go_at_call 111;refine (wide_any 4 _).mono ?_;rintro e w1 ⟨rfl,hb1⟩)
 rw [show wideN 4=2 from rfl]
 have hbz1:=hbz.trans (hb1.mono hbz.size)
 have RZ1:=tr_bl hb1 RZ
 clear hbz hb1 RZ
 go_loopw [15,9] (fun i o wr=>∃ (j:Nat) (v:Value),j≤2∧i=.int .i64 (j:Nat)∧o=v∧(∀ t:Nat,t < j→(readD d (f+t)).2=0)∧wr.ownsRow (w.heap.size+1) 5 1 v (preW d f j).length (bys (preW d f j))∧Below w.heap.size w wr∧wr.heap[w.heap.size]?=some (.cells #[.int .i64 0,.int .i64 0,.int .i64 0,.int .i64 0,.int .i64 0] 39 (0,0))) (fun i _ _=>2 - (intOf i).toNat)
 case atStart=>exact ⟨0,_,by omega,rfl,rfl,fun t ht=>absurd ht (by omega),World.ownsRow_nil _ _ _ _,hbz1,RZ1⟩
 case' round=>
  clear hbz1 RZ1
  obtain ⟨j,v,hj,rfl,rfl,hall,hown,hbr,RB⟩:=hrel
 rcases (show j=0∨j=1∨j=2 by omega) with rfl | rfl | rfl
 ·skip
  have hrd:=fun w' (h':DiskB B g gp wv d w')=>read_slb h' (f)
  obtain ⟨bs,re,hbs⟩:∃ bs re,readD d (f)=(bs,re):=⟨_,_,rfl⟩
  have hrl:=read_len hd (f)
  rw [hbs] at hrl
  simp only [hbs] at hrd
  simp only at hrl
  have HBS:=Lib.hid hbs
  clear hbs
  have hdr:=hd.below hbr
  have hsr:=h.below hbr
  have hpl:(preW d f 0).length=64 * 0:=rfl
  have HPL:=Lib.hid hpl
  have HPS:=Lib.hid (show preW d f (0+1)=preW d f 0++(readD d (f)).1 from rfl)
  clear hpl
  generalize preW d f 0=pr at *
  refine seqH fun K HK=>?_
  go_wp2
  refine HK.out _ _ ?_
  clear HK
  refine seqH fun K HK=>?_
  go_wp2
  refine HK.out _ _ ?_
  clear HK
  refine seqH fun K HK2=>?_
  refine wp_block ?_
  refine seqH fun K HK=>?_
  go_wp2
  refine HK.out _ _ ?_
  clear HK
  refine seqH fun K HK3=>?_
  go_wp2_with fail
  have hbd:=(Below.refl wr.heap.size wr).drew
  have D1:=hdr.below hbd
  have S1:=hsr.below hbd
  have R1:=tr_bl hbd RB
  have hb1:=hbr.trans (hbd.mono hbr.size)
  have o1:=owns_bl hown hbd
  refine wp_region_held_drew (S:=fun w'=>LgB w' q g s) (by kernel_rfl) S1 (fun hS0=>?_)
  clear hbd hdr hsr hown hbr RB
  generalize wr.drew=x0 at *
  refine tkP 0 rfl ?_
  refine tkP 1 rfl ?_
  refine tkP 2 rfl ?_
  refine tkT 3 rfl (by intro wS hSw;have c:=hSw.c0;go_simp;(try with_reducible rfl)) ?_
  refine tkP 4 rfl ?_
  refine tkP 5 rfl ?_
  refine tkP 7 rfl ?_
  refine rdy1 6 rfl (fun K' hK'=>?_)
  go_simp
  refine (first_any 4 p _).mono ?_
  rintro e w2 ⟨rfl,hb2⟩
  rw [HF.out]
  have D2:=D1.below hb2
  have S2:=S1.below hb2
  have R2:=tr_bl hb2 R1
  have o2:=owns_bl o1 hb2
  have hb3:=hb1.trans (hb2.mono hb1.size)
  refine hK'.out _ _ S2 (fun _=>?_)
  clear hK' D1 S1 R1 o1 hb1 hb2 hS0
  (try simp only [Act.put,qa1,qa2,qa3])
  refine tkT 8 (v:=.int .i64 (f)) rfl (by intro wS hSw;go_simp;(try rw [IntWalk.i64_in _ (by omega)])) ?_
  refine rdy1 9 rfl (fun K' hK'=>?_)
  go_simp
  refine (hrd _ D2).mono ?_
  rintro e w4 ⟨⟨a4,c4,rfl,s4⟩,hb4⟩
  have S4:=S2.below hb4
  have R4:=tr_bl hb4 R2
  have o4:=owns_bl o2 hb4
  have hb5:=hb3.trans (hb4.mono hb3.size)
  refine hK'.out _ _ S4 (fun _=>?_)
  clear hK' D2 S2 R2 o2 hb3 hb4 hrd
  (try simp only [Act.put,qa1,qa2,qa3])
  refine tkP 10 rfl ?_
  refine tkP 11 rfl ?_
  refine tkP 12 rfl ?_
  refine tkP 13 rfl ?_
  refine tkP 14 rfl ?_
  refine wpAnyH_done (by kernel_rfl) ?_ _
  refine HK3.out _ _ ?_
  clear HK3
  by_cases h0:re=0
  ·subst h0
   have HBL:=Lib.hid (hrl.1 rfl)
   clear hrl
   refine seqH fun K HK=>?_
   go_wp2
   refine HK.out _ _ ?_
   clear HK
   go_wp2_with (at_builtin;refine wpList_append_row rfl _ _ 37 5 elByte rfl (w.heap.size+1) _ pr.length (bys pr) rfl o4 a4 bs.length c4 (bys bs) rfl (by rw [bys_len];omega) s4.row bys_one (by have:=HPL.out;have:=HBL.out;omega) (by decide) (lt_blk R4) ?_;intro v6 w6 ho6 hb6)
   (try simp only [Exit.inBlock,Exit.then])
   refine HK2.out _ _ ?_
   clear HK2
   go_wp2
   go_roundw
   case rel=>
    refine ⟨0+1,_,by omega,by rfl,rfl,fun t ht=>?_,?_,hb5.trans (hb6.mono (by omega)),(hb6.block _ (by omega)).trans R4⟩
    ·by_cases htj:t < 0
     ·exact hall t htj
     ·obtain rfl:t=0:=by omega
      rw [show f+((0:Nat):Int)=f by omega,HBS.out]
    ·rw [HPS.out,HBS.out,List.length_append,bys_app]
     exact ho6
   case measure=>simp [intOf]
  ·have hn:(re != 0)=true:=by rw [bne_iff_ne];exact h0
   have hr0:r=(2,zeroTg,[]):=by
    rw [← HR.out,if_pos]
    (rw [HBS.out];exact .inl h0)
   clear HK HR HPS
   subst hr0
   go_wp2_with ((with_reducible refine wpList_stB 39 _ _ ?_);refine ⟨_,_,_,⟨_,_,_,sizeOf39,rfl,R4,st5 _ rfl 0 0 0 0 0⟩,?_⟩;intro w8 B8 g8)
   refine bodyPost_ret (results_t1c1t1 rfl rfl (run_loadVar_all isAgg39 sizeOf39 B8 rfl)) rfl ⟨FrRes.none rfl,bl_st hb5 g8 hb5.size (by omega)⟩
 ·have hr0:=hall 0 (by omega)
  rw [show f+((0:Nat):Int)=f by omega] at hr0
  skip
  have hrd:=fun w' (h':DiskB B g gp wv d w')=>read_slb h' (f+1)
  obtain ⟨bs,re,hbs⟩:∃ bs re,readD d (f+1)=(bs,re):=⟨_,_,rfl⟩
  have hrl:=read_len hd (f+1)
  rw [hbs] at hrl
  simp only [hbs] at hrd
  simp only at hrl
  have HBS:=Lib.hid hbs
  clear hbs
  have hdr:=hd.below hbr
  have hsr:=h.below hbr
  have hpl:(preW d f 1).length=64 * 1:=(read_len hd f).1 hr0
  have HPL:=Lib.hid hpl
  have HPS:=Lib.hid (show preW d f (1+1)=preW d f 1++(readD d (f+1)).1 from rfl)
  clear hpl
  generalize preW d f 1=pr at *
  refine seqH fun K HK=>?_
  go_wp2
  refine HK.out _ _ ?_
  clear HK
  refine seqH fun K HK=>?_
  go_wp2
  refine HK.out _ _ ?_
  clear HK
  refine seqH fun K HK2=>?_
  refine wp_block ?_
  refine seqH fun K HK=>?_
  go_wp2
  refine HK.out _ _ ?_
  clear HK
  refine seqH fun K HK3=>?_
  go_wp2_with fail
  have hbd:=(Below.refl wr.heap.size wr).drew
  have D1:=hdr.below hbd
  have S1:=hsr.below hbd
  have R1:=tr_bl hbd RB
  have hb1:=hbr.trans (hbd.mono hbr.size)
  have o1:=owns_bl hown hbd
  refine wp_region_held_drew (S:=fun w'=>LgB w' q g s) (by kernel_rfl) S1 (fun hS0=>?_)
  clear hbd hdr hsr hown hbr RB
  generalize wr.drew=x0 at *
  refine tkP 0 rfl ?_
  refine tkP 1 rfl ?_
  refine tkP 2 rfl ?_
  refine tkT 3 rfl (by intro wS hSw;have c:=hSw.c0;go_simp;(try with_reducible rfl)) ?_
  refine tkP 4 rfl ?_
  refine tkP 5 rfl ?_
  refine tkP 7 rfl ?_
  refine rdy1 6 rfl (fun K' hK'=>?_)
  go_simp
  refine (first_any 4 p _).mono ?_
  rintro e w2 ⟨rfl,hb2⟩
  rw [HF.out]
  have D2:=D1.below hb2
  have S2:=S1.below hb2
  have R2:=tr_bl hb2 R1
  have o2:=owns_bl o1 hb2
  have hb3:=hb1.trans (hb2.mono hb1.size)
  refine hK'.out _ _ S2 (fun _=>?_)
  clear hK' D1 S1 R1 o1 hb1 hb2 hS0
  (try simp only [Act.put,qa1,qa2,qa3])
  refine tkT 8 (v:=.int .i64 (f+1)) rfl (by intro wS hSw;go_simp;(try rw [IntWalk.i64_in _ (by omega)])) ?_
  refine rdy1 9 rfl (fun K' hK'=>?_)
  go_simp
  refine (hrd _ D2).mono ?_
  rintro e w4 ⟨⟨a4,c4,rfl,s4⟩,hb4⟩
  have S4:=S2.below hb4
  have R4:=tr_bl hb4 R2
  have o4:=owns_bl o2 hb4
  have hb5:=hb3.trans (hb4.mono hb3.size)
  refine hK'.out _ _ S4 (fun _=>?_)
  clear hK' D2 S2 R2 o2 hb3 hb4 hrd
  (try simp only [Act.put,qa1,qa2,qa3])
  refine tkP 10 rfl ?_
  refine tkP 11 rfl ?_
  refine tkP 12 rfl ?_
  refine tkP 13 rfl ?_
  refine tkP 14 rfl ?_
  refine wpAnyH_done (by kernel_rfl) ?_ _
  refine HK3.out _ _ ?_
  clear HK3
  by_cases h0:re=0
  ·subst h0
   have HBL:=Lib.hid (hrl.1 rfl)
   clear hrl
   refine seqH fun K HK=>?_
   go_wp2
   refine HK.out _ _ ?_
   clear HK
   go_wp2_with (at_builtin;refine wpList_append_row rfl _ _ 37 5 elByte rfl (w.heap.size+1) _ pr.length (bys pr) rfl o4 a4 bs.length c4 (bys bs) rfl (by rw [bys_len];omega) s4.row bys_one (by have:=HPL.out;have:=HBL.out;omega) (by decide) (lt_blk R4) ?_;intro v6 w6 ho6 hb6)
   (try simp only [Exit.inBlock,Exit.then])
   refine HK2.out _ _ ?_
   clear HK2
   go_wp2
   go_roundw
   case rel=>
    refine ⟨1+1,_,by omega,by rfl,rfl,fun t ht=>?_,?_,hb5.trans (hb6.mono (by omega)),(hb6.block _ (by omega)).trans R4⟩
    ·by_cases htj:t < 1
     ·exact hall t htj
     ·obtain rfl:t=1:=by omega
      rw [show f+((1:Nat):Int)=f+1 by omega,HBS.out]
    ·rw [HPS.out,HBS.out,List.length_append,bys_app]
     exact ho6
   case measure=>simp [intOf]
  ·have hn:(re != 0)=true:=by rw [bne_iff_ne];exact h0
   have hr0:r=(2,zeroTg,[]):=by
    rw [← HR.out,if_pos]
    (rw [HBS.out];exact .inr h0)
   clear HK HR HPS
   subst hr0
   go_wp2_with ((with_reducible refine wpList_stB 39 _ _ ?_);refine ⟨_,_,_,⟨_,_,_,sizeOf39,rfl,R4,st5 _ rfl 0 0 0 0 0⟩,?_⟩;intro w8 B8 g8)
   refine bodyPost_ret (results_t1c1t1 rfl rfl (run_loadVar_all isAgg39 sizeOf39 B8 rfl)) rfl ⟨FrRes.none rfl,bl_st hb5 g8 hb5.size (by omega)⟩
 ·have hr0:=hall 0 (by omega)
  have hr1:=hall 1 (by omega)
  rw [show f+((0:Nat):Int)=f by omega] at hr0
  rw [show f+((1:Nat):Int)=f+1 by omega] at hr1
  skip
  have hlen:(preW d f 2).length=64 * 2:=(by show ((readD d f).1++(readD d (f+1)).1).length=128;rw [List.length_append,(read_len hd f).1 hr0,(read_len hd (f+1)).1 hr1])
  clear hall
  generalize preW d f 2=b at *
  obtain ⟨a2,c2,rfl,s2⟩:=SlB.of_owns hown
  have hmi:=mine_any a2 c2 b s.rep 4 p wr s2 (by omega)
  have hml:=mine_len3 b s.rep 4 p
  obtain ⟨st,tg,body,hmm⟩:∃ st tg body,mineF b s.rep 4 p=(st,tg,body):=⟨_,_,_,rfl⟩
  have hrr:=HR.out
  rw [if_neg (by simp [hr0,hr1]),hmm] at hrr
  rw [hmm] at hmi
  have c1:=(h.below hbr).c1
  clear hmm hown hlen HR hml
  generalize hbn:b.length=bn at *
  clear hbn
  subst hrr
  go_wp2
  refine HK.out _ _ ?_
  clear HK
  go_wp2_with (first
   | (go_at_call 171;refine hmi.mono ?_;rintro e w2 ⟨⟨a3,c3,rfl,hO⟩,hb2⟩;have R2:=tr_bl hb2 RB)
   | ((with_reducible refine wpList_stB 39 _ _ ?_);refine ⟨_,_,_,⟨_,_,_,sizeOf39,rfl,R2,st5 _ rfl tg.rep tg.reg tg.pla tg.idx tg.inc⟩,?_⟩;intro w8 B8 g8))
  have hb3:=hbr.trans (hb2.mono hbr.size)
  refine bodyPost_ret (results_t1c1t1 rfl rfl (run_loadVar_all isAgg39 sizeOf39 B8 rfl)) rfl ⟨⟨a3,c3,rfl,(hO.mono hbr.size).st g8 R2 (by decide)⟩,bl_st hb3 g8 hb3.size (Nat.le_refl _)⟩
end
end
section
def zRec (st:Nat):SRec:=⟨st,0,zeroL,0⟩
def zCp (st:Nat):SCp:=⟨st,0,zeroL,zeroE 0⟩
def recOf (r:Nat×Tg×List UInt8):SRec:=if r.1≠1 then zRec r.1 else match parseR r.2.2 with | none=>zRec 2 | some (b,k)=>⟨1,r.2.1.idx,b,(k:Nat)⟩
def cpOf (r:Nat×Tg×List UInt8):SCp:=if r.1≠1 then zCp r.1 else match parseE r.2.2 with | none=>zCp 2 | some (b,e)=>⟨1,r.2.1.idx,b,e⟩
def recW (d:Dk) (s:Lg) (i:Int):SRec:=recOf (fr1 d s.rep 3 (plW i))
def cpW (d:Dk) (s:Lg) (i:Int) (k:Nat):SCp:=cpOf (fr2 d s.rep 4 (2 * plW i+k))
theorem recOf_wh (r:Nat×Tg×List UInt8):(recOf r).wh=0∨(recOf r).wh=1:=by
 unfold recOf
 split
 ·exact .inl rfl
 ·cases h:parseR r.2.2 with
  | none=>exact .inl rfl
  | some x=>
   obtain ⟨b,k⟩:=x
   unfold parseR at h
   split at h
   ·rename_i hc
    injection h with h
    injection h with _ h
    simp only
    omega
   ·cases h
theorem tgV_nw (t:Tg):(tgV t).cells=#[.int .i64 t.rep,.int .i64 t.reg,.int .i64 t.pla,.int .i64 t.idx,.int .i64 t.inc]∧(#[Value.int .i64 t.rep,.int .i64 t.reg,.int .i64 t.pla,.int .i64 t.idx,.int .i64 t.inc]).size=5∧∀ u ∈ (#[Value.int .i64 t.rep,.int .i64 t.reg,.int .i64 t.pla,.int .i64 t.idx,.int .i64 t.inc]).toList,u.oneCell'=true:=⟨rfl,rfl,by simp [Value.oneCell']⟩
theorem rec_over (p p':SRec):0+5≤(recA p).size∧(Value.agg (recA p')).cells.size=5∧(∀ u ∈ (Value.agg (recA p')).cells.toList,u.oneCell'=true)∧((recA p).toList.take 0++(Value.agg (recA p')).cells.toList++(recA p).toList.drop (0+5)).toArray=recA p':=
 ⟨by show _≤5;omega,rfl,by simp [Value.cells,recA,Value.oneCell'],rfl⟩
theorem cpy_over (p p':SCp):0+11≤(cpyA p).size∧(Value.agg (cpyA p')).cells.size=11∧(∀ u ∈ (Value.agg (cpyA p')).cells.toList,u.oneCell'=true)∧((cpyA p).toList.take 0++(Value.agg (cpyA p')).cells.toList++(cpyA p).toList.drop (0+11)).toArray=cpyA p':=
 ⟨by show _≤11;omega,rfl,by simp [Value.cells,cpyA,Value.oneCell'],rfl⟩
theorem build_rec (st:Nat) (x:Int) (b:Bal) (wh:Int) (w:World):(Instr.build 147 #[(0,.int .u8 (st:Int)),(1,.int .i64 x),(2,.agg (blA b)),(3,.int .i64 wh)]).run Tryz.prog w=.ok (.agg (recA ⟨st,x,b,wh⟩)) w:=by kernel_rfl
theorem wpList_brec {a:Act} {w:World} {ops:Array Oper} {rest:List Oper} {Q:Exit→Act→World→Prop} {dst:Option Tmp} {ty':TypeId} {pos:String} {af:Array Edge} (st:Nat) (x:Int) (b:Bal) (wh:Int) (o0 o1 o2 o3:Operand) (h0:a.eval o0=.int .u8 (st:Int)) (h1:a.eval o1=.int .i64 x) (h2:a.eval o2=.agg (blA b)) (h3:a.eval o3=.int .i64 wh)
  (h:wpList Tryz.prog ops Q rest (a.put dst (.agg (recA ⟨st,x,b,wh⟩))) w):wpList Tryz.prog ops Q (Oper.mk dst (.build 147 #[(0,o0),(1,o1),(2,o2),(3,o3)]) ty' pos af none :: rest) a w:=
 wpList_run rfl (by
  have hb:=build_rec st x b wh w
  unfold execOp
  simp [h0,h1,h2,h3,hb]) h
theorem build_cpy (st:Nat) (x:Int) (b:Bal) (e:En) (w:World):(Instr.build 149 #[(0,.int .u8 (st:Int)),(1,.int .i64 x),(2,.agg (blA b)),(3,.agg (enA e))]).run Tryz.prog w=.ok (.agg (cpyA ⟨st,x,b,e⟩)) w:=by kernel_rfl
theorem wpList_bcpy {a:Act} {w:World} {ops:Array Oper} {rest:List Oper} {Q:Exit→Act→World→Prop} {dst:Option Tmp} {ty':TypeId} {pos:String} {af:Array Edge} (st:Nat) (x:Int) (b:Bal) (e:En) (o0 o1 o2 o3:Operand) (h0:a.eval o0=.int .u8 (st:Int)) (h1:a.eval o1=.int .i64 x) (h2:a.eval o2=.agg (blA b)) (h3:a.eval o3=.agg (enA e))
  (h:wpList Tryz.prog ops Q rest (a.put dst (.agg (cpyA ⟨st,x,b,e⟩))) w):wpList Tryz.prog ops Q (Oper.mk dst (.build 149 #[(0,o0),(1,o1),(2,o2),(3,o3)]) ty' pos af none :: rest) a w:=
 wpList_run rfl (by
  have hb:=build_cpy st x b e w
  unfold execOp
  simp [h0,h1,h2,h3,hb]) h
def NxR (r:Option (Bal×Nat)):Bal×Nat×Int:=match r with | some (b,k)=>(b,k,0) | none=>(zeroL,0,90)
theorem RcV_eq (r:Option (Bal×Nat)):RcV r=.tuple #[.agg (blA (NxR r).1),.int .i64 ((NxR r).2.1:Int),.int .i64 (NxR r).2.2]:=by cases r <;> rfl
def NxE (r:Option (Bal×En)):Bal×En×Int:=match r with | some (b,e)=>(b,e,0) | none=>(zeroL,zeroE 0,90)
theorem PsV_eq (r:Option (Bal×En)):PsV r=.tuple #[.agg (blA (NxE r).1),.agg (enA (NxE r).2.1),.int .i64 (NxE r).2.2]:=by cases r <;> rfl
theorem new_two (w:World) (A C:Obj):((w.alloc A).alloc C).heap[w.heap.size+1]?=some C:=by
 have h:=heap_alloc_new (w.alloc A) C
 rwa [show (w.alloc A).heap.size=w.heap.size+1 by simp] at h
section
variable {B g gp q:Nat} {wv:Value} {d:Dk} {w:World} {s:Lg}
theorem fr1_len (hd:DiskB B g gp wv d w) (p:Int):(fr1 d s.rep 3 p).2.2.length≤1000:=by
 unfold fr1
 split
 ·simp
 ·have h1:=mine_len3 (preW d (firstN 3 p) 1) s.rep 3 p
  have h2:(preW d (firstN 3 p) 1).length=64:=(read_len hd (firstN 3 p)).1 (by rename_i h;simpa using h)
  omega
theorem fr2_len (hd:DiskB B g gp wv d w) (p:Int):(fr2 d s.rep 4 p).2.2.length≤1000:=by
 unfold fr2
 split
 ·simp
 ·rename_i h
  have h1:=mine_len3 (preW d (firstN 4 p) 2) s.rep 4 p
  have h2:(preW d (firstN 4 p) 2).length=128:=by
   show ((readD d (firstN 4 p)).1++(readD d (firstN 4 p+1)).1).length=128
   rw [List.length_append,(read_len hd (firstN 4 p)).1 (by simpa using (fun e=>h (Or.inl e))),(read_len hd (firstN 4 p+1)).1 (by simpa using (fun e=>h (Or.inr e)))]
  omega
theorem record_any (h:LgB w q g s) (hd:DiskB B g gp wv d w) (i:Int) (h1:1≤i) (h2:i≤1099511627776):Calls Tryz.prog 153 #[.pointer (some ⟨q,0,none⟩),.int .i64 i] w fun e w'=>e=.returned (.agg (recA (recW d s i)))∧Below w.heap.size w w':=by
 unfold recW
 have hfl:=fr1_len (s:=s) hd (plW i)
 have hfr:=fun w' (h:LgB w' q g s) (D:DiskB B g gp wv d w')=>frame1_any h D (plW i) plW_in
 have hpl:=fun w=>wplace_any i h1 h2 w
 obtain ⟨st,tg,body,hr⟩:∃ st tg body,fr1 d s.rep 3 (plW i)=(st,tg,body):=⟨_,_,_,rfl⟩
 rw [hr] at hfl ⊢
 simp only [hr] at hfr
 simp only at hfl
 generalize plW i=p at *
 obtain ⟨r,hrr⟩:∃ r,recOf (st,tg,body)=r:=⟨_,rfl⟩
 rw [hrr]
 unfold recOf at hrr
 simp only at hrr
 have HRR:=Lib.hid hrr
 clear hr hrr
 have hbz:=blw w (Obj.cells #[.int .u8 0,.int .i64 0,.int .i64 0,.int .i64 0,.int .i64 0] 147)
 have R0:(w.alloc (Obj.cells #[.int .u8 0,.int .i64 0,.int .i64 0,.int .i64 0,.int .i64 0] 147)).heap[w.heap.size]?=some (.cells (recA (zRec 0)) 147 (0,0)):=heap_alloc_new w (Obj.cells #[.int .u8 0,.int .i64 0,.int .i64 0,.int .i64 0,.int .i64 0] 147)
 have L0:=h.below hbz
 have D0:=hd.below hbz
 go_enter func153,ntmps153
 refine seqH fun K HK=>?_
 go_wp2
 refine HK.out _ _ ?_
 clear HK
 generalize w.alloc (Obj.cells #[.int .u8 0,.int .i64 0,.int .i64 0,.int .i64 0,.int .i64 0] 147)=w0 at *
 clear h hd h1 h2
 refine seqH fun K HK=>?_
 go_wp2_with (first
   | (go_at_call 82;refine (hpl _).mono ?_;rintro e w1 ⟨rfl,rfl⟩)
   | (go_at_call 196;refine (hfr _ L0 D0).mono ?_;rintro e w2 ⟨⟨a3,c3,rfl,hO⟩,hb2⟩)
   | ((first | (with_reducible refine wpList_stNew 39 _ _ ?_) | (with_reducible refine wp_stNew 39 _ _ ?_));refine ⟨_,_,⟨sizeOf39,rfl,tgV_nw _⟩,rfl,?_⟩))
 refine HK.out _ _ ?_
 clear HK
 have hbt:=blw w2 (Obj.cells #[.int .i64 tg.rep,.int .i64 tg.reg,.int .i64 tg.pla,.int .i64 tg.idx,.int .i64 tg.inc] 39)
 have T3:=heap_alloc_new w2 (Obj.cells #[.int .i64 tg.rep,.int .i64 tg.reg,.int .i64 tg.pla,.int .i64 tg.idx,.int .i64 tg.inc] 39)
 have R3:=tr_bl hbt (tr_bl hb2 R0)
 have S3:=(hO.below hbt).slb
 have hb3:=hbz.trans (hb2.mono hbz.size)
 have hb4:=hb3.trans (hbt.mono hb3.size)
 clear hbz R0 L0 D0 hpl hfr hO hb2 hb3 hbt
 (try simp only at S3)
 generalize w2.alloc (Obj.cells #[.int .i64 tg.rep,.int .i64 tg.reg,.int .i64 tg.pla,.int .i64 tg.idx,.int .i64 tg.inc] 39)=w3 at *
 generalize w2.heap.size=tb at *
 by_cases hst:st=1
 case neg=>
  have e1:((st:Int) != 1)=true:=by rw [bne_iff_ne];omega
  obtain rfl:zRec st=r:=by rw [← HRR.out,if_pos hst]
  have hb5:=hb4
  have RB:=R3
  clear HRR hst
  go_wp2_with ((with_reducible refine wpList_stB 147 _ _ ?_);refine ⟨_,_,_,⟨_,_,_,sizeOf147,rfl,RB,rec_over _ (zRec st)⟩,?_⟩;intro w9 R9 g9)
  refine bodyPost_ret (results_c1 rfl rfl (run_loadVar_all isAgg147 sizeOf147 R9 rfl)) rfl ⟨rfl,bls hb5 (Nat.le_refl _) g9 (Nat.le_refl _)⟩
 case pos=>
  subst hst
  have hps:=bparse_any a3 c3 body w3 S3 (by omega)
  rw [RcV_eq] at hps
  obtain ⟨b,k,er,hnx⟩:∃ b k er,NxR (parseR body)=(b,k,er):=⟨_,_,_,rfl⟩
  rw [hnx] at hps
  simp only at hps
  have HNX:=Lib.hid hnx
  clear hnx
  refine seqH fun K HK=>?_
  go_wp2
  refine HK.out _ _ ?_
  clear HK
  refine seqH fun K HK=>?_
  go_wp2_with (first
     | (go_at_call 197;refine hps.mono ?_;rintro e w4 ⟨rfl,hb6⟩)
     | ((first | (with_reducible refine wpList_stNew 69 _ _ ?_) | (with_reducible refine wp_stNew 69 _ _ ?_));refine ⟨_,_,⟨sizeOf69,rfl,bl_new _⟩,rfl,?_⟩))
  refine HK.out _ _ ?_
  clear HK
  have hbb:=blw w4 (Obj.cells (blA b) 69)
  have C5:=heap_alloc_new w4 (Obj.cells (blA b) 69)
  have T5:=tr_bl hbb (tr_bl hb6 T3)
  have RB:=tr_bl hbb (tr_bl hb6 R3)
  have hb7:=hb4.trans (hb6.mono hb4.size)
  have hb5:=hb7.trans (hbb.mono hb7.size)
  clear hps T3 R3 S3 hb4 hb6 hbb hb7
  generalize w4.alloc (Obj.cells (blA b) 69)=w5 at *
  generalize w4.heap.size=cb at *
  have hrr:=HRR.out
  rw [if_neg (by simp)] at hrr
  have hnx:=HNX.out
  cases hp:parseR body with
  | none=>
   rw [hp] at hrr hnx
   simp only [NxR,Prod.mk.injEq] at hrr hnx
   obtain ⟨rfl,rfl,rfl⟩:=hnx
   subst hrr
   clear HRR HNX hp
   go_wp2_with ((with_reducible refine wpList_stB 147 _ _ ?_);refine ⟨_,_,_,⟨_,_,_,sizeOf147,rfl,RB,rec_over _ (zRec 2)⟩,?_⟩;intro w9 R9 g9)
   refine bodyPost_ret (results_c1 rfl rfl (run_loadVar_all isAgg147 sizeOf147 R9 rfl)) rfl ⟨rfl,bls hb5 (Nat.le_refl _) g9 (Nat.le_refl _)⟩
  | some x=>
   obtain ⟨b',k'⟩:=x
   rw [hp] at hrr hnx
   simp only [NxR,Prod.mk.injEq] at hrr hnx
   obtain ⟨rfl,rfl,rfl⟩:=hnx
   subst hrr
   clear HRR HNX hp
   have t3:w5.cell? ⟨tb,3,none⟩=some (.int .i64 tg.idx):=blk_cell T5 3 _ rfl
   go_wp2_with (first
    | ((with_reducible refine wpList_ldB 69 _ ?_);refine ⟨rfl,_,⟨_,_,_,_,_,isAgg69,sizeOf69,rfl,‹_›,arr_all rfl⟩,?_⟩)
    | (with_reducible refine wpList_brec 1 tg.idx b' (k':Int) _ _ _ _ (by simp [Act.eval]) (by simp [Act.eval]) (by simp [Act.eval]) (by simp [Act.eval]) ?_)
    | ((with_reducible refine wpList_stB 147 _ _ ?_);refine ⟨_,_,_,⟨_,_,_,sizeOf147,rfl,RB,rec_over _ ⟨1,tg.idx,b',(k':Int)⟩⟩,?_⟩;intro w9 R9 g9))
   refine bodyPost_ret (results_c1 rfl rfl (run_loadVar_all isAgg147 sizeOf147 R9 rfl)) rfl ⟨rfl,bls hb5 (Nat.le_refl _) g9 (Nat.le_refl _)⟩
theorem copied_any (h:LgB w q g s) (hd:DiskB B g gp wv d w) (i:Int) (h1:1≤i) (h2:i≤1099511627776) (wh:Nat) (hwh:wh < 2):Calls Tryz.prog 154 #[.pointer (some ⟨q,0,none⟩),.int .i64 i,.int .i64 wh] w fun e w'=>e=.returned (.agg (cpyA (cpW d s i wh)))∧Below w.heap.size w w':=by
 unfold cpW
 have hpin:=plW_in (i:=i)
 have hfl:=fr2_len (s:=s) hd (2 * plW i+wh)
 have hfr:=fun w' (h:LgB w' q g s) (D:DiskB B g gp wv d w')=>frame2_any h D (2 * plW i+wh) (by omega)
 have hpl:=fun w=>wplace_any i h1 h2 w
 obtain ⟨st,tg,body,hr⟩:∃ st tg body,fr2 d s.rep 4 (2 * plW i+wh)=(st,tg,body):=⟨_,_,_,rfl⟩
 rw [hr] at hfl ⊢
 simp only [hr] at hfr
 simp only at hfl
 generalize plW i=p at *
 have hwi:0≤(wh:Int)∧(wh:Int) < 2:=by omega
 generalize (wh:Int)=wi at *
 obtain ⟨r,hrr⟩:∃ r,cpOf (st,tg,body)=r:=⟨_,rfl⟩
 rw [hrr]
 unfold cpOf at hrr
 simp only at hrr
 have HRR:=Lib.hid hrr
 clear hr hrr hwh
 have hbz:=blw w (Obj.cells #[.int .u8 0,.int .i64 0,.int .i64 0,.int .i64 0,.int .u8 0,.int .i64 0,.int .i64 0,.int .u8 0,.string ⟨#[]⟩,.string ⟨#[]⟩,.string ⟨#[]⟩] 149)
 have R0:(w.alloc (Obj.cells #[.int .u8 0,.int .i64 0,.int .i64 0,.int .i64 0,.int .u8 0,.int .i64 0,.int .i64 0,.int .u8 0,.string ⟨#[]⟩,.string ⟨#[]⟩,.string ⟨#[]⟩] 149)).heap[w.heap.size]?=some (.cells (cpyA (zCp 0)) 149 (0,0)):=heap_alloc_new w (Obj.cells #[.int .u8 0,.int .i64 0,.int .i64 0,.int .i64 0,.int .u8 0,.int .i64 0,.int .i64 0,.int .u8 0,.string ⟨#[]⟩,.string ⟨#[]⟩,.string ⟨#[]⟩] 149)
 have L0:=h.below hbz
 have D0:=hd.below hbz
 go_enter func154,ntmps154
 refine seqH fun K HK=>?_
 go_wp2
 refine HK.out _ _ ?_
 clear HK
 generalize w.alloc (Obj.cells #[.int .u8 0,.int .i64 0,.int .i64 0,.int .i64 0,.int .u8 0,.int .i64 0,.int .i64 0,.int .u8 0,.string ⟨#[]⟩,.string ⟨#[]⟩,.string ⟨#[]⟩] 149)=w0 at *
 clear h hd h1 h2
 refine seqH fun K HK=>?_
 go_wp2_with (first
   | (go_at_call 82;refine (hpl _).mono ?_;rintro e w1 ⟨rfl,rfl⟩)
   | (go_at_call 196;refine (hfr _ L0 D0).mono ?_;rintro e w2 ⟨⟨a3,c3,rfl,hO⟩,hb2⟩)
   | ((first | (with_reducible refine wpList_stNew 39 _ _ ?_) | (with_reducible refine wp_stNew 39 _ _ ?_));refine ⟨_,_,⟨sizeOf39,rfl,tgV_nw _⟩,rfl,?_⟩))
 refine HK.out _ _ ?_
 clear HK
 have hbt:=blw w2 (Obj.cells #[.int .i64 tg.rep,.int .i64 tg.reg,.int .i64 tg.pla,.int .i64 tg.idx,.int .i64 tg.inc] 39)
 have T3:=heap_alloc_new w2 (Obj.cells #[.int .i64 tg.rep,.int .i64 tg.reg,.int .i64 tg.pla,.int .i64 tg.idx,.int .i64 tg.inc] 39)
 have R3:=tr_bl hbt (tr_bl hb2 R0)
 have S3:=(hO.below hbt).slb
 have hb3:=hbz.trans (hb2.mono hbz.size)
 have hb4:=hb3.trans (hbt.mono hb3.size)
 clear hbz R0 L0 D0 hpl hfr hO hb2 hb3 hbt hwi hpin
 (try simp only at S3)
 generalize w2.alloc (Obj.cells #[.int .i64 tg.rep,.int .i64 tg.reg,.int .i64 tg.pla,.int .i64 tg.idx,.int .i64 tg.inc] 39)=w3 at *
 generalize w2.heap.size=tb at *
 by_cases hst:st=1
 case neg=>
  have e1:((st:Int) != 1)=true:=by rw [bne_iff_ne];omega
  obtain rfl:zCp st=r:=by rw [← HRR.out,if_pos hst]
  have hb5:=hb4
  have RB:=R3
  clear HRR hst
  go_wp2_with ((with_reducible refine wpList_stB 149 _ _ ?_);refine ⟨_,_,_,⟨_,_,_,sizeOf149,rfl,RB,cpy_over _ (zCp st)⟩,?_⟩;intro w9 R9 g9)
  refine bodyPost_ret (results_c1 rfl rfl (run_loadVar_all isAgg149 sizeOf149 R9 rfl)) rfl ⟨rfl,bls hb5 (Nat.le_refl _) g9 (Nat.le_refl _)⟩
 case pos=>
  subst hst
  have hps:=eparse_any a3 c3 body w3 S3 (by omega)
  rw [PsV_eq] at hps
  obtain ⟨b,en,er,hnx⟩:∃ b en er,NxE (parseE body)=(b,en,er):=⟨_,_,_,rfl⟩
  rw [hnx] at hps
  simp only at hps
  have HNX:=Lib.hid hnx
  clear hnx
  refine seqH fun K HK=>?_
  go_wp2
  refine HK.out _ _ ?_
  clear HK
  refine seqH fun K HK=>?_
  go_wp2_with (first
     | (go_at_call 198;refine hps.mono ?_;rintro e w4 ⟨rfl,hb6⟩;have X40:((w4.alloc (Obj.cells #[.int .i64 0,.int .i64 0] 69)).alloc (Obj.cells #[.int .u8 0,.int .i64 0,.int .i64 0,.int .u8 0,.string ⟨#[]⟩,.string ⟨#[]⟩,.string ⟨#[]⟩] 73)).heap[w4.heap.size]?=some (.cells (blA ⟨0,0⟩) 69 (0,0)):=tr_al (Obj.cells #[.int .u8 0,.int .i64 0,.int .i64 0,.int .u8 0,.string ⟨#[]⟩,.string ⟨#[]⟩,.string ⟨#[]⟩] 73) (heap_alloc_new w4 (Obj.cells #[.int .i64 0,.int .i64 0] 69));have Y40:=new_two w4 (Obj.cells #[.int .i64 0,.int .i64 0] 69) (Obj.cells #[.int .u8 0,.int .i64 0,.int .i64 0,.int .u8 0,.string ⟨#[]⟩,.string ⟨#[]⟩,.string ⟨#[]⟩] 73))
     | ((with_reducible refine wpList_stB 69 _ _ ?_);refine ⟨_,_,_,⟨_,_,_,sizeOf69,rfl,X40,bl_over ⟨0,0⟩ b⟩,?_⟩;intro w41 X41 g41;have Y41:=tr_st g41 Y40 (by omega))
     | ((with_reducible refine wpList_stB 73 _ _ ?_);refine ⟨_,_,_,⟨_,_,_,sizeOf73,rfl,Y41,en_over (zeroE 0) en⟩,?_⟩;intro w42 Y42 g42))
  refine HK.out _ _ ?_
  clear HK
  have C5:=tr_st g42 X41 (by omega)
  have hbb:=(blw w4 (Obj.cells #[.int .i64 0,.int .i64 0] 69)).trans ((blw (w4.alloc (Obj.cells #[.int .i64 0,.int .i64 0] 69)) (Obj.cells #[.int .u8 0,.int .i64 0,.int .i64 0,.int .u8 0,.string ⟨#[]⟩,.string ⟨#[]⟩,.string ⟨#[]⟩] 73)).mono (blw w4 (Obj.cells #[.int .i64 0,.int .i64 0] 69)).size)
  have T40:=tr_bl hbb (tr_bl hb6 T3)
  have R40:=tr_bl hbb (tr_bl hb6 R3)
  have hb7:=hb4.trans (hb6.mono hb4.size)
  have hb8:=hb7.trans (hbb.mono hb7.size)
  have ht4:=lt_blk (tr_bl hb6 T3)
  have hr4:=lt_blk (tr_bl hb6 R3)
  have T5:=tr_st g42 (tr_st g41 T40 (by omega)) (by omega)
  have RB:=tr_st g42 (tr_st g41 R40 (by omega)) (by omega)
  have hb5:=bls (bls hb8 (Nat.le_refl _) g41 (by omega)) (Nat.le_refl _) g42 (by omega)
  clear hps T3 R3 S3 hb4 hb6 hbb hb7 hb8 T40 R40 X40 Y40 X41 Y41 g41 g42
  generalize w4.heap.size=cb at *
  have hrr:=HRR.out
  rw [if_neg (by simp)] at hrr
  have hnx:=HNX.out
  cases hp:parseE body with
  | none=>
   rw [hp] at hrr hnx
   simp only [NxE,Prod.mk.injEq] at hrr hnx
   obtain ⟨rfl,rfl,rfl⟩:=hnx
   subst hrr
   clear HRR HNX hp
   go_wp2_with ((with_reducible refine wpList_stB 149 _ _ ?_);refine ⟨_,_,_,⟨_,_,_,sizeOf149,rfl,RB,cpy_over _ (zCp 2)⟩,?_⟩;intro w9 R9 g9)
   refine bodyPost_ret (results_c1 rfl rfl (run_loadVar_all isAgg149 sizeOf149 R9 rfl)) rfl ⟨rfl,bls hb5 (Nat.le_refl _) g9 (Nat.le_refl _)⟩
  | some x=>
   obtain ⟨b',e'⟩:=x
   rw [hp] at hrr hnx
   simp only [NxE,Prod.mk.injEq] at hrr hnx
   obtain ⟨rfl,rfl,rfl⟩:=hnx
   subst hrr
   clear HRR HNX hp
   have t3:w42.cell? ⟨tb,3,none⟩=some (.int .i64 tg.idx):=blk_cell T5 3 _ rfl
   go_wp2_with (first
    | ((with_reducible refine wpList_ldB 69 _ ?_);refine ⟨rfl,_,⟨_,_,_,_,_,isAgg69,sizeOf69,rfl,‹_›,arr_all rfl⟩,?_⟩)
    | ((with_reducible refine wpList_ldB 73 _ ?_);refine ⟨rfl,_,⟨_,_,_,_,_,isAgg73,sizeOf73,rfl,‹_›,arr_all rfl⟩,?_⟩)
    | (with_reducible refine wpList_bcpy 1 tg.idx b' e' _ _ _ _ (by simp [Act.eval,Act.put]) (by simp [Act.eval,Act.put]) (by simp [Act.eval,Act.put]) (by simp [Act.eval,Act.put]) ?_)
    | ((with_reducible refine wpList_stB 149 _ _ ?_);refine ⟨_,_,_,⟨_,_,_,sizeOf149,rfl,RB,cpy_over _ ⟨1,tg.idx,b',e'⟩⟩,?_⟩;intro w9 R9 g9))
   refine bodyPost_ret (results_c1 rfl rfl (run_loadVar_all isAgg149 sizeOf149 R9 rfl)) rfl ⟨rfl,bls hb5 (Nat.le_refl _) g9 (Nat.le_refl _)⟩
end
end
section
theorem results_c2 {P:Program} {fn:Func} {p t p2 t2:Nat} {tmps:Array Value} {w:World} {A A2:Addr} {v v2:Value} (hf:fn.results=#[.cell p t,.cell p2 t2]) (hp:tmps.getD p undef=.pointer (some A)) (hl:(loadVar t A).run P w=.ok v w)
  (hp2:tmps.getD p2 undef=.pointer (some A2)) (hl2:(loadVar t2 A2).run P w=.ok v2 w):(results fn tmps).run P w=.ok (.tuple #[v,v2]) w:=by
 have hp':tmps[p]?.getD undef=.pointer (some A):=by simpa using hp
 have hp2':tmps[p2]?.getD undef=.pointer (some A2):=by simpa using hp2
 simp [results,hf,hp',hp2',asAddr,hl,hl2]
theorem results_t1c1 {P:Program} {fn:Func} {p t q:Nat} {tmps:Array Value} {w:World} {A:Addr} {v:Value} (hf:fn.results=#[.tmp q,.cell p t]) (hp:tmps.getD p undef=.pointer (some A)) (hl:(loadVar t A).run P w=.ok v w):(results fn tmps).run P w=.ok (.tuple #[tmps.getD q undef,v]) w:=by
 have hp':tmps[p]?.getD undef=.pointer (some A):=by simpa using hp
 simp [results,hf,hp',asAddr,hl]
def ffW (d:Dk) (s:Lg) (i:Int):Nat→SCp:=fun k=>cpW d s i k
def repW (d:Dk) (s:Lg) (i:Int):Int×Int×Bal×En:=whatS (recW d s i) (ffW d s i) i
theorem build_ff (f:Nat→SCp) (w:World):(Instr.build 150 #[(0,.agg (cpyA (f 0))),(1,.agg (cpyA (f 1)))]).run Tryz.prog w=.ok (.agg (ffA f)) w:=by kernel_rfl
theorem wpList_bff {a:Act} {w:World} {ops:Array Oper} {rest:List Oper} {Q:Exit→Act→World→Prop} {dst:Option Tmp} {ty':TypeId} {pos:String} {af:Array Edge} (f:Nat→SCp) (o0 o1:Operand) (h0:a.eval o0=.agg (cpyA (f 0))) (h1:a.eval o1=.agg (cpyA (f 1)))
  (h:wpList Tryz.prog ops Q rest (a.put dst (.agg (ffA f))) w):wpList Tryz.prog ops Q (Oper.mk dst (.build 150 #[(0,o0),(1,o1)]) ty' pos af none :: rest) a w:=
 wpList_run rfl (by
  have hb:=build_ff f w
  unfold execOp
  simp [h0,h1,hb]) h
theorem ff_over (x:Nat→SCp) (f:Nat→SCp):0+22≤(ffA x).size∧(Value.agg (ffA f)).cells.size=22∧(∀ u ∈ (Value.agg (ffA f)).cells.toList,u.oneCell'=true)∧((ffA x).toList.take 0++(Value.agg (ffA f)).cells.toList++(ffA x).toList.drop (0+22)).toArray=ffA f:=
 ⟨by show _≤22;omega,rfl,by simp [Value.cells,ffA,Value.oneCell'],rfl⟩
theorem rp_new (i st:Int) (b:Bal) (e:En):(Value.agg (rpA i st b e)).cells=rpA i st b e∧(rpA i st b e).size=11∧∀ u ∈ (rpA i st b e).toList,u.oneCell'=true:=⟨rfl,rfl,by simp [rpA,Value.oneCell']⟩
section
variable {B g gp q:Nat} {wv:Value} {d:Dk} {w:World} {s:Lg}
theorem wread_any (h:LgB w q g s) (hd:DiskB B g gp wv d w) (i:Int) (h1:1≤i) (h2:i≤1099511627776):Calls Tryz.prog 79 #[.pointer (some ⟨q,0,none⟩),.int .i64 i] w fun e w'=>e=.returned (.tuple #[.agg (recA (recW d s i)),.agg (ffA (ffW d s i))])∧Below w.heap.size w w':=by
 have hre:=fun w' (h:LgB w' q g s) (D:DiskB B g gp wv d w')=>record_any h D i h1 h2
 have hc0:=fun w' (h:LgB w' q g s) (D:DiskB B g gp wv d w')=>copied_any h D i h1 h2 0 (by omega)
 have hc1:=fun w' (h:LgB w' q g s) (D:DiskB B g gp wv d w')=>copied_any h D i h1 h2 1 (by omega)
 have e0:cpW d s i 0=ffW d s i 0:=rfl
 have e1:cpW d s i 1=ffW d s i 1:=rfl
 rw [e0] at hc0
 rw [e1] at hc1
 clear e0 e1
 generalize recW d s i=p at *
 generalize ffW d s i=f at *
 have hbz:=blw w (Obj.cells #[.int .u8 0,.int .i64 0,.int .i64 0,.int .i64 0,.int .i64 0] 147)
 have hbf:=hbz.trans ((blw (w.alloc (Obj.cells #[.int .u8 0,.int .i64 0,.int .i64 0,.int .i64 0,.int .i64 0] 147)) (Obj.cells #[.int .u8 0,.int .i64 0,.int .i64 0,.int .i64 0,.int .u8 0,.int .i64 0,.int .i64 0,.int .u8 0,.string ⟨#[]⟩,.string ⟨#[]⟩,.string ⟨#[]⟩,.int .u8 0,.int .i64 0,.int .i64 0,.int .i64 0,.int .u8 0,.int .i64 0,.int .i64 0,.int .u8 0,.string ⟨#[]⟩,.string ⟨#[]⟩,.string ⟨#[]⟩] 150)).mono hbz.size)
 have R0:((w.alloc (Obj.cells #[.int .u8 0,.int .i64 0,.int .i64 0,.int .i64 0,.int .i64 0] 147)).alloc (Obj.cells #[.int .u8 0,.int .i64 0,.int .i64 0,.int .i64 0,.int .u8 0,.int .i64 0,.int .i64 0,.int .u8 0,.string ⟨#[]⟩,.string ⟨#[]⟩,.string ⟨#[]⟩,.int .u8 0,.int .i64 0,.int .i64 0,.int .i64 0,.int .u8 0,.int .i64 0,.int .i64 0,.int .u8 0,.string ⟨#[]⟩,.string ⟨#[]⟩,.string ⟨#[]⟩] 150)).heap[w.heap.size]?=some (.cells (recA (zRec 0)) 147 (0,0)):=tr_al (Obj.cells #[.int .u8 0,.int .i64 0,.int .i64 0,.int .i64 0,.int .u8 0,.int .i64 0,.int .i64 0,.int .u8 0,.string ⟨#[]⟩,.string ⟨#[]⟩,.string ⟨#[]⟩,.int .u8 0,.int .i64 0,.int .i64 0,.int .i64 0,.int .u8 0,.int .i64 0,.int .i64 0,.int .u8 0,.string ⟨#[]⟩,.string ⟨#[]⟩,.string ⟨#[]⟩] 150) (heap_alloc_new w (Obj.cells #[.int .u8 0,.int .i64 0,.int .i64 0,.int .i64 0,.int .i64 0] 147))
 have F0:((w.alloc (Obj.cells #[.int .u8 0,.int .i64 0,.int .i64 0,.int .i64 0,.int .i64 0] 147)).alloc (Obj.cells #[.int .u8 0,.int .i64 0,.int .i64 0,.int .i64 0,.int .u8 0,.int .i64 0,.int .i64 0,.int .u8 0,.string ⟨#[]⟩,.string ⟨#[]⟩,.string ⟨#[]⟩,.int .u8 0,.int .i64 0,.int .i64 0,.int .i64 0,.int .u8 0,.int .i64 0,.int .i64 0,.int .u8 0,.string ⟨#[]⟩,.string ⟨#[]⟩,.string ⟨#[]⟩] 150)).heap[w.heap.size+1]?=some (.cells (ffA (fun _=>zCp 0)) 150 (0,0)):=new_two w (Obj.cells #[.int .u8 0,.int .i64 0,.int .i64 0,.int .i64 0,.int .i64 0] 147) (Obj.cells #[.int .u8 0,.int .i64 0,.int .i64 0,.int .i64 0,.int .u8 0,.int .i64 0,.int .i64 0,.int .u8 0,.string ⟨#[]⟩,.string ⟨#[]⟩,.string ⟨#[]⟩,.int .u8 0,.int .i64 0,.int .i64 0,.int .i64 0,.int .u8 0,.int .i64 0,.int .i64 0,.int .u8 0,.string ⟨#[]⟩,.string ⟨#[]⟩,.string ⟨#[]⟩] 150)
 have L0:=h.below hbf
 have D0:=hd.below hbf
 go_enter func79,ntmps79
 refine seqH fun K HK=>?_
 go_wp2
 refine HK.out _ _ ?_
 clear HK
 generalize (w.alloc (Obj.cells #[.int .u8 0,.int .i64 0,.int .i64 0,.int .i64 0,.int .i64 0] 147)).alloc (Obj.cells #[.int .u8 0,.int .i64 0,.int .i64 0,.int .i64 0,.int .u8 0,.int .i64 0,.int .i64 0,.int .u8 0,.string ⟨#[]⟩,.string ⟨#[]⟩,.string ⟨#[]⟩,.int .u8 0,.int .i64 0,.int .i64 0,.int .i64 0,.int .u8 0,.int .i64 0,.int .i64 0,.int .u8 0,.string ⟨#[]⟩,.string ⟨#[]⟩,.string ⟨#[]⟩] 150)=w0 at *
 clear h hd h1 h2 hbz
 go_wp2_with fail
 refine (hre _ L0 D0).mono ?_
 rintro e w1 ⟨rfl,hb1⟩
 have L1:=L0.below hb1
 have D1:=D0.below hb1
 have R1:=tr_bl hb1 R0
 have F1:=tr_bl hb1 F0
 have hx1:=hbf.trans (hb1.mono hbf.size)
 clear L0 D0 R0 F0 hbf hb1 hre
 go_wp2_with fail
 refine (hc0 _ L1 D1).mono ?_
 rintro e w2 ⟨rfl,hb2⟩
 have L2:=L1.below hb2
 have D2:=D1.below hb2
 have R2:=tr_bl hb2 R1
 have F2:=tr_bl hb2 F1
 have hx2:=hx1.trans (hb2.mono hx1.size)
 clear L1 D1 R1 F1 hx1 hb2 hc0
 go_wp2_with fail
 refine (hc1 _ L2 D2).mono ?_
 rintro e w3 ⟨rfl,hb3⟩
 have R3:=tr_bl hb3 R2
 have F3:=tr_bl hb3 F2
 have hx3:=hx2.trans (hb3.mono hx2.size)
 clear L2 D2 R2 F2 hx2 hb3 hc1
 go_wp2_with (first
  | (with_reducible refine wpList_bff f _ _ (by simp [Act.eval]) (by simp [Act.eval]) ?_)
  | ((with_reducible refine wpList_stB 147 _ _ ?_);refine ⟨_,_,_,⟨_,_,_,sizeOf147,rfl,R3,rec_over _ p⟩,?_⟩;intro w4 R4 g4;have F4:=tr_st g4 F3 (by omega))
  | ((with_reducible refine wpList_stB 150 _ _ ?_);refine ⟨_,_,_,⟨_,_,_,sizeOf150,rfl,F4,ff_over _ f⟩,?_⟩;intro w5 F5 g5;have R5:=tr_st g5 R4 (by omega)))
 refine bodyPost_ret (results_c2 rfl rfl (run_loadVar_all isAgg147 sizeOf147 R5 rfl) rfl (run_loadVar_all isAgg150 sizeOf150 F5 rfl)) rfl ⟨rfl,bls (bls hx3 (Nat.le_refl _) g4 (Nat.le_refl _)) (Nat.le_refl _) g5 (by omega)⟩
theorem wwhat_any (h:LgB w q g s) (hd:DiskB B g gp wv d w) (i:Int) (h1:1≤i) (h2:i≤1099511627776):Calls Tryz.prog 167 #[.pointer (some ⟨q,0,none⟩),.int .i64 i] w fun e w'=>e=.returned (.tuple #[.int .u8 (repW d s i).1,.agg (rpA i (repW d s i).2.1 (repW d s i).2.2.1 (repW d s i).2.2.2)])∧Below w.heap.size w w':=by
 unfold repW
 have hre:=fun w' (h:LgB w' q g s) (D:DiskB B g gp wv d w')=>wread_any h D i h1 h2
 have hwh:(recW d s i).wh=0∨(recW d s i).wh=1:=recOf_wh _
 generalize recW d s i=p at *
 generalize ffW d s i=f at *
 have hwt:=fun w=>what_all (p:=p) (f:=f) (i:=i) hwh w
 obtain ⟨z,hz⟩:∃ z,whatS p f i=z:=⟨_,rfl⟩
 rw [hz] at hwt ⊢
 have hbz:=blw w (Obj.cells #[.int .i64 0,.int .u8 0,.int .i64 0,.int .i64 0,.int .u8 0,.int .i64 0,.int .i64 0,.int .u8 0,.string ⟨#[]⟩,.string ⟨#[]⟩,.string ⟨#[]⟩] 163)
 have R0:(w.alloc (Obj.cells #[.int .i64 0,.int .u8 0,.int .i64 0,.int .i64 0,.int .u8 0,.int .i64 0,.int .i64 0,.int .u8 0,.string ⟨#[]⟩,.string ⟨#[]⟩,.string ⟨#[]⟩] 163)).heap[w.heap.size]?=some (.cells (rpA 0 0 zeroL (zeroE 0)) 163 (0,0)):=heap_alloc_new w (Obj.cells #[.int .i64 0,.int .u8 0,.int .i64 0,.int .i64 0,.int .u8 0,.int .i64 0,.int .i64 0,.int .u8 0,.string ⟨#[]⟩,.string ⟨#[]⟩,.string ⟨#[]⟩] 163)
 have L0:=h.below hbz
 have D0:=hd.below hbz
 clear hz hwh
 go_enter func167,ntmps167
 refine seqH fun K HK=>?_
 go_wp2
 refine HK.out _ _ ?_
 clear HK
 generalize w.alloc (Obj.cells #[.int .i64 0,.int .u8 0,.int .i64 0,.int .i64 0,.int .u8 0,.int .i64 0,.int .i64 0,.int .u8 0,.string ⟨#[]⟩,.string ⟨#[]⟩,.string ⟨#[]⟩] 163)=w0 at *
 clear h hd h1 h2
 refine seqH fun K HK=>?_
 go_wp2_with (first
   | (go_at_call 79;refine (hre _ L0 D0).mono ?_;rintro e w4 ⟨rfl,hb6⟩;have X40:((w4.alloc (Obj.cells #[.int .u8 0,.int .i64 0,.int .i64 0,.int .i64 0,.int .i64 0] 147)).alloc (Obj.cells #[.int .u8 0,.int .i64 0,.int .i64 0,.int .i64 0,.int .u8 0,.int .i64 0,.int .i64 0,.int .u8 0,.string ⟨#[]⟩,.string ⟨#[]⟩,.string ⟨#[]⟩,.int .u8 0,.int .i64 0,.int .i64 0,.int .i64 0,.int .u8 0,.int .i64 0,.int .i64 0,.int .u8 0,.string ⟨#[]⟩,.string ⟨#[]⟩,.string ⟨#[]⟩] 150)).heap[w4.heap.size]?=some (.cells (recA (zRec 0)) 147 (0,0)):=tr_al (Obj.cells #[.int .u8 0,.int .i64 0,.int .i64 0,.int .i64 0,.int .u8 0,.int .i64 0,.int .i64 0,.int .u8 0,.string ⟨#[]⟩,.string ⟨#[]⟩,.string ⟨#[]⟩,.int .u8 0,.int .i64 0,.int .i64 0,.int .i64 0,.int .u8 0,.int .i64 0,.int .i64 0,.int .u8 0,.string ⟨#[]⟩,.string ⟨#[]⟩,.string ⟨#[]⟩] 150) (heap_alloc_new w4 (Obj.cells #[.int .u8 0,.int .i64 0,.int .i64 0,.int .i64 0,.int .i64 0] 147));have Y40:((w4.alloc (Obj.cells #[.int .u8 0,.int .i64 0,.int .i64 0,.int .i64 0,.int .i64 0] 147)).alloc (Obj.cells #[.int .u8 0,.int .i64 0,.int .i64 0,.int .i64 0,.int .u8 0,.int .i64 0,.int .i64 0,.int .u8 0,.string ⟨#[]⟩,.string ⟨#[]⟩,.string ⟨#[]⟩,.int .u8 0,.int .i64 0,.int .i64 0,.int .i64 0,.int .u8 0,.int .i64 0,.int .i64 0,.int .u8 0,.string ⟨#[]⟩,.string ⟨#[]⟩,.string ⟨#[]⟩] 150)).heap[w4.heap.size+1]?=some (.cells (ffA (fun _=>zCp 0)) 150 (0,0)):=new_two w4 (Obj.cells #[.int .u8 0,.int .i64 0,.int .i64 0,.int .i64 0,.int .i64 0] 147) (Obj.cells #[.int .u8 0,.int .i64 0,.int .i64 0,.int .i64 0,.int .u8 0,.int .i64 0,.int .i64 0,.int .u8 0,.string ⟨#[]⟩,.string ⟨#[]⟩,.string ⟨#[]⟩,.int .u8 0,.int .i64 0,.int .i64 0,.int .i64 0,.int .u8 0,.int .i64 0,.int .i64 0,.int .u8 0,.string ⟨#[]⟩,.string ⟨#[]⟩,.string ⟨#[]⟩] 150))
   | ((with_reducible refine wpList_stB 147 _ _ ?_);refine ⟨_,_,_,⟨_,_,_,sizeOf147,rfl,X40,rec_over _ p⟩,?_⟩;intro w41 X41 g41;have Y41:=tr_st g41 Y40 (by omega))
   | ((with_reducible refine wpList_stB 150 _ _ ?_);refine ⟨_,_,_,⟨_,_,_,sizeOf150,rfl,Y41,ff_over _ f⟩,?_⟩;intro w42 Y42 g42))
 refine HK.out _ _ ?_
 clear HK
 have X42:=tr_st g42 X41 (by omega)
 have hbb:=(blw w4 (Obj.cells #[.int .u8 0,.int .i64 0,.int .i64 0,.int .i64 0,.int .i64 0] 147)).trans ((blw (w4.alloc (Obj.cells #[.int .u8 0,.int .i64 0,.int .i64 0,.int .i64 0,.int .i64 0] 147)) (Obj.cells #[.int .u8 0,.int .i64 0,.int .i64 0,.int .i64 0,.int .u8 0,.int .i64 0,.int .i64 0,.int .u8 0,.string ⟨#[]⟩,.string ⟨#[]⟩,.string ⟨#[]⟩,.int .u8 0,.int .i64 0,.int .i64 0,.int .i64 0,.int .u8 0,.int .i64 0,.int .i64 0,.int .u8 0,.string ⟨#[]⟩,.string ⟨#[]⟩,.string ⟨#[]⟩] 150)).mono (blw w4 (Obj.cells #[.int .u8 0,.int .i64 0,.int .i64 0,.int .i64 0,.int .i64 0] 147)).size)
 have R40:=tr_bl hbb (tr_bl hb6 R0)
 have hb7:=hbz.trans (hb6.mono hbz.size)
 have hb8:=hb7.trans (hbb.mono hb7.size)
 have hr4:=lt_blk (tr_bl hb6 R0)
 have RB:=tr_st g42 (tr_st g41 R40 (by omega)) (by omega)
 have hb5:=bls (bls hb8 (Nat.le_refl _) g41 (by omega)) (Nat.le_refl _) g42 (by omega)
 clear hre R0 L0 D0 hbz hb6 hbb hb7 hb8 R40 X40 Y40 X41 Y41 g41 g42
 generalize w4.heap.size=cb at *
 refine seqH fun K HK=>?_
 go_wp2_with (first
   | ((with_reducible refine wpList_ldB 147 _ ?_);refine ⟨rfl,_,⟨_,_,_,_,_,isAgg147,sizeOf147,rfl,‹_›,arr_all rfl⟩,?_⟩)
   | ((with_reducible refine wpList_ldB 150 _ ?_);refine ⟨rfl,_,⟨_,_,_,_,_,isAgg150,sizeOf150,rfl,‹_›,arr_all rfl⟩,?_⟩)
   | (go_at_call 209;refine (hwt _).mono ?_;rintro e w6 ⟨⟨kk,rfl⟩,hb6⟩)
   | ((first | (with_reducible refine wpList_stNew 163 _ _ ?_) | (with_reducible refine wp_stNew 163 _ _ ?_));refine ⟨_,_,⟨sizeOf163,rfl,rp_new _ _ _ _⟩,rfl,?_⟩))
 refine HK.out _ _ ?_
 clear HK
 have hbo:=blw w6 (Obj.cells (rpA i z.2.1 z.2.2.1 z.2.2.2) 163)
 have O7:=heap_alloc_new w6 (Obj.cells (rpA i z.2.1 z.2.2.1 z.2.2.2) 163)
 have R7:=tr_bl hbo (tr_bl hb6 RB)
 have hr6:=lt_blk (tr_bl hb6 RB)
 have hb7:=hb5.trans (hb6.mono hb5.size)
 have hb8:=hb7.trans (hbo.mono hb7.size)
 clear hb5 hb6 hb7 hbo RB X42 Y42 hwt
 generalize w6.alloc (Obj.cells (rpA i z.2.1 z.2.2.1 z.2.2.2) 163)=w7 at *
 generalize w6.heap.size=ob at *
 refine seqH fun K HK2=>?_
 go_wp2_with fail
 have hbd:=(Below.refl w7.heap.size w7).drew
 have O8:=tr_bl hbd O7
 have R8:=tr_bl hbd R7
 have hb13:=hb8.trans (hbd.mono hb8.size)
 clear hb8 O7 R7 hbd
 refine wp_region_held_drew (S:=fun w'=>w'.heap[ob]?=some (.cells (rpA i z.2.1 z.2.2.1 z.2.2.2) 163 (0,0))) (by kernel_rfl) O8 (fun hS0=>?_)
 generalize w7.drew=x0 at *
 refine tkP 0 rfl ?_
 refine tkT 1 (v:=.agg (rpA i z.2.1 z.2.2.1 z.2.2.2)) rfl (by intro wS hSw;exact exec_ldB 163 _ ⟨_,_,_,_,_,isAgg163,sizeOf163,rfl,hSw,arr_all rfl⟩) ?_
 refine tkP 2 rfl ?_
 refine rdy1 3 rfl (fun K' hK'=>?_)
 refine wp_stB 163 _ _ ?_
 refine ⟨_,_,_,⟨_,_,_,sizeOf163,rfl,R8,rp_over _ _ _ _ i z.2.1 z.2.2.1 z.2.2.2⟩,?_⟩
 intro w13 R13 g13
 refine hK'.out _ _ (tr_st g13 O8 (by omega)) (fun _=>?_)
 clear hK'
 (try simp only [Act.put,qa1,qa2,qa3])
 refine wpAnyH_done (by kernel_rfl) ?_ _
 refine HK2.out _ _ ?_
 clear HK2
 go_wp2
 refine bodyPost_ret (results_t1c1 rfl rfl (run_loadVar_all isAgg163 sizeOf163 R13 rfl)) rfl ⟨rfl,bls hb13 (Nat.le_refl _) g13 (Nat.le_refl _)⟩
end
end
section
structure Rpt where
 idx:Int
 st:Int
 bal:Bal
 e:En
def rptA (r:Rpt):Array Value:=rpA r.idx r.st r.bal r.e
def zeroR':Rpt:=⟨0,0,zeroL,zeroE 0⟩
def rptW (d:Dk) (s:Lg) (i:Int):Rpt:=⟨i,(repW d s i).2.1,(repW d s i).2.2.1,(repW d s i).2.2.2⟩
def getW (d:Dk) (s:Lg) (i:Int):Rpt×Int:=if liveW d s i≠0 then (zeroR',liveW d s i) else (rptW d s i,0)
def classW (d:Dk) (s:Lg) (i:Int):Int×Int:=if liveW d s i≠0 then (0,liveW d s i) else ((repW d s i).1,0)
structure LgOk (s:Lg):Prop where
 r:0≤s.rep∧s.rep≤6
 n:1≤s.inc∧s.inc≤1099511627776
 p:0≤s.snap∧s.snap≤1099511627752
def cutW (s:Lg) (n:Int):Lg×Int:=if n < s.snap∨fitW n=false then (s,2) else ({ s with snap:=n },0)
def openE (d:Dk) (rep inc snap:Int):Int:=if d.pl.length < 156∨rep < 0∨7≤rep∨inc < 1∨1099511627776 < inc∨fitW snap=false then 2 else if upD d=false then 5 else 0
theorem live_in {d:Dk} {s:Lg} {i:Int} (hs:LgOk s) (h:liveW d s i=0):1≤i∧i≤1099511627776∧upD d=true:=by
 unfold liveW at h
 have:=hs.p
 split at h
 ·cases h
 ·split at h
  ·cases h
  ·rename_i h1 h2
   exact ⟨by omega,by omega,by simpa using h2⟩
section
variable {B g gp q:Nat} {wv:Value} {d:Dk} {w w':World} {s:Lg}
theorem lget_any2 (h:LgB w q g s) (hd:DiskB B g gp wv d w) (hs:LgOk s) (i:Int):Calls Tryz.prog 93 #[.pointer (some ⟨q,0,none⟩),.int .i64 i] w fun e w'=>e=.returned (.tuple #[.agg (rptA (getW d s i).1),.int .i64 (getW d s i).2])∧Below w.heap.size w w':=by
 have hli:=fun w' (h:LgB w' q g s) (D:DiskB B g gp wv d w')=>llive_any2 h D hs.p i
 unfold getW
 have hbz:=blw w (Obj.cells #[.int .i64 0,.int .u8 0,.int .i64 0,.int .i64 0,.int .u8 0,.int .i64 0,.int .i64 0,.int .u8 0,.string ⟨#[]⟩,.string ⟨#[]⟩,.string ⟨#[]⟩] 163)
 have R0:(w.alloc (Obj.cells #[.int .i64 0,.int .u8 0,.int .i64 0,.int .i64 0,.int .u8 0,.int .i64 0,.int .i64 0,.int .u8 0,.string ⟨#[]⟩,.string ⟨#[]⟩,.string ⟨#[]⟩] 163)).heap[w.heap.size]?=some (.cells (rpA 0 0 zeroL (zeroE 0)) 163 (0,0)):=heap_alloc_new w (Obj.cells #[.int .i64 0,.int .u8 0,.int .i64 0,.int .i64 0,.int .u8 0,.int .i64 0,.int .i64 0,.int .u8 0,.string ⟨#[]⟩,.string ⟨#[]⟩,.string ⟨#[]⟩] 163)
 have L0:=h.below hbz
 have D0:=hd.below hbz
 by_cases h0:liveW d s i=0
 case neg=>
  rw [if_pos h0]
  have e0:(liveW d s i != 0)=true:=by rw [bne_iff_ne];exact h0
  generalize liveW d s i=lv at *
  go_enter func93,ntmps93
  refine seqH fun K HK=>?_
  go_wp2
  refine HK.out _ _ ?_
  clear HK
  generalize w.alloc (Obj.cells #[.int .i64 0,.int .u8 0,.int .i64 0,.int .i64 0,.int .u8 0,.int .i64 0,.int .i64 0,.int .u8 0,.string ⟨#[]⟩,.string ⟨#[]⟩,.string ⟨#[]⟩] 163)=w0 at *
  go_wp2_with (first
   | (go_at_call 77;refine (hli _ L0 D0).mono ?_;rintro e w1 ⟨rfl,rfl⟩)
   | ((with_reducible refine wpList_stB 163 _ _ ?_);refine ⟨_,_,_,⟨_,_,_,sizeOf163,rfl,R0,rp_over _ _ _ _ 0 0 zeroL (zeroE 0)⟩,?_⟩;intro w9 R9 g9))
  refine bodyPost_ret (results_c1t1 rfl rfl (run_loadVar_all isAgg163 sizeOf163 R9 rfl)) rfl ⟨rfl,bls hbz (Nat.le_refl _) g9 (Nat.le_refl _)⟩
 case pos=>
  obtain ⟨h1,h2,_⟩:=live_in hs h0
  rw [if_neg (by simp [h0])]
  have hwa:=fun w' (h:LgB w' q g s) (D:DiskB B g gp wv d w')=>wwhat_any h D i h1 h2
  unfold rptA rptW
  simp only
  generalize repW d s i=z at *
  rw [h0] at hli
  clear h0 h1 h2
  go_enter func93,ntmps93
  refine seqH fun K HK=>?_
  go_wp2
  refine HK.out _ _ ?_
  clear HK
  generalize w.alloc (Obj.cells #[.int .i64 0,.int .u8 0,.int .i64 0,.int .i64 0,.int .u8 0,.int .i64 0,.int .i64 0,.int .u8 0,.string ⟨#[]⟩,.string ⟨#[]⟩,.string ⟨#[]⟩] 163)=w0 at *
  refine seqH fun K HK=>?_
  go_wp2_with (go_at_call 77;refine (hli _ L0 D0).mono ?_;rintro e w1 ⟨rfl,rfl⟩)
  refine HK.out _ _ ?_
  clear HK
  refine seqH fun K HK=>?_
  go_wp2_with (first
     | (go_at_call 167;refine (hwa _ L0 D0).mono ?_;rintro e w6 ⟨rfl,hb6⟩)
     | ((first | (with_reducible refine wpList_stNew 163 _ _ ?_) | (with_reducible refine wp_stNew 163 _ _ ?_));refine ⟨_,_,⟨sizeOf163,rfl,rp_new _ _ _ _⟩,rfl,?_⟩))
  refine HK.out _ _ ?_
  clear HK
  have hbo:=blw w6 (Obj.cells (rpA i z.2.1 z.2.2.1 z.2.2.2) 163)
  have O7:=heap_alloc_new w6 (Obj.cells (rpA i z.2.1 z.2.2.1 z.2.2.2) 163)
  have R7:=tr_bl hbo (tr_bl hb6 R0)
  have hr6:=lt_blk (tr_bl hb6 R0)
  have hb7:=hbz.trans (hb6.mono hbz.size)
  have hb8:=hb7.trans (hbo.mono hb7.size)
  clear hbz hb6 hb7 hbo R0 hli hwa
  generalize w6.alloc (Obj.cells (rpA i z.2.1 z.2.2.1 z.2.2.2) 163)=w7 at *
  generalize w6.heap.size=ob at *
  go_wp2_with (first
   | ((with_reducible refine wpList_ldB 163 _ ?_);refine ⟨rfl,_,⟨_,_,_,_,_,isAgg163,sizeOf163,rfl,‹_›,arr_all rfl⟩,?_⟩)
   | ((with_reducible refine wpList_stB 163 _ _ ?_);refine ⟨_,_,_,⟨_,_,_,sizeOf163,rfl,R7,rp_over _ _ _ _ i z.2.1 z.2.2.1 z.2.2.2⟩,?_⟩;intro w9 R9 g9))
  refine bodyPost_ret (results_c1t1 rfl rfl (run_loadVar_all isAgg163 sizeOf163 R9 rfl)) rfl ⟨rfl,bls hb8 (Nat.le_refl _) g9 (Nat.le_refl _)⟩
theorem lclass_any2 (h:LgB w q g s) (hd:DiskB B g gp wv d w) (hs:LgOk s) (i:Int):Calls Tryz.prog 94 #[.pointer (some ⟨q,0,none⟩),.int .i64 i] w fun e w'=>e=.returned (.tuple #[.int .u8 (classW d s i).1,.int .i64 (classW d s i).2])∧Below w.heap.size w w':=by
 have hli:=llive_any2 h hd hs.p i
 unfold classW
 by_cases h0:liveW d s i=0
 case neg=>
  rw [if_pos h0]
  have e0:(liveW d s i != 0)=true:=by rw [bne_iff_ne];exact h0
  generalize liveW d s i=lv at *
  go_enter func94,ntmps94
  go_wp2_with (go_at_call 77;refine hli.mono ?_;rintro e w1 ⟨rfl,rfl⟩)
  go_ret2
  exact ⟨rfl,Below.refl _ _⟩
 case pos=>
  obtain ⟨h1,h2,_⟩:=live_in hs h0
  rw [if_neg (by simp [h0])]
  have hwa:=wwhat_any h hd i h1 h2
  generalize repW d s i=z at *
  rw [h0] at hli
  clear h0 h1 h2
  go_enter func94,ntmps94
  refine seqH fun K HK=>?_
  go_wp2
  refine HK.out _ _ ?_
  clear HK
  refine seqH fun K HK=>?_
  go_wp2_with (go_at_call 77;refine hli.mono ?_;rintro e w1 ⟨rfl,rfl⟩)
  refine HK.out _ _ ?_
  clear HK
  go_wp2_with (first
   | (go_at_call 167;refine hwa.mono ?_;rintro e w6 ⟨rfl,hb6⟩)
   | ((first | (with_reducible refine wpList_stNew 163 _ _ ?_) | (with_reducible refine wp_stNew 163 _ _ ?_));refine ⟨_,_,⟨sizeOf163,rfl,rp_new _ _ _ _⟩,rfl,?_⟩))
  go_ret2
  exact ⟨rfl,hb6.trans ((blw w6 (Obj.cells (rpA i z.2.1 z.2.2.1 z.2.2.2) 163)).mono hb6.size)⟩
theorem lg_snap (g:Nat) (s:Lg) (n:Int):3+1≤(lgA g s).size∧(Value.int .i64 n).cells.size=1∧(∀ u ∈ (Value.int .i64 n).cells.toList,u.oneCell'=true)∧((lgA g s).toList.take 3++(Value.int .i64 n).cells.toList++(lgA g s).toList.drop (3+1)).toArray=lgA g { s with snap:=n }:=
 ⟨by show _≤4;omega,rfl,by simp [Value.cells,Value.oneCell'],rfl⟩
theorem lcut_any2 (h:LgB w q g s) (n:Int):Calls Tryz.prog 25 #[.pointer (some ⟨q,0,none⟩),.int .i64 n] w fun e w'=>e=.returned (.int .i64 (cutW s n).2)∧LgB w' q g (cutW s n).1∧w.grownBy w' (some q):=by
 have HL:w.heap[q]?=some (.cells (lgA g s) 144 (0,0)):=h
 have c3:=h.c3
 have hn:=lnone_any2 h
 have hf:=fun w=>lfits_any n w
 unfold cutW
 by_cases h1:n < s.snap
 ·rw [if_pos (.inl h1)]
  go_enter func25,ntmps25
  go_wp2_with (go_at_call 90;refine hn.mono ?_;rintro e w1 ⟨rfl,rfl⟩)
  go_ret
  exact ⟨rfl,HL,World.grownBy.refl _ _⟩
 ·cases h2:fitW n
  ·rw [if_pos (.inr rfl)]
   rw [h2] at hf
   go_enter func25,ntmps25
   go_wp2_with (first
    | (go_at_call 90;refine hn.mono ?_;rintro e w1 ⟨rfl,rfl⟩)
    | (go_at_call 75;refine (hf _).mono ?_;rintro e w1 ⟨rfl,rfl⟩))
   go_ret
   exact ⟨rfl,HL,World.grownBy.refl _ _⟩
  ·rw [if_neg (by simp [h1])]
   rw [h2] at hf
   go_enter func25,ntmps25
   go_wp2_with (first
    | (go_at_call 90;refine hn.mono ?_;rintro e w1 ⟨rfl,rfl⟩)
    | (go_at_call 75;refine (hf _).mono ?_;rintro e w1 ⟨rfl,rfl⟩)
    | ((with_reducible refine wpList_stB 3 _ _ ?_);refine ⟨_,_,_,⟨_,_,_,sizeOf3,rfl,HL,lg_snap _ _ n⟩,?_⟩;intro w5 L5 g5))
   go_ret
   exact ⟨rfl,L5,g5⟩
end
end
section
def hurtB (d:Dk) (s:Int):Bool:=decide ((restD d s).2.2=0) && ((restD d s).2.1 || !decide ((restD d s).1=(meantD d s).1))
def rangeI (f t:Nat):List Int:=(List.range' f (t - f)).map (fun (s:Nat)=>(s:Int))
def hurtsL (d:Dk) (f t:Nat):List Int:=(rangeI f t).filter (hurtB d)
def askN (n:Nat) (rep reg pla:Int):Int:=if n=0 then 1 else if n < 156∨rep < 0∨7≤rep∨firstN reg pla < 0 then 2 else 0
def askG (d:Dk) (rep reg pla:Int):Int:=askN d.pl.length rep reg pla
def allG (f:Int→List UInt8) (a n:Nat):List UInt8:=(List.range n).flatMap (fun (k:Nat)=>f ((a+k:Nat):Int))
def goneG (d:Dk) (a n:Nat):Bool:=(List.range n).any (fun (k:Nat)=>(restD d ((a+k:Nat):Int)).2.1)
def isHurt (d:Dk) (a n:Nat):Bool:=!(hurtsL d a (a+n)).isEmpty
def allR (d:Dk) (a n:Nat):List UInt8:=allG (fun s=>(restD d s).1) a n
def allM (d:Dk) (a n:Nat):List UInt8:=allG (fun s=>(meantD d s).1) a n
def placeG (d:Dk) (rep reg pla:Int):Bool×Bool×Int:=
 if askG d rep reg pla≠0 then (false,false,askG d rep reg pla) else
 (isHurt d (firstN reg pla).toNat (wideN reg).toNat,isHurt d (firstN reg pla).toNat (wideN reg).toNat && (goneG d (firstN reg pla).toNat (wideN reg).toNat || decide ((mineF (allR d (firstN reg pla).toNat (wideN reg).toNat) rep reg pla).1=2)),0)
def honG (d:Dk) (rep reg pla:Int):(Nat×Tg×List UInt8)×Int:=
 if askG d rep reg pla≠0 then ((0,zeroTg,[]),askG d rep reg pla) else
 (mineF (allM d (firstN reg pla).toNat (wideN reg).toNat) rep reg pla,0)
def seenP (d:Dk) (rep:Int) (reg:Nat) (n:Nat):Bool:=(List.range n).all (fun (p:Nat)=>(placeG d rep reg p).1==(placeG d rep reg p).2.1)
def seenR (d:Dk) (rep:Int) (n:Nat):Bool:=(List.range n).all (fun (r:Nat)=>seenP d rep (r+1) (placesN ((r+1:Nat):Int)).toNat)
def seenG (d:Dk) (rep:Int):Bool×Int:=if askG d rep 1 0≠0 then (false,askG d rep 1 0) else (seenR d rep 5,0)
end
section
/-! Without faults nothing is hurt. -/
def CleanL (l:List Pl):Prop:=∀ p ∈ l,p.rest=p.meant∧p.lost=false
theorem spend_pl (d:Dk):(spendD d).1.pl=d.pl∧(spendD d).1.waits=d.waits:=by
 unfold spendD
 split
 ·exact ⟨rfl,rfl⟩
 ·split <;> exact ⟨rfl,rfl⟩
theorem write_pl (d:Dk) (s:Int) (b:List UInt8):(writeD d s b).1.pl=d.pl∧(writeD d s b).1.waits.length≤d.waits.length+1:=by
 obtain ⟨h1,h2⟩:=spend_pl d
 unfold writeD
 split
 ·exact ⟨rfl,by simp⟩
 ·split
  ·exact ⟨rfl,by simp⟩
  ·split
   ·exact ⟨h1,by rw [h2];omega⟩
   ·exact ⟨h1,by simp [h2]⟩
theorem flush_pl (d:Dk):((flushD d).1.pl=d.pl∧(flushD d).1.waits=d.waits)∨((flushD d).1.pl=thruD d.pl d.waits 0 (fun _=>true)∧(flushD d).1.waits=[]):=by
 obtain ⟨h1,h2⟩:=spend_pl d
 unfold flushD
 split
 ·exact .inl ⟨rfl,rfl⟩
 ·split
  ·exact .inl ⟨h1,h2⟩
  ·exact .inr ⟨by simp [h1,h2],rfl⟩
theorem crash_pl (d:Dk) (keep:List Bool):((crashD d keep).1.pl=d.pl∧(crashD d keep).1.waits=d.waits)∨((crashD d keep).1.pl=thruD d.pl d.waits 0 (keepB keep)∧(crashD d keep).1.waits=[]):=by
 unfold crashD
 split
 ·exact .inl ⟨rfl,rfl⟩
 ·split
  ·exact .inl ⟨rfl,rfl⟩
  ·exact .inr ⟨rfl,rfl⟩
theorem start_pl (d:Dk):(startD d).1.pl=d.pl∧(startD d).1.waits=d.waits:=by
 unfold startD
 split
 ·exact ⟨rfl,rfl⟩
 ·split <;> exact ⟨rfl,rfl⟩
theorem power_pl (d:Dk) (n:Int):(powerD d n).1.pl=d.pl∧(powerD d n).1.waits=d.waits:=by
 unfold powerD
 split
 ·exact ⟨rfl,rfl⟩
 ·split <;> exact ⟨rfl,rfl⟩
/-! Acts. -/
def sectorL (n:Int) (bytes:List UInt8):List UInt8:=if 0 < bytes.length then bytes else List.replicate 64 (UInt8.ofNat (n % 256).toNat)
def do5 (d:Dk) (k:Nat) (s n:Int) (bytes:List UInt8) (keep:List Bool):Dk×Int:=
 if k % 9=0 then flushD d else if k % 9=1 then crashD d keep else if k % 9=2 then startD d else if k % 9=3 then flipD d s n else if k % 9=4 then loseD d s else if k % 9=5 then strayD d s n else if k % 9=8 then powerD d n else writeD d s (sectorL n bytes)
structure Wk (d:Dk) (n:Nat):Prop where
 len:d.pl.length=156
 wt:d.waits.length≤n
theorem thru_len2 (pl:List Pl) (ws:List (List UInt8×Nat)) (k:Nat) (is:Nat→Bool):(thruD pl ws k is).length=pl.length:=thru_len ws pl k is
theorem Wk.of {d d':Dk} {n:Nat} (h:Wk d n) (h1:d'.pl.length=d.pl.length) (h2:d'.waits.length≤d.waits.length+1):Wk d' (n+1):=⟨h1.trans h.len,by have:=h.wt;omega⟩
theorem flip_pl (d:Dk) (s n:Int):(flipD d s n).1.pl.length=d.pl.length∧(flipD d s n).1.waits=d.waits∧∀ j:Int,meantD (flipD d s n).1 j=meantD d j:=by
 unfold flipD
 split
 ·exact ⟨rfl,rfl,fun _=>rfl⟩
 ·split
  ·exact ⟨rfl,rfl,fun _=>rfl⟩
  ·refine ⟨by simp,rfl,fun j=>?_⟩
   unfold meantD thereD
   simp only [List.length_modify,List.getD_eq_getElem?_getD,List.getElem?_modify]
   congr 2
   cases hj:d.pl[j.toNat]? with
   | none=>rfl
   | some p=>by_cases he:s.toNat=j.toNat <;> simp [he]
theorem lose_pl (d:Dk) (s:Int):(loseD d s).1.pl.length=d.pl.length∧(loseD d s).1.waits=d.waits∧∀ j:Int,meantD (loseD d s).1 j=meantD d j:=by
 unfold loseD
 split
 ·exact ⟨rfl,rfl,fun _=>rfl⟩
 ·refine ⟨by simp,rfl,fun j=>?_⟩
  unfold meantD thereD
  simp only [List.length_modify,List.getD_eq_getElem?_getD,List.getElem?_modify]
  congr 2
  cases hj:d.pl[j.toNat]? with
  | none=>rfl
  | some p=>by_cases he:s.toNat=j.toNat <;> simp [he]
theorem stray_pl (d:Dk) (s t:Int):(strayD d s t).1.pl.length=d.pl.length∧(strayD d s t).1.waits=d.waits∧∀ j:Int,meantD (strayD d s t).1 j=meantD d j:=by
 unfold strayD
 split
 ·exact ⟨rfl,rfl,fun _=>rfl⟩
 ·split
  ·exact ⟨rfl,rfl,fun _=>rfl⟩
  ·refine ⟨by simp,rfl,fun j=>?_⟩
   unfold meantD thereD
   simp only [List.length_modify,List.getD_eq_getElem?_getD,List.getElem?_modify]
   congr 2
   cases hj:d.pl[j.toNat]? with
   | none=>rfl
   | some p=>by_cases he:t.toNat=j.toNat <;> simp [he]
theorem do5_wk {d:Dk} {m:Nat} (h:Wk d m) (k:Nat) (s n:Int) (bytes:List UInt8) (keep:List Bool):Wk (do5 d k s n bytes keep).1 (m+1):=by
 unfold do5
 split
 ·rcases flush_pl d with ⟨h1,h2⟩ | ⟨h1,h2⟩
  ·exact h.of (by rw [h1]) (by rw [h2];omega)
  ·exact h.of (by rw [h1,thru_len2]) (by rw [h2];simp)
 ·split
  ·rcases crash_pl d keep with ⟨h1,h2⟩ | ⟨h1,h2⟩
   ·exact h.of (by rw [h1]) (by rw [h2];omega)
   ·exact h.of (by rw [h1,thru_len2]) (by rw [h2];simp)
  ·split
   ·obtain ⟨h1,h2⟩:=start_pl d
    exact h.of (by rw [h1]) (by rw [h2];omega)
   ·split
    ·obtain ⟨h1,h2,_⟩:=flip_pl d s n
     exact h.of h1 (by rw [h2];omega)
    ·split
     ·obtain ⟨h1,h2,_⟩:=lose_pl d s
      exact h.of h1 (by rw [h2];omega)
     ·split
      ·obtain ⟨h1,h2,_⟩:=stray_pl d s n
       exact h.of h1 (by rw [h2];omega)
      ·split
       ·obtain ⟨h1,h2⟩:=power_pl d n
        exact h.of (by rw [h1]) (by rw [h2];omega)
       ·obtain ⟨h1,h2⟩:=write_pl d s (sectorL n bytes)
        exact h.of (by rw [h1]) h2
end
section
/-! Acts that came in. -/
structure A5 where
 kind:Nat
 sec:Int
 n:Int
 ba:Option Addr
 bytes:List UInt8
 bc:Nat
 ka:Option Addr
 keep:List Bool
 kc:Nat
structure A6 where
 sl:Bool
 tg:Tg
 oa:Option Addr
 body:List UInt8
 oc:Nat
 dk:A5
def do5A (d:Dk) (x:A5):Dk×Int:=do5 d x.kind x.sec x.n x.bytes x.keep
def wideT (t:Tg):Nat:=if mayTg t=true then (wideN t.reg).toNat else 0
def sealR (t:Tg) (body:List UInt8) (n:Nat):List UInt8:=if mayTg t=true∧roomN (64 * n)≠0∧body.length≤roomN (64 * n) then sealF t body (64 * n) else []
def sealE (t:Tg) (body:List UInt8) (n:Nat):Int:=if mayTg t=false∨roomN (64 * n)=0 then 2 else if roomN (64 * n) < body.length then 3 else 0
def pcD (b:List UInt8) (k:Nat):List UInt8:=(b.drop (64 * k)).take 64
def putsD (d:Dk) (f:Int) (b:List UInt8):Nat→Dk
 | 0=>d
 | k+1=>(writeD (putsD d f b k) (f+k) (pcD b k)).1
def do6 (d:Dk) (x:A6):Dk:=if x.sl=false then (do5A d x.dk).1 else putsD d (firstN x.tg.reg x.tg.pla) (sealR x.tg x.body (wideT x.tg)) ((sealR x.tg x.body (wideT x.tg)).length / 64)
def fault (x:A6):Bool:=!x.sl && (decide (3≤x.dk.kind % 9) && decide (x.dk.kind % 9≤5))
theorem wideN_le (r:Int):0≤wideN r∧wideN r≤2:=by
 unfold wideN
 repeat' split
 all_goals omega
theorem wideT_le (t:Tg):wideT t≤2:=by
 unfold wideT
 split
 ·have:=wideN_le t.reg;omega
 ·omega
theorem wide_may {t:Tg} (h:mayTg t=true):(wideT t:Int)=wideN t.reg∧1≤wideT t∧wideT t≤2:=by
 obtain ⟨h1,h2,_⟩:=mayTg_small h
 have h3:=wideN_le t.reg
 have h4:1≤wideN t.reg:=by
  have hr:t.reg=1∨t.reg=2∨t.reg=3∨t.reg=4∨t.reg=5:=by omega
  unfold wideN
  rcases hr with h | h | h | h | h <;> rw [h] <;> decide
 unfold wideT
 rw [if_pos h]
 omega
theorem sealR_len (t:Tg) (body:List UInt8) (n:Nat):(sealR t body n).length=64 * n∧(n=1∨n=2)∧sealE t body n=0∨(sealR t body n).length=0∧sealE t body n≠0:=by
 unfold sealR sealE
 by_cases h1:mayTg t=true
 ·by_cases h2:roomN (64 * n)=0
  ·rw [if_neg (by simp [h2]),if_pos (.inr h2)]
   exact .inr ⟨rfl,by decide⟩
  ·by_cases h3:body.length≤roomN (64 * n)
   ·rw [if_pos ⟨h1,h2,h3⟩,if_neg (by simp [h1,h2]),if_neg (by omega)]
    have hn:=(roomN_of (n:=64 * n) (by omega)).1
    exact .inl ⟨sealF_len (by omega) h3,by omega,rfl⟩
   ·rw [if_neg (by omega),if_neg (by simp [h1,h2]),if_pos (by omega)]
    exact .inr ⟨rfl,by decide⟩
 ·rw [if_neg (by simp [h1]),if_pos (.inl (by simpa using h1))]
  exact .inr ⟨rfl,by decide⟩
theorem sealR_le (t:Tg) (body:List UInt8) (n:Nat):(sealR t body n).length≤128∧(sealR t body n).length / 64≤2:=by
 rcases sealR_len t body n with ⟨h,h2,_⟩ | ⟨h,_⟩ <;> omega
theorem puts_pl (d:Dk) (f:Int) (b:List UInt8):∀ k,(putsD d f b k).pl=d.pl∧(putsD d f b k).waits.length≤d.waits.length+k
 | 0=>⟨rfl,by simp [putsD]⟩
 | k+1=>by
  obtain ⟨h1,h2⟩:=puts_pl d f b k
  obtain ⟨h3,h4⟩:=write_pl (putsD d f b k) (f+k) (pcD b k)
  exact ⟨h3.trans h1,by show (writeD (putsD d f b k) (f+k) (pcD b k)).1.waits.length≤_;omega⟩
theorem do6_wk {d:Dk} {m:Nat} (h:Wk d m) (x:A6):Wk (do6 d x) (m+2):=by
 unfold do6
 split
 ·have:=do5_wk h x.dk.kind x.dk.sec x.dk.n x.dk.bytes x.dk.keep
  exact ⟨this.len,by have:=this.wt;unfold do5A;omega⟩
 ·obtain ⟨h1,h2⟩:=puts_pl d (firstN x.tg.reg x.tg.pla) (sealR x.tg x.body (wideT x.tg)) ((sealR x.tg x.body (wideT x.tg)).length / 64)
  exact ⟨by rw [h1];exact h.len,by have:=h.wt;have:=(sealR_le x.tg x.body (wideT x.tg)).2;omega⟩
/-! A frame that is put. -/
structure Ready (d:Dk):Prop where
 len:d.pl.length=156
 dn:d.down=false
 de:d.dead=false
 lf:d.left < 0∨4≤d.left
structure Held (d:Dk) (f:Nat) (b:List UInt8) (n:Nat):Prop where
 len:d.pl.length=156
 at_:∀ k,k < n→d.pl[f+k]?=some ⟨pcD b k,pcD b k,false⟩
theorem there_of {d:Dk} {j:Nat} (hl:d.pl.length=156) (hj:j < 156):thereD d (j:Int)=0:=by
 unfold thereD
 rw [if_neg (by omega),if_neg (by omega)]
def MeantIs (d:Dk) (f:Nat) (b:List UInt8) (n:Nat):Prop:=∀ k,k < n→meantD d ((f+k:Nat):Int)=(pcD b k,0)
theorem Held.meant {d:Dk} {f n:Nat} {b:List UInt8} (h:Held d f b n) (h3:f+n≤156):MeantIs d f b n:=fun k hk=>by
 unfold meantD
 rw [there_of h.len (by omega),if_neg (by decide),Int.toNat_natCast,List.getD_eq_getElem?_getD,h.at_ k hk]
 rfl
theorem place_of {t:Tg} (h:mayTg t=true):∃ f:Nat,firstN t.reg t.pla=f∧f+wideT t≤156∧∀ d:Dk,d.pl.length=156→askG d t.rep t.reg t.pla=0:=by
 obtain ⟨h1,h2,h3,h4,_⟩:=mayTg_parts h
 obtain ⟨g1,g2,g3⟩:=mayTg_small h
 obtain ⟨w1,w2,w3⟩:=wide_may h
 have hp:0 < placesN t.reg:=by omega
 have hf:firstN t.reg t.pla=startN t.reg+t.pla * wideN t.reg:=by unfold firstN;rw [if_neg (by omega)]
 have h0:0≤firstN t.reg t.pla∧firstN t.reg t.pla+wideN t.reg≤156:=by
  rw [hf]
  have hr:t.reg=1∨t.reg=2∨t.reg=3∨t.reg=4∨t.reg=5:=by omega
  rcases hr with h | h | h | h | h <;> rw [h] at h4 ⊢ <;> simp [placesN,startN,wideN] at h4 ⊢ <;> omega
 refine ⟨(firstN t.reg t.pla).toNat,by omega,by omega,fun d hd=>?_⟩
 unfold askG askN
 rw [hd,if_neg (by decide),if_neg (by omega)]
/-! A disk that is got up anew. -/
def upped (d:Dk):Dk:=(powerD (startD (if upD d=true then d else (crashD d []).1)).1 1000).1
end
section
structure WBx (w:World) (n5 n6 n7 nk ns q G:Nat) (reg pla:Int) (k N:Nat):Prop where
 c5:w.heap[n5]?=some (.cells #[.pointer (some ⟨q,0,none⟩)] 62 (0,0))
 c6:w.heap[n6]?=some (.cells #[.int .i64 reg] 3 (0,0))
 c7:w.heap[n7]?=some (.cells #[.int .i64 pla] 3 (0,0))
 ck:w.heap[nk]?=some (.cells #[.int .i64 (k:Int)] 3 (0,0))
 cs:w.heap[ns]?=some (.cells #[.slice (some ⟨G,0,none⟩) N N] 37 (0,0))
theorem one_c {w:World} {n:Nat} {v:Value} {T:TypeId} (h:w.heap[n]?=some (.cells #[v] T (0,0))):w.cell? ⟨n,0,none⟩=some v:=blk_cell h 0 _ rfl
theorem WBx.below {w w':World} {n5 n6 n7 nk ns q G:Nat} {reg pla:Int} {k N:Nat} (h:WBx w n5 n6 n7 nk ns q G reg pla k N) (hb:Below w.heap.size w w'):WBx w' n5 n6 n7 nk ns q G reg pla k N:=⟨tr_bl hb h.c5,tr_bl hb h.c6,tr_bl hb h.c7,tr_bl hb h.ck,tr_bl hb h.cs⟩
theorem WBx.kt {B:Nat} {w w':World} {n5 n6 n7 nk ns q G:Nat} {reg pla:Int} {k N:Nat} (h:WBx w n5 n6 n7 nk ns q G reg pla k N) (hb:Kt B w w'):WBx w' n5 n6 n7 nk ns q G reg pla k N:=⟨hb.ty _ _ _ h.c5 (by decide) (by decide) (by decide),hb.ty _ _ _ h.c6 (by decide) (by decide) (by decide),hb.ty _ _ _ h.c7 (by decide) (by decide) (by decide),hb.ty _ _ _ h.ck (by decide) (by decide) (by decide),hb.ty _ _ _ h.cs (by decide) (by decide) (by decide)⟩
abbrev wr2V (n5 n6 n7 nk ns:Nat):Value:=.func (.func 157) #[] #[.pointer (some ⟨n5,0,none⟩),.pointer (some ⟨n6,0,none⟩),.pointer (some ⟨n7,0,none⟩),.pointer (some ⟨nk,0,none⟩),.pointer (some ⟨ns,0,none⟩)]
section
variable {B g gp q n5 n6 n7 nk ns G:Nat} {wv:Value} {d:Dk} {w:World} {s:Lg} {reg pla f:Int} {fr:List UInt8}
theorem wr2_any (h:LgB w q g s) (hd:DiskB B g gp wv d w) (hb:B≤w.heap.size) (k:Nat) (hk:k < 2) (hx:WBx w n5 n6 n7 nk ns q G reg pla k fr.length) (hO:OwnB w B (some ⟨G,0,none⟩) fr.length fr) (hl:64 * k+64≤fr.length) (hl2:fr.length≤128) (hf:firstN reg pla=f) (hfb:0≤f∧f < 200) (hw:d.waits.length≤1000000) :
  Calls Tryz.prog 157 #[.pointer (some ⟨n5,0,none⟩),.pointer (some ⟨n6,0,none⟩),.pointer (some ⟨n7,0,none⟩),.pointer (some ⟨nk,0,none⟩),.pointer (some ⟨ns,0,none⟩)] w fun e w'=>e=.returned (.int .i64 (writeD d (f+k) (pcD fr k)).2)∧(∃ wv',DiskB B g gp wv' (writeD d (f+k) (pcD fr k)).1 w')∧Kt B w w':=by
 have hp0:(pcD fr k).length=64:=by unfold pcD;rw [List.length_take,List.length_drop];omega
 have HW0:=fun w' (D:DiskB B g gp wv d w') hB O=>write_any D hB (f+k) (some ⟨G,64 * k,none⟩) (fr.length - 64 * k) (pcD fr k) O hw
 rw [hp0] at HW0
 have HS:∀ w1,OwnB w1 B (some ⟨G,0,none⟩) fr.length fr→∀ w',Kt B w1 w'→SlB w' (some ⟨G,64 * k,none⟩) (fr.length - 64 * k) (pcD fr k):=fun w1 O w' hk'=>by
  have h1:=((O.kt hk').slb).sub (64 * k) 64 (by omega)
  rw [Nat.zero_add] at h1
  exact h1
 obtain ⟨d1,e1,hd1⟩:∃ d1 e1,writeD d (f+k) (pcD fr k)=(d1,e1):=⟨_,_,rfl⟩
 rw [hd1]
 simp only [hd1] at HW0
 have HF:=Lib.hid hf
 clear hd1 hf hp0
 generalize fr.length=N at *
 generalize pcD fr k=pc at *
 have hO2:∃ (ob:World→Prop),ob w∧(∀ w1 w',ob w1→Below w1.heap.size w1 w'→ob w')∧∀ w1,ob w1→∀ w',Kt B w1 w'→SlB w' (some ⟨G,64 * k,none⟩) (N - 64 * k) pc:=⟨fun w1=>OwnB w1 B (some ⟨G,0,none⟩) N fr,hO,fun _ _ a b=>a.below b,HS⟩
 obtain ⟨ob,O0,obl,HS2⟩:=hO2
 clear HS hO
 have hki:(k:Int)=0∨(k:Int)=1:=by omega
 rcases (show k=0∨k=1 by omega) with rfl | rfl
 ·rw [show f+((0:Nat):Int)=f by omega,Nat.mul_zero,Nat.sub_zero] at HW0
  rw [Nat.mul_zero,Nat.sub_zero] at HS2
  go_enter func157,ntmps157
  refine seqH fun K HK=>?_
  go_wp2
  refine HK.out _ _ ?_
  clear HK
  refine seqH fun K HK=>?_
  go_wp2_with fail
  have hbd:=(Below.refl w.heap.size w).drew
  have D1:=hd.below hbd
  have S1:=h.below hbd
  have X1:=hx.below hbd
  have O1:=obl _ _ O0 hbd
  have k1:=Kt.of hbd hb
  have hb1:=Nat.le_trans hb hbd.size
  refine wp_region_held_drew (S:=fun w'=>LgB w' q g s∧WBx w' n5 n6 n7 nk ns q G reg pla 0 N) (by kernel_rfl) ⟨S1,X1⟩ (fun hS0=>?_)
  clear hbd hd h hx O0 hb
  generalize w.drew=x0 at *
  refine tkT 0 rfl (by intro wS hSw;have c:=one_c hSw.2.c5;go_simp;(try with_reducible rfl)) ?_
  refine tkP 1 rfl ?_
  refine tkP 2 rfl ?_
  refine tkT 3 rfl (by intro wS hSw;have c:=hSw.1.c0;go_simp;(try with_reducible rfl)) ?_
  refine tkT 4 rfl (by intro wS hSw;have c:=one_c hSw.2.c6;go_simp;(try with_reducible rfl)) ?_
  refine tkT 5 rfl (by intro wS hSw;have c:=one_c hSw.2.c7;go_simp;(try with_reducible rfl)) ?_
  refine tkT 7 (v:=.int .i64 0) rfl (by intro wS hSw;have c:=one_c hSw.2.ck;go_simp;(try rfl)) ?_
  refine tkT 9 rfl (by intro wS hSw;have c:=one_c hSw.2.cs;go_simp;(try with_reducible rfl)) ?_
  refine tkT 10 (v:=.int .i64 0) rfl (by intro wS hSw;have c:=one_c hSw.2.ck;go_simp;(try rfl)) ?_
  refine tkT 11 (v:=.int .i64 0) rfl (by intro wS hSw;go_simp;(try rfl)) ?_
  refine tkT 12 (v:=.int .i64 0) rfl (by intro wS hSw;have c:=one_c hSw.2.ck;go_simp;(try rfl)) ?_
  refine tkT 13 (v:=.int .i64 1) rfl (by intro wS hSw;go_simp;(try rfl)) ?_
  refine tkT 14 (v:=.int .i64 64) rfl (by intro wS hSw;go_simp;(try rfl)) ?_
  refine tkT 15 (v:=.slice (some ⟨G,0,none⟩) 64 N) rfl (by intro wS hSw;go_simp;(intro hx9;omega)) ?_
  refine rdy1 6 rfl (fun K' hK'=>?_)
  go_simp
  refine (first_any reg pla _).mono ?_
  rintro e w10 ⟨rfl,hb10⟩
  rw [HF.out]
  have D10:=D1.below hb10
  have S10:=S1.below hb10
  have X10:=X1.below hb10
  have O10:=obl _ _ O1 hb10
  have k10:=k1.trans (Kt.of hb10 hb1)
  have hB10:=Nat.le_trans hb1 hb10.size
  refine hK'.out _ _ ⟨S10,X10⟩ (fun _=>?_)
  clear hK' hS0 D1 S1 X1 O1 k1 hb1 hb10
  (try simp only [Act.put,qa1,qa2,qa3])
  refine tkT 8 (v:=.int .i64 f) rfl (by intro wS hSw;go_simp;(try rw [IntWalk.i64_in _ (by omega)])) ?_
  refine rdy1 16 rfl (fun K' hK'=>?_)
  go_simp
  refine (HW0 _ D10 hB10 (HS2 _ O10)).mono ?_
  rintro e w11 ⟨rfl,⟨wv11,D11⟩,hk11⟩
  refine hK'.out _ _ ⟨S10.kt hk11,X10.kt hk11⟩ (fun _=>?_)
  clear hK'
  (try simp only [Act.put,qa1,qa2,qa3])
  refine tkP 17 rfl ?_
  refine wpAnyH_done (by kernel_rfl) ?_ _
  refine HK.out _ _ ?_
  clear HK
  go_wp2
  go_ret
  exact ⟨rfl,⟨_,D11⟩,k10.trans hk11⟩
 ·rw [show f+((1:Nat):Int)=f+1 by omega,Nat.mul_one] at HW0
  rw [Nat.mul_one] at HS2
  go_enter func157,ntmps157
  refine seqH fun K HK=>?_
  go_wp2
  refine HK.out _ _ ?_
  clear HK
  refine seqH fun K HK=>?_
  go_wp2_with fail
  have hbd:=(Below.refl w.heap.size w).drew
  have D1:=hd.below hbd
  have S1:=h.below hbd
  have X1:=hx.below hbd
  have O1:=obl _ _ O0 hbd
  have k1:=Kt.of hbd hb
  have hb1:=Nat.le_trans hb hbd.size
  refine wp_region_held_drew (S:=fun w'=>LgB w' q g s∧WBx w' n5 n6 n7 nk ns q G reg pla 1 N) (by kernel_rfl) ⟨S1,X1⟩ (fun hS0=>?_)
  clear hbd hd h hx O0 hb
  generalize w.drew=x0 at *
  refine tkT 0 rfl (by intro wS hSw;have c:=one_c hSw.2.c5;go_simp;(try with_reducible rfl)) ?_
  refine tkP 1 rfl ?_
  refine tkP 2 rfl ?_
  refine tkT 3 rfl (by intro wS hSw;have c:=hSw.1.c0;go_simp;(try with_reducible rfl)) ?_
  refine tkT 4 rfl (by intro wS hSw;have c:=one_c hSw.2.c6;go_simp;(try with_reducible rfl)) ?_
  refine tkT 5 rfl (by intro wS hSw;have c:=one_c hSw.2.c7;go_simp;(try with_reducible rfl)) ?_
  refine tkT 7 (v:=.int .i64 1) rfl (by intro wS hSw;have c:=one_c hSw.2.ck;go_simp;(try rfl)) ?_
  refine tkT 9 rfl (by intro wS hSw;have c:=one_c hSw.2.cs;go_simp;(try with_reducible rfl)) ?_
  refine tkT 10 (v:=.int .i64 1) rfl (by intro wS hSw;have c:=one_c hSw.2.ck;go_simp;(try rfl)) ?_
  refine tkT 11 (v:=.int .i64 64) rfl (by intro wS hSw;go_simp;(try rfl)) ?_
  refine tkT 12 (v:=.int .i64 1) rfl (by intro wS hSw;have c:=one_c hSw.2.ck;go_simp;(try rfl)) ?_
  refine tkT 13 (v:=.int .i64 2) rfl (by intro wS hSw;go_simp;(try rfl)) ?_
  refine tkT 14 (v:=.int .i64 128) rfl (by intro wS hSw;go_simp;(try rfl)) ?_
  refine tkT 15 (v:=.slice (some ⟨G,64,none⟩) 64 (N - 64)) rfl (by intro wS hSw;go_simp;(rw [if_pos (show (128:Int)≤N by omega),if_neg (show ¬ N=64 by omega)])) ?_
  refine rdy1 6 rfl (fun K' hK'=>?_)
  go_simp
  refine (first_any reg pla _).mono ?_
  rintro e w10 ⟨rfl,hb10⟩
  rw [HF.out]
  have D10:=D1.below hb10
  have S10:=S1.below hb10
  have X10:=X1.below hb10
  have O10:=obl _ _ O1 hb10
  have k10:=k1.trans (Kt.of hb10 hb1)
  have hB10:=Nat.le_trans hb1 hb10.size
  refine hK'.out _ _ ⟨S10,X10⟩ (fun _=>?_)
  clear hK' hS0 D1 S1 X1 O1 k1 hb1 hb10
  (try simp only [Act.put,qa1,qa2,qa3])
  refine tkT 8 (v:=.int .i64 (f+1)) rfl (by intro wS hSw;go_simp;(try rw [IntWalk.i64_in _ (by omega)])) ?_
  refine rdy1 16 rfl (fun K' hK'=>?_)
  go_simp
  refine (HW0 _ D10 hB10 (HS2 _ O10)).mono ?_
  rintro e w11 ⟨rfl,⟨wv11,D11⟩,hk11⟩
  refine hK'.out _ _ ⟨S10.kt hk11,X10.kt hk11⟩ (fun _=>?_)
  clear hK'
  (try simp only [Act.put,qa1,qa2,qa3])
  refine tkP 17 rfl ?_
  refine wpAnyH_done (by kernel_rfl) ?_ _
  refine HK.out _ _ ?_
  clear HK
  go_wp2
  go_ret
  exact ⟨rfl,⟨_,D11⟩,k10.trans hk11⟩
end
end
end Go.Proofs.YtbdonjenekhmdaaGreatDoor
