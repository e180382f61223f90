/- Texts that the claim leans on, part 10: E9, T1, T2. -/
import Derived.Test.YtbdonjenekhmdaaGreatDoorZ1
import Derived.Test.YtbdonjenekhmdaaGreatDoorZ2
import Derived.Test.YtbdonjenekhmdaaGreatDoorZ3
import Derived.Test.YtbdonjenekhmdaaGreatDoorZ4
import Derived.Test.YtbdonjenekhmdaaGreatDoorZ5
import Derived.Test.YtbdonjenekhmdaaGreatDoorZ6
import Derived.Test.YtbdonjenekhmdaaGreatDoorZ7
import Derived.Test.YtbdonjenekhmdaaGreatDoorZ8
import Derived.Test.YtbdonjenekhmdaaGreatDoorZ9
namespace Go.Proofs.YtbdonjenekhmdaaGreatDoor
open Go.RowKit Go.Proofs.Tryz
set_option maxRecDepth 100000
set_option maxHeartbeats 32000000
section
def RcV (r:Option (Bal×Nat)):Value:=match r with | some (b,k)=>.tuple #[.agg (blA b),.int .i64 (k:Int),.int .i64 0] | none=>.tuple #[.agg (blA ⟨0,0⟩),.int .i64 0,.int .i64 90]
theorem getN_one {l:List UInt8} {k:Nat} (h:k < l.length):getN l k 1=(l[k]).toNat:=by
 unfold getN
 rw [List.drop_eq_getElem_cons h,List.take_succ_cons,List.take_zero]
 simp [ofLe]
theorem cell_st {w w':World} {g b o:Nat} {v:Value} (hg:w.grownBy w' (some g)) (h:w.cell? ⟨b,o,none⟩=some v) (hne:g≠b):w'.cell? ⟨b,o,none⟩=some v:=by
 have hb:=hg.block b (World.block_lt_of_cell? _ _ h) (fun e=>hne (Option.some.inj e).symm)
 rw [← h]
 simp only [World.cell?,hb]
theorem bparse_any (a:Option Addr) (cap:Nat) (l:List UInt8) (w:World) (hs:SlB w a cap l) (hl:l.length≤1000000) :
  Calls Tryz.prog 197 #[.slice a l.length cap] w fun en w'=>en=.returned (RcV (parseR l))∧Below w.heap.size w w':=by
 obtain ⟨r,hr⟩:∃ r,parseR l=r:=⟨_,rfl⟩
 rw [hr]
 have HR:=Lib.hid hr
 clear hr
 obtain ⟨n,q,er,hgv,hcase⟩:=getV_form l 0 6
 have hmx:=hs.max
 have hle:=hs.le
 have HS:=Lib.hid hs
 go_enter func197,ntmps197
 refine seqH fun K HK=>?_
 go_wp2
 refine HK.out _ _ ?_
 clear HK
 have hbz:=blw w (Obj.cells #[.int .i64 0,.int .i64 0] 69)
 have RB0:(w.alloc (Obj.cells #[.int .i64 0,.int .i64 0] 69)).heap[w.heap.size]?=some (.cells (blA ⟨0,0⟩) 69 (0,0)):=heap_alloc_new w (Obj.cells #[.int .i64 0,.int .i64 0] 69)
 have hs0:=HS.out.below hbz
 have hgc:=get_v a cap l 0 6 (w.alloc (Obj.cells #[.int .i64 0,.int .i64 0] 69)) hs0 (Nat.zero_le _) (by omega)
 rw [hgv] at hgc
 generalize w.alloc (Obj.cells #[.int .i64 0,.int .i64 0] 69)=w0 at *
 clear hgv hs0 hs
 refine seqH fun K HK=>?_
 go_wp2_with (go_at_call 99;refine hgc.mono ?_;rintro en w1 ⟨rfl,hb1⟩)
 refine HK.out _ _ ?_
 clear HK
 have RB1:=tr_bl hb1 RB0
 have hb1:=hbz.trans (hb1.mono hbz.size)
 have HS1:=Lib.hid (HS.out.below hb1)
 clear HS RB0 hbz hgc
 rcases hcase with ⟨rfl,h6,rfl,rfl⟩ | ⟨rfl,h6⟩
 case inr=>
  obtain rfl:none=r:=by rw [← HR.out];unfold parseR;rw [if_neg (fun h=>by omega)]
  clear HR h6
  go_wp2_with ((with_reducible refine wpList_stB 69 _ _ ?_);refine ⟨_,_,_,⟨_,_,_,sizeOf69,rfl,RB1,bl_over _ ⟨0,0⟩⟩,?_⟩;intro w9 RB9 g9)
  refine bodyPost_ret (results_c1t2 rfl rfl (run_loadVar_all isAgg69 sizeOf69 RB9 rfl)) rfl ⟨rfl,bls hb1 (Nat.le_refl _) g9 (Nat.le_refl _)⟩
 case inl=>
  by_cases h8:l.length=8
  case neg=>
   obtain rfl:none=r:=by rw [← HR.out];unfold parseR;rw [if_neg (fun h=>h8 h.1)]
   have e8:((l.length:Int) != 8)=true:=by rw [bne_iff_ne];omega
   have e9:((l.length:Int) != ((0+6:Nat):Int)+2)=true:=by rw [bne_iff_ne];omega
   clear HR h6 h8
   go_wp2_with ((with_reducible refine wpList_stB 69 _ _ ?_);refine ⟨_,_,_,⟨_,_,_,sizeOf69,rfl,RB1,bl_over _ ⟨0,0⟩⟩,?_⟩;intro w9 RB9 g9)
   refine bodyPost_ret (results_c1t2 rfl rfl (run_loadVar_all isAgg69 sizeOf69 RB9 rfl)) rfl ⟨rfl,bls hb1 (Nat.le_refl _) g9 (Nat.le_refl _)⟩
  case pos=>
   have hrr:(if mayBl ⟨getN l 0 6,getN l 6 1⟩=true∧getN l 7 1 < 2 then some ((⟨getN l 0 6,getN l 6 1⟩:Bal),getN l 7 1) else none)=r:=by
    rw [← HR.out]
    unfold parseR
    by_cases hc:mayBl ⟨getN l 0 6,getN l 6 1⟩=true∧getN l 7 1 < 2
    ·rw [if_pos hc,if_pos ⟨h8,hc⟩]
    ·rw [if_neg hc,if_neg (fun h=>hc h.2)]
   have hg6:=getN_one (l:=l) (k:=6) (by omega)
   have hg7:=getN_one (l:=l) (k:=7) (by omega)
   have hc6:∀ w',SlB w' a cap l→∃ b off,a=some ⟨b,off,none⟩∧w'.cell? ⟨b,off+6,none⟩=some (.int .u8 (getN l 6 1:Nat))∧w'.cell? ⟨b,off+7,none⟩=some (.int .u8 (getN l 7 1:Nat)):=fun w' h=>by
    obtain ⟨b,off,rfl⟩:=h.some_of (by omega)
    refine ⟨b,off,rfl,?_,?_⟩
    ·rw [hg6];exact h.row.byteAt (by omega)
    ·rw [hg7];exact h.row.byteAt (by omega)
   obtain ⟨b,off,rfl,hz6,hz7⟩:=hc6 w1 HS1.out
   clear HR
   generalize getN l 0 6=rn at *
   have h6b:getN l 6 1 < 256:=by rw [hg6];exact UInt8.toNat_lt _
   have h7b:getN l 7 1 < 256:=by rw [hg7];exact UInt8.toNat_lt _
   clear hg6 hg7
   generalize getN l 6 1=rp at *
   generalize getN l 7 1=wh at *
   have h6i:(rp:Int) < 256:=by omega
   have h7i:(wh:Int) < 256:=by omega
   rw [h8]
   refine seqH fun K HK=>?_
   go_wp2
   refine HK.out _ _ ?_
   clear HK
   refine seqH fun K HK=>?_
   go_wp2_with fail
   have hbd:=(Below.refl w1.heap.size w1).drew
   have RB2:=tr_bl hbd RB1
   have z6:=(hbd.cell (World.block_lt_of_cell? _ _ hz6)).trans hz6
   have z7:=(hbd.cell (World.block_lt_of_cell? _ _ hz7)).trans hz7
   have hb2:=hb1.trans (hbd.mono hb1.size)
   clear hbd hb1 RB1 hz6 hz7
   refine wp_region_held_drew (S:=fun w'=>w'.cell? ⟨b,off+6,none⟩=some (.int .u8 (rp:Nat))∧w'.cell? ⟨b,off+7,none⟩=some (.int .u8 (wh:Nat))) (by kernel_rfl) ⟨z6,z7⟩ (fun hS0=>?_)
   generalize w1.drew=x0 at *
   refine tkP 0 rfl ?_
   refine tkP 1 rfl ?_
   refine tkP 2 rfl ?_
   refine tkT 3 (v:=.pointer (some ⟨b,off+6,none⟩)) rfl (by intro wS hSw;go_simp;(try rfl)) ?_
   refine tkT 4 rfl (by intro wS hSw;have c:=hSw.1;go_simp;(try with_reducible rfl)) ?_
   refine tkT 5 (v:=.int .i64 (rp:Nat)) rfl (by intro wS hSw;go_simp;(try rw [IntWalk.i64_in _ (by omega)]);(try rfl)) ?_
   refine tkP 6 rfl ?_
   refine tkP 7 rfl ?_
   refine tkP 8 rfl ?_
   refine tkT 9 (v:=.int .i64 7) rfl (by intro wS hSw;go_simp;(try rw [IntWalk.i64_in _ (by omega)]);(try rfl)) ?_
   refine tkT 10 (v:=.pointer (some ⟨b,off+7,none⟩)) rfl (by intro wS hSw;go_simp;(try rfl)) ?_
   refine tkT 11 rfl (by intro wS hSw;have c:=hSw.2;go_simp;(try with_reducible rfl)) ?_
   refine tkT 12 (v:=.int .i64 (wh:Nat)) rfl (by intro wS hSw;go_simp;(try rw [IntWalk.i64_in _ (by omega)]);(try rfl)) ?_
   refine rdy1 13 rfl (fun K' hK'=>?_)
   go_simp
   change K' _ (World.alloc _ (Obj.cells #[.int .i64 0,.int .i64 0] 69))
   have hb3:=blw x0 (Obj.cells #[.int .i64 0,.int .i64 0] 69)
   have X3:(x0.alloc (Obj.cells #[.int .i64 0,.int .i64 0] 69)).heap[x0.heap.size]?=some (.cells (blA ⟨0,0⟩) 69 (0,0)):=heap_alloc_new x0 (Obj.cells #[.int .i64 0,.int .i64 0] 69)
   have RB3:=tr_bl hb3 RB2
   have S3:=And.intro ((hb3.cell (World.block_lt_of_cell? _ _ z6)).trans z6) ((hb3.cell (World.block_lt_of_cell? _ _ z7)).trans z7)
   have hxl:=lt_blk RB2
   have hb4:=hb2.trans (hb3.mono hb2.size)
   refine hK'.out _ _ S3 (fun _=>?_)
   clear hK' hb3 hb2 hS0 RB2
   have hnb:x0.heap.size≠b:=by have:=World.block_lt_of_cell? _ _ z6;simp at this;omega
   clear z6 z7
   generalize x0.alloc (Obj.cells #[.int .i64 0,.int .i64 0] 69)=x1 at *
   generalize x0.heap.size=x at *
   (try simp only [Act.put,qa1,qa2,qa3])
   refine rdy1 14 rfl (fun K' hK'=>?_)
   refine wp_stB 69 _ _ ?_
   refine ⟨_,_,_,⟨_,_,_,sizeOf69,rfl,X3,bl_over _ ⟨rn,rp⟩⟩,?_⟩
   intro x2 X4 g4
   have S4:x2.cell? ⟨b,off+6,none⟩=some (.int .u8 (rp:Nat))∧x2.cell? ⟨b,off+7,none⟩=some (.int .u8 (wh:Nat)):=⟨cell_st g4 S3.1 hnb,cell_st g4 S3.2 hnb⟩
   refine hK'.out _ _ S4 (fun _=>?_)
   clear hK' S3 S4
   have RB4:=tr_st g4 RB3 (by omega)
   have hb5:=bls hb4 (Nat.le_refl _) g4 (by omega)
   (try simp only [Act.put,qa1,qa2,qa3])
   refine tkP 15 rfl ?_
   refine wpAnyH_done (by kernel_rfl) ?_ _
   refine HK.out _ _ ?_
   clear HK X3 RB3 g4 hb4
   by_cases hc:mayBl ⟨rn,rp⟩=true∧wh < 2
   case pos=>
    obtain rfl:some (⟨rn,rp⟩,wh)=r:=by rw [← hrr,if_pos hc]
    have hsp:=fun w=>sprint_ok (w:=w) hc.1 wh hc.2
    clear hrr hc
    refine seqH fun K HK=>?_
    go_wp2_with (first
         | ((with_reducible refine wpList_ldB 69 _ ?_);refine ⟨rfl,_,⟨_,_,_,_,_,isAgg69,sizeOf69,rfl,‹_›,arr_all rfl⟩,?_⟩)
         | (go_at_call 83;refine (hsp _).mono ?_;rintro en w6 ⟨⟨a6,c6,rfl,O6⟩,hb6⟩))
    refine HK.out _ _ ?_
    clear HK
    have RB6:=tr_bl hb6 RB4
    have X6:=tr_bl hb6 X4
    have hb7:=hb5.trans (hb6.mono hb5.size)
    go_wp2_with (first
     | ((with_reducible refine wpList_ldB 69 _ ?_);refine ⟨rfl,_,⟨_,_,_,_,_,isAgg69,sizeOf69,rfl,‹_›,arr_all rfl⟩,?_⟩)
     | ((with_reducible refine wpList_stB 69 _ _ ?_);refine ⟨_,_,_,⟨_,_,_,sizeOf69,rfl,RB6,bl_over _ ⟨rn,rp⟩⟩,?_⟩;intro w9 RB9 g9))
    refine bodyPost_ret (results_c1t2 rfl rfl (run_loadVar_all isAgg69 sizeOf69 RB9 rfl)) rfl ⟨rfl,bls hb7 (Nat.le_refl _) g9 (Nat.le_refl _)⟩
   case neg=>
    obtain rfl:none=r:=by rw [← hrr,if_neg hc]
    have hsp:=fun w=>sprint_bad (w:=w) (b:=⟨rn,rp⟩) wh (by
     by_cases h1:mayBl ⟨rn,rp⟩=true
     ·have h2:¬ wh < 2:=fun h=>hc ⟨h1,h⟩
      exact .inr ⟨by omega,by omega⟩
     ·exact .inl (by simpa using h1))
    clear hrr hc
    go_wp2_with (first
     | ((with_reducible refine wpList_ldB 69 _ ?_);refine ⟨rfl,_,⟨_,_,_,_,_,isAgg69,sizeOf69,rfl,‹_›,arr_all rfl⟩,?_⟩)
     | (go_at_call 83;refine (hsp _).mono ?_;rintro en w6 ⟨rfl,hb6⟩;have RB6:=tr_bl hb6 RB4)
     | ((with_reducible refine wpList_stB 69 _ _ ?_);refine ⟨_,_,_,⟨_,_,_,sizeOf69,rfl,RB6,bl_over _ ⟨0,0⟩⟩,?_⟩;intro w9 RB9 g9))
    have hb7:=hb5.trans (hb6.mono hb5.size)
    refine bodyPost_ret (results_c1t2 rfl rfl (run_loadVar_all isAgg69 sizeOf69 RB9 rfl)) rfl ⟨rfl,bls hb7 (Nat.le_refl _) g9 (Nat.le_refl _)⟩
end
section
def recA (p:SRec):Array Value:=#[.int .u8 (p.st:Int),.int .i64 p.idx,.int .i64 p.bal.rnd,.int .i64 p.bal.rep,.int .i64 p.wh]
def cpyA (c:SCp):Array Value:=#[.int .u8 (c.st:Int),.int .i64 c.idx,.int .i64 c.bal.rnd,.int .i64 c.bal.rep,.int .u8 c.e.kind,.int .i64 c.e.cli,.int .i64 c.e.seq,.int .u8 c.e.op.kind,.string c.e.op.key,.string c.e.op.old,.string c.e.op.val]
def ffA (f:Nat→SCp):Array Value:=#[.int .u8 ((f 0).st:Int),.int .i64 (f 0).idx,.int .i64 (f 0).bal.rnd,.int .i64 (f 0).bal.rep,.int .u8 (f 0).e.kind,.int .i64 (f 0).e.cli,.int .i64 (f 0).e.seq,.int .u8 (f 0).e.op.kind,.string (f 0).e.op.key,.string (f 0).e.op.old,.string (f 0).e.op.val,.int .u8 ((f 1).st:Int),.int .i64 (f 1).idx,.int .i64 (f 1).bal.rnd,.int .i64 (f 1).bal.rep,.int .u8 (f 1).e.kind,.int .i64 (f 1).e.cli,.int .i64 (f 1).e.seq,.int .u8 (f 1).e.op.kind,.string (f 1).e.op.key,.string (f 1).e.op.old,.string (f 1).e.op.val]
def prA (p:SRec) (f:Nat→SCp) (i:Int):Array Value:=#[.int .u8 (p.st:Int),.int .i64 p.idx,.int .i64 p.bal.rnd,.int .i64 p.bal.rep,.int .i64 p.wh,.int .u8 ((f 0).st:Int),.int .i64 (f 0).idx,.int .i64 (f 0).bal.rnd,.int .i64 (f 0).bal.rep,.int .u8 (f 0).e.kind,.int .i64 (f 0).e.cli,.int .i64 (f 0).e.seq,.int .u8 (f 0).e.op.kind,.string (f 0).e.op.key,.string (f 0).e.op.old,.string (f 0).e.op.val,.int .u8 ((f 1).st:Int),.int .i64 (f 1).idx,.int .i64 (f 1).bal.rnd,.int .i64 (f 1).bal.rep,.int .u8 (f 1).e.kind,.int .i64 (f 1).e.cli,.int .i64 (f 1).e.seq,.int .u8 (f 1).e.op.kind,.string (f 1).e.op.key,.string (f 1).e.op.old,.string (f 1).e.op.val,.int .i64 i]
section
variable {w:World} {g:Nat} {T:TypeId} {p:SRec} {f:Nat→SCp} {i:Int} {fr:Nat×Nat}
theorem pr_p0 (h:w.heap[g]?=some (.cells (prA p f i) T (0,0))):w.cell? ⟨g,0,none⟩=some (.int .u8 (p.st:Int)):=blk_cell h 0 _ rfl
theorem pr_p1 (h:w.heap[g]?=some (.cells (prA p f i) T (0,0))):w.cell? ⟨g,1,none⟩=some (.int .i64 p.idx):=blk_cell h 1 _ rfl
theorem pr_p4 (h:w.heap[g]?=some (.cells (prA p f i) T (0,0))):w.cell? ⟨g,4,none⟩=some (.int .i64 p.wh):=blk_cell h 4 _ rfl
theorem pr_a0 (h:w.heap[g]?=some (.cells (prA p f i) T (0,0))):w.cell? ⟨g,5,none⟩=some (.int .u8 ((f 0).st:Int)):=blk_cell h 5 _ rfl
theorem pr_a1 (h:w.heap[g]?=some (.cells (prA p f i) T (0,0))):w.cell? ⟨g,6,none⟩=some (.int .i64 (f 0).idx):=blk_cell h 6 _ rfl
theorem pr_b0 (h:w.heap[g]?=some (.cells (prA p f i) T (0,0))):w.cell? ⟨g,16,none⟩=some (.int .u8 ((f 1).st:Int)):=blk_cell h 16 _ rfl
theorem pr_b1 (h:w.heap[g]?=some (.cells (prA p f i) T (0,0))):w.cell? ⟨g,17,none⟩=some (.int .i64 (f 1).idx):=blk_cell h 17 _ rfl
theorem pr_i (h:w.heap[g]?=some (.cells (prA p f i) T (0,0))):w.cell? ⟨g,27,none⟩=some (.int .i64 i):=blk_cell h 27 _ rfl
theorem pr_balA:7+2≤(prA p f i).size∧(prA p f i).extract 7 (7+2)=blA (f 0).bal:=⟨by show _≤28;omega,rfl⟩
theorem pr_balB:18+2≤(prA p f i).size∧(prA p f i).extract 18 (18+2)=blA (f 1).bal:=⟨by show _≤28;omega,rfl⟩
theorem pr_balP:2+2≤(prA p f i).size∧(prA p f i).extract 2 (2+2)=blA p.bal:=⟨by show _≤28;omega,rfl⟩
theorem pr_ff:5+22≤(prA p f i).size∧(prA p f i).extract 5 (5+22)=ffA f:=⟨by show _≤28;omega,by apply Array.ext';rw [Array.toList_extract];rfl⟩
theorem nat_eq1 {n:Nat} {b:Bool} (h:((n:Int)==1)=b):(n==1)=b:=by
 rw [← h,Bool.eq_iff_iff,beq_iff_eq,beq_iff_eq];omega
theorem nat_eq2 {n:Nat} {b:Bool} (h:((n:Int)==2)=b):(n==2)=b:=by
 rw [← h,Bool.eq_iff_iff,beq_iff_eq,beq_iff_eq];omega
theorem less_any (a b:Bal) (r:Bool) (hr:lessB a b=r) (w:World):Calls Tryz.prog 222 #[.agg (blA a),.agg (blA b)] w fun e w'=>e=.returned (.bool r)∧Below w.heap.size w w':=by
 obtain ⟨x,y⟩:=a
 obtain ⟨u,v⟩:=b
 unfold lessB at hr
 simp only at hr
 have HR:=Lib.hid hr
 clear hr
 unfold blA
 simp only
 have hb0:=blw w (Obj.cells #[.int .i64 x,.int .i64 y] 69)
 have hb1:=hb0.trans ((blw (w.alloc (Obj.cells #[.int .i64 x,.int .i64 y] 69)) (Obj.cells #[.int .i64 u,.int .i64 v] 69)).mono hb0.size)
 rcases (show x < u∨(¬ x < u∧x=u∧y < v)∨(¬ x < u∧x=u∧¬ y < v)∨(¬ x < u∧¬ x=u) by omega) with h | ⟨h,h2,h3⟩ | ⟨h,h2,h3⟩ | ⟨h,h2⟩
 ·obtain rfl:r=true:=by rw [← HR.out,decide_eq_true h];rfl
  go_enter func222,ntmps222
  go_wp2
  go_ret
  exact ⟨ret_bool (by simp),hb1⟩
 ·obtain rfl:r=true:=by rw [← HR.out,decide_eq_false h,decide_eq_true h3];simp [h2]
  have e2:(x==u)=true:=by rw [beq_iff_eq];exact h2
  clear h2
  go_enter func222,ntmps222
  go_wp2
  go_ret
  exact ⟨ret_bool (by simp),hb1⟩
 ·obtain rfl:r=false:=by rw [← HR.out,decide_eq_false h,decide_eq_false h3];simp
  have e2:(x==u)=true:=by rw [beq_iff_eq];exact h2
  clear h2
  go_enter func222,ntmps222
  go_wp2
  go_ret
  exact ⟨ret_bool (by simp),hb1⟩
 ·have e2:(x==u)=false:=by rw [beq_eq_false_iff_ne];exact h2
  obtain rfl:r=false:=by rw [← HR.out,decide_eq_false h,e2];rfl
  clear h2
  go_enter func222,ntmps222
  go_wp2
  go_ret
  exact ⟨ret_bool (by simp),hb1⟩
theorem of_any2 (k:Nat) (hk:k < 2) (r:Bool) (hr:ofS (f k) i=r) (w:World):Calls Tryz.prog 221 #[.agg (prA p f i),.int .i64 k] w fun e w'=>e=.returned (.bool r)∧Below w.heap.size w w':=by
 unfold ofS at hr
 have HR:=Lib.hid hr
 clear hr
 rcases (show k=0∨k=1 by omega) with rfl | rfl
 ·cases h1:(((f 0).st:Int)==1)
  ·obtain rfl:r=false:=by rw [← HR.out,nat_eq1 h1];rfl
   clear HR
   go_enter func221,ntmps221
   refine seqH fun K HK=>?_
   go_wp2
   refine HK.out _ _ ?_
   clear HK
   have hb0:=blw w (Obj.cells (prA p f i) 234)
   have X:=heap_alloc_new w (Obj.cells (prA p f i) 234)
   have u0:=under_cell (pr_a0 X)
   have u1:=under_cell (pr_a1 X)
   have u2:=under_cell (pr_i X)
   clear X
   generalize w.alloc (Obj.cells (prA p f i) 234)=w1 at *
   refine seqH fun K HK=>?_
   refine wp_region_under (by kernel_rfl) (by kernel_rfl) ?_
   repeat (first | go_big_quiet_step (fail) | ((with_reducible refine wpQuiet_skip ?_ ?_) ;(focus rfl);(try simp only [Act.put,qa1,qa2,qa3])))
   refine wpQuiet_nil ?_
   intro _ hw'
   obtain ⟨xU,hw''⟩:=hw'
   subst hw''
   have hbU:=under_below w1 xU
   refine HK.out _ _ ?_
   clear HK
   go_wp2
   go_ret
   exact ⟨ret_bool (by simp [*]),hb0.trans (hbU.mono hb0.size)⟩
  ·obtain rfl:((f 0).idx==i)=r:=by rw [← HR.out,nat_eq1 h1];rfl
   clear HR
   go_enter func221,ntmps221
   refine seqH fun K HK=>?_
   go_wp2
   refine HK.out _ _ ?_
   clear HK
   have hb0:=blw w (Obj.cells (prA p f i) 234)
   have X:=heap_alloc_new w (Obj.cells (prA p f i) 234)
   have u0:=under_cell (pr_a0 X)
   have u1:=under_cell (pr_a1 X)
   have u2:=under_cell (pr_i X)
   clear X
   generalize w.alloc (Obj.cells (prA p f i) 234)=w1 at *
   refine seqH fun K HK=>?_
   refine wp_region_under (by kernel_rfl) (by kernel_rfl) ?_
   repeat (first | go_big_quiet_step (fail) | ((with_reducible refine wpQuiet_skip ?_ ?_) ;(focus rfl);(try simp only [Act.put,qa1,qa2,qa3])))
   refine wpQuiet_nil ?_
   intro _ hw'
   obtain ⟨xU,hw''⟩:=hw'
   subst hw''
   have hbU:=under_below w1 xU
   refine HK.out _ _ ?_
   clear HK
   go_wp2
   go_ret
   exact ⟨ret_bool (by simp [*]),hb0.trans (hbU.mono hb0.size)⟩
 ·cases h1:(((f 1).st:Int)==1)
  ·obtain rfl:r=false:=by rw [← HR.out,nat_eq1 h1];rfl
   clear HR
   go_enter func221,ntmps221
   refine seqH fun K HK=>?_
   go_wp2
   refine HK.out _ _ ?_
   clear HK
   have hb0:=blw w (Obj.cells (prA p f i) 234)
   have X:=heap_alloc_new w (Obj.cells (prA p f i) 234)
   have u0:=under_cell (pr_b0 X)
   have u1:=under_cell (pr_b1 X)
   have u2:=under_cell (pr_i X)
   clear X
   generalize w.alloc (Obj.cells (prA p f i) 234)=w1 at *
   refine seqH fun K HK=>?_
   refine wp_region_under (by kernel_rfl) (by kernel_rfl) ?_
   repeat (first | go_big_quiet_step (fail) | ((with_reducible refine wpQuiet_skip ?_ ?_) ;(focus rfl);(try simp only [Act.put,qa1,qa2,qa3])))
   refine wpQuiet_nil ?_
   intro _ hw'
   obtain ⟨xU,hw''⟩:=hw'
   subst hw''
   have hbU:=under_below w1 xU
   refine HK.out _ _ ?_
   clear HK
   go_wp2
   go_ret
   exact ⟨ret_bool (by simp [*]),hb0.trans (hbU.mono hb0.size)⟩
  ·obtain rfl:((f 1).idx==i)=r:=by rw [← HR.out,nat_eq1 h1];rfl
   clear HR
   go_enter func221,ntmps221
   refine seqH fun K HK=>?_
   go_wp2
   refine HK.out _ _ ?_
   clear HK
   have hb0:=blw w (Obj.cells (prA p f i) 234)
   have X:=heap_alloc_new w (Obj.cells (prA p f i) 234)
   have u0:=under_cell (pr_b0 X)
   have u1:=under_cell (pr_b1 X)
   have u2:=under_cell (pr_i X)
   clear X
   generalize w.alloc (Obj.cells (prA p f i) 234)=w1 at *
   refine seqH fun K HK=>?_
   refine wp_region_under (by kernel_rfl) (by kernel_rfl) ?_
   repeat (first | go_big_quiet_step (fail) | ((with_reducible refine wpQuiet_skip ?_ ?_) ;(focus rfl);(try simp only [Act.put,qa1,qa2,qa3])))
   refine wpQuiet_nil ?_
   intro _ hw'
   obtain ⟨xU,hw''⟩:=hw'
   subst hw''
   have hbU:=under_below w1 xU
   refine HK.out _ _ ?_
   clear HK
   go_wp2
   go_ret
   exact ⟨ret_bool (by simp [*]),hb0.trans (hbU.mono hb0.size)⟩
theorem bad_any2 (r:Bool) (hr:badS f=r) (w:World):Calls Tryz.prog 201 #[.agg (prA p f i)] w fun e w'=>e=.returned (.bool r)∧Below w.heap.size w w':=by
 unfold badS at hr
 have HR:=Lib.hid hr
 clear hr
 have hb0:=blw w (Obj.cells (prA p f i) 234)
 have X:=heap_alloc_new w (Obj.cells (prA p f i) 234)
 have u0:=pr_a0 X
 have u1:=pr_b0 X
 clear X
 cases h1:(((f 0).st:Int)==2)
 ·obtain rfl:((f 1).st==2)=r:=by rw [← HR.out,nat_eq2 h1];rfl
  clear HR
  cases h2:(((f 1).st:Int)==2)
  all_goals
   have h3:=nat_eq2 h2
   go_enter func201,ntmps201
   refine seqH fun K HK=>?_
   go_wp2
   refine HK.out _ _ ?_
   clear HK
   go_wp2
   go_ret
   exact ⟨ret_bool (by first | (rw [h3];done) | simp [*]),hb0⟩
 ·obtain rfl:r=true:=by rw [← HR.out,nat_eq2 h1];rfl
  clear HR
  go_enter func201,ntmps201
  refine seqH fun K HK=>?_
  go_wp2
  refine HK.out _ _ ?_
  clear HK
  go_wp2
  go_ret
  exact ⟨ret_bool (by simp [*]),hb0⟩
end
end
section
theorem cpy_new (c:SCp):(Value.agg (cpyA c)).cells=cpyA c∧(cpyA c).size=11∧∀ u ∈ (cpyA c).toList,u.oneCell'=true:=⟨rfl,rfl,by simp [cpyA,Value.oneCell']⟩
theorem ff_at (f:Nat→SCp):(∀ w,(Instr.index 150 (.agg (ffA f)) (.int .i64 0)).run Tryz.prog w=.ok (.agg (cpyA (f 0))) w)∧∀ w,(Instr.index 150 (.agg (ffA f)) (.int .i64 1)).run Tryz.prog w=.ok (.agg (cpyA (f 1))) w:=
 ⟨fun _=>by kernel_rfl,fun _=>by kernel_rfl⟩
def byP (p:SRec) (i:Int):Bool:=p.st==1 && decide (i < p.idx)
def byF (c:SCp) (i:Int):Bool:=c.st==1 && decide (i < c.idx)
def bjS (p:SRec) (f:Nat→SCp) (i:Int):Nat→Bool
 | 0=>byP p i
 | 1=>byP p i || byF (f 0) i
 | _=>byP p i || (byF (f 0) i || byF (f 1) i)
section
variable {w:World} {g:Nat} {T:TypeId} {p:SRec} {f:Nat→SCp} {i:Int} {c:SCp}
theorem cp_0 (h:w.heap[g]?=some (.cells (cpyA c) T (0,0))):w.cell? ⟨g,0,none⟩=some (.int .u8 (c.st:Int)):=blk_cell h 0 _ rfl
theorem cp_1 (h:w.heap[g]?=some (.cells (cpyA c) T (0,0))):w.cell? ⟨g,1,none⟩=some (.int .i64 c.idx):=blk_cell h 1 _ rfl
theorem beyond_any2 (r:Bool) (hr:beyondS p f i=r) (w:World):Calls Tryz.prog 200 #[.agg (prA p f i)] w fun e w'=>e=.returned (.bool r)∧Below w.heap.size w w':=by
 have hr2:bjS p f i 2=r:=hr
 have HR:=Lib.hid hr2
 clear hr hr2
 have hb0:=blw w (Obj.cells (prA p f i) 234)
 have X:=heap_alloc_new w (Obj.cells (prA p f i) 234)
 have u0:=pr_p0 X
 have u1:=pr_p1 X
 have u2:=pr_i X
 obtain ⟨i0,i1⟩:=ff_at f
 go_enter func200,ntmps200
 refine seqH fun K HK=>?_
 go_wp2
 refine HK.out _ _ ?_
 clear HK
 generalize w.alloc (Obj.cells (prA p f i) 234)=w1 at *
 refine wp_seq_k (fun K hK=>?_)
 go_cut [3] (fun z wx=>z=.bool (bjS p f i 0)∧wx=w1)
 case first=>
  cases h1:((p.st:Int)==1)
  ·go_wp2
   go_meet
   exact ⟨by simp only [bjS,byP];rw [nat_eq1 h1];rfl,rfl⟩
  ·go_wp2
   go_meet
   exact ⟨by simp only [bjS,byP];rw [nat_eq1 h1];rfl,rfl⟩
 obtain ⟨rfl,rfl⟩:=hcut
 refine hK _ _ ?_
 clear hK u0 u1 u2
 refine seqH fun K HK=>?_
 go_wp2_with ((with_reducible refine wpList_ldB 150 _ ?_);refine ⟨rfl,_,⟨_,_,_,_,_,isAgg150,sizeOf150,rfl,‹_›,pr_ff⟩,?_⟩)
 go_loopw [20,3,5] (fun i' o _ wr=>∃ j:Nat,j≤2∧i'=.int .i64 (j:Nat)∧o=.bool (bjS p f i j)∧wr.heap[w.heap.size]?=some (.cells (prA p f i) 234 (0,0))∧Below w.heap.size w wr) (fun i' _ _ _=>2 - (intOf i').toNat)
 case atStart=>exact ⟨0,by omega,rfl,rfl,X,hb0⟩
 case round=>
  clear X hb0
  obtain ⟨j,hj,rfl,rfl,X1,hbw⟩:=hrel
  rcases (show j=0∨j=1∨j=2 by omega) with rfl | rfl | rfl
  ·skip
   obtain ⟨b,hb⟩:∃ b,bjS p f i 0=b:=⟨_,rfl⟩
   have hst:bjS p f i (0+1)=(b || byF (f 0) i):=by rw [← hb];first | rfl | simp [bjS,Bool.or_assoc]
   rw [hb]
   have HST:=Lib.hid hst
   clear hst hb
   unfold byF at HST
   have u0:=cp_0 (heap_alloc_new wr (Obj.cells (cpyA (f 0)) 149))
   have u1:=cp_1 (heap_alloc_new wr (Obj.cells (cpyA (f 0)) 149))
   have v2:=pr_i (tr_al (Obj.cells (cpyA (f 0)) 149) X1)
   have hbw2:=hbw.trans ((blw wr (Obj.cells (cpyA (f 0)) 149)).mono hbw.size)
   cases b
   case true=>
    go_wp2_with ((first | (with_reducible refine wpList_stNew 149 _ _ ?_) | (with_reducible refine wp_stNew 149 _ _ ?_));refine ⟨_,_,⟨sizeOf149,rfl,cpy_new _⟩,rfl,?_⟩)
    go_roundw
    case rel=>exact ⟨0+1,by omega,by rfl,by rw [HST.out];rfl,tr_al _ X1,hbw2⟩
    case measure=>simp [intOf]
   case false=>
    cases h1:(((f 0).st:Int)==1)
    case false=>
     go_wp2_with ((first | (with_reducible refine wpList_stNew 149 _ _ ?_) | (with_reducible refine wp_stNew 149 _ _ ?_));refine ⟨_,_,⟨sizeOf149,rfl,cpy_new _⟩,rfl,?_⟩)
     go_roundw
     case rel=>exact ⟨0+1,by omega,by rfl,by rw [HST.out,nat_eq1 h1];rfl,tr_al _ X1,hbw2⟩
     case measure=>simp [intOf]
    case true=>
     go_wp2_with ((first | (with_reducible refine wpList_stNew 149 _ _ ?_) | (with_reducible refine wp_stNew 149 _ _ ?_));refine ⟨_,_,⟨sizeOf149,rfl,cpy_new _⟩,rfl,?_⟩)
     go_roundw
     case rel=>exact ⟨0+1,by omega,by rfl,by rw [HST.out,nat_eq1 h1];rfl,tr_al _ X1,hbw2⟩
     case measure=>simp [intOf]
  ·skip
   obtain ⟨b,hb⟩:∃ b,bjS p f i 1=b:=⟨_,rfl⟩
   have hst:bjS p f i (1+1)=(b || byF (f 1) i):=by rw [← hb];first | rfl | simp [bjS,Bool.or_assoc]
   rw [hb]
   have HST:=Lib.hid hst
   clear hst hb
   unfold byF at HST
   have u0:=cp_0 (heap_alloc_new wr (Obj.cells (cpyA (f 1)) 149))
   have u1:=cp_1 (heap_alloc_new wr (Obj.cells (cpyA (f 1)) 149))
   have v2:=pr_i (tr_al (Obj.cells (cpyA (f 1)) 149) X1)
   have hbw2:=hbw.trans ((blw wr (Obj.cells (cpyA (f 1)) 149)).mono hbw.size)
   cases b
   case true=>
    go_wp2_with ((first | (with_reducible refine wpList_stNew 149 _ _ ?_) | (with_reducible refine wp_stNew 149 _ _ ?_));refine ⟨_,_,⟨sizeOf149,rfl,cpy_new _⟩,rfl,?_⟩)
    go_roundw
    case rel=>exact ⟨1+1,by omega,by rfl,by rw [HST.out];rfl,tr_al _ X1,hbw2⟩
    case measure=>simp [intOf]
   case false=>
    cases h1:(((f 1).st:Int)==1)
    case false=>
     go_wp2_with ((first | (with_reducible refine wpList_stNew 149 _ _ ?_) | (with_reducible refine wp_stNew 149 _ _ ?_));refine ⟨_,_,⟨sizeOf149,rfl,cpy_new _⟩,rfl,?_⟩)
     go_roundw
     case rel=>exact ⟨1+1,by omega,by rfl,by rw [HST.out,nat_eq1 h1];rfl,tr_al _ X1,hbw2⟩
     case measure=>simp [intOf]
    case true=>
     go_wp2_with ((first | (with_reducible refine wpList_stNew 149 _ _ ?_) | (with_reducible refine wp_stNew 149 _ _ ?_));refine ⟨_,_,⟨sizeOf149,rfl,cpy_new _⟩,rfl,?_⟩)
     go_roundw
     case rel=>exact ⟨1+1,by omega,by rfl,by rw [HST.out,nat_eq1 h1];rfl,tr_al _ X1,hbw2⟩
     case measure=>simp [intOf]
  ·rw [HR.out]
   go_wp2
   refine HK.out _ _ ?_
   clear HK
   go_wp2
   go_ret
   exact ⟨rfl,hbw⟩
end
end
end Go.Proofs.YtbdonjenekhmdaaGreatDoor
