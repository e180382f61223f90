/- Texts that the claim leans on, part 12: T6, T7, T8, T9, T10, D36, D37a, D37. -/
import Derived.Test.YtbdonjenekhmdaaGreatDoorZ1
import Derived.Test.YtbdonjenekhmdaaGreatDoorZ2
import Derived.Test.YtbdonjenekhmdaaGreatDoorZ3
import Derived.Test.YtbdonjenekhmdaaGreatDoorZ4
import Derived.Test.YtbdonjenekhmdaaGreatDoorZ5
import Derived.Test.YtbdonjenekhmdaaGreatDoorZ6
import Derived.Test.YtbdonjenekhmdaaGreatDoorZ7
import Derived.Test.YtbdonjenekhmdaaGreatDoorZ8
import Derived.Test.YtbdonjenekhmdaaGreatDoorZ9
import Derived.Test.YtbdonjenekhmdaaGreatDoorZ10
import Derived.Test.YtbdonjenekhmdaaGreatDoorZ11
namespace Go.Proofs.YtbdonjenekhmdaaGreatDoor
open Go.RowKit Go.Proofs.Tryz
set_option maxRecDepth 100000
set_option maxHeartbeats 32000000
section
abbrev isV (q:Nat):Value:=.func (.func 230) #[] #[.pointer (some ⟨q,0,none⟩),.pointer (some ⟨q+1,0,none⟩)]
abbrev r2V (g:Nat):Value:=.func (.func 231) #[] #[.pointer (some ⟨g,0,none⟩)]
abbrev byV (p:SRec) (f:Nat→SCp) (i:Int):Value:=.func (.func 200) #[.agg (prA p f i)] #[]
abbrev r3V (g:Nat):Value:=.func (.func 232) #[] #[.pointer (some ⟨g,0,none⟩)]
abbrev r4V (g:Nat):Value:=.func (.func 233) #[] #[.pointer (some ⟨g,0,none⟩)]
abbrev r5V:Value:=.func (.func 234) #[] #[]
abbrev r6V (g:Nat):Value:=.func (.func 235) #[] #[.pointer (some ⟨g,0,none⟩)]
def ruA (p:SRec) (f:Nat→SCp) (i:Int) (g q1 q2:Nat):Array Value:=#[r2V g,isV q1,byV p f i,isV q2,r3V g,r4V g,r5V,r6V g]
section
variable {w:World} {p:SRec} {f:Nat→SCp} {i:Int} {g:Nat}
theorem isr_any (c s:Int) (w:World):Calls Tryz.prog 229 #[.int .u8 c,.int .u8 s] w fun e w'=>(∃ q,e=.returned (isV q)∧w.heap.size≤q∧w'.cell? ⟨q,0,none⟩=some (.int .u8 c)∧w'.cell? ⟨q+1,0,none⟩=some (.int .u8 s))∧Below w.heap.size w w':=by
 have hb0:=blw w (Obj.cells #[.int .u8 c] 5)
 have hb1:=hb0.trans ((blw (w.alloc (Obj.cells #[.int .u8 c] 5)) (Obj.cells #[.int .u8 s] 5)).mono hb0.size)
 have Y:((w.alloc (Obj.cells #[.int .u8 c] 5)).alloc (Obj.cells #[.int .u8 s] 5)).heap[w.heap.size+1]?=some (.cells #[.int .u8 s] 5 (0,0)):=by
  have:=heap_alloc_new (w.alloc (Obj.cells #[.int .u8 c] 5)) (Obj.cells #[.int .u8 s] 5)
  rwa [show (w.alloc (Obj.cells #[.int .u8 c] 5)).heap.size=w.heap.size+1 by simp] at this
 go_enter func229,ntmps229
 go_wp2
 go_ret
 exact ⟨⟨w.heap.size,rfl,Nat.le_refl _,blk_cell (tr_al (Obj.cells #[.int .u8 s] 5) (heap_alloc_new w (Obj.cells #[.int .u8 c] 5))) 0 _ rfl,blk_cell Y 0 _ rfl⟩,hb1⟩
theorem is1_any (q:Nat) (c s:Int) (w:World) (h0:w.cell? ⟨q,0,none⟩=some (.int .u8 c)) (h1:w.cell? ⟨q+1,0,none⟩=some (.int .u8 s)):Calls Tryz.prog 230 #[.pointer (some ⟨q,0,none⟩),.pointer (some ⟨q+1,0,none⟩)] w fun e w'=>e=.returned (.tuple #[.int .u8 c,.int .u8 s])∧Below w.heap.size w w':=by
 have u0:=under_cell h0
 have u1:=under_cell h1
 go_enter func230,ntmps230
 refine seqH fun K HK=>?_
 go_wp2
 refine HK.out _ _ ?_
 clear HK
 refine seqH fun K HK=>?_
 refine wp_region_under (by kernel_rfl) (by kernel_rfl) ?_
 repeat (go_big_quiet_step (fail))
 refine wpQuiet_nil ?_
 intro _ hw'
 obtain ⟨xU,hw''⟩:=hw'
 subst hw''
 have hbU:=under_below w xU
 refine HK.out _ _ ?_
 clear HK
 go_wp2
 go_ret2
 exact ⟨rfl,hbU⟩
theorem r2_any (h:w.heap[g]?=some (.cells (prA p f i) 234 (0,0))) (r:Bool) (hr:decide (p.st=1∧p.idx=i)=r):Calls Tryz.prog 231 #[.pointer (some ⟨g,0,none⟩)] w fun e w'=>e=.returned (.bool r)∧Below w.heap.size w w':=by
 have u0:=pr_p0 h
 have u1:=pr_p1 h
 have u2:=pr_i h
 cases h1:((p.st:Int)==1)
 ·have hn:p.st≠1:=fun h=>by rw [h] at h1;exact absurd h1 (by decide)
  obtain rfl:r=false:=by rw [← hr];exact decide_eq_false (fun h=>hn h.1)
  clear hn hr
  go_enter func231,ntmps231
  go_wp2
  go_ret
  exact ⟨ret_bool (by simp [*]),Below.refl _ _⟩
 ·have hn:p.st=1:=by rw [beq_iff_eq] at h1;omega
  have hr2:(p.idx==i)=r:=by rw [← hr,Bool.eq_iff_iff,beq_iff_eq,decide_eq_true_eq];exact ⟨fun h=>⟨hn,h⟩,fun h=>h.2⟩
  subst hr2
  clear hr hn
  go_enter func231,ntmps231
  go_wp2
  go_ret
  exact ⟨ret_bool (by simp [*]),Below.refl _ _⟩
theorem r3_any (h:w.heap[g]?=some (.cells (prA p f i) 234 (0,0))) (r:Bool) (hr:decide (p.st≠2)=r):Calls Tryz.prog 232 #[.pointer (some ⟨g,0,none⟩)] w fun e w'=>e=.returned (.bool r)∧Below w.heap.size w w':=by
 have u0:=pr_p0 h
 have hr2:((p.st:Int) != 2)=r:=by rw [← hr,Bool.eq_iff_iff,bne_iff_ne,decide_eq_true_eq];omega
 subst hr2
 clear hr
 go_enter func232,ntmps232
 go_wp2
 go_ret
 exact ⟨rfl,Below.refl _ _⟩
theorem r5_any (w:World):Calls Tryz.prog 234 #[] w fun e w'=>e=.returned (.bool true)∧Below w.heap.size w w':=by
 go_enter func234,ntmps234
 go_wp2
 go_ret
 exact ⟨rfl,Below.refl _ _⟩
theorem r4_any (h:w.heap[g]?=some (.cells (prA p f i) 234 (0,0))) (b:Bool) (hb:badS f=b):Calls Tryz.prog 233 #[.pointer (some ⟨g,0,none⟩)] w fun e w'=>e=.returned (.tuple #[.int .u8 (if b=true then 1 else 0),.int .u8 (if b=true then 1 else 1)])∧Below w.heap.size w w':=by
 have hba:=fun w=>bad_any2 (p:=p) (f:=f) (i:=i) _ hb w
 clear hb
 cases b
 all_goals
  go_enter func233,ntmps233
  go_wp2_with (first
   | ((with_reducible refine wpList_ldB 234 _ ?_);refine ⟨rfl,_,⟨_,_,_,_,_,isAgg234,sizeOf234,rfl,‹_›,arr_all rfl⟩,?_⟩)
   | (go_at_call 201;refine (hba _).mono ?_;rintro e w2 ⟨rfl,hb2⟩))
  go_ret2
  exact ⟨rfl,hb2⟩
theorem r6_any (h:w.heap[g]?=some (.cells (prA p f i) 234 (0,0))) (b:Bool) (hb:badS f=b):Calls Tryz.prog 235 #[.pointer (some ⟨g,0,none⟩)] w fun e w'=>e=.returned (.tuple #[.int .u8 (if b=true then 2 else 0),.int .u8 (if b=true then 4 else 1)])∧Below w.heap.size w w':=by
 have hba:=fun w=>bad_any2 (p:=p) (f:=f) (i:=i) _ hb w
 clear hb
 cases b
 all_goals
  go_enter func235,ntmps235
  go_wp2_with (first
   | ((with_reducible refine wpList_ldB 234 _ ?_);refine ⟨rfl,_,⟨_,_,_,_,_,isAgg234,sizeOf234,rfl,‹_›,arr_all rfl⟩,?_⟩)
   | (go_at_call 201;refine (hba _).mono ?_;rintro e w2 ⟨rfl,hb2⟩))
  go_ret2
  exact ⟨rfl,hb2⟩
end
end
section
section
variable {w:World} {p:SRec} {f:Nat→SCp} {i:Int} {g:Nat}
theorem ru_over (p:SRec) (f:Nat→SCp) (i:Int) (g q1 q2:Nat):0+8≤(#[.nilFunc,.nilFunc,.nilFunc,.nilFunc,.nilFunc,.nilFunc,.nilFunc,.nilFunc]:Array Value).size∧(Value.agg (ruA p f i g q1 q2)).cells.size=8∧(∀ u ∈ (Value.agg (ruA p f i g q1 q2)).cells.toList,u.oneCell'=true)∧((#[.nilFunc,.nilFunc,.nilFunc,.nilFunc,.nilFunc,.nilFunc,.nilFunc,.nilFunc]:Array Value).toList.take 0++(Value.agg (ruA p f i g q1 q2)).cells.toList++(#[.nilFunc,.nilFunc,.nilFunc,.nilFunc,.nilFunc,.nilFunc,.nilFunc,.nilFunc]:Array Value).toList.drop (0+8)).toArray=ruA p f i g q1 q2:=
 ⟨by show _≤8;omega,rfl,by simp [Value.cells,ruA,r2V,isV,byV,r3V,r4V,r5V,r6V,Value.oneCell'],rfl⟩
def RuRes (p:SRec) (f:Nat→SCp) (i:Int) (w:World) (e:Ending) (w':World):Prop:=
 ∃ g q1 q2,e=.returned (.agg (ruA p f i g q1 q2))∧w'.heap[g]?=some (.cells (prA p f i) 234 (0,0))∧w'.cell? ⟨q1,0,none⟩=some (.int .u8 2)∧w'.cell? ⟨q1+1,0,none⟩=some (.int .u8 3)∧w'.cell? ⟨q2,0,none⟩=some (.int .u8 2)∧w'.cell? ⟨q2+1,0,none⟩=some (.int .u8 4)∧Below w.heap.size w w'
theorem rules_any (w:World):Calls Tryz.prog 224 #[.agg (prA p f i)] w (RuRes p f i w):=by
 have hbp:=blw w (Obj.cells (prA p f i) 234)
 have hb0:=hbp.trans ((blw (w.alloc (Obj.cells (prA p f i) 234)) (Obj.cells #[.nilFunc,.nilFunc,.nilFunc,.nilFunc,.nilFunc,.nilFunc,.nilFunc,.nilFunc] 299)).mono hbp.size)
 have X:((w.alloc (Obj.cells (prA p f i) 234)).alloc (Obj.cells #[.nilFunc,.nilFunc,.nilFunc,.nilFunc,.nilFunc,.nilFunc,.nilFunc,.nilFunc] 299)).heap[w.heap.size]?=some (.cells (prA p f i) 234 (0,0)):=tr_al (Obj.cells #[.nilFunc,.nilFunc,.nilFunc,.nilFunc,.nilFunc,.nilFunc,.nilFunc,.nilFunc] 299) (heap_alloc_new w (Obj.cells (prA p f i) 234))
 have Y:((w.alloc (Obj.cells (prA p f i) 234)).alloc (Obj.cells #[.nilFunc,.nilFunc,.nilFunc,.nilFunc,.nilFunc,.nilFunc,.nilFunc,.nilFunc] 299)).heap[w.heap.size+1]?=some (Obj.cells #[.nilFunc,.nilFunc,.nilFunc,.nilFunc,.nilFunc,.nilFunc,.nilFunc,.nilFunc] 299):=by
  have:=heap_alloc_new (w.alloc (Obj.cells (prA p f i) 234)) (Obj.cells #[.nilFunc,.nilFunc,.nilFunc,.nilFunc,.nilFunc,.nilFunc,.nilFunc,.nilFunc] 299)
  rwa [show (w.alloc (Obj.cells (prA p f i) 234)).heap.size=w.heap.size+1 by simp] at this
 go_enter func224,ntmps224
 refine seqH fun K HK=>?_
 go_wp2
 refine HK.out _ _ ?_
 clear HK
 have hn:w.heap.size < w.heap.size+1:=by omega
 generalize (w.alloc (Obj.cells (prA p f i) 234)).alloc (Obj.cells #[.nilFunc,.nilFunc,.nilFunc,.nilFunc,.nilFunc,.nilFunc,.nilFunc,.nilFunc] 299)=w1 at *
 generalize w.heap.size+1=y at *
 clear hbp
 refine seqH fun K HK=>?_
 go_wp2
 refine HK.out _ _ ?_
 clear HK
 refine seqH fun K HK=>?_
 go_wp2_with fail
 have hbd:=(Below.refl w1.heap.size w1).drew
 have X1:=tr_bl hbd X
 have Y1:=tr_bl hbd Y
 have hb1:=hb0.trans (hbd.mono hb0.size)
 clear hb0 X Y hbd
 refine wp_region_held_drew (S:=fun w'=>w'.heap[w.heap.size]?=some (.cells (prA p f i) 234 (0,0))) (by kernel_rfl) X1 (fun hS0=>?_)
 generalize w1.drew=x0 at *
 refine tkT 0 (v:=r2V w.heap.size) rfl (by intro wS hSw;kernel_rfl) ?_
 refine tkP 1 rfl ?_
 refine tkT 4 (v:=.agg (prA p f i)) rfl (by intro wS hSw;exact exec_ldB 234 _ ⟨_,_,_,_,_,isAgg234,sizeOf234,rfl,hSw,arr_all rfl⟩) ?_
 refine tkT 5 (v:=byV p f i) rfl (by intro wS hSw;kernel_rfl) ?_
 refine tkP 6 rfl ?_
 refine tkT 9 (v:=r3V w.heap.size) rfl (by intro wS hSw;kernel_rfl) ?_
 refine tkT 10 (v:=r4V w.heap.size) rfl (by intro wS hSw;kernel_rfl) ?_
 refine tkT 11 (v:=.agg #[r3V w.heap.size,r4V w.heap.size]) rfl (by intro wS hSw;kernel_rfl) ?_
 refine tkT 12 (v:=r6V w.heap.size) rfl (by intro wS hSw;kernel_rfl) ?_
 refine tkT 13 (v:=.agg #[r5V,r6V w.heap.size]) rfl (by intro wS hSw;kernel_rfl) ?_
 refine rdy1 2 rfl (fun K' hK'=>?_)
 go_simp
 refine (isr_any 2 3 _).mono ?_
 rintro e w4 ⟨⟨q1,rfl,hq1,a0,a1⟩,hb4⟩
 have X4:=tr_bl hb4 X1
 have Y4:=tr_bl hb4 Y1
 have hb5:=hb1.trans (hb4.mono hb1.size)
 refine hK'.out _ _ X4 (fun _=>?_)
 have hy0:=lt_blk Y1
 clear hK' hS0 X1 Y1 hb1 hb4
 (try simp only [Act.put,qa1,qa2,qa3])
 refine tkT 3 (v:=.agg #[r2V w.heap.size,isV q1]) rfl (by intro wS hSw;kernel_rfl) ?_
 refine rdy1 7 rfl (fun K' hK'=>?_)
 go_simp
 refine (isr_any 2 4 _).mono ?_
 rintro e w6 ⟨⟨q2,rfl,hq2,b0,b1⟩,hb6⟩
 have X6:=tr_bl hb6 X4
 have Y6:=tr_bl hb6 Y4
 have hb7:=hb5.trans (hb6.mono hb5.size)
 have a06:=(hb6.cell (World.block_lt_of_cell? _ _ a0)).trans a0
 have a16:=(hb6.cell (World.block_lt_of_cell? _ _ a1)).trans a1
 have hy4:=lt_blk Y4
 have hyx:=lt_blk Y6
 refine hK'.out _ _ X6 (fun _=>?_)
 clear hK' X4 hb5 hb6 a0 a1
 (try simp only [Act.put,qa1,qa2,qa3])
 refine tkT 8 (v:=.agg #[byV p f i,isV q2]) rfl (by intro wS hSw;kernel_rfl) ?_
 refine tkT 14 (v:=.agg (ruA p f i w.heap.size q1 q2)) rfl (by intro wS hSw;kernel_rfl) ?_
 refine rdy1 15 rfl (fun K' hK'=>?_)
 refine wp_stB 299 _ _ ?_
 refine ⟨_,_,_,⟨_,_,_,sizeOf299,rfl,Y6,ru_over p f i w.heap.size q1 q2⟩,?_⟩
 intro w8 Y8 g8
 refine hK'.out _ _ (tr_st g8 X6 (by omega)) (fun _=>?_)
 clear hK'
 refine wpAnyH_done (by kernel_rfl) ?_ _
 refine HK.out _ _ ?_
 clear HK
 go_wp2
 have hq1y:y≠q1:=by omega
 refine bodyPost_ret (results_c1 rfl rfl (run_loadVar_all isAgg299 sizeOf299 Y8 rfl)) rfl ⟨w.heap.size,q1,q2,rfl,tr_st g8 X6 (by omega),cell_st g8 a06 hq1y,cell_st g8 a16 (by omega),cell_st g8 b0 (by omega),cell_st g8 b1 (by omega),bls hb7 (Nat.le_refl _) g8 (by omega)⟩
end
end
section
def rpA (i st:Int) (b:Bal) (e:En):Array Value:=#[.int .i64 i,.int .u8 st,.int .i64 b.rnd,.int .i64 b.rep,.int .u8 e.kind,.int .i64 e.cli,.int .i64 e.seq,.int .u8 e.op.kind,.string e.op.key,.string e.op.old,.string e.op.val]
def zeroL:Bal:=⟨0,0⟩
theorem pr_new (p:SRec) (f:Nat→SCp) (i:Int):(Value.agg (prA p f i)).cells=prA p f i∧(prA p f i).size=28∧∀ u ∈ (prA p f i).toList,u.oneCell'=true:=⟨rfl,rfl,by simp [prA,Value.oneCell']⟩
theorem rp_over (i st:Int) (b:Bal) (e:En) (i' st':Int) (b':Bal) (e':En):0+11≤(rpA i st b e).size∧(Value.agg (rpA i' st' b' e')).cells.size=11∧(∀ u ∈ (Value.agg (rpA i' st' b' e')).cells.toList,u.oneCell'=true)∧((rpA i st b e).toList.take 0++(Value.agg (rpA i' st' b' e')).cells.toList++(rpA i st b e).toList.drop (0+11)).toArray=rpA i' st' b' e':=
 ⟨by show _≤11;omega,rfl,by simp [Value.cells,rpA,Value.oneCell'],rfl⟩
theorem ff_balA (f:Nat→SCp):2+2≤(ffA f).size∧(ffA f).extract 2 (2+2)=blA (f 0).bal:=⟨by show _≤22;omega,rfl⟩
theorem ff_balB (f:Nat→SCp):13+2≤(ffA f).size∧(ffA f).extract 13 (13+2)=blA (f 1).bal:=⟨by show _≤22;omega,rfl⟩
theorem ff_enA (f:Nat→SCp):4+7≤(ffA f).size∧(ffA f).extract 4 (4+7)=enA (f 0).e:=⟨by show _≤22;omega,by apply Array.ext';rw [Array.toList_extract];rfl⟩
theorem ff_enB (f:Nat→SCp):15+7≤(ffA f).size∧(ffA f).extract 15 (15+7)=enA (f 1).e:=⟨by show _≤22;omega,by apply Array.ext';rw [Array.toList_extract];rfl⟩
theorem results_t1c1t1' {P:Program} {fn:Func} {p t q r:Nat} {tmps:Array Value} {w:World} {A:Addr} {v:Value} (hf:fn.results=#[.tmp q,.cell p t,.tmp r]) (hp:tmps.getD p undef=.pointer (some A)) (hl:(loadVar t A).run P w=.ok v w):(results fn tmps).run P w=.ok (.tuple #[tmps.getD q undef,v,tmps.getD r undef]) w:=by
 have hp':tmps[p]?.getD undef=.pointer (some A):=by simpa using hp
 simp [results,hf,hp',asAddr,hl]
theorem n3 (w:World) (A B C:Obj):Below w.heap.size w (((w.alloc A).alloc B).alloc C)∧(((w.alloc A).alloc B).alloc C).heap[w.heap.size]?=some A∧(((w.alloc A).alloc B).alloc C).heap[w.heap.size+1]?=some B∧(((w.alloc A).alloc B).alloc C).heap[w.heap.size+1+1]?=some C:=by
 have e1:(w.alloc A).heap.size=w.heap.size+1:=by simp
 have e2:((w.alloc A).alloc B).heap.size=w.heap.size+1+1:=by simp
 have h1:=blw w A
 have h2:=h1.trans ((blw (w.alloc A) B).mono h1.size)
 exact ⟨h2.trans ((blw ((w.alloc A).alloc B) C).mono h2.size),tr_al C (tr_al B (heap_alloc_new w A)),tr_al C (e1 ▸ heap_alloc_new (w.alloc A) B),e2 ▸ heap_alloc_new ((w.alloc A).alloc B) C⟩
section
variable {w:World} {p:SRec} {f:Nat→SCp} {i:Int} {g:Nat}
theorem what_some (hw:p.wh=0∨p.wh=1) (k:Nat) (hk:intactS p f i=some k) (w:World):Calls Tryz.prog 209 #[.agg (recA p),.agg (ffA f),.int .i64 i] w fun e w'=>e=.returned (.tuple #[.int .u8 3,.agg (rpA i 2 (f k).bal (f k).e),.int .i64 (k:Int)])∧Below w.heap.size w w':=by
 have hin:=fun w=>intact_any2 hw _ hk w
 have hk2:=intact_lt hk
 clear hk hw
 rcases (show k=0∨k=1 by omega) with rfl | rfl
 ·skip
  go_enter func209,ntmps209
  refine seqH fun K HK=>?_
  go_wp2
  refine HK.out _ _ ?_
  clear HK
  obtain ⟨hb1,P1,F1,R1⟩:=n3 w (Obj.cells (recA p) 147) (Obj.cells (ffA f) 150) (Obj.cells #[.int .i64 0,.int .u8 0,.int .i64 0,.int .i64 0,.int .u8 0,.int .i64 0,.int .i64 0,.int .u8 0,.string ⟨#[]⟩,.string ⟨#[]⟩,.string ⟨#[]⟩] 163)
  change _=some (Obj.cells (rpA 0 0 zeroL (zeroE 0)) 163 (0,0)) at R1
  have hn1:w.heap.size < w.heap.size+1:=by omega
  have hn2:w.heap.size+1 < w.heap.size+1+1:=by omega
  generalize ((w.alloc (Obj.cells (recA p) 147)).alloc (Obj.cells (ffA f) 150)).alloc (Obj.cells #[.int .i64 0,.int .u8 0,.int .i64 0,.int .i64 0,.int .u8 0,.int .i64 0,.int .i64 0,.int .u8 0,.string ⟨#[]⟩,.string ⟨#[]⟩,.string ⟨#[]⟩] 163)=w1 at *
  generalize w.heap.size+1+1=rb at *
  generalize w.heap.size+1=fb at *
  refine seqH fun K HK=>?_
  go_wp2_with (first
   | ((with_reducible refine wpList_ldB 147 _ ?_);refine ⟨rfl,_,⟨_,_,_,_,_,isAgg147,sizeOf147,rfl,‹_›,arr_all rfl⟩,?_⟩)
   | ((with_reducible refine wpList_ldB 150 _ ?_);refine ⟨rfl,_,⟨_,_,_,_,_,isAgg150,sizeOf150,rfl,‹_›,arr_all rfl⟩,?_⟩)
   | (with_reducible refine wpList_bpr (p:=p) (f:=f) (i:=i) _ _ _ (by simp [Act.eval]) (by simp [Act.eval]) (by simp [Act.eval]) ?_)
   | ((first | (with_reducible refine wpList_stNew 234 _ _ ?_) | (with_reducible refine wp_stNew 234 _ _ ?_));refine ⟨_,_,⟨sizeOf234,rfl,pr_new _ _ _⟩,rfl,?_⟩))
  refine HK.out _ _ ?_
  clear HK
  have hbx:=blw w1 (Obj.cells (prA p f i) 234)
  have X2:=heap_alloc_new w1 (Obj.cells (prA p f i) 234)
  have P2:=tr_bl hbx P1
  have F2:=tr_bl hbx F1
  have R2:=tr_bl hbx R1
  have hb2:=hb1.trans (hbx.mono hb1.size)
  have hr1:=lt_blk R1
  clear hb1 P1 F1 R1 hbx
  generalize w1.alloc (Obj.cells (prA p f i) 234)=w2 at *
  generalize w1.heap.size=xb at *
  refine seqH fun K HK=>?_
  refine seqH fun K HK=>?_
  go_wp2_with (first
   | ((with_reducible refine wpList_ldB 234 _ ?_);refine ⟨rfl,_,⟨_,_,_,_,_,isAgg234,sizeOf234,rfl,‹_›,arr_all rfl⟩,?_⟩)
   | (go_at_call 155;refine (hin _).mono ?_;rintro e w3 ⟨rfl,hb3⟩))
  refine HK.out _ _ ?_
  clear HK
  have P3:=tr_bl hb3 P2
  have F3:=tr_bl hb3 F2
  have R3:=tr_bl hb3 R2
  have X3:=tr_bl hb3 X2
  have hb4:=hb2.trans (hb3.mono hb2.size)
  clear hb2 hb3 P2 F2 R2 X2 hin
  rw [show outV (some 0)=.int .i64 0 from rfl]
  go_wp2_with fail
  have hbd:=(Below.refl w3.heap.size w3).drew
  have F4:=tr_bl hbd F3
  have R4:=tr_bl hbd R3
  have hb5:=hb4.trans (hbd.mono hb4.size)
  clear hb4 F3 R3 X3 P3 hbd
  refine wp_region_held_drew (S:=fun w'=>w'.heap[fb]?=some (.cells (ffA f) 150 (0,0))) (by kernel_rfl) F4 (fun hS0=>?_)
  generalize w3.drew=x0 at *
  refine tkP 0 rfl ?_
  refine tkP 1 rfl ?_
  refine tkT 2 (v:=.pointer (some ⟨fb,0,none⟩)) rfl (by intro wS hSw;go_simp;(try rfl)) ?_
  refine tkT 3 (v:=.pointer (some ⟨fb,0+2,none⟩)) rfl (by intro wS hSw;go_simp;(try rfl)) ?_
  refine tkT 4 (v:=.agg (blA (f 0).bal)) rfl (by intro wS hSw;exact exec_ldB 69 _ ⟨_,_,_,_,_,isAgg69,sizeOf69,rfl,hSw,ff_balA f⟩) ?_
  refine tkP 5 rfl ?_
  refine tkT 6 (v:=.pointer (some ⟨fb,0,none⟩)) rfl (by intro wS hSw;go_simp;(try rfl)) ?_
  refine tkT 7 (v:=.pointer (some ⟨fb,0+4,none⟩)) rfl (by intro wS hSw;go_simp;(try rfl)) ?_
  refine tkT 8 (v:=.agg (enA (f 0).e)) rfl (by intro wS hSw;exact exec_ldB 73 _ ⟨_,_,_,_,_,isAgg73,sizeOf73,rfl,hSw,ff_enA f⟩) ?_
  refine tkT 9 (v:=.agg (rpA i 2 (f 0).bal (f 0).e)) rfl (by intro wS hSw;kernel_rfl) ?_
  refine tkP 10 rfl ?_
  refine tkP 11 rfl ?_
  refine rdy1 12 rfl (fun K' hK'=>?_)
  refine wp_stB 163 _ _ ?_
  refine ⟨_,_,_,⟨_,_,_,sizeOf163,rfl,R4,rp_over _ _ _ _ i 2 (f 0).bal (f 0).e⟩,?_⟩
  intro w8 R8 g8
  refine hK'.out _ _ (tr_st g8 F4 (by omega)) (fun _=>?_)
  clear hK'
  (try simp only [Act.put,qa1,qa2,qa3])
  refine tkP 13 rfl ?_
  refine wpAnyH_done (by kernel_rfl) ?_ _
  go_wp2
  refine bodyPost_ret (results_t1c1t1' rfl rfl (run_loadVar_all isAgg163 sizeOf163 R8 rfl)) rfl ⟨rfl,bls hb5 (Nat.le_refl _) g8 (by omega)⟩
 ·skip
  go_enter func209,ntmps209
  refine seqH fun K HK=>?_
  go_wp2
  refine HK.out _ _ ?_
  clear HK
  obtain ⟨hb1,P1,F1,R1⟩:=n3 w (Obj.cells (recA p) 147) (Obj.cells (ffA f) 150) (Obj.cells #[.int .i64 0,.int .u8 0,.int .i64 0,.int .i64 0,.int .u8 0,.int .i64 0,.int .i64 0,.int .u8 0,.string ⟨#[]⟩,.string ⟨#[]⟩,.string ⟨#[]⟩] 163)
  change _=some (Obj.cells (rpA 0 0 zeroL (zeroE 0)) 163 (0,0)) at R1
  have hn1:w.heap.size < w.heap.size+1:=by omega
  have hn2:w.heap.size+1 < w.heap.size+1+1:=by omega
  generalize ((w.alloc (Obj.cells (recA p) 147)).alloc (Obj.cells (ffA f) 150)).alloc (Obj.cells #[.int .i64 0,.int .u8 0,.int .i64 0,.int .i64 0,.int .u8 0,.int .i64 0,.int .i64 0,.int .u8 0,.string ⟨#[]⟩,.string ⟨#[]⟩,.string ⟨#[]⟩] 163)=w1 at *
  generalize w.heap.size+1+1=rb at *
  generalize w.heap.size+1=fb at *
  refine seqH fun K HK=>?_
  go_wp2_with (first
   | ((with_reducible refine wpList_ldB 147 _ ?_);refine ⟨rfl,_,⟨_,_,_,_,_,isAgg147,sizeOf147,rfl,‹_›,arr_all rfl⟩,?_⟩)
   | ((with_reducible refine wpList_ldB 150 _ ?_);refine ⟨rfl,_,⟨_,_,_,_,_,isAgg150,sizeOf150,rfl,‹_›,arr_all rfl⟩,?_⟩)
   | (with_reducible refine wpList_bpr (p:=p) (f:=f) (i:=i) _ _ _ (by simp [Act.eval]) (by simp [Act.eval]) (by simp [Act.eval]) ?_)
   | ((first | (with_reducible refine wpList_stNew 234 _ _ ?_) | (with_reducible refine wp_stNew 234 _ _ ?_));refine ⟨_,_,⟨sizeOf234,rfl,pr_new _ _ _⟩,rfl,?_⟩))
  refine HK.out _ _ ?_
  clear HK
  have hbx:=blw w1 (Obj.cells (prA p f i) 234)
  have X2:=heap_alloc_new w1 (Obj.cells (prA p f i) 234)
  have P2:=tr_bl hbx P1
  have F2:=tr_bl hbx F1
  have R2:=tr_bl hbx R1
  have hb2:=hb1.trans (hbx.mono hb1.size)
  have hr1:=lt_blk R1
  clear hb1 P1 F1 R1 hbx
  generalize w1.alloc (Obj.cells (prA p f i) 234)=w2 at *
  generalize w1.heap.size=xb at *
  refine seqH fun K HK=>?_
  refine seqH fun K HK=>?_
  go_wp2_with (first
   | ((with_reducible refine wpList_ldB 234 _ ?_);refine ⟨rfl,_,⟨_,_,_,_,_,isAgg234,sizeOf234,rfl,‹_›,arr_all rfl⟩,?_⟩)
   | (go_at_call 155;refine (hin _).mono ?_;rintro e w3 ⟨rfl,hb3⟩))
  refine HK.out _ _ ?_
  clear HK
  have P3:=tr_bl hb3 P2
  have F3:=tr_bl hb3 F2
  have R3:=tr_bl hb3 R2
  have X3:=tr_bl hb3 X2
  have hb4:=hb2.trans (hb3.mono hb2.size)
  clear hb2 hb3 P2 F2 R2 X2 hin
  rw [show outV (some 1)=.int .i64 1 from rfl]
  go_wp2_with fail
  have hbd:=(Below.refl w3.heap.size w3).drew
  have F4:=tr_bl hbd F3
  have R4:=tr_bl hbd R3
  have hb5:=hb4.trans (hbd.mono hb4.size)
  clear hb4 F3 R3 X3 P3 hbd
  refine wp_region_held_drew (S:=fun w'=>w'.heap[fb]?=some (.cells (ffA f) 150 (0,0))) (by kernel_rfl) F4 (fun hS0=>?_)
  generalize w3.drew=x0 at *
  refine tkP 0 rfl ?_
  refine tkP 1 rfl ?_
  refine tkT 2 (v:=.pointer (some ⟨fb,11,none⟩)) rfl (by intro wS hSw;go_simp;(try rfl)) ?_
  refine tkT 3 (v:=.pointer (some ⟨fb,11+2,none⟩)) rfl (by intro wS hSw;go_simp;(try rfl)) ?_
  refine tkT 4 (v:=.agg (blA (f 1).bal)) rfl (by intro wS hSw;exact exec_ldB 69 _ ⟨_,_,_,_,_,isAgg69,sizeOf69,rfl,hSw,ff_balB f⟩) ?_
  refine tkP 5 rfl ?_
  refine tkT 6 (v:=.pointer (some ⟨fb,11,none⟩)) rfl (by intro wS hSw;go_simp;(try rfl)) ?_
  refine tkT 7 (v:=.pointer (some ⟨fb,11+4,none⟩)) rfl (by intro wS hSw;go_simp;(try rfl)) ?_
  refine tkT 8 (v:=.agg (enA (f 1).e)) rfl (by intro wS hSw;exact exec_ldB 73 _ ⟨_,_,_,_,_,isAgg73,sizeOf73,rfl,hSw,ff_enB f⟩) ?_
  refine tkT 9 (v:=.agg (rpA i 2 (f 1).bal (f 1).e)) rfl (by intro wS hSw;kernel_rfl) ?_
  refine tkP 10 rfl ?_
  refine tkP 11 rfl ?_
  refine rdy1 12 rfl (fun K' hK'=>?_)
  refine wp_stB 163 _ _ ?_
  refine ⟨_,_,_,⟨_,_,_,sizeOf163,rfl,R4,rp_over _ _ _ _ i 2 (f 1).bal (f 1).e⟩,?_⟩
  intro w8 R8 g8
  refine hK'.out _ _ (tr_st g8 F4 (by omega)) (fun _=>?_)
  clear hK'
  (try simp only [Act.put,qa1,qa2,qa3])
  refine tkP 13 rfl ?_
  refine wpAnyH_done (by kernel_rfl) ?_ _
  go_wp2
  refine bodyPost_ret (results_t1c1t1' rfl rfl (run_loadVar_all isAgg163 sizeOf163 R8 rfl)) rfl ⟨rfl,bls hb5 (Nat.le_refl _) g8 (by omega)⟩
end
end
section
theorem ru_at (p:SRec) (f:Nat→SCp) (i:Int) (g q1 q2:Nat):(∀ w,(Instr.index 299 (.agg (ruA p f i g q1 q2)) (.int .i64 0)).run Tryz.prog w=.ok (.agg #[r2V g,isV q1]) w)∧(∀ w,(Instr.index 299 (.agg (ruA p f i g q1 q2)) (.int .i64 1)).run Tryz.prog w=.ok (.agg #[byV p f i,isV q2]) w)∧(∀ w,(Instr.index 299 (.agg (ruA p f i g q1 q2)) (.int .i64 2)).run Tryz.prog w=.ok (.agg #[r3V g,r4V g]) w)∧∀ w,(Instr.index 299 (.agg (ruA p f i g q1 q2)) (.int .i64 3)).run Tryz.prog w=.ok (.agg #[r5V,r6V g]) w:=
 ⟨fun _=>by kernel_rfl,fun _=>by kernel_rfl,fun _=>by kernel_rfl,fun _=>by kernel_rfl⟩
theorem rl_new (x y:Value) (hx:x.oneCell'=true) (hy:y.oneCell'=true):(Value.agg #[x,y]).cells=#[x,y]∧(#[x,y]:Array Value).size=2∧∀ u ∈ (#[x,y]:Array Value).toList,u.oneCell'=true:=⟨rfl,rfl,by intro u hu;simp at hu;rcases hu with rfl | rfl <;> assumption⟩
theorem rl_0 {w:World} {b:Nat} {T:TypeId} {x y:Value} (h:w.heap[b]?=some (.cells #[x,y] T (0,0))):w.cell? ⟨b,0,none⟩=some x:=blk_cell h 0 _ rfl
theorem rl_1 {w:World} {b:Nat} {T:TypeId} {x y:Value} (h:w.heap[b]?=some (.cells #[x,y] T (0,0))):w.cell? ⟨b,1,none⟩=some y:=blk_cell h 1 _ rfl
theorem rp_k (i st:Int):(Value.agg #[.int .i64 i,.int .u8 st,.int .i64 0,.int .i64 0,.int .u8 0,.int .i64 0,.int .i64 0,.int .u8 0,.string ⟨#[]⟩,.string ⟨#[]⟩,.string ⟨#[]⟩]).cells=rpA i st zeroL (zeroE 0)∧(rpA i st zeroL (zeroE 0)).size=11∧∀ u ∈ (rpA i st zeroL (zeroE 0)).toList,u.oneCell'=true:=⟨rfl,rfl,by simp [rpA,Value.oneCell']⟩
theorem rp_bal (i st:Int) (b b':Bal) (e:En):2+2≤(rpA i st b e).size∧(Value.agg (blA b')).cells.size=2∧(∀ u ∈ (Value.agg (blA b')).cells.toList,u.oneCell'=true)∧((rpA i st b e).toList.take 2++(Value.agg (blA b')).cells.toList++(rpA i st b e).toList.drop (2+2)).toArray=rpA i st b' e:=
 ⟨by show _≤11;omega,rfl,by simp [Value.cells,blA,Value.oneCell'],rfl⟩
theorem rc_bal (p:SRec):2+2≤(recA p).size∧(recA p).extract 2 (2+2)=blA p.bal:=⟨by show _≤5;omega,rfl⟩
section
variable {w:World} {p:SRec} {f:Nat→SCp} {i:Int}
theorem what_lost (hw:p.wh=0∨p.wh=1) (hk:intactS p f i=none) (h1:p.st=1∧p.idx=i) (w:World):Calls Tryz.prog 209 #[.agg (recA p),.agg (ffA f),.int .i64 i] w fun e w'=>e=.returned (.tuple #[.int .u8 2,.agg (rpA i 3 p.bal (zeroE 0)),.int .i64 (-1)])∧Below w.heap.size w w':=by
 have hin:=fun w=>intact_any2 hw _ hk w
 have hr2:=fun g w h=>r2_any (w:=w) (g:=g) (p:=p) (f:=f) (i:=i) h true (decide_eq_true h1)
 clear hk hw h1
 go_enter func209,ntmps209
 refine seqH fun K HK=>?_
 go_wp2
 refine HK.out _ _ ?_
 clear HK
 obtain ⟨hb1,P1,F1,R1⟩:=n3 w (Obj.cells (recA p) 147) (Obj.cells (ffA f) 150) (Obj.cells #[.int .i64 0,.int .u8 0,.int .i64 0,.int .i64 0,.int .u8 0,.int .i64 0,.int .i64 0,.int .u8 0,.string ⟨#[]⟩,.string ⟨#[]⟩,.string ⟨#[]⟩] 163)
 change _=some (Obj.cells (rpA 0 0 zeroL (zeroE 0)) 163 (0,0)) at R1
 have hn1:w.heap.size < w.heap.size+1:=by omega
 have hn2:w.heap.size+1 < w.heap.size+1+1:=by omega
 generalize ((w.alloc (Obj.cells (recA p) 147)).alloc (Obj.cells (ffA f) 150)).alloc (Obj.cells #[.int .i64 0,.int .u8 0,.int .i64 0,.int .i64 0,.int .u8 0,.int .i64 0,.int .i64 0,.int .u8 0,.string ⟨#[]⟩,.string ⟨#[]⟩,.string ⟨#[]⟩] 163)=w1 at *
 generalize w.heap.size+1+1=rb at *
 generalize w.heap.size+1=fb at *
 refine seqH fun K HK=>?_
 go_wp2_with (first
  | ((with_reducible refine wpList_ldB 147 _ ?_);refine ⟨rfl,_,⟨_,_,_,_,_,isAgg147,sizeOf147,rfl,‹_›,arr_all rfl⟩,?_⟩)
  | ((with_reducible refine wpList_ldB 150 _ ?_);refine ⟨rfl,_,⟨_,_,_,_,_,isAgg150,sizeOf150,rfl,‹_›,arr_all rfl⟩,?_⟩)
  | (with_reducible refine wpList_bpr (p:=p) (f:=f) (i:=i) _ _ _ (by simp [Act.eval]) (by simp [Act.eval]) (by simp [Act.eval]) ?_)
  | ((first | (with_reducible refine wpList_stNew 234 _ _ ?_) | (with_reducible refine wp_stNew 234 _ _ ?_));refine ⟨_,_,⟨sizeOf234,rfl,pr_new _ _ _⟩,rfl,?_⟩))
 refine HK.out _ _ ?_
 clear HK
 have hbx:=blw w1 (Obj.cells (prA p f i) 234)
 have X2:=heap_alloc_new w1 (Obj.cells (prA p f i) 234)
 have P2:=tr_bl hbx P1
 have R2:=tr_bl hbx R1
 have hb2:=hb1.trans (hbx.mono hb1.size)
 clear hb1 P1 F1 R1 hbx
 generalize w1.alloc (Obj.cells (prA p f i) 234)=w2 at *
 generalize w1.heap.size=xb at *
 refine seqH fun K HK=>?_
 refine seqH fun K HK=>?_
 go_wp2_with (first
  | ((with_reducible refine wpList_ldB 234 _ ?_);refine ⟨rfl,_,⟨_,_,_,_,_,isAgg234,sizeOf234,rfl,‹_›,arr_all rfl⟩,?_⟩)
  | (go_at_call 155;refine (hin _).mono ?_;rintro e w3 ⟨rfl,hb3⟩))
 refine HK.out _ _ ?_
 clear HK
 have P3:=tr_bl hb3 P2
 have R3:=tr_bl hb3 R2
 have X3:=tr_bl hb3 X2
 have hb4:=hb2.trans (hb3.mono hb2.size)
 clear hb2 hb3 P2 R2 X2 hin
 rw [show outV none=.int .i64 (-1) from rfl]
 go_wp2
 refine HK.out _ _ ?_
 clear HK
 refine seqH fun K HK=>?_
 refine seqH fun K HK=>?_
 go_wp2_with (first
  | ((with_reducible refine wpList_ldB 234 _ ?_);refine ⟨rfl,_,⟨_,_,_,_,_,isAgg234,sizeOf234,rfl,‹_›,arr_all rfl⟩,?_⟩)
  | (go_at_call 224;refine (rules_any _).mono ?_;rintro e w5 ⟨g,q1,q2,rfl,G5,a0,a1,b0,b1,hb5⟩))
 refine HK.out _ _ ?_
 clear HK
 have P5:=tr_bl hb5 P3
 have R5:=tr_bl hb5 R3
 have hb6:=hb4.trans (hb5.mono hb4.size)
 clear hb4 hb5 P3 R3 X3
 obtain ⟨i0,i1,i2,i3⟩:=ru_at p f i g q1 q2
 go_wp2
 go_loopw [37,12] (fun i' _ wr=>∃ j:Nat,j≤0∧i'=.int .i64 (j:Nat)∧Below w5.heap.size w5 wr) (fun i' _ _=>4 - (intOf i').toNat)
 case atStart=>exact ⟨0,by omega,rfl,Below.refl _ _⟩
 case' round=>obtain ⟨j,hj,rfl,hbr⟩:=hrel
 obtain rfl:j=0:=by omega
 have G6:=tr_bl hbr G5
 have P6:=tr_bl hbr P5
 have R6:=tr_bl hbr R5
 have x0:=(hbr.cell (World.block_lt_of_cell? _ _ a0)).trans a0
 have x1:=(hbr.cell (World.block_lt_of_cell? _ _ a1)).trans a1
 have y0:=(hbr.cell (World.block_lt_of_cell? _ _ b0)).trans b0
 have y1:=(hbr.cell (World.block_lt_of_cell? _ _ b1)).trans b1
 have hbw:=hb6.trans (hbr.mono hb6.size)
 have hbB:=blw wr ((Obj.cells #[r2V g,isV q1] 298))
 have d0:=rl_0 (heap_alloc_new wr ((Obj.cells #[r2V g,isV q1] 298)))
 have d1:=rl_1 (heap_alloc_new wr ((Obj.cells #[r2V g,isV q1] 298)))
 have D:=heap_alloc_new wr ((Obj.cells #[r2V g,isV q1] 298))
 have G7:=tr_bl hbB G6
 have P7:=tr_bl hbB P6
 have R7:=tr_bl hbB R6
 have x2:=(hbB.cell (World.block_lt_of_cell? _ _ x0)).trans x0
 have x3:=(hbB.cell (World.block_lt_of_cell? _ _ x1)).trans x1
 have y2:=(hbB.cell (World.block_lt_of_cell? _ _ y0)).trans y0
 have y3:=(hbB.cell (World.block_lt_of_cell? _ _ y1)).trans y1
 have hb7:=hbw.trans (hbB.mono hbw.size)
 have hbrB:=hbr.trans (hbB.mono hbr.size)
 clear G6 P6 R6 x0 x1 y0 y1 hbw
 skip
 skip
 go_wp2_with (first
  | ((first | (with_reducible refine wpList_stNew 298 _ _ ?_) | (with_reducible refine wp_stNew 298 _ _ ?_));refine ⟨_,_,⟨sizeOf298,rfl,rl_new _ _ rfl rfl⟩,rfl,?_⟩)
  | (go_at_call 231;refine (hr2 _ _ G7).mono ?_;rintro e w8 ⟨rfl,hb8⟩;have d1:=(hb8.cell (World.block_lt_of_cell? _ _ d1)).trans d1;have x2:=(hb8.cell (World.block_lt_of_cell? _ _ x2)).trans x2;have x3:=(hb8.cell (World.block_lt_of_cell? _ _ x3)).trans x3;have y2:=(hb8.cell (World.block_lt_of_cell? _ _ y2)).trans y2;have y3:=(hb8.cell (World.block_lt_of_cell? _ _ y3)).trans y3;have P8:=tr_bl hb8 P7;have R8:=tr_bl hb8 R7;have G8:=tr_bl hb8 G7))
 have hb8':=hb7.trans (hb8.mono hb7.size)
 refine (is1_any q1 2 3 _ x2 x3).mono ?_
 rintro e w9 ⟨rfl,hb9⟩
 have P9:=tr_bl hb9 P8
 have R9:=tr_bl hb9 R8
 have hb10:=hb8'.trans (hb9.mono hb8'.size)
 have hbo:=blw w9 (Obj.cells (rpA i 3 zeroL (zeroE 0)) 163)
 have OZ:=heap_alloc_new w9 (Obj.cells (rpA i 3 zeroL (zeroE 0)) 163)
 have PZ:=tr_bl hbo P9
 have RZ:=tr_bl hbo R9
 have hbz:=hb10.trans (hbo.mono hb10.size)
 have hob0:=lt_blk R9
 have hob1:=lt_blk P9
 clear d0 d1 D G7 P7 R7 x2 x3 y2 y3 hb7 hbrB G8 hb8 hb8' P8 R8 hb9 P9 R9 hb10 hbB
 go_wp2_with (first
  | ((first | (with_reducible refine wpList_stNew 163 _ _ ?_) | (with_reducible refine wp_stNew 163 _ _ ?_));refine ⟨_,_,⟨sizeOf163,rfl,rp_k _ _⟩,rfl,?_⟩)
  | ((with_reducible refine wpList_ldB 69 _ ?_);refine ⟨rfl,_,⟨_,_,_,_,_,isAgg69,sizeOf69,rfl,‹_›,rc_bal _⟩,?_⟩)
  | ((first | (with_reducible refine wpList_stB 69 _ _ ?_) | (with_reducible refine wp_stB 69 _ _ ?_));refine ⟨_,_,_,⟨_,_,_,sizeOf69,rfl,‹_›,rp_bal _ _ _ _ _⟩,?_⟩;intro wz O10 g10))
 have RZ:=tr_st g10 RZ (by omega)
 have hbz:=bls hbz (Nat.le_refl _) g10 (by omega)
 have hob:rb≠w9.heap.size:=by omega
 clear OZ PZ hbo g10
 have OZ:=O10
 clear O10
 generalize w9.heap.size=ob at *
 have hbd:=(Below.refl wz.heap.size wz).drew
 have O8:=tr_bl hbd OZ
 have R8:=tr_bl hbd RZ
 have hb13:=hbz.trans (hbd.mono hbz.size)
 clear hbz OZ RZ hbd
 refine wp_region_held_drew (S:=fun w'=>w'.heap[ob]?=some (.cells (rpA i 3 (p.bal) (zeroE 0)) 163 (0,0))) (by kernel_rfl) O8 (fun hS0=>?_)
 generalize wz.drew=x0 at *
 refine tkP 0 rfl ?_
 refine tkT 1 (v:=.agg (rpA i 3 (p.bal) (zeroE 0))) rfl (by intro wS hSw;exact exec_ldB 163 _ ⟨_,_,_,_,_,isAgg163,sizeOf163,rfl,hSw,arr_all rfl⟩) ?_
 refine tkP 2 rfl ?_
 refine rdy1 3 rfl (fun K' hK'=>?_)
 refine wp_stB 163 _ _ ?_
 refine ⟨_,_,_,⟨_,_,_,sizeOf163,rfl,R8,rp_over _ _ _ _ i 3 (p.bal) (zeroE 0)⟩,?_⟩
 intro w13 R13 g13
 refine hK'.out _ _ (tr_st g13 O8 hob) (fun _=>?_)
 clear hK'
 (try simp only [Act.put,qa1,qa2,qa3])
 refine tkP 4 rfl ?_
 refine wpAnyH_done (by kernel_rfl) ?_ _
 go_wp2
 refine bodyPost_ret (results_t1c1t1' rfl rfl (run_loadVar_all isAgg163 sizeOf163 R13 rfl)) rfl ⟨rfl,bls hb13 (Nat.le_refl _) g13 (by omega)⟩
theorem what_blind (hw:p.wh=0∨p.wh=1) (hk:intactS p f i=none) (h1:¬ (p.st=1∧p.idx=i)) (h2:beyondS p f i=true) (w:World):Calls Tryz.prog 209 #[.agg (recA p),.agg (ffA f),.int .i64 i] w fun e w'=>e=.returned (.tuple #[.int .u8 2,.agg (rpA i 4 zeroL (zeroE 0)),.int .i64 (-1)])∧Below w.heap.size w w':=by
 have hin:=fun w=>intact_any2 hw _ hk w
 have hr2:=fun g w h=>r2_any (w:=w) (g:=g) (p:=p) (f:=f) (i:=i) h false (decide_eq_false h1)
 have hby:=fun w=>beyond_any2 (p:=p) (f:=f) (i:=i) _ h2 w
 clear hk hw h1 h2
 go_enter func209,ntmps209
 refine seqH fun K HK=>?_
 go_wp2
 refine HK.out _ _ ?_
 clear HK
 obtain ⟨hb1,P1,F1,R1⟩:=n3 w (Obj.cells (recA p) 147) (Obj.cells (ffA f) 150) (Obj.cells #[.int .i64 0,.int .u8 0,.int .i64 0,.int .i64 0,.int .u8 0,.int .i64 0,.int .i64 0,.int .u8 0,.string ⟨#[]⟩,.string ⟨#[]⟩,.string ⟨#[]⟩] 163)
 change _=some (Obj.cells (rpA 0 0 zeroL (zeroE 0)) 163 (0,0)) at R1
 have hn1:w.heap.size < w.heap.size+1:=by omega
 have hn2:w.heap.size+1 < w.heap.size+1+1:=by omega
 generalize ((w.alloc (Obj.cells (recA p) 147)).alloc (Obj.cells (ffA f) 150)).alloc (Obj.cells #[.int .i64 0,.int .u8 0,.int .i64 0,.int .i64 0,.int .u8 0,.int .i64 0,.int .i64 0,.int .u8 0,.string ⟨#[]⟩,.string ⟨#[]⟩,.string ⟨#[]⟩] 163)=w1 at *
 generalize w.heap.size+1+1=rb at *
 generalize w.heap.size+1=fb at *
 refine seqH fun K HK=>?_
 go_wp2_with (first
  | ((with_reducible refine wpList_ldB 147 _ ?_);refine ⟨rfl,_,⟨_,_,_,_,_,isAgg147,sizeOf147,rfl,‹_›,arr_all rfl⟩,?_⟩)
  | ((with_reducible refine wpList_ldB 150 _ ?_);refine ⟨rfl,_,⟨_,_,_,_,_,isAgg150,sizeOf150,rfl,‹_›,arr_all rfl⟩,?_⟩)
  | (with_reducible refine wpList_bpr (p:=p) (f:=f) (i:=i) _ _ _ (by simp [Act.eval]) (by simp [Act.eval]) (by simp [Act.eval]) ?_)
  | ((first | (with_reducible refine wpList_stNew 234 _ _ ?_) | (with_reducible refine wp_stNew 234 _ _ ?_));refine ⟨_,_,⟨sizeOf234,rfl,pr_new _ _ _⟩,rfl,?_⟩))
 refine HK.out _ _ ?_
 clear HK
 have hbx:=blw w1 (Obj.cells (prA p f i) 234)
 have X2:=heap_alloc_new w1 (Obj.cells (prA p f i) 234)
 have P2:=tr_bl hbx P1
 have R2:=tr_bl hbx R1
 have hb2:=hb1.trans (hbx.mono hb1.size)
 clear hb1 P1 F1 R1 hbx
 generalize w1.alloc (Obj.cells (prA p f i) 234)=w2 at *
 generalize w1.heap.size=xb at *
 refine seqH fun K HK=>?_
 refine seqH fun K HK=>?_
 go_wp2_with (first
  | ((with_reducible refine wpList_ldB 234 _ ?_);refine ⟨rfl,_,⟨_,_,_,_,_,isAgg234,sizeOf234,rfl,‹_›,arr_all rfl⟩,?_⟩)
  | (go_at_call 155;refine (hin _).mono ?_;rintro e w3 ⟨rfl,hb3⟩))
 refine HK.out _ _ ?_
 clear HK
 have P3:=tr_bl hb3 P2
 have R3:=tr_bl hb3 R2
 have X3:=tr_bl hb3 X2
 have hb4:=hb2.trans (hb3.mono hb2.size)
 clear hb2 hb3 P2 R2 X2 hin
 rw [show outV none=.int .i64 (-1) from rfl]
 go_wp2
 refine HK.out _ _ ?_
 clear HK
 refine seqH fun K HK=>?_
 refine seqH fun K HK=>?_
 go_wp2_with (first
  | ((with_reducible refine wpList_ldB 234 _ ?_);refine ⟨rfl,_,⟨_,_,_,_,_,isAgg234,sizeOf234,rfl,‹_›,arr_all rfl⟩,?_⟩)
  | (go_at_call 224;refine (rules_any _).mono ?_;rintro e w5 ⟨g,q1,q2,rfl,G5,a0,a1,b0,b1,hb5⟩))
 refine HK.out _ _ ?_
 clear HK
 have P5:=tr_bl hb5 P3
 have R5:=tr_bl hb5 R3
 have hb6:=hb4.trans (hb5.mono hb4.size)
 clear hb4 hb5 P3 R3 X3
 obtain ⟨i0,i1,i2,i3⟩:=ru_at p f i g q1 q2
 go_wp2
 go_loopw [37,12] (fun i' _ wr=>∃ j:Nat,j≤1∧i'=.int .i64 (j:Nat)∧Below w5.heap.size w5 wr) (fun i' _ _=>4 - (intOf i').toNat)
 case atStart=>exact ⟨0,by omega,rfl,Below.refl _ _⟩
 case' round=>obtain ⟨j,hj,rfl,hbr⟩:=hrel
 rcases (show j=0∨j=1 by omega) with rfl | rfl
 ·skip
  have G6:=tr_bl hbr G5
  have P6:=tr_bl hbr P5
  have R6:=tr_bl hbr R5
  have x0:=(hbr.cell (World.block_lt_of_cell? _ _ a0)).trans a0
  have x1:=(hbr.cell (World.block_lt_of_cell? _ _ a1)).trans a1
  have y0:=(hbr.cell (World.block_lt_of_cell? _ _ b0)).trans b0
  have y1:=(hbr.cell (World.block_lt_of_cell? _ _ b1)).trans b1
  have hbw:=hb6.trans (hbr.mono hb6.size)
  have hbB:=blw wr ((Obj.cells #[r2V g,isV q1] 298))
  have d0:=rl_0 (heap_alloc_new wr ((Obj.cells #[r2V g,isV q1] 298)))
  have d1:=rl_1 (heap_alloc_new wr ((Obj.cells #[r2V g,isV q1] 298)))
  have D:=heap_alloc_new wr ((Obj.cells #[r2V g,isV q1] 298))
  have G7:=tr_bl hbB G6
  have P7:=tr_bl hbB P6
  have R7:=tr_bl hbB R6
  have x2:=(hbB.cell (World.block_lt_of_cell? _ _ x0)).trans x0
  have x3:=(hbB.cell (World.block_lt_of_cell? _ _ x1)).trans x1
  have y2:=(hbB.cell (World.block_lt_of_cell? _ _ y0)).trans y0
  have y3:=(hbB.cell (World.block_lt_of_cell? _ _ y1)).trans y1
  have hb7:=hbw.trans (hbB.mono hbw.size)
  have hbrB:=hbr.trans (hbB.mono hbr.size)
  clear G6 P6 R6 x0 x1 y0 y1 hbw
  skip
  skip
  go_wp2_with (first
   | ((first | (with_reducible refine wpList_stNew 298 _ _ ?_) | (with_reducible refine wp_stNew 298 _ _ ?_));refine ⟨_,_,⟨sizeOf298,rfl,rl_new _ _ rfl rfl⟩,rfl,?_⟩)
   | (go_at_call 231;refine (hr2 _ _ G7).mono ?_;rintro e w8 ⟨rfl,hb8⟩))
  go_roundw
  case rel=>exact ⟨0+1,by omega,by rfl,hbrB.trans (hb8.mono hbrB.size)⟩
  case measure=>simp [intOf]
 ·skip
  have G6:=tr_bl hbr G5
  have P6:=tr_bl hbr P5
  have R6:=tr_bl hbr R5
  have x0:=(hbr.cell (World.block_lt_of_cell? _ _ a0)).trans a0
  have x1:=(hbr.cell (World.block_lt_of_cell? _ _ a1)).trans a1
  have y0:=(hbr.cell (World.block_lt_of_cell? _ _ b0)).trans b0
  have y1:=(hbr.cell (World.block_lt_of_cell? _ _ b1)).trans b1
  have hbw:=hb6.trans (hbr.mono hb6.size)
  have hbB:=blw wr ((Obj.cells #[byV p f i,isV q2] 298))
  have d0:=rl_0 (heap_alloc_new wr ((Obj.cells #[byV p f i,isV q2] 298)))
  have d1:=rl_1 (heap_alloc_new wr ((Obj.cells #[byV p f i,isV q2] 298)))
  have D:=heap_alloc_new wr ((Obj.cells #[byV p f i,isV q2] 298))
  have G7:=tr_bl hbB G6
  have P7:=tr_bl hbB P6
  have R7:=tr_bl hbB R6
  have x2:=(hbB.cell (World.block_lt_of_cell? _ _ x0)).trans x0
  have x3:=(hbB.cell (World.block_lt_of_cell? _ _ x1)).trans x1
  have y2:=(hbB.cell (World.block_lt_of_cell? _ _ y0)).trans y0
  have y3:=(hbB.cell (World.block_lt_of_cell? _ _ y1)).trans y1
  have hb7:=hbw.trans (hbB.mono hbw.size)
  have hbrB:=hbr.trans (hbB.mono hbr.size)
  clear G6 P6 R6 x0 x1 y0 y1 hbw
  skip
  skip
  go_wp2_with (first
   | ((first | (with_reducible refine wpList_stNew 298 _ _ ?_) | (with_reducible refine wp_stNew 298 _ _ ?_));refine ⟨_,_,⟨sizeOf298,rfl,rl_new _ _ rfl rfl⟩,rfl,?_⟩)
   | (go_at_call 200;refine (hby _).mono ?_;rintro e w8 ⟨rfl,hb8⟩;have d1:=(hb8.cell (World.block_lt_of_cell? _ _ d1)).trans d1;have x2:=(hb8.cell (World.block_lt_of_cell? _ _ x2)).trans x2;have x3:=(hb8.cell (World.block_lt_of_cell? _ _ x3)).trans x3;have y2:=(hb8.cell (World.block_lt_of_cell? _ _ y2)).trans y2;have y3:=(hb8.cell (World.block_lt_of_cell? _ _ y3)).trans y3;have P8:=tr_bl hb8 P7;have R8:=tr_bl hb8 R7;have G8:=tr_bl hb8 G7))
  have hb8':=hb7.trans (hb8.mono hb7.size)
  refine (is1_any q2 2 4 _ y2 y3).mono ?_
  rintro e w9 ⟨rfl,hb9⟩
  have P9:=tr_bl hb9 P8
  have R9:=tr_bl hb9 R8
  have hb10:=hb8'.trans (hb9.mono hb8'.size)
  have hbo:=blw w9 (Obj.cells (rpA i 4 zeroL (zeroE 0)) 163)
  have OZ:=heap_alloc_new w9 (Obj.cells (rpA i 4 zeroL (zeroE 0)) 163)
  have PZ:=tr_bl hbo P9
  have RZ:=tr_bl hbo R9
  have hbz:=hb10.trans (hbo.mono hb10.size)
  have hob0:=lt_blk R9
  have hob1:=lt_blk P9
  clear d0 d1 D G7 P7 R7 x2 x3 y2 y3 hb7 hbrB G8 hb8 hb8' P8 R8 hb9 P9 R9 hb10 hbB
  go_wp2_with ((first | (with_reducible refine wpList_stNew 163 _ _ ?_) | (with_reducible refine wp_stNew 163 _ _ ?_));refine ⟨_,_,⟨sizeOf163,rfl,rp_k _ _⟩,rfl,?_⟩)
  have hob:rb≠w9.heap.size:=by omega
  generalize w9.alloc (Obj.cells (rpA i 4 zeroL (zeroE 0)) 163)=wz at *
  generalize w9.heap.size=ob at *
  clear PZ hbo hob0 hob1
  have hbd:=(Below.refl wz.heap.size wz).drew
  have O8:=tr_bl hbd OZ
  have R8:=tr_bl hbd RZ
  have hb13:=hbz.trans (hbd.mono hbz.size)
  clear hbz OZ RZ hbd
  refine wp_region_held_drew (S:=fun w'=>w'.heap[ob]?=some (.cells (rpA i 4 (zeroL) (zeroE 0)) 163 (0,0))) (by kernel_rfl) O8 (fun hS0=>?_)
  generalize wz.drew=x0 at *
  refine tkP 0 rfl ?_
  refine tkT 1 (v:=.agg (rpA i 4 (zeroL) (zeroE 0))) rfl (by intro wS hSw;exact exec_ldB 163 _ ⟨_,_,_,_,_,isAgg163,sizeOf163,rfl,hSw,arr_all rfl⟩) ?_
  refine tkP 2 rfl ?_
  refine rdy1 3 rfl (fun K' hK'=>?_)
  refine wp_stB 163 _ _ ?_
  refine ⟨_,_,_,⟨_,_,_,sizeOf163,rfl,R8,rp_over _ _ _ _ i 4 (zeroL) (zeroE 0)⟩,?_⟩
  intro w13 R13 g13
  refine hK'.out _ _ (tr_st g13 O8 hob) (fun _=>?_)
  clear hK'
  (try simp only [Act.put,qa1,qa2,qa3])
  refine tkP 4 rfl ?_
  refine wpAnyH_done (by kernel_rfl) ?_ _
  go_wp2
  refine bodyPost_ret (results_t1c1t1' rfl rfl (run_loadVar_all isAgg163 sizeOf163 R13 rfl)) rfl ⟨rfl,bls hb13 (Nat.le_refl _) g13 (by omega)⟩
theorem what_farT (hw:p.wh=0∨p.wh=1) (hk:intactS p f i=none) (h1:¬ (p.st=1∧p.idx=i)) (h2:beyondS p f i=false) (h3:p.st≠2) (h4:badS f=true) (w:World):Calls Tryz.prog 209 #[.agg (recA p),.agg (ffA f),.int .i64 i] w fun e w'=>e=.returned (.tuple #[.int .u8 1,.agg (rpA i 1 zeroL (zeroE 0)),.int .i64 (-1)])∧Below w.heap.size w w':=by
 have hin:=fun w=>intact_any2 hw _ hk w
 have hr2:=fun g w h=>r2_any (w:=w) (g:=g) (p:=p) (f:=f) (i:=i) h false (decide_eq_false h1)
 have hby:=fun w=>beyond_any2 (p:=p) (f:=f) (i:=i) _ h2 w
 have hr3:=fun g w h=>r3_any (w:=w) (g:=g) (p:=p) (f:=f) (i:=i) h true (decide_eq_true h3)
 have hr4:=fun g w h=>r4_any (w:=w) (g:=g) (p:=p) (f:=f) (i:=i) h _ h4
 simp only [if_true] at hr4
 clear hk hw h1 h2 h3 h4
 go_enter func209,ntmps209
 refine seqH fun K HK=>?_
 go_wp2
 refine HK.out _ _ ?_
 clear HK
 obtain ⟨hb1,P1,F1,R1⟩:=n3 w (Obj.cells (recA p) 147) (Obj.cells (ffA f) 150) (Obj.cells #[.int .i64 0,.int .u8 0,.int .i64 0,.int .i64 0,.int .u8 0,.int .i64 0,.int .i64 0,.int .u8 0,.string ⟨#[]⟩,.string ⟨#[]⟩,.string ⟨#[]⟩] 163)
 change _=some (Obj.cells (rpA 0 0 zeroL (zeroE 0)) 163 (0,0)) at R1
 have hn1:w.heap.size < w.heap.size+1:=by omega
 have hn2:w.heap.size+1 < w.heap.size+1+1:=by omega
 generalize ((w.alloc (Obj.cells (recA p) 147)).alloc (Obj.cells (ffA f) 150)).alloc (Obj.cells #[.int .i64 0,.int .u8 0,.int .i64 0,.int .i64 0,.int .u8 0,.int .i64 0,.int .i64 0,.int .u8 0,.string ⟨#[]⟩,.string ⟨#[]⟩,.string ⟨#[]⟩] 163)=w1 at *
 generalize w.heap.size+1+1=rb at *
 generalize w.heap.size+1=fb at *
 refine seqH fun K HK=>?_
 go_wp2_with (first
  | ((with_reducible refine wpList_ldB 147 _ ?_);refine ⟨rfl,_,⟨_,_,_,_,_,isAgg147,sizeOf147,rfl,‹_›,arr_all rfl⟩,?_⟩)
  | ((with_reducible refine wpList_ldB 150 _ ?_);refine ⟨rfl,_,⟨_,_,_,_,_,isAgg150,sizeOf150,rfl,‹_›,arr_all rfl⟩,?_⟩)
  | (with_reducible refine wpList_bpr (p:=p) (f:=f) (i:=i) _ _ _ (by simp [Act.eval]) (by simp [Act.eval]) (by simp [Act.eval]) ?_)
  | ((first | (with_reducible refine wpList_stNew 234 _ _ ?_) | (with_reducible refine wp_stNew 234 _ _ ?_));refine ⟨_,_,⟨sizeOf234,rfl,pr_new _ _ _⟩,rfl,?_⟩))
 refine HK.out _ _ ?_
 clear HK
 have hbx:=blw w1 (Obj.cells (prA p f i) 234)
 have X2:=heap_alloc_new w1 (Obj.cells (prA p f i) 234)
 have P2:=tr_bl hbx P1
 have R2:=tr_bl hbx R1
 have hb2:=hb1.trans (hbx.mono hb1.size)
 clear hb1 P1 F1 R1 hbx
 generalize w1.alloc (Obj.cells (prA p f i) 234)=w2 at *
 generalize w1.heap.size=xb at *
 refine seqH fun K HK=>?_
 refine seqH fun K HK=>?_
 go_wp2_with (first
  | ((with_reducible refine wpList_ldB 234 _ ?_);refine ⟨rfl,_,⟨_,_,_,_,_,isAgg234,sizeOf234,rfl,‹_›,arr_all rfl⟩,?_⟩)
  | (go_at_call 155;refine (hin _).mono ?_;rintro e w3 ⟨rfl,hb3⟩))
 refine HK.out _ _ ?_
 clear HK
 have P3:=tr_bl hb3 P2
 have R3:=tr_bl hb3 R2
 have X3:=tr_bl hb3 X2
 have hb4:=hb2.trans (hb3.mono hb2.size)
 clear hb2 hb3 P2 R2 X2 hin
 rw [show outV none=.int .i64 (-1) from rfl]
 go_wp2
 refine HK.out _ _ ?_
 clear HK
 refine seqH fun K HK=>?_
 refine seqH fun K HK=>?_
 go_wp2_with (first
  | ((with_reducible refine wpList_ldB 234 _ ?_);refine ⟨rfl,_,⟨_,_,_,_,_,isAgg234,sizeOf234,rfl,‹_›,arr_all rfl⟩,?_⟩)
  | (go_at_call 224;refine (rules_any _).mono ?_;rintro e w5 ⟨g,q1,q2,rfl,G5,a0,a1,b0,b1,hb5⟩))
 refine HK.out _ _ ?_
 clear HK
 have P5:=tr_bl hb5 P3
 have R5:=tr_bl hb5 R3
 have hb6:=hb4.trans (hb5.mono hb4.size)
 clear hb4 hb5 P3 R3 X3
 obtain ⟨i0,i1,i2,i3⟩:=ru_at p f i g q1 q2
 go_wp2
 go_loopw [37,12] (fun i' _ wr=>∃ j:Nat,j≤2∧i'=.int .i64 (j:Nat)∧Below w5.heap.size w5 wr) (fun i' _ _=>4 - (intOf i').toNat)
 case atStart=>exact ⟨0,by omega,rfl,Below.refl _ _⟩
 case' round=>obtain ⟨j,hj,rfl,hbr⟩:=hrel
 rcases (show j=0∨j=1∨j=2 by omega) with rfl | rfl | rfl
 ·skip
  have G6:=tr_bl hbr G5
  have P6:=tr_bl hbr P5
  have R6:=tr_bl hbr R5
  have x0:=(hbr.cell (World.block_lt_of_cell? _ _ a0)).trans a0
  have x1:=(hbr.cell (World.block_lt_of_cell? _ _ a1)).trans a1
  have y0:=(hbr.cell (World.block_lt_of_cell? _ _ b0)).trans b0
  have y1:=(hbr.cell (World.block_lt_of_cell? _ _ b1)).trans b1
  have hbw:=hb6.trans (hbr.mono hb6.size)
  have hbB:=blw wr ((Obj.cells #[r2V g,isV q1] 298))
  have d0:=rl_0 (heap_alloc_new wr ((Obj.cells #[r2V g,isV q1] 298)))
  have d1:=rl_1 (heap_alloc_new wr ((Obj.cells #[r2V g,isV q1] 298)))
  have D:=heap_alloc_new wr ((Obj.cells #[r2V g,isV q1] 298))
  have G7:=tr_bl hbB G6
  have P7:=tr_bl hbB P6
  have R7:=tr_bl hbB R6
  have x2:=(hbB.cell (World.block_lt_of_cell? _ _ x0)).trans x0
  have x3:=(hbB.cell (World.block_lt_of_cell? _ _ x1)).trans x1
  have y2:=(hbB.cell (World.block_lt_of_cell? _ _ y0)).trans y0
  have y3:=(hbB.cell (World.block_lt_of_cell? _ _ y1)).trans y1
  have hb7:=hbw.trans (hbB.mono hbw.size)
  have hbrB:=hbr.trans (hbB.mono hbr.size)
  clear G6 P6 R6 x0 x1 y0 y1 hbw
  skip
  skip
  go_wp2_with (first
   | ((first | (with_reducible refine wpList_stNew 298 _ _ ?_) | (with_reducible refine wp_stNew 298 _ _ ?_));refine ⟨_,_,⟨sizeOf298,rfl,rl_new _ _ rfl rfl⟩,rfl,?_⟩)
   | (go_at_call 231;refine (hr2 _ _ G7).mono ?_;rintro e w8 ⟨rfl,hb8⟩))
  go_roundw
  case rel=>exact ⟨0+1,by omega,by rfl,hbrB.trans (hb8.mono hbrB.size)⟩
  case measure=>simp [intOf]
 ·skip
  have G6:=tr_bl hbr G5
  have P6:=tr_bl hbr P5
  have R6:=tr_bl hbr R5
  have x0:=(hbr.cell (World.block_lt_of_cell? _ _ a0)).trans a0
  have x1:=(hbr.cell (World.block_lt_of_cell? _ _ a1)).trans a1
  have y0:=(hbr.cell (World.block_lt_of_cell? _ _ b0)).trans b0
  have y1:=(hbr.cell (World.block_lt_of_cell? _ _ b1)).trans b1
  have hbw:=hb6.trans (hbr.mono hb6.size)
  have hbB:=blw wr ((Obj.cells #[byV p f i,isV q2] 298))
  have d0:=rl_0 (heap_alloc_new wr ((Obj.cells #[byV p f i,isV q2] 298)))
  have d1:=rl_1 (heap_alloc_new wr ((Obj.cells #[byV p f i,isV q2] 298)))
  have D:=heap_alloc_new wr ((Obj.cells #[byV p f i,isV q2] 298))
  have G7:=tr_bl hbB G6
  have P7:=tr_bl hbB P6
  have R7:=tr_bl hbB R6
  have x2:=(hbB.cell (World.block_lt_of_cell? _ _ x0)).trans x0
  have x3:=(hbB.cell (World.block_lt_of_cell? _ _ x1)).trans x1
  have y2:=(hbB.cell (World.block_lt_of_cell? _ _ y0)).trans y0
  have y3:=(hbB.cell (World.block_lt_of_cell? _ _ y1)).trans y1
  have hb7:=hbw.trans (hbB.mono hbw.size)
  have hbrB:=hbr.trans (hbB.mono hbr.size)
  clear G6 P6 R6 x0 x1 y0 y1 hbw
  skip
  skip
  go_wp2_with (first
   | ((first | (with_reducible refine wpList_stNew 298 _ _ ?_) | (with_reducible refine wp_stNew 298 _ _ ?_));refine ⟨_,_,⟨sizeOf298,rfl,rl_new _ _ rfl rfl⟩,rfl,?_⟩)
   | (go_at_call 200;refine (hby _).mono ?_;rintro e w8 ⟨rfl,hb8⟩))
  go_roundw
  case rel=>exact ⟨1+1,by omega,by rfl,hbrB.trans (hb8.mono hbrB.size)⟩
  case measure=>simp [intOf]
 ·skip
  have G6:=tr_bl hbr G5
  have P6:=tr_bl hbr P5
  have R6:=tr_bl hbr R5
  have x0:=(hbr.cell (World.block_lt_of_cell? _ _ a0)).trans a0
  have x1:=(hbr.cell (World.block_lt_of_cell? _ _ a1)).trans a1
  have y0:=(hbr.cell (World.block_lt_of_cell? _ _ b0)).trans b0
  have y1:=(hbr.cell (World.block_lt_of_cell? _ _ b1)).trans b1
  have hbw:=hb6.trans (hbr.mono hb6.size)
  have hbB:=blw wr ((Obj.cells #[r3V g,r4V g] 298))
  have d0:=rl_0 (heap_alloc_new wr ((Obj.cells #[r3V g,r4V g] 298)))
  have d1:=rl_1 (heap_alloc_new wr ((Obj.cells #[r3V g,r4V g] 298)))
  have D:=heap_alloc_new wr ((Obj.cells #[r3V g,r4V g] 298))
  have G7:=tr_bl hbB G6
  have P7:=tr_bl hbB P6
  have R7:=tr_bl hbB R6
  have x2:=(hbB.cell (World.block_lt_of_cell? _ _ x0)).trans x0
  have x3:=(hbB.cell (World.block_lt_of_cell? _ _ x1)).trans x1
  have y2:=(hbB.cell (World.block_lt_of_cell? _ _ y0)).trans y0
  have y3:=(hbB.cell (World.block_lt_of_cell? _ _ y1)).trans y1
  have hb7:=hbw.trans (hbB.mono hbw.size)
  have hbrB:=hbr.trans (hbB.mono hbr.size)
  clear G6 P6 R6 x0 x1 y0 y1 hbw
  skip
  skip
  go_wp2_with (first
   | ((first | (with_reducible refine wpList_stNew 298 _ _ ?_) | (with_reducible refine wp_stNew 298 _ _ ?_));refine ⟨_,_,⟨sizeOf298,rfl,rl_new _ _ rfl rfl⟩,rfl,?_⟩)
   | (go_at_call 232;refine (hr3 _ _ G7).mono ?_;rintro e w8 ⟨rfl,hb8⟩;have d1:=(hb8.cell (World.block_lt_of_cell? _ _ d1)).trans d1;have x2:=(hb8.cell (World.block_lt_of_cell? _ _ x2)).trans x2;have x3:=(hb8.cell (World.block_lt_of_cell? _ _ x3)).trans x3;have y2:=(hb8.cell (World.block_lt_of_cell? _ _ y2)).trans y2;have y3:=(hb8.cell (World.block_lt_of_cell? _ _ y3)).trans y3;have P8:=tr_bl hb8 P7;have R8:=tr_bl hb8 R7;have G8:=tr_bl hb8 G7))
  have hb8':=hb7.trans (hb8.mono hb7.size)
  refine (hr4 _ _ G8).mono ?_
  rintro e w9 ⟨rfl,hb9⟩
  have P9:=tr_bl hb9 P8
  have R9:=tr_bl hb9 R8
  have hb10:=hb8'.trans (hb9.mono hb8'.size)
  have hbo:=blw w9 (Obj.cells (rpA i 1 zeroL (zeroE 0)) 163)
  have OZ:=heap_alloc_new w9 (Obj.cells (rpA i 1 zeroL (zeroE 0)) 163)
  have PZ:=tr_bl hbo P9
  have RZ:=tr_bl hbo R9
  have hbz:=hb10.trans (hbo.mono hb10.size)
  have hob0:=lt_blk R9
  have hob1:=lt_blk P9
  clear d0 d1 D G7 P7 R7 x2 x3 y2 y3 hb7 hbrB G8 hb8 hb8' P8 R8 hb9 P9 R9 hb10 hbB
  go_wp2_with ((first | (with_reducible refine wpList_stNew 163 _ _ ?_) | (with_reducible refine wp_stNew 163 _ _ ?_));refine ⟨_,_,⟨sizeOf163,rfl,rp_k _ _⟩,rfl,?_⟩)
  have hob:rb≠w9.heap.size:=by omega
  generalize w9.alloc (Obj.cells (rpA i 1 zeroL (zeroE 0)) 163)=wz at *
  generalize w9.heap.size=ob at *
  clear PZ hbo hob0 hob1
  have hbd:=(Below.refl wz.heap.size wz).drew
  have O8:=tr_bl hbd OZ
  have R8:=tr_bl hbd RZ
  have hb13:=hbz.trans (hbd.mono hbz.size)
  clear hbz OZ RZ hbd
  refine wp_region_held_drew (S:=fun w'=>w'.heap[ob]?=some (.cells (rpA i 1 (zeroL) (zeroE 0)) 163 (0,0))) (by kernel_rfl) O8 (fun hS0=>?_)
  generalize wz.drew=x0 at *
  refine tkP 0 rfl ?_
  refine tkT 1 (v:=.agg (rpA i 1 (zeroL) (zeroE 0))) rfl (by intro wS hSw;exact exec_ldB 163 _ ⟨_,_,_,_,_,isAgg163,sizeOf163,rfl,hSw,arr_all rfl⟩) ?_
  refine tkP 2 rfl ?_
  refine rdy1 3 rfl (fun K' hK'=>?_)
  refine wp_stB 163 _ _ ?_
  refine ⟨_,_,_,⟨_,_,_,sizeOf163,rfl,R8,rp_over _ _ _ _ i 1 (zeroL) (zeroE 0)⟩,?_⟩
  intro w13 R13 g13
  refine hK'.out _ _ (tr_st g13 O8 hob) (fun _=>?_)
  clear hK'
  (try simp only [Act.put,qa1,qa2,qa3])
  refine tkP 4 rfl ?_
  refine wpAnyH_done (by kernel_rfl) ?_ _
  go_wp2
  refine bodyPost_ret (results_t1c1t1' rfl rfl (run_loadVar_all isAgg163 sizeOf163 R13 rfl)) rfl ⟨rfl,bls hb13 (Nat.le_refl _) g13 (by omega)⟩
theorem what_farF (hw:p.wh=0∨p.wh=1) (hk:intactS p f i=none) (h1:¬ (p.st=1∧p.idx=i)) (h2:beyondS p f i=false) (h3:p.st≠2) (h4:badS f=false) (w:World):Calls Tryz.prog 209 #[.agg (recA p),.agg (ffA f),.int .i64 i] w fun e w'=>e=.returned (.tuple #[.int .u8 0,.agg (rpA i 1 zeroL (zeroE 0)),.int .i64 (-1)])∧Below w.heap.size w w':=by
 have hin:=fun w=>intact_any2 hw _ hk w
 have hr2:=fun g w h=>r2_any (w:=w) (g:=g) (p:=p) (f:=f) (i:=i) h false (decide_eq_false h1)
 have hby:=fun w=>beyond_any2 (p:=p) (f:=f) (i:=i) _ h2 w
 have hr3:=fun g w h=>r3_any (w:=w) (g:=g) (p:=p) (f:=f) (i:=i) h true (decide_eq_true h3)
 have hr4:=fun g w h=>r4_any (w:=w) (g:=g) (p:=p) (f:=f) (i:=i) h _ h4
 simp only [Bool.false_eq_true,if_false] at hr4
 clear hk hw h1 h2 h3 h4
 go_enter func209,ntmps209
 refine seqH fun K HK=>?_
 go_wp2
 refine HK.out _ _ ?_
 clear HK
 obtain ⟨hb1,P1,F1,R1⟩:=n3 w (Obj.cells (recA p) 147) (Obj.cells (ffA f) 150) (Obj.cells #[.int .i64 0,.int .u8 0,.int .i64 0,.int .i64 0,.int .u8 0,.int .i64 0,.int .i64 0,.int .u8 0,.string ⟨#[]⟩,.string ⟨#[]⟩,.string ⟨#[]⟩] 163)
 change _=some (Obj.cells (rpA 0 0 zeroL (zeroE 0)) 163 (0,0)) at R1
 have hn1:w.heap.size < w.heap.size+1:=by omega
 have hn2:w.heap.size+1 < w.heap.size+1+1:=by omega
 generalize ((w.alloc (Obj.cells (recA p) 147)).alloc (Obj.cells (ffA f) 150)).alloc (Obj.cells #[.int .i64 0,.int .u8 0,.int .i64 0,.int .i64 0,.int .u8 0,.int .i64 0,.int .i64 0,.int .u8 0,.string ⟨#[]⟩,.string ⟨#[]⟩,.string ⟨#[]⟩] 163)=w1 at *
 generalize w.heap.size+1+1=rb at *
 generalize w.heap.size+1=fb at *
 refine seqH fun K HK=>?_
 go_wp2_with (first
  | ((with_reducible refine wpList_ldB 147 _ ?_);refine ⟨rfl,_,⟨_,_,_,_,_,isAgg147,sizeOf147,rfl,‹_›,arr_all rfl⟩,?_⟩)
  | ((with_reducible refine wpList_ldB 150 _ ?_);refine ⟨rfl,_,⟨_,_,_,_,_,isAgg150,sizeOf150,rfl,‹_›,arr_all rfl⟩,?_⟩)
  | (with_reducible refine wpList_bpr (p:=p) (f:=f) (i:=i) _ _ _ (by simp [Act.eval]) (by simp [Act.eval]) (by simp [Act.eval]) ?_)
  | ((first | (with_reducible refine wpList_stNew 234 _ _ ?_) | (with_reducible refine wp_stNew 234 _ _ ?_));refine ⟨_,_,⟨sizeOf234,rfl,pr_new _ _ _⟩,rfl,?_⟩))
 refine HK.out _ _ ?_
 clear HK
 have hbx:=blw w1 (Obj.cells (prA p f i) 234)
 have X2:=heap_alloc_new w1 (Obj.cells (prA p f i) 234)
 have P2:=tr_bl hbx P1
 have R2:=tr_bl hbx R1
 have hb2:=hb1.trans (hbx.mono hb1.size)
 clear hb1 P1 F1 R1 hbx
 generalize w1.alloc (Obj.cells (prA p f i) 234)=w2 at *
 generalize w1.heap.size=xb at *
 refine seqH fun K HK=>?_
 refine seqH fun K HK=>?_
 go_wp2_with (first
  | ((with_reducible refine wpList_ldB 234 _ ?_);refine ⟨rfl,_,⟨_,_,_,_,_,isAgg234,sizeOf234,rfl,‹_›,arr_all rfl⟩,?_⟩)
  | (go_at_call 155;refine (hin _).mono ?_;rintro e w3 ⟨rfl,hb3⟩))
 refine HK.out _ _ ?_
 clear HK
 have P3:=tr_bl hb3 P2
 have R3:=tr_bl hb3 R2
 have X3:=tr_bl hb3 X2
 have hb4:=hb2.trans (hb3.mono hb2.size)
 clear hb2 hb3 P2 R2 X2 hin
 rw [show outV none=.int .i64 (-1) from rfl]
 go_wp2
 refine HK.out _ _ ?_
 clear HK
 refine seqH fun K HK=>?_
 refine seqH fun K HK=>?_
 go_wp2_with (first
  | ((with_reducible refine wpList_ldB 234 _ ?_);refine ⟨rfl,_,⟨_,_,_,_,_,isAgg234,sizeOf234,rfl,‹_›,arr_all rfl⟩,?_⟩)
  | (go_at_call 224;refine (rules_any _).mono ?_;rintro e w5 ⟨g,q1,q2,rfl,G5,a0,a1,b0,b1,hb5⟩))
 refine HK.out _ _ ?_
 clear HK
 have P5:=tr_bl hb5 P3
 have R5:=tr_bl hb5 R3
 have hb6:=hb4.trans (hb5.mono hb4.size)
 clear hb4 hb5 P3 R3 X3
 obtain ⟨i0,i1,i2,i3⟩:=ru_at p f i g q1 q2
 go_wp2
 go_loopw [37,12] (fun i' _ wr=>∃ j:Nat,j≤2∧i'=.int .i64 (j:Nat)∧Below w5.heap.size w5 wr) (fun i' _ _=>4 - (intOf i').toNat)
 case atStart=>exact ⟨0,by omega,rfl,Below.refl _ _⟩
 case' round=>obtain ⟨j,hj,rfl,hbr⟩:=hrel
 rcases (show j=0∨j=1∨j=2 by omega) with rfl | rfl | rfl
 ·skip
  have G6:=tr_bl hbr G5
  have P6:=tr_bl hbr P5
  have R6:=tr_bl hbr R5
  have x0:=(hbr.cell (World.block_lt_of_cell? _ _ a0)).trans a0
  have x1:=(hbr.cell (World.block_lt_of_cell? _ _ a1)).trans a1
  have y0:=(hbr.cell (World.block_lt_of_cell? _ _ b0)).trans b0
  have y1:=(hbr.cell (World.block_lt_of_cell? _ _ b1)).trans b1
  have hbw:=hb6.trans (hbr.mono hb6.size)
  have hbB:=blw wr ((Obj.cells #[r2V g,isV q1] 298))
  have d0:=rl_0 (heap_alloc_new wr ((Obj.cells #[r2V g,isV q1] 298)))
  have d1:=rl_1 (heap_alloc_new wr ((Obj.cells #[r2V g,isV q1] 298)))
  have D:=heap_alloc_new wr ((Obj.cells #[r2V g,isV q1] 298))
  have G7:=tr_bl hbB G6
  have P7:=tr_bl hbB P6
  have R7:=tr_bl hbB R6
  have x2:=(hbB.cell (World.block_lt_of_cell? _ _ x0)).trans x0
  have x3:=(hbB.cell (World.block_lt_of_cell? _ _ x1)).trans x1
  have y2:=(hbB.cell (World.block_lt_of_cell? _ _ y0)).trans y0
  have y3:=(hbB.cell (World.block_lt_of_cell? _ _ y1)).trans y1
  have hb7:=hbw.trans (hbB.mono hbw.size)
  have hbrB:=hbr.trans (hbB.mono hbr.size)
  clear G6 P6 R6 x0 x1 y0 y1 hbw
  skip
  skip
  go_wp2_with (first
   | ((first | (with_reducible refine wpList_stNew 298 _ _ ?_) | (with_reducible refine wp_stNew 298 _ _ ?_));refine ⟨_,_,⟨sizeOf298,rfl,rl_new _ _ rfl rfl⟩,rfl,?_⟩)
   | (go_at_call 231;refine (hr2 _ _ G7).mono ?_;rintro e w8 ⟨rfl,hb8⟩))
  go_roundw
  case rel=>exact ⟨0+1,by omega,by rfl,hbrB.trans (hb8.mono hbrB.size)⟩
  case measure=>simp [intOf]
 ·skip
  have G6:=tr_bl hbr G5
  have P6:=tr_bl hbr P5
  have R6:=tr_bl hbr R5
  have x0:=(hbr.cell (World.block_lt_of_cell? _ _ a0)).trans a0
  have x1:=(hbr.cell (World.block_lt_of_cell? _ _ a1)).trans a1
  have y0:=(hbr.cell (World.block_lt_of_cell? _ _ b0)).trans b0
  have y1:=(hbr.cell (World.block_lt_of_cell? _ _ b1)).trans b1
  have hbw:=hb6.trans (hbr.mono hb6.size)
  have hbB:=blw wr ((Obj.cells #[byV p f i,isV q2] 298))
  have d0:=rl_0 (heap_alloc_new wr ((Obj.cells #[byV p f i,isV q2] 298)))
  have d1:=rl_1 (heap_alloc_new wr ((Obj.cells #[byV p f i,isV q2] 298)))
  have D:=heap_alloc_new wr ((Obj.cells #[byV p f i,isV q2] 298))
  have G7:=tr_bl hbB G6
  have P7:=tr_bl hbB P6
  have R7:=tr_bl hbB R6
  have x2:=(hbB.cell (World.block_lt_of_cell? _ _ x0)).trans x0
  have x3:=(hbB.cell (World.block_lt_of_cell? _ _ x1)).trans x1
  have y2:=(hbB.cell (World.block_lt_of_cell? _ _ y0)).trans y0
  have y3:=(hbB.cell (World.block_lt_of_cell? _ _ y1)).trans y1
  have hb7:=hbw.trans (hbB.mono hbw.size)
  have hbrB:=hbr.trans (hbB.mono hbr.size)
  clear G6 P6 R6 x0 x1 y0 y1 hbw
  skip
  skip
  go_wp2_with (first
   | ((first | (with_reducible refine wpList_stNew 298 _ _ ?_) | (with_reducible refine wp_stNew 298 _ _ ?_));refine ⟨_,_,⟨sizeOf298,rfl,rl_new _ _ rfl rfl⟩,rfl,?_⟩)
   | (go_at_call 200;refine (hby _).mono ?_;rintro e w8 ⟨rfl,hb8⟩))
  go_roundw
  case rel=>exact ⟨1+1,by omega,by rfl,hbrB.trans (hb8.mono hbrB.size)⟩
  case measure=>simp [intOf]
 ·skip
  have G6:=tr_bl hbr G5
  have P6:=tr_bl hbr P5
  have R6:=tr_bl hbr R5
  have x0:=(hbr.cell (World.block_lt_of_cell? _ _ a0)).trans a0
  have x1:=(hbr.cell (World.block_lt_of_cell? _ _ a1)).trans a1
  have y0:=(hbr.cell (World.block_lt_of_cell? _ _ b0)).trans b0
  have y1:=(hbr.cell (World.block_lt_of_cell? _ _ b1)).trans b1
  have hbw:=hb6.trans (hbr.mono hb6.size)
  have hbB:=blw wr ((Obj.cells #[r3V g,r4V g] 298))
  have d0:=rl_0 (heap_alloc_new wr ((Obj.cells #[r3V g,r4V g] 298)))
  have d1:=rl_1 (heap_alloc_new wr ((Obj.cells #[r3V g,r4V g] 298)))
  have D:=heap_alloc_new wr ((Obj.cells #[r3V g,r4V g] 298))
  have G7:=tr_bl hbB G6
  have P7:=tr_bl hbB P6
  have R7:=tr_bl hbB R6
  have x2:=(hbB.cell (World.block_lt_of_cell? _ _ x0)).trans x0
  have x3:=(hbB.cell (World.block_lt_of_cell? _ _ x1)).trans x1
  have y2:=(hbB.cell (World.block_lt_of_cell? _ _ y0)).trans y0
  have y3:=(hbB.cell (World.block_lt_of_cell? _ _ y1)).trans y1
  have hb7:=hbw.trans (hbB.mono hbw.size)
  have hbrB:=hbr.trans (hbB.mono hbr.size)
  clear G6 P6 R6 x0 x1 y0 y1 hbw
  skip
  skip
  go_wp2_with (first
   | ((first | (with_reducible refine wpList_stNew 298 _ _ ?_) | (with_reducible refine wp_stNew 298 _ _ ?_));refine ⟨_,_,⟨sizeOf298,rfl,rl_new _ _ rfl rfl⟩,rfl,?_⟩)
   | (go_at_call 232;refine (hr3 _ _ G7).mono ?_;rintro e w8 ⟨rfl,hb8⟩;have d1:=(hb8.cell (World.block_lt_of_cell? _ _ d1)).trans d1;have x2:=(hb8.cell (World.block_lt_of_cell? _ _ x2)).trans x2;have x3:=(hb8.cell (World.block_lt_of_cell? _ _ x3)).trans x3;have y2:=(hb8.cell (World.block_lt_of_cell? _ _ y2)).trans y2;have y3:=(hb8.cell (World.block_lt_of_cell? _ _ y3)).trans y3;have P8:=tr_bl hb8 P7;have R8:=tr_bl hb8 R7;have G8:=tr_bl hb8 G7))
  have hb8':=hb7.trans (hb8.mono hb7.size)
  refine (hr4 _ _ G8).mono ?_
  rintro e w9 ⟨rfl,hb9⟩
  have P9:=tr_bl hb9 P8
  have R9:=tr_bl hb9 R8
  have hb10:=hb8'.trans (hb9.mono hb8'.size)
  have hbo:=blw w9 (Obj.cells (rpA i 1 zeroL (zeroE 0)) 163)
  have OZ:=heap_alloc_new w9 (Obj.cells (rpA i 1 zeroL (zeroE 0)) 163)
  have PZ:=tr_bl hbo P9
  have RZ:=tr_bl hbo R9
  have hbz:=hb10.trans (hbo.mono hb10.size)
  have hob0:=lt_blk R9
  have hob1:=lt_blk P9
  clear d0 d1 D G7 P7 R7 x2 x3 y2 y3 hb7 hbrB G8 hb8 hb8' P8 R8 hb9 P9 R9 hb10 hbB
  go_wp2_with ((first | (with_reducible refine wpList_stNew 163 _ _ ?_) | (with_reducible refine wp_stNew 163 _ _ ?_));refine ⟨_,_,⟨sizeOf163,rfl,rp_k _ _⟩,rfl,?_⟩)
  have hob:rb≠w9.heap.size:=by omega
  generalize w9.alloc (Obj.cells (rpA i 1 zeroL (zeroE 0)) 163)=wz at *
  generalize w9.heap.size=ob at *
  clear PZ hbo hob0 hob1
  have hbd:=(Below.refl wz.heap.size wz).drew
  have O8:=tr_bl hbd OZ
  have R8:=tr_bl hbd RZ
  have hb13:=hbz.trans (hbd.mono hbz.size)
  clear hbz OZ RZ hbd
  refine wp_region_held_drew (S:=fun w'=>w'.heap[ob]?=some (.cells (rpA i 1 (zeroL) (zeroE 0)) 163 (0,0))) (by kernel_rfl) O8 (fun hS0=>?_)
  generalize wz.drew=x0 at *
  refine tkP 0 rfl ?_
  refine tkT 1 (v:=.agg (rpA i 1 (zeroL) (zeroE 0))) rfl (by intro wS hSw;exact exec_ldB 163 _ ⟨_,_,_,_,_,isAgg163,sizeOf163,rfl,hSw,arr_all rfl⟩) ?_
  refine tkP 2 rfl ?_
  refine rdy1 3 rfl (fun K' hK'=>?_)
  refine wp_stB 163 _ _ ?_
  refine ⟨_,_,_,⟨_,_,_,sizeOf163,rfl,R8,rp_over _ _ _ _ i 1 (zeroL) (zeroE 0)⟩,?_⟩
  intro w13 R13 g13
  refine hK'.out _ _ (tr_st g13 O8 hob) (fun _=>?_)
  clear hK'
  (try simp only [Act.put,qa1,qa2,qa3])
  refine tkP 4 rfl ?_
  refine wpAnyH_done (by kernel_rfl) ?_ _
  go_wp2
  refine bodyPost_ret (results_t1c1t1' rfl rfl (run_loadVar_all isAgg163 sizeOf163 R13 rfl)) rfl ⟨rfl,bls hb13 (Nat.le_refl _) g13 (by omega)⟩
theorem what_badT (hw:p.wh=0∨p.wh=1) (hk:intactS p f i=none) (h1:¬ (p.st=1∧p.idx=i)) (h2:beyondS p f i=false) (h3:¬ p.st≠2) (h4:badS f=true) (w:World):Calls Tryz.prog 209 #[.agg (recA p),.agg (ffA f),.int .i64 i] w fun e w'=>e=.returned (.tuple #[.int .u8 2,.agg (rpA i 4 zeroL (zeroE 0)),.int .i64 (-1)])∧Below w.heap.size w w':=by
 have hin:=fun w=>intact_any2 hw _ hk w
 have hr2:=fun g w h=>r2_any (w:=w) (g:=g) (p:=p) (f:=f) (i:=i) h false (decide_eq_false h1)
 have hby:=fun w=>beyond_any2 (p:=p) (f:=f) (i:=i) _ h2 w
 have hr3:=fun g w h=>r3_any (w:=w) (g:=g) (p:=p) (f:=f) (i:=i) h false (decide_eq_false h3)
 have hr6:=fun g w h=>r6_any (w:=w) (g:=g) (p:=p) (f:=f) (i:=i) h _ h4
 simp only [if_true] at hr6
 clear hk hw h1 h2 h3 h4
 go_enter func209,ntmps209
 refine seqH fun K HK=>?_
 go_wp2
 refine HK.out _ _ ?_
 clear HK
 obtain ⟨hb1,P1,F1,R1⟩:=n3 w (Obj.cells (recA p) 147) (Obj.cells (ffA f) 150) (Obj.cells #[.int .i64 0,.int .u8 0,.int .i64 0,.int .i64 0,.int .u8 0,.int .i64 0,.int .i64 0,.int .u8 0,.string ⟨#[]⟩,.string ⟨#[]⟩,.string ⟨#[]⟩] 163)
 change _=some (Obj.cells (rpA 0 0 zeroL (zeroE 0)) 163 (0,0)) at R1
 have hn1:w.heap.size < w.heap.size+1:=by omega
 have hn2:w.heap.size+1 < w.heap.size+1+1:=by omega
 generalize ((w.alloc (Obj.cells (recA p) 147)).alloc (Obj.cells (ffA f) 150)).alloc (Obj.cells #[.int .i64 0,.int .u8 0,.int .i64 0,.int .i64 0,.int .u8 0,.int .i64 0,.int .i64 0,.int .u8 0,.string ⟨#[]⟩,.string ⟨#[]⟩,.string ⟨#[]⟩] 163)=w1 at *
 generalize w.heap.size+1+1=rb at *
 generalize w.heap.size+1=fb at *
 refine seqH fun K HK=>?_
 go_wp2_with (first
  | ((with_reducible refine wpList_ldB 147 _ ?_);refine ⟨rfl,_,⟨_,_,_,_,_,isAgg147,sizeOf147,rfl,‹_›,arr_all rfl⟩,?_⟩)
  | ((with_reducible refine wpList_ldB 150 _ ?_);refine ⟨rfl,_,⟨_,_,_,_,_,isAgg150,sizeOf150,rfl,‹_›,arr_all rfl⟩,?_⟩)
  | (with_reducible refine wpList_bpr (p:=p) (f:=f) (i:=i) _ _ _ (by simp [Act.eval]) (by simp [Act.eval]) (by simp [Act.eval]) ?_)
  | ((first | (with_reducible refine wpList_stNew 234 _ _ ?_) | (with_reducible refine wp_stNew 234 _ _ ?_));refine ⟨_,_,⟨sizeOf234,rfl,pr_new _ _ _⟩,rfl,?_⟩))
 refine HK.out _ _ ?_
 clear HK
 have hbx:=blw w1 (Obj.cells (prA p f i) 234)
 have X2:=heap_alloc_new w1 (Obj.cells (prA p f i) 234)
 have P2:=tr_bl hbx P1
 have R2:=tr_bl hbx R1
 have hb2:=hb1.trans (hbx.mono hb1.size)
 clear hb1 P1 F1 R1 hbx
 generalize w1.alloc (Obj.cells (prA p f i) 234)=w2 at *
 generalize w1.heap.size=xb at *
 refine seqH fun K HK=>?_
 refine seqH fun K HK=>?_
 go_wp2_with (first
  | ((with_reducible refine wpList_ldB 234 _ ?_);refine ⟨rfl,_,⟨_,_,_,_,_,isAgg234,sizeOf234,rfl,‹_›,arr_all rfl⟩,?_⟩)
  | (go_at_call 155;refine (hin _).mono ?_;rintro e w3 ⟨rfl,hb3⟩))
 refine HK.out _ _ ?_
 clear HK
 have P3:=tr_bl hb3 P2
 have R3:=tr_bl hb3 R2
 have X3:=tr_bl hb3 X2
 have hb4:=hb2.trans (hb3.mono hb2.size)
 clear hb2 hb3 P2 R2 X2 hin
 rw [show outV none=.int .i64 (-1) from rfl]
 go_wp2
 refine HK.out _ _ ?_
 clear HK
 refine seqH fun K HK=>?_
 refine seqH fun K HK=>?_
 go_wp2_with (first
  | ((with_reducible refine wpList_ldB 234 _ ?_);refine ⟨rfl,_,⟨_,_,_,_,_,isAgg234,sizeOf234,rfl,‹_›,arr_all rfl⟩,?_⟩)
  | (go_at_call 224;refine (rules_any _).mono ?_;rintro e w5 ⟨g,q1,q2,rfl,G5,a0,a1,b0,b1,hb5⟩))
 refine HK.out _ _ ?_
 clear HK
 have P5:=tr_bl hb5 P3
 have R5:=tr_bl hb5 R3
 have hb6:=hb4.trans (hb5.mono hb4.size)
 clear hb4 hb5 P3 R3 X3
 obtain ⟨i0,i1,i2,i3⟩:=ru_at p f i g q1 q2
 go_wp2
 go_loopw [37,12] (fun i' _ wr=>∃ j:Nat,j≤3∧i'=.int .i64 (j:Nat)∧Below w5.heap.size w5 wr) (fun i' _ _=>4 - (intOf i').toNat)
 case atStart=>exact ⟨0,by omega,rfl,Below.refl _ _⟩
 case' round=>obtain ⟨j,hj,rfl,hbr⟩:=hrel
 rcases (show j=0∨j=1∨j=2∨j=3 by omega) with rfl | rfl | rfl | rfl
 ·skip
  have G6:=tr_bl hbr G5
  have P6:=tr_bl hbr P5
  have R6:=tr_bl hbr R5
  have x0:=(hbr.cell (World.block_lt_of_cell? _ _ a0)).trans a0
  have x1:=(hbr.cell (World.block_lt_of_cell? _ _ a1)).trans a1
  have y0:=(hbr.cell (World.block_lt_of_cell? _ _ b0)).trans b0
  have y1:=(hbr.cell (World.block_lt_of_cell? _ _ b1)).trans b1
  have hbw:=hb6.trans (hbr.mono hb6.size)
  have hbB:=blw wr ((Obj.cells #[r2V g,isV q1] 298))
  have d0:=rl_0 (heap_alloc_new wr ((Obj.cells #[r2V g,isV q1] 298)))
  have d1:=rl_1 (heap_alloc_new wr ((Obj.cells #[r2V g,isV q1] 298)))
  have D:=heap_alloc_new wr ((Obj.cells #[r2V g,isV q1] 298))
  have G7:=tr_bl hbB G6
  have P7:=tr_bl hbB P6
  have R7:=tr_bl hbB R6
  have x2:=(hbB.cell (World.block_lt_of_cell? _ _ x0)).trans x0
  have x3:=(hbB.cell (World.block_lt_of_cell? _ _ x1)).trans x1
  have y2:=(hbB.cell (World.block_lt_of_cell? _ _ y0)).trans y0
  have y3:=(hbB.cell (World.block_lt_of_cell? _ _ y1)).trans y1
  have hb7:=hbw.trans (hbB.mono hbw.size)
  have hbrB:=hbr.trans (hbB.mono hbr.size)
  clear G6 P6 R6 x0 x1 y0 y1 hbw
  skip
  skip
  go_wp2_with (first
   | ((first | (with_reducible refine wpList_stNew 298 _ _ ?_) | (with_reducible refine wp_stNew 298 _ _ ?_));refine ⟨_,_,⟨sizeOf298,rfl,rl_new _ _ rfl rfl⟩,rfl,?_⟩)
   | (go_at_call 231;refine (hr2 _ _ G7).mono ?_;rintro e w8 ⟨rfl,hb8⟩))
  go_roundw
  case rel=>exact ⟨0+1,by omega,by rfl,hbrB.trans (hb8.mono hbrB.size)⟩
  case measure=>simp [intOf]
 ·skip
  have G6:=tr_bl hbr G5
  have P6:=tr_bl hbr P5
  have R6:=tr_bl hbr R5
  have x0:=(hbr.cell (World.block_lt_of_cell? _ _ a0)).trans a0
  have x1:=(hbr.cell (World.block_lt_of_cell? _ _ a1)).trans a1
  have y0:=(hbr.cell (World.block_lt_of_cell? _ _ b0)).trans b0
  have y1:=(hbr.cell (World.block_lt_of_cell? _ _ b1)).trans b1
  have hbw:=hb6.trans (hbr.mono hb6.size)
  have hbB:=blw wr ((Obj.cells #[byV p f i,isV q2] 298))
  have d0:=rl_0 (heap_alloc_new wr ((Obj.cells #[byV p f i,isV q2] 298)))
  have d1:=rl_1 (heap_alloc_new wr ((Obj.cells #[byV p f i,isV q2] 298)))
  have D:=heap_alloc_new wr ((Obj.cells #[byV p f i,isV q2] 298))
  have G7:=tr_bl hbB G6
  have P7:=tr_bl hbB P6
  have R7:=tr_bl hbB R6
  have x2:=(hbB.cell (World.block_lt_of_cell? _ _ x0)).trans x0
  have x3:=(hbB.cell (World.block_lt_of_cell? _ _ x1)).trans x1
  have y2:=(hbB.cell (World.block_lt_of_cell? _ _ y0)).trans y0
  have y3:=(hbB.cell (World.block_lt_of_cell? _ _ y1)).trans y1
  have hb7:=hbw.trans (hbB.mono hbw.size)
  have hbrB:=hbr.trans (hbB.mono hbr.size)
  clear G6 P6 R6 x0 x1 y0 y1 hbw
  skip
  skip
  go_wp2_with (first
   | ((first | (with_reducible refine wpList_stNew 298 _ _ ?_) | (with_reducible refine wp_stNew 298 _ _ ?_));refine ⟨_,_,⟨sizeOf298,rfl,rl_new _ _ rfl rfl⟩,rfl,?_⟩)
   | (go_at_call 200;refine (hby _).mono ?_;rintro e w8 ⟨rfl,hb8⟩))
  go_roundw
  case rel=>exact ⟨1+1,by omega,by rfl,hbrB.trans (hb8.mono hbrB.size)⟩
  case measure=>simp [intOf]
 ·skip
  have G6:=tr_bl hbr G5
  have P6:=tr_bl hbr P5
  have R6:=tr_bl hbr R5
  have x0:=(hbr.cell (World.block_lt_of_cell? _ _ a0)).trans a0
  have x1:=(hbr.cell (World.block_lt_of_cell? _ _ a1)).trans a1
  have y0:=(hbr.cell (World.block_lt_of_cell? _ _ b0)).trans b0
  have y1:=(hbr.cell (World.block_lt_of_cell? _ _ b1)).trans b1
  have hbw:=hb6.trans (hbr.mono hb6.size)
  have hbB:=blw wr ((Obj.cells #[r3V g,r4V g] 298))
  have d0:=rl_0 (heap_alloc_new wr ((Obj.cells #[r3V g,r4V g] 298)))
  have d1:=rl_1 (heap_alloc_new wr ((Obj.cells #[r3V g,r4V g] 298)))
  have D:=heap_alloc_new wr ((Obj.cells #[r3V g,r4V g] 298))
  have G7:=tr_bl hbB G6
  have P7:=tr_bl hbB P6
  have R7:=tr_bl hbB R6
  have x2:=(hbB.cell (World.block_lt_of_cell? _ _ x0)).trans x0
  have x3:=(hbB.cell (World.block_lt_of_cell? _ _ x1)).trans x1
  have y2:=(hbB.cell (World.block_lt_of_cell? _ _ y0)).trans y0
  have y3:=(hbB.cell (World.block_lt_of_cell? _ _ y1)).trans y1
  have hb7:=hbw.trans (hbB.mono hbw.size)
  have hbrB:=hbr.trans (hbB.mono hbr.size)
  clear G6 P6 R6 x0 x1 y0 y1 hbw
  skip
  skip
  go_wp2_with (first
   | ((first | (with_reducible refine wpList_stNew 298 _ _ ?_) | (with_reducible refine wp_stNew 298 _ _ ?_));refine ⟨_,_,⟨sizeOf298,rfl,rl_new _ _ rfl rfl⟩,rfl,?_⟩)
   | (go_at_call 232;refine (hr3 _ _ G7).mono ?_;rintro e w8 ⟨rfl,hb8⟩))
  go_roundw
  case rel=>exact ⟨2+1,by omega,by rfl,hbrB.trans (hb8.mono hbrB.size)⟩
  case measure=>simp [intOf]
 ·skip
  have G6:=tr_bl hbr G5
  have P6:=tr_bl hbr P5
  have R6:=tr_bl hbr R5
  have x0:=(hbr.cell (World.block_lt_of_cell? _ _ a0)).trans a0
  have x1:=(hbr.cell (World.block_lt_of_cell? _ _ a1)).trans a1
  have y0:=(hbr.cell (World.block_lt_of_cell? _ _ b0)).trans b0
  have y1:=(hbr.cell (World.block_lt_of_cell? _ _ b1)).trans b1
  have hbw:=hb6.trans (hbr.mono hb6.size)
  have hbB:=blw wr ((Obj.cells #[r5V,r6V g] 298))
  have d0:=rl_0 (heap_alloc_new wr ((Obj.cells #[r5V,r6V g] 298)))
  have d1:=rl_1 (heap_alloc_new wr ((Obj.cells #[r5V,r6V g] 298)))
  have D:=heap_alloc_new wr ((Obj.cells #[r5V,r6V g] 298))
  have G7:=tr_bl hbB G6
  have P7:=tr_bl hbB P6
  have R7:=tr_bl hbB R6
  have x2:=(hbB.cell (World.block_lt_of_cell? _ _ x0)).trans x0
  have x3:=(hbB.cell (World.block_lt_of_cell? _ _ x1)).trans x1
  have y2:=(hbB.cell (World.block_lt_of_cell? _ _ y0)).trans y0
  have y3:=(hbB.cell (World.block_lt_of_cell? _ _ y1)).trans y1
  have hb7:=hbw.trans (hbB.mono hbw.size)
  have hbrB:=hbr.trans (hbB.mono hbr.size)
  clear G6 P6 R6 x0 x1 y0 y1 hbw
  skip
  skip
  go_wp2_with (first
   | ((first | (with_reducible refine wpList_stNew 298 _ _ ?_) | (with_reducible refine wp_stNew 298 _ _ ?_));refine ⟨_,_,⟨sizeOf298,rfl,rl_new _ _ rfl rfl⟩,rfl,?_⟩)
   | (go_at_call 234;refine (r5_any _).mono ?_;rintro e w8 ⟨rfl,hb8⟩;have d1:=(hb8.cell (World.block_lt_of_cell? _ _ d1)).trans d1;have x2:=(hb8.cell (World.block_lt_of_cell? _ _ x2)).trans x2;have x3:=(hb8.cell (World.block_lt_of_cell? _ _ x3)).trans x3;have y2:=(hb8.cell (World.block_lt_of_cell? _ _ y2)).trans y2;have y3:=(hb8.cell (World.block_lt_of_cell? _ _ y3)).trans y3;have P8:=tr_bl hb8 P7;have R8:=tr_bl hb8 R7;have G8:=tr_bl hb8 G7))
  have hb8':=hb7.trans (hb8.mono hb7.size)
  refine (hr6 _ _ G8).mono ?_
  rintro e w9 ⟨rfl,hb9⟩
  have P9:=tr_bl hb9 P8
  have R9:=tr_bl hb9 R8
  have hb10:=hb8'.trans (hb9.mono hb8'.size)
  have hbo:=blw w9 (Obj.cells (rpA i 4 zeroL (zeroE 0)) 163)
  have OZ:=heap_alloc_new w9 (Obj.cells (rpA i 4 zeroL (zeroE 0)) 163)
  have PZ:=tr_bl hbo P9
  have RZ:=tr_bl hbo R9
  have hbz:=hb10.trans (hbo.mono hb10.size)
  have hob0:=lt_blk R9
  have hob1:=lt_blk P9
  clear d0 d1 D G7 P7 R7 x2 x3 y2 y3 hb7 hbrB G8 hb8 hb8' P8 R8 hb9 P9 R9 hb10 hbB
  go_wp2_with ((first | (with_reducible refine wpList_stNew 163 _ _ ?_) | (with_reducible refine wp_stNew 163 _ _ ?_));refine ⟨_,_,⟨sizeOf163,rfl,rp_k _ _⟩,rfl,?_⟩)
  have hob:rb≠w9.heap.size:=by omega
  generalize w9.alloc (Obj.cells (rpA i 4 zeroL (zeroE 0)) 163)=wz at *
  generalize w9.heap.size=ob at *
  clear PZ hbo hob0 hob1
  have hbd:=(Below.refl wz.heap.size wz).drew
  have O8:=tr_bl hbd OZ
  have R8:=tr_bl hbd RZ
  have hb13:=hbz.trans (hbd.mono hbz.size)
  clear hbz OZ RZ hbd
  refine wp_region_held_drew (S:=fun w'=>w'.heap[ob]?=some (.cells (rpA i 4 (zeroL) (zeroE 0)) 163 (0,0))) (by kernel_rfl) O8 (fun hS0=>?_)
  generalize wz.drew=x0 at *
  refine tkP 0 rfl ?_
  refine tkT 1 (v:=.agg (rpA i 4 (zeroL) (zeroE 0))) rfl (by intro wS hSw;exact exec_ldB 163 _ ⟨_,_,_,_,_,isAgg163,sizeOf163,rfl,hSw,arr_all rfl⟩) ?_
  refine tkP 2 rfl ?_
  refine rdy1 3 rfl (fun K' hK'=>?_)
  refine wp_stB 163 _ _ ?_
  refine ⟨_,_,_,⟨_,_,_,sizeOf163,rfl,R8,rp_over _ _ _ _ i 4 (zeroL) (zeroE 0)⟩,?_⟩
  intro w13 R13 g13
  refine hK'.out _ _ (tr_st g13 O8 hob) (fun _=>?_)
  clear hK'
  (try simp only [Act.put,qa1,qa2,qa3])
  refine tkP 4 rfl ?_
  refine wpAnyH_done (by kernel_rfl) ?_ _
  go_wp2
  refine bodyPost_ret (results_t1c1t1' rfl rfl (run_loadVar_all isAgg163 sizeOf163 R13 rfl)) rfl ⟨rfl,bls hb13 (Nat.le_refl _) g13 (by omega)⟩
theorem what_badF (hw:p.wh=0∨p.wh=1) (hk:intactS p f i=none) (h1:¬ (p.st=1∧p.idx=i)) (h2:beyondS p f i=false) (h3:¬ p.st≠2) (h4:badS f=false) (w:World):Calls Tryz.prog 209 #[.agg (recA p),.agg (ffA f),.int .i64 i] w fun e w'=>e=.returned (.tuple #[.int .u8 0,.agg (rpA i 1 zeroL (zeroE 0)),.int .i64 (-1)])∧Below w.heap.size w w':=by
 have hin:=fun w=>intact_any2 hw _ hk w
 have hr2:=fun g w h=>r2_any (w:=w) (g:=g) (p:=p) (f:=f) (i:=i) h false (decide_eq_false h1)
 have hby:=fun w=>beyond_any2 (p:=p) (f:=f) (i:=i) _ h2 w
 have hr3:=fun g w h=>r3_any (w:=w) (g:=g) (p:=p) (f:=f) (i:=i) h false (decide_eq_false h3)
 have hr6:=fun g w h=>r6_any (w:=w) (g:=g) (p:=p) (f:=f) (i:=i) h _ h4
 simp only [Bool.false_eq_true,if_false] at hr6
 clear hk hw h1 h2 h3 h4
 go_enter func209,ntmps209
 refine seqH fun K HK=>?_
 go_wp2
 refine HK.out _ _ ?_
 clear HK
 obtain ⟨hb1,P1,F1,R1⟩:=n3 w (Obj.cells (recA p) 147) (Obj.cells (ffA f) 150) (Obj.cells #[.int .i64 0,.int .u8 0,.int .i64 0,.int .i64 0,.int .u8 0,.int .i64 0,.int .i64 0,.int .u8 0,.string ⟨#[]⟩,.string ⟨#[]⟩,.string ⟨#[]⟩] 163)
 change _=some (Obj.cells (rpA 0 0 zeroL (zeroE 0)) 163 (0,0)) at R1
 have hn1:w.heap.size < w.heap.size+1:=by omega
 have hn2:w.heap.size+1 < w.heap.size+1+1:=by omega
 generalize ((w.alloc (Obj.cells (recA p) 147)).alloc (Obj.cells (ffA f) 150)).alloc (Obj.cells #[.int .i64 0,.int .u8 0,.int .i64 0,.int .i64 0,.int .u8 0,.int .i64 0,.int .i64 0,.int .u8 0,.string ⟨#[]⟩,.string ⟨#[]⟩,.string ⟨#[]⟩] 163)=w1 at *
 generalize w.heap.size+1+1=rb at *
 generalize w.heap.size+1=fb at *
 refine seqH fun K HK=>?_
 go_wp2_with (first
  | ((with_reducible refine wpList_ldB 147 _ ?_);refine ⟨rfl,_,⟨_,_,_,_,_,isAgg147,sizeOf147,rfl,‹_›,arr_all rfl⟩,?_⟩)
  | ((with_reducible refine wpList_ldB 150 _ ?_);refine ⟨rfl,_,⟨_,_,_,_,_,isAgg150,sizeOf150,rfl,‹_›,arr_all rfl⟩,?_⟩)
  | (with_reducible refine wpList_bpr (p:=p) (f:=f) (i:=i) _ _ _ (by simp [Act.eval]) (by simp [Act.eval]) (by simp [Act.eval]) ?_)
  | ((first | (with_reducible refine wpList_stNew 234 _ _ ?_) | (with_reducible refine wp_stNew 234 _ _ ?_));refine ⟨_,_,⟨sizeOf234,rfl,pr_new _ _ _⟩,rfl,?_⟩))
 refine HK.out _ _ ?_
 clear HK
 have hbx:=blw w1 (Obj.cells (prA p f i) 234)
 have X2:=heap_alloc_new w1 (Obj.cells (prA p f i) 234)
 have P2:=tr_bl hbx P1
 have R2:=tr_bl hbx R1
 have hb2:=hb1.trans (hbx.mono hb1.size)
 clear hb1 P1 F1 R1 hbx
 generalize w1.alloc (Obj.cells (prA p f i) 234)=w2 at *
 generalize w1.heap.size=xb at *
 refine seqH fun K HK=>?_
 refine seqH fun K HK=>?_
 go_wp2_with (first
  | ((with_reducible refine wpList_ldB 234 _ ?_);refine ⟨rfl,_,⟨_,_,_,_,_,isAgg234,sizeOf234,rfl,‹_›,arr_all rfl⟩,?_⟩)
  | (go_at_call 155;refine (hin _).mono ?_;rintro e w3 ⟨rfl,hb3⟩))
 refine HK.out _ _ ?_
 clear HK
 have P3:=tr_bl hb3 P2
 have R3:=tr_bl hb3 R2
 have X3:=tr_bl hb3 X2
 have hb4:=hb2.trans (hb3.mono hb2.size)
 clear hb2 hb3 P2 R2 X2 hin
 rw [show outV none=.int .i64 (-1) from rfl]
 go_wp2
 refine HK.out _ _ ?_
 clear HK
 refine seqH fun K HK=>?_
 refine seqH fun K HK=>?_
 go_wp2_with (first
  | ((with_reducible refine wpList_ldB 234 _ ?_);refine ⟨rfl,_,⟨_,_,_,_,_,isAgg234,sizeOf234,rfl,‹_›,arr_all rfl⟩,?_⟩)
  | (go_at_call 224;refine (rules_any _).mono ?_;rintro e w5 ⟨g,q1,q2,rfl,G5,a0,a1,b0,b1,hb5⟩))
 refine HK.out _ _ ?_
 clear HK
 have P5:=tr_bl hb5 P3
 have R5:=tr_bl hb5 R3
 have hb6:=hb4.trans (hb5.mono hb4.size)
 clear hb4 hb5 P3 R3 X3
 obtain ⟨i0,i1,i2,i3⟩:=ru_at p f i g q1 q2
 go_wp2
 go_loopw [37,12] (fun i' _ wr=>∃ j:Nat,j≤3∧i'=.int .i64 (j:Nat)∧Below w5.heap.size w5 wr) (fun i' _ _=>4 - (intOf i').toNat)
 case atStart=>exact ⟨0,by omega,rfl,Below.refl _ _⟩
 case' round=>obtain ⟨j,hj,rfl,hbr⟩:=hrel
 rcases (show j=0∨j=1∨j=2∨j=3 by omega) with rfl | rfl | rfl | rfl
 ·skip
  have G6:=tr_bl hbr G5
  have P6:=tr_bl hbr P5
  have R6:=tr_bl hbr R5
  have x0:=(hbr.cell (World.block_lt_of_cell? _ _ a0)).trans a0
  have x1:=(hbr.cell (World.block_lt_of_cell? _ _ a1)).trans a1
  have y0:=(hbr.cell (World.block_lt_of_cell? _ _ b0)).trans b0
  have y1:=(hbr.cell (World.block_lt_of_cell? _ _ b1)).trans b1
  have hbw:=hb6.trans (hbr.mono hb6.size)
  have hbB:=blw wr ((Obj.cells #[r2V g,isV q1] 298))
  have d0:=rl_0 (heap_alloc_new wr ((Obj.cells #[r2V g,isV q1] 298)))
  have d1:=rl_1 (heap_alloc_new wr ((Obj.cells #[r2V g,isV q1] 298)))
  have D:=heap_alloc_new wr ((Obj.cells #[r2V g,isV q1] 298))
  have G7:=tr_bl hbB G6
  have P7:=tr_bl hbB P6
  have R7:=tr_bl hbB R6
  have x2:=(hbB.cell (World.block_lt_of_cell? _ _ x0)).trans x0
  have x3:=(hbB.cell (World.block_lt_of_cell? _ _ x1)).trans x1
  have y2:=(hbB.cell (World.block_lt_of_cell? _ _ y0)).trans y0
  have y3:=(hbB.cell (World.block_lt_of_cell? _ _ y1)).trans y1
  have hb7:=hbw.trans (hbB.mono hbw.size)
  have hbrB:=hbr.trans (hbB.mono hbr.size)
  clear G6 P6 R6 x0 x1 y0 y1 hbw
  skip
  skip
  go_wp2_with (first
   | ((first | (with_reducible refine wpList_stNew 298 _ _ ?_) | (with_reducible refine wp_stNew 298 _ _ ?_));refine ⟨_,_,⟨sizeOf298,rfl,rl_new _ _ rfl rfl⟩,rfl,?_⟩)
   | (go_at_call 231;refine (hr2 _ _ G7).mono ?_;rintro e w8 ⟨rfl,hb8⟩))
  go_roundw
  case rel=>exact ⟨0+1,by omega,by rfl,hbrB.trans (hb8.mono hbrB.size)⟩
  case measure=>simp [intOf]
 ·skip
  have G6:=tr_bl hbr G5
  have P6:=tr_bl hbr P5
  have R6:=tr_bl hbr R5
  have x0:=(hbr.cell (World.block_lt_of_cell? _ _ a0)).trans a0
  have x1:=(hbr.cell (World.block_lt_of_cell? _ _ a1)).trans a1
  have y0:=(hbr.cell (World.block_lt_of_cell? _ _ b0)).trans b0
  have y1:=(hbr.cell (World.block_lt_of_cell? _ _ b1)).trans b1
  have hbw:=hb6.trans (hbr.mono hb6.size)
  have hbB:=blw wr ((Obj.cells #[byV p f i,isV q2] 298))
  have d0:=rl_0 (heap_alloc_new wr ((Obj.cells #[byV p f i,isV q2] 298)))
  have d1:=rl_1 (heap_alloc_new wr ((Obj.cells #[byV p f i,isV q2] 298)))
  have D:=heap_alloc_new wr ((Obj.cells #[byV p f i,isV q2] 298))
  have G7:=tr_bl hbB G6
  have P7:=tr_bl hbB P6
  have R7:=tr_bl hbB R6
  have x2:=(hbB.cell (World.block_lt_of_cell? _ _ x0)).trans x0
  have x3:=(hbB.cell (World.block_lt_of_cell? _ _ x1)).trans x1
  have y2:=(hbB.cell (World.block_lt_of_cell? _ _ y0)).trans y0
  have y3:=(hbB.cell (World.block_lt_of_cell? _ _ y1)).trans y1
  have hb7:=hbw.trans (hbB.mono hbw.size)
  have hbrB:=hbr.trans (hbB.mono hbr.size)
  clear G6 P6 R6 x0 x1 y0 y1 hbw
  skip
  skip
  go_wp2_with (first
   | ((first | (with_reducible refine wpList_stNew 298 _ _ ?_) | (with_reducible refine wp_stNew 298 _ _ ?_));refine ⟨_,_,⟨sizeOf298,rfl,rl_new _ _ rfl rfl⟩,rfl,?_⟩)
   | (go_at_call 200;refine (hby _).mono ?_;rintro e w8 ⟨rfl,hb8⟩))
  go_roundw
  case rel=>exact ⟨1+1,by omega,by rfl,hbrB.trans (hb8.mono hbrB.size)⟩
  case measure=>simp [intOf]
 ·skip
  have G6:=tr_bl hbr G5
  have P6:=tr_bl hbr P5
  have R6:=tr_bl hbr R5
  have x0:=(hbr.cell (World.block_lt_of_cell? _ _ a0)).trans a0
  have x1:=(hbr.cell (World.block_lt_of_cell? _ _ a1)).trans a1
  have y0:=(hbr.cell (World.block_lt_of_cell? _ _ b0)).trans b0
  have y1:=(hbr.cell (World.block_lt_of_cell? _ _ b1)).trans b1
  have hbw:=hb6.trans (hbr.mono hb6.size)
  have hbB:=blw wr ((Obj.cells #[r3V g,r4V g] 298))
  have d0:=rl_0 (heap_alloc_new wr ((Obj.cells #[r3V g,r4V g] 298)))
  have d1:=rl_1 (heap_alloc_new wr ((Obj.cells #[r3V g,r4V g] 298)))
  have D:=heap_alloc_new wr ((Obj.cells #[r3V g,r4V g] 298))
  have G7:=tr_bl hbB G6
  have P7:=tr_bl hbB P6
  have R7:=tr_bl hbB R6
  have x2:=(hbB.cell (World.block_lt_of_cell? _ _ x0)).trans x0
  have x3:=(hbB.cell (World.block_lt_of_cell? _ _ x1)).trans x1
  have y2:=(hbB.cell (World.block_lt_of_cell? _ _ y0)).trans y0
  have y3:=(hbB.cell (World.block_lt_of_cell? _ _ y1)).trans y1
  have hb7:=hbw.trans (hbB.mono hbw.size)
  have hbrB:=hbr.trans (hbB.mono hbr.size)
  clear G6 P6 R6 x0 x1 y0 y1 hbw
  skip
  skip
  go_wp2_with (first
   | ((first | (with_reducible refine wpList_stNew 298 _ _ ?_) | (with_reducible refine wp_stNew 298 _ _ ?_));refine ⟨_,_,⟨sizeOf298,rfl,rl_new _ _ rfl rfl⟩,rfl,?_⟩)
   | (go_at_call 232;refine (hr3 _ _ G7).mono ?_;rintro e w8 ⟨rfl,hb8⟩))
  go_roundw
  case rel=>exact ⟨2+1,by omega,by rfl,hbrB.trans (hb8.mono hbrB.size)⟩
  case measure=>simp [intOf]
 ·skip
  have G6:=tr_bl hbr G5
  have P6:=tr_bl hbr P5
  have R6:=tr_bl hbr R5
  have x0:=(hbr.cell (World.block_lt_of_cell? _ _ a0)).trans a0
  have x1:=(hbr.cell (World.block_lt_of_cell? _ _ a1)).trans a1
  have y0:=(hbr.cell (World.block_lt_of_cell? _ _ b0)).trans b0
  have y1:=(hbr.cell (World.block_lt_of_cell? _ _ b1)).trans b1
  have hbw:=hb6.trans (hbr.mono hb6.size)
  have hbB:=blw wr ((Obj.cells #[r5V,r6V g] 298))
  have d0:=rl_0 (heap_alloc_new wr ((Obj.cells #[r5V,r6V g] 298)))
  have d1:=rl_1 (heap_alloc_new wr ((Obj.cells #[r5V,r6V g] 298)))
  have D:=heap_alloc_new wr ((Obj.cells #[r5V,r6V g] 298))
  have G7:=tr_bl hbB G6
  have P7:=tr_bl hbB P6
  have R7:=tr_bl hbB R6
  have x2:=(hbB.cell (World.block_lt_of_cell? _ _ x0)).trans x0
  have x3:=(hbB.cell (World.block_lt_of_cell? _ _ x1)).trans x1
  have y2:=(hbB.cell (World.block_lt_of_cell? _ _ y0)).trans y0
  have y3:=(hbB.cell (World.block_lt_of_cell? _ _ y1)).trans y1
  have hb7:=hbw.trans (hbB.mono hbw.size)
  have hbrB:=hbr.trans (hbB.mono hbr.size)
  clear G6 P6 R6 x0 x1 y0 y1 hbw
  skip
  skip
  go_wp2_with (first
   | ((first | (with_reducible refine wpList_stNew 298 _ _ ?_) | (with_reducible refine wp_stNew 298 _ _ ?_));refine ⟨_,_,⟨sizeOf298,rfl,rl_new _ _ rfl rfl⟩,rfl,?_⟩)
   | (go_at_call 234;refine (r5_any _).mono ?_;rintro e w8 ⟨rfl,hb8⟩;have d1:=(hb8.cell (World.block_lt_of_cell? _ _ d1)).trans d1;have x2:=(hb8.cell (World.block_lt_of_cell? _ _ x2)).trans x2;have x3:=(hb8.cell (World.block_lt_of_cell? _ _ x3)).trans x3;have y2:=(hb8.cell (World.block_lt_of_cell? _ _ y2)).trans y2;have y3:=(hb8.cell (World.block_lt_of_cell? _ _ y3)).trans y3;have P8:=tr_bl hb8 P7;have R8:=tr_bl hb8 R7;have G8:=tr_bl hb8 G7))
  have hb8':=hb7.trans (hb8.mono hb7.size)
  refine (hr6 _ _ G8).mono ?_
  rintro e w9 ⟨rfl,hb9⟩
  have P9:=tr_bl hb9 P8
  have R9:=tr_bl hb9 R8
  have hb10:=hb8'.trans (hb9.mono hb8'.size)
  have hbo:=blw w9 (Obj.cells (rpA i 1 zeroL (zeroE 0)) 163)
  have OZ:=heap_alloc_new w9 (Obj.cells (rpA i 1 zeroL (zeroE 0)) 163)
  have PZ:=tr_bl hbo P9
  have RZ:=tr_bl hbo R9
  have hbz:=hb10.trans (hbo.mono hb10.size)
  have hob0:=lt_blk R9
  have hob1:=lt_blk P9
  clear d0 d1 D G7 P7 R7 x2 x3 y2 y3 hb7 hbrB G8 hb8 hb8' P8 R8 hb9 P9 R9 hb10 hbB
  go_wp2_with ((first | (with_reducible refine wpList_stNew 163 _ _ ?_) | (with_reducible refine wp_stNew 163 _ _ ?_));refine ⟨_,_,⟨sizeOf163,rfl,rp_k _ _⟩,rfl,?_⟩)
  have hob:rb≠w9.heap.size:=by omega
  generalize w9.alloc (Obj.cells (rpA i 1 zeroL (zeroE 0)) 163)=wz at *
  generalize w9.heap.size=ob at *
  clear PZ hbo hob0 hob1
  have hbd:=(Below.refl wz.heap.size wz).drew
  have O8:=tr_bl hbd OZ
  have R8:=tr_bl hbd RZ
  have hb13:=hbz.trans (hbd.mono hbz.size)
  clear hbz OZ RZ hbd
  refine wp_region_held_drew (S:=fun w'=>w'.heap[ob]?=some (.cells (rpA i 1 (zeroL) (zeroE 0)) 163 (0,0))) (by kernel_rfl) O8 (fun hS0=>?_)
  generalize wz.drew=x0 at *
  refine tkP 0 rfl ?_
  refine tkT 1 (v:=.agg (rpA i 1 (zeroL) (zeroE 0))) rfl (by intro wS hSw;exact exec_ldB 163 _ ⟨_,_,_,_,_,isAgg163,sizeOf163,rfl,hSw,arr_all rfl⟩) ?_
  refine tkP 2 rfl ?_
  refine rdy1 3 rfl (fun K' hK'=>?_)
  refine wp_stB 163 _ _ ?_
  refine ⟨_,_,_,⟨_,_,_,sizeOf163,rfl,R8,rp_over _ _ _ _ i 1 (zeroL) (zeroE 0)⟩,?_⟩
  intro w13 R13 g13
  refine hK'.out _ _ (tr_st g13 O8 hob) (fun _=>?_)
  clear hK'
  (try simp only [Act.put,qa1,qa2,qa3])
  refine tkP 4 rfl ?_
  refine wpAnyH_done (by kernel_rfl) ?_ _
  go_wp2
  refine bodyPost_ret (results_t1c1t1' rfl rfl (run_loadVar_all isAgg163 sizeOf163 R13 rfl)) rfl ⟨rfl,bls hb13 (Nat.le_refl _) g13 (by omega)⟩
end
end
section
def whatS (p:SRec) (f:Nat→SCp) (i:Int):Int×Int×Bal×En:=
 match intactS p f i with
 | some k=>(3,2,(f k).bal,(f k).e)
 | none=>if p.st=1∧p.idx=i then (2,3,p.bal,zeroE 0) else if beyondS p f i=true then (2,4,zeroL,zeroE 0) else if p.st≠2 then (if badS f=true then (1,1,zeroL,zeroE 0) else (0,1,zeroL,zeroE 0)) else (if badS f=true then (2,4,zeroL,zeroE 0) else (0,1,zeroL,zeroE 0))
theorem what_all {p:SRec} {f:Nat→SCp} {i:Int} (hw:p.wh=0∨p.wh=1) (w:World):Calls Tryz.prog 209 #[.agg (recA p),.agg (ffA f),.int .i64 i] w fun e w'=>(∃ kk:Int,e=.returned (.tuple #[.int .u8 (whatS p f i).1,.agg (rpA i (whatS p f i).2.1 (whatS p f i).2.2.1 (whatS p f i).2.2.2),.int .i64 kk]))∧Below w.heap.size w w':=by
 unfold whatS
 cases hk:intactS p f i with
 | some k=>exact (what_some hw k hk w).mono fun _ _ h=>⟨⟨_,h.1⟩,h.2⟩
 | none=>
  simp only
  by_cases h1:p.st=1∧p.idx=i
  ·rw [if_pos h1]
   exact (what_lost hw hk h1 w).mono fun _ _ h=>⟨⟨_,h.1⟩,h.2⟩
  ·rw [if_neg h1]
   by_cases h2:beyondS p f i=true
   ·rw [if_pos h2]
    exact (what_blind hw hk h1 h2 w).mono fun _ _ h=>⟨⟨_,h.1⟩,h.2⟩
   ·have h2f:beyondS p f i=false:=by simpa using h2
    rw [if_neg h2]
    by_cases h3:p.st≠2
    ·rw [if_pos h3]
     by_cases h4:badS f=true
     ·rw [if_pos h4]
      exact (what_farT hw hk h1 h2f h3 h4 w).mono fun _ _ h=>⟨⟨_,h.1⟩,h.2⟩
     ·rw [if_neg h4]
      exact (what_farF hw hk h1 h2f h3 (by simpa using h4) w).mono fun _ _ h=>⟨⟨_,h.1⟩,h.2⟩
    ·rw [if_neg h3]
     by_cases h4:badS f=true
     ·rw [if_pos h4]
      exact (what_badT hw hk h1 h2f h3 h4 w).mono fun _ _ h=>⟨⟨_,h.1⟩,h.2⟩
     ·rw [if_neg h4]
      exact (what_badF hw hk h1 h2f h3 (by simpa using h4) w).mono fun _ _ h=>⟨⟨_,h.1⟩,h.2⟩
end
section
theorem results_t1c1t1 {P:Program} {fn:Func} {p t q r:Nat} {tmps:Array Value} {w:World} {A:Addr} {v:Value} (hf:fn.results=#[.tmp q,.cell p t,.tmp r]) (hp:tmps.getD p undef=.pointer (some A)) (hl:(loadVar t A).run P w=.ok v w):(results fn tmps).run P w=.ok (.tuple #[tmps.getD q undef,v,tmps.getD r undef]) w:=by
 have hp':tmps[p]?.getD undef=.pointer (some A):=by simpa using hp
 simp [results,hf,hp',asAddr,hl]
def FrRes (base:Nat) (r:Nat×Tg×List UInt8) (e:Ending) (w':World):Prop:=∃ a c,e=.returned (.tuple #[.int .u8 (r.1:Int),tgV r.2.1,.slice a r.2.2.length c])∧OwnB w' base a c r.2.2
theorem FrRes.none {base st:Nat} {e:Ending} {w':World} (h:e=.returned (.tuple #[.int .u8 (st:Int),tgV zeroTg,.slice .none 0 0])):FrRes base (st,zeroTg,[]) e w':=⟨.none,0,h,OwnB.none _ _⟩
theorem openF_size {l:List UInt8} (h:roomN l.length=0):openF l=(2,zeroTg,[]):=by unfold openF;rw [if_pos h]
theorem open_odd (a:Option Addr) (cap:Nat) (l:List UInt8) (w:World) (hl:l.length≤1000) (hr:roomN l.length=0):Calls Tryz.prog 211 #[.slice a l.length cap] w fun e w'=>FrRes w.heap.size (openF l) e w'∧Below w.heap.size w w':=by
 rw [openF_size hr]
 have hbB:=blw w (Obj.cells #[.int .i64 0,.int .i64 0,.int .i64 0,.int .i64 0,.int .i64 0] 39)
 have B3:=heap_alloc_new w (Obj.cells #[.int .i64 0,.int .i64 0,.int .i64 0,.int .i64 0,.int .i64 0] 39)
 by_cases hm:l.length % 64=0
 ·obtain ⟨k,hk⟩:∃ k,l.length=64 * k:=⟨l.length / 64,by omega⟩
  rw [hk] at hr
  have hroom:∀ w,Calls Tryz.prog 116 #[.int .i64 (k:Int)] w fun e w'=>e=.returned (.int .i64 0)∧w=w':=fun w=>by
   have:=room_any k w
   rw [hr] at this
   exact this
  have e1:(l.length:Int) / 64=(k:Int):=by omega
  have e2:((l.length:Int).tmod 64)=0:=by rw [Int.tmod_eq_emod_of_nonneg (by omega)];omega
  have e3:((l.length:Int) % 64)=0:=by omega
  have HK:=Lib.hid hk
  clear hk hm hr
  go_enter func211,ntmps211
  go_wp2_with (first
   | (go_at_call 116;refine (hroom _).mono ?_;rintro e w2 ⟨rfl,rfl⟩)
   | ((with_reducible refine wpList_stB 39 _ _ ?_);refine ⟨_,_,_,⟨_,_,_,sizeOf39,rfl,B3,st5 _ rfl 0 0 0 0 0⟩,?_⟩;intro w5 B5 g5))
  refine bodyPost_ret (results_t1c1t1 rfl rfl (run_loadVar_all isAgg39 sizeOf39 B5 rfl)) rfl ⟨FrRes.none rfl,bl_st hbB g5 hbB.size (Nat.le_refl _)⟩
 ·have e2:((l.length:Int).tmod 64 != 0)=true:=by rw [bne_iff_ne,Int.tmod_eq_emod_of_nonneg (by omega)];omega
  have e3:((l.length:Int) % 64 != 0)=true:=by rw [bne_iff_ne];omega
  clear hm hr
  go_enter func211,ntmps211
  go_wp2_with (first
   | ((with_reducible refine wpList_stB 39 _ _ ?_);refine ⟨_,_,_,⟨_,_,_,sizeOf39,rfl,B3,st5 _ rfl 0 0 0 0 0⟩,?_⟩;intro w5 B5 g5))
  refine bodyPost_ret (results_t1c1t1 rfl rfl (run_loadVar_all isAgg39 sizeOf39 B5 rfl)) rfl ⟨FrRes.none rfl,bl_st hbB g5 hbB.size (Nat.le_refl _)⟩
theorem open_n1 (a:Option Addr) (cap:Nat) (l:List UInt8) (w:World) (hs:SlB w a cap l) (hl:l.length=64) (hz:noughtsB l=true):Calls Tryz.prog 211 #[.slice a 64 cap] w fun e w'=>FrRes w.heap.size (openF l) e w'∧Below w.heap.size w w':=by
 have ho:openF l=(0,zeroTg,[]):=by unfold openF;rw [hl,if_neg (by decide),if_pos hz]
 rw [ho]
 have hroom:∀ w,Calls Tryz.prog 116 #[.int .i64 1] w fun e w'=>e=.returned (.int .i64 43)∧w=w':=fun w=>room_any 1 w
 have hbB:=blw w (Obj.cells #[.int .i64 0,.int .i64 0,.int .i64 0,.int .i64 0,.int .i64 0] 39)
 have B3:=heap_alloc_new w (Obj.cells #[.int .i64 0,.int .i64 0,.int .i64 0,.int .i64 0,.int .i64 0] 39)
 have hno:=noughts_any a cap l (w.alloc (Obj.cells #[.int .i64 0,.int .i64 0,.int .i64 0,.int .i64 0,.int .i64 0] 39)) (hs.below hbB)
 rw [hl,hz] at hno
 clear ho hz hl
 go_enter func211,ntmps211
 go_wp2_with (first
  | (go_at_call 116;refine (hroom _).mono ?_;rintro e w2 ⟨rfl,rfl⟩)
  | (go_at_call 225;refine hno.mono ?_;rintro e w2 ⟨rfl,hb2⟩;have C3:=tr_bl hb2 B3;have hb3:=hbB.trans (hb2.mono hbB.size))
  | ((with_reducible refine wpList_stB 39 _ _ ?_);refine ⟨_,_,_,⟨_,_,_,sizeOf39,rfl,C3,st5 _ rfl 0 0 0 0 0⟩,?_⟩;intro w5 B5 g5))
 refine bodyPost_ret (results_t1c1t1 rfl rfl (run_loadVar_all isAgg39 sizeOf39 B5 rfl)) rfl ⟨FrRes.none rfl,bl_st hb3 g5 hb3.size (Nat.le_refl _)⟩
theorem open_n2 (a:Option Addr) (cap:Nat) (l:List UInt8) (w:World) (hs:SlB w a cap l) (hl:l.length=128) (hz:noughtsB l=true):Calls Tryz.prog 211 #[.slice a 128 cap] w fun e w'=>FrRes w.heap.size (openF l) e w'∧Below w.heap.size w w':=by
 have ho:openF l=(0,zeroTg,[]):=by unfold openF;rw [hl,if_neg (by decide),if_pos hz]
 rw [ho]
 have hroom:∀ w,Calls Tryz.prog 116 #[.int .i64 2] w fun e w'=>e=.returned (.int .i64 88)∧w=w':=fun w=>room_any 2 w
 have hbB:=blw w (Obj.cells #[.int .i64 0,.int .i64 0,.int .i64 0,.int .i64 0,.int .i64 0] 39)
 have B3:=heap_alloc_new w (Obj.cells #[.int .i64 0,.int .i64 0,.int .i64 0,.int .i64 0,.int .i64 0] 39)
 have hno:=noughts_any a cap l (w.alloc (Obj.cells #[.int .i64 0,.int .i64 0,.int .i64 0,.int .i64 0,.int .i64 0] 39)) (hs.below hbB)
 rw [hl,hz] at hno
 clear ho hz hl
 go_enter func211,ntmps211
 go_wp2_with (first
  | (go_at_call 116;refine (hroom _).mono ?_;rintro e w2 ⟨rfl,rfl⟩)
  | (go_at_call 225;refine hno.mono ?_;rintro e w2 ⟨rfl,hb2⟩;have C3:=tr_bl hb2 B3;have hb3:=hbB.trans (hb2.mono hbB.size))
  | ((with_reducible refine wpList_stB 39 _ _ ?_);refine ⟨_,_,_,⟨_,_,_,sizeOf39,rfl,C3,st5 _ rfl 0 0 0 0 0⟩,?_⟩;intro w5 B5 g5))
 refine bodyPost_ret (results_t1c1t1 rfl rfl (run_loadVar_all isAgg39 sizeOf39 B5 rfl)) rfl ⟨FrRes.none rfl,bl_st hb3 g5 hb3.size (Nat.le_refl _)⟩
end
section
theorem getN_lt (l:List UInt8) (p k:Nat):getN l p k < 256 ^ k:=by
 unfold getN
 refine Nat.lt_of_lt_of_le (ofLe_lt _) (Nat.pow_le_pow_right (by decide) ?_)
 rw [List.length_take]
 omega
def okF (l:List UInt8) (N:Nat):Bool:=mayTg (tagAt l 2) && (decide (getN l 0 2≤roomN N) && (decide (getN l (N - 4) 4=crcS (l.take (N - 4))) && noughtsB ((l.drop (17+getN l 0 2)).take (N - 21 - getN l 0 2))))
theorem openF_ok {l:List UInt8} {N:Nat} (hl:l.length=N) (hr:0 < roomN N) (hz:noughtsB l=false):openF l=if okF l N=true then (1,tagAt l 2,(l.drop 17).take (getN l 0 2)) else (2,zeroTg,[]):=by
 unfold openF okF
 rw [hl,if_neg (by omega),hz,if_neg (by simp)]
 congr 1
 simp only [Bool.and_eq_true,decide_eq_true_eq]
end
section
theorem open_m1 (b off:Nat) (cap:Nat) (l:List UInt8) (w:World) (hs:SlB w (some ⟨b,off,none⟩) cap l) (hl:l.length=64) (hz:noughtsB l=false):Calls Tryz.prog 211 #[.slice (some ⟨b,off,none⟩) 64 cap] w fun e w'=>FrRes w.heap.size (openF l) e w'∧Below w.heap.size w w':=by
 rw [openF_ok (N:=64) hl (by decide) hz]
 have hroom:∀ w,Calls Tryz.prog 116 #[.int .i64 1] w fun e w'=>e=.returned (.int .i64 43)∧w=w':=fun w=>room_any 1 w
 have hcap:64≤cap:=by have:=hs.le;omega
 have hmx:=hs.max
 unfold maxLen at hmx
 have k2:¬ cap=2:=by omega
 have k17:¬ cap=17:=by omega
 have hbB:=blw w (Obj.cells #[.int .i64 0,.int .i64 0,.int .i64 0,.int .i64 0,.int .i64 0] 39)
 have B3:=heap_alloc_new w (Obj.cells #[.int .i64 0,.int .i64 0,.int .i64 0,.int .i64 0,.int .i64 0] 39)
 have hno:=noughts_any _ cap l (w.alloc (Obj.cells #[.int .i64 0,.int .i64 0,.int .i64 0,.int .i64 0,.int .i64 0] 39)) (hs.below hbB)
 rw [hl,hz] at hno
 obtain ⟨n,hn,hnlt⟩:∃ n,getN l 0 2=n∧n < 65536:=⟨_,rfl,getN_lt l 0 2⟩
 obtain ⟨s,hsn,hslt⟩:∃ s,getN l 60 4=s∧s < 4294967296:=⟨_,rfl,getN_lt l 60 4⟩
 have g1:∀ w',SlB w' (some ⟨b,off,none⟩) cap l→Calls Tryz.prog 99 #[.slice (some ⟨b,off,none⟩) 64 cap,.int .i64 0,.int .i64 2] w' fun e w''=>e=.returned (.tuple #[.int .i64 (n:Nat),.int .i64 2,.int .i64 0])∧Below w'.heap.size w' w'':=fun w' h=>by
  have:=get_ok _ cap l 0 2 w' h (by omega) (by omega)
  rw [hl,hn] at this
  exact this
 have g2:∀ w',SlB w' (some ⟨b,off,none⟩) cap l→Calls Tryz.prog 99 #[.slice (some ⟨b,off,none⟩) 64 cap,.int .i64 60,.int .i64 4] w' fun e w''=>e=.returned (.tuple #[.int .i64 (s:Nat),.int .i64 64,.int .i64 0])∧Below w'.heap.size w' w'':=fun w' h=>by
  have:=get_ok _ cap l 60 4 w' h (by omega) (by omega)
  rw [hl,hsn] at this
  exact this
 have hpa:∀ w',SlB w' (some ⟨b,off,none⟩) cap l→Calls Tryz.prog 226 #[.slice (some ⟨b,off+2,none⟩) 15 (cap - 2)] w' fun e w''=>e=.returned (.tuple #[tgV (parseT ((l.drop 2).take 15)).1,.int .i64 (parseT ((l.drop 2).take 15)).2])∧Below w'.heap.size w' w'':=fun w' h=>
  tparse_any _ _ _ w' (h.sub 2 15 (by omega)) (by rw [List.length_take,List.length_drop];omega)
 obtain ⟨tg,pe,hpt,hpe⟩:∃ tg pe,parseT ((l.drop 2).take 15)=(tg,pe)∧((pe=0∧tg=tagAt l 2∧mayTg (tagAt l 2)=true)∨(pe=30∧mayTg (tagAt l 2)=false)):=by
  unfold parseT
  rw [tagAt_sub]
  cases h:mayTg (tagAt l 2)
  ·exact ⟨_,_,rfl,.inr ⟨rfl,rfl⟩⟩
  ·exact ⟨_,_,rfl,.inl ⟨rfl,rfl,rfl⟩⟩
 rw [hpt] at hpa
 simp only at hpa
 have HPE:=Lib.hid hpe
 have HL:=Lib.hid hl
 have HN:=Lib.hid hn
 have HS:=Lib.hid hsn
 clear hpe hpt hz hl hn hsn
 go_enter func211,ntmps211
 refine seqH fun K HK=>?_
 go_wp2
 refine HK.out _ _ ?_
 clear HK
 refine seqH fun K HK=>?_
 go_wp2
 refine HK.out _ _ ?_
 clear HK
 refine seqH fun K HK=>?_
 go_wp2_with (go_at_call 116;refine (hroom _).mono ?_;rintro e w2 ⟨rfl,rfl⟩)
 refine HK.out _ _ ?_
 clear HK
 refine seqH fun K HK=>?_
 go_wp2_with (go_at_call 225;refine hno.mono ?_;rintro e w2 ⟨rfl,hb2⟩)
 refine HK.out _ _ ?_
 clear HK
 have A3:=tr_bl hb2 B3
 have hb3:=hbB.trans (hb2.mono hbB.size)
 have hs3:=hs.below hb3
 clear hno hb2 B3 hbB
 refine seqH fun K HK=>?_
 go_wp2_with (go_at_call 99;refine (g1 _ hs3).mono ?_;rintro e w4 ⟨rfl,hb4⟩)
 refine HK.out _ _ ?_
 clear HK
 have A4:=tr_bl hb4 A3
 have hb5:=hb3.trans (hb4.mono hb3.size)
 have hs5:=hs.below hb5
 clear A3 hb3 hs3 hb4
 refine seqH fun K HK=>?_
 go_wp2_with (go_at_call 226;refine (hpa _ hs5).mono ?_;rintro e w5 ⟨rfl,hb6⟩)
 refine HK.out _ _ ?_
 clear HK
 have A5:=tr_al (Obj.cells #[.int .i64 tg.rep,.int .i64 tg.reg,.int .i64 tg.pla,.int .i64 tg.idx,.int .i64 tg.inc] 39) (tr_bl hb6 A4)
 have T5:=heap_alloc_new w5 (Obj.cells #[.int .i64 tg.rep,.int .i64 tg.reg,.int .i64 tg.pla,.int .i64 tg.idx,.int .i64 tg.inc] 39)
 have hb50:=hb5.trans (hb6.mono hb5.size)
 have hb7:=hb50.alloc hb50.size (Obj.cells #[.int .i64 tg.rep,.int .i64 tg.reg,.int .i64 tg.pla,.int .i64 tg.idx,.int .i64 tg.inc] 39)
 have hq0:w.heap.size < w5.heap.size:=Nat.lt_of_lt_of_le (lt_blk A4) (hb6.size)
 have hs7:=hs.below hb7
 clear A4 hb5 hs5 hb6 hb50 hpa g1
 generalize w5.alloc (Obj.cells #[.int .i64 tg.rep,.int .i64 tg.reg,.int .i64 tg.pla,.int .i64 tg.idx,.int .i64 tg.inc] 39)=w6 at *
 generalize w5.heap.size=q at *
 refine seqH fun K HK=>?_
 go_wp2
 refine HK.out _ _ ?_
 clear HK
 refine seqH fun K HK=>?_
 go_wp2_with (go_at_call 99;refine (g2 _ hs7).mono ?_;rintro e w8 ⟨rfl,hb8'⟩)
 refine HK.out _ _ ?_
 clear HK
 have C3:=tr_bl hb8' A5
 have T8:=tr_bl hb8' T5
 have hb8:=hb7.trans (hb8'.mono hb7.size)
 have hs8:=hs.below hb8
 clear g2 hs7 hb7 hb8' A5 T5
 have hsum:=sum_any _ cap (l.take 60) w8 (hs8.take 60)
 rw [show (l.take 60).length=60 by rw [List.length_take,HL.out];rfl] at hsum
 have hno7:∀ w',Below w8.heap.size w8 w'→n≤43→Calls Tryz.prog 225 #[.slice (some ⟨b,off+(17+n),none⟩) (60 - (17+n)) (cap - (17+n))] w' fun e w''=>e=.returned (.bool (noughtsB ((l.drop (17+n)).take (64 - 21 - n))))∧Below w'.heap.size w' w'':=fun w' hb hnr=>by
  have:=noughts_any _ _ ((l.drop (17+n)).take (64 - 21 - n)) w' ((hs8.below hb).sub (17+n) (64 - 21 - n) (by rw [HL.out];omega))
  rw [show ((l.drop (17+n)).take (64 - 21 - n)).length=60 - (17+n) by rw [List.length_take,List.length_drop,HL.out];omega] at this
  exact this
 have hok:okF l 64=(mayTg (tagAt l 2) && (decide (n≤43) && (decide (s=crcS (l.take 60)) && noughtsB ((l.drop (17+n)).take (64 - 21 - n))))):=by
  unfold okF
  rw [HN.out,show 64 - 4=60 from rfl,HS.out,show roomN 64=43 from rfl]
 rw [hok,HN.out]
 clear hok
 have hz:=crcS_lt (l.take 60)
 generalize crcS (l.take 60)=z at *
 generalize hnd:noughtsB ((l.drop (17+n)).take (64 - 21 - n))=nd at *
 clear hnd
 rcases HPE.out with ⟨h1,h2,h3⟩ | ⟨h1,h3⟩
 case inr=>
  rw [h3,Bool.false_and,if_neg (by simp)]
  subst h1
  clear h3 HPE
  go_wp2_with (first
   | (go_at_call 116;refine (hroom _).mono ?_;rintro e w2 ⟨rfl,rfl⟩)
   | (go_at_call 180;refine hsum.mono ?_;rintro e w7 ⟨rfl,hb7⟩;have D3:=tr_bl hb7 C3;have hb9:=hb8.trans (hb7.mono hb8.size))
   | (go_at_call 225;refine (hno8 _ hb7).mono ?_;rintro e w8 ⟨rfl,hb10⟩;have E3:=tr_bl hb10 D3;have hb11:=hb9.trans (hb10.mono hb9.size))
   | ((with_reducible refine wpList_stB 39 _ _ ?_);refine ⟨_,_,_,⟨_,_,_,sizeOf39,rfl,C3,st5 _ rfl 0 0 0 0 0⟩,?_⟩;intro w5 B5 g5))
  refine bodyPost_ret (results_t1c1t1 rfl rfl (run_loadVar_all isAgg39 sizeOf39 B5 rfl)) rfl ⟨FrRes.none rfl,bl_st hb8 g5 hb8.size (Nat.le_refl _)⟩
 case inl=>
  rw [h3,Bool.true_and]
  subst h1
  have HTG:=Lib.hid h2
  clear h3 HPE h2
  by_cases hnr:n≤43
  case neg=>
   rw [decide_eq_false hnr,Bool.false_and,if_neg (by simp)]
   have hI:(43:Int) < n:=by omega
   go_wp2_with (first
    | (go_at_call 116;refine (hroom _).mono ?_;rintro e w2 ⟨rfl,rfl⟩)
    | (go_at_call 180;refine hsum.mono ?_;rintro e w7 ⟨rfl,hb7⟩;have D3:=tr_bl hb7 C3;have hb9:=hb8.trans (hb7.mono hb8.size))
    | (go_at_call 225;refine (hno8 _ hb7).mono ?_;rintro e w8 ⟨rfl,hb10⟩;have E3:=tr_bl hb10 D3;have hb11:=hb9.trans (hb10.mono hb9.size))
    | ((with_reducible refine wpList_stB 39 _ _ ?_);refine ⟨_,_,_,⟨_,_,_,sizeOf39,rfl,C3,st5 _ rfl 0 0 0 0 0⟩,?_⟩;intro w5 B5 g5))
   refine bodyPost_ret (results_t1c1t1 rfl rfl (run_loadVar_all isAgg39 sizeOf39 B5 rfl)) rfl ⟨FrRes.none rfl,bl_st hb8 g5 hb8.size (Nat.le_refl _)⟩
  case pos=>
   rw [decide_eq_true hnr,Bool.true_and]
   have hI:(n:Int)≤43:=by omega
   have kn:¬ cap=17+n:=by omega
   have hno8:=fun w' h=>hno7 w' h hnr
   clear hno7
   by_cases hsz:s=z
   case neg=>
    rw [decide_eq_false hsz,Bool.false_and,if_neg (by simp)]
    have hne:((s:Int) != (z:Int))=true:=by rw [bne_iff_ne];omega
    go_wp2_with (first
     | (go_at_call 116;refine (hroom _).mono ?_;rintro e w2 ⟨rfl,rfl⟩)
     | (go_at_call 180;refine hsum.mono ?_;rintro e w7 ⟨rfl,hb7⟩;have D3:=tr_bl hb7 C3;have hb9:=hb8.trans (hb7.mono hb8.size))
     | (go_at_call 225;refine (hno8 _ hb7).mono ?_;rintro e w8 ⟨rfl,hb10⟩;have E3:=tr_bl hb10 D3;have hb11:=hb9.trans (hb10.mono hb9.size))
     | ((with_reducible refine wpList_stB 39 _ _ ?_);refine ⟨_,_,_,⟨_,_,_,sizeOf39,rfl,D3,st5 _ rfl 0 0 0 0 0⟩,?_⟩;intro w5 B5 g5))
    refine bodyPost_ret (results_t1c1t1 rfl rfl (run_loadVar_all isAgg39 sizeOf39 B5 rfl)) rfl ⟨FrRes.none rfl,bl_st hb9 g5 hb9.size (Nat.le_refl _)⟩
   case pos=>
    subst hsz
    rw [decide_eq_true rfl,Bool.true_and]
    have hne:((s:Int) != (s:Int))=false:=by simp
    cases nd
    case false=>
     rw [if_neg (by simp)]
     go_wp2_with (first
      | (go_at_call 116;refine (hroom _).mono ?_;rintro e w2 ⟨rfl,rfl⟩)
      | (go_at_call 180;refine hsum.mono ?_;rintro e w7 ⟨rfl,hb7⟩;have D3:=tr_bl hb7 C3;have hb9:=hb8.trans (hb7.mono hb8.size))
      | (go_at_call 225;refine (hno8 _ hb7).mono ?_;rintro e w8 ⟨rfl,hb10⟩;have E3:=tr_bl hb10 D3;have hb11:=hb9.trans (hb10.mono hb9.size))
      | ((with_reducible refine wpList_stB 39 _ _ ?_);refine ⟨_,_,_,⟨_,_,_,sizeOf39,rfl,E3,st5 _ rfl 0 0 0 0 0⟩,?_⟩;intro w5 B5 g5))
     refine bodyPost_ret (results_t1c1t1 rfl rfl (run_loadVar_all isAgg39 sizeOf39 B5 rfl)) rfl ⟨FrRes.none rfl,bl_st hb11 g5 hb11.size (Nat.le_refl _)⟩
    case true=>
     rw [if_pos rfl]
     refine seqH fun K HK=>?_
     go_wp2_with (first
           | (go_at_call 116;refine (hroom _).mono ?_;rintro e w2 ⟨rfl,rfl⟩)
           | (go_at_call 180;refine hsum.mono ?_;rintro e w7 ⟨rfl,hb7⟩;have D3:=tr_bl hb7 C3;have T7:=tr_bl hb7 T8;have hb9:=hb8.trans (hb7.mono hb8.size))
           | (go_at_call 225;refine (hno8 _ hb7).mono ?_;rintro e w9 ⟨rfl,hb10⟩;have E3:=tr_bl hb10 D3;have T9:=tr_bl hb10 T7;have hb11:=hb9.trans (hb10.mono hb9.size)))
     refine HK.out _ _ ?_
     clear HK
     have hbl:((l.drop 17).take n).length=n:=by rw [List.length_take,List.length_drop,HL.out];omega
     have hcl:=clone_any ⟨b,off+17,none⟩ (cap - 17) ((l.drop 17).take n) w9 ((hs.below hb11).sub 17 n (by rw [HL.out];omega)) (by omega)
     rw [hbl] at hcl
     have HBL:=Lib.hid hbl
     clear hbl C3 T8 hs8 hsum hno8 hb7 D3 T7 hb9 hb10 hb8 hz
     refine seqH fun K HK=>?_
     go_wp2_with (go_at_call 214;refine hcl.mono ?_;rintro e w10 ⟨⟨g,c,rfl,hc1,hc2,ho⟩,hb12⟩)
     refine HK.out _ _ ?_
     clear HK
     clear hcl
     have F3:=tr_bl hb12 E3
     have T10:=tr_bl hb12 T9
     have hb13:=hb11.trans (hb12.mono hb11.size)
     have ho10:=ho.mono hb11.size
     clear E3 T9 hb11 hb12 ho
     unfold maxLen at hc2
     refine seqH fun K HK=>?_
     go_wp2_with fail
     have hbd:=(Below.refl w10.heap.size w10).drew
     have F4:=tr_bl hbd F3
     have T11:=tr_bl hbd T10
     have hb14:=hb13.trans (hbd.mono hb13.size)
     have ho11:=ho10.below hbd
     clear F3 T10 hb13 ho10
     refine wp_region_held_drew (S:=fun w'=>w'.heap[q]?=some (.cells #[.int .i64 tg.rep,.int .i64 tg.reg,.int .i64 tg.pla,.int .i64 tg.idx,.int .i64 tg.inc] 39 (0,0))) (by kernel_rfl) T11 (fun hS0=>?_)
     clear hbd
     generalize w10.drew=x0 at *
     refine tkT 0 (v:=.agg (#[.int .i64 tg.rep,.int .i64 tg.reg,.int .i64 tg.pla,.int .i64 tg.idx,.int .i64 tg.inc])) rfl (by intro wS hSw;exact exec_ldB 39 _ ⟨_,_,_,_,_,isAgg39,sizeOf39,rfl,hSw,ld5 _ _ _ _ _⟩) ?_
     refine tkP 1 rfl ?_
     refine tkP 2 rfl ?_
     refine tkP 3 rfl ?_
     refine tkP 4 rfl ?_
     refine tkP 5 rfl ?_
     refine rdy1 6 rfl (fun K' hK'=>?_)
     refine wp_stB 39 _ _ ?_
     refine ⟨_,_,_,⟨_,_,_,sizeOf39,rfl,F4,st5 _ rfl tg.rep tg.reg tg.pla tg.idx tg.inc⟩,?_⟩
     intro w11 B11 g11
     refine hK'.out _ _ (tr_st g11 hS0 (by omega)) (fun _=>?_)
     clear hK'
     (try simp only [Act.put,qa1,qa2,qa3])
     refine tkP 7 rfl ?_
     refine wpAnyH_done (by kernel_rfl) ?_ _
     refine HK.out _ _ ?_
     clear HK
     go_wp2
     refine bodyPost_ret (results_t1c1t1 rfl rfl (run_loadVar_all isAgg39 sizeOf39 B11 rfl)) rfl ⟨⟨some ⟨g,0,none⟩,n,?_,?_⟩,bl_st hb14 g11 hb14.size (Nat.le_refl _)⟩
     ·rw [HBL.out,← HTG.out]
      rfl
     ·exact ho11.st g11 F4 (by decide)
end
end Go.Proofs.YtbdonjenekhmdaaGreatDoor
