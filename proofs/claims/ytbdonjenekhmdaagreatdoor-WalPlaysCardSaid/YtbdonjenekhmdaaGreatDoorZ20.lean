/- Texts that the claim leans on, part 20: C9, C10, G8, G9, C11, G13, G14, G15. -/
import Derived.Test.YtbdonjenekhmdaaGreatDoorZ1
import Derived.Test.YtbdonjenekhmdaaGreatDoorZ2
import Derived.Test.YtbdonjenekhmdaaGreatDoorZ3
import Derived.Test.YtbdonjenekhmdaaGreatDoorZ4
import Derived.Test.YtbdonjenekhmdaaGreatDoorZ5
import Derived.Test.YtbdonjenekhmdaaGreatDoorZ6
import Derived.Test.YtbdonjenekhmdaaGreatDoorZ7
import Derived.Test.YtbdonjenekhmdaaGreatDoorZ8
import Derived.Test.YtbdonjenekhmdaaGreatDoorZ9
import Derived.Test.YtbdonjenekhmdaaGreatDoorZ10
import Derived.Test.YtbdonjenekhmdaaGreatDoorZ11
import Derived.Test.YtbdonjenekhmdaaGreatDoorZ12
import Derived.Test.YtbdonjenekhmdaaGreatDoorZ13
import Derived.Test.YtbdonjenekhmdaaGreatDoorZ14
import Derived.Test.YtbdonjenekhmdaaGreatDoorZ15
import Derived.Test.YtbdonjenekhmdaaGreatDoorZ16
import Derived.Test.YtbdonjenekhmdaaGreatDoorZ17
import Derived.Test.YtbdonjenekhmdaaGreatDoorZ18
import Derived.Test.YtbdonjenekhmdaaGreatDoorZ19
import Derived.Laws.OwnMore
namespace Go.Proofs.YtbdonjenekhmdaaGreatDoor
open Go.RowKit Go.Proofs.Tryz
set_option maxRecDepth 100000
set_option maxHeartbeats 32000000
section
theorem elWriteR:ElemT Tryz.prog 55 202 2 32:=ElemT.of (.agg #[.int .i64 0,.slice none 0 0]) underlying55 (by kernel_rfl) rfl (by decide)
theorem rw_one (z:(List UInt8×Nat)×(Nat×Nat)):∀ u ∈ rwC z,u.oneCell'=true:=by simp [rwC,slv,Value.oneCell']
theorem build_w1 (k:Int) (a2 c2:Nat) (w:World):(Instr.buildSlice 55 1 #[(0,.agg #[.int .i64 k,.slice (some ⟨a2,0,none⟩) 64 c2])]).run Tryz.prog w=.ok (.slice (some ⟨w.heap.size,0,none⟩) 1 1) (w.alloc (.cells #[.int .i64 k,.slice (some ⟨a2,0,none⟩) 64 c2] 202)):=by kernel_rfl
theorem wp_bw1 {w:World} {a:Act} {K:Act→World→Prop} {Q:Exit→Act→World→Prop} {dst:Option Tmp} {ty':TypeId} {pos:String} {af:Array Edge} {gd:Option (Nat×Bool)} (x:Operand) (k:Int) (a2 c2:Nat) (hx:a.eval x=.agg #[.int .i64 k,.slice (some ⟨a2,0,none⟩) 64 c2])
  (h:K (a.put dst (.slice (some ⟨w.heap.size,0,none⟩) 1 1)) (w.alloc (.cells #[.int .i64 k,.slice (some ⟨a2,0,none⟩) 64 c2] 202))):(Oper.mk dst (.buildSlice 55 1 #[(0,x)]) ty' pos af gd).wp Tryz.prog a w K Q:=
 wp_run (by have hb:=build_w1 k a2 c2 w;unfold execOp;simp [hx,hb]) h
section
variable {B g:Nat} {q:RQ} {d:Dk} {w w':World}
theorem rwrite_any (h:RefB B g q d w) (hB:B≤w.heap.size) (s:Int) (ba:Option Addr) (bc:Nat) (b:List UInt8) (hbs:∀ w',Kx rT B w w'→SlB w' ba bc b) (hwl:d.waits.length≤1000000):Calls Tryz.prog 65 #[.pointer (some ⟨g,0,none⟩),.int .i64 s,.slice ba b.length bc] w fun e w'=>e=.returned (.int .i64 (writeD d s b).2)∧RDoes B g rT w (writeD d s b).1 w':=by
 have hh:=rhas_any h s
 have hli:=live_isD h.n0 s
 have c4:=h.c4
 have c5:=h.c5
 have hsp:=rspend_any h
 unfold writeD
 rcases two_b d.down with e1 | e1
 case inr=>
  have hl5:liveD d s=5:=by rw [hli,if_pos (.inl e1)]
  rw [if_pos (by rw [hl5];simp),hl5]
  rw [e1] at c4
  clear hli hl5 e1
  go_enter func65,ntmps65
  go_wp2
  go_ret
  exact ⟨rfl,⟨_,h⟩,Kx.refl _ _ _⟩
 case inl=>
 rcases two_b d.dead with e2 | e2
 case inr=>
  have hl5:liveD d s=5:=by rw [hli,if_pos (.inr e2)]
  rw [if_pos (by rw [hl5];simp),hl5]
  rw [e1] at c4
  rw [e2] at c5
  clear hli hl5 e1 e2
  go_enter func65,ntmps65
  go_wp2
  go_ret
  exact ⟨rfl,⟨_,h⟩,Kx.refl _ _ _⟩
 case inl=>
 have hl0:liveD d s=thereD d s:=by rw [hli,if_neg (by rw [e1,e2];simp)]
 rw [hl0]
 rw [e1] at c4
 rw [e2] at c5
 clear hli hl0 e1 e2
 by_cases h0:thereD d s=0
 case neg=>
  rw [if_pos (by simpa using h0)]
  have h2:=there_two h.n0 h0
  rw [h2] at hh ⊢
  clear h2 h0
  go_enter func65,ntmps65
  go_wp2_with (go_at_call 147;refine hh.mono ?_;rintro e w1 ⟨rfl,rfl⟩)
  go_ret
  exact ⟨rfl,⟨_,h⟩,Kx.refl _ _ _⟩
 case pos=>
 rw [if_neg (by simpa using h0)]
 obtain ⟨k,rfl,hk⟩:=there_nat h.n0 h0
 rw [h0] at hh
 clear h0
 by_cases h64:b.length=64
 case neg=>
  rw [if_pos h64]
  have hne:((b.length:Int) != 64)=true:=by rw [bne_iff_ne];omega
  clear h64
  go_enter func65,ntmps65
  go_wp2_with (go_at_call 147;refine hh.mono ?_;rintro e w1 ⟨rfl,rfl⟩)
  go_ret
  exact ⟨rfl,⟨_,h⟩,Kx.refl _ _ _⟩
 case pos=>
 rw [if_neg (by simpa using h64)]
 have H64:=Lib.hid h64
 have HBS:=Lib.hid hbs
 rw [h64]
 have hlen:b.length≤1000000:=by have:=H64.out;omega
 clear h64 hbs
 rcases spend_val d with hs | hs
 case inr=>
  rw [if_pos (by rw [hs];simp),hs]
  rw [hs] at hsp
  clear hs
  go_enter func65,ntmps65
  refine seqH fun K HK=>?_
  go_wp2
  refine HK.out _ _ ?_
  clear HK
  refine seqH fun K HK=>?_
  go_wp2
  refine HK.out _ _ ?_
  clear HK
  refine seqH fun K HK=>?_
  go_wp2_with (go_at_call 147;refine hh.mono ?_;rintro e w1 ⟨rfl,rfl⟩)
  refine HK.out _ _ ?_
  clear HK
  go_wp2_with (go_at_call 120;refine hsp.mono ?_;rintro e w1 ⟨rfl,h1,k1⟩)
  go_ret
  exact ⟨rfl,⟨_,h1⟩,k1⟩
 case inl=>
 rw [if_neg (by rw [hs];simp)]
 rw [hs] at hsp
 clear hs
 have hpw:=spend_pl d
 have hwl1:(spendD d).1.waits.length≤1000000:=by rw [hpw.2];exact hwl
 have hk1:k < (spendD d).1.pl.length:=by rw [hpw.1];exact hk
 obtain ⟨d1,hd1⟩:∃ d1,(spendD d).1=d1:=⟨_,rfl⟩
 rw [hd1] at hsp hwl1 hk1 ⊢
 have HK3:=Lib.hid hk1
 clear hd1 hpw hwl hk hk1
 simp only [Int.toNat_natCast]
 go_enter func65,ntmps65
 refine seqH fun K HK=>?_
 go_wp2
 refine HK.out _ _ ?_
 clear HK
 refine seqH fun K HK=>?_
 go_wp2
 refine HK.out _ _ ?_
 clear HK
 refine seqH fun K HK=>?_
 go_wp2_with (go_at_call 147;refine hh.mono ?_;rintro e w1 ⟨rfl,rfl⟩)
 refine HK.out _ _ ?_
 clear HK
 refine seqH fun K HK=>?_
 go_wp2_with (go_at_call 120;refine hsp.mono ?_;rintro e w1 ⟨rfl,h1,k1⟩)
 refine HK.out _ _ ?_
 clear HK
 clear hsp c4 c5 h hh
 have hB1:=Nat.le_trans hB k1.bl.size
 refine seqH fun K HK=>?_
 go_wp2_with fail
 have hd:=h1.below (Below.refl w1.heap.size w1).drew
 have kd:=k1.trans (Kx.of (X:=rT) (Below.refl w1.heap.size w1).drew hB1)
 have hBd:B≤w1.drew.heap.size:=hB1
 have hfr:=hd.fresh
 have hbd:=HBS.out _ kd
 refine wp_region_held_drew (S:=fun _=>True) (by kernel_rfl) trivial (fun hS0=>?_)
 clear h1 k1 hB1 hB
 generalize w1.drew=x0 at *
 refine tkP 0 rfl ?_
 refine tkP 1 rfl ?_
 refine tkP 2 rfl ?_
 refine tkP 3 rfl ?_
 refine tkP 5 rfl ?_
 refine tkP 6 rfl ?_
 refine wpAnyH_ready (rs:=[4,7]) (by kernel_rfl) (by simp) ?_
 refine AllReadyH.cons (o:=⟨_,_,_,_,_,_⟩) rfl (fun K' hK'=>?_) (AllReadyH.cons (o:=⟨_,_,_,_,_,_⟩) rfl (fun K' hK'=>?_) AllReadyH.nil)
 ·refine (if_pos (by rfl)).mpr ?_
  have c:=hd.c3
  go_simp
  clear c
  refine hK'.out _ _ trivial (fun _=>?_)
  (try simp only [Act.put,qa1,qa2,qa3])
  refine rdy1 7 rfl (fun K' hK'=>?_)
  go_simp
  rw [← H64.out]
  refine (copy_any _ _ _ _ hbd hlen).mono ?_
  rintro e x1 ⟨⟨v,rfl,hO⟩,hb2⟩
  rw [H64.out] at hO
  obtain ⟨a2,c2,rfl,ha2⟩:=owns_some hO (by decide)
  replace hd:=hd.below hb2
  replace kd:=kd.trans (Kx.of (X:=rT) hb2 hBd)
  have hf:∀ y ∈ q.ra,y.1≠a2:=fun y hy=>by have:=hfr y (List.mem_append_left _ hy);omega
  have hO2:SecB B x1 (a2,c2) b:=owns_mono hO hBd
  replace hBd:=Nat.le_trans hBd hb2.size
  clear hb2 hO ha2
  refine hK'.out _ _ trivial (fun _=>?_)
  (try simp only [Act.put,qa1,qa2,qa3])
  refine tkP 8 rfl ?_
  refine rdy1 9 rfl (fun K' hK'=>?_)
  refine wp_bw1 _ k a2 c2 rfl ?_
  have hN:=heap_alloc_new x1 (Obj.cells #[.int .i64 (k:Int),.slice (some ⟨a2,0,none⟩) 64 c2] 202)
  replace hd:=hd.below (blw x1 (Obj.cells #[.int .i64 (k:Int),.slice (some ⟨a2,0,none⟩) 64 c2] 202))
  replace hO2:SecB B (x1.alloc (Obj.cells #[.int .i64 (k:Int),.slice (some ⟨a2,0,none⟩) 64 c2] 202)) (a2,c2) b:=owns_bl hO2 (blw x1 (Obj.cells #[.int .i64 (k:Int),.slice (some ⟨a2,0,none⟩) 64 c2] 202))
  replace kd:=kd.trans (Kx.of (X:=rT) (blw x1 (Obj.cells #[.int .i64 (k:Int),.slice (some ⟨a2,0,none⟩) 64 c2] 202)) hBd)
  replace hBd:=Nat.le_trans hBd (blw x1 (Obj.cells #[.int .i64 (k:Int),.slice (some ⟨a2,0,none⟩) 64 c2] 202)).size
  refine hK'.out _ _ trivial (fun _=>?_)
  (try simp only [Act.put,qa1,qa2,qa3])
  generalize x1.alloc (Obj.cells #[.int .i64 (k:Int),.slice (some ⟨a2,0,none⟩) 64 c2] 202)=x2 at *
  generalize x1.heap.size=nb at *
  refine rdy1 10 rfl (fun K' hK'=>?_)
  refine wp_appN _ _ 55 55 202 202 elWriteR underlying55 rfl B q.wv d1.waits.length ((d1.waits.zip q.wa).flatMap rwC) rfl hd.wts ⟨nb,0,none⟩ 1 1 (rwC ((b,k),(a2,c2))) rfl rfl (fun j u hu=>?_) (rw_one _) (by omega) (by decide) hBd ?_
  ·rw [addr_add,Nat.zero_add]
   exact blk_cell hN j u (by rw [← Array.getElem?_toList];exact hu)
  intro v8 x8 ho8 hg8
  obtain ⟨a8,c8,rfl,_⟩:=Row.of_owns ho8
  refine hK'.out _ _ trivial (fun _=>?_)
  (try simp only [Act.put,qa1,qa2,qa3])
  refine tkP 11 rfl ?_
  refine tkP 12 rfl ?_
  refine rdy1 13 rfl (fun K' hK'=>?_)
  have box8:=tr_gb hg8 hd.box (own_ne hd.wts hd.box (by decide))
  refine wp_stB 55 _ _ ?_
  refine ⟨_,_,_,⟨_,_,_,sizeOf55,rfl,box8,rk_waits q d1 a8 (d1.waits.length+1) c8 (q.wa++[(a2,c2)]) (d1.waits++[(b,k)])⟩,?_⟩
  intro x9 B9 g9
  have hkeep:∀ (j:Nat) (cs:Array Value) (T:TypeId),T≠202→T≠57→x2.heap[j]?=some (.cells cs T (0,0))→x9.heap[j]?=some (.cells cs T (0,0)):=fun j cs T h1 h2 hj=>
   blk_neT box8 g9 _ _ _ h2 (tr_gb hg8 hj (own_ne hd.wts hj (fun e=>h1 e.symm)))
  have hfin:=hd.wrote hkeep B9 (owns_ne ho8 g9 box8 (by decide)) hO2 hf H64.out HK3.out
  have hgr:Below B x2 x9:=bl_st ((Below.refl B x2).grown hg8 hBd (fun k e=>(hd.wts.lt k e).1)) g9 (Nat.le_trans hBd hg8.size) hd.gb
  have hkx:Kx rT B x2 x9:=⟨hgr,fun j cs T a hT=>hkeep j cs T (fun e=>by subst e;revert hT;decide) (fun e=>by subst e;revert hT;decide) a⟩
  refine hK'.out _ _ trivial (fun _=>?_)
  refine wpAnyH_done (by kernel_rfl) ?_ _
  refine HK.out _ _ ?_
  clear HK
  go_wp2
  go_ret
  exact ⟨rfl,⟨_,hfin⟩,kd.trans hkx⟩
 ·refine (if_pos (by rfl)).mpr ?_
  go_simp
  rw [← H64.out]
  refine (copy_any _ _ _ _ hbd hlen).mono ?_
  rintro e x1 ⟨⟨v,rfl,hO⟩,hb2⟩
  rw [H64.out] at hO
  obtain ⟨a2,c2,rfl,ha2⟩:=owns_some hO (by decide)
  replace hd:=hd.below hb2
  replace kd:=kd.trans (Kx.of (X:=rT) hb2 hBd)
  have hf:∀ y ∈ q.ra,y.1≠a2:=fun y hy=>by have:=hfr y (List.mem_append_left _ hy);omega
  have hO2:SecB B x1 (a2,c2) b:=owns_mono hO hBd
  replace hBd:=Nat.le_trans hBd hb2.size
  clear hb2 hO ha2
  refine hK'.out _ _ trivial (fun _=>?_)
  (try simp only [Act.put,qa1,qa2,qa3])
  refine tkP 8 rfl ?_
  refine wpAnyH_ready (rs:=[4,9]) (by kernel_rfl) (by simp) ?_
  refine AllReadyH.cons (o:=⟨_,_,_,_,_,_⟩) rfl (fun K' hK'=>?_) (AllReadyH.cons (o:=⟨_,_,_,_,_,_⟩) rfl (fun K' hK'=>?_) AllReadyH.nil)
  ·refine (if_pos (by rfl)).mpr ?_
   have c:=hd.c3
   go_simp
   clear c
   refine hK'.out _ _ trivial (fun _=>?_)
   (try simp only [Act.put,qa1,qa2,qa3])
   refine rdy1 9 rfl (fun K' hK'=>?_)
   refine wp_bw1 _ k a2 c2 rfl ?_
   have hN:=heap_alloc_new x1 (Obj.cells #[.int .i64 (k:Int),.slice (some ⟨a2,0,none⟩) 64 c2] 202)
   replace hd:=hd.below (blw x1 (Obj.cells #[.int .i64 (k:Int),.slice (some ⟨a2,0,none⟩) 64 c2] 202))
   replace hO2:SecB B (x1.alloc (Obj.cells #[.int .i64 (k:Int),.slice (some ⟨a2,0,none⟩) 64 c2] 202)) (a2,c2) b:=owns_bl hO2 (blw x1 (Obj.cells #[.int .i64 (k:Int),.slice (some ⟨a2,0,none⟩) 64 c2] 202))
   replace kd:=kd.trans (Kx.of (X:=rT) (blw x1 (Obj.cells #[.int .i64 (k:Int),.slice (some ⟨a2,0,none⟩) 64 c2] 202)) hBd)
   replace hBd:=Nat.le_trans hBd (blw x1 (Obj.cells #[.int .i64 (k:Int),.slice (some ⟨a2,0,none⟩) 64 c2] 202)).size
   refine hK'.out _ _ trivial (fun _=>?_)
   (try simp only [Act.put,qa1,qa2,qa3])
   generalize x1.alloc (Obj.cells #[.int .i64 (k:Int),.slice (some ⟨a2,0,none⟩) 64 c2] 202)=x2 at *
   generalize x1.heap.size=nb at *
   refine rdy1 10 rfl (fun K' hK'=>?_)
   refine wp_appN _ _ 55 55 202 202 elWriteR underlying55 rfl B q.wv d1.waits.length ((d1.waits.zip q.wa).flatMap rwC) rfl hd.wts ⟨nb,0,none⟩ 1 1 (rwC ((b,k),(a2,c2))) rfl rfl (fun j u hu=>?_) (rw_one _) (by omega) (by decide) hBd ?_
   ·rw [addr_add,Nat.zero_add]
    exact blk_cell hN j u (by rw [← Array.getElem?_toList];exact hu)
   intro v8 x8 ho8 hg8
   obtain ⟨a8,c8,rfl,_⟩:=Row.of_owns ho8
   refine hK'.out _ _ trivial (fun _=>?_)
   (try simp only [Act.put,qa1,qa2,qa3])
   refine tkP 11 rfl ?_
   refine tkP 12 rfl ?_
   refine rdy1 13 rfl (fun K' hK'=>?_)
   have box8:=tr_gb hg8 hd.box (own_ne hd.wts hd.box (by decide))
   refine wp_stB 55 _ _ ?_
   refine ⟨_,_,_,⟨_,_,_,sizeOf55,rfl,box8,rk_waits q d1 a8 (d1.waits.length+1) c8 (q.wa++[(a2,c2)]) (d1.waits++[(b,k)])⟩,?_⟩
   intro x9 B9 g9
   have hkeep:∀ (j:Nat) (cs:Array Value) (T:TypeId),T≠202→T≠57→x2.heap[j]?=some (.cells cs T (0,0))→x9.heap[j]?=some (.cells cs T (0,0)):=fun j cs T h1 h2 hj=>
    blk_neT box8 g9 _ _ _ h2 (tr_gb hg8 hj (own_ne hd.wts hj (fun e=>h1 e.symm)))
   have hfin:=hd.wrote hkeep B9 (owns_ne ho8 g9 box8 (by decide)) hO2 hf H64.out HK3.out
   have hgr:Below B x2 x9:=bl_st ((Below.refl B x2).grown hg8 hBd (fun k e=>(hd.wts.lt k e).1)) g9 (Nat.le_trans hBd hg8.size) hd.gb
   have hkx:Kx rT B x2 x9:=⟨hgr,fun j cs T a hT=>hkeep j cs T (fun e=>by subst e;revert hT;decide) (fun e=>by subst e;revert hT;decide) a⟩
   refine hK'.out _ _ trivial (fun _=>?_)
   refine wpAnyH_done (by kernel_rfl) ?_ _
   refine HK.out _ _ ?_
   clear HK
   go_wp2
   go_ret
   exact ⟨rfl,⟨_,hfin⟩,kd.trans hkx⟩
  ·refine (if_pos (by rfl)).mpr ?_
   refine wp_bw1 _ k a2 c2 rfl ?_
   have hN:=heap_alloc_new x1 (Obj.cells #[.int .i64 (k:Int),.slice (some ⟨a2,0,none⟩) 64 c2] 202)
   replace hd:=hd.below (blw x1 (Obj.cells #[.int .i64 (k:Int),.slice (some ⟨a2,0,none⟩) 64 c2] 202))
   replace hO2:SecB B (x1.alloc (Obj.cells #[.int .i64 (k:Int),.slice (some ⟨a2,0,none⟩) 64 c2] 202)) (a2,c2) b:=owns_bl hO2 (blw x1 (Obj.cells #[.int .i64 (k:Int),.slice (some ⟨a2,0,none⟩) 64 c2] 202))
   replace kd:=kd.trans (Kx.of (X:=rT) (blw x1 (Obj.cells #[.int .i64 (k:Int),.slice (some ⟨a2,0,none⟩) 64 c2] 202)) hBd)
   replace hBd:=Nat.le_trans hBd (blw x1 (Obj.cells #[.int .i64 (k:Int),.slice (some ⟨a2,0,none⟩) 64 c2] 202)).size
   refine hK'.out _ _ trivial (fun _=>?_)
   (try simp only [Act.put,qa1,qa2,qa3])
   generalize x1.alloc (Obj.cells #[.int .i64 (k:Int),.slice (some ⟨a2,0,none⟩) 64 c2] 202)=x2 at *
   generalize x1.heap.size=nb at *
   refine rdy1 4 rfl (fun K' hK'=>?_)
   have c:=hd.c3
   go_simp
   clear c
   refine hK'.out _ _ trivial (fun _=>?_)
   (try simp only [Act.put,qa1,qa2,qa3])
   refine rdy1 10 rfl (fun K' hK'=>?_)
   refine wp_appN _ _ 55 55 202 202 elWriteR underlying55 rfl B q.wv d1.waits.length ((d1.waits.zip q.wa).flatMap rwC) rfl hd.wts ⟨nb,0,none⟩ 1 1 (rwC ((b,k),(a2,c2))) rfl rfl (fun j u hu=>?_) (rw_one _) (by omega) (by decide) hBd ?_
   ·rw [addr_add,Nat.zero_add]
    exact blk_cell hN j u (by rw [← Array.getElem?_toList];exact hu)
   intro v8 x8 ho8 hg8
   obtain ⟨a8,c8,rfl,_⟩:=Row.of_owns ho8
   refine hK'.out _ _ trivial (fun _=>?_)
   (try simp only [Act.put,qa1,qa2,qa3])
   refine tkP 11 rfl ?_
   refine tkP 12 rfl ?_
   refine rdy1 13 rfl (fun K' hK'=>?_)
   have box8:=tr_gb hg8 hd.box (own_ne hd.wts hd.box (by decide))
   refine wp_stB 55 _ _ ?_
   refine ⟨_,_,_,⟨_,_,_,sizeOf55,rfl,box8,rk_waits q d1 a8 (d1.waits.length+1) c8 (q.wa++[(a2,c2)]) (d1.waits++[(b,k)])⟩,?_⟩
   intro x9 B9 g9
   have hkeep:∀ (j:Nat) (cs:Array Value) (T:TypeId),T≠202→T≠57→x2.heap[j]?=some (.cells cs T (0,0))→x9.heap[j]?=some (.cells cs T (0,0)):=fun j cs T h1 h2 hj=>
    blk_neT box8 g9 _ _ _ h2 (tr_gb hg8 hj (own_ne hd.wts hj (fun e=>h1 e.symm)))
   have hfin:=hd.wrote hkeep B9 (owns_ne ho8 g9 box8 (by decide)) hO2 hf H64.out HK3.out
   have hgr:Below B x2 x9:=bl_st ((Below.refl B x2).grown hg8 hBd (fun k e=>(hd.wts.lt k e).1)) g9 (Nat.le_trans hBd hg8.size) hd.gb
   have hkx:Kx rT B x2 x9:=⟨hgr,fun j cs T a hT=>hkeep j cs T (fun e=>by subst e;revert hT;decide) (fun e=>by subst e;revert hT;decide) a⟩
   refine hK'.out _ _ trivial (fun _=>?_)
   refine wpAnyH_done (by kernel_rfl) ?_ _
   refine HK.out _ _ ?_
   clear HK
   go_wp2
   go_ret
   exact ⟨rfl,⟨_,hfin⟩,kd.trans hkx⟩
end
end
section
theorem elSlR:ElemT Tryz.prog 54 37 1 24:=ElemT.of (.slice none 0 0) underlying54 (by kernel_rfl) rfl (by decide)
theorem elBoolR:ElemT Tryz.prog 40 4 1 1:=ElemT.of (.bool false) underlying40 (by kernel_rfl) rfl (by decide)
def zA:Array Value:=(bys zeros64).toArray
theorem make_64 (w:World):(Instr.makeSlice 37 (.int .i64 64) (.int .i64 64)).run Tryz.prog w=.ok (.slice (some ⟨w.heap.size,0,none⟩) 64 64) (w.alloc (.cells zA 5)):=by kernel_rfl
theorem build_s1 (a2 c2:Nat) (w:World):(Instr.buildSlice 54 1 #[(0,.slice (some ⟨a2,0,none⟩) 64 c2)]).run Tryz.prog w=.ok (.slice (some ⟨w.heap.size,0,none⟩) 1 1) (w.alloc (.cells #[.slice (some ⟨a2,0,none⟩) 64 c2] 37)):=by kernel_rfl
theorem wp_mk64 {w:World} {a:Act} {K:Act→World→Prop} {Q:Exit→Act→World→Prop} {dst:Option Tmp} {ty':TypeId} {pos:String} {af:Array Edge} {gd:Option (Nat×Bool)}
  (h:K (a.put dst (.slice (some ⟨w.heap.size,0,none⟩) 64 64)) (w.alloc (.cells zA 5))):(Oper.mk dst (.makeSlice 37 (.const (.int .i64 64)) (.const (.int .i64 64))) ty' pos af gd).wp Tryz.prog a w K Q:=
 wp_run (by have hb:=make_64 w;unfold execOp;simp [Act.eval,hb]) h
theorem wp_bs1 {w:World} {a:Act} {K:Act→World→Prop} {Q:Exit→Act→World→Prop} {dst:Option Tmp} {ty':TypeId} {pos:String} {af:Array Edge} {gd:Option (Nat×Bool)} (x:Operand) (a2 c2:Nat) (hx:a.eval x=.slice (some ⟨a2,0,none⟩) 64 c2)
  (h:K (a.put dst (.slice (some ⟨w.heap.size,0,none⟩) 1 1)) (w.alloc (.cells #[.slice (some ⟨a2,0,none⟩) 64 c2] 37))):(Oper.mk dst (.buildSlice 54 1 #[(0,x)]) ty' pos af gd).wp Tryz.prog a w K Q:=
 wp_run (by have hb:=build_s1 a2 c2 w;unfold execOp;simp [hx,hb]) h
theorem zA_own {B:Nat} {w:World} (hB:B≤w.heap.size):SecB B (w.alloc (.cells zA 5)) (w.heap.size,64) zeros64:=by
 have h:=owns_of_cur (w:=w.alloc (.cells zA 5)) (base:=w.heap.size) (g:=w.heap.size) (n:=64) (cap:=64) (size:=1) (e:=5) (cur:=bys zeros64) (ys:=bys zeros64) (heap_alloc_new w _) (Nat.le_refl _) (Nat.le_refl _) (by decide) (by decide) (by rw [List.take_of_length_le (by decide)])
 exact owns_mono h hB
theorem rows_apart {w:World} {B B':Nat} {v1 v2:Value} {ra ma:List (Nat×Nat)} (h1:w.ownsRow B 37 1 v1 ra.length (ra.map slv)) (h2:w.ownsRow B' 37 1 v2 ma.length (ma.map slv)) (hn1:ra=[]→v1=.slice none 0 0) (hn2:ma=[]→v2=.slice none 0 0) (hne:∀ x ∈ ra,∀ y ∈ ma,x.1≠y.1):v1.ownBlock=none∨v1.ownBlock≠v2.ownBlock:=by
 cases ra with
 | nil=>rw [hn1 rfl];exact .inl rfl
 | cons x ra=>
  cases ma with
  | nil=>
   obtain ⟨g,c,hv,_⟩:=owns_some h1 (by simp)
   rw [hv,hn2 rfl]
   right
   intro e
   cases e
  | cons y ma=>
   right
   obtain ⟨g1,c1,hv1,_⟩:=owns_some h1 (by simp)
   obtain ⟨g2,c2,hv2,_⟩:=owns_some h2 (by simp)
   subst hv1 hv2
   intro e
   have e:some g1=some g2:=e
   injection e with e
   subst e
   have a1:=h1.cellAt 0 (by simp)
   have a2:=h2.cellAt 0 (by simp)
   rw [a1] at a2
   simp [slv] at a2
   exact hne x (by simp) y (by simp) a2.1
structure NewB (B g:Nat) (rv mv lv:Value) (ra ma:List (Nat×Nat)) (k:Nat) (w:World):Prop where
 box:w.heap[g]?=some (.cells #[rv,mv,lv,.slice none 0 0,.bool false,.bool false,.int .i64 (-1)] 57 (0,0))
 rest:w.ownsRow B 37 1 rv ra.length (ra.map slv)
 meant:w.ownsRow B 37 1 mv ma.length (ma.map slv)
 lost:w.ownsRow B 4 1 lv k (List.replicate k (.bool false))
 rs:∀ x ∈ ra,SecB B w x zeros64
 ms:∀ x ∈ ma,SecB B w x zeros64
 rn:ra=[]→rv=.slice none 0 0
 mn:ma=[]→mv=.slice none 0 0
 inj:∀ (i j:Nat) (x y:Nat×Nat),ra[i]?=some x→ra[j]?=some y→x.1=y.1→i=j
 ne:∀ x ∈ ra,∀ y ∈ ma,x.1≠y.1
 gb:B≤g
section
variable {B g k:Nat} {rv mv lv:Value} {ra ma:List (Nat×Nat)} {w w':World}
theorem NewB.keep (h:NewB B g rv mv lv ra ma k w) (hk:∀ (j:Nat) (cs:Array Value) (T:TypeId),w.heap[j]?=some (.cells cs T (0,0))→w'.heap[j]?=some (.cells cs T (0,0))):NewB B g rv mv lv ra ma k w':=
 { h with
  box:=hk _ _ _ h.box
  rest:=owns_keep h.rest fun j cs=>hk j cs _
  meant:=owns_keep h.meant fun j cs=>hk j cs _
  lost:=owns_keep h.lost fun j cs=>hk j cs _
  rs:=fun x a=>owns_keep (h.rs x a) fun j cs=>hk j cs _
  ms:=fun x a=>owns_keep (h.ms x a) fun j cs=>hk j cs _ }
theorem NewB.below (h:NewB B g rv mv lv ra ma k w) (hb:Below w.heap.size w w'):NewB B g rv mv lv ra ma k w':=h.keep fun _ _ _ a=>tr_bl hb a
theorem NewB.fresh (h:NewB B g rv mv lv ra ma k w):∀ y ∈ ra++ma,y.1 < w.heap.size:=by
 intro y hy
 rw [List.mem_append] at hy
 rcases hy with hy | hy
 ·exact secB_lt (h.rs y hy)
 ·exact secB_lt (h.ms y hy)
theorem NewB.more1 {x:Nat×Nat} {rv':Value} {w8:World} (h:NewB B g rv mv lv ra ma k w) (hx:SecB B w x zeros64) (hf:∀ y ∈ ra++ma,y.1≠x.1) (hr:w8.ownsRow B 37 1 rv' (ra.length+1) (ra.map slv++[slv x])) (hg8:w.grownBy w8 rv.ownBlock)
  (hB:w'.heap[g]?=some (.cells #[rv',mv,lv,.slice none 0 0,.bool false,.bool false,.int .i64 (-1)] 57 (0,0))) (hg9:w8.grownBy w' (some g)) (hbx:w8.heap[g]?=some (.cells #[rv,mv,lv,.slice none 0 0,.bool false,.bool false,.int .i64 (-1)] 57 (0,0))) :
  NewB B g rv' mv lv (ra++[x]) ma k w':=by
 have hk:∀ (j:Nat) (cs:Array Value) (T:TypeId),T≠37→T≠57→w.heap[j]?=some (.cells cs T (0,0))→w'.heap[j]?=some (.cells cs T (0,0)):=fun j cs T h1 h2 hj=>
  blk_neT hbx hg9 _ _ _ h2 (tr_gb hg8 hj (own_ne h.rest hj (fun e=>h1 e.symm)))
 refine ⟨hB,?_,?_,?_,?_,?_,fun e=>by simp at e,h.mn,?_,?_,h.gb⟩
 ·simp only [List.length_append,List.length_singleton,List.map_append,List.map_cons,List.map_nil]
  exact owns_ne hr hg9 hbx (by decide)
 ·have h8:w8.ownsRow B 37 1 mv ma.length (ma.map slv):=World.ownsRow.kept h.meant hg8 (by
   have hap:=rows_apart h.meant h.rest h.mn h.rn (fun x hx y hy e=>h.ne y hy x hx e.symm)
   exact hap)
  exact owns_ne h8 hg9 hbx (by decide)
 ·exact owns_keep h.lost fun j cs=>hk j cs _ (by decide) (by decide)
 ·intro y hy
  rw [List.mem_append,List.mem_singleton] at hy
  rcases hy with hy | rfl
  ·exact owns_keep (h.rs y hy) fun j cs=>hk j cs _ (by decide) (by decide)
  ·exact owns_keep hx fun j cs=>hk j cs _ (by decide) (by decide)
 ·exact fun y hy=>owns_keep (h.ms y hy) fun j cs=>hk j cs _ (by decide) (by decide)
 ·intro i j y z hy hz e
  by_cases hi:i < ra.length
  ·by_cases hj:j < ra.length
   ·rw [List.getElem?_append_left hi] at hy
    rw [List.getElem?_append_left hj] at hz
    exact h.inj i j y z hy hz e
   ·rw [List.getElem?_append_left hi] at hy
    rw [List.getElem?_append_right (by omega)] at hz
    have hz2:=List.mem_of_getElem? hz
    rw [List.mem_singleton] at hz2
    subst hz2
    exact absurd e (hf y (List.mem_append_left _ (List.mem_of_getElem? hy)))
  ·by_cases hj:j < ra.length
   ·rw [List.getElem?_append_right (by omega)] at hy
    rw [List.getElem?_append_left hj] at hz
    have hy2:=List.mem_of_getElem? hy
    rw [List.mem_singleton] at hy2
    subst hy2
    exact absurd e.symm (hf z (List.mem_append_left _ (List.mem_of_getElem? hz)))
   ·have h1:=(List.getElem?_eq_some_iff.1 hy).1
    have h2:=(List.getElem?_eq_some_iff.1 hz).1
    simp at h1 h2
    omega
 ·intro y hy z hz
  rw [List.mem_append,List.mem_singleton] at hy
  rcases hy with hy | rfl
  ·exact h.ne y hy z hz
  ·exact fun e=>hf z (List.mem_append_right _ hz) e.symm
theorem NewB.more2 {x:Nat×Nat} {mv':Value} {w8:World} (h:NewB B g rv mv lv ra ma k w) (hx:SecB B w x zeros64) (hf:∀ y ∈ ra++ma,y.1≠x.1) (hr:w8.ownsRow B 37 1 mv' (ma.length+1) (ma.map slv++[slv x])) (hg8:w.grownBy w8 mv.ownBlock)
  (hB:w'.heap[g]?=some (.cells #[rv,mv',lv,.slice none 0 0,.bool false,.bool false,.int .i64 (-1)] 57 (0,0))) (hg9:w8.grownBy w' (some g)) (hbx:w8.heap[g]?=some (.cells #[rv,mv,lv,.slice none 0 0,.bool false,.bool false,.int .i64 (-1)] 57 (0,0))) :
  NewB B g rv mv' lv ra (ma++[x]) k w':=by
 have hk:∀ (j:Nat) (cs:Array Value) (T:TypeId),T≠37→T≠57→w.heap[j]?=some (.cells cs T (0,0))→w'.heap[j]?=some (.cells cs T (0,0)):=fun j cs T h1 h2 hj=>
  blk_neT hbx hg9 _ _ _ h2 (tr_gb hg8 hj (own_ne h.meant hj (fun e=>h1 e.symm)))
 refine ⟨hB,?_,?_,?_,?_,?_,h.rn,fun e=>by simp at e,h.inj,?_,h.gb⟩
 ·have h8:w8.ownsRow B 37 1 rv ra.length (ra.map slv):=World.ownsRow.kept h.rest hg8 (rows_apart h.rest h.meant h.rn h.mn h.ne)
  exact owns_ne h8 hg9 hbx (by decide)
 ·simp only [List.length_append,List.length_singleton,List.map_append,List.map_cons,List.map_nil]
  exact owns_ne hr hg9 hbx (by decide)
 ·exact owns_keep h.lost fun j cs=>hk j cs _ (by decide) (by decide)
 ·exact fun y hy=>owns_keep (h.rs y hy) fun j cs=>hk j cs _ (by decide) (by decide)
 ·intro y hy
  rw [List.mem_append,List.mem_singleton] at hy
  rcases hy with hy | rfl
  ·exact owns_keep (h.ms y hy) fun j cs=>hk j cs _ (by decide) (by decide)
  ·exact owns_keep hx fun j cs=>hk j cs _ (by decide) (by decide)
 ·intro y hy z hz
  rw [List.mem_append,List.mem_singleton] at hz
  rcases hz with hz | rfl
  ·exact h.ne y hy z hz
  ·exact hf y (List.mem_append_left _ hy)
theorem NewB.more3 {lv':Value} {w8:World} (h:NewB B g rv mv lv ra ma k w) (hr:w8.ownsRow B 4 1 lv' (k+1) (List.replicate k (.bool false)++[.bool false])) (hg8:w.grownBy w8 lv.ownBlock)
  (hB:w'.heap[g]?=some (.cells #[rv,mv,lv',.slice none 0 0,.bool false,.bool false,.int .i64 (-1)] 57 (0,0))) (hg9:w8.grownBy w' (some g)) (hbx:w8.heap[g]?=some (.cells #[rv,mv,lv,.slice none 0 0,.bool false,.bool false,.int .i64 (-1)] 57 (0,0))) :
  NewB B g rv mv lv' ra ma (k+1) w':=by
 have hk:∀ (j:Nat) (cs:Array Value) (T:TypeId),T≠4→T≠57→w.heap[j]?=some (.cells cs T (0,0))→w'.heap[j]?=some (.cells cs T (0,0)):=fun j cs T h1 h2 hj=>
  blk_neT hbx hg9 _ _ _ h2 (tr_gb hg8 hj (own_ne h.lost hj (fun e=>h1 e.symm)))
 refine ⟨hB,?_,?_,?_,?_,?_,h.rn,h.mn,h.inj,h.ne,h.gb⟩
 ·exact owns_keep h.rest fun j cs=>hk j cs _ (by decide) (by decide)
 ·exact owns_keep h.meant fun j cs=>hk j cs _ (by decide) (by decide)
 ·rw [List.replicate_succ']
  exact owns_ne hr hg9 hbx (by decide)
 ·exact fun y hy=>owns_keep (h.rs y hy) fun j cs=>hk j cs _ (by decide) (by decide)
 ·exact fun y hy=>owns_keep (h.ms y hy) fun j cs=>hk j cs _ (by decide) (by decide)
theorem NewB.made (h:NewB B g rv mv lv ra ma k w) (h1:ra.length=k) (h2:ma.length=k) (h0:0 < k) (h1024:k≤1024):∃ q,RefB B g q (newDk k) w:=by
 have hr:=h.rest
 have hm:=h.meant
 have hap:=rows_apart h.rest h.meant h.rn h.mn h.ne
 rw [h1] at hr
 rw [h2] at hm
 obtain ⟨rb,rc,rfl,_⟩:=owns_some hr h0
 obtain ⟨mb,mc,rfl,_⟩:=owns_some hm h0
 have hl:=h.lost
 obtain ⟨lb,lc,rfl,_⟩:=owns_some hl h0
 have hn:(newDk k).pl.length=k:=by simp [newDk]
 have hat:∀ (s:Nat) (p:Pl),(newDk k).pl[s]?=some p→p=zeroPl:=fun s p hp=>by
  unfold newDk at hp
  simp only [List.getElem?_replicate] at hp
  split at hp
  ·injection hp with hp
   exact hp.symm
  ·cases hp
 refine ⟨⟨rb,rc,mb,mc,lb,lc,.slice none 0 0,ra,ma,[]⟩,⟨?_,?_,?_,?_,World.ownsRow_nil _ _ _ _,?_,?_,?_,by rw [hn,h1],by rw [hn,h2],rfl,⟨h.inj,fun x hx y hy=>h.ne x hx y (by simpa using hy)⟩,?_,h.gb,by rw [hn];exact h0,by rw [hn];exact h1024,(show (-1:Int) ≤ -1 by decide),(show (-1:Int)≤9223372036854775807 by decide),?_,fun x hx=>by cases hx⟩⟩
 ·have:=h.box
  unfold rkA
  simp only [hn]
  exact this
 ·simp only [hn];exact hr
 ·simp only [hn];exact hm
 ·simp only [hn]
  have e:(newDk k).pl.map (fun p=>Value.bool p.lost)=List.replicate k (.bool false):=by simp [newDk,zeroPl]
  rw [e]
  exact hl
 ·intro s x p hx hp
  rw [hat s p hp]
  exact h.rs x (List.mem_of_getElem? hx)
 ·intro s x p hx hp
  rw [hat s p hp]
  exact h.ms x (List.mem_of_getElem? hx)
 ·intro i x y hx
  simp at hx
 ·intro e
  simp only at e
  rcases hap with hap | hap
  ·cases hap
  ·exact hap (by show some rb=some mb;rw [e])
 ·intro p hp
  obtain ⟨i,hi⟩:=List.getElem?_of_mem hp
  rw [hat i p hi]
  exact ⟨by decide,by decide⟩
end
theorem nb_0 (rv mv lv:Value) (a:Option Addr) (n c:Nat):0+1≤(#[rv,mv,lv,.slice none 0 0,.bool false,.bool false,.int .i64 (-1)]:Array Value).size∧(Value.slice a n c).cells.size=1∧(∀ u ∈ (Value.slice a n c).cells.toList,u.oneCell'=true)∧((#[rv,mv,lv,.slice none 0 0,.bool false,.bool false,.int .i64 (-1)]:Array Value).toList.take 0++(Value.slice a n c).cells.toList++(#[rv,mv,lv,.slice none 0 0,.bool false,.bool false,.int .i64 (-1)]:Array Value).toList.drop (0+1)).toArray=#[.slice a n c,mv,lv,.slice none 0 0,.bool false,.bool false,.int .i64 (-1)]:=
 ⟨by simp,rfl,by simp [Value.cells,Value.oneCell'],rfl⟩
theorem nb_1 (rv mv lv:Value) (a:Option Addr) (n c:Nat):1+1≤(#[rv,mv,lv,.slice none 0 0,.bool false,.bool false,.int .i64 (-1)]:Array Value).size∧(Value.slice a n c).cells.size=1∧(∀ u ∈ (Value.slice a n c).cells.toList,u.oneCell'=true)∧((#[rv,mv,lv,.slice none 0 0,.bool false,.bool false,.int .i64 (-1)]:Array Value).toList.take 1++(Value.slice a n c).cells.toList++(#[rv,mv,lv,.slice none 0 0,.bool false,.bool false,.int .i64 (-1)]:Array Value).toList.drop (1+1)).toArray=#[rv,.slice a n c,lv,.slice none 0 0,.bool false,.bool false,.int .i64 (-1)]:=
 ⟨by simp,rfl,by simp [Value.cells,Value.oneCell'],rfl⟩
theorem nb_2 (rv mv lv:Value) (a:Option Addr) (n c:Nat):2+1≤(#[rv,mv,lv,.slice none 0 0,.bool false,.bool false,.int .i64 (-1)]:Array Value).size∧(Value.slice a n c).cells.size=1∧(∀ u ∈ (Value.slice a n c).cells.toList,u.oneCell'=true)∧((#[rv,mv,lv,.slice none 0 0,.bool false,.bool false,.int .i64 (-1)]:Array Value).toList.take 2++(Value.slice a n c).cells.toList++(#[rv,mv,lv,.slice none 0 0,.bool false,.bool false,.int .i64 (-1)]:Array Value).toList.drop (2+1)).toArray=#[rv,mv,.slice a n c,.slice none 0 0,.bool false,.bool false,.int .i64 (-1)]:=
 ⟨by simp,rfl,by simp [Value.cells,Value.oneCell'],rfl⟩
def MadeR (n:Nat) (w:World) (e:Ending) (w':World):Prop:=∃ g,e=.returned (.tuple #[.pointer (some ⟨g,0,none⟩),.bool true])∧(∃ q,RefB w.heap.size g q (newDk n) w')∧Below w.heap.size w w'
theorem rnew_any (n:Nat) (hn0:0 < n) (hn:n≤1024) (w:World):Calls Tryz.prog 7 #[.int .i64 (n:Int)] w (MadeR n w):=by
 have W0:=heap_alloc_new w (Obj.cells #[.slice none 0 0,.slice none 0 0,.slice none 0 0,.slice none 0 0,.bool false,.bool false,.int .i64 (-1)] 57)
 have hb1:=blw w (Obj.cells #[.slice none 0 0,.slice none 0 0,.slice none 0 0,.slice none 0 0,.bool false,.bool false,.int .i64 (-1)] 57)
 obtain ⟨B,hBe⟩:∃ B,w.heap.size=B:=⟨_,rfl⟩
 have HBE:=Lib.hid hBe
 go_enter func7,ntmps7
 refine seqH fun K HK=>?_
 go_wp2
 refine HK.out _ _ ?_
 clear HK
 refine seqH fun K HK=>?_
 go_wp2
 refine HK.out _ _ ?_
 clear HK
 refine seqH fun K HK=>?_
 go_wp2
 refine HK.out _ _ ?_
 clear HK
 generalize w.alloc (Obj.cells #[.slice none 0 0,.slice none 0 0,.slice none 0 0,.slice none 0 0,.bool false,.bool false,.int .i64 (-1)] 57)=w1 at *
 have N0:NewB B B (.slice none 0 0) (.slice none 0 0) (.slice none 0 0) [] [] 0 w1:=by
  rw [hBe] at W0
  exact ⟨W0,World.ownsRow_nil _ _ _ _,World.ownsRow_nil _ _ _ _,World.ownsRow_nil _ _ _ _,(fun x hx=>by cases hx),(fun x hx=>by cases hx),fun _=>rfl,fun _=>rfl,(fun i j x y hx=>by simp at hx),(fun x hx=>by cases hx),Nat.le_refl _⟩
 rw [hBe] at hb1
 have hBw:B≤w.heap.size:=Nat.le_of_eq hBe.symm
 clear W0 hBe
 refine wp_seq_k (fun K hK=>?_)
 go_cut [] (fun wx=>(∃ q,RefB B B q (newDk n) wx)∧Below B w wx)
 case first=>
  go_wp2
  go_loopw [5] (fun i wr=>∃ (k:Nat) (rv mv lv:Value) (ra ma:List (Nat×Nat)),k≤n∧i=.int .i64 k∧NewB B B rv mv lv ra ma k wr∧Hid (ra.length=k∧ma.length=k)∧Below B w wr) (fun i _=>n - (intOf i).toNat)
  case atStart=>exact ⟨0,_,_,_,[],[],by omega,rfl,N0,Lib.hid ⟨rfl,rfl⟩,hb1⟩
  case round=>
   obtain ⟨k,rv,mv,lv,ra,ma,hk,rfl,hNr,HL,hbr⟩:=hrel
   have hB0r:=Nat.le_trans hBw hbr.size
   by_cases hlt:k < n
   case neg=>
    obtain ⟨q,hq⟩:=hNr.made HL.out.1 HL.out.2 (by omega) (by omega)
    have e:k=n:=by omega
    rw [e] at hq
    clear e
    go_wp2
    go_meet
    exact ⟨⟨q,hq⟩,hbr⟩
   case pos=>
    have hl1:=HL.out.1
    have hl2:=HL.out.2
    have hr1:ra.length≤1024:=by omega
    have hr2:ma.length≤1024:=by omega
    clear hl1 hl2
    refine seqH fun K HK=>?_
    go_wp2
    refine HK.out _ _ ?_
    clear HK
    refine seqH fun K HK1=>?_
    refine wp_block ?_
    refine wp_seq_k (fun K hK=>?_)
    go_cut [] (fun wx=>∃ (rv':Value) (x:Nat×Nat),NewB B B rv' mv lv (ra++[x]) ma k wx∧Below B w wx)
    case first=>
     go_wp2_with fail
     have hb0:=hbr.trans ((Below.refl wr.heap.size wr).drew.mono hB0r)
     have hN:=hNr.below (Below.refl wr.heap.size wr).drew
     have hB0:B≤wr.drew.heap.size:=hB0r
     refine wp_region_held_drew (S:=fun _=>True) (by kernel_rfl) trivial (fun hS0=>?_)
     clear hNr hbr hB0r
     generalize wr.drew=x0 at *
     refine tkP 0 rfl ?_
     refine tkP 1 rfl ?_
     refine tkP 2 rfl ?_
     refine tkP 3 rfl ?_
     refine wpAnyH_ready (rs:=[4,5]) (by kernel_rfl) (by simp) ?_
     refine AllReadyH.cons (o:=⟨_,_,_,_,_,_⟩) rfl (fun K' hK'=>?_) (AllReadyH.cons (o:=⟨_,_,_,_,_,_⟩) rfl (fun K' hK'=>?_) AllReadyH.nil)
     ·refine (if_pos (by rfl)).mpr ?_
      have c:=blk_cell hN.box 0 rv rfl
      go_simp
      clear c
      refine hK'.out _ _ trivial (fun _=>?_)
      (try simp only [Act.put,qa1,qa2,qa3])
      refine rdy1 5 rfl (fun K' hK'=>?_)
      refine wp_mk64 ?_
      have hx:SecB B (x0.alloc (Obj.cells zA 5)) (x0.heap.size,64) zeros64:=zA_own hB0
      have hf:∀ y ∈ ra++ma,y.1≠x0.heap.size:=fun y hy=>by have:=hN.fresh y hy;omega
      replace hN:=hN.below (blw x0 (Obj.cells zA 5))
      replace hb0:=hb0.trans ((blw x0 (Obj.cells zA 5)).mono hB0)
      replace hB0:=Nat.le_trans hB0 (blw x0 (Obj.cells zA 5)).size
      refine hK'.out _ _ trivial (fun _=>?_)
      (try simp only [Act.put,qa1,qa2,qa3])
      generalize x0.alloc (Obj.cells zA 5)=x1 at *
      generalize x0.heap.size=sb at *
      refine rdy1 6 rfl (fun K' hK'=>?_)
      refine wp_bs1 _ sb 64 rfl ?_
      have hC:=heap_alloc_new x1 (Obj.cells #[.slice (some ⟨sb,0,none⟩) 64 64] 37)
      replace hx:SecB B (x1.alloc (Obj.cells #[.slice (some ⟨sb,0,none⟩) 64 64] 37)) (sb,64) zeros64:=owns_bl hx (blw x1 (Obj.cells #[.slice (some ⟨sb,0,none⟩) 64 64] 37))
      replace hN:=hN.below (blw x1 (Obj.cells #[.slice (some ⟨sb,0,none⟩) 64 64] 37))
      replace hb0:=hb0.trans ((blw x1 (Obj.cells #[.slice (some ⟨sb,0,none⟩) 64 64] 37)).mono hB0)
      replace hB0:=Nat.le_trans hB0 (blw x1 (Obj.cells #[.slice (some ⟨sb,0,none⟩) 64 64] 37)).size
      refine hK'.out _ _ trivial (fun _=>?_)
      (try simp only [Act.put,qa1,qa2,qa3])
      generalize x1.alloc (Obj.cells #[.slice (some ⟨sb,0,none⟩) 64 64] 37)=x2 at *
      generalize x1.heap.size=nb at *
      refine rdy1 7 rfl (fun K' hK'=>?_)
      refine wp_appN _ _ 54 54 37 37 elSlR underlying54 rfl B rv ra.length (ra.map slv) rfl hN.rest ⟨nb,0,none⟩ 1 1 [slv (sb,64)] rfl rfl (fun j u hu=>?_) (by simp [slv,Value.oneCell']) (by omega) (by decide) hB0 ?_
      ·rw [addr_add,Nat.zero_add]
       exact blk_cell hC j u (by rw [← Array.getElem?_toList];exact hu)
      intro v8 x8 ho8 hg8
      obtain ⟨a8,c8,rfl,_⟩:=Row.of_owns ho8
      refine hK'.out _ _ trivial (fun _=>?_)
      (try simp only [Act.put,qa1,qa2,qa3])
      refine tkP 8 rfl ?_
      refine tkP 9 rfl ?_
      refine rdy1 10 rfl (fun K' hK'=>?_)
      have box8:=tr_gb hg8 hN.box (own_ne hN.rest hN.box (by decide))
      refine wp_stB 54 _ _ ?_
      refine ⟨_,_,_,⟨_,_,_,sizeOf54,rfl,box8,nb_0 _ _ _ a8 (ra.length+1) c8⟩,?_⟩
      intro x9 B9 g9
      have hfin:=hN.more1 hx hf ho8 hg8 B9 g9 box8
      have hgr:=bl_st ((Below.refl B x2).grown hg8 hB0 (fun k e=>(hN.rest.lt k e).1)) g9 (Nat.le_trans hB0 hg8.size) hN.gb
      replace hb0:=hb0.trans hgr
      replace hB0:=Nat.le_trans hB0 hgr.size
      refine hK'.out _ _ trivial (fun _=>?_)
      refine wpAnyH_done (by kernel_rfl) ?_ _
      clear hg8 B9 g9 hN hx hf box8 hgr hC ho8
      go_wp2;go_meet;exact ⟨_,_,hfin,hb0⟩
     ·refine (if_pos (by rfl)).mpr ?_
      refine wp_mk64 ?_
      have hx:SecB B (x0.alloc (Obj.cells zA 5)) (x0.heap.size,64) zeros64:=zA_own hB0
      have hf:∀ y ∈ ra++ma,y.1≠x0.heap.size:=fun y hy=>by have:=hN.fresh y hy;omega
      replace hN:=hN.below (blw x0 (Obj.cells zA 5))
      replace hb0:=hb0.trans ((blw x0 (Obj.cells zA 5)).mono hB0)
      replace hB0:=Nat.le_trans hB0 (blw x0 (Obj.cells zA 5)).size
      refine hK'.out _ _ trivial (fun _=>?_)
      (try simp only [Act.put,qa1,qa2,qa3])
      generalize x0.alloc (Obj.cells zA 5)=x1 at *
      generalize x0.heap.size=sb at *
      refine wpAnyH_ready (rs:=[4,6]) (by kernel_rfl) (by simp) ?_
      refine AllReadyH.cons (o:=⟨_,_,_,_,_,_⟩) rfl (fun K' hK'=>?_) (AllReadyH.cons (o:=⟨_,_,_,_,_,_⟩) rfl (fun K' hK'=>?_) AllReadyH.nil)
      ·refine (if_pos (by rfl)).mpr ?_
       have c:=blk_cell hN.box 0 rv rfl
       go_simp
       clear c
       refine hK'.out _ _ trivial (fun _=>?_)
       (try simp only [Act.put,qa1,qa2,qa3])
       refine rdy1 6 rfl (fun K' hK'=>?_)
       refine wp_bs1 _ sb 64 rfl ?_
       have hC:=heap_alloc_new x1 (Obj.cells #[.slice (some ⟨sb,0,none⟩) 64 64] 37)
       replace hx:SecB B (x1.alloc (Obj.cells #[.slice (some ⟨sb,0,none⟩) 64 64] 37)) (sb,64) zeros64:=owns_bl hx (blw x1 (Obj.cells #[.slice (some ⟨sb,0,none⟩) 64 64] 37))
       replace hN:=hN.below (blw x1 (Obj.cells #[.slice (some ⟨sb,0,none⟩) 64 64] 37))
       replace hb0:=hb0.trans ((blw x1 (Obj.cells #[.slice (some ⟨sb,0,none⟩) 64 64] 37)).mono hB0)
       replace hB0:=Nat.le_trans hB0 (blw x1 (Obj.cells #[.slice (some ⟨sb,0,none⟩) 64 64] 37)).size
       refine hK'.out _ _ trivial (fun _=>?_)
       (try simp only [Act.put,qa1,qa2,qa3])
       generalize x1.alloc (Obj.cells #[.slice (some ⟨sb,0,none⟩) 64 64] 37)=x2 at *
       generalize x1.heap.size=nb at *
       refine rdy1 7 rfl (fun K' hK'=>?_)
       refine wp_appN _ _ 54 54 37 37 elSlR underlying54 rfl B rv ra.length (ra.map slv) rfl hN.rest ⟨nb,0,none⟩ 1 1 [slv (sb,64)] rfl rfl (fun j u hu=>?_) (by simp [slv,Value.oneCell']) (by omega) (by decide) hB0 ?_
       ·rw [addr_add,Nat.zero_add]
        exact blk_cell hC j u (by rw [← Array.getElem?_toList];exact hu)
       intro v8 x8 ho8 hg8
       obtain ⟨a8,c8,rfl,_⟩:=Row.of_owns ho8
       refine hK'.out _ _ trivial (fun _=>?_)
       (try simp only [Act.put,qa1,qa2,qa3])
       refine tkP 8 rfl ?_
       refine tkP 9 rfl ?_
       refine rdy1 10 rfl (fun K' hK'=>?_)
       have box8:=tr_gb hg8 hN.box (own_ne hN.rest hN.box (by decide))
       refine wp_stB 54 _ _ ?_
       refine ⟨_,_,_,⟨_,_,_,sizeOf54,rfl,box8,nb_0 _ _ _ a8 (ra.length+1) c8⟩,?_⟩
       intro x9 B9 g9
       have hfin:=hN.more1 hx hf ho8 hg8 B9 g9 box8
       have hgr:=bl_st ((Below.refl B x2).grown hg8 hB0 (fun k e=>(hN.rest.lt k e).1)) g9 (Nat.le_trans hB0 hg8.size) hN.gb
       replace hb0:=hb0.trans hgr
       replace hB0:=Nat.le_trans hB0 hgr.size
       refine hK'.out _ _ trivial (fun _=>?_)
       refine wpAnyH_done (by kernel_rfl) ?_ _
       clear hg8 B9 g9 hN hx hf box8 hgr hC ho8
       go_wp2;go_meet;exact ⟨_,_,hfin,hb0⟩
      ·refine (if_pos (by rfl)).mpr ?_
       refine wp_bs1 _ sb 64 rfl ?_
       have hC:=heap_alloc_new x1 (Obj.cells #[.slice (some ⟨sb,0,none⟩) 64 64] 37)
       replace hx:SecB B (x1.alloc (Obj.cells #[.slice (some ⟨sb,0,none⟩) 64 64] 37)) (sb,64) zeros64:=owns_bl hx (blw x1 (Obj.cells #[.slice (some ⟨sb,0,none⟩) 64 64] 37))
       replace hN:=hN.below (blw x1 (Obj.cells #[.slice (some ⟨sb,0,none⟩) 64 64] 37))
       replace hb0:=hb0.trans ((blw x1 (Obj.cells #[.slice (some ⟨sb,0,none⟩) 64 64] 37)).mono hB0)
       replace hB0:=Nat.le_trans hB0 (blw x1 (Obj.cells #[.slice (some ⟨sb,0,none⟩) 64 64] 37)).size
       refine hK'.out _ _ trivial (fun _=>?_)
       (try simp only [Act.put,qa1,qa2,qa3])
       generalize x1.alloc (Obj.cells #[.slice (some ⟨sb,0,none⟩) 64 64] 37)=x2 at *
       generalize x1.heap.size=nb at *
       refine rdy1 4 rfl (fun K' hK'=>?_)
       have c:=blk_cell hN.box 0 rv rfl
       go_simp
       clear c
       refine hK'.out _ _ trivial (fun _=>?_)
       (try simp only [Act.put,qa1,qa2,qa3])
       refine rdy1 7 rfl (fun K' hK'=>?_)
       refine wp_appN _ _ 54 54 37 37 elSlR underlying54 rfl B rv ra.length (ra.map slv) rfl hN.rest ⟨nb,0,none⟩ 1 1 [slv (sb,64)] rfl rfl (fun j u hu=>?_) (by simp [slv,Value.oneCell']) (by omega) (by decide) hB0 ?_
       ·rw [addr_add,Nat.zero_add]
        exact blk_cell hC j u (by rw [← Array.getElem?_toList];exact hu)
       intro v8 x8 ho8 hg8
       obtain ⟨a8,c8,rfl,_⟩:=Row.of_owns ho8
       refine hK'.out _ _ trivial (fun _=>?_)
       (try simp only [Act.put,qa1,qa2,qa3])
       refine tkP 8 rfl ?_
       refine tkP 9 rfl ?_
       refine rdy1 10 rfl (fun K' hK'=>?_)
       have box8:=tr_gb hg8 hN.box (own_ne hN.rest hN.box (by decide))
       refine wp_stB 54 _ _ ?_
       refine ⟨_,_,_,⟨_,_,_,sizeOf54,rfl,box8,nb_0 _ _ _ a8 (ra.length+1) c8⟩,?_⟩
       intro x9 B9 g9
       have hfin:=hN.more1 hx hf ho8 hg8 B9 g9 box8
       have hgr:=bl_st ((Below.refl B x2).grown hg8 hB0 (fun k e=>(hN.rest.lt k e).1)) g9 (Nat.le_trans hB0 hg8.size) hN.gb
       replace hb0:=hb0.trans hgr
       replace hB0:=Nat.le_trans hB0 hgr.size
       refine hK'.out _ _ trivial (fun _=>?_)
       refine wpAnyH_done (by kernel_rfl) ?_ _
       clear hg8 B9 g9 hN hx hf box8 hgr hC ho8
       go_wp2;go_meet;exact ⟨_,_,hfin,hb0⟩
    obtain ⟨rv2,x2,hN2,hb2⟩:=hcut
    refine hK _ _ ?_
    clear hK hNr hbr
    have hB2:=Nat.le_trans hBw hb2.size
    obtain ⟨ra2,hra2⟩:∃ l,ra++[x2]=l:=⟨_,rfl⟩
    rw [hra2] at hN2
    have HL2:Hid (ra2.length=k+1):=Lib.hid (by rw [← hra2,List.length_append,HL.out.1];rfl)
    have HLM:=Lib.hid HL.out.2
    clear hra2 HL
    obtain ⟨wr,rfl⟩:∃ wr:World,wr=wc:=⟨_,rfl⟩
    obtain ⟨ra,rfl⟩:∃ l,l=ra2:=⟨_,rfl⟩
    refine wp_seq_k (fun K hK=>?_)
    go_cut [] (fun wx=>∃ (mv':Value) (y:Nat×Nat),NewB B B rv2 mv' lv ra (ma++[y]) k wx∧Below B w wx)
    case first=>
     have hNr:=hN2
     have hbr:=hb2
     have hB0r:=hB2
     clear hN2 hb2 hB2
     go_wp2_with fail
     have hb0:=hbr.trans ((Below.refl wr.heap.size wr).drew.mono hB0r)
     have hN:=hNr.below (Below.refl wr.heap.size wr).drew
     have hB0:B≤wr.drew.heap.size:=hB0r
     refine wp_region_held_drew (S:=fun _=>True) (by kernel_rfl) trivial (fun hS0=>?_)
     clear hNr hbr hB0r
     generalize wr.drew=x0 at *
     refine tkP 0 rfl ?_
     refine tkP 1 rfl ?_
     refine tkP 2 rfl ?_
     refine tkP 3 rfl ?_
     refine wpAnyH_ready (rs:=[4,5]) (by kernel_rfl) (by simp) ?_
     refine AllReadyH.cons (o:=⟨_,_,_,_,_,_⟩) rfl (fun K' hK'=>?_) (AllReadyH.cons (o:=⟨_,_,_,_,_,_⟩) rfl (fun K' hK'=>?_) AllReadyH.nil)
     ·refine (if_pos (by rfl)).mpr ?_
      have c:=blk_cell hN.box 1 mv rfl
      go_simp
      clear c
      refine hK'.out _ _ trivial (fun _=>?_)
      (try simp only [Act.put,qa1,qa2,qa3])
      refine rdy1 5 rfl (fun K' hK'=>?_)
      refine wp_mk64 ?_
      have hx:SecB B (x0.alloc (Obj.cells zA 5)) (x0.heap.size,64) zeros64:=zA_own hB0
      have hf:∀ y ∈ ra++ma,y.1≠x0.heap.size:=fun y hy=>by have:=hN.fresh y hy;omega
      replace hN:=hN.below (blw x0 (Obj.cells zA 5))
      replace hb0:=hb0.trans ((blw x0 (Obj.cells zA 5)).mono hB0)
      replace hB0:=Nat.le_trans hB0 (blw x0 (Obj.cells zA 5)).size
      refine hK'.out _ _ trivial (fun _=>?_)
      (try simp only [Act.put,qa1,qa2,qa3])
      generalize x0.alloc (Obj.cells zA 5)=x1 at *
      generalize x0.heap.size=sb at *
      refine rdy1 6 rfl (fun K' hK'=>?_)
      refine wp_bs1 _ sb 64 rfl ?_
      have hC:=heap_alloc_new x1 (Obj.cells #[.slice (some ⟨sb,0,none⟩) 64 64] 37)
      replace hx:SecB B (x1.alloc (Obj.cells #[.slice (some ⟨sb,0,none⟩) 64 64] 37)) (sb,64) zeros64:=owns_bl hx (blw x1 (Obj.cells #[.slice (some ⟨sb,0,none⟩) 64 64] 37))
      replace hN:=hN.below (blw x1 (Obj.cells #[.slice (some ⟨sb,0,none⟩) 64 64] 37))
      replace hb0:=hb0.trans ((blw x1 (Obj.cells #[.slice (some ⟨sb,0,none⟩) 64 64] 37)).mono hB0)
      replace hB0:=Nat.le_trans hB0 (blw x1 (Obj.cells #[.slice (some ⟨sb,0,none⟩) 64 64] 37)).size
      refine hK'.out _ _ trivial (fun _=>?_)
      (try simp only [Act.put,qa1,qa2,qa3])
      generalize x1.alloc (Obj.cells #[.slice (some ⟨sb,0,none⟩) 64 64] 37)=x2 at *
      generalize x1.heap.size=nb at *
      refine rdy1 7 rfl (fun K' hK'=>?_)
      refine wp_appN _ _ 54 54 37 37 elSlR underlying54 rfl B mv ma.length (ma.map slv) rfl hN.meant ⟨nb,0,none⟩ 1 1 [slv (sb,64)] rfl rfl (fun j u hu=>?_) (by simp [slv,Value.oneCell']) (by omega) (by decide) hB0 ?_
      ·rw [addr_add,Nat.zero_add]
       exact blk_cell hC j u (by rw [← Array.getElem?_toList];exact hu)
      intro v8 x8 ho8 hg8
      obtain ⟨a8,c8,rfl,_⟩:=Row.of_owns ho8
      refine hK'.out _ _ trivial (fun _=>?_)
      (try simp only [Act.put,qa1,qa2,qa3])
      refine tkP 8 rfl ?_
      refine tkP 9 rfl ?_
      refine rdy1 10 rfl (fun K' hK'=>?_)
      have box8:=tr_gb hg8 hN.box (own_ne hN.meant hN.box (by decide))
      refine wp_stB 54 _ _ ?_
      refine ⟨_,_,_,⟨_,_,_,sizeOf54,rfl,box8,nb_1 _ _ _ a8 (ma.length+1) c8⟩,?_⟩
      intro x9 B9 g9
      have hfin:=hN.more2 hx hf ho8 hg8 B9 g9 box8
      have hgr:=bl_st ((Below.refl B x2).grown hg8 hB0 (fun k e=>(hN.meant.lt k e).1)) g9 (Nat.le_trans hB0 hg8.size) hN.gb
      replace hb0:=hb0.trans hgr
      replace hB0:=Nat.le_trans hB0 hgr.size
      refine hK'.out _ _ trivial (fun _=>?_)
      refine wpAnyH_done (by kernel_rfl) ?_ _
      clear hg8 B9 g9 hN hx hf box8 hgr hC ho8
      go_wp2;go_meet;exact ⟨_,_,hfin,hb0⟩
     ·refine (if_pos (by rfl)).mpr ?_
      refine wp_mk64 ?_
      have hx:SecB B (x0.alloc (Obj.cells zA 5)) (x0.heap.size,64) zeros64:=zA_own hB0
      have hf:∀ y ∈ ra++ma,y.1≠x0.heap.size:=fun y hy=>by have:=hN.fresh y hy;omega
      replace hN:=hN.below (blw x0 (Obj.cells zA 5))
      replace hb0:=hb0.trans ((blw x0 (Obj.cells zA 5)).mono hB0)
      replace hB0:=Nat.le_trans hB0 (blw x0 (Obj.cells zA 5)).size
      refine hK'.out _ _ trivial (fun _=>?_)
      (try simp only [Act.put,qa1,qa2,qa3])
      generalize x0.alloc (Obj.cells zA 5)=x1 at *
      generalize x0.heap.size=sb at *
      refine wpAnyH_ready (rs:=[4,6]) (by kernel_rfl) (by simp) ?_
      refine AllReadyH.cons (o:=⟨_,_,_,_,_,_⟩) rfl (fun K' hK'=>?_) (AllReadyH.cons (o:=⟨_,_,_,_,_,_⟩) rfl (fun K' hK'=>?_) AllReadyH.nil)
      ·refine (if_pos (by rfl)).mpr ?_
       have c:=blk_cell hN.box 1 mv rfl
       go_simp
       clear c
       refine hK'.out _ _ trivial (fun _=>?_)
       (try simp only [Act.put,qa1,qa2,qa3])
       refine rdy1 6 rfl (fun K' hK'=>?_)
       refine wp_bs1 _ sb 64 rfl ?_
       have hC:=heap_alloc_new x1 (Obj.cells #[.slice (some ⟨sb,0,none⟩) 64 64] 37)
       replace hx:SecB B (x1.alloc (Obj.cells #[.slice (some ⟨sb,0,none⟩) 64 64] 37)) (sb,64) zeros64:=owns_bl hx (blw x1 (Obj.cells #[.slice (some ⟨sb,0,none⟩) 64 64] 37))
       replace hN:=hN.below (blw x1 (Obj.cells #[.slice (some ⟨sb,0,none⟩) 64 64] 37))
       replace hb0:=hb0.trans ((blw x1 (Obj.cells #[.slice (some ⟨sb,0,none⟩) 64 64] 37)).mono hB0)
       replace hB0:=Nat.le_trans hB0 (blw x1 (Obj.cells #[.slice (some ⟨sb,0,none⟩) 64 64] 37)).size
       refine hK'.out _ _ trivial (fun _=>?_)
       (try simp only [Act.put,qa1,qa2,qa3])
       generalize x1.alloc (Obj.cells #[.slice (some ⟨sb,0,none⟩) 64 64] 37)=x2 at *
       generalize x1.heap.size=nb at *
       refine rdy1 7 rfl (fun K' hK'=>?_)
       refine wp_appN _ _ 54 54 37 37 elSlR underlying54 rfl B mv ma.length (ma.map slv) rfl hN.meant ⟨nb,0,none⟩ 1 1 [slv (sb,64)] rfl rfl (fun j u hu=>?_) (by simp [slv,Value.oneCell']) (by omega) (by decide) hB0 ?_
       ·rw [addr_add,Nat.zero_add]
        exact blk_cell hC j u (by rw [← Array.getElem?_toList];exact hu)
       intro v8 x8 ho8 hg8
       obtain ⟨a8,c8,rfl,_⟩:=Row.of_owns ho8
       refine hK'.out _ _ trivial (fun _=>?_)
       (try simp only [Act.put,qa1,qa2,qa3])
       refine tkP 8 rfl ?_
       refine tkP 9 rfl ?_
       refine rdy1 10 rfl (fun K' hK'=>?_)
       have box8:=tr_gb hg8 hN.box (own_ne hN.meant hN.box (by decide))
       refine wp_stB 54 _ _ ?_
       refine ⟨_,_,_,⟨_,_,_,sizeOf54,rfl,box8,nb_1 _ _ _ a8 (ma.length+1) c8⟩,?_⟩
       intro x9 B9 g9
       have hfin:=hN.more2 hx hf ho8 hg8 B9 g9 box8
       have hgr:=bl_st ((Below.refl B x2).grown hg8 hB0 (fun k e=>(hN.meant.lt k e).1)) g9 (Nat.le_trans hB0 hg8.size) hN.gb
       replace hb0:=hb0.trans hgr
       replace hB0:=Nat.le_trans hB0 hgr.size
       refine hK'.out _ _ trivial (fun _=>?_)
       refine wpAnyH_done (by kernel_rfl) ?_ _
       clear hg8 B9 g9 hN hx hf box8 hgr hC ho8
       go_wp2;go_meet;exact ⟨_,_,hfin,hb0⟩
      ·refine (if_pos (by rfl)).mpr ?_
       refine wp_bs1 _ sb 64 rfl ?_
       have hC:=heap_alloc_new x1 (Obj.cells #[.slice (some ⟨sb,0,none⟩) 64 64] 37)
       replace hx:SecB B (x1.alloc (Obj.cells #[.slice (some ⟨sb,0,none⟩) 64 64] 37)) (sb,64) zeros64:=owns_bl hx (blw x1 (Obj.cells #[.slice (some ⟨sb,0,none⟩) 64 64] 37))
       replace hN:=hN.below (blw x1 (Obj.cells #[.slice (some ⟨sb,0,none⟩) 64 64] 37))
       replace hb0:=hb0.trans ((blw x1 (Obj.cells #[.slice (some ⟨sb,0,none⟩) 64 64] 37)).mono hB0)
       replace hB0:=Nat.le_trans hB0 (blw x1 (Obj.cells #[.slice (some ⟨sb,0,none⟩) 64 64] 37)).size
       refine hK'.out _ _ trivial (fun _=>?_)
       (try simp only [Act.put,qa1,qa2,qa3])
       generalize x1.alloc (Obj.cells #[.slice (some ⟨sb,0,none⟩) 64 64] 37)=x2 at *
       generalize x1.heap.size=nb at *
       refine rdy1 4 rfl (fun K' hK'=>?_)
       have c:=blk_cell hN.box 1 mv rfl
       go_simp
       clear c
       refine hK'.out _ _ trivial (fun _=>?_)
       (try simp only [Act.put,qa1,qa2,qa3])
       refine rdy1 7 rfl (fun K' hK'=>?_)
       refine wp_appN _ _ 54 54 37 37 elSlR underlying54 rfl B mv ma.length (ma.map slv) rfl hN.meant ⟨nb,0,none⟩ 1 1 [slv (sb,64)] rfl rfl (fun j u hu=>?_) (by simp [slv,Value.oneCell']) (by omega) (by decide) hB0 ?_
       ·rw [addr_add,Nat.zero_add]
        exact blk_cell hC j u (by rw [← Array.getElem?_toList];exact hu)
       intro v8 x8 ho8 hg8
       obtain ⟨a8,c8,rfl,_⟩:=Row.of_owns ho8
       refine hK'.out _ _ trivial (fun _=>?_)
       (try simp only [Act.put,qa1,qa2,qa3])
       refine tkP 8 rfl ?_
       refine tkP 9 rfl ?_
       refine rdy1 10 rfl (fun K' hK'=>?_)
       have box8:=tr_gb hg8 hN.box (own_ne hN.meant hN.box (by decide))
       refine wp_stB 54 _ _ ?_
       refine ⟨_,_,_,⟨_,_,_,sizeOf54,rfl,box8,nb_1 _ _ _ a8 (ma.length+1) c8⟩,?_⟩
       intro x9 B9 g9
       have hfin:=hN.more2 hx hf ho8 hg8 B9 g9 box8
       have hgr:=bl_st ((Below.refl B x2).grown hg8 hB0 (fun k e=>(hN.meant.lt k e).1)) g9 (Nat.le_trans hB0 hg8.size) hN.gb
       replace hb0:=hb0.trans hgr
       replace hB0:=Nat.le_trans hB0 hgr.size
       refine hK'.out _ _ trivial (fun _=>?_)
       refine wpAnyH_done (by kernel_rfl) ?_ _
       clear hg8 B9 g9 hN hx hf box8 hgr hC ho8
       go_wp2;go_meet;exact ⟨_,_,hfin,hb0⟩
    obtain ⟨mv3,y3,hN3,hb3⟩:=hcut
    refine hK _ _ ?_
    clear hK hN2 hb2 hB2
    have hB3:=Nat.le_trans hBw hb3.size
    have c2:=blk_cell hN3.box 2 lv rfl
    go_wp2_with (first
     | (at_builtin;refine wpList_appendN' rfl _ _ 40 40 4 4 elBoolR underlying40 rfl B lv k (List.replicate k (.bool false)) rfl (hN3.lost.alloc _) ⟨wc.heap.size,0,none⟩ 1 1 [.bool false] rfl rfl (fun j u hu=>by rw [addr_add,Nat.zero_add];exact blk_cell (heap_alloc_new wc (Obj.cells #[.bool false] 4)) j u (by rw [← Array.getElem?_toList];exact hu)) (by simp [Value.oneCell']) (by omega) (by decide) (Nat.le_trans hB3 (blw wc (Obj.cells #[.bool false] 4)).size) ?_;intro v8 w8 ho8 hg8;have hNb:=hN3.below (blw wc (Obj.cells #[.bool false] 4));obtain ⟨a8,c8,rfl,_⟩:=Row.of_owns ho8;have box8:=tr_gb hg8 hNb.box (own_ne hNb.lost hNb.box (by decide)))
     | ((with_reducible refine wpList_stB 40 _ _ ?_);refine ⟨_,_,_,⟨_,_,_,sizeOf40,rfl,box8,nb_2 rv2 mv3 lv a8 (k+1) c8⟩,?_⟩;intro w9 B9 g9))
    (try simp only [Exit.inBlock,Exit.then])
    have hfin:=hNb.more3 ho8 hg8 B9 g9 box8
    have hgb:=blw wc (Obj.cells #[.bool false] 4)
    have hB4:=Nat.le_trans hB3 hgb.size
    have hgr:=bl_st ((Below.refl B _).grown hg8 hB4 (fun k e=>(hNb.lost.lt k e).1)) g9 (Nat.le_trans hB4 hg8.size) hNb.gb
    have hb9:=(hb3.trans (hgb.mono hB3)).trans hgr
    have HL3:Hid (ra.length=k+1∧(ma++[y3]).length=k+1):=Lib.hid ⟨HL2.out,by rw [List.length_append,HLM.out];rfl⟩
    refine HK1.out _ _ ?_
    go_wp2
    go_roundw
    case rel=>exact ⟨k+1,_,_,_,_,_,by omega,by go_num,hfin,HL3,hb9⟩
    case measure=>simp [intOf];omega
 obtain ⟨⟨q,hq⟩,hbn⟩:=hcut
 refine hK _ _ ?_
 clear hK
 go_wp2
 go_ret2
 exact ⟨B,rfl,⟨q,by rw [HBE.out];exact hq⟩,by rw [HBE.out];exact hbn⟩
end
section
def there2 (d:Dk) (s t:Int):Int:=if thereD d s≠0 then thereD d s else thereD d t
theorem there_val {d:Dk} (hn:0 < d.pl.length) (s:Int):(s < 0∧thereD d s=2)∨(¬ s < 0∧(d.pl.length:Int)≤s∧thereD d s=2)∨(¬ s < 0∧¬ (d.pl.length:Int)≤s∧thereD d s=0):=by
 unfold thereD
 rw [if_neg (by omega)]
 by_cases h1:s < 0
 ·exact .inl ⟨h1,if_pos (.inl h1)⟩
 ·by_cases h2:(d.pl.length:Int)≤s
  ·exact .inr (.inl ⟨h1,h2,if_pos (.inr h2)⟩)
  ·exact .inr (.inr ⟨h1,h2,if_neg (by omega)⟩)
theorem pl_restS (p:Pl) (x:List UInt8) (hx:x.length=64):(plC p).take 0++(Value.agg (bys x).toArray).cells.toList++(plC p).drop (0+64)=plC { p with rest:=x }:=by
 have h1:(bys (fix64 p.rest)).length=64:=by rw [bys_len,fix64_len]
 have e:(plC p).drop (0+64)=bys (fix64 p.meant)++[.bool p.lost]:=by
  unfold plC
  rw [show 0+64=(bys (fix64 p.rest)).length by rw [h1],List.drop_left]
 rw [e,List.take_zero,List.nil_append]
 unfold plC
 simp only
 rw [fix64_of hx]
 rfl
theorem pls_restS {l:List Pl} {s:Nat} {p:Pl} (h:l[s]?=some p) (x:List UInt8) (hx:x.length=64):s * 129+64≤(plsV l).size∧(Value.agg (bys x).toArray).cells.size=64∧(∀ u ∈ (Value.agg (bys x).toArray).cells.toList,u.oneCell'=true)∧((plsV l).toList.take (s * 129)++(Value.agg (bys x).toArray).cells.toList++(plsV l).toList.drop (s * 129+64)).toArray=plsV (l.set s { p with rest:=x }):=by
 have:=pls_part (x:=.agg (bys x).toArray) (n:=64) (r:=0) h (by show (bys x).toArray.size=64;rw [List.size_toArray,bys_len];exact hx) (by omega) (by show ∀ u ∈ (bys x).toArray.toList,_;exact bys_one) (pl_restS p x hx)
 simpa only [Nat.add_zero] using this
theorem pl_all {l:List Pl} {k:Nat} {p:Pl} (h:l[k]?=some p):k * 129+129≤(plsV l).size∧(plsV l).extract (k * 129) (k * 129+129)=(plC p).toArray:=by
 have hs:=(List.getElem?_eq_some_iff.1 h).1
 refine ⟨by rw [plsV_size];omega,?_⟩
 obtain ⟨a,b,rfl,hl,_⟩:=pl_split h
 have hfa:(a.flatMap plC).length=k * 129:=by rw [flat_len plC_len,hl,Nat.mul_comm]
 have e:(plsV (a++p :: b)).toList=a.flatMap plC++(plC p++b.flatMap plC):=by
  unfold plsV
  simp only [List.flatMap_append,List.flatMap_cons]
 apply Array.toList_inj.1
 rw [Array.toList_extract,e]
 show List.take (k * 129+129 - k * 129) (List.drop (k * 129) _)=plC p
 rw [← hfa,List.drop_left,show (a.flatMap plC).length+129 - (a.flatMap plC).length=129 by omega,← plC_len p,List.take_left]
theorem plC_one (p:Pl):∀ u ∈ (plC p).toArray.toList,u.oneCell'=true:=by
 intro u hu
 simp only [plC,List.mem_append,List.mem_singleton] at hu
 rcases hu with hu | hu | rfl
 ·exact bys_one u hu
 ·exact bys_one u hu
 ·rfl
theorem pl_c128 {w:World} {q:Nat} {p:Pl} {T:TypeId} (h:w.heap[q]?=some (.cells (plC p).toArray T (0,0))):w.cell? ⟨q,128,none⟩=some (.bool p.lost):=blk_cell h 128 _ (by rw [List.getElem?_toArray];exact pl_lostAt p)
theorem pl_rst {p:Pl} (hp:p.rest.length=64):0+64≤(plC p).toArray.size∧(plC p).toArray.extract 0 (0+64)=(bys p.rest).toArray:=by
 refine ⟨by rw [List.size_toArray,plC_len];omega,?_⟩
 apply Array.toList_inj.1
 rw [Array.toList_extract]
 show List.take 64 (plC p)=bys p.rest
 unfold plC
 rw [fix64_of hp]
 have h64:(bys p.rest).length=64:=by rw [bys_len];exact hp
 rw [← h64,List.take_left]
section
variable {B g gp:Nat} {wv:Value} {d:Dk} {w:World}
theorem there_2 (h:DiskB B g gp wv d w) (s t:Int) (q:Nat) (hq0:w.cell? ⟨q,0,none⟩=some (.int .i64 s)) (hq1:w.cell? ⟨q,1,none⟩=some (.int .i64 t)):Calls Tryz.prog 181 #[.pointer (some ⟨g,0,none⟩),.slice (some ⟨q,0,none⟩) 2 2] w fun e w'=>e=.returned (.int .i64 (there2 d s t))∧w=w':=by
 have h0:((d.pl.length:Int)==0)=false:=by have:=h.n0;rw [beq_eq_false_iff_ne];omega
 have c0:=h.c0
 have HS:=Lib.hid (there_val h.n0 s)
 have HT:=Lib.hid (there_val h.n0 t)
 unfold there2
 generalize thereD d s=rs at *
 generalize thereD d t=rt at *
 obtain ⟨r,hr⟩:∃ r,(if rs≠0 then rs else rt)=r:=⟨_,rfl⟩
 rw [hr]
 have HR:=Lib.hid hr
 clear hr
 go_enter func181,ntmps181
 go_wp2_with (go_at_call 33;refine (dsize h).mono ?_;rintro e w1 ⟨rfl,rfl⟩)
 go_loopw [12,6] (fun i _ wr=>∃ k:Nat,k≤2∧i=.int .i64 (k:Nat)∧Hid (1≤k→rs=0)∧Hid (2≤k→rt=0)∧wr=w) (fun i _ _=>2 - (intOf i).toNat)
 case atStart=>exact ⟨0,by omega,rfl,Lib.hid (fun h=>absurd h (by omega)),Lib.hid (fun h=>absurd h (by omega)),rfl⟩
 case round=>
  obtain ⟨k,hk,rfl,hk1,hk2,rfl⟩:=hrel
  rcases (show k=0∨k=1∨k=2 by omega) with rfl | rfl | rfl
  ·clear hk1 hk2
   rcases HS.out with ⟨h1,h2⟩ | ⟨h1,h2,h3⟩ | ⟨h1,h2,h3⟩
   ·subst h2
    obtain rfl:r=2:=by rw [← HR.out];rfl
    go_wp2
    go_ret
    exact ⟨rfl,rfl⟩
   ·subst h3
    obtain rfl:r=2:=by rw [← HR.out];rfl
    go_wp2
    go_ret
    exact ⟨rfl,rfl⟩
   ·subst h3
    go_wp2
    go_roundw
    case rel=>exact ⟨1,by omega,by first | rfl | go_num,Lib.hid (fun _=>by first | rfl | trivial),Lib.hid (fun h=>absurd h (by omega)),by first | trivial | rfl⟩
    case measure=>first | (simp [intOf];done) | (simp [intOf];omega)
  ·have e:=hk1.out (by omega)
   subst e
   clear hk1 hk2 HS
   rcases HT.out with ⟨h1,h2⟩ | ⟨h1,h2,h3⟩ | ⟨h1,h2,h3⟩
   ·subst h2
    obtain rfl:r=2:=by rw [← HR.out];rfl
    go_wp2
    go_ret
    exact ⟨rfl,rfl⟩
   ·subst h3
    obtain rfl:r=2:=by rw [← HR.out];rfl
    go_wp2
    go_ret
    exact ⟨rfl,rfl⟩
   ·subst h3
    go_wp2
    go_roundw
    case rel=>exact ⟨2,by omega,by first | rfl | go_num,Lib.hid (fun _=>by first | rfl | trivial),Lib.hid (fun _=>by first | rfl | trivial),by first | trivial | rfl⟩
    case measure=>first | (simp [intOf];done) | (simp [intOf];omega)
  ·have e:=hk1.out (by omega)
   have e2:=hk2.out (by omega)
   subst e e2
   obtain rfl:r=0:=by rw [← HR.out];rfl
   clear hk1 hk2 HS HT
   go_wp2
   go_ret
   exact ⟨rfl,rfl⟩
theorem stray_any (h:DiskB B g gp wv d w) (hb:B≤w.heap.size) (s t:Int):Calls Tryz.prog 133 #[.pointer (some ⟨g,0,none⟩),.int .i64 s,.int .i64 t] w fun e w'=>e=.returned (.int .i64 (strayD d s t).2)∧DiskB B g gp wv (strayD d s t).1 w'∧Kt B w w':=by
 have hbA:=blw w (Obj.cells #[.int .i64 s,.int .i64 t] 3)
 have hA:=h.below hbA
 have hk:=Kt.of hbA hb
 have B0:=heap_alloc_new w (Obj.cells #[.int .i64 s,.int .i64 t] 3)
 have ht:=there_2 hA s t w.heap.size (blk_cell B0 0 _ rfl) (blk_cell B0 1 _ rfl)
 have c0:=hA.c0
 have hP:=hA.pls
 unfold there2 at ht
 unfold strayD
 by_cases h0:thereD d s=0
 ·rw [if_neg (by simpa using h0)] at ht ⊢
  by_cases h1:thereD d t=0
  ·rw [if_neg (by simpa using h1)]
   rw [h1] at ht
   have hsr:=there_in h0
   have htr:=there_in h1
   obtain ⟨k,rfl⟩:∃ k:Nat,s=k:=⟨s.toNat,by omega⟩
   obtain ⟨m,rfl⟩:∃ m:Nat,t=m:=⟨t.toNat,by omega⟩
   have hk2:k < d.pl.length:=by omega
   have hk3:(k:Int) < d.pl.length:=by omega
   have hm2:m < d.pl.length:=by omega
   have hm3:(m:Int) < d.pl.length:=by omega
   have hpk:d.pl[k]?=some d.pl[k]:=List.getElem?_eq_getElem hk2
   have hpm:d.pl[m]?=some d.pl[m]:=List.getElem?_eq_getElem hm2
   simp only [Int.toNat_natCast]
   rw [modify_set _ hpm,show d.pl.getD k zeroPl=d.pl[k] by rw [List.getD_eq_getElem?_getD,hpk];rfl]
   have hok:=h.ok _ (List.getElem_mem hk2)
   have hom:=h.ok _ (List.getElem_mem hm2)
   generalize d.pl[k]=p at *
   generalize d.pl[m]=r at *
   clear h0 h1 hsr htr B0
   go_enter func133,ntmps133
   refine seqH fun K HK=>?_
   go_wp2
   refine HK.out _ _ ?_
   clear HK
   refine seqH fun K HK=>?_
   go_wp2_with (go_at_call 181;refine ht.mono ?_;rintro e w1 ⟨rfl,rfl⟩)
   refine HK.out _ _ ?_
   clear HK
   generalize w.alloc (Obj.cells #[.int .i64 (k:Int),.int .i64 (m:Int)] 3)=wq at *
   refine seqH fun K HK=>?_
   go_wp2_with (first
       | ((with_reducible refine wpList_ldB 255 _ ?_);refine ⟨rfl,_,⟨_,_,_,_,_,isAgg255,sizeOf255,rfl,‹_›,pl_all hpk⟩,?_⟩)
       | ((with_reducible refine wpList_stNew 255 _ _ ?_);refine ⟨129,(plC p).toArray,⟨sizeOf255,rfl,rfl,by rw [List.size_toArray,plC_len],plC_one p⟩,by kernel_rfl,?_⟩))
   refine HK.out _ _ ?_
   clear HK
   have X0:=heap_alloc_new wq (Obj.cells (plC p).toArray 255)
   have hbX:=blw wq (Obj.cells (plC p).toArray 255)
   have hX:=hA.below hbX
   have hkX:=hk.trans (Kt.of hbX (Nat.le_trans hb hk.bl.size))
   have hneX:gp≠wq.heap.size:=by have:=lt_blk hA.pls;omega
   clear c0 hP ht hA hbX hbA
   generalize wq.alloc (Obj.cells (plC p).toArray 255)=wx at *
   generalize wq.heap.size=qx at *
   refine seqH fun K HK=>?_
   go_wp2_with fail
   have hbd:=(Below.refl wx.heap.size wx).drew
   have hdD:=hX.below hbd
   have hkD:=hkX.trans (Kt.of hbd (Nat.le_trans hb hkX.bl.size))
   have hxD:=tr_bl hbd X0
   have hne1:gp≠g:=by rintro rfl;have:=hdD.box.symm.trans hdD.pls;injection this with this;injection this with _ e;revert e;decide
   clear hX hkX X0 hbd
   refine wp_region_held_drew (S:=fun w'=>w'.heap[g]?=some (.cells (dkA gp wv d) 95 (0,0))∧w'.heap[qx]?=some (.cells (plC p).toArray 255 (0,0))) (by kernel_rfl) ⟨hdD.box,hxD⟩ (fun hS0=>?_)
   generalize wx.drew=x0 at *
   refine tkP 0 rfl ?_
   refine tkP 1 rfl ?_
   refine tkP 2 rfl ?_
   refine tkT 3 rfl (by intro wS hSw;have c:=dkA_c0 hSw.1;go_simp;(try with_reducible rfl)) ?_
   refine tkP 4 rfl ?_
   refine tkP 5 rfl ?_
   refine tkP 6 rfl ?_
   refine tkP 7 rfl ?_
   refine tkT 8 rfl (by intro wS hSw;have c:=dkA_c0 hSw.1;go_simp;(try with_reducible rfl)) ?_
   refine tkP 9 rfl ?_
   refine tkP 10 rfl ?_
   refine tkT 11 (v:=.agg ((bys p.rest).toArray)) rfl (by intro wS hSw;exact exec_ldB 217 _ ⟨_,_,_,_,_,isAgg217,sizeOf217,rfl,hSw.2,pl_rst hok.1⟩) ?_
   refine tkP 12 rfl ?_
   refine tkT 13 rfl (by intro wS hSw;have c:=pl_c128 hSw.2;go_simp;(try with_reducible rfl)) ?_
   refine tkP 14 rfl ?_
   refine tkP 15 rfl ?_
   refine rdy1 16 rfl (fun K' hK'=>?_)
   refine wp_stB 217 _ _ ?_
   refine ⟨_,_,_,⟨_,_,_,sizeOf217,rfl,hdD.pls,pls_restS hpm p.rest hok.1⟩,?_⟩
   intro w6 B6 g6
   have hf6:=hdD.sect B6 g6 ⟨hok.1,hom.2⟩
   have hS6:w6.heap[g]?=some (.cells (dkA gp wv d) 95 (0,0))∧w6.heap[qx]?=some (.cells (plC p).toArray 255 (0,0)):=⟨tr_st g6 hS0.1 hne1,tr_st g6 hS0.2 hneX⟩
   refine hK'.out _ _ hS6 (fun _=>?_)
   clear hK'
   (try simp only [Act.put,qa1,qa2,qa3])
   refine tkP 17 rfl ?_
   refine tkP 18 rfl ?_
   refine rdy1 19 rfl (fun K' hK'=>?_)
   have hpm2:(d.pl.set m { r with rest:=p.rest })[m]?=some { r with rest:=p.rest }:=List.getElem?_set_self hm2
   refine wp_stB 4 _ _ ?_
   refine ⟨_,_,_,⟨_,_,_,sizeOf4,rfl,B6,pls_part (x:=.bool p.lost) hpm2 rfl (by omega) (by simp [Value.cells,Value.oneCell']) (pl_lost _ p.lost)⟩,?_⟩
   intro w7 B7 g7
   have hf7:=hf6.1.sect B7 g7 ⟨hok.1,hom.2⟩
   refine hK'.out _ _ ⟨tr_st g7 hS6.1 hne1,tr_st g7 hS6.2 hneX⟩ (fun _=>?_)
   clear hK'
   refine wpAnyH_done (by kernel_rfl) ?_ _
   refine HK.out _ _ ?_
   clear HK
   go_wp2
   go_ret
   simp only [List.set_set] at hf7
   exact ⟨rfl,hf7.1,(hkD.trans hf6.2).trans hf7.2⟩
  ·rw [if_pos (by simpa using h1)]
   have h0b:(thereD d t != 0)=true:=by simpa using h1
   generalize thereD d t=rt at *
   go_enter func133,ntmps133
   go_wp2_with (go_at_call 181;refine ht.mono ?_;rintro e w1 ⟨rfl,rfl⟩)
   go_ret
   exact ⟨rfl,hA,hk⟩
 ·rw [if_pos (by simpa using h0)] at ht ⊢
  have h0b:(thereD d s != 0)=true:=by simpa using h0
  generalize thereD d s=rs at *
  go_enter func133,ntmps133
  go_wp2_with (go_at_call 181;refine ht.mono ?_;rintro e w1 ⟨rfl,rfl⟩)
  go_ret
  exact ⟨rfl,hA,hk⟩
end
end
section
def a5L (x:A5):List Value:=[.int .u8 (x.kind:Int),.int .i64 x.sec,.int .i64 x.n,.slice x.ba x.bytes.length x.bc,.slice x.ka x.keep.length x.kc]
def a5A (x:A5):Array Value:=(a5L x).toArray
def a5V (x:A5):Value:=.agg (a5A x)
section
variable {w:World} {q:Nat} {T:TypeId} {x:A5}
theorem a5_c0 (h:w.heap[q]?=some (.cells (a5A x) T (0,0))):w.cell? ⟨q,0,none⟩=some (.int .u8 (x.kind:Int)):=blk_cell h 0 _ rfl
theorem a5_c1 (h:w.heap[q]?=some (.cells (a5A x) T (0,0))):w.cell? ⟨q,1,none⟩=some (.int .i64 x.sec):=blk_cell h 1 _ rfl
theorem a5_c2 (h:w.heap[q]?=some (.cells (a5A x) T (0,0))):w.cell? ⟨q,2,none⟩=some (.int .i64 x.n):=blk_cell h 2 _ rfl
theorem a5_c3 (h:w.heap[q]?=some (.cells (a5A x) T (0,0))):w.cell? ⟨q,3,none⟩=some (.slice x.ba x.bytes.length x.bc):=blk_cell h 3 _ rfl
theorem a5_c4 (h:w.heap[q]?=some (.cells (a5A x) T (0,0))):w.cell? ⟨q,4,none⟩=some (.slice x.ka x.keep.length x.kc):=blk_cell h 4 _ rfl
end
structure A5in (w:World) (x:A5):Prop where
 b:SlB w x.ba x.bc x.bytes
 k:Row w x.ka (x.keep.map Value.bool)
theorem A5in.below {w w':World} {x:A5} (h:A5in w x) (hb:Below w.heap.size w w'):A5in w' x:=⟨h.b.below hb,h.k.below0 hb⟩
theorem byv_mod (n:Int):byv (UInt8.ofNat (n % 256).toNat)=.int .u8 (n % 256):=by
 unfold byv
 congr 1
 have h:(n % 256).toNat < 256:=by omega
 rw [UInt8.toNat_ofNat',Nat.mod_eq_of_lt h]
 omega
theorem sectorL_le {n:Int} {l:List UInt8} (h:l.length≤200):(sectorL n l).length≤200:=by
 unfold sectorL
 split
 ·exact h
 ·simp
theorem sector_any (x:A5) (w:World) (hs:SlB w x.ba x.bc x.bytes) (hl:x.bytes.length≤200):Calls Tryz.prog 135 #[a5V x] w fun e w'=>OwnRes w.heap.size 5 1 (sectorL x.n x.bytes).length (bys (sectorL x.n x.bytes)) e w'∧Below w.heap.size w w':=by
 have hbq:=blw w (Obj.cells (a5A x) 42)
 have hsq:=hs.below hbq
 have B0:=heap_alloc_new w (Obj.cells (a5A x) 42)
 have c2:=a5_c2 B0
 have c3:=a5_c3 B0
 unfold a5V
 clear B0
 by_cases h0:0 < x.bytes.length
 ·have hI:(0:Int) < x.bytes.length:=by omega
  rw [show sectorL x.n x.bytes=x.bytes from if_pos h0]
  go_enter func135,ntmps135
  refine seqH fun K HK=>?_
  go_wp2
  refine HK.out _ _ ?_
  clear HK
  generalize w.alloc (Obj.cells (a5A x) 42)=w0 at *
  go_wp2_with (go_at_call 10;refine (copy_any _ _ _ _ hsq (by omega)).mono ?_;rintro e w1 ⟨⟨v1,rfl,o1⟩,hb1⟩)
  go_ret
  exact ⟨⟨_,rfl,owns_mono o1 hbq.size⟩,hbq.trans (hb1.mono hbq.size)⟩
 ·have hI:¬ (0:Int) < x.bytes.length:=by omega
  have e64:bys (sectorL x.n x.bytes)=List.replicate 64 (.int .u8 (x.n % 256)):=by
   unfold sectorL
   rw [if_neg h0]
   unfold bys
   rw [List.map_replicate,byv_mod]
  have l64:(sectorL x.n x.bytes).length=64:=by unfold sectorL;rw [if_neg h0];simp
  rw [e64,l64]
  clear e64 l64 h0
  go_enter func135,ntmps135
  refine seqH fun K HK=>?_
  go_wp2
  refine HK.out _ _ ?_
  clear HK
  have hqs:=hbq.size
  generalize w.alloc (Obj.cells (a5A x) 42)=w0 at *
  generalize w.heap.size=q at *
  refine seqH fun K HK=>?_
  go_wp2
  refine HK.out _ _ ?_
  clear HK
  refine seqH fun K HK=>?_
  go_wp2
  refine HK.out _ _ ?_
  clear HK
  refine seqH fun K HK=>?_
  go_wp2_with fail
  go_loopw [4,3] (fun s o wr=>∃ (j:Nat),j≤64∧s=.int .i64 (j:Int)∧wr.ownsRow w0.heap.size 5 1 o j (List.replicate j (.int .u8 (x.n % 256)))∧Below w0.heap.size w0 wr) (fun s _ _=>64 - (intOf s).toNat)
  case atStart=>exact ⟨0,by omega,rfl,World.ownsRow_nil _ _ _ _,Below.refl _ _⟩
  case round=>
   obtain ⟨j,hj,rfl,hown,hb⟩:=hrel
   have d2:=cell_later hb c2
   have hbs:=hb.size
   by_cases hlt:j < 64
   ·have hI2:(j:Int) < 64:=by omega
    go_wp2_with (at_builtin;refine wpList_append1 rfl _ _ 37 5 elByte rfl w0.heap.size _ _ _ rfl hown #[.int .u8 (x.n % 256)] rfl (by simp;rfl) _ rfl (by omega) (by omega) (by omega) ?_;intro v' w' hown' hb' _)
    go_roundw
    case rel=>exact ⟨j+1,by omega,by go_num,by rw [List.replicate_succ'];simpa using hown',hb.trans hb'⟩
    case measure=>simp [intOf];omega
   ·obtain rfl:j=64:=by omega
    go_wp2
    refine HK.out _ _ ?_
    clear HK
    go_wp2
    go_ret
    exact ⟨⟨_,rfl,owns_mono hown hqs⟩,hbq.trans (hb.mono hqs)⟩
def gr5 (x:A5):Bool:=decide (200 < x.bytes.length) || decide (100 < x.keep.length)
theorem great5_any (x:A5) (q:Nat) (T:TypeId) (w:World) (hq:w.heap[q]?=some (.cells (a5A x) T (0,0))):Calls Tryz.prog 95 #[.slice (some ⟨q,0,none⟩) 1 1] w fun e w'=>e=.returned (.bool (gr5 x))∧w=w':=by
 have c3:=a5_c3 hq
 have c4:=a5_c4 hq
 obtain ⟨r,hr⟩:∃ r,gr5 x=r:=⟨_,rfl⟩
 rw [hr]
 have HR:=Lib.hid hr
 clear hq hr
 go_enter func95,ntmps95
 refine seqH fun K HK=>?_
 go_wp2
 refine HK.out _ _ ?_
 clear HK
 refine seqH fun K HK=>?_
 go_wp2
 refine HK.out _ _ ?_
 clear HK
 refine seqH fun K HK=>?_
 by_cases h1:200 < x.bytes.length
 ·have hI:(200:Int) < x.bytes.length:=by omega
  obtain rfl:r=true:=by rw [← HR.out];unfold gr5;rw [decide_eq_true h1,Bool.true_or]
  go_wp2_with fail
  go_loopw [3] (fun s wr=>s=.int .i64 0∧wr=w) (fun _ _=>0)
  case atStart=>exact ⟨rfl,rfl⟩
  case round=>
   obtain ⟨rfl,rfl⟩:=hrel
   go_wp2
   go_ret
   exact ⟨rfl,rfl⟩
 ·have hI:¬ (200:Int) < x.bytes.length:=by omega
  by_cases h2:100 < x.keep.length
  ·have hI2:(100:Int) < x.keep.length:=by omega
   obtain rfl:r=true:=by rw [← HR.out];unfold gr5;rw [decide_eq_true h2,Bool.or_true]
   go_wp2_with fail
   go_loopw [3] (fun s wr=>s=.int .i64 0∧wr=w) (fun _ _=>0)
   case atStart=>exact ⟨rfl,rfl⟩
   case round=>
    obtain ⟨rfl,rfl⟩:=hrel
    go_wp2
    go_ret
    exact ⟨rfl,rfl⟩
  ·have hI2:¬ (100:Int) < x.keep.length:=by omega
   obtain rfl:r=false:=by rw [← HR.out];unfold gr5;rw [decide_eq_false h1,decide_eq_false h2];rfl
   go_wp2_with fail
   go_loopw [3] (fun s wr=>∃ j:Nat,j≤1∧s=.int .i64 (j:Int)∧wr=w) (fun s _=>1 - (intOf s).toNat)
   case atStart=>exact ⟨0,by omega,rfl,rfl⟩
   case round=>
    obtain ⟨j,hj,rfl,rfl⟩:=hrel
    rcases (show j=0∨j=1 by omega) with rfl | rfl
    ·go_wp2
     go_roundw
     case rel=>exact ⟨1,by omega,by first | rfl | go_num,by first | trivial | rfl⟩
     case measure=>first | (simp [intOf];done) | (simp [intOf];omega)
    ·go_wp2
     refine HK.out _ _ ?_
     clear HK
     go_wp2
     go_ret
     exact ⟨rfl,rfl⟩
/-! Bytes of one's own that are turned one by one. -/
theorem owns_kt {B base n:Nat} {w w':World} {v:Value} {xs:List Value} (h:w.ownsRow base 5 1 v n xs) (hk:Kt B w w'):w'.ownsRow base 5 1 v n xs:=by
 obtain ⟨hl,h | ⟨k,cap,cur,hv,hg,hc,r⟩⟩:=h
 ·exact ⟨hl,.inl h⟩
 ·exact ⟨hl,.inr ⟨k,cap,cur,hv,hg,hk.ty _ _ _ hc (by decide) (by decide) (by decide),r⟩⟩
theorem sectorL_pos (n:Int) (l:List UInt8):0 < (sectorL n l).length:=by
 unfold sectorL
 split
 ·assumption
 ·simp
theorem owns_cur {w:World} {base:Nat} {v:Value} {l:List UInt8} (h:w.ownsRow base 5 1 v l.length (bys l)) (hl:0 < l.length):∃ (g1 cap:Nat) (cur:List Value),v=.slice (some ⟨g1,0,none⟩) l.length cap∧base≤g1∧l.length≤cap∧cap≤maxLen∧l.length≤cur.length∧w.heap[g1]?=some (.cells cur.toArray 5 (0,0))∧∀ i,i < l.length→∃ y:Int,cur[i]?=some (.int .u8 y):=by
 rcases h.2 with ⟨h1,h2⟩ | ⟨g,cap,cur,h1,h2,h3,h4,h5,h6,h7⟩
 ·omega
 ·refine ⟨g,cap,cur.toList,h1,h2,h4,h5,?_,by rw [Array.toArray_toList];exact h3,fun i hi=>?_⟩
  ·have:=congrArg List.length h7
   rw [List.length_take,bys_len] at this
   omega
  ·have hb:(bys l)[i]?=some (byv l[i]):=by simp [bys,hi]
   rw [← h7,List.getElem?_take_of_lt (by omega)] at hb
   exact ⟨_,hb⟩
theorem set_st (cur:List Value) (j:Nat) (u:Value) (hj:j < cur.length) (h1:u.cells=#[u]) (h2:u.oneCell'=true):j+1≤cur.toArray.size∧u.cells.size=1∧(∀ y ∈ u.cells.toList,y.oneCell'=true)∧(cur.toArray.toList.take j++u.cells.toList++cur.toArray.toList.drop (j+1)).toArray=(cur.set j u).toArray:=by
 refine ⟨by show j+1≤cur.length;omega,by rw [h1];rfl,by rw [h1];simpa using h2,?_⟩
 rw [h1]
 simp only
 rw [List.set_eq_take_append_cons_drop,if_pos hj]
 simp
section
variable {B g gp:Nat} {wv:Value} {d:Dk} {w w':World}
theorem DiskB.stO {q:Nat} {cs:Array Value} {T:TypeId} (h:DiskB B g gp wv d w) (hg:w.grownBy w' (some q)) (hc:w.heap[q]?=some (.cells cs T (0,0))) (h1:95≠T) (h2:255≠T) (h3:219≠T):DiskB B g gp wv d w':=by
 have hne:∀ {j:Nat} {xs:Array Value} {T':TypeId},w.heap[j]?=some (.cells xs T' (0,0))→T'≠T→q≠j:=fun hj hT e=>by
  subst e
  rw [hc] at hj
  injection hj with hj
  injection hj with _ e
  exact hT e.symm
 exact ⟨tr_st hg h.box (hne h.box h1),tr_st hg h.pls (hne h.pls h2),owns_ne h.wts hg hc h3,h.gb,h.pb,h.n0,h.nl,h.lo,h.hi,h.ok,h.wk⟩
theorem Kt.own {B q:Nat} {w w1 w2:World} (h:Kt B w w1) (hg:w1.grownBy w2 (some q)) (hq:w.heap.size≤q) (hB:B≤w.heap.size):Kt B w w2:=
 ⟨h.bl.grown hg (Nat.le_trans hB h.bl.size) (fun k e=>by cases e;omega),fun j cs T a b c e=>tr_st hg (h.ty j cs T a b c e) (by have:=lt_blk a;omega)⟩
def Does (B g gp:Nat) (w:World) (d':Dk) (w':World):Prop:=(∃ wv',DiskB B g gp wv' d' w')∧Kt B w w'
theorem do5_any (h:DiskB B g gp wv d w) (hb:B≤w.heap.size) (x:A5) (hi:∀ w',Kt B w w'→A5in w' x) (hk:x.kind < 256) (hn:x.n≤9223372036854775807) (hl:x.bytes.length≤200) (hw:d.waits.length≤1000000) :
  Calls Tryz.prog 59 #[.pointer (some ⟨g,0,none⟩),a5V x] w fun e w'=>e=.returned (.int .i64 (do5A d x).2)∧Does B g gp w (do5A d x).1 w':=by
 have hbq:=blw w (Obj.cells (a5A x) 42)
 have D:=h.below hbq
 have k0:=Kt.of hbq hb
 have B0:=heap_alloc_new w (Obj.cells (a5A x) 42)
 have c0:=a5_c0 B0
 have c1:=a5_c1 B0
 have c2:=a5_c2 B0
 have c3:=a5_c3 B0
 have c4:=a5_c4 B0
 have hB:B≤(w.alloc (Obj.cells (a5A x) 42)).heap.size:=Nat.le_trans hb k0.bl.size
 have I0:=hi _ k0
 unfold do5A do5
 unfold a5V
 clear hbq h
 by_cases h0:x.kind % 9=0
 ·rw [if_pos h0]
  have e0:(x.kind:Int) % 9=0:=by omega
  have f0:(x.kind:Int).tmod 9=0:=by rw [Int.tmod_eq_emod_of_nonneg (by omega)];exact e0
  clear h0
  have hb0:=hb
  go_enter func59,ntmps59
  refine seqH fun K HK=>?_
  go_wp2
  refine HK.out _ _ ?_
  clear HK
  generalize w.alloc (Obj.cells (a5A x) 42)=w0 at *
  generalize hqe:w.heap.size=q at *
  replace hqe:=Lib.hid hqe
  go_wp2_with (go_at_call 45;refine (flush_any D hB).mono ?_;rintro e w1 ⟨rfl,D1,k1⟩)
  go_ret
  exact ⟨rfl,D1,k0.trans k1⟩
 rw [if_neg h0]
 by_cases h1:x.kind % 9=1
 ·rw [if_pos h1]
  have e1:(x.kind:Int) % 9=1:=by omega
  have f1:(x.kind:Int).tmod 9=1:=by rw [Int.tmod_eq_emod_of_nonneg (by omega)];exact e1
  clear h1
  have hb0:=hb
  go_enter func59,ntmps59
  refine seqH fun K HK=>?_
  go_wp2
  refine HK.out _ _ ?_
  clear HK
  generalize w.alloc (Obj.cells (a5A x) 42)=w0 at *
  generalize hqe:w.heap.size=q at *
  replace hqe:=Lib.hid hqe
  go_wp2_with (go_at_call 129;refine (crash_any D hB x.ka x.kc x.keep (fun w' hk'=>(hi w' (k0.trans hk')).k)).mono ?_;rintro e w1 ⟨rfl,D1,k1⟩)
  go_ret
  exact ⟨rfl,D1,k0.trans k1⟩
 rw [if_neg h1]
 by_cases h2:x.kind % 9=2
 ·rw [if_pos h2]
  have e2:(x.kind:Int) % 9=2:=by omega
  have f2:(x.kind:Int).tmod 9=2:=by rw [Int.tmod_eq_emod_of_nonneg (by omega)];exact e2
  clear h2
  have hb0:=hb
  go_enter func59,ntmps59
  refine seqH fun K HK=>?_
  go_wp2
  refine HK.out _ _ ?_
  clear HK
  generalize w.alloc (Obj.cells (a5A x) 42)=w0 at *
  generalize hqe:w.heap.size=q at *
  replace hqe:=Lib.hid hqe
  go_wp2_with (go_at_call 130;refine (start_any D).mono ?_;rintro e w1 ⟨rfl,D1,k1⟩)
  go_ret
  exact ⟨rfl,⟨_,D1⟩,k0.trans k1⟩
 rw [if_neg h2]
 by_cases h3:x.kind % 9=3
 ·rw [if_pos h3]
  have e3:(x.kind:Int) % 9=3:=by omega
  have f3:(x.kind:Int).tmod 9=3:=by rw [Int.tmod_eq_emod_of_nonneg (by omega)];exact e3
  clear h3
  have hb0:=hb
  go_enter func59,ntmps59
  refine seqH fun K HK=>?_
  go_wp2
  refine HK.out _ _ ?_
  clear HK
  generalize w.alloc (Obj.cells (a5A x) 42)=w0 at *
  generalize hqe:w.heap.size=q at *
  replace hqe:=Lib.hid hqe
  go_wp2_with (go_at_call 131;refine (flip_any D hB x.sec x.n).mono ?_;rintro e w1 ⟨rfl,D1,k1⟩)
  go_ret
  exact ⟨rfl,⟨_,D1⟩,k0.trans k1⟩
 rw [if_neg h3]
 by_cases h4:x.kind % 9=4
 ·rw [if_pos h4]
  have e4:(x.kind:Int) % 9=4:=by omega
  have f4:(x.kind:Int).tmod 9=4:=by rw [Int.tmod_eq_emod_of_nonneg (by omega)];exact e4
  clear h4
  have hb0:=hb
  go_enter func59,ntmps59
  refine seqH fun K HK=>?_
  go_wp2
  refine HK.out _ _ ?_
  clear HK
  generalize w.alloc (Obj.cells (a5A x) 42)=w0 at *
  generalize hqe:w.heap.size=q at *
  replace hqe:=Lib.hid hqe
  go_wp2_with (go_at_call 132;refine (lose_any D hB x.sec).mono ?_;rintro e w1 ⟨rfl,D1,k1⟩)
  go_ret
  exact ⟨rfl,⟨_,D1⟩,k0.trans k1⟩
 rw [if_neg h4]
 by_cases h5:x.kind % 9=5
 ·rw [if_pos h5]
  have e5:(x.kind:Int) % 9=5:=by omega
  have f5:(x.kind:Int).tmod 9=5:=by rw [Int.tmod_eq_emod_of_nonneg (by omega)];exact e5
  clear h5
  have hb0:=hb
  go_enter func59,ntmps59
  refine seqH fun K HK=>?_
  go_wp2
  refine HK.out _ _ ?_
  clear HK
  generalize w.alloc (Obj.cells (a5A x) 42)=w0 at *
  generalize hqe:w.heap.size=q at *
  replace hqe:=Lib.hid hqe
  go_wp2_with (go_at_call 133;refine (stray_any D hB x.sec x.n).mono ?_;rintro e w1 ⟨rfl,D1,k1⟩)
  go_ret
  exact ⟨rfl,⟨_,D1⟩,k0.trans k1⟩
 rw [if_neg h5]
 by_cases h8:x.kind % 9=8
 ·rw [if_pos h8]
  have e8:(x.kind:Int) % 9=8:=by omega
  have f8:(x.kind:Int).tmod 9=8:=by rw [Int.tmod_eq_emod_of_nonneg (by omega)];exact e8
  clear h8
  have hb0:=hb
  go_enter func59,ntmps59
  refine seqH fun K HK=>?_
  go_wp2
  refine HK.out _ _ ?_
  clear HK
  generalize w.alloc (Obj.cells (a5A x) 42)=w0 at *
  generalize hqe:w.heap.size=q at *
  replace hqe:=Lib.hid hqe
  go_wp2_with (go_at_call 134;refine (power_any D x.n hn).mono ?_;rintro e w1 ⟨rfl,D1,k1⟩)
  go_ret
  exact ⟨rfl,⟨_,D1⟩,k0.trans k1⟩
 rw [if_neg h8]
 have i0:((x.kind:Int) % 9==0)=false:=by rw [beq_eq_false_iff_ne];omega
 have i1:((x.kind:Int) % 9==1)=false:=by rw [beq_eq_false_iff_ne];omega
 have i2:((x.kind:Int) % 9==2)=false:=by rw [beq_eq_false_iff_ne];omega
 have i3:((x.kind:Int) % 9==3)=false:=by rw [beq_eq_false_iff_ne];omega
 have i4:((x.kind:Int) % 9==4)=false:=by rw [beq_eq_false_iff_ne];omega
 have i5:((x.kind:Int) % 9==5)=false:=by rw [beq_eq_false_iff_ne];omega
 have i8:((x.kind:Int) % 9==8)=false:=by rw [beq_eq_false_iff_ne];omega
 have ft:(x.kind:Int).tmod 9=(x.kind:Int) % 9:=Int.tmod_eq_emod_of_nonneg (by omega)
 clear h0 h1 h2 h3 h4 h5 h8
 have hsl:=sectorL_le (n:=x.n) hl
 have hb0:=hb
 go_enter func59,ntmps59
 refine seqH fun K HK=>?_
 go_wp2
 refine HK.out _ _ ?_
 clear HK
 generalize w.alloc (Obj.cells (a5A x) 42)=w0 at *
 generalize hqe:w.heap.size=q at *
 replace hqe:=Lib.hid hqe
 refine seqH fun K HK=>?_
 go_wp2
 refine HK.out _ _ ?_
 clear HK
 refine seqH fun K HK=>?_
 go_wp2_with (first
   | ((with_reducible refine wpList_ldB 42 _ ?_);refine ⟨rfl,_,⟨_,_,_,_,_,isAgg42,sizeOf42,rfl,‹_›,arr_all rfl⟩,?_⟩)
   | (go_at_call 135;refine (sector_any x _ I0.b hl).mono ?_;rintro e w1 ⟨⟨v1,rfl,o1⟩,hb1⟩))
 refine HK.out _ _ ?_
 clear HK
 have D1:=D.below hb1
 have k1:=k0.trans (Kt.of hb1 hB)
 have hq1:=k0.bl.size
 have hlp:=sectorL_pos x.n x.bytes
 have c1':=cell_later hb1 c1
 clear D k0 c0 c1 c2 c3 c4 B0 I0 i0 i1 i2 i3 i4 i5 i8 ft
 generalize hsq:sectorL x.n x.bytes=sl at *
 clear hsq
 obtain ⟨g1,cap1,cur1,rfl,hg1,hn1,hm1,hu1,U1,hy1⟩:=owns_cur o1 hlp
 have hwr:=write_any D1 (Nat.le_trans hB hb1.size) x.sec (some ⟨g1,0,none⟩) cap1 sl (fun w' hk=>by obtain ⟨_,_,e,h⟩:=SlB.of_owns (owns_kt o1 hk);cases e;exact h) hw
 clear D1 o1
 refine seqH fun K HK=>?_
 go_wp2_with (go_at_call 62;refine hwr.mono ?_;rintro e w2 ⟨rfl,⟨wv2,D2⟩,k2⟩)
 refine HK.out _ _ ?_
 clear HK
 have U2:=k2.ty _ _ _ U1 (by decide) (by decide) (by decide)
 have k3:=k1.trans k2
 clear U1 hwr k1 k2 c1'
 refine seqH fun K HK=>?_
 go_wp2_with fail
 go_loopw [7] (fun i wr=>∃ (j:Nat) (cur:List Value),j≤sl.length∧i=.int .i64 (j:Nat)∧DiskB B g gp wv2 (writeD d x.sec sl).1 wr∧Kt B w wr∧sl.length≤cur.length∧wr.heap[g1]?=some (.cells cur.toArray 5 (0,0))∧(∀ i,i < sl.length→∃ y:Int,cur[i]?=some (.int .u8 y))) (fun i _=>sl.length - (intOf i).toNat)
 case atStart=>exact ⟨0,cur1,by omega,rfl,D2,k3,hu1,U2,hy1⟩
 case round=>
  clear D2 k3 U2 hu1 hy1
  obtain ⟨j,cur,hj,rfl,D3,k4,hu,U3,hy⟩:=hrel
  unfold maxLen at hm1
  by_cases hlt:j < sl.length
  ·obtain ⟨y,hyj⟩:=hy j hlt
   have cj:=blk_cell U3 j _ (by rw [List.getElem?_toArray];exact hyj)
   go_wp2_with ((with_reducible refine wpList_stB 5 _ _ ?_);refine ⟨_,_,_,⟨_,_,_,sizeOf5,rfl,U3,set_st cur j _ (by omega) rfl rfl⟩,?_⟩;intro w5 B5 g5)
   go_roundw
   case rel=>
    refine ⟨j+1,_,by omega,by go_num,D3.stO g5 U3 (by decide) (by decide) (by decide),k4.own g5 (by have:=hqe.out;omega) (by have:=hqe.out;omega),by rw [List.length_set];exact hu,B5,fun i hi=>?_⟩
    by_cases hij:i=j
    ·subst hij
     exact ⟨_,List.getElem?_set_self (by omega)⟩
    ·rw [List.getElem?_set_ne (fun e=>hij e.symm)]
     exact hy i hi
   case measure=>simp [intOf];omega
  ·obtain rfl:j=sl.length:=by omega
   go_wp2
   refine HK.out _ _ ?_
   clear HK
   go_wp2
   go_ret
   exact ⟨rfl,⟨_,D3⟩,k4⟩
end
end
section
theorem RDoes.f {B g:Nat} {w w':World} {d:Dk} (h:RDoes B g rT w d w'):RDoes B g fT w d w':=⟨h.1,h.2.f⟩
section
variable {B g:Nat} {q0:RQ} {d:Dk} {w:World}
theorem same5_any (h:RefB B g q0 d w) (hb:B≤w.heap.size) (x:A5) (hi:∀ w',Kx fT B w w'→A5in w' x) (hk:x.kind < 256) (hn:x.n≤9223372036854775807) (hl:x.bytes.length≤200∧x.keep.length≤100) (hw:d.waits.length≤1000000) :
  Calls Tryz.prog 64 #[.pointer (some ⟨g,0,none⟩),a5V x] w fun e w'=>e=.returned (.int .i64 (do5A d x).2)∧RDoes B g fT w (do5A d x).1 w':=by
 have hbq:=blw w (Obj.cells (a5A x) 42)
 have D:=h.below hbq
 have k0:=Kx.of (X:=fT) hbq hb
 have B0:=heap_alloc_new w (Obj.cells (a5A x) 42)
 have c0:=a5_c0 B0
 have c1:=a5_c1 B0
 have c2:=a5_c2 B0
 have c3:=a5_c3 B0
 have c4:=a5_c4 B0
 have hB:B≤(w.alloc (Obj.cells (a5A x) 42)).heap.size:=Nat.le_trans hb k0.bl.size
 have I0:=hi _ k0
 unfold do5A do5
 unfold a5V
 clear hbq h
 by_cases h0:x.kind % 9=0
 ·rw [if_pos h0]
  have e0:(x.kind:Int) % 9=0:=by omega
  have f0:(x.kind:Int).tmod 9=0:=by rw [Int.tmod_eq_emod_of_nonneg (by omega)];exact e0
  clear h0
  have hb0:=hb
  go_enter func64,ntmps64
  refine seqH fun K HK=>?_
  go_wp2
  refine HK.out _ _ ?_
  clear HK
  generalize w.alloc (Obj.cells (a5A x) 42)=w0 at *
  generalize hqe:w.heap.size=q at *
  replace hqe:=Lib.hid hqe
  go_wp2_with (go_at_call 51;refine (rflush_any D hB).mono ?_;rintro e w1 ⟨rfl,D1,k1⟩)
  go_ret
  exact ⟨rfl,D1,k0.trans k1.f⟩
 rw [if_neg h0]
 by_cases h1:x.kind % 9=1
 ·rw [if_pos h1]
  have e1:(x.kind:Int) % 9=1:=by omega
  have f1:(x.kind:Int).tmod 9=1:=by rw [Int.tmod_eq_emod_of_nonneg (by omega)];exact e1
  clear h1
  have hb0:=hb
  go_enter func64,ntmps64
  refine seqH fun K HK=>?_
  go_wp2
  refine HK.out _ _ ?_
  clear HK
  generalize w.alloc (Obj.cells (a5A x) 42)=w0 at *
  generalize hqe:w.heap.size=q at *
  replace hqe:=Lib.hid hqe
  go_wp2_with (go_at_call 141;refine (rcrash_any D hB x.ka x.kc x.keep (by omega) (fun w' hk'=>(hi w' (k0.trans hk'.f)).k)).mono ?_;rintro e w1 ⟨rfl,D1,k1⟩)
  go_ret
  exact ⟨rfl,D1,k0.trans k1.f⟩
 rw [if_neg h1]
 by_cases h2:x.kind % 9=2
 ·rw [if_pos h2]
  have e2:(x.kind:Int) % 9=2:=by omega
  have f2:(x.kind:Int).tmod 9=2:=by rw [Int.tmod_eq_emod_of_nonneg (by omega)];exact e2
  clear h2
  have hb0:=hb
  go_enter func64,ntmps64
  refine seqH fun K HK=>?_
  go_wp2
  refine HK.out _ _ ?_
  clear HK
  generalize w.alloc (Obj.cells (a5A x) 42)=w0 at *
  generalize hqe:w.heap.size=q at *
  replace hqe:=Lib.hid hqe
  go_wp2_with (go_at_call 142;refine (rstart_any D).mono ?_;rintro e w1 ⟨rfl,D1,k1⟩)
  go_ret
  exact ⟨rfl,⟨_,D1⟩,k0.trans k1.f⟩
 rw [if_neg h2]
 by_cases h3:x.kind % 9=3
 ·rw [if_pos h3]
  have e3:(x.kind:Int) % 9=3:=by omega
  have f3:(x.kind:Int).tmod 9=3:=by rw [Int.tmod_eq_emod_of_nonneg (by omega)];exact e3
  clear h3
  have hb0:=hb
  go_enter func64,ntmps64
  refine seqH fun K HK=>?_
  go_wp2
  refine HK.out _ _ ?_
  clear HK
  generalize w.alloc (Obj.cells (a5A x) 42)=w0 at *
  generalize hqe:w.heap.size=q at *
  replace hqe:=Lib.hid hqe
  go_wp2_with (go_at_call 143;refine (rflip_any D hB x.sec x.n).mono ?_;rintro e w1 ⟨rfl,D1,k1⟩)
  go_ret
  exact ⟨rfl,D1,k0.trans k1⟩
 rw [if_neg h3]
 by_cases h4:x.kind % 9=4
 ·rw [if_pos h4]
  have e4:(x.kind:Int) % 9=4:=by omega
  have f4:(x.kind:Int).tmod 9=4:=by rw [Int.tmod_eq_emod_of_nonneg (by omega)];exact e4
  clear h4
  have hb0:=hb
  go_enter func64,ntmps64
  refine seqH fun K HK=>?_
  go_wp2
  refine HK.out _ _ ?_
  clear HK
  generalize w.alloc (Obj.cells (a5A x) 42)=w0 at *
  generalize hqe:w.heap.size=q at *
  replace hqe:=Lib.hid hqe
  go_wp2_with (go_at_call 144;refine (rlose_any D x.sec).mono ?_;rintro e w1 ⟨rfl,D1,k1⟩)
  go_ret
  exact ⟨rfl,D1,k0.trans k1.f⟩
 rw [if_neg h4]
 by_cases h5:x.kind % 9=5
 ·rw [if_pos h5]
  have e5:(x.kind:Int) % 9=5:=by omega
  have f5:(x.kind:Int).tmod 9=5:=by rw [Int.tmod_eq_emod_of_nonneg (by omega)];exact e5
  clear h5
  have hb0:=hb
  go_enter func64,ntmps64
  refine seqH fun K HK=>?_
  go_wp2
  refine HK.out _ _ ?_
  clear HK
  generalize w.alloc (Obj.cells (a5A x) 42)=w0 at *
  generalize hqe:w.heap.size=q at *
  replace hqe:=Lib.hid hqe
  go_wp2_with (go_at_call 145;refine (rstray_any D hB x.sec x.n).mono ?_;rintro e w1 ⟨rfl,D1,k1⟩)
  go_ret
  exact ⟨rfl,D1,k0.trans k1.f⟩
 rw [if_neg h5]
 by_cases h8:x.kind % 9=8
 ·rw [if_pos h8]
  have e8:(x.kind:Int) % 9=8:=by omega
  have f8:(x.kind:Int).tmod 9=8:=by rw [Int.tmod_eq_emod_of_nonneg (by omega)];exact e8
  clear h8
  have hb0:=hb
  go_enter func64,ntmps64
  refine seqH fun K HK=>?_
  go_wp2
  refine HK.out _ _ ?_
  clear HK
  generalize w.alloc (Obj.cells (a5A x) 42)=w0 at *
  generalize hqe:w.heap.size=q at *
  replace hqe:=Lib.hid hqe
  go_wp2_with (go_at_call 146;refine (rpower_any D x.n hn).mono ?_;rintro e w1 ⟨rfl,D1,k1⟩)
  go_ret
  exact ⟨rfl,⟨_,D1⟩,k0.trans k1.f⟩
 rw [if_neg h8]
 have i0:((x.kind:Int) % 9==0)=false:=by rw [beq_eq_false_iff_ne];omega
 have i1:((x.kind:Int) % 9==1)=false:=by rw [beq_eq_false_iff_ne];omega
 have i2:((x.kind:Int) % 9==2)=false:=by rw [beq_eq_false_iff_ne];omega
 have i3:((x.kind:Int) % 9==3)=false:=by rw [beq_eq_false_iff_ne];omega
 have i4:((x.kind:Int) % 9==4)=false:=by rw [beq_eq_false_iff_ne];omega
 have i5:((x.kind:Int) % 9==5)=false:=by rw [beq_eq_false_iff_ne];omega
 have i8:((x.kind:Int) % 9==8)=false:=by rw [beq_eq_false_iff_ne];omega
 have ft:(x.kind:Int).tmod 9=(x.kind:Int) % 9:=Int.tmod_eq_emod_of_nonneg (by omega)
 clear h0 h1 h2 h3 h4 h5 h8
 have hsl:=sectorL_le (n:=x.n) hl.1
 have hb0:=hb
 go_enter func64,ntmps64
 refine seqH fun K HK=>?_
 go_wp2
 refine HK.out _ _ ?_
 clear HK
 generalize w.alloc (Obj.cells (a5A x) 42)=w0 at *
 generalize hqe:w.heap.size=q at *
 replace hqe:=Lib.hid hqe
 refine seqH fun K HK=>?_
 go_wp2
 refine HK.out _ _ ?_
 clear HK
 refine seqH fun K HK=>?_
 go_wp2_with fail
 have hbd:=(Below.refl w0.heap.size w0).drew
 have D1:=D.below hbd
 have k1:=k0.trans (Kx.of (X:=fT) hbd hB)
 have I1:A5in w0.drew x:=I0.below hbd
 have B1:=tr_bl hbd B0
 have hB1:B≤w0.drew.heap.size:=hB
 clear D k0 B0 I0 hbd c0 c1 c2 c3 c4 i0 i1 i2 i3 i4 i5 i8 ft hB
 refine wp_region_held_drew (S:=fun w'=>w'.heap[q]?=some (.cells (a5A x) 42 (0,0))) (by kernel_rfl) B1 (fun hS0=>?_)
 generalize w0.drew=x0 at *
 refine tkP 0 rfl ?_
 refine tkP 1 rfl ?_
 refine tkT 2 rfl (by intro wS hSw;have c:=a5_c1 hSw;go_simp;(try with_reducible rfl)) ?_
 refine tkT 3 (v:=.agg (a5A x)) rfl (by intro wS hSw;exact exec_ldB 42 _ ⟨_,_,_,_,_,isAgg42,sizeOf42,rfl,hSw,arr_all rfl⟩) ?_
 refine rdy1 4 rfl (fun K' hK'=>?_)
 go_simp
 refine (sector_any x _ I1.b hl.1).mono ?_
 rintro e w1 ⟨⟨v1,rfl,o1⟩,hb1⟩
 have D2:=D1.below hb1
 have k2:=k1.trans (Kx.of (X:=fT) hb1 hB1)
 have hB2:=Nat.le_trans hB1 hb1.size
 have B2:=tr_bl hb1 B1
 obtain ⟨sa,sc,rfl,_⟩:=SlB.of_owns o1
 refine hK'.out _ _ B2 (fun _=>?_)
 (try simp only [Act.put,qa1,qa2,qa3])
 refine rdy1 5 rfl (fun K' hK'=>?_)
 go_simp
 have hwr:=rwrite_any D2 hB2 x.sec sa sc (sectorL x.n x.bytes) (fun w' hk=>by obtain ⟨_,_,e,h⟩:=SlB.of_owns (owns_kx o1 hk (by decide));cases e;exact h) hw
 refine hwr.mono ?_
 rintro e w2 ⟨rfl,D3,k3⟩
 refine hK'.out _ _ (k3.ty _ _ _ B2 (by decide)) (fun _=>?_)
 (try simp only [Act.put,qa1,qa2,qa3])
 refine tkP 6 rfl ?_
 refine wpAnyH_done (by kernel_rfl) ?_ _
 refine HK.out _ _ ?_
 clear HK
 go_wp2
 go_ret
 exact ⟨rfl,D3,k2.trans k3.f⟩
end
end
section
theorem lwide_any (t:Tg) (w:World):Calls Tryz.prog 61 #[tgV t] w fun e w'=>e=.returned (.int .i64 (wideT t:Nat))∧Below w.heap.size w w':=by
 have hm:=tmay_any t (w.alloc (Obj.cells #[.int .i64 t.rep,.int .i64 t.reg,.int .i64 t.pla,.int .i64 t.idx,.int .i64 t.inc] 39))
 have hwi:=fun w=>wide_any t.reg w
 have hbw:=blw w (Obj.cells #[.int .i64 t.rep,.int .i64 t.reg,.int .i64 t.pla,.int .i64 t.idx,.int .i64 t.inc] 39)
 have B0:=heap_alloc_new w (Obj.cells #[.int .i64 t.rep,.int .i64 t.reg,.int .i64 t.pla,.int .i64 t.idx,.int .i64 t.inc] 39)
 have hqs:=hbw.size
 have c0:(w.alloc (Obj.cells #[.int .i64 t.rep,.int .i64 t.reg,.int .i64 t.pla,.int .i64 t.idx,.int .i64 t.inc] 39)).cell? ⟨w.heap.size,0,none⟩=some (.int .i64 t.rep):=blk_cell B0 0 _ rfl
 have c1:(w.alloc (Obj.cells #[.int .i64 t.rep,.int .i64 t.reg,.int .i64 t.pla,.int .i64 t.idx,.int .i64 t.inc] 39)).cell? ⟨w.heap.size,1,none⟩=some (.int .i64 t.reg):=blk_cell B0 1 _ rfl
 have c2:(w.alloc (Obj.cells #[.int .i64 t.rep,.int .i64 t.reg,.int .i64 t.pla,.int .i64 t.idx,.int .i64 t.inc] 39)).cell? ⟨w.heap.size,2,none⟩=some (.int .i64 t.pla):=blk_cell B0 2 _ rfl
 have c3:(w.alloc (Obj.cells #[.int .i64 t.rep,.int .i64 t.reg,.int .i64 t.pla,.int .i64 t.idx,.int .i64 t.inc] 39)).cell? ⟨w.heap.size,3,none⟩=some (.int .i64 t.idx):=blk_cell B0 3 _ rfl
 have c4:(w.alloc (Obj.cells #[.int .i64 t.rep,.int .i64 t.reg,.int .i64 t.pla,.int .i64 t.idx,.int .i64 t.inc] 39)).cell? ⟨w.heap.size,4,none⟩=some (.int .i64 t.inc):=blk_cell B0 4 _ rfl
 clear B0
 cases ht:mayTg t
 case false=>
  rw [show wideT t=0 by unfold wideT;rw [ht];rfl]
  rw [ht] at hm
  clear ht
  go_enter func61,ntmps61
  refine seqH fun K HK=>?_
  go_wp2
  refine HK.out _ _ ?_
  clear HK
  generalize w.alloc (Obj.cells #[.int .i64 t.rep,.int .i64 t.reg,.int .i64 t.pla,.int .i64 t.idx,.int .i64 t.inc] 39)=w0 at *
  generalize w.heap.size=q at *
  go_wp2_with (go_at_call 139;refine hm.mono ?_;rintro e w1 ⟨rfl,hb1⟩)
  go_ret
  exact ⟨rfl,hbw.trans (hb1.mono hqs)⟩
 case true=>
  rw [(wide_may ht).1]
  rw [ht] at hm
  clear ht
  go_enter func61,ntmps61
  refine seqH fun K HK=>?_
  go_wp2
  refine HK.out _ _ ?_
  clear HK
  generalize w.alloc (Obj.cells #[.int .i64 t.rep,.int .i64 t.reg,.int .i64 t.pla,.int .i64 t.idx,.int .i64 t.inc] 39)=w0 at *
  generalize w.heap.size=q at *
  go_wp2_with (first
   | (go_at_call 139;refine hm.mono ?_;rintro e w1 ⟨rfl,hb1⟩;have d1:=cell_later hb1 c1)
   | (go_at_call 111;refine (hwi _).mono ?_;rintro e w2 ⟨rfl,hb2⟩))
  go_ret
  exact ⟨rfl,hbw.trans ((hb1.trans (hb2.mono hb1.size)).mono hqs)⟩
/-! Acts of layer 6 that came in. -/
def a6L (x:A6):List Value:=[.bool x.sl,.int .i64 x.tg.rep,.int .i64 x.tg.reg,.int .i64 x.tg.pla,.int .i64 x.tg.idx,.int .i64 x.tg.inc,.slice x.oa x.body.length x.oc,.int .u8 (x.dk.kind:Int),.int .i64 x.dk.sec,.int .i64 x.dk.n,.slice x.dk.ba x.dk.bytes.length x.dk.bc,.slice x.dk.ka x.dk.keep.length x.dk.kc]
def a6A (x:A6):Array Value:=(a6L x).toArray
def a6V (x:A6):Value:=.agg (a6A x)
structure A6in (w:World) (x:A6):Prop where
 b:SlB w x.oa x.oc x.body
 d:A5in w x.dk
 k:x.dk.kind < 256
 n:x.dk.n≤9223372036854775807
theorem A6in.below {w w':World} {x:A6} (h:A6in w x) (hb:Below w.heap.size w w'):A6in w' x:=⟨h.b.below hb,h.d.below hb,h.k,h.n⟩
structure Acts (w:World) (a:Option Addr) (l:List A6):Prop where
 each:∀ (j:Nat) (hj:j < l.length),∃ b off,a=some ⟨b,off,none⟩∧(∀ r u,(a6L l[j])[r]?=some u→w.cell? ⟨b,off+j * 12+r,none⟩=some u)∧A6in w l[j]
theorem Acts.below {w w':World} {a:Option Addr} {l:List A6} (h:Acts w a l) (hb:Below w.heap.size w w'):Acts w' a l:=
 ⟨fun j hj=>by
  obtain ⟨b,off,e,hc,hi⟩:=h.each j hj
  exact ⟨b,off,e,fun r u hu=>cell_later hb (hc r u hu),hi.below hb⟩⟩
def gr6x (x:A6):Bool:=decide (100 < x.body.length) || gr5 x.dk
def gr6 (l:List A6):Bool:=decide (60 < l.length) || l.any gr6x
theorem gr6_no {l:List A6} (h:gr6 l=false):l.length≤60∧∀ x ∈ l,x.body.length≤100∧x.dk.bytes.length≤200∧x.dk.keep.length≤100:=by
 unfold gr6 at h
 rw [Bool.or_eq_false_iff] at h
 refine ⟨by have:=of_decide_eq_false h.1;omega,fun x hx=>?_⟩
 have h2:=List.any_eq_false.1 h.2 x hx
 unfold gr6x gr5 at h2
 simp at h2
 omega
theorem any_snoc6 {l:List A6} {j:Nat} (h:j < l.length) (f:A6→Bool):(l.take (j+1)).any f=((l.take j).any f || f l[j]):=by
 rw [List.take_succ_eq_append_getElem h,List.any_append,List.any_cons,List.any_nil,Bool.or_false]
theorem lgreat_any (a:Option Addr) (cap:Nat) (l:List A6) (w:World) (hp:Acts w a l):Calls Tryz.prog 32 #[.slice a l.length cap] w fun e w'=>e=.returned (.bool (gr6 l))∧Below w.heap.size w w':=by
 unfold gr6
 by_cases h60:60 < l.length
 case pos=>
  rw [decide_eq_true h60,Bool.true_or]
  have hI:(60:Int) < l.length:=by omega
  go_enter func32,ntmps32
  go_wp2
  go_ret
  exact ⟨rfl,Below.refl _ _⟩
 case neg=>
  rw [decide_eq_false h60,Bool.false_or]
  have hI:¬ (60:Int) < l.length:=by omega
  obtain ⟨r,hr⟩:∃ r,l.any gr6x=r:=⟨_,rfl⟩
  rw [hr]
  have HR:=Lib.hid hr
  clear hr
  go_enter func32,ntmps32
  refine seqH fun K HK=>?_
  go_wp2
  refine HK.out _ _ ?_
  clear HK
  refine seqH fun K HK=>?_
  go_wp2
  refine HK.out _ _ ?_
  clear HK
  refine seqH fun K HK=>?_
  go_wp2_with fail
  go_loopw [3] (fun i wr=>∃ j:Nat,j≤l.length∧i=.int .i64 (j:Nat)∧Hid ((l.take j).any gr6x=false)∧Below w.heap.size w wr) (fun i _=>l.length - (intOf i).toNat)
  case atStart=>exact ⟨0,by omega,rfl,Lib.hid rfl,Below.refl _ _⟩
  case round=>
   obtain ⟨j,hj,rfl,ha,hbr⟩:=hrel
   by_cases hlt:j < l.length
   case neg=>
    obtain rfl:j=l.length:=by omega
    have hrf:r=false:=by have h:=ha.out;rw [List.take_length] at h;exact HR.out.symm.trans h
    subst hrf
    clear ha HR
    go_wp2
    refine HK.out _ _ ?_
    clear HK
    go_wp2
    go_ret
    exact ⟨rfl,hbr⟩
   case pos=>
    obtain ⟨b,off,rfl,hc,hi⟩:=(hp.below hbr).each j hlt
    have hsn:=any_snoc6 hlt gr6x
    rw [ha.out,Bool.false_or] at hsn
    have hmem:=List.getElem_mem hlt
    have hrt:gr6x l[j]=true→r=true:=fun h=>by
     rw [← HR.out,List.any_eq_true]
     exact ⟨_,hmem,h⟩
    generalize l[j]=x at *
    have c6:=hc 6 _ rfl
    have c7:=hc 7 _ rfl
    have c8:=hc 8 _ rfl
    have c9:=hc 9 _ rfl
    have c10:=hc 10 _ rfl
    have c11:=hc 11 _ rfl
    have HSN:=Lib.hid hsn
    have HRT:=Lib.hid hrt
    clear hsn hrt hmem ha hc
    by_cases h1:100 < x.body.length
    ·have hI2:(100:Int) < x.body.length:=by omega
     obtain rfl:=HRT.out (by unfold gr6x;rw [decide_eq_true h1];rfl)
     clear HRT HSN HR
     go_wp2
     go_ret
     exact ⟨rfl,hbr⟩
    ·have hI2:¬ (100:Int) < x.body.length:=by omega
     have hx:gr6x x=gr5 x.dk:=by unfold gr6x;rw [decide_eq_false h1,Bool.false_or]
     obtain ⟨gx,hgx⟩:∃ gx,gr5 x.dk=gx:=⟨_,rfl⟩
     rw [hgx] at hx
     have HGX:=Lib.hid hgx
     have HX:=Lib.hid hx
     clear hgx hx
     have hbx:=blw wr (Obj.cells (a5A x.dk) 42)
     have hg5:=great5_any x.dk wr.heap.size 42 (wr.alloc (Obj.cells (a5A x.dk) 42)) (heap_alloc_new wr _)
     rw [HGX.out] at hg5
     cases gx
     ·go_wp2_with (go_at_call 95;refine hg5.mono ?_;rintro e w5 ⟨rfl,rfl⟩)
      go_roundw
      case rel=>exact ⟨j+1,by omega,by go_num,Lib.hid (by rw [HSN.out];exact HX.out),hbr.trans (hbx.mono hbr.size)⟩
      case measure=>simp [intOf];omega
     ·obtain rfl:=HRT.out HX.out
      clear HRT HSN HR
      go_wp2_with (go_at_call 95;refine hg5.mono ?_;rintro e w5 ⟨rfl,rfl⟩)
      go_ret
      exact ⟨rfl,hbr.trans (hbx.mono hbr.size)⟩
/-! A frame in memory. -/
def FrIn (w:World) (G C:Nat) (b:List UInt8):Prop:=b.length≤C∧C≤maxLen∧∃ cur:List Value,w.heap[G]?=some (.cells cur.toArray 5 (0,0))∧∀ (i:Nat) (u:Value),(bys b)[i]?=some u→cur[i]?=some u
section
variable {w w':World} {G C:Nat} {b:List UInt8}
theorem FrIn.kt {B:Nat} (h:FrIn w G C b) (hk:Kt B w w'):FrIn w' G C b:=by
 obtain ⟨h1,h2,cur,h3,h4⟩:=h
 exact ⟨h1,h2,cur,hk.ty _ _ _ h3 (by decide) (by decide) (by decide),h4⟩
theorem FrIn.below (h:FrIn w G C b) (hb:Below w.heap.size w w'):FrIn w' G C b:=by
 obtain ⟨h1,h2,cur,h3,h4⟩:=h
 exact ⟨h1,h2,cur,tr_bl hb h3,h4⟩
theorem FrIn.piece (h:FrIn w G C b) {k:Nat} (hk:64 * k+64≤b.length):SlB w (some ⟨G,64 * k,none⟩) (C - 64 * k) (pcD b k):=by
 obtain ⟨h1,h2,cur,h3,h4⟩:=h
 have hl:(pcD b k).length=64:=by unfold pcD;rw [List.length_take,List.length_drop];omega
 refine ⟨Row.of_block h3 (64 * k) (fun i u hu=>?_),by omega,by omega,fun e=>by cases e⟩
 refine h4 _ _ ?_
 have hi:=(List.getElem?_eq_some_iff.1 hu).1
 rw [bys_len,hl] at hi
 unfold bys pcD at hu
 rw [List.getElem?_map,List.getElem?_take_of_lt hi,List.getElem?_drop] at hu
 unfold bys
 rw [List.getElem?_map]
 exact hu
theorem FrIn.of_owns {base:Nat} {v:Value} (h:w.ownsRow base 5 1 v b.length (bys b)) (hb:0 < b.length):∃ G C,v=.slice (some ⟨G,0,none⟩) b.length C∧base≤G∧FrIn w G C b:=by
 rcases h.2 with ⟨h1,h2⟩ | ⟨g,cap,cur,h1,h2,h3,h4,h5,h6,h7⟩
 ·omega
 ·refine ⟨g,cap,h1,h2,h4,h5,cur.toList,by rw [Array.toArray_toList];exact h3,fun i u hu=>?_⟩
  have hi:=(List.getElem?_eq_some_iff.1 hu).1
  rw [bys_len] at hi
  rw [← h7,List.getElem?_take_of_lt (by omega)] at hu
  exact hu
end
end
section
section
variable {w:World} {q:Nat} {t:Tg} {T:TypeId}
end
theorem pcD_len {b:List UInt8} {k:Nat} (h:64 * k+64≤b.length):(pcD b k).length=64:=by unfold pcD;rw [List.length_take,List.length_drop];omega
section
variable {B g gp:Nat} {wv:Value} {d:Dk} {w:World}
end
end
section
theorem a6_tg (x:A6):1+5≤(a6A x).size∧(a6A x).extract 1 (1+5)=#[Value.int .i64 x.tg.rep,.int .i64 x.tg.reg,.int .i64 x.tg.pla,.int .i64 x.tg.idx,.int .i64 x.tg.inc]:=⟨by show 6≤12;decide,by simp [a6A,a6L]⟩
theorem a6_dk (x:A6):7+5≤(a6A x).size∧(a6A x).extract 7 (7+5)=a5A x.dk:=⟨by show 12≤12;decide,by simp [a6A,a6L,a5A,a5L]⟩
section
variable {w:World} {q:Nat} {x:A6} {T:TypeId}
theorem a6_c0 (h:w.heap[q]?=some (.cells (a6A x) T (0,0))):w.cell? ⟨q,0,none⟩=some (.bool x.sl):=blk_cell h 0 _ rfl
theorem a6_c2 (h:w.heap[q]?=some (.cells (a6A x) T (0,0))):w.cell? ⟨q,2,none⟩=some (.int .i64 x.tg.reg):=blk_cell h 2 _ rfl
theorem a6_c3 (h:w.heap[q]?=some (.cells (a6A x) T (0,0))):w.cell? ⟨q,3,none⟩=some (.int .i64 x.tg.pla):=blk_cell h 3 _ rfl
theorem a6_c6 (h:w.heap[q]?=some (.cells (a6A x) T (0,0))):w.cell? ⟨q,6,none⟩=some (.slice x.oa x.body.length x.oc):=blk_cell h 6 _ rfl
end
section
variable {B g gp:Nat} {wv:Value} {d:Dk} {w:World}
theorem ldo_no (h:DiskB B g gp wv d w) (hb:B≤w.heap.size) (x:A6) (hx:x.sl=false) (hi:∀ w',Kt B w w'→A6in w' x) (hl:x.dk.bytes.length≤200) (hw:d.waits.length≤1000) :
  Calls Tryz.prog 15 #[.pointer (some ⟨g,0,none⟩),a6V x] w fun e w'=>(∃ v,e=.returned v)∧Does B g gp w (do6 d x) w':=by
 have hbw:=blw w (Obj.cells (a6A x) 44)
 have D0:=h.below hbw
 have k0:=Kt.of hbw hb
 have B0:=heap_alloc_new w (Obj.cells (a6A x) 44)
 have hB0:B≤(w.alloc (Obj.cells (a6A x) 44)).heap.size:=Nat.le_trans hb k0.bl.size
 have h5:=do5_any D0 hB0 x.dk (fun w' hk=>(hi w' (k0.trans hk)).d) (hi _ k0).k (hi _ k0).n hl (by omega)
 have c0:=a6_c0 B0
 rw [hx] at c0
 unfold do6
 rw [if_pos hx]
 unfold a6V
 clear hbw h hi hx
 go_enter func15,ntmps15
 refine seqH fun K HK=>?_
 go_wp2
 refine HK.out _ _ ?_
 clear HK
 generalize w.alloc (Obj.cells (a6A x) 44)=w0 at *
 go_wp2_with (first
  | ((with_reducible refine wpList_ldB 42 _ ?_);refine ⟨rfl,_,⟨_,_,_,_,_,isAgg42,sizeOf42,rfl,‹_›,a6_dk x⟩,?_⟩)
  | (go_at_call 59;refine h5.mono ?_;rintro e w1 ⟨rfl,D1,k1⟩))
 refine bodyPost_ret (results_none rfl _ _ _) rfl ?_
 exact ⟨⟨_,rfl⟩,D1,k0.trans k1⟩
theorem ldo_yes (h:DiskB B g gp wv d w) (hb:B≤w.heap.size) (x:A6) (hx:x.sl=true) (hi:∀ w',Kt B w w'→A6in w' x) (hl:x.body.length≤1000) (hw:d.waits.length≤1000) :
  Calls Tryz.prog 15 #[.pointer (some ⟨g,0,none⟩),a6V x] w fun e w'=>(∃ v,e=.returned v)∧Does B g gp w (do6 d x) w':=by
 have hbw:=blw w (Obj.cells (a6A x) 44)
 have D0:=h.below hbw
 have k0:=Kt.of hbw hb
 have B0:=heap_alloc_new w (Obj.cells (a6A x) 44)
 have hB0:B≤(w.alloc (Obj.cells (a6A x) 44)).heap.size:=Nat.le_trans hb k0.bl.size
 have I0:=hi _ k0
 have c0:=a6_c0 B0
 rw [hx] at c0
 unfold do6
 rw [if_neg (by rw [hx];decide)]
 have hwi:=fun w=>lwide_any x.tg w
 have hwt:=wideT_le x.tg
 have hse:=fun w' (hs':SlB w' x.oa x.oc x.body)=>rseal_any x.tg x.oa x.oc x.body (wideT x.tg) w' hs' hl (by omega)
 have hcs:=sealR_len x.tg x.body (wideT x.tg)
 have hff:sealE x.tg x.body (wideT x.tg)=0→∃ f:Nat,firstN x.tg.reg x.tg.pla=f∧f+wideT x.tg≤156:=fun he=>by
  cases hm:mayTg x.tg
  ·unfold sealE at he
   rw [if_pos (.inl hm)] at he
   cases he
  ·obtain ⟨f,h1,h2,_⟩:=place_of hm
   exact ⟨f,h1,h2⟩
 generalize wideT x.tg=n at *
 generalize sealR x.tg x.body n=b at *
 generalize sealE x.tg x.body n=se at *
 generalize hfi:firstN x.tg.reg x.tg.pla=fi at *
 have HF:=Lib.hid hfi
 have HCS:=Lib.hid hcs
 have HFF:=Lib.hid hff
 have hpw:=fun k=>(puts_pl d fi b k).2
 clear hfi hcs hff hbw h hi hx
 unfold a6V
 go_enter func15,ntmps15
 refine seqH fun K HK=>?_
 go_wp2
 refine HK.out _ _ ?_
 clear HK
 generalize w.alloc (Obj.cells (a6A x) 44)=w0 at *
 obtain ⟨q,hq⟩:∃ q,w.heap.size=q:=⟨_,rfl⟩
 have hbq:B≤q:=by omega
 rw [hq] at B0 c0 ⊢
 clear hq
 refine seqH fun K HK=>?_
 go_wp2
 refine HK.out _ _ ?_
 clear HK
 clear c0
 refine seqH fun K HK=>?_
 go_wp2_with fail
 have hbd:=(Below.refl w0.heap.size w0).drew
 have D1:=D0.below hbd
 have k1:=k0.trans (Kt.of hbd hB0)
 have B1:=tr_bl hbd B0
 have s1:=I0.b.below hbd
 have hB1:=Nat.le_trans hB0 hbd.size
 clear D0 k0 B0 I0 hB0 hbd
 refine wp_region_held_drew (S:=fun w'=>w'.heap[q]?=some (.cells (a6A x) 44 (0,0))) (by kernel_rfl) B1 (fun hS0=>?_)
 generalize w0.drew=x0 at *
 refine tkP 0 rfl ?_
 refine tkT 1 (v:=.agg (#[Value.int .i64 x.tg.rep,.int .i64 x.tg.reg,.int .i64 x.tg.pla,.int .i64 x.tg.idx,.int .i64 x.tg.inc])) rfl (by intro wS hSw;exact exec_ldB 39 _ ⟨_,_,_,_,_,isAgg39,sizeOf39,rfl,hSw,a6_tg x⟩) ?_
 refine tkP 2 rfl ?_
 refine tkT 3 rfl (by intro wS hSw;have c:=a6_c6 hSw;go_simp;(try with_reducible rfl)) ?_
 refine tkP 4 rfl ?_
 refine tkT 5 (v:=.agg (#[Value.int .i64 x.tg.rep,.int .i64 x.tg.reg,.int .i64 x.tg.pla,.int .i64 x.tg.idx,.int .i64 x.tg.inc])) rfl (by intro wS hSw;exact exec_ldB 39 _ ⟨_,_,_,_,_,isAgg39,sizeOf39,rfl,hSw,a6_tg x⟩) ?_
 refine rdy1 6 rfl (fun K' hK'=>?_)
 go_simp
 refine (hwi _).mono ?_
 rintro e w4 ⟨rfl,hb4⟩
 have D4:=D1.below hb4
 have k4:=k1.trans (Kt.of hb4 hB1)
 have B4:=tr_bl hb4 B1
 have s4:=s1.below hb4
 have hB4:=Nat.le_trans hB1 hb4.size
 refine hK'.out _ _ B4 (fun _=>?_)
 clear hK' D1 k1 B1 s1 hB1 hb4 hS0
 (try simp only [Act.put,qa1,qa2,qa3])
 refine rdy1 7 rfl (fun K' hK'=>?_)
 go_simp
 refine (hse _ s4).mono ?_
 rintro e w5 ⟨⟨v5,rfl,o5⟩,hb5⟩
 have D5:=D4.below hb5
 have k5:=k4.trans (Kt.of hb5 hB4)
 have B5:=tr_bl hb5 B4
 have hB5:=Nat.le_trans hB4 hb5.size
 refine hK'.out _ _ B5 (fun _=>?_)
 clear hK' D4 k4 B4 s4 hB4 hb5 hse hwi
 (try simp only [Act.put,qa1,qa2,qa3])
 refine tkP 8 rfl ?_
 refine tkP 9 rfl ?_
 refine tkP 10 rfl ?_
 refine tkP 11 rfl ?_
 refine tkP 12 rfl ?_
 refine wpAnyH_done (by kernel_rfl) ?_ _
 refine HK.out _ _ ?_
 clear HK
 refine seqH fun K HK=>?_
 go_wp2
 refine HK.out _ _ ?_
 clear HK
 rcases HCS.out with ⟨hlb,hn12,rfl⟩ | ⟨hlb,hne⟩
 case inr=>
  have hsn:(se==0)=false:=by rw [beq_eq_false_iff_ne];exact hne
  rw [hlb]
  clear hne HCS HFF hlb
  go_wp2_with fail
  go_loopw [6] (fun i wr=>i=.int .i64 0∧wr=w5) (fun _ _=>0)
  case atStart=>exact ⟨rfl,rfl⟩
  case round=>
   obtain ⟨rfl,rfl⟩:=hrel
   go_wp2
   go_end0
   exact ⟨⟨_,rfl⟩,⟨_,D5⟩,k5⟩
 case inl=>
  obtain ⟨f,hf,hfn⟩:=HFF.out rfl
  subst hf
  obtain ⟨G,C,rfl,hG,F5⟩:=FrIn.of_owns o5 (by omega)
  rw [show b.length / 64=n by omega]
  have q1:(b.length:Int) / 64=(n:Int):=by omega
  have q2:(b.length:Int).tdiv 64=(n:Int):=by rw [Int.tdiv_eq_ediv_of_nonneg (by omega)];exact q1
  have hC:=F5.1
  have HL:=Lib.hid hlb
  have hCm:=F5.2.1
  unfold maxLen at hCm
  clear HCS HFF o5 hG hlb
  go_wp2_with fail
  go_loopw [6] (fun i wr=>∃ k:Nat,k≤n∧i=.int .i64 (k:Int)∧(∃ wv',DiskB B g gp wv' (putsD d f b k) wr)∧Kt B w wr∧wr.heap[q]?=some (Obj.cells (a6A x) 44)∧FrIn wr G C b) (fun i _=>n - (intOf i).toNat)
  case atStart=>exact ⟨0,by omega,rfl,⟨_,D5⟩,k5,B5,F5⟩
  case round=>
   clear D5 k5 B5 F5 hB5
   obtain ⟨k,hkn,rfl,⟨wv7,D7⟩,k7,B7,F7⟩:=hrel
   have hB7:=Nat.le_trans hb k7.bl.size
   by_cases hlt:k < n
   case neg=>
    obtain rfl:k=n:=by omega
    go_wp2
    go_end0
    exact ⟨⟨_,rfl⟩,⟨_,D7⟩,k7⟩
   case pos=>
    have hlI:(k:Int) < (n:Int):=by omega
    have W1:=Lib.hid (show IntKind.i64.wrap (64 * (k:Int))=64 * (k:Int) from IntWalk.i64_in _ (by omega))
    have W2:=Lib.hid (show IntKind.i64.wrap (64 * (k:Int)+64)=64 * (k:Int)+64 from IntWalk.i64_in _ (by omega))
    have W3:=Lib.hid (show IntKind.i64.wrap ((f:Int)+(k:Int))=(f:Int)+(k:Int) from IntWalk.i64_in _ (by omega))
    have T1:=Lib.hid (show (64 * (k:Int)).toNat=64 * k by omega)
    have T2:=Lib.hid (show (64 * (k:Int)+64).toNat=64 * k+64 by omega)
    refine seqH fun K HK=>?_
    go_wp2
    refine HK.out _ _ ?_
    clear HK
    refine seqH fun K HK2=>?_
    refine wp_block ?_
    go_wp2_with fail
    have hbd:=(Below.refl wr.heap.size wr).drew
    have D9:=D7.below hbd
    have k9:=k7.trans (Kt.of hbd hB7)
    have B9:=tr_bl hbd B7
    have F9:=F7.below hbd
    have hB9:=Nat.le_trans hB7 hbd.size
    clear D7 k7 B7 F7 hB7 hbd
    refine wp_region_held_drew (S:=fun w'=>w'.heap[q]?=some (.cells (a6A x) 44 (0,0))) (by kernel_rfl) B9 (fun hS0=>?_)
    generalize wr.drew=x1 at *
    refine tkP 0 rfl ?_
    refine tkP 1 rfl ?_
    refine tkP 2 rfl ?_
    refine tkT 3 rfl (by intro wS hSw;have c:=a6_c2 hSw;go_simp;(try with_reducible rfl)) ?_
    refine tkP 4 rfl ?_
    refine tkP 5 rfl ?_
    refine tkT 6 rfl (by intro wS hSw;have c:=a6_c3 hSw;go_simp;(try with_reducible rfl)) ?_
    refine tkP 8 rfl ?_
    refine tkP 10 rfl ?_
    refine tkP 11 rfl ?_
    refine tkT 12 (v:=.int .i64 (64 * (k:Int))) rfl (by intro wS hSw;go_simp;rw [W1.out]) ?_
    refine tkP 13 rfl ?_
    refine tkT 14 (v:=.int .i64 (64 * (k:Int))) rfl (by intro wS hSw;go_simp;rw [W1.out]) ?_
    refine tkT 15 (v:=.int .i64 (64 * (k:Int)+64)) rfl (by intro wS hSw;go_simp;rw [W2.out]) ?_
    refine tkT 16 (v:=.slice (some ⟨G,64 * k,none⟩) 64 (C - 64 * k)) rfl (by intro wS hSw;go_simp;rw [if_pos ⟨by omega,by have:=HL.out;omega⟩,if_pos ⟨by omega,by omega⟩,T1.out,T2.out,if_neg (by have:=HL.out;omega),show 64 * k+64 - 64 * k=64 by omega]) ?_
    refine rdy1 7 rfl (fun K' hK'=>?_)
    go_simp
    refine (first_any x.tg.reg x.tg.pla _).mono ?_
    rintro e w10 ⟨rfl,hb10⟩
    rw [HF.out]
    have D10:=D9.below hb10
    have k10:=k9.trans (Kt.of hb10 hB9)
    have B10:=tr_bl hb10 B9
    have F10:=F9.below hb10
    have hB10:=Nat.le_trans hB9 hb10.size
    refine hK'.out _ _ B10 (fun _=>?_)
    clear hK' D9 k9 B9 F9 hB9 hb10 hS0
    (try simp only [Act.put,qa1,qa2,qa3])
    refine tkT 9 (v:=.int .i64 ((f:Int)+(k:Int))) rfl (by intro wS hSw;go_simp;rw [W3.out]) ?_
    refine rdy1 17 rfl (fun K' hK'=>?_)
    go_simp
    have hwr:=write_any D10 hB10 ((f:Int)+(k:Int)) (some ⟨G,64 * k,none⟩) (C - 64 * k) (pcD b k) (fun w' hk=>(F10.kt hk).piece (by have:=HL.out;omega)) (by have:=hpw k;omega)
    rw [pcD_len (by have:=HL.out;omega)] at hwr
    refine hwr.mono ?_
    rintro e w11 ⟨rfl,⟨wv11,D11⟩,hk11⟩
    have B11:=hk11.ty _ _ _ B10 (by decide) (by decide) (by decide)
    have F11:=F10.kt hk11
    have k11:=k10.trans hk11
    refine hK'.out _ _ B11 (fun _=>?_)
    clear hK' hwr D10 k10 B10 F10 hB10 hk11
    refine wpAnyH_done (by kernel_rfl) ?_ _
    (try simp only [Exit.inBlock,Exit.then])
    refine HK2.out _ _ ?_
    clear HK2
    go_wp2
    go_roundw
    case rel=>exact ⟨k+1,by omega,by go_num,⟨_,D11⟩,k11,B11,F11⟩
    case measure=>simp [intOf];omega
theorem ldo_any (h:DiskB B g gp wv d w) (hb:B≤w.heap.size) (x:A6) (hi:∀ w',Kt B w w'→A6in w' x) (hl:x.body.length≤100∧x.dk.bytes.length≤200∧x.dk.keep.length≤100) (hw:d.waits.length≤1000) :
  Calls Tryz.prog 15 #[.pointer (some ⟨g,0,none⟩),a6V x] w fun e w'=>(∃ v,e=.returned v)∧Does B g gp w (do6 d x) w':=by
 cases hx:x.sl
 ·exact ldo_no h hb x hx hi hl.2.1 hw
 ·exact ldo_yes h hb x hx hi (by omega) hw
end
end
end Go.Proofs.YtbdonjenekhmdaaGreatDoor
