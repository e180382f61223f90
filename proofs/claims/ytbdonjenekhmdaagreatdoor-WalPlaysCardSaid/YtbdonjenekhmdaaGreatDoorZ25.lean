/- Texts that the claim leans on, part 25: W27, W28, C31, C32, DP, C33, W29, W30. -/
import Derived.Test.YtbdonjenekhmdaaGreatDoorZ1
import Derived.Test.YtbdonjenekhmdaaGreatDoorZ2
import Derived.Test.YtbdonjenekhmdaaGreatDoorZ3
import Derived.Test.YtbdonjenekhmdaaGreatDoorZ4
import Derived.Test.YtbdonjenekhmdaaGreatDoorZ5
import Derived.Test.YtbdonjenekhmdaaGreatDoorZ6
import Derived.Test.YtbdonjenekhmdaaGreatDoorZ7
import Derived.Test.YtbdonjenekhmdaaGreatDoorZ8
import Derived.Test.YtbdonjenekhmdaaGreatDoorZ9
import Derived.Test.YtbdonjenekhmdaaGreatDoorZ10
import Derived.Test.YtbdonjenekhmdaaGreatDoorZ11
import Derived.Test.YtbdonjenekhmdaaGreatDoorZ12
import Derived.Test.YtbdonjenekhmdaaGreatDoorZ13
import Derived.Test.YtbdonjenekhmdaaGreatDoorZ14
import Derived.Test.YtbdonjenekhmdaaGreatDoorZ15
import Derived.Test.YtbdonjenekhmdaaGreatDoorZ16
import Derived.Test.YtbdonjenekhmdaaGreatDoorZ17
import Derived.Test.YtbdonjenekhmdaaGreatDoorZ18
import Derived.Test.YtbdonjenekhmdaaGreatDoorZ19
import Derived.Test.YtbdonjenekhmdaaGreatDoorZ20
import Derived.Test.YtbdonjenekhmdaaGreatDoorZ21
import Derived.Test.YtbdonjenekhmdaaGreatDoorZ22
import Derived.Test.YtbdonjenekhmdaaGreatDoorZ23
import Derived.Test.YtbdonjenekhmdaaGreatDoorZ24
namespace Go.Proofs.YtbdonjenekhmdaaGreatDoor
open Go.RowKit Go.Proofs.Tryz
set_option maxRecDepth 100000
set_option maxHeartbeats 32000000
section
section
variable {B g gp q:Nat} {wv:Value} {qq:RQ} {d:Dk} {w w':World} {s:Lg}
theorem rget11_any (h:LrB w q g s) (R:RefB B g qq d w) (hs:LgOk s) (i:Int):Calls Tryz.prog 92 #[.pointer (some ⟨q,0,none⟩),.int .i64 i] w fun e w'=>e=.returned (.tuple #[.int .u8 (classW d s i).1,.agg (rptA (getW d s i).1),.int .i64 (getW d s i).2])∧Below w.heap.size w w':=by
 have hup:=up_cases R
 unfold getW classW
 cases hh:hasW s i
 ·rw [has_not (d:=d) hh,if_pos (by decide),if_pos (by decide)]
  have hbz:=blw w (Obj.cells #[.int .i64 0,.int .u8 0,.int .i64 0,.int .i64 0,.int .u8 0,.int .i64 0,.int .i64 0,.int .u8 0,.string ⟨#[]⟩,.string ⟨#[]⟩,.string ⟨#[]⟩] 163)
  have R0:(w.alloc (Obj.cells #[.int .i64 0,.int .u8 0,.int .i64 0,.int .i64 0,.int .u8 0,.int .i64 0,.int .i64 0,.int .u8 0,.string ⟨#[]⟩,.string ⟨#[]⟩,.string ⟨#[]⟩] 163)).heap[w.heap.size]?=some (.cells (rpA 0 0 zeroL (zeroE 0)) 163 (0,0)):=heap_alloc_new w (Obj.cells #[.int .i64 0,.int .u8 0,.int .i64 0,.int .i64 0,.int .u8 0,.int .i64 0,.int .i64 0,.int .u8 0,.string ⟨#[]⟩,.string ⟨#[]⟩,.string ⟨#[]⟩] 163)
  have L0:=h.below hbz
  have D0:=R.below hbz
  have hhs:=rhas11_any L0 hs.p i
  have c0:=L0.c0
  have c4:=D0.c4
  have c5:=D0.c5
  rw [hh] at hhs
  go_enter func92,ntmps92
  refine seqH fun K HK=>?_
  go_wp2
  refine HK.out _ _ ?_
  clear HK
  generalize w.alloc (Obj.cells #[.int .i64 0,.int .u8 0,.int .i64 0,.int .i64 0,.int .u8 0,.int .i64 0,.int .i64 0,.int .u8 0,.string ⟨#[]⟩,.string ⟨#[]⟩,.string ⟨#[]⟩] 163)=w0 at *
  go_wp2_with (first
   | (go_at_call 85;refine hhs.mono ?_;rintro e w1 ⟨rfl,rfl⟩)
   | ((with_reducible refine wpList_stB 163 _ _ ?_);refine ⟨_,_,_,⟨_,_,_,sizeOf163,rfl,R0,rp_over _ _ _ _ 0 0 zeroL (zeroE 0)⟩,?_⟩;intro w9 R9 g9))
  refine bodyPost_ret (results_t1c1t1' rfl rfl (run_loadVar_all isAgg163 sizeOf163 R9 rfl)) rfl ⟨rfl,bls hbz (Nat.le_refl _) g9 (Nat.le_refl _)⟩
 ·rw [live_has (d:=d) hh]
  rcases hup with ⟨hu,e1,e2⟩ | ⟨hu,e1,e2⟩ | ⟨hu,e1⟩
  ·have hh2:=hh
   unfold hasW at hh2
   rw [Bool.and_eq_true,decide_eq_true_iff,decide_eq_true_iff] at hh2
   have hsp0:=hs.p
   have h1:1≤i:=by omega
   have h2:i≤1099511627776:=by omega
   have hre:=fun w' (h:LrB w' q g s) (D:RefB B g qq d w')=>rread11_any h D i h1 h2
   have hwh:(recW d s i).wh=0∨(recW d s i).wh=1:=recOf_wh _
   have hnx:=fun w=>rwhat10_any (recW d s i) (ffW d s i) i w hwh (ffW_bal d s i)
   rw [if_neg (by simp [hu]),if_neg (by simp [hu])]
   unfold rptA rptW
   simp only
   rw [show whatS (recW d s i) (ffW d s i) i=repW d s i from rfl] at hnx
   generalize repW d s i=z at *
   generalize recW d s i=p at *
   generalize ffW d s i=f at *
   clear hh2 hsp0 h1 h2 hwh hu
   have hbz:=blw w (Obj.cells #[.int .i64 0,.int .u8 0,.int .i64 0,.int .i64 0,.int .u8 0,.int .i64 0,.int .i64 0,.int .u8 0,.string ⟨#[]⟩,.string ⟨#[]⟩,.string ⟨#[]⟩] 163)
   have R0:(w.alloc (Obj.cells #[.int .i64 0,.int .u8 0,.int .i64 0,.int .i64 0,.int .u8 0,.int .i64 0,.int .i64 0,.int .u8 0,.string ⟨#[]⟩,.string ⟨#[]⟩,.string ⟨#[]⟩] 163)).heap[w.heap.size]?=some (.cells (rpA 0 0 zeroL (zeroE 0)) 163 (0,0)):=heap_alloc_new w (Obj.cells #[.int .i64 0,.int .u8 0,.int .i64 0,.int .i64 0,.int .u8 0,.int .i64 0,.int .i64 0,.int .u8 0,.string ⟨#[]⟩,.string ⟨#[]⟩,.string ⟨#[]⟩] 163)
   have L0:=h.below hbz
   have D0:=R.below hbz
   have hhs:=rhas11_any L0 hs.p i
   have c0:=L0.c0
   have c4:=D0.c4
   have c5:=D0.c5
   rw [hh] at hhs
   go_enter func92,ntmps92
   refine seqH fun K HK=>?_
   go_wp2
   refine HK.out _ _ ?_
   clear HK
   generalize w.alloc (Obj.cells #[.int .i64 0,.int .u8 0,.int .i64 0,.int .i64 0,.int .u8 0,.int .i64 0,.int .i64 0,.int .u8 0,.string ⟨#[]⟩,.string ⟨#[]⟩,.string ⟨#[]⟩] 163)=w0 at *
   rw [e1] at c4
   rw [e2] at c5
   refine seqH fun K HK=>?_
   go_wp2_with (go_at_call 85;refine hhs.mono ?_;rintro e w1 ⟨rfl,rfl⟩)
   refine HK.out _ _ ?_
   clear HK
   refine seqH fun K HK=>?_
   go_wp2
   refine HK.out _ _ ?_
   clear HK
   clear c0 c4 c5 e1 e2 hhs h R
   refine seqH fun K HK=>?_
   go_wp2_with (first
       | (go_at_call 86;refine (hre _ L0 D0).mono ?_;rintro en w4 ⟨rfl,hb6⟩;have X40:((w4.alloc (Obj.cells #[.int .u8 0,.int .i64 0,.int .i64 0,.int .i64 0,.int .i64 0] 147)).alloc (Obj.cells #[.int .u8 0,.int .i64 0,.int .i64 0,.int .i64 0,.int .u8 0,.int .i64 0,.int .i64 0,.int .u8 0,.string ⟨#[]⟩,.string ⟨#[]⟩,.string ⟨#[]⟩,.int .u8 0,.int .i64 0,.int .i64 0,.int .i64 0,.int .u8 0,.int .i64 0,.int .i64 0,.int .u8 0,.string ⟨#[]⟩,.string ⟨#[]⟩,.string ⟨#[]⟩] 150)).heap[w4.heap.size]?=some (.cells (recA (zRec 0)) 147 (0,0)):=tr_al (Obj.cells #[.int .u8 0,.int .i64 0,.int .i64 0,.int .i64 0,.int .u8 0,.int .i64 0,.int .i64 0,.int .u8 0,.string ⟨#[]⟩,.string ⟨#[]⟩,.string ⟨#[]⟩,.int .u8 0,.int .i64 0,.int .i64 0,.int .i64 0,.int .u8 0,.int .i64 0,.int .i64 0,.int .u8 0,.string ⟨#[]⟩,.string ⟨#[]⟩,.string ⟨#[]⟩] 150) (heap_alloc_new w4 (Obj.cells #[.int .u8 0,.int .i64 0,.int .i64 0,.int .i64 0,.int .i64 0] 147));have Y40:((w4.alloc (Obj.cells #[.int .u8 0,.int .i64 0,.int .i64 0,.int .i64 0,.int .i64 0] 147)).alloc (Obj.cells #[.int .u8 0,.int .i64 0,.int .i64 0,.int .i64 0,.int .u8 0,.int .i64 0,.int .i64 0,.int .u8 0,.string ⟨#[]⟩,.string ⟨#[]⟩,.string ⟨#[]⟩,.int .u8 0,.int .i64 0,.int .i64 0,.int .i64 0,.int .u8 0,.int .i64 0,.int .i64 0,.int .u8 0,.string ⟨#[]⟩,.string ⟨#[]⟩,.string ⟨#[]⟩] 150)).heap[w4.heap.size+1]?=some (.cells (ffA (fun _=>zCp 0)) 150 (0,0)):=new_two w4 (Obj.cells #[.int .u8 0,.int .i64 0,.int .i64 0,.int .i64 0,.int .i64 0] 147) (Obj.cells #[.int .u8 0,.int .i64 0,.int .i64 0,.int .i64 0,.int .u8 0,.int .i64 0,.int .i64 0,.int .u8 0,.string ⟨#[]⟩,.string ⟨#[]⟩,.string ⟨#[]⟩,.int .u8 0,.int .i64 0,.int .i64 0,.int .i64 0,.int .u8 0,.int .i64 0,.int .i64 0,.int .u8 0,.string ⟨#[]⟩,.string ⟨#[]⟩,.string ⟨#[]⟩] 150))
       | ((with_reducible refine wpList_stB 147 _ _ ?_);refine ⟨_,_,_,⟨_,_,_,sizeOf147,rfl,X40,rec_over _ p⟩,?_⟩;intro w41 X41 g41;have Y41:=tr_st g41 Y40 (by omega))
       | ((with_reducible refine wpList_stB 150 _ _ ?_);refine ⟨_,_,_,⟨_,_,_,sizeOf150,rfl,Y41,ff_over _ f⟩,?_⟩;intro w42 Y42 g42))
   refine HK.out _ _ ?_
   clear HK
   have X42:=tr_st g42 X41 (by omega)
   have hbb:=hb6.trans (((blw w4 (Obj.cells #[.int .u8 0,.int .i64 0,.int .i64 0,.int .i64 0,.int .i64 0] 147)).trans ((blw (w4.alloc (Obj.cells #[.int .u8 0,.int .i64 0,.int .i64 0,.int .i64 0,.int .i64 0] 147)) (Obj.cells #[.int .u8 0,.int .i64 0,.int .i64 0,.int .i64 0,.int .u8 0,.int .i64 0,.int .i64 0,.int .u8 0,.string ⟨#[]⟩,.string ⟨#[]⟩,.string ⟨#[]⟩,.int .u8 0,.int .i64 0,.int .i64 0,.int .i64 0,.int .u8 0,.int .i64 0,.int .i64 0,.int .u8 0,.string ⟨#[]⟩,.string ⟨#[]⟩,.string ⟨#[]⟩] 150)).mono (blw w4 (Obj.cells #[.int .u8 0,.int .i64 0,.int .i64 0,.int .i64 0,.int .i64 0] 147)).size)).mono hb6.size)
   have hsz4:=hb6.size
   have hk42:Below w0.heap.size w0 w42:=bls (bls hbb (Nat.le_refl _) g41 hsz4) (Nat.le_refl _) g42 (by omega)
   have R42:=tr_bl hk42 R0
   have hx42:=hbz.trans (hk42.mono hbz.size)
   clear hre L0 D0 R0 hb6 hbb hsz4 hk42 X40 Y40 X41 Y41 g41 g42 hbz
   generalize w4.heap.size=cb at *
   refine seqH fun K HK=>?_
   go_wp2_with (first
       | ((with_reducible refine wpList_ldB 147 _ ?_);refine ⟨rfl,_,⟨_,_,_,_,_,isAgg147,sizeOf147,rfl,‹_›,arr_all rfl⟩,?_⟩)
       | ((with_reducible refine wpList_ldB 150 _ ?_);refine ⟨rfl,_,⟨_,_,_,_,_,isAgg150,sizeOf150,rfl,‹_›,arr_all rfl⟩,?_⟩)
       | (go_at_call 168;refine (hnx _).mono ?_;rintro en w5 ⟨⟨kk,rfl⟩,hb7⟩)
       | ((first | (with_reducible refine wpList_stNew 163 _ _ ?_) | (with_reducible refine wp_stNew 163 _ _ ?_));refine ⟨_,_,⟨sizeOf163,rfl,rp_new _ _ _ _⟩,rfl,?_⟩))
   refine HK.out _ _ ?_
   clear HK
   have hbo:=blw w5 (Obj.cells (rpA i z.2.1 z.2.2.1 z.2.2.2) 163)
   have O6:=heap_alloc_new w5 (Obj.cells (rpA i z.2.1 z.2.2.1 z.2.2.2) 163)
   have R6:=tr_bl hbo (tr_bl hb7 R42)
   have hr6:=lt_blk (tr_bl hb7 R42)
   have hx5:=hx42.trans (hb7.mono hx42.size)
   have hx6:=hx5.trans (hbo.mono hx5.size)
   clear X42 Y42 R42 hx42 hx5 hb7 hbo hnx
   generalize w5.alloc (Obj.cells (rpA i z.2.1 z.2.2.1 z.2.2.2) 163)=w6 at *
   generalize w5.heap.size=ob at *
   refine seqH fun K HK=>?_
   go_wp2_with fail
   have hbd:=(Below.refl w6.heap.size w6).drew
   have O7:=tr_bl hbd O6
   have R7:=tr_bl hbd R6
   have hx7:=hx6.trans (hbd.mono hx6.size)
   clear O6 R6 hx6 hbd
   refine wp_region_held_drew (S:=fun w'=>w'.heap[ob]?=some (Obj.cells (rpA i z.2.1 z.2.2.1 z.2.2.2) 163)) (by kernel_rfl) O7 (fun hS0=>?_)
   generalize w6.drew=x0 at *
   refine tkP 0 rfl ?_
   refine tkT 1 (v:=.agg (rpA i z.2.1 z.2.2.1 z.2.2.2)) rfl (by intro wS hSw;exact exec_ldB 163 _ ⟨_,_,_,_,_,isAgg163,sizeOf163,rfl,hSw,arr_all rfl⟩) ?_
   refine tkP 2 rfl ?_
   refine rdy1 3 rfl (fun K' hK'=>?_)
   refine wp_stB 163 _ _ ?_
   refine ⟨_,_,_,⟨_,_,_,sizeOf163,rfl,R7,rp_over _ _ _ _ i z.2.1 z.2.2.1 z.2.2.2⟩,?_⟩
   intro w8 R8 g8
   refine hK'.out _ _ (tr_st g8 hS0 (by omega)) (fun _=>?_)
   clear hK'
   (try simp only [Act.put,qa1,qa2,qa3])
   refine tkP 4 rfl ?_
   refine wpAnyH_done (by kernel_rfl) ?_ _
   refine HK.out _ _ ?_
   clear HK
   go_wp2
   refine bodyPost_ret (results_t1c1t1' rfl rfl (run_loadVar_all isAgg163 sizeOf163 R8 rfl)) rfl ⟨rfl,bls hx7 (Nat.le_refl _) g8 (by omega)⟩
  ·rw [if_pos hu,if_pos (by decide),if_pos (by decide)]
   have hbz:=blw w (Obj.cells #[.int .i64 0,.int .u8 0,.int .i64 0,.int .i64 0,.int .u8 0,.int .i64 0,.int .i64 0,.int .u8 0,.string ⟨#[]⟩,.string ⟨#[]⟩,.string ⟨#[]⟩] 163)
   have R0:(w.alloc (Obj.cells #[.int .i64 0,.int .u8 0,.int .i64 0,.int .i64 0,.int .u8 0,.int .i64 0,.int .i64 0,.int .u8 0,.string ⟨#[]⟩,.string ⟨#[]⟩,.string ⟨#[]⟩] 163)).heap[w.heap.size]?=some (.cells (rpA 0 0 zeroL (zeroE 0)) 163 (0,0)):=heap_alloc_new w (Obj.cells #[.int .i64 0,.int .u8 0,.int .i64 0,.int .i64 0,.int .u8 0,.int .i64 0,.int .i64 0,.int .u8 0,.string ⟨#[]⟩,.string ⟨#[]⟩,.string ⟨#[]⟩] 163)
   have L0:=h.below hbz
   have D0:=R.below hbz
   have hhs:=rhas11_any L0 hs.p i
   have c0:=L0.c0
   have c4:=D0.c4
   have c5:=D0.c5
   rw [hh] at hhs
   go_enter func92,ntmps92
   refine seqH fun K HK=>?_
   go_wp2
   refine HK.out _ _ ?_
   clear HK
   generalize w.alloc (Obj.cells #[.int .i64 0,.int .u8 0,.int .i64 0,.int .i64 0,.int .u8 0,.int .i64 0,.int .i64 0,.int .u8 0,.string ⟨#[]⟩,.string ⟨#[]⟩,.string ⟨#[]⟩] 163)=w0 at *
   rw [e1] at c4
   rw [e2] at c5
   go_wp2_with (first
    | (go_at_call 85;refine hhs.mono ?_;rintro e w1 ⟨rfl,rfl⟩)
    | ((with_reducible refine wpList_stB 163 _ _ ?_);refine ⟨_,_,_,⟨_,_,_,sizeOf163,rfl,R0,rp_over _ _ _ _ 0 0 zeroL (zeroE 0)⟩,?_⟩;intro w9 R9 g9))
   refine bodyPost_ret (results_t1c1t1' rfl rfl (run_loadVar_all isAgg163 sizeOf163 R9 rfl)) rfl ⟨rfl,bls hbz (Nat.le_refl _) g9 (Nat.le_refl _)⟩
  ·rw [if_pos hu,if_pos (by decide),if_pos (by decide)]
   have hbz:=blw w (Obj.cells #[.int .i64 0,.int .u8 0,.int .i64 0,.int .i64 0,.int .u8 0,.int .i64 0,.int .i64 0,.int .u8 0,.string ⟨#[]⟩,.string ⟨#[]⟩,.string ⟨#[]⟩] 163)
   have R0:(w.alloc (Obj.cells #[.int .i64 0,.int .u8 0,.int .i64 0,.int .i64 0,.int .u8 0,.int .i64 0,.int .i64 0,.int .u8 0,.string ⟨#[]⟩,.string ⟨#[]⟩,.string ⟨#[]⟩] 163)).heap[w.heap.size]?=some (.cells (rpA 0 0 zeroL (zeroE 0)) 163 (0,0)):=heap_alloc_new w (Obj.cells #[.int .i64 0,.int .u8 0,.int .i64 0,.int .i64 0,.int .u8 0,.int .i64 0,.int .i64 0,.int .u8 0,.string ⟨#[]⟩,.string ⟨#[]⟩,.string ⟨#[]⟩] 163)
   have L0:=h.below hbz
   have D0:=R.below hbz
   have hhs:=rhas11_any L0 hs.p i
   have c0:=L0.c0
   have c4:=D0.c4
   have c5:=D0.c5
   rw [hh] at hhs
   go_enter func92,ntmps92
   refine seqH fun K HK=>?_
   go_wp2
   refine HK.out _ _ ?_
   clear HK
   generalize w.alloc (Obj.cells #[.int .i64 0,.int .u8 0,.int .i64 0,.int .i64 0,.int .u8 0,.int .i64 0,.int .i64 0,.int .u8 0,.string ⟨#[]⟩,.string ⟨#[]⟩,.string ⟨#[]⟩] 163)=w0 at *
   rw [e1] at c4
   go_wp2_with (first
    | (go_at_call 85;refine hhs.mono ?_;rintro e w1 ⟨rfl,rfl⟩)
    | ((with_reducible refine wpList_stB 163 _ _ ?_);refine ⟨_,_,_,⟨_,_,_,sizeOf163,rfl,R0,rp_over _ _ _ _ 0 0 zeroL (zeroE 0)⟩,?_⟩;intro w9 R9 g9))
   refine bodyPost_ret (results_t1c1t1' rfl rfl (run_loadVar_all isAgg163 sizeOf163 R9 rfl)) rfl ⟨rfl,bls hbz (Nat.le_refl _) g9 (Nat.le_refl _)⟩
theorem rcut11_any (h:LrB w q g s) (n:Int):Calls Tryz.prog 26 #[.pointer (some ⟨q,0,none⟩),.int .i64 n] w fun e w'=>e=.returned (.int .i64 (cutW s n).2)∧LrB w' q g (cutW s n).1∧w.grownBy w' (some q):=by
 have HL:w.heap[q]?=some (.cells (lgA g s) 81 (0,0)):=h
 have c3:=h.c3
 have hf:=fun w=>rfits11_any n w
 unfold cutW
 by_cases h1:n < s.snap
 ·rw [if_pos (.inl h1)]
  go_enter func26,ntmps26
  go_wp2
  go_ret
  exact ⟨rfl,HL,World.grownBy.refl _ _⟩
 ·cases h2:fitW n
  ·rw [if_pos (.inr rfl)]
   rw [h2] at hf
   go_enter func26,ntmps26
   go_wp2_with (go_at_call 76;refine (hf _).mono ?_;rintro e w1 ⟨rfl,rfl⟩)
   go_ret
   exact ⟨rfl,HL,World.grownBy.refl _ _⟩
  ·rw [if_neg (by simp [h1])]
   rw [h2] at hf
   go_enter func26,ntmps26
   go_wp2_with (first
    | (go_at_call 76;refine (hf _).mono ?_;rintro e w1 ⟨rfl,rfl⟩)
    | ((with_reducible refine wpList_stB 3 _ _ ?_);refine ⟨_,_,_,⟨_,_,_,sizeOf3,rfl,HL,lg_snap _ _ n⟩,?_⟩;intro w5 L5 g5))
   go_ret
   exact ⟨rfl,L5,g5⟩
end
end
section
theorem run_gqN (x y:Operand) (u v:Array Value) (w:World):(eqGuard .neq 163 x y (.agg u) (.agg v)).run Tryz.prog w=.ok () w:=by
 have h:Tryz.prog.eqGuardType Tryz.prog.depth 163=false:=by kernel_rfl
 unfold eqGuard
 go_simp
theorem neRp (r:Rpt) (w:World):(binOp .neq 163 (.agg (rptA r)) (.agg (rptA r))).run Tryz.prog w=.ok (.bool false) w:=by
 obtain ⟨i,st,⟨rn,rp⟩,⟨kd,cl,sq,⟨ok,key,old,val⟩⟩⟩:=r
 unfold rptA rpA
 simp only
 go_simp
theorem run_gqR (x y:Operand) (u v:Array Value) (w:World):(eqGuard .eql 163 x y (.agg u) (.agg v)).run Tryz.prog w=.ok () w:=by
 have h:Tryz.prog.eqGuardType Tryz.prog.depth 163=false:=by kernel_rfl
 unfold eqGuard
 go_simp
theorem eqRp (r:Rpt) (w:World):(binOp .eql 163 (.agg (rptA r)) (.agg (rptA r))).run Tryz.prog w=.ok (.bool true) w:=by
 obtain ⟨i,st,⟨rn,rp⟩,⟨kd,cl,sq,⟨ok,key,old,val⟩⟩⟩:=r
 unfold rptA rpA
 simp only
 go_simp
theorem rsame11_any (a b:Option Addr) (ca cb:Nat) (l:List Rpt) (w:World) (h1:Row w a (l.flatMap rptC)) (h2:Row w b (l.flatMap rptC)) (hl:l.length≤1000):Calls Tryz.prog 30 #[.slice a l.length ca,.slice b l.length cb] w fun e w'=>e=.returned (.bool true)∧Below w.heap.size w w':=by
 go_enter func30,ntmps30
 refine seqH fun K HK=>?_
 go_wp2
 refine HK.out _ _ ?_
 clear HK
 refine seqH fun K HK=>?_
 go_wp2
 refine HK.out _ _ ?_
 clear HK
 refine seqH fun K HK=>?_
 go_wp2_with fail
 go_loopw [5] (fun i wr=>∃ k:Nat,k≤l.length∧i=.int .i64 (k:Nat)∧Below w.heap.size w wr) (fun i _=>l.length - (intOf i).toNat)
 case atStart=>exact ⟨0,by omega,rfl,Below.refl _ _⟩
 case round=>
  obtain ⟨k,hk,rfl,hbr⟩:=hrel
  by_cases hlt:k < l.length
  case neg=>
   obtain rfl:k=l.length:=by omega
   go_wp2
   refine HK.out _ _ ?_
   clear HK
   go_wp2
   go_ret
   exact ⟨rfl,hbr⟩
  case pos=>
   have hx:l[k]?=some l[k]:=List.getElem?_eq_getElem hlt
   generalize l[k]=x at hx
   have hbd:=hbr.trans ((Below.refl wr.heap.size wr).drew.mono hbr.size)
   obtain ⟨xb,xo,rfl,_,HX⟩:=(h1.below0 hbd).flat rptC_len (by decide) hx
   obtain ⟨yb,yo,rfl,_,HY⟩:=(h2.below0 hbd).flat rptC_len (by decide) hx
   clear h1 h2 hx
   refine seqH fun K HK=>?_
   go_wp2
   refine HK.out _ _ ?_
   clear HK
   refine seqH fun K HK2=>?_
   refine wp_block ?_
   refine seqH fun K HK3=>?_
   go_wp2_with fail
   refine wp_region_held_drew (S:=fun w'=>(∀ j u,(rptC x)[j]?=some u→w'.cell? ⟨xb,xo+k * 11+j,none⟩=some u)∧(∀ j u,(rptC x)[j]?=some u→w'.cell? ⟨yb,yo+k * 11+j,none⟩=some u)) (by kernel_rfl) ⟨HX,HY⟩ (fun hS0=>?_)
   clear HX HY
   generalize wr.drew=x0 at *
   refine tkP 0 rfl ?_
   refine tkP 1 rfl ?_
   refine tkP 2 rfl ?_
   refine tkT 3 (v:=.agg (rptA x)) rfl (by intro wS hSw;exact exec_ldC 163 _ ⟨_,_,_,isAgg163,sizeOf163,rfl,rfl,fun j u hu=>hSw.1 j u (by unfold rptC;rw [Array.getElem?_toList];exact hu)⟩) ?_
   refine tkP 4 rfl ?_
   refine tkP 5 rfl ?_
   refine tkP 6 rfl ?_
   refine tkT 7 (v:=.agg (rptA x)) rfl (by intro wS hSw;exact exec_ldC 163 _ ⟨_,_,_,isAgg163,sizeOf163,rfl,rfl,fun j u hu=>hSw.2 j u (by unfold rptC;rw [Array.getElem?_toList];exact hu)⟩) ?_
   refine tkT 8 (v:=.bool false) rfl (by intro wS hSw;have hq:=run_gqN (.tmp 20) (.tmp 24) (rptA x) (rptA x) wS;have he:=neRp x wS;unfold execOp;simp [Act.eval,hq,he]) ?_
   refine wpAnyH_done (by kernel_rfl) ?_ _
   refine HK3.out _ _ ?_
   clear HK3
   go_wp2
   (try simp only [Exit.inBlock,Exit.then])
   refine HK2.out _ _ ?_
   clear HK2
   go_wp2
   go_roundw
   case rel=>exact ⟨k+1,by omega,by rfl,hbd⟩
   case measure=>simp [intOf];omega
theorem elRp:ElemT Tryz.prog 82 163 11 112:=ElemT.of (.agg (rptA zeroR')) underlying82 (by kernel_rfl) rfl (by decide)
theorem build_rps (r:Rpt) (w:World):(Instr.buildSlice 82 1 #[(0,.agg (rptA r))]).run Tryz.prog w=.ok (.slice (some ⟨w.heap.size,0,none⟩) 1 1) (w.alloc (.cells (rptA r) 163)):=by kernel_rfl
theorem wpList_brps {a:Act} {w:World} {ops:Array Oper} {rest:List Oper} {Q:Exit→Act→World→Prop} {dst:Option Tmp} {ty':TypeId} {pos:String} {af:Array Edge} (r:Rpt) (x:Operand) (hx:a.eval x=.agg (rptA r))
  (h:wpList Tryz.prog ops Q rest (a.put dst (.slice (some ⟨w.heap.size,0,none⟩) 1 1)) (w.alloc (.cells (rptA r) 163))):wpList Tryz.prog ops Q (Oper.mk dst (.buildSlice 82 1 #[(0,x)]) ty' pos af none :: rest) a w:=
 wpList_run rfl (by
  have hb:=build_rps r w
  unfold execOp
  simp [hx,hb]) h
theorem rpt_one (r:Rpt):∀ u ∈ (rptA r).toList,u.oneCell'=true:=by simp [rptA,rpA,Value.oneCell']
theorem rpt_new (r:Rpt):(Value.agg (rptA r)).cells=rptA r∧(rptA r).size=11∧∀ u ∈ (rptA r).toList,u.oneCell'=true:=⟨rfl,rfl,rpt_one r⟩
def AllR (base:Nat) (r:List Rpt×Int) (e:Ending) (w':World):Prop:=∃ v,e=.returned (.tuple #[v,.int .i64 r.2])∧w'.ownsRow base 163 11 v r.1.length (r.1.flatMap rptC)
section
variable {B g gp q:Nat} {wv:Value} {qq:RQ} {d:Dk} {w w':World} {s:Lg}
theorem lall_any (h:LgB w q g s) (hd:DiskB B g gp wv d w) (hs:LgOk s):Calls Tryz.prog 28 #[.pointer (some ⟨q,0,none⟩)] w fun e w'=>AllR w.heap.size (allE d s) e w'∧Below w.heap.size w w':=by
 unfold allE
 cases hu:upD d
 ·rw [if_pos rfl]
  refine (lall_down h hd hu).mono ?_
  rintro e w' ⟨rfl,rfl⟩
  exact ⟨⟨_,rfl,World.ownsRow_nil _ _ _ _⟩,Below.refl _ _⟩
 ·rw [if_neg (by simp)]
  refine (lall_any2 h hd hs hu).mono ?_
  rintro e w' ⟨v,rfl,ho,hb⟩
  exact ⟨⟨v,rfl,ho⟩,hb⟩
theorem rall11_any (h:LrB w q g s) (R:RefB B g qq d w) (hs:LgOk s):Calls Tryz.prog 29 #[.pointer (some ⟨q,0,none⟩)] w fun e w'=>AllR w.heap.size (allE d s) e w'∧Below w.heap.size w w':=by
 have hup:=up_cases R
 unfold allE
 rcases hup with ⟨hu,e1,e2⟩ | ⟨hu,e1,e2⟩ | ⟨hu,e1⟩
 ·rw [if_neg (by simp [hu])]
  have hsp:=hs.p
  have hget:=fun w' (hb:Below w.heap.size w w') (k:Nat) (hk:k < 24)=>rget11_any (h.below hb) (R.below hb) hs (s.snap+1+k)
  have hgv:∀ k:Nat,k < 24→getW d s (s.snap+1+k)=((slotW d s k).2,0)∧classW d s (s.snap+1+k)=((slotW d s k).1,0):=fun k hk=>by
   have hl:liveW d s (s.snap+1+k)=0:=by
    rw [live_has (by unfold hasW;rw [decide_eq_true (by omega),decide_eq_true (by omega)];rfl),if_neg (by simp [hu])]
   unfold getW classW slotW
   rw [if_neg (by simp [hl]),if_neg (by simp [hl])]
   exact ⟨rfl,rfl⟩
  have HGV:=Lib.hid hgv
  clear hgv hu
  have c0:=h.c0
  have c4:=R.c4
  have c5:=R.c5
  (try rw [e1] at c4)
  (try rw [e2] at c5)
  go_enter func29,ntmps29
  refine seqH fun K HK=>?_
  go_wp2
  refine HK.out _ _ ?_
  clear HK
  refine seqH fun K HK=>?_
  go_wp2
  refine HK.out _ _ ?_
  clear HK
  refine seqH fun K HK=>?_
  go_wp2
  refine HK.out _ _ ?_
  clear HK
  clear c0 c4 c5 e1 e2
  have c3:=h.c3
  refine seqH fun K HK=>?_
  go_wp2_with fail
  go_loopw [5,4] (fun i o wr=>∃ (k:Nat) (v:Value),k≤24∧i=.int .i64 (s.snap+1+k)∧o=v∧wr.ownsRow w.heap.size 163 11 v (toldL (slotsL d s k)).length ((toldL (slotsL d s k)).flatMap rptC)∧Below w.heap.size w wr) (fun i _ _=>(s.snap+25 - intOf i).toNat)
  case atStart=>exact ⟨0,_,by omega,by go_num,rfl,World.ownsRow_nil _ _ _ _,Below.refl _ _⟩
  case round=>
   obtain ⟨k,v,hk,rfl,rfl,hown,hbr⟩:=hrel
   have c3:=(h.below hbr).c3
   by_cases hlt:k < 24
   case neg=>
    obtain rfl:k=24:=by omega
    go_wp2
    refine HK.out _ _ ?_
    clear HK
    go_wp2
    go_ret2
    exact ⟨⟨_,rfl,hown⟩,hbr⟩
   case pos=>
    have hge:=hget wr hbr k hlt
    obtain ⟨hg1,hg2⟩:=HGV.out k hlt
    rw [hg1,hg2] at hge
    have hsn:=slotsL_succ d s k
    have htl:=toldL_snoc (slotsL d s k) (slotW d s k)
    rw [← hsn] at htl
    have hln:=toldL_len (slotsL d s k)
    rw [slotsL_len] at hln
    clear hg1 hg2 hsn
    generalize slotW d s k=x at *
    generalize toldL (slotsL d s k)=out at *
    obtain ⟨cl,r⟩:=x
    unfold toldC at htl
    simp only at htl hge
    have HTL:=Lib.hid htl
    clear htl hget
    refine seqH fun K HK=>?_
    go_wp2
    refine HK.out _ _ ?_
    clear HK
    refine seqH fun K HK2=>?_
    refine wp_block ?_
    refine seqH fun K HK=>?_
    go_wp2_with (first
         | (go_at_call 92;refine hge.mono ?_;rintro e w2 ⟨rfl,hb2⟩)
         | ((first | (with_reducible refine wpList_stNew 163 _ _ ?_) | (with_reducible refine wp_stNew 163 _ _ ?_));refine ⟨_,_,⟨sizeOf163,rfl,rpt_new _⟩,rfl,?_⟩))
    refine HK.out _ _ ?_
    clear HK
    have hbo:=blw w2 (.cells (rptA r) 163)
    have O3:=heap_alloc_new w2 (.cells (rptA r) 163)
    have hb3:=(hbr.trans (hb2.mono hbr.size)).trans (hbo.mono (Nat.le_trans hbr.size hb2.size))
    have o2:=owns_bl (owns_bl hown hb2) hbo
    clear hbr hb2 hbo hown hge c3
    generalize w2.alloc (.cells (rptA r) 163)=w3 at *
    generalize w2.heap.size=rb at *
    have htl:=HTL.out
    clear HTL
    cases h3:(cl==3)
    ·cases h2:(cl==2)
     ·rw [h3,h2,if_neg (by decide),List.append_nil] at htl
      have hcs:toldL (slotsL d s (k+1))=out:=htl
      clear htl
      go_wp2
      (try simp only [Exit.inBlock,Exit.then])
      refine HK2.out _ _ ?_
      clear HK2
      go_wp2
      go_roundw
      case rel=>exact ⟨k+1,_,by omega,by go_num,rfl,by rw [hcs];exact o2,hb3⟩
      case measure=>simp [intOf];omega
     ·rw [h3,h2,if_pos (by decide)] at htl
      have hcs:toldL (slotsL d s (k+1))=out++[r]:=htl
      clear htl
      go_wp2_with (first
       | ((with_reducible refine wpList_ldB 163 _ ?_);refine ⟨rfl,_,⟨_,_,_,_,_,isAgg163,sizeOf163,rfl,‹_›,arr_all rfl⟩,?_⟩)
       | (with_reducible refine wpList_brps r _ (by simp [Act.eval,Act.put]) ?_)
       | (at_builtin;refine wpList_append1 rfl _ _ 82 163 elRp rfl w.heap.size _ out.length (out.flatMap rptC) rfl o2 (rptA r) rfl (rpt_one r) 163 rfl (by omega) (by decide) hb3.size ?_;intro v6 w6 o6 hb6 _))
      (try simp only [Exit.inBlock,Exit.then])
      refine HK2.out _ _ ?_
      clear HK2
      go_wp2
      go_roundw
      case rel=>
       refine ⟨k+1,_,by omega,by go_num,rfl,?_,hb3.trans hb6⟩
       rw [hcs,List.length_append,List.flatMap_append,show [r].flatMap rptC=rptC r by simp]
       exact o6
      case measure=>simp [intOf];omega
    ·rw [h3,if_pos (by rfl)] at htl
     have hcs:toldL (slotsL d s (k+1))=out++[r]:=htl
     clear htl
     go_wp2_with (first
      | ((with_reducible refine wpList_ldB 163 _ ?_);refine ⟨rfl,_,⟨_,_,_,_,_,isAgg163,sizeOf163,rfl,‹_›,arr_all rfl⟩,?_⟩)
      | (with_reducible refine wpList_brps r _ (by simp [Act.eval,Act.put]) ?_)
      | (at_builtin;refine wpList_append1 rfl _ _ 82 163 elRp rfl w.heap.size _ out.length (out.flatMap rptC) rfl o2 (rptA r) rfl (rpt_one r) 163 rfl (by omega) (by decide) hb3.size ?_;intro v6 w6 o6 hb6 _))
     (try simp only [Exit.inBlock,Exit.then])
     refine HK2.out _ _ ?_
     clear HK2
     go_wp2
     go_roundw
     case rel=>
      refine ⟨k+1,_,by omega,by go_num,rfl,?_,hb3.trans hb6⟩
      rw [hcs,List.length_append,List.flatMap_append,show [r].flatMap rptC=rptC r by simp]
      exact o6
     case measure=>simp [intOf];omega
 ·rw [if_pos hu]
  have c0:=h.c0
  have c4:=R.c4
  have c5:=R.c5
  (try rw [e1] at c4)
  (try rw [e2] at c5)
  go_enter func29,ntmps29
  go_wp2
  go_ret2
  exact ⟨⟨_,rfl,World.ownsRow_nil _ _ _ _⟩,Below.refl _ _⟩
 ·rw [if_pos hu]
  have c0:=h.c0
  have c4:=R.c4
  have c5:=R.c5
  (try rw [e1] at c4)
  (try rw [e2] at c5)
  go_enter func29,ntmps29
  go_wp2
  go_ret2
  exact ⟨⟨_,rfl,World.ownsRow_nil _ _ _ _⟩,Below.refl _ _⟩
end
end
section
section
variable {B g g2 gp:Nat} {wv:Value} {q:RQ} {d:Dk} {w w':World}
end
end
section
structure A7 where
 kind:Nat
 n:Int
 ba:Option Addr
 body:List UInt8
 bc:Nat
 ot:A6
def a7L (x:A7):List Value:=[.int .u8 (x.kind:Int),.int .i64 x.n,.slice x.ba x.body.length x.bc]++a6L x.ot
def a7A (x:A7):Array Value:=(a7L x).toArray
structure A7in (w:World) (x:A7):Prop where
 b:SlB w x.ba x.bc x.body
 d:A6in w x.ot
 k:x.kind < 256
theorem A7in.below {w w':World} {x:A7} (h:A7in w x) (hb:Below w.heap.size w w'):A7in w' x:=⟨h.b.below hb,h.d.below hb,h.k⟩
structure Acts7 (w:World) (a:Option Addr) (l:List A7):Prop where
 each:∀ (j:Nat) (hj:j < l.length),∃ b off,a=some ⟨b,off,none⟩∧(∀ r u,(a7L l[j])[r]?=some u→w.cell? ⟨b,off+j * 15+r,none⟩=some u)∧A7in w l[j]
theorem Acts7.below {w w':World} {a:Option Addr} {l:List A7} (h:Acts7 w a l) (hb:Below w.heap.size w w'):Acts7 w' a l:=
 ⟨fun j hj=>by
  obtain ⟨b,off,e,hc,hi⟩:=h.each j hj
  exact ⟨b,off,e,fun r u hu=>cell_later hb (hc r u hu),hi.below hb⟩⟩
def gr7x (x:A7):Bool:=decide (100 < x.body.length) || gr6 [x.ot]
def gr7 (l:List A7):Bool:=decide (40 < l.length) || l.any gr7x
theorem acts_one {w:World} {q:Nat} {x:A6} {T:TypeId} (hq:w.heap[q]?=some (.cells (a6A x) T (0,0))) (hi:A6in w x):Acts w (some ⟨q,0,none⟩) [x]:=
 ⟨fun j hj=>by
  obtain rfl:j=0:=by simp at hj;omega
  refine ⟨q,0,rfl,fun r u hu=>?_,hi⟩
  have:=blk_cell hq r u (by simpa [a6A] using hu)
  simpa using this⟩
end
section
theorem Parts.cell {w:World} {b off:Nat} {ls:List Part} (h:Parts w (some ⟨b,off,none⟩) ls) {j:Nat} (hj:j < ls.length):w.cell? ⟨b,off+j,none⟩=some (partV ls[j]):=by
 obtain ⟨b',off',e,hc⟩:=h.row.at (k:=j) (by simpa using hj)
 cases e
 exact hc j _ (by simp [hj])
theorem new156 {B:Nat} {w:World} (hB:B≤w.heap.size):Calls Tryz.prog 6 #[.int .i64 156] w fun e w'=>(∃ g gp,e=.returned (.tuple #[.pointer (some ⟨g,0,none⟩),.int .i64 0])∧DiskB B g gp (.slice none 0 0) (newDk 156) w')∧Below w.heap.size w w':=new_any 156 (by decide) (by decide) hB
end
section
def do7 (d:Dk) (rep reg:Int) (x:A7):Dk:=if x.kind % 4=0 then (storeC d rep reg x.n x.body).1 else if x.kind % 4=1 then (healC d rep reg).1 else do6 d x.ot
def Pl2 (d:Dk) (r:Dk×Int):Prop:=r.1.pl.length=d.pl.length∧r.1.waits.length≤d.waits.length+2
end
section
structure A11 where
 kind:Nat
 i:Int
 n:Int
 b:Bal
 e:En
 ot:A6
def a11L (x:A11):List Value:=[.int .u8 (x.kind:Int),.int .i64 x.i,.int .i64 x.n,.int .i64 x.b.rnd,.int .i64 x.b.rep,.int .u8 x.e.kind,.int .i64 x.e.cli,.int .i64 x.e.seq,.int .u8 x.e.op.kind,.string x.e.op.key,.string x.e.op.old,.string x.e.op.val]++a6L x.ot
def a11A (x:A11):Array Value:=(a11L x).toArray
def opA11 (o:Opn):Array Value:=#[.int .u8 o.kind,.string o.key,.string o.old,.string o.val]
theorem op_new11 (o:Opn):(Value.agg (opA11 o)).cells=opA11 o∧(opA11 o).size=4∧∀ u ∈ (opA11 o).toList,u.oneCell'=true:=⟨rfl,rfl,by simp [opA11,Value.oneCell']⟩
structure A11in (w:World) (x:A11):Prop where
 d:A6in w x.ot
 k:x.kind < 256
theorem A11in.below {w w':World} {x:A11} (h:A11in w x) (hb:Below w.heap.size w w'):A11in w' x:=⟨h.d.below hb,h.k⟩
structure Acts11 (w:World) (a:Option Addr) (l:List A11):Prop where
 each:∀ (j:Nat) (hj:j < l.length),∃ b off,a=some ⟨b,off,none⟩∧(∀ r u,(a11L l[j])[r]?=some u→w.cell? ⟨b,off+j * 24+r,none⟩=some u)∧A11in w l[j]
theorem Acts11.below {w w':World} {a:Option Addr} {l:List A11} (h:Acts11 w a l) (hb:Below w.heap.size w w'):Acts11 w' a l:=
 ⟨fun j hj=>by
  obtain ⟨b,off,e,hc,hi⟩:=h.each j hj
  exact ⟨b,off,e,fun r u hu=>cell_later hb (hc r u hu),hi.below hb⟩⟩
def gr11x (x:A11):Bool:=decide (100 < x.e.op.key.size) || (decide (100 < x.e.op.old.size) || (decide (100 < x.e.op.val.size) || gr6 [x.ot]))
def gr11 (l:List A11):Bool:=decide (40 < l.length) || l.any gr11x
theorem gr11_no {l:List A11} (h:gr11 l=false):l.length≤40∧∀ x ∈ l,x.ot.body.length≤100∧x.ot.dk.bytes.length≤200∧x.ot.dk.keep.length≤100:=by
 unfold gr11 at h
 rw [Bool.or_eq_false_iff] at h
 refine ⟨by have:=of_decide_eq_false h.1;omega,fun x hx=>?_⟩
 have h2:=List.any_eq_false.1 h.2 x hx
 unfold gr11x at h2
 simp only [Bool.or_eq_true,not_or] at h2
 exact (gr6_no (by simpa using h2.2.2.2)).2 _ (by simp)
theorem any_snoc11 {l:List A11} {j:Nat} (h:j < l.length) (f:A11→Bool):(l.take (j+1)).any f=((l.take j).any f || f l[j]):=by
 rw [List.take_succ_eq_append_getElem h,List.any_append,List.any_cons,List.any_nil,Bool.or_false]
theorem great11_any (a:Option Addr) (cap:Nat) (l:List A11) (w:World) (hp:Acts11 w a l):Calls Tryz.prog 20 #[.slice a l.length cap] w fun e w'=>e=.returned (.bool (gr11 l))∧Below w.heap.size w w':=by
 unfold gr11
 by_cases h60:40 < l.length
 case pos=>
  rw [decide_eq_true h60,Bool.true_or]
  have hI:(40:Int) < l.length:=by omega
  go_enter func20,ntmps20
  go_wp2
  go_ret
  exact ⟨rfl,Below.refl _ _⟩
 case neg=>
  rw [decide_eq_false h60,Bool.false_or]
  have hI:¬ (40:Int) < l.length:=by omega
  obtain ⟨r,hr⟩:∃ r,l.any gr11x=r:=⟨_,rfl⟩
  rw [hr]
  have HR:=Lib.hid hr
  clear hr
  go_enter func20,ntmps20
  refine seqH fun K HK=>?_
  go_wp2
  refine HK.out _ _ ?_
  clear HK
  refine seqH fun K HK=>?_
  go_wp2
  refine HK.out _ _ ?_
  clear HK
  refine seqH fun K HK=>?_
  go_wp2_with fail
  go_loopw [3] (fun i wr=>∃ j:Nat,j≤l.length∧i=.int .i64 (j:Nat)∧Hid ((l.take j).any gr11x=false)∧Below w.heap.size w wr) (fun i _=>l.length - (intOf i).toNat)
  case atStart=>exact ⟨0,by omega,rfl,Lib.hid rfl,Below.refl _ _⟩
  case round=>
   obtain ⟨j,hj,rfl,ha,hbr⟩:=hrel
   by_cases hlt:j < l.length
   case neg=>
    obtain rfl:j=l.length:=by omega
    have hrf:r=false:=by have h:=ha.out;rw [List.take_length] at h;exact HR.out.symm.trans h
    subst hrf
    clear ha HR
    go_wp2
    refine HK.out _ _ ?_
    clear HK
    go_wp2
    go_ret
    exact ⟨rfl,hbr⟩
   case pos=>
    have hp1:=fun w' (hb:Below w.heap.size w w')=>(hp.below hb).each j hlt
    obtain ⟨b,off,rfl,hc,hi⟩:=hp.each j hlt
    have hsn:=any_snoc11 hlt gr11x
    rw [ha.out,Bool.false_or] at hsn
    have hmem:=List.getElem_mem hlt
    have hrt:gr11x l[j]=true→r=true:=fun h=>by
     rw [← HR.out,List.any_eq_true]
     exact ⟨_,hmem,h⟩
    generalize l[j]=x at *
    have HSN:=Lib.hid hsn
    have HRT:=Lib.hid hrt
    have HC:=Lib.hid (show ∀ w',Below w.heap.size w w'→∀ r u,(a11L x)[r]?=some u→w'.cell? ⟨b,off+j * 24+r,none⟩=some u from fun w' hb r u hu=>cell_later hb (hc r u hu))
    have c8:=HC.out _ hbr 8 _ rfl
    have c9:=HC.out _ hbr 9 _ rfl
    have c10:=HC.out _ hbr 10 _ rfl
    have c11:=HC.out _ hbr 11 _ rfl
    clear hsn hrt hmem ha hp1 hc
    refine seqH fun K HK=>?_
    go_wp2
    refine HK.out _ _ ?_
    clear HK
    refine seqH fun K HK2=>?_
    refine wp_block ?_
    refine seqH fun K HK=>?_
    go_wp2_with ((first | (with_reducible refine wpList_stNew 71 _ _ ?_) | (with_reducible refine wp_stNew 71 _ _ ?_));refine ⟨_,_,⟨sizeOf71,rfl,op_new11 x.e.op⟩,rfl,?_⟩)
    refine HK.out _ _ ?_
    clear HK
    have hbx:=blw wr (Obj.cells (opA11 x.e.op) 71)
    have O1:=heap_alloc_new wr (Obj.cells (opA11 x.e.op) 71)
    have hb1:=hbr.trans (hbx.mono hbr.size)
    clear c8 c9 c10 c11 hbx hbr
    generalize wr.alloc (Obj.cells (opA11 x.e.op) 71)=w1 at *
    generalize wr.heap.size=ob at *
    have o1:=blk_cell O1 1 (.string x.e.op.key) rfl
    have o2:=blk_cell O1 2 (.string x.e.op.old) rfl
    have o3:=blk_cell O1 3 (.string x.e.op.val) rfl
    by_cases h1:100 < x.e.op.key.size
    ·have hI1:(100:Int) < x.e.op.key.size:=by omega
     obtain rfl:=HRT.out (by unfold gr11x;simp [h1])
     clear HRT HSN HR HC
     go_wp2
     go_ret
     exact ⟨rfl,hb1⟩
    have hI1:¬ (100:Int) < x.e.op.key.size:=by omega
    by_cases h2:100 < x.e.op.old.size
    ·have hI2:(100:Int) < x.e.op.old.size:=by omega
     obtain rfl:=HRT.out (by unfold gr11x;simp [h2])
     clear HRT HSN HR HC
     go_wp2
     go_ret
     exact ⟨rfl,hb1⟩
    have hI2:¬ (100:Int) < x.e.op.old.size:=by omega
    by_cases h3:100 < x.e.op.val.size
    ·have hI3:(100:Int) < x.e.op.val.size:=by omega
     obtain rfl:=HRT.out (by unfold gr11x;simp [h3])
     clear HRT HSN HR HC
     go_wp2
     go_ret
     exact ⟨rfl,hb1⟩
    have hI3:¬ (100:Int) < x.e.op.val.size:=by omega
    have hx:gr11x x=gr6 [x.ot]:=by unfold gr11x;rw [decide_eq_false h1,decide_eq_false h2,decide_eq_false h3,Bool.false_or,Bool.false_or,Bool.false_or]
    obtain ⟨gx,hgx⟩:∃ gx,gr6 [x.ot]=gx:=⟨_,rfl⟩
    rw [hgx] at hx
    have HGX:=Lib.hid hgx
    have HX:=Lib.hid hx
    clear hgx hx h1 h2 h3
    have hba:=blw w1 (Obj.cells (a6A x.ot) 44)
    have hg5:=lgreat_any (some ⟨w1.heap.size,0,none⟩) 1 [x.ot] (w1.alloc (Obj.cells (a6A x.ot) 44)) (acts_one (heap_alloc_new w1 (Obj.cells (a6A x.ot) 44)) (hi.d.below (hb1.trans (hba.mono hb1.size))))
    rw [HGX.out] at hg5
    have c12:=HC.out _ hb1 12 _ rfl
    have c13:=HC.out _ hb1 13 _ rfl
    have c14:=HC.out _ hb1 14 _ rfl
    have c15:=HC.out _ hb1 15 _ rfl
    have c16:=HC.out _ hb1 16 _ rfl
    have c17:=HC.out _ hb1 17 _ rfl
    have c18:=HC.out _ hb1 18 _ rfl
    have c19:=HC.out _ hb1 19 _ rfl
    have c20:=HC.out _ hb1 20 _ rfl
    have c21:=HC.out _ hb1 21 _ rfl
    have c22:=HC.out _ hb1 22 _ rfl
    have c23:=HC.out _ hb1 23 _ rfl
    clear HC hi
    cases gx
    ·go_wp2_with (go_at_call 32;refine hg5.mono ?_;rintro e w5 ⟨rfl,hb5⟩)
     (try simp only [Exit.inBlock,Exit.then])
     refine HK2.out _ _ ?_
     clear HK2
     go_wp2
     go_roundw
     case rel=>exact ⟨j+1,by omega,by go_num,Lib.hid (by rw [HSN.out];exact HX.out),hb1.trans ((hba.trans (hb5.mono hba.size)).mono hb1.size)⟩
     case measure=>simp [intOf];omega
    ·obtain rfl:=HRT.out HX.out
     clear HRT HSN HR
     go_wp2_with (go_at_call 32;refine hg5.mono ?_;rintro e w5 ⟨rfl,hb5⟩)
     go_ret
     exact ⟨rfl,hb1.trans ((hba.trans (hb5.mono hba.size)).mono hb1.size)⟩
theorem wpList_eqRp {a:Act} {w:World} {ops:Array Oper} {rest:List Oper} {Q:Exit→Act→World→Prop} {dst:Option Tmp} {ty':TypeId} {pos:String} {af:Array Edge} (r:Rpt) (x y:Operand) (hx:a.eval x=.agg (rptA r)) (hy:a.eval y=.agg (rptA r))
  (h:wpList Tryz.prog ops Q rest (a.put dst (.bool true)) w):wpList Tryz.prog ops Q (Oper.mk dst (.binOp .eql 163 x y 163) ty' pos af none :: rest) a w:=
 wpList_run rfl (by
  have hq:=run_gqR x y (rptA r) (rptA r) w
  have he:=eqRp r w
  unfold execOp
  simp [hx,hy,hq,he]) h
section
variable {B B2 g g2 gp q q2:Nat} {wv:Value} {qq:RQ} {d:Dk} {w w':World} {s:Lg}
theorem ltells11_any (L:LgB w q g s) (D:DiskB B g gp wv d w) (M:LrB w q2 g2 s) (R:RefB B2 g2 qq d w) (hs:LgOk s) (i:Int):Calls Tryz.prog 31 #[.pointer (some ⟨q,0,none⟩),.pointer (some ⟨q2,0,none⟩),.int .i64 i] w fun e w'=>e=.returned (.bool true)∧Below w.heap.size w w':=by
 have hg1:=lget_any2 L D hs i
 have hg2:=fun w' (hb:Below w.heap.size w w')=>lclass_any2 (L.below hb) (D.below hb) hs i
 have hg3:=fun w' (hb:Below w.heap.size w w')=>rget11_any (M.below hb) (R.below hb) hs i
 have hce:(classW d s i).2=(getW d s i).2:=by
  unfold classW getW
  split <;> rfl
 rw [hce] at hg2
 generalize getW d s i=gv at *
 generalize classW d s i=cv at *
 obtain ⟨r,er⟩:=gv
 obtain ⟨cl,ce⟩:=cv
 simp only at hg1 hg2 hg3
 clear L D M R hce
 go_enter func31,ntmps31
 refine seqH fun K HK=>?_
 go_wp2
 refine HK.out _ _ ?_
 clear HK
 refine seqH fun K HK=>?_
 go_wp2_with (first
   | (go_at_call 93;refine hg1.mono ?_;rintro e w1 ⟨rfl,hb1⟩)
   | ((first | (with_reducible refine wpList_stNew 163 _ _ ?_) | (with_reducible refine wp_stNew 163 _ _ ?_));refine ⟨_,_,⟨sizeOf163,rfl,rpt_new r⟩,rfl,?_⟩))
 refine HK.out _ _ ?_
 clear HK
 have hbo:=blw w1 (Obj.cells (rptA r) 163)
 have O2:=heap_alloc_new w1 (Obj.cells (rptA r) 163)
 have hb2:=hb1.trans (hbo.mono hb1.size)
 clear hg1 hb1 hbo
 generalize w1.alloc (Obj.cells (rptA r) 163)=w2 at *
 generalize w1.heap.size=ob at *
 have hg2':=hg2 _ hb2
 refine seqH fun K HK=>?_
 go_wp2_with (go_at_call 94;refine hg2'.mono ?_;rintro e w3 ⟨rfl,hb3⟩)
 refine HK.out _ _ ?_
 clear HK
 have O3:=tr_bl hb3 O2
 have hb4:=hb2.trans (hb3.mono hb2.size)
 clear hg2 hg2' hb3 hb2 O2
 have hg3':=hg3 _ hb4
 refine seqH fun K HK=>?_
 go_wp2_with (first
   | (go_at_call 92;refine hg3'.mono ?_;rintro e w5 ⟨rfl,hb5⟩)
   | ((first | (with_reducible refine wpList_stNew 163 _ _ ?_) | (with_reducible refine wp_stNew 163 _ _ ?_));refine ⟨_,_,⟨sizeOf163,rfl,rpt_new r⟩,rfl,?_⟩))
 refine HK.out _ _ ?_
 clear HK
 have hbo:=blw w5 (Obj.cells (rptA r) 163)
 have P6:=heap_alloc_new w5 (Obj.cells (rptA r) 163)
 have O6:=tr_bl hbo (tr_bl hb5 O3)
 have hb6:=(hb4.trans (hb5.mono hb4.size)).trans (hbo.mono (Nat.le_trans hb4.size hb5.size))
 clear hg3 hg3' hb4 hb5 hbo O3
 generalize w5.alloc (Obj.cells (rptA r) 163)=w6 at *
 generalize w5.heap.size=pb at *
 go_wp2_with (first
  | ((with_reducible refine wpList_ldB 163 _ ?_);refine ⟨rfl,_,⟨_,_,_,_,_,isAgg163,sizeOf163,rfl,‹_›,arr_all rfl⟩,?_⟩)
  | (with_reducible refine wpList_eqRp r _ _ (by simp [Act.eval,Act.put]) (by simp [Act.eval,Act.put]) ?_))
 go_ret
 exact ⟨ret_bool (by simp),hb6⟩
end
end
section
theorem a11_new (x:A11):(Value.agg (a11A x)).cells=a11A x∧(a11A x).size=24∧∀ u ∈ (a11A x).toList,u.oneCell'=true:=⟨rfl,rfl,by simp [a11A,a11L,a6L,Value.oneCell']⟩
theorem a11_bal (x:A11):3+2≤(a11A x).size∧(a11A x).extract 3 (3+2)=blA x.b:=⟨by show 5≤24;omega,by apply Array.ext';rw [Array.toList_extract];rfl⟩
theorem a11_en (x:A11):5+7≤(a11A x).size∧(a11A x).extract 5 (5+7)=enA x.e:=⟨by show 12≤24;omega,by apply Array.ext';rw [Array.toList_extract];rfl⟩
theorem a11_ot (x:A11):12+12≤(a11A x).size∧(a11A x).extract 12 (12+12)=a6A x.ot:=⟨Nat.le_refl 24,by apply Array.ext';rw [Array.toList_extract];rfl⟩
theorem wsD_pl (d:Dk) (f:Int) (fr:List UInt8):∀ k,(wsD d f fr k).1.pl=d.pl
 | 0=>rfl
 | k+1=>by
  have h:=wsD_pl d f fr k
  unfold wsD
  split
  ·exact h
  ·rw [(write_pl _ _ _).1,h]
theorem lputD_pl (d:Dk) (f:Int) (fr:List UInt8) (n:Nat):(lputD d f fr n).1.pl.length=d.pl.length:=by
 have h:=wsD_pl d f fr n
 unfold lputD
 split
 ·rw [h]
 ·rcases flush_pl (wsD d f fr n).1 with h2 | h2
  ·rw [h2.1,h]
  ·rw [h2.1,thru_len2,h]
theorem putAll_pl (d:Dk) (s:Lg) (i:Int) (b:Bal) (e:En):(putAll d s i b e).1.pl.length=d.pl.length∧(putAll d s i b e).1.waits.length≤d.waits.length+3:=by
 unfold putAll
 split
 ·exact ⟨rfl,Nat.le_add_right _ _⟩
 split
 ·exact ⟨rfl,Nat.le_add_right _ _⟩
 unfold putW putL2 putL1
 have h1:=lputD_pl d (firstN 4 (2 * plW i+(nextS (recW d s i) (ffW d s i) i:Nat))) (frmL s i (nextS (recW d s i) (ffW d s i) i) b e) 2
 have h2:=lputD_wt d (firstN 4 (2 * plW i+(nextS (recW d s i) (ffW d s i) i:Nat))) (frmL s i (nextS (recW d s i) (ffW d s i) i) b e) 2
 split
 ·exact ⟨h1,by omega⟩
 ·have h3:=lputD_pl (lputD d (firstN 4 (2 * plW i+(nextS (recW d s i) (ffW d s i) i:Nat))) (frmL s i (nextS (recW d s i) (ffW d s i) i) b e) 2).1 (firstN 3 (plW i)) (frmR s i (nextS (recW d s i) (ffW d s i) i) b) 1
  have h4:=lputD_wt (lputD d (firstN 4 (2 * plW i+(nextS (recW d s i) (ffW d s i) i:Nat))) (frmL s i (nextS (recW d s i) (ffW d s i) i) b e) 2).1 (firstN 3 (plW i)) (frmR s i (nextS (recW d s i) (ffW d s i) i) b) 1
  exact ⟨h3.trans h1,by omega⟩
theorem cut_ok {s:Lg} (h:LgOk s) (n:Int):LgOk (cutW s n).1:=by
 unfold cutW
 split
 ·exact h
 ·rename_i hc
  refine ⟨h.r,h.n,?_⟩
  have hf:fitW n=true:=by
   cases hf:fitW n
   ·exact absurd (.inr hf) hc
   ·rfl
  unfold fitW at hf
  rw [Bool.and_eq_true,decide_eq_true_iff,decide_eq_true_iff] at hf
  exact hf
theorem OpnW.get0 {T:TypeId} {g:Nat} {s:Lg} {w w':World} {e:Ending} (h:OpnW T g s 0 w e w'):∃ q,e=.returned (.tuple #[.pointer (some ⟨q,0,none⟩),.int .i64 0])∧w.heap.size≤q∧w'.heap[q]?=some (.cells (lgA g s) T (0,0)):=by
 rcases h with ⟨_,h⟩ | ⟨h,_⟩
 ·exact h
 ·exact absurd rfl h
theorem OpnW.getE {T:TypeId} {g:Nat} {s:Lg} {r:Int} {w w':World} {e:Ending} (h:OpnW T g s r w e w') (hr:r≠0):e=.returned (.tuple #[.pointer none,.int .i64 r]):=by
 rcases h with ⟨h,_⟩ | ⟨_,h⟩
 ·exact absurd h hr
 ·exact h
theorem allE_len (d:Dk) (s:Lg):(allE d s).1.length≤24:=by
 unfold allE
 split
 ·simp
 ·have:=toldL_len (slotsL d s 24)
  rw [slotsL_len] at this
  exact this
structure St11 (B g gp g2 qx qy:Nat) (d:Dk) (s:Lg) (w:World):Prop where
 D:∃ wv,DiskB B g gp wv d w
 R:∃ q,RefB B g2 q d w
 S:LgB w qx g s
 T:LrB w qy g2 s
 ok:LgOk s
 bx:B≤qx
 bY:B≤qy
theorem St11.below {B g gp g2 qx qy:Nat} {d:Dk} {s:Lg} {w w':World} (h:St11 B g gp g2 qx qy d s w) (hb:Below w.heap.size w w'):St11 B g gp g2 qx qy d s w':=by
 obtain ⟨⟨wv,D⟩,⟨q,R⟩,S,T,ok,b1,b2⟩:=h
 exact ⟨⟨wv,D.below hb⟩,⟨q,R.below hb⟩,S.below hb,T.below hb,ok,b1,b2⟩
theorem plays11_law (rep inc snap:Int) (a:Option Addr) (cap:Nat) (l:List A11) (at_:Int) (w:World) (hp:Acts11 w a l) :
  Calls Tryz.prog 4 #[.int .i64 rep,.int .i64 inc,.int .i64 snap,.slice a l.length cap,.int .i64 at_] w fun e w'=>e=.returned (.bool true)∧Below w.heap.size w w':=by
 cases hg:gr11 l
 case true=>
  have HG:=Lib.hid hg
  clear hg
  go_enter func4,ntmps4
  go_wp2_with (go_at_call 20;refine (great11_any a cap l _ hp).mono ?_;rintro e w2 ⟨rfl,hb2⟩;rw [HG.out])
  go_ret
  exact ⟨rfl,hb2⟩
 case false=>
 obtain ⟨hl40,hl11⟩:=gr11_no hg
 have HG:=Lib.hid hg
 have HL11:=Lib.hid hl11
 clear hg hl11
 have hok0:=fun h=>(LgOk.of_open (d:=newDk 156) (rep:=rep) (inc:=inc) (snap:=snap) h).1
 obtain ⟨e0,hop0⟩:∃ r,openE (newDk 156) rep inc snap=r:=⟨_,rfl⟩
 rw [hop0] at hok0
 have hwk0:Wk (newDk 156) (18 * 0+2):=⟨by simp [newDk],by simp [newDk]⟩
 have HO:=Lib.hid hop0
 have HOK0:=Lib.hid hok0
 clear hop0 hok0
 by_cases he0:e0=0
 case neg=>
  have en0:(e0 != 0)=true:=by rw [bne_iff_ne];exact he0
  go_enter func4,ntmps4
  refine seqH fun K HK=>?_
  go_wp2
  refine HK.out _ _ ?_
  clear HK
  refine seqH fun K HK=>?_
  go_wp2_with (go_at_call 20;refine (great11_any a cap l _ hp).mono ?_;rintro e w2 ⟨rfl,hb2⟩;rw [HG.out])
  refine HK.out _ _ ?_
  clear HK
  refine seqH fun K HK=>?_
  go_wp2_with (go_at_call 6;refine (new156 (B:=w.heap.size) hb2.size).mono ?_;rintro e w3 ⟨⟨g,gp,rfl,D3⟩,hb3⟩)
  refine HK.out _ _ ?_
  clear HK
  have hb3b:=hb2.trans (hb3.mono hb2.size)
  refine seqH fun K HK=>?_
  go_wp2_with (go_at_call 7;refine (rnew_any 156 (by decide) (by decide) w3).mono ?_;rintro e w4 ⟨g2,rfl,⟨q2,R4⟩,hb4⟩)
  refine HK.out _ _ ?_
  clear HK
  have hb4b:=hb3b.trans (hb4.mono hb3b.size)
  have D4:=D3.below hb4
  have R5:=R4.mono hb3b.size
  clear D3 R4 hb2 hb3 hb3b hb4
  refine seqH fun K HK=>?_
  go_wp2
  refine HK.out _ _ ?_
  clear HK
  have hop:=lopen_any D4 rep inc snap (by simp [newDk])
  rw [HO.out] at hop
  refine seqH fun K HK=>?_
  go_wp2_with (go_at_call 21;refine hop.mono ?_;rintro e w6 ⟨hr6,hb6⟩;obtain rfl:=hr6.getE he0)
  refine HK.out _ _ ?_
  clear HK
  have R6:=R5.below hb6
  have D6:=D4.below hb6
  have hb6b:=hb4b.trans (hb6.mono hb4b.size)
  have hop2:=ropen11_any R6 rep inc snap (by simp [newDk])
  rw [HO.out] at hop2
  clear hop D4 R5
  refine seqH fun K HK=>?_
  go_wp2_with (go_at_call 22;refine hop2.mono ?_;rintro e w8 ⟨hr8,hb8⟩;obtain rfl:=hr8.getE he0)
  refine HK.out _ _ ?_
  clear HK
  have D8:=D6.below hb8
  have R8:=R6.below hb8
  have hb8b:=hb6b.trans (hb8.mono hb6b.size)
  clear hop2 R6 D6
  go_wp2
  go_ret
  exact ⟨rfl,hb8b⟩
 case pos=>
 subst he0
 go_enter func4,ntmps4
 refine seqH fun K HK=>?_
 go_wp2
 refine HK.out _ _ ?_
 clear HK
 refine seqH fun K HK=>?_
 go_wp2_with (go_at_call 20;refine (great11_any a cap l _ hp).mono ?_;rintro e w2 ⟨rfl,hb2⟩;rw [HG.out])
 refine HK.out _ _ ?_
 clear HK
 refine seqH fun K HK=>?_
 go_wp2_with (go_at_call 6;refine (new156 (B:=w.heap.size) hb2.size).mono ?_;rintro e w3 ⟨⟨g,gp,rfl,D3⟩,hb3⟩)
 refine HK.out _ _ ?_
 clear HK
 have hb3b:=hb2.trans (hb3.mono hb2.size)
 refine seqH fun K HK=>?_
 go_wp2_with (go_at_call 7;refine (rnew_any 156 (by decide) (by decide) w3).mono ?_;rintro e w4 ⟨g2,rfl,⟨q2,R4⟩,hb4⟩)
 refine HK.out _ _ ?_
 clear HK
 have hb4b:=hb3b.trans (hb4.mono hb3b.size)
 have D4:=D3.below hb4
 have R5:=R4.mono hb3b.size
 clear D3 R4 hb2 hb3 hb3b hb4
 refine seqH fun K HK=>?_
 go_wp2
 refine HK.out _ _ ?_
 clear HK
 have hop:=lopen_any D4 rep inc snap (by simp [newDk])
 rw [HO.out] at hop
 refine seqH fun K HK=>?_
 go_wp2_with (go_at_call 21;refine hop.mono ?_;rintro e w6 ⟨hr6,hb6⟩;obtain ⟨q6,rfl,hq6,S6⟩:=hr6.get0)
 refine HK.out _ _ ?_
 clear HK
 have R6:=R5.below hb6
 have D6:=D4.below hb6
 have hb6b:=hb4b.trans (hb6.mono hb4b.size)
 have hop2:=ropen11_any R6 rep inc snap (by simp [newDk])
 rw [HO.out] at hop2
 clear hop D4 R5
 refine seqH fun K HK=>?_
 go_wp2_with (go_at_call 22;refine hop2.mono ?_;rintro e w8 ⟨hr8,hb8⟩;obtain ⟨q8,rfl,hq8,T8⟩:=hr8.get0)
 refine HK.out _ _ ?_
 clear HK
 have D8:=D6.below hb8
 have R8:=R6.below hb8
 have hb8b:=hb6b.trans (hb8.mono hb6b.size)
 clear hop2 R6 D6
 have S8:LgB w8 q6 g ⟨rep,inc,snap⟩:=tr_bl hb8 S6
 have hst0:St11 w.heap.size g gp g2 q6 q8 (newDk 156) ⟨rep,inc,snap⟩ w8:=⟨⟨_,D8⟩,⟨_,R8⟩,S8,T8,HOK0.out (by trivial),by have:=hb4b.size;omega,by have:=hb6b.size;omega⟩
 clear D8 R8 S8 T8 S6 hq6 hq8 hb6 hb8 hb4b hb6b hr6 hr8
 refine seqH fun K HK=>?_
 go_wp2
 refine HK.out _ _ ?_
 clear HK
 refine seqH fun K HK=>?_
 go_wp2
 refine HK.out _ _ ?_
 clear HK
 refine seqH fun K HK=>?_
 go_wp2
 refine HK.out _ _ ?_
 clear HK
 refine wp_seq_k (fun K hK=>?_)
 go_cut [] (fun wx=>Below w.heap.size w wx)
 case first=>
  go_wp2
  go_loopw [19,15,17] (fun i x y wr=>∃ (j:Nat) (d:Dk) (s:Lg) (qx qy:Nat),j≤l.length∧i=.int .i64 (j:Nat)∧x=.pointer (some ⟨qx,0,none⟩)∧y=.pointer (some ⟨qy,0,none⟩)∧St11 w.heap.size g gp g2 qx qy d s wr∧Wk d (18 * j+2)∧Below w.heap.size w wr) (fun i _ _ _=>l.length - (intOf i).toNat)
  case atStart=>exact ⟨0,_,_,_,_,by omega,rfl,rfl,rfl,hst0,hwk0,hb8b⟩
  case round=>
   clear hst0 hb8b hwk0
   obtain ⟨j,d,s,qx,qy,hj,rfl,rfl,rfl,⟨⟨wv,D⟩,⟨q,R⟩,S,T,hok,hqx,hqy⟩,hwk,hbr⟩:=hrel
   by_cases hlt:j < l.length
   case neg=>
    clear D R S T hwk
    go_wp2
    go_meet
    exact hbr
   case pos=>
    obtain ⟨b,off,rfl,hc,hi⟩:=(hp.below hbr).each j hlt
    have hx:=HL11.out _ (List.getElem_mem hlt)
    have HI:∀ w',Below w.heap.size w w'→A11in w' l[j]:=fun w' hk=>by
     obtain ⟨_,_,_,_,h⟩:=(hp.below hk).each j hlt
     exact h
    generalize l[j]=x at *
    have hcA:∀ r u,(a11A x)[r]?=some u→wr.cell? ⟨b,off+j * 24+r,none⟩=some u:=fun r u hu=>hc r u (by simpa [a11A] using hu)
    have hwt:=hwk.wt
    have hkd:=hi.k
    clear hc hi
    refine seqH fun K HK=>?_
    go_wp2
    refine HK.out _ _ ?_
    clear HK
    refine seqH fun K HK1=>?_
    refine wp_block ?_
    refine seqH fun K HK=>?_
    go_wp2_with (first
         | ((with_reducible refine wpList_ldC 75 _ ?_);refine ⟨rfl,_,⟨_,_,_,isAgg75,sizeOf75,rfl,(show (a11A x).size=24 from rfl),hcA⟩,?_⟩)
         | ((first | (with_reducible refine wpList_stNew 75 _ _ ?_) | (with_reducible refine wp_stNew 75 _ _ ?_));refine ⟨_,_,⟨sizeOf75,rfl,a11_new x⟩,rfl,?_⟩))
    refine HK.out _ _ ?_
    clear HK
    have X4:=heap_alloc_new wr (Obj.cells (a11A x) 75)
    have D4:=D.below (blw wr (Obj.cells (a11A x) 75))
    have R4:=R.below (blw wr (Obj.cells (a11A x) 75))
    have S4:=S.below (blw wr (Obj.cells (a11A x) 75))
    have T4:=T.below (blw wr (Obj.cells (a11A x) 75))
    have hb4:=hbr.trans ((blw wr (Obj.cells (a11A x) 75)).mono hbr.size)
    clear D R S T hcA hbr
    generalize wr.alloc (Obj.cells (a11A x) 75)=w4 at *
    generalize wr.heap.size=q4 at *
    refine wp_seq_k (fun K hK=>?_)
    go_cut [15,17] (fun z y wx=>∃ (d':Dk) (s':Lg) (qx qy:Nat),z=.pointer (some ⟨qx,0,none⟩)∧y=.pointer (some ⟨qy,0,none⟩)∧St11 w.heap.size g gp g2 qx qy d' s' wx∧Wk d' (18 * (j+1)+2)∧wx.heap[q4]?=some (.cells (a11A x) 75 (0,0))∧Below w.heap.size w wx)
    case first=>
     have c0:=blk_cell X4 0 (.int .u8 (x.kind:Int)) rfl
     have hm5:(x.kind % 5=0∨x.kind % 5=1)∨x.kind % 5=2∨x.kind % 5=3∨x.kind % 5=4:=by omega
     have ft:(x.kind:Int).tmod 5=(x.kind:Int) % 5:=Int.tmod_eq_emod_of_nonneg (by omega)
     rcases hm5 with h0 | h0 | h0 | h0
     ·have f0:(x.kind:Int) % 5=0∨(x.kind:Int) % 5=1:=by omega
      clear h0 hkd
      rcases f0 with f0 | f0
      all_goals
       rw [f0] at ft
       obtain ⟨⟨d',er⟩,hir⟩:∃ r,putAll d s x.i x.b x.e=r:=⟨_,rfl⟩
       have hpl:=putAll_pl d s x.i x.b x.e
       rw [hir] at hpl
       have HIR:=Lib.hid hir
       have W5:Wk d' (18 * (j+1)+2):=⟨hpl.1.trans hwk.len,Nat.le_trans hpl.2 (by omega)⟩
       clear hir hpl hwk
       go_wp2_with fail
       have hbd:=(Below.refl w4.heap.size w4).drew
       have D5:=D4.below hbd
       have R5:=R4.below hbd
       have S5:=S4.below hbd
       have T5:=T4.below hbd
       have X5:=tr_bl hbd X4
       have hb5:=hb4.trans (hbd.mono hb4.size)
       clear D4 R4 S4 T4 X4 hb4 hbd c0
       refine wp_region_held_drew (S:=fun w'=>w'.heap[q4]?=some (.cells (a11A x) 75 (0,0))) (by kernel_rfl) X5 (fun hS0=>?_)
       generalize w4.drew=x0 at *
       refine tkP 0 rfl ?_
       refine tkP 1 rfl ?_
       refine tkT 2 rfl (by intro wS hSw;have c:=blk_cell hSw 1 (.int .i64 x.i) rfl;go_simp;(try with_reducible rfl)) ?_
       refine tkP 3 rfl ?_
       refine tkT 4 (v:=.agg (blA x.b)) rfl (by intro wS hSw;exact exec_ldB 69 _ ⟨_,_,_,_,_,isAgg69,sizeOf69,rfl,hSw,a11_bal x⟩) ?_
       refine tkP 5 rfl ?_
       refine tkT 6 (v:=.agg (enA x.e)) rfl (by intro wS hSw;exact exec_ldB 73 _ ⟨_,_,_,_,_,isAgg73,sizeOf73,rfl,hSw,a11_en x⟩) ?_
       refine tkP 8 rfl ?_
       refine tkP 9 rfl ?_
       refine tkT 10 rfl (by intro wS hSw;have c:=blk_cell hSw 1 (.int .i64 x.i) rfl;go_simp;(try with_reducible rfl)) ?_
       refine tkP 11 rfl ?_
       refine tkT 12 (v:=.agg (blA x.b)) rfl (by intro wS hSw;exact exec_ldB 69 _ ⟨_,_,_,_,_,isAgg69,sizeOf69,rfl,hSw,a11_bal x⟩) ?_
       refine tkP 13 rfl ?_
       refine tkT 14 (v:=.agg (enA x.e)) rfl (by intro wS hSw;exact exec_ldB 73 _ ⟨_,_,_,_,_,isAgg73,sizeOf73,rfl,hSw,a11_en x⟩) ?_
       refine rdy1 7 rfl (fun K' hK'=>?_)
       go_simp
       have hin:=lput_any (b:=x.b) (e:=x.e) S5 D5 hb5.size hok x.i (by omega)
       rw [HIR.out] at hin
       refine hin.mono ?_
       rintro e w7 ⟨rfl,⟨wv7,D7⟩,k7⟩
       have R7:=R5.kt k7
       have T7:=T5.kt k7
       have S7:=S5.kt k7
       have X7:=k7.ty _ _ _ X5 (by decide) (by decide) (by decide)
       have hb7:=hb5.trans k7.bl
       refine hK'.out _ _ X7 (fun _=>?_)
       clear hK' D5 R5 S5 T5 X5 hb5 k7 hS0 hin
       (try simp only [Act.put,qa1,qa2,qa3])
       refine rdy1 15 rfl (fun K' hK'=>?_)
       go_simp
       have hin:=rput11_any (b:=x.b) (e:=x.e) T7 R7 hb7.size hok x.i (by omega)
       rw [HIR.out] at hin
       refine hin.mono ?_
       rintro e w8 ⟨rfl,⟨q8,R8⟩,k8⟩
       have D8:=D7.kx k8.f
       have S8:=S7.kx k8
       have T8:=T7.kx k8
       have X8:=k8.ty _ _ _ X7 (by decide)
       have hb8:=hb7.trans k8.bl
       refine hK'.out _ _ X8 (fun _=>?_)
       clear hK' D7 R7 S7 T7 X7 hb7 k8 hin
       (try simp only [Act.put,qa1,qa2,qa3])
       refine tkT 16 (v:=.bool false) rfl (by intro wS hSw;go_simp;(try simp)) ?_
       refine wpAnyH_done (by kernel_rfl) ?_ _
       (try simp only [Exit.then])
       go_wp2
       (try simp only [Exit.inBlock,Exit.then])
       go_meet
       exact ⟨d',s,qx,qy,rfl,rfl,⟨⟨_,D8⟩,⟨_,R8⟩,S8,T8,hok,hqx,hqy⟩,W5,X8,hb8⟩
     ·have f0:(x.kind:Int) % 5=2:=by omega
      rw [f0] at ft
      clear h0 hkd
      have W5:Wk d (18 * (j+1)+2):=⟨hwk.len,Nat.le_trans hwk.wt (by omega)⟩
      have hok9:=cut_ok hok x.i
      obtain ⟨⟨s',er⟩,hir⟩:∃ r,cutW s x.i=r:=⟨_,rfl⟩
      rw [hir] at hok9
      have HIR:=Lib.hid hir
      clear hir hwk
      go_wp2_with fail
      have hbd:=(Below.refl w4.heap.size w4).drew
      have D5:=D4.below hbd
      have R5:=R4.below hbd
      have S5:=S4.below hbd
      have T5:=T4.below hbd
      have X5:=tr_bl hbd X4
      have hb5:=hb4.trans (hbd.mono hb4.size)
      clear D4 R4 S4 T4 X4 hb4 hbd c0
      refine wp_region_held_drew (S:=fun w'=>w'.heap[q4]?=some (.cells (a11A x) 75 (0,0))) (by kernel_rfl) X5 (fun hS0=>?_)
      generalize w4.drew=x0 at *
      refine tkP 0 rfl ?_
      refine tkP 1 rfl ?_
      refine tkT 2 rfl (by intro wS hSw;have c:=blk_cell hSw 1 (.int .i64 x.i) rfl;go_simp;(try with_reducible rfl)) ?_
      refine tkP 4 rfl ?_
      refine tkP 5 rfl ?_
      refine tkT 6 rfl (by intro wS hSw;have c:=blk_cell hSw 1 (.int .i64 x.i) rfl;go_simp;(try with_reducible rfl)) ?_
      refine rdy1 3 rfl (fun K' hK'=>?_)
      go_simp
      have hin:=lcut_any2 S5 x.i
      rw [HIR.out] at hin
      refine hin.mono ?_
      rintro e w7 ⟨rfl,S7,g7⟩
      have D7:=D5.oe g7 S5 (by decide) (by decide) (by decide)
      have R7:=R5.stO g7 S5 (by decide)
      have T7:LrB w7 qy g2 s:=blk_neT S5 g7 _ _ _ (by decide) T5
      have X7:=blk_neT S5 g7 _ _ _ (show 75≠_ by decide) X5
      have hb7:=bl_st hb5 g7 hb5.size hqx
      refine hK'.out _ _ X7 (fun _=>?_)
      clear hK' D5 R5 S5 T5 X5 hb5 g7 hS0 hin
      (try simp only [Act.put,qa1,qa2,qa3])
      refine rdy1 7 rfl (fun K' hK'=>?_)
      go_simp
      have hin:=rcut11_any T7 x.i
      rw [HIR.out] at hin
      refine hin.mono ?_
      rintro e w8 ⟨rfl,T8,g8⟩
      have D8:=D7.oe g8 T7 (by decide) (by decide) (by decide)
      have R8:=R7.stO g8 T7 (by decide)
      have S8:LgB w8 qx g s':=blk_neT T7 g8 _ _ _ (by decide) S7
      have X8:=blk_neT T7 g8 _ _ _ (show 75≠_ by decide) X7
      have hb8:=bl_st hb7 g8 hb7.size hqy
      refine hK'.out _ _ X8 (fun _=>?_)
      clear hK' D7 R7 S7 T7 X7 hb7 g8 hin
      (try simp only [Act.put,qa1,qa2,qa3])
      refine tkT 8 (v:=.bool false) rfl (by intro wS hSw;go_simp;(try simp)) ?_
      refine wpAnyH_done (by kernel_rfl) ?_ _
      (try simp only [Exit.then])
      go_wp2
      (try simp only [Exit.inBlock,Exit.then])
      go_meet
      exact ⟨d,s',qx,qy,rfl,rfl,⟨⟨_,D8⟩,⟨_,R8⟩,S8,T8,hok9,hqx,hqy⟩,W5,X8,hb8⟩
     ·have f0:(x.kind:Int) % 5=3:=by omega
      rw [f0] at ft
      clear h0 hkd
      have hlen:=hwk.len
      have hok1:=fun h=>(LgOk.of_open (d:=d) (rep:=rep) (inc:=x.n) (snap:=s.snap) h).1
      obtain ⟨er,hir⟩:∃ r,openE d rep x.n s.snap=r:=⟨_,rfl⟩
      rw [hir] at hok1
      have HIR:=Lib.hid hir
      have HOK:=Lib.hid hok1
      have W5:Wk d (18 * (j+1)+2):=⟨hlen,Nat.le_trans hwt (by omega)⟩
      clear hir hok1 hwk
      by_cases her:er=0
      ·subst her
       go_wp2_with fail
       have hbd:=(Below.refl w4.heap.size w4).drew
       have D5:=D4.below hbd
       have R5:=R4.below hbd
       have S5:=S4.below hbd
       have T5:=T4.below hbd
       have X5:=tr_bl hbd X4
       have hb5:=hb4.trans (hbd.mono hb4.size)
       clear D4 R4 S4 T4 X4 hb4 hbd c0
       refine wp_region_held_drew (S:=fun w'=>w'.heap[q4]?=some (.cells (a11A x) 75 (0,0))) (by kernel_rfl) X5 (fun hS0=>?_)
       generalize w4.drew=x0 at *
       refine tkP 0 rfl ?_
       refine tkP 1 rfl ?_
       refine tkP 2 rfl ?_
       refine tkT 3 rfl (by intro wS hSw;have c:=blk_cell hSw 2 (.int .i64 x.n) rfl;go_simp;(try with_reducible rfl)) ?_
       refine tkP 4 rfl ?_
       refine rdy1 5 rfl (fun K' hK'=>?_)
       go_simp
       refine (lsnap_any2 S5).mono ?_
       rintro e w6 ⟨rfl,rfl⟩
       refine hK'.out _ _ X5 (fun _=>?_)
       clear hK'
       (try simp only [Act.put,qa1,qa2,qa3])
       refine rdy1 6 rfl (fun K' hK'=>?_)
       go_simp
       have hin:=lopen_any D5 rep x.n s.snap (by omega)
       rw [HIR.out] at hin
       refine hin.mono ?_
       rintro e w7 ⟨hr7,hb57⟩
       obtain ⟨q6,rfl,hq6,L7⟩:=hr7.get0
       have D7:=D5.below hb57
       have R7:=R5.below hb57
       have S7:=S5.below hb57
       have T7:=T5.below hb57
       have X7:=tr_bl hb57 X5
       have hb7:=hb5.trans (hb57.mono hb5.size)
       refine hK'.out _ _ X7 (fun _=>?_)
       clear hK' D5 R5 S5 T5 X5 hb57 hS0 hin
       (try simp only [Act.put,qa1,qa2,qa3])
       refine tkP 7 rfl ?_
       refine tkP 8 rfl ?_
       refine tkP 9 rfl ?_
       refine tkP 10 rfl ?_
       refine tkP 11 rfl ?_
       refine wpAnyH_done (by kernel_rfl) ?_ _
       (try simp only [Exit.then])
       go_wp2_with fail
       have hbd:=(Below.refl w7.heap.size w7).drew
       have D8:=D7.below hbd
       have R8:=R7.below hbd
       have S8:=S7.below hbd
       have T8:=T7.below hbd
       have X8:=tr_bl hbd X7
       have hb8:=hb7.trans (hbd.mono hb7.size)
       have L8:=tr_bl hbd L7
       clear D7 R7 S7 T7 X7 hb7 hbd
       refine wp_region_held_drew (S:=fun w'=>w'.heap[q4]?=some (.cells (a11A x) 75 (0,0))∧LrB w' qy g2 s) (by kernel_rfl) ⟨X8,T8⟩ (fun hS0=>?_)
       generalize w7.drew=x2 at *
       refine tkP 0 rfl ?_
       refine tkP 1 rfl ?_
       refine tkP 2 rfl ?_
       refine tkT 3 rfl (by intro wS hSw;have c:=blk_cell hSw.1 2 (.int .i64 x.n) rfl;go_simp;(try with_reducible rfl)) ?_
       refine tkP 4 rfl ?_
       refine tkP 5 rfl ?_
       refine tkP 6 rfl ?_
       refine tkT 7 rfl (by intro wS hSw;have c:=hSw.2.c3;go_simp;(try with_reducible rfl)) ?_
       refine rdy1 8 rfl (fun K' hK'=>?_)
       go_simp
       have hin:=ropen11_any R8 rep x.n s.snap (by omega)
       rw [HIR.out] at hin
       refine hin.mono ?_
       rintro e w9 ⟨hr9,hb89⟩
       obtain ⟨q9,rfl,hq9,M9⟩:=hr9.get0;have L9:=tr_bl hb89 L8
       have D9:=D8.below hb89
       have R9:=R8.below hb89
       have S9:=S8.below hb89
       have T9:=T8.below hb89
       have X9:=tr_bl hb89 X8
       have hb9:=hb8.trans (hb89.mono hb8.size)
       refine hK'.out _ _ ⟨X9,T9⟩ (fun _=>?_)
       clear hK' D8 R8 S8 T8 X8 hS0 hin
       (try simp only [Act.put,qa1,qa2,qa3])
       refine tkP 9 rfl ?_
       refine tkP 10 rfl ?_
       refine tkP 11 rfl ?_
       refine tkP 12 rfl ?_
       refine tkP 13 rfl ?_
       refine wpAnyH_done (by kernel_rfl) ?_ _
       (try simp only [Exit.then])
       go_wp2
       (try simp only [Exit.inBlock,Exit.then])
       go_meet
       exact ⟨d,⟨rep,x.n,s.snap⟩,q6,q9,rfl,rfl,⟨⟨_,D9⟩,⟨_,R9⟩,L9,M9,HOK.out (by trivial),Nat.le_trans hb5.size hq6,Nat.le_trans hb8.size hq9⟩,W5,X9,hb9⟩
      ·have ern:(er==0)=false:=by rw [beq_eq_false_iff_ne];exact her
       have ern2:(er != 0)=true:=by rw [bne_iff_ne];exact her
       go_wp2_with fail
       have hbd:=(Below.refl w4.heap.size w4).drew
       have D5:=D4.below hbd
       have R5:=R4.below hbd
       have S5:=S4.below hbd
       have T5:=T4.below hbd
       have X5:=tr_bl hbd X4
       have hb5:=hb4.trans (hbd.mono hb4.size)
       clear D4 R4 S4 T4 X4 hb4 hbd c0
       refine wp_region_held_drew (S:=fun w'=>w'.heap[q4]?=some (.cells (a11A x) 75 (0,0))) (by kernel_rfl) X5 (fun hS0=>?_)
       generalize w4.drew=x0 at *
       refine tkP 0 rfl ?_
       refine tkP 1 rfl ?_
       refine tkP 2 rfl ?_
       refine tkT 3 rfl (by intro wS hSw;have c:=blk_cell hSw 2 (.int .i64 x.n) rfl;go_simp;(try with_reducible rfl)) ?_
       refine tkP 4 rfl ?_
       refine rdy1 5 rfl (fun K' hK'=>?_)
       go_simp
       refine (lsnap_any2 S5).mono ?_
       rintro e w6 ⟨rfl,rfl⟩
       refine hK'.out _ _ X5 (fun _=>?_)
       clear hK'
       (try simp only [Act.put,qa1,qa2,qa3])
       refine rdy1 6 rfl (fun K' hK'=>?_)
       go_simp
       have hin:=lopen_any D5 rep x.n s.snap (by omega)
       rw [HIR.out] at hin
       refine hin.mono ?_
       rintro e w7 ⟨hr7,hb57⟩
       obtain rfl:=hr7.getE her
       have D7:=D5.below hb57
       have R7:=R5.below hb57
       have S7:=S5.below hb57
       have T7:=T5.below hb57
       have X7:=tr_bl hb57 X5
       have hb7:=hb5.trans (hb57.mono hb5.size)
       refine hK'.out _ _ X7 (fun _=>?_)
       clear hK' D5 R5 S5 T5 X5 hb57 hS0 hin
       (try simp only [Act.put,qa1,qa2,qa3])
       refine tkP 7 rfl ?_
       refine tkP 8 rfl ?_
       refine tkP 9 rfl ?_
       refine tkP 10 rfl ?_
       refine tkP 11 rfl ?_
       refine wpAnyH_done (by kernel_rfl) ?_ _
       (try simp only [Exit.then])
       go_wp2_with fail
       have hbd:=(Below.refl w7.heap.size w7).drew
       have D8:=D7.below hbd
       have R8:=R7.below hbd
       have S8:=S7.below hbd
       have T8:=T7.below hbd
       have X8:=tr_bl hbd X7
       have hb8:=hb7.trans (hbd.mono hb7.size)
       skip
       clear D7 R7 S7 T7 X7 hb7 hbd
       refine wp_region_held_drew (S:=fun w'=>w'.heap[q4]?=some (.cells (a11A x) 75 (0,0))∧LrB w' qy g2 s) (by kernel_rfl) ⟨X8,T8⟩ (fun hS0=>?_)
       generalize w7.drew=x2 at *
       refine tkP 0 rfl ?_
       refine tkP 1 rfl ?_
       refine tkP 2 rfl ?_
       refine tkT 3 rfl (by intro wS hSw;have c:=blk_cell hSw.1 2 (.int .i64 x.n) rfl;go_simp;(try with_reducible rfl)) ?_
       refine tkP 4 rfl ?_
       refine tkP 5 rfl ?_
       refine tkP 6 rfl ?_
       refine tkT 7 rfl (by intro wS hSw;have c:=hSw.2.c3;go_simp;(try with_reducible rfl)) ?_
       refine rdy1 8 rfl (fun K' hK'=>?_)
       go_simp
       have hin:=ropen11_any R8 rep x.n s.snap (by omega)
       rw [HIR.out] at hin
       refine hin.mono ?_
       rintro e w9 ⟨hr9,hb89⟩
       obtain rfl:=hr9.getE her
       have D9:=D8.below hb89
       have R9:=R8.below hb89
       have S9:=S8.below hb89
       have T9:=T8.below hb89
       have X9:=tr_bl hb89 X8
       have hb9:=hb8.trans (hb89.mono hb8.size)
       refine hK'.out _ _ ⟨X9,T9⟩ (fun _=>?_)
       clear hK' D8 R8 S8 T8 X8 hS0 hin
       (try simp only [Act.put,qa1,qa2,qa3])
       refine tkP 9 rfl ?_
       refine tkP 10 rfl ?_
       refine tkP 11 rfl ?_
       refine tkP 12 rfl ?_
       refine tkP 13 rfl ?_
       refine wpAnyH_done (by kernel_rfl) ?_ _
       (try simp only [Exit.then])
       go_wp2
       (try simp only [Exit.inBlock,Exit.then])
       go_meet
       exact ⟨d,s,qx,qy,rfl,rfl,⟨⟨_,D9⟩,⟨_,R9⟩,S9,T9,hok,hqx,hqy⟩,W5,X9,hb9⟩
     ·have f0:(x.kind:Int) % 5=4:=by omega
      rw [f0] at ft
      clear h0 hkd
      have hdo:=ldo_any D4 hb4.size x.ot (fun w' hk=>(HI _ (hb4.trans hk.bl)).d) hx (by omega)
      have W5:Wk (do6 d x.ot) (18 * (j+1)+2):=(by have h:=do6_wk hwk x.ot;exact ⟨h.len,Nat.le_trans h.wt (by omega)⟩)
      have hw1:=(do6_wk hwk x.ot).wt
      clear hwk
      go_wp2_with (first
       | ((with_reducible refine wpList_ldB 44 _ ?_);refine ⟨rfl,_,⟨_,_,_,_,_,isAgg44,sizeOf44,rfl,‹_›,a11_ot x⟩,?_⟩)
       | (go_at_call 15;refine hdo.mono ?_;rintro e w6 ⟨⟨v6,rfl⟩,⟨wv6,D6⟩,k6⟩;have R6:=R4.kt k6;have S6:=S4.kt k6;have T6:=T4.kt k6;have X6:=k6.ty _ _ _ X4 (by decide) (by decide) (by decide);have hb6:=hb4.trans k6.bl;clear D4 R4 S4 T4 X4 hdo c0 hb4;have hsm:=same6_any R6 hb6.size x.ot (fun w' hk=>(HI _ (hb6.trans hk.bl)).d) hx (by omega))
       | (go_at_call 16;refine hsm.mono ?_;rintro e w8 ⟨⟨v8,rfl⟩,⟨q8,R8⟩,k8⟩))
      have D8:=D6.kx k8
      have S8:=S6.kf k8
      have T8:=T6.kf k8
      have X8:=k8.ty _ _ _ X6 (by decide)
      have hb8:=hb6.trans k8.bl
      (try simp only [Exit.inBlock,Exit.then])
      go_meet
      exact ⟨_,s,qx,qy,rfl,rfl,⟨⟨_,D8⟩,⟨_,R8⟩,S8,T8,hok,hqx,hqy⟩,W5,X8,hb8⟩
    clear D4 R4 S4 T4 X4 hb4 hok hqx hqy hwk
    obtain ⟨d9,s9,qx9,qy9,rfl,rfl,⟨⟨wv9,D9⟩,⟨q9,R9⟩,S9,T9,hok9,hqx9,hqy9⟩,W9,X9,hb9⟩:=hcut
    refine hK _ _ ?_
    clear hK
    have hsn:=fun z=>lsnap_any2 (S9.below (under_below wc z))
    have hwa:=fun z=>waits_any (D9.below (under_below wc z))
    have u1:=under_cell T9.c3
    have c3:=R9.c3
    obtain ⟨qa,qc,hqw,_,hwl,hwm⟩:=Row.of_owns R9.wts
    rw [hqw] at c3
    have u3:=under_cell c3
    have hst9:∀ w',Below wc.heap.size wc w'→St11 w.heap.size g gp g2 qx9 qy9 d9 s9 w':=fun w' hb=>(St11.mk ⟨_,D9⟩ ⟨_,R9⟩ S9 T9 hok9 hqx9 hqy9).below hb
    have hal:=allE_len d9 s9
    have hlall:=fun w' hb=>lall_any (S9.below (w':=w') hb) (D9.below hb) hok9
    have hrall:=fun w' hb=>rall11_any (T9.below (w':=w') hb) (R9.below hb) hok9
    have htl:=fun w' hb i=>ltells11_any (S9.below (w':=w') hb) (D9.below hb) (T9.below hb) (R9.below hb) hok9 i
    generalize allE d9 s9=al at *
    obtain ⟨rl,re⟩:=al
    simp only at hal
    clear D9 R9 S9 T9 c3 hqw hok9
    refine seqH fun K HK6=>?_
    go_wp2_with fail
    refine wp_region_under (by kernel_rfl) (by kernel_rfl) ?_
    repeat (first | go_big_quiet_step ((first
         | (go_at_call 27;exact under_same (hsn _))
         | (go_at_call 18;exact under_same (hwa _)))) | ((with_reducible refine wpQuiet_skip ?_ ?_) ;(focus rfl);(try simp only [Act.put,qa1,qa2,qa3])))
    refine wpQuiet_nil ?_
    intro _ hw'
    obtain ⟨xU,hw''⟩:=hw'
    subst hw''
    have hbU:=under_below wc xU
    go_wp2
    refine HK6.out _ _ ?_
    clear HK6 hsn hwa u1 u3
    have X10:=tr_bl hbU X9
    refine seqH fun K HK=>?_
    go_wp2_with (go_at_call 28;refine (hlall _ hbU).mono ?_;rintro e w11 ⟨⟨v11,rfl,O11⟩,hb11⟩)
    refine HK.out _ _ ?_
    clear HK
    have hbt:=hbU.trans (hb11.mono hbU.size)
    refine seqH fun K HK=>?_
    go_wp2_with (go_at_call 29;refine (hrall _ hbt).mono ?_;rintro e w12 ⟨⟨v12,rfl,O12⟩,hb12⟩)
    refine HK.out _ _ ?_
    clear HK
    obtain ⟨a11,c11,rfl,P11,_⟩:=Row.of_owns (owns_bl O11 hb12)
    obtain ⟨a12,c12,rfl,P12,_⟩:=Row.of_owns O12
    have hsm:=rsame11_any a11 a12 c11 c12 rl w12 P11 P12 (by omega)
    have X12:=tr_bl hb12 (tr_bl hb11 X10)
    have hbt:=hbt.trans (hb12.mono hbt.size)
    clear X9 X10 O11 O12 P11 P12 hb11 hb12 hlall hrall
    go_wp2_with (first
     | (go_at_call 30;refine hsm.mono ?_;rintro e w13 ⟨rfl,hb13⟩;have X13:=tr_bl hb13 X12;have c1:=blk_cell X13 1 (.int .i64 x.i) rfl;have hbt:=hbt.trans (hb13.mono hbt.size))
     | (go_at_call 31;refine (htl _ hbt _).mono ?_;rintro e w14 ⟨rfl,hb14⟩;have hbt:=hbt.trans (hb14.mono hbt.size)))
    (try simp only [Exit.inBlock,Exit.then])
    refine HK1.out _ _ ?_
    go_wp2
    go_roundw
    case rel=>exact ⟨j+1,d9,s9,qx9,qy9,by omega,by go_num,rfl,rfl,hst9 _ hbt,W9,hb9.trans (hbt.mono hb9.size)⟩
    case measure=>simp [intOf];omega
 refine hK _ _ ?_
 clear hK
 go_wp2
 go_ret
 exact ⟨rfl,hcut⟩
end
end Go.Proofs.YtbdonjenekhmdaaGreatDoor
