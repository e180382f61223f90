/- Texts that the claim leans on, part 24: W16, W24, W25, W17, W18, W19, W26, W20. -/
import Derived.Test.YtbdonjenekhmdaaGreatDoorZ1
import Derived.Test.YtbdonjenekhmdaaGreatDoorZ2
import Derived.Test.YtbdonjenekhmdaaGreatDoorZ3
import Derived.Test.YtbdonjenekhmdaaGreatDoorZ4
import Derived.Test.YtbdonjenekhmdaaGreatDoorZ5
import Derived.Test.YtbdonjenekhmdaaGreatDoorZ6
import Derived.Test.YtbdonjenekhmdaaGreatDoorZ7
import Derived.Test.YtbdonjenekhmdaaGreatDoorZ8
import Derived.Test.YtbdonjenekhmdaaGreatDoorZ9
import Derived.Test.YtbdonjenekhmdaaGreatDoorZ10
import Derived.Test.YtbdonjenekhmdaaGreatDoorZ11
import Derived.Test.YtbdonjenekhmdaaGreatDoorZ12
import Derived.Test.YtbdonjenekhmdaaGreatDoorZ13
import Derived.Test.YtbdonjenekhmdaaGreatDoorZ14
import Derived.Test.YtbdonjenekhmdaaGreatDoorZ15
import Derived.Test.YtbdonjenekhmdaaGreatDoorZ16
import Derived.Test.YtbdonjenekhmdaaGreatDoorZ17
import Derived.Test.YtbdonjenekhmdaaGreatDoorZ18
import Derived.Test.YtbdonjenekhmdaaGreatDoorZ19
import Derived.Test.YtbdonjenekhmdaaGreatDoorZ20
import Derived.Test.YtbdonjenekhmdaaGreatDoorZ21
import Derived.Test.YtbdonjenekhmdaaGreatDoorZ22
import Derived.Test.YtbdonjenekhmdaaGreatDoorZ23
namespace Go.Proofs.YtbdonjenekhmdaaGreatDoor
open Go.RowKit Go.Proofs.Tryz
set_option maxRecDepth 100000
set_option maxHeartbeats 32000000
section
theorem rprint10_ok (b:Bal) (wh:Nat) (w:World) (hb:mayBl b=true) (hw:wh < 2):Calls Tryz.prog 89 #[.agg (blA b),.int .i64 wh] w fun en w'=>OwnBytes w.heap.size (recB b wh) 0 en w'∧Below w.heap.size w w':=by
 obtain ⟨hr1,hr2,hp0,hp7⟩:=mayBl_parts hb
 have hml:=fun w=>rbal10_any b w true hb
 have HL:=Lib.hid (show oputL 6 b.rnd=le 6 b.rnd.toNat from oput_one (k:=6) (by omega) (by show _ < 281474976710656;omega))
 have W1:IntKind.u8.wrap b.rep=b.rep:=IntWalk.u8_in _ (by omega)
 have W2:IntKind.u8.wrap (wh:Int)=wh:=IntWalk.u8_in _ (by omega)
 have i1:¬ (wh:Int) < 0:=by omega
 have i2:¬ 1 < (wh:Int):=by omega
 go_enter func89,ntmps89
 refine seqH fun K HK=>?_
 go_wp2
 refine HK.out _ _ ?_
 clear HK
 have hbA:=blw w (Obj.cells (blA b) 69)
 have B0:=heap_alloc_new w (Obj.cells (blA b) 69)
 generalize w.alloc (Obj.cells (blA b) 69)=w0 at *
 refine seqH fun K HK=>?_
 go_wp2_with (first
   | ((with_reducible refine wpList_ldB 69 _ ?_);refine ⟨rfl,_,⟨_,_,_,_,_,isAgg69,sizeOf69,rfl,‹_›,arr_all rfl⟩,?_⟩)
   | (go_at_call 158;refine (hml _).mono ?_;rintro en w1 ⟨rfl,hb1⟩;have B1:=tr_bl hb1 B0;have hbB:=hbA.trans (hb1.mono hbA.size)))
 refine HK.out _ _ ?_
 clear HK
 clear B0 hbA hb1 hml
 have c0:=blk_cell B1 0 (.int .i64 b.rnd) rfl
 have hq1:=lt_blk B1
 refine seqH fun K HK=>?_
 go_wp2_with (go_at_call 52;refine (rput_any 6 b.rnd _ (by omega)).mono ?_;rintro en w4 ⟨⟨v4,rfl,o4⟩,hb4⟩;rw [HL.out,le_len] at o4)
 refine HK.out _ _ ?_
 clear HK
 have B4:=tr_bl hb4 B1
 have hb5:=hbB.trans (hb4.mono hbB.size)
 have hq4:w1.heap.size≤w4.heap.size:=hb4.size
 have c1:=blk_cell B4 1 (.int .i64 b.rep) rfl
 clear c0 B1 hbB hb4
 go_wp2_with (at_builtin;refine wpList_appendN' rfl _ _ 37 37 5 5 elByte underlying37 rfl w1.heap.size _ 6 (bys (le 6 b.rnd.toNat)) rfl (owns_bl o4 (blw w4 _)) ⟨w4.heap.size,0,none⟩ 2 2 _ rfl rfl (new_row2 w4 _ _) (by simp [Value.oneCell']) (by omega) (by decide) (Nat.le_trans hq4 (blw w4 _).size) ?_;intro v7 w7 o7 g7)
 have hb7:=(hb5.trans ((blw w4 _).mono hb5.size)).grown g7 (Nat.le_trans hb5.size (blw w4 _).size) (fun k e=>Nat.le_trans (Nat.le_of_lt hq1) (o4.lt k e).1)
 go_ret2
 refine ⟨⟨_,rfl,?_⟩,hb7⟩
 have hh:bys (le 6 b.rnd.toNat)++[Value.int .u8 b.rep,Value.int .u8 wh]=bys (recB b wh):=by
  unfold recB
  rw [bys_app,bys_app,le1_bys (n:=b.rep.toNat) (by omega),le1_bys (n:=wh) (by omega),Int.toNat_of_nonneg (by omega)]
  rfl
 have hlen:(recB b wh).length=8:=by unfold recB;simp only [List.length_append,le_len]
 rw [hlen,← hh]
 exact owns_mono o7 (by omega)
theorem rparse10_any (a:Option Addr) (cap:Nat) (l:List UInt8) (w:World) (hs:SlB w a cap l) :
  Calls Tryz.prog 162 #[.slice a l.length cap] w fun en w'=>en=.returned (RcV (parseR l))∧Below w.heap.size w w':=by
 by_cases h8:l.length=8
 case neg=>
  have hr:parseR l=none:=by unfold parseR;rw [if_neg (fun h=>h8 h.1)]
  rw [hr]
  have e1:((l.length:Int) != 8)=true:=by rw [bne_iff_ne];omega
  clear h8 hr
  go_enter func162,ntmps162
  refine seqH fun K HK=>?_
  go_wp2
  refine HK.out _ _ ?_
  clear HK
  have hbz:=blw w (Obj.cells (blA ⟨0,0⟩) 69)
  have B0:=heap_alloc_new w (Obj.cells (blA ⟨0,0⟩) 69)
  change Code.wp _ _ _ _ (w.alloc (Obj.cells (blA ⟨0,0⟩) 69))
  generalize w.alloc (Obj.cells (blA ⟨0,0⟩) 69)=w0 at *
  go_wp2_with ((with_reducible refine wpList_stB 69 _ _ ?_);refine ⟨_,_,_,⟨_,_,_,sizeOf69,rfl,B0,bl_over _ ⟨0,0⟩⟩,?_⟩;intro w9 RB9 g9)
  refine bodyPost_ret (results_c1t2 rfl rfl (run_loadVar_all isAgg69 sizeOf69 RB9 rfl)) rfl ⟨rfl,bls hbz (Nat.le_refl _) g9 (Nat.le_refl _)⟩
 have e1:((l.length:Int) != 8)=false:=by rw [bne_eq_false_iff_eq];omega
 have i6:(6:Int) < l.length:=by omega
 have i7:(7:Int) < l.length:=by omega
 have hr:parseR l=if mayBl ⟨getN l 0 6,getN l 6 1⟩=true∧getN l 7 1 < 2 then some (⟨getN l 0 6,getN l 6 1⟩,getN l 7 1) else none:=by
  unfold parseR
  by_cases hc:mayBl ⟨getN l 0 6,getN l 6 1⟩=true∧getN l 7 1 < 2
  ·rw [if_pos hc,if_pos ⟨h8,hc⟩]
  ·rw [if_neg hc,if_neg (fun h=>hc h.2)]
 rw [hr]
 obtain ⟨bk,off,ha,HC⟩:=byte_cell hs (by omega)
 subst ha
 have hget:=fun (w':World) (hb:Below w.heap.size w w')=>rget_ok (some ⟨bk,off,none⟩) cap l 0 6 w' (hs.below hb) (by omega) (by omega)
 have hC6:=fun w' hb=>HC w' hb 6 (by omega)
 have hC7:=fun w' hb=>HC w' hb 7 (by omega)
 obtain ⟨rn,hrn⟩:∃ n,getN l 0 6=n:=⟨_,rfl⟩
 obtain ⟨rp,hrp⟩:∃ n,getN l 6 1=n:=⟨_,rfl⟩
 obtain ⟨wh,hwh⟩:∃ n,getN l 7 1=n:=⟨_,rfl⟩
 have hrb:rp < 256:=by rw [← hrp,getN_one (by omega)];exact (l[6]'(by omega)).toNat_lt
 have hwb:wh < 256:=by rw [← hwh,getN_one (by omega)];exact (l[7]'(by omega)).toNat_lt
 rw [hrn,hrp,hwh]
 simp only [hrn] at hget
 simp only [hrp] at hC6
 simp only [hwh] at hC7
 have W1:IntKind.i64.wrap (rp:Int)=rp:=IntWalk.i64_in _ (by omega)
 have W2:IntKind.i64.wrap (wh:Int)=wh:=IntWalk.i64_in _ (by omega)
 have hbl:=fun w=>rbal10_any ⟨(rn:Int),(rp:Int)⟩ w _ rfl
 clear HC hrn hrp hwh h8 hr
 have HS:=Lib.hid hs
 clear hs
 by_cases hw2:wh < 2
 case neg=>
  rw [if_neg (fun h=>hw2 h.2)]
  have i1:1 < (wh:Int):=by omega
  clear hw2
  go_enter func162,ntmps162
  refine seqH fun K HK=>?_
  go_wp2
  refine HK.out _ _ ?_
  clear HK
  have hbz:=blw w (Obj.cells (blA ⟨0,0⟩) 69)
  have B0:=heap_alloc_new w (Obj.cells (blA ⟨0,0⟩) 69)
  change Code.wp _ _ _ _ (w.alloc (Obj.cells (blA ⟨0,0⟩) 69))
  generalize w.alloc (Obj.cells (blA ⟨0,0⟩) 69)=w0 at *
  have c7:=hC7 _ hbz
  clear hget hC6 hC7
  go_wp2_with ((with_reducible refine wpList_stB 69 _ _ ?_);refine ⟨_,_,_,⟨_,_,_,sizeOf69,rfl,B0,bl_over _ ⟨0,0⟩⟩,?_⟩;intro w9 RB9 g9)
  refine bodyPost_ret (results_c1t2 rfl rfl (run_loadVar_all isAgg69 sizeOf69 RB9 rfl)) rfl ⟨rfl,bls hbz (Nat.le_refl _) g9 (Nat.le_refl _)⟩
 have i1:¬ 1 < (wh:Int):=by omega
 go_enter func162,ntmps162
 refine seqH fun K HK=>?_
 go_wp2
 refine HK.out _ _ ?_
 clear HK
 have hbz:=blw w (Obj.cells (blA ⟨0,0⟩) 69)
 have B0:=heap_alloc_new w (Obj.cells (blA ⟨0,0⟩) 69)
 change Code.wp _ _ _ _ (w.alloc (Obj.cells (blA ⟨0,0⟩) 69))
 generalize w.alloc (Obj.cells (blA ⟨0,0⟩) 69)=w0 at *
 have c7:=hC7 _ hbz
 have hg0:=hget _ hbz
 refine seqH fun K HK=>?_
 go_wp2
 refine HK.out _ _ ?_
 clear HK
 refine seqH fun K HK=>?_
 go_wp2_with (go_at_call 39;refine hg0.mono ?_;rintro e w1 ⟨rfl,rfl⟩)
 refine HK.out _ _ ?_
 clear HK
 have c6:=hC6 _ hbz
 refine seqH fun K HK=>?_
 go_wp2_with ((first | (with_reducible refine wpList_stNew 69 _ _ ?_) | (with_reducible refine wp_stNew 69 _ _ ?_));refine ⟨_,_,⟨sizeOf69,rfl,bl_new ⟨(rn:Int),(rp:Int)⟩⟩,rfl,?_⟩)
 refine HK.out _ _ ?_
 clear HK
 have hbx:=blw w0 (Obj.cells (blA ⟨(rn:Int),(rp:Int)⟩) 69)
 have hxb:w.heap.size < w0.heap.size:=lt_blk B0
 have X1:=heap_alloc_new w0 (Obj.cells (blA ⟨(rn:Int),(rp:Int)⟩) 69)
 have B1:=tr_bl hbx B0
 have hb1:=hbz.trans (hbx.mono hbz.size)
 clear hget hg0 hC6 c6 c7 hbx B0 hbz
 generalize w0.alloc (Obj.cells (blA ⟨(rn:Int),(rp:Int)⟩) 69)=w1 at *
 generalize w0.heap.size=xb at *
 cases hmb:mayBl ⟨(rn:Int),(rp:Int)⟩
 ·rw [if_neg (by simp)]
  simp only [hmb] at hbl
  clear hw2 hC7
  go_wp2_with (first
   | ((with_reducible refine wpList_ldB 69 _ ?_);refine ⟨rfl,_,⟨_,_,_,_,_,isAgg69,sizeOf69,rfl,‹_›,arr_all rfl⟩,?_⟩)
   | (go_at_call 158;refine (hbl _).mono ?_;rintro e w7 ⟨rfl,hb7⟩;have B7:=tr_bl hb7 B1;have hb7b:=hb1.trans (hb7.mono hb1.size))
   | ((with_reducible refine wpList_stB 69 _ _ ?_);refine ⟨_,_,_,⟨_,_,_,sizeOf69,rfl,B7,bl_over _ ⟨0,0⟩⟩,?_⟩;intro w9 RB9 g9))
  refine bodyPost_ret (results_c1t2 rfl rfl (run_loadVar_all isAgg69 sizeOf69 RB9 rfl)) rfl ⟨rfl,bls hb7b (Nat.le_refl _) g9 (Nat.le_refl _)⟩
 ·rw [if_pos ⟨rfl,hw2⟩]
  simp only [hmb] at hbl
  clear hw2
  refine seqH fun K HK=>?_
  go_wp2_with (first
     | ((with_reducible refine wpList_ldB 69 _ ?_);refine ⟨rfl,_,⟨_,_,_,_,_,isAgg69,sizeOf69,rfl,‹_›,arr_all rfl⟩,?_⟩)
     | (go_at_call 158;refine (hbl _).mono ?_;rintro e w7 ⟨rfl,hb7⟩))
  refine HK.out _ _ ?_
  clear HK
  have B7:=tr_bl hb7 B1
  have X7:=tr_bl hb7 X1
  have hb7b:=hb1.trans (hb7.mono hb1.size)
  refine seqH fun K HK=>?_
  have hbd:=(Below.refl w7.heap.size w7).drew
  have hb8:=hb7b.trans (hbd.mono hb7b.size)
  have B8:=tr_bl hbd B7
  have X8:=tr_bl hbd X7
  have c8:=hC7 _ hb8
  have hnb:w.heap.size≠bk:=by have:=hC7 w (Below.refl _ _);have:=World.block_lt_of_cell? _ _ this;simp at this;omega
  refine wp_region_held_drew (S:=fun w'=>w'.heap[xb]?=some (Obj.cells (blA ⟨(rn:Int),(rp:Int)⟩) 69)∧w'.cell? ⟨bk,off+7,none⟩=some (.int .u8 (wh:Nat))) (by kernel_rfl) ⟨X8,c8⟩ (fun hS0=>?_)
  generalize w7.drew=x0 at *
  refine tkT 0 (v:=.agg (blA ⟨(rn:Int),(rp:Int)⟩)) rfl (by intro wS hSw;exact exec_ldB 69 _ ⟨_,_,_,_,_,isAgg69,sizeOf69,rfl,hSw.1,arr_all rfl⟩) ?_
  refine tkP 1 rfl ?_
  refine tkT 2 (v:=.pointer (some ⟨bk,off+7,none⟩)) rfl (by intro wS hSw;go_simp;(try rfl)) ?_
  refine tkT 3 rfl (by intro wS hSw;have c:=hSw.2;go_simp;(try with_reducible rfl)) ?_
  refine tkT 4 (v:=.int .i64 (wh:Nat)) rfl (by intro wS hSw;go_simp;(try rw [IntWalk.i64_in _ (by omega)]);(try rfl)) ?_
  refine rdy1 5 rfl (fun K' hK'=>?_)
  refine wp_stB 69 _ _ ?_
  refine ⟨_,_,_,⟨_,_,_,sizeOf69,rfl,B8,bl_over _ ⟨(rn:Int),(rp:Int)⟩⟩,?_⟩
  intro w11 B11 g11
  refine hK'.out _ _ ⟨tr_st g11 hS0.1 (show w.heap.size≠xb by omega),cell_st g11 hS0.2 hnb⟩ (fun _=>?_)
  clear hK'
  (try simp only [Act.put,qa1,qa2,qa3])
  refine tkP 6 rfl ?_
  refine tkP 7 rfl ?_
  refine wpAnyH_done (by kernel_rfl) ?_ _
  refine HK.out _ _ ?_
  clear HK
  go_wp2
  refine bodyPost_ret (results_c1t2 rfl rfl (run_loadVar_all isAgg69 sizeOf69 B11 rfl)) rfl ⟨rfl,bls hb8 (Nat.le_refl _) g11 (Nat.le_refl _)⟩
end
section
def two (a b:SCp):Nat→SCp:=fun k=>if k=0 then a else b
theorem rec_st0 (p:SRec) (st:Nat):0+1≤(recA p).size∧(Value.int .u8 (st:Int)).cells.size=1∧(∀ u ∈ (Value.int .u8 (st:Int)).cells.toList,u.oneCell'=true)∧((recA p).toList.take 0++(Value.int .u8 (st:Int)).cells.toList++(recA p).toList.drop (0+1)).toArray=recA { p with st:=st }:=
 ⟨by show _≤5;omega,rfl,by simp [Value.cells,Value.oneCell'],rfl⟩
theorem ff_st0 (a b:SCp) (st:Nat):0+1≤(ffA (two a b)).size∧(Value.int .u8 (st:Int)).cells.size=1∧(∀ u ∈ (Value.int .u8 (st:Int)).cells.toList,u.oneCell'=true)∧((ffA (two a b)).toList.take 0++(Value.int .u8 (st:Int)).cells.toList++(ffA (two a b)).toList.drop (0+1)).toArray=ffA (two { a with st:=st } b):=
 ⟨by show _≤22;omega,rfl,by simp [Value.cells,Value.oneCell'],rfl⟩
theorem ff_st1 (a b:SCp) (st:Nat):11+1≤(ffA (two a b)).size∧(Value.int .u8 (st:Int)).cells.size=1∧(∀ u ∈ (Value.int .u8 (st:Int)).cells.toList,u.oneCell'=true)∧((ffA (two a b)).toList.take 11++(Value.int .u8 (st:Int)).cells.toList++(ffA (two a b)).toList.drop (11+1)).toArray=ffA (two a { b with st:=st }):=
 ⟨by show _≤22;omega,rfl,by simp [Value.cells,Value.oneCell'],rfl⟩
theorem ff_cp0 (a b c:SCp):0+11≤(ffA (two a b)).size∧(Value.agg (cpyA c)).cells.size=11∧(∀ u ∈ (Value.agg (cpyA c)).cells.toList,u.oneCell'=true)∧((ffA (two a b)).toList.take 0++(Value.agg (cpyA c)).cells.toList++(ffA (two a b)).toList.drop (0+11)).toArray=ffA (two c b):=
 ⟨by show _≤22;omega,rfl,by simp [Value.cells,cpyA,Value.oneCell'],rfl⟩
theorem ff_cp1 (a b c:SCp):11+11≤(ffA (two a b)).size∧(Value.agg (cpyA c)).cells.size=11∧(∀ u ∈ (Value.agg (cpyA c)).cells.toList,u.oneCell'=true)∧((ffA (two a b)).toList.take 11++(Value.agg (cpyA c)).cells.toList++(ffA (two a b)).toList.drop (11+11)).toArray=ffA (two a c):=
 ⟨by show _≤22;omega,rfl,by simp [Value.cells,cpyA,Value.oneCell'],rfl⟩
theorem tg_over (t t':Tg):0+5≤(#[Value.int .i64 t.rep,.int .i64 t.reg,.int .i64 t.pla,.int .i64 t.idx,.int .i64 t.inc]:Array Value).size∧(tgV t').cells.size=5∧(∀ u ∈ (tgV t').cells.toList,u.oneCell'=true)∧((#[Value.int .i64 t.rep,.int .i64 t.reg,.int .i64 t.pla,.int .i64 t.idx,.int .i64 t.inc]:Array Value).toList.take 0++(tgV t').cells.toList++(#[Value.int .i64 t.rep,.int .i64 t.reg,.int .i64 t.pla,.int .i64 t.idx,.int .i64 t.inc]:Array Value).toList.drop (0+5)).toArray=#[Value.int .i64 t'.rep,.int .i64 t'.reg,.int .i64 t'.pla,.int .i64 t'.idx,.int .i64 t'.inc]:=
 ⟨by show _≤5;omega,rfl,by simp [Value.cells,Value.oneCell'],rfl⟩
structure RdF (B g q nb tb:Nat) (qq:RQ) (d:Dk) (s:Lg) (p:SRec) (a b:SCp) (tg:Tg) (w wx:World):Prop where
 lg:LrB wx q g s
 dk:RefB B g qq d wx
 r0:wx.heap[nb]?=some (.cells (recA (zRec 0)) 147 (0,0))
 f0:wx.heap[nb+1]?=some (.cells (ffA (two (zCp 0) (zCp 0))) 150 (0,0))
 r1:wx.heap[nb+2]?=some (.cells (recA p) 147 (0,0))
 f1:wx.heap[nb+3]?=some (.cells (ffA (two a b)) 150 (0,0))
 tg:wx.heap[tb]?=some (.cells #[.int .i64 tg.rep,.int .i64 tg.reg,.int .i64 tg.pla,.int .i64 tg.idx,.int .i64 tg.inc] 39 (0,0))
 bl:Below nb w wx
 tn:nb+3 < tb
section
variable {B g q nb tb:Nat} {qq:RQ} {d:Dk} {s:Lg} {p p':SRec} {a b a' b':SCp} {tg t':Tg} {w wx wy:World}
theorem RdF.below (h:RdF B g q nb tb qq d s p a b tg w wx) (hb:Below wx.heap.size wx wy):RdF B g q nb tb qq d s p a b tg w wy:=
 ⟨h.lg.below hb,h.dk.below hb,tr_bl hb h.r0,tr_bl hb h.f0,tr_bl hb h.r1,tr_bl hb h.f1,tr_bl hb h.tg,h.bl.trans (hb.mono (by have:=lt_blk h.r0;omega)),h.tn⟩
theorem RdF.str (h:RdF B g q nb tb qq d s p a b tg w wx) (hg:wx.grownBy wy (some (nb+2))) (hn:wy.heap[nb+2]?=some (.cells (recA p') 147 (0,0))):RdF B g q nb tb qq d s p' a b tg w wy:=
 ⟨blk_neT h.r1 hg _ _ _ (by decide) h.lg,h.dk.stO hg h.r1 (by decide),tr_st hg h.r0 (by omega),tr_st hg h.f0 (by omega),hn,tr_st hg h.f1 (by omega),tr_st hg h.tg (by have:=h.tn;omega),bl_st h.bl hg (by have:=lt_blk h.r0;omega) (by omega),h.tn⟩
theorem RdF.stf (h:RdF B g q nb tb qq d s p a b tg w wx) (hg:wx.grownBy wy (some (nb+3))) (hn:wy.heap[nb+3]?=some (.cells (ffA (two a' b')) 150 (0,0))):RdF B g q nb tb qq d s p a' b' tg w wy:=
 ⟨blk_neT h.f1 hg _ _ _ (by decide) h.lg,h.dk.stO hg h.f1 (by decide),tr_st hg h.r0 (by omega),tr_st hg h.f0 (by omega),tr_st hg h.r1 (by omega),hn,tr_st hg h.tg (by have:=h.tn;omega),bl_st h.bl hg (by have:=lt_blk h.r0;omega) (by omega),h.tn⟩
theorem RdF.stt (h:RdF B g q nb tb qq d s p a b tg w wx) (hg:wx.grownBy wy (some tb)) (hn:wy.heap[tb]?=some (.cells #[.int .i64 t'.rep,.int .i64 t'.reg,.int .i64 t'.pla,.int .i64 t'.idx,.int .i64 t'.inc] 39 (0,0))):RdF B g q nb tb qq d s p a b t' w wy:=
 have ht:=h.tn
 ⟨blk_neT h.tg hg _ _ _ (by decide) h.lg,h.dk.stO hg h.tg (by decide),tr_st hg h.r0 (by omega),tr_st hg h.f0 (by omega),tr_st hg h.r1 (by omega),tr_st hg h.f1 (by omega),hn,bl_st h.bl hg (by have:=lt_blk h.r0;omega) (by omega),h.tn⟩
theorem RdF.t3 (h:RdF B g q nb tb qq d s p a b tg w wx):wx.cell? ⟨tb,3,none⟩=some (.int .i64 tg.idx):=blk_cell h.tg 3 _ rfl
theorem RdF.st9 (h:RdF B g q nb tb qq d s p a b tg w wx) {j:Nat} {cs:Array Value} {T:TypeId} (hg:wx.grownBy wy (some j)) (hj:wx.heap[j]?=some (.cells cs T (0,0))) (h1:T=69∨T=73) (h2:tb < j):RdF B g q nb tb qq d s p a b tg w wy:=
 have ht:=h.tn
 ⟨blk_neT hj hg _ _ _ (by rcases h1 with rfl | rfl <;> decide) h.lg,h.dk.stO hg hj (by rcases h1 with rfl | rfl <;> decide),tr_st hg h.r0 (by omega),tr_st hg h.f0 (by omega),tr_st hg h.r1 (by omega),tr_st hg h.f1 (by omega),tr_st hg h.tg (by omega),bl_st h.bl hg (by have:=lt_blk h.r0;omega) (by omega),h.tn⟩
theorem rfr1_len (R:RefB B g qq d w) (p:Int):(fr1 d s.rep 3 p).2.2.length≤1000:=by
 unfold fr1
 split
 ·simp
 ·have h1:=mine_len3 (preW d (firstN 3 p) 1) s.rep 3 p
  have h2:(preW d (firstN 3 p) 1).length=64:=(rread_len R (firstN 3 p)).1 (by rename_i h;simpa using h)
  omega
theorem rfr2_len (R:RefB B g qq d w) (p:Int):(fr2 d s.rep 4 p).2.2.length≤1000:=by
 unfold fr2
 split
 ·simp
 ·rename_i h
  have h1:=mine_len3 (preW d (firstN 4 p) 2) s.rep 4 p
  have h2:(preW d (firstN 4 p) 2).length=128:=by
   show ((readD d (firstN 4 p)).1++(readD d (firstN 4 p+1)).1).length=128
   rw [List.length_append,(rread_len R (firstN 4 p)).1 (by simpa using (fun e=>h (Or.inl e))),(rread_len R (firstN 4 p+1)).1 (by simpa using (fun e=>h (Or.inr e)))]
  omega
end
section
variable {B g q:Nat} {qq:RQ} {d:Dk} {w:World} {s:Lg}
theorem rread11_any (h:LrB w q g s) (R:RefB B g qq d w) (i:Int) (h1:1≤i) (h2:i≤1099511627776):Calls Tryz.prog 86 #[.pointer (some ⟨q,0,none⟩),.int .i64 i] w fun e w'=>e=.returned (.tuple #[.agg (recA (recW d s i)),.agg (ffA (ffW d s i))])∧Below w.heap.size w w':=by
 have hpin:=plW_in (i:=i)
 have hplv:(i - 1).tmod 24=plW i:=Int.tmod_eq_emod_of_nonneg (by omega)
 have hrec:recOf (fr1 d s.rep 3 (plW i))=recW d s i:=rfl
 have hc0:cpOf (fr2 d s.rep 4 (2 * plW i))=ffW d s i 0:=by
  rw [show 2 * plW i=2 * plW i+((0:Nat):Int) by omega]
  rfl
 have hc1:cpOf (fr2 d s.rep 4 (2 * plW i+1))=ffW d s i 1:=rfl
 have hfv:ffA (ffW d s i)=ffA (two (ffW d s i 0) (ffW d s i 1)):=rfl
 rw [hfv]
 clear hfv
 generalize recW d s i=rv at *
 generalize ffW d s i 0=c0 at *
 generalize ffW d s i 1=c1 at *
 have hb1:=blw w (Obj.cells #[.int .u8 0,.int .i64 0,.int .i64 0,.int .i64 0,.int .i64 0] 147)
 have hb2:=hb1.trans ((blw (w.alloc (Obj.cells #[.int .u8 0,.int .i64 0,.int .i64 0,.int .i64 0,.int .i64 0] 147)) (Obj.cells #[.int .u8 0,.int .i64 0,.int .i64 0,.int .i64 0,.int .u8 0,.int .i64 0,.int .i64 0,.int .u8 0,.string ⟨#[]⟩,.string ⟨#[]⟩,.string ⟨#[]⟩,.int .u8 0,.int .i64 0,.int .i64 0,.int .i64 0,.int .u8 0,.int .i64 0,.int .i64 0,.int .u8 0,.string ⟨#[]⟩,.string ⟨#[]⟩,.string ⟨#[]⟩] 150)).mono hb1.size)
 go_enter func86,ntmps86
 refine seqH fun K HK=>?_
 go_wp2
 refine HK.out _ _ ?_
 clear HK
 refine seqH fun K HK=>?_
 go_wp2
 refine HK.out _ _ ?_
 clear HK
 refine seqH fun K HK=>?_
 go_wp2
 refine HK.out _ _ ?_
 clear HK
 refine seqH fun K HK=>?_
 go_wp2
 refine HK.out _ _ ?_
 clear HK
 (try rw [hplv])
 have hb3:=hb2.trans ((blw ((w.alloc (Obj.cells #[.int .u8 0,.int .i64 0,.int .i64 0,.int .i64 0,.int .i64 0] 147)).alloc (Obj.cells #[.int .u8 0,.int .i64 0,.int .i64 0,.int .i64 0,.int .u8 0,.int .i64 0,.int .i64 0,.int .u8 0,.string ⟨#[]⟩,.string ⟨#[]⟩,.string ⟨#[]⟩,.int .u8 0,.int .i64 0,.int .i64 0,.int .i64 0,.int .u8 0,.int .i64 0,.int .i64 0,.int .u8 0,.string ⟨#[]⟩,.string ⟨#[]⟩,.string ⟨#[]⟩] 150)) (Obj.cells #[.int .u8 0,.int .i64 0,.int .i64 0,.int .i64 0,.int .i64 0] 147)).mono hb2.size)
 have hb4:=hb3.trans ((blw (((w.alloc (Obj.cells #[.int .u8 0,.int .i64 0,.int .i64 0,.int .i64 0,.int .i64 0] 147)).alloc (Obj.cells #[.int .u8 0,.int .i64 0,.int .i64 0,.int .i64 0,.int .u8 0,.int .i64 0,.int .i64 0,.int .u8 0,.string ⟨#[]⟩,.string ⟨#[]⟩,.string ⟨#[]⟩,.int .u8 0,.int .i64 0,.int .i64 0,.int .i64 0,.int .u8 0,.int .i64 0,.int .i64 0,.int .u8 0,.string ⟨#[]⟩,.string ⟨#[]⟩,.string ⟨#[]⟩] 150)).alloc (Obj.cells #[.int .u8 0,.int .i64 0,.int .i64 0,.int .i64 0,.int .i64 0] 147)) (Obj.cells #[.int .u8 0,.int .i64 0,.int .i64 0,.int .i64 0,.int .u8 0,.int .i64 0,.int .i64 0,.int .u8 0,.string ⟨#[]⟩,.string ⟨#[]⟩,.string ⟨#[]⟩,.int .u8 0,.int .i64 0,.int .i64 0,.int .i64 0,.int .u8 0,.int .i64 0,.int .i64 0,.int .u8 0,.string ⟨#[]⟩,.string ⟨#[]⟩,.string ⟨#[]⟩] 150)).mono hb3.size)
 have e1:(w.alloc (Obj.cells #[.int .u8 0,.int .i64 0,.int .i64 0,.int .i64 0,.int .i64 0] 147)).heap.size=w.heap.size+1:=by simp
 have e2:((w.alloc (Obj.cells #[.int .u8 0,.int .i64 0,.int .i64 0,.int .i64 0,.int .i64 0] 147)).alloc (Obj.cells #[.int .u8 0,.int .i64 0,.int .i64 0,.int .i64 0,.int .u8 0,.int .i64 0,.int .i64 0,.int .u8 0,.string ⟨#[]⟩,.string ⟨#[]⟩,.string ⟨#[]⟩,.int .u8 0,.int .i64 0,.int .i64 0,.int .i64 0,.int .u8 0,.int .i64 0,.int .i64 0,.int .u8 0,.string ⟨#[]⟩,.string ⟨#[]⟩,.string ⟨#[]⟩] 150)).heap.size=w.heap.size+1+1:=by simp
 have e3:(((w.alloc (Obj.cells #[.int .u8 0,.int .i64 0,.int .i64 0,.int .i64 0,.int .i64 0] 147)).alloc (Obj.cells #[.int .u8 0,.int .i64 0,.int .i64 0,.int .i64 0,.int .u8 0,.int .i64 0,.int .i64 0,.int .u8 0,.string ⟨#[]⟩,.string ⟨#[]⟩,.string ⟨#[]⟩,.int .u8 0,.int .i64 0,.int .i64 0,.int .i64 0,.int .u8 0,.int .i64 0,.int .i64 0,.int .u8 0,.string ⟨#[]⟩,.string ⟨#[]⟩,.string ⟨#[]⟩] 150)).alloc (Obj.cells #[.int .u8 0,.int .i64 0,.int .i64 0,.int .i64 0,.int .i64 0] 147)).heap.size=w.heap.size+1+1+1:=by simp
 have A0:((((w.alloc (Obj.cells #[.int .u8 0,.int .i64 0,.int .i64 0,.int .i64 0,.int .i64 0] 147)).alloc (Obj.cells #[.int .u8 0,.int .i64 0,.int .i64 0,.int .i64 0,.int .u8 0,.int .i64 0,.int .i64 0,.int .u8 0,.string ⟨#[]⟩,.string ⟨#[]⟩,.string ⟨#[]⟩,.int .u8 0,.int .i64 0,.int .i64 0,.int .i64 0,.int .u8 0,.int .i64 0,.int .i64 0,.int .u8 0,.string ⟨#[]⟩,.string ⟨#[]⟩,.string ⟨#[]⟩] 150)).alloc (Obj.cells #[.int .u8 0,.int .i64 0,.int .i64 0,.int .i64 0,.int .i64 0] 147)).alloc (Obj.cells #[.int .u8 0,.int .i64 0,.int .i64 0,.int .i64 0,.int .u8 0,.int .i64 0,.int .i64 0,.int .u8 0,.string ⟨#[]⟩,.string ⟨#[]⟩,.string ⟨#[]⟩,.int .u8 0,.int .i64 0,.int .i64 0,.int .i64 0,.int .u8 0,.int .i64 0,.int .i64 0,.int .u8 0,.string ⟨#[]⟩,.string ⟨#[]⟩,.string ⟨#[]⟩] 150)).heap[w.heap.size]?=some (.cells (recA (zRec 0)) 147 (0,0)):=tr_al (Obj.cells #[.int .u8 0,.int .i64 0,.int .i64 0,.int .i64 0,.int .u8 0,.int .i64 0,.int .i64 0,.int .u8 0,.string ⟨#[]⟩,.string ⟨#[]⟩,.string ⟨#[]⟩,.int .u8 0,.int .i64 0,.int .i64 0,.int .i64 0,.int .u8 0,.int .i64 0,.int .i64 0,.int .u8 0,.string ⟨#[]⟩,.string ⟨#[]⟩,.string ⟨#[]⟩] 150) (tr_al (Obj.cells #[.int .u8 0,.int .i64 0,.int .i64 0,.int .i64 0,.int .i64 0] 147) (tr_al (Obj.cells #[.int .u8 0,.int .i64 0,.int .i64 0,.int .i64 0,.int .u8 0,.int .i64 0,.int .i64 0,.int .u8 0,.string ⟨#[]⟩,.string ⟨#[]⟩,.string ⟨#[]⟩,.int .u8 0,.int .i64 0,.int .i64 0,.int .i64 0,.int .u8 0,.int .i64 0,.int .i64 0,.int .u8 0,.string ⟨#[]⟩,.string ⟨#[]⟩,.string ⟨#[]⟩] 150) (heap_alloc_new w (Obj.cells #[.int .u8 0,.int .i64 0,.int .i64 0,.int .i64 0,.int .i64 0] 147))))
 have A1:((((w.alloc (Obj.cells #[.int .u8 0,.int .i64 0,.int .i64 0,.int .i64 0,.int .i64 0] 147)).alloc (Obj.cells #[.int .u8 0,.int .i64 0,.int .i64 0,.int .i64 0,.int .u8 0,.int .i64 0,.int .i64 0,.int .u8 0,.string ⟨#[]⟩,.string ⟨#[]⟩,.string ⟨#[]⟩,.int .u8 0,.int .i64 0,.int .i64 0,.int .i64 0,.int .u8 0,.int .i64 0,.int .i64 0,.int .u8 0,.string ⟨#[]⟩,.string ⟨#[]⟩,.string ⟨#[]⟩] 150)).alloc (Obj.cells #[.int .u8 0,.int .i64 0,.int .i64 0,.int .i64 0,.int .i64 0] 147)).alloc (Obj.cells #[.int .u8 0,.int .i64 0,.int .i64 0,.int .i64 0,.int .u8 0,.int .i64 0,.int .i64 0,.int .u8 0,.string ⟨#[]⟩,.string ⟨#[]⟩,.string ⟨#[]⟩,.int .u8 0,.int .i64 0,.int .i64 0,.int .i64 0,.int .u8 0,.int .i64 0,.int .i64 0,.int .u8 0,.string ⟨#[]⟩,.string ⟨#[]⟩,.string ⟨#[]⟩] 150)).heap[w.heap.size+1]?=some (.cells (ffA (two (zCp 0) (zCp 0))) 150 (0,0)):=tr_al (Obj.cells #[.int .u8 0,.int .i64 0,.int .i64 0,.int .i64 0,.int .u8 0,.int .i64 0,.int .i64 0,.int .u8 0,.string ⟨#[]⟩,.string ⟨#[]⟩,.string ⟨#[]⟩,.int .u8 0,.int .i64 0,.int .i64 0,.int .i64 0,.int .u8 0,.int .i64 0,.int .i64 0,.int .u8 0,.string ⟨#[]⟩,.string ⟨#[]⟩,.string ⟨#[]⟩] 150) (tr_al (Obj.cells #[.int .u8 0,.int .i64 0,.int .i64 0,.int .i64 0,.int .i64 0] 147) (e1 ▸ heap_alloc_new (w.alloc (Obj.cells #[.int .u8 0,.int .i64 0,.int .i64 0,.int .i64 0,.int .i64 0] 147)) (Obj.cells #[.int .u8 0,.int .i64 0,.int .i64 0,.int .i64 0,.int .u8 0,.int .i64 0,.int .i64 0,.int .u8 0,.string ⟨#[]⟩,.string ⟨#[]⟩,.string ⟨#[]⟩,.int .u8 0,.int .i64 0,.int .i64 0,.int .i64 0,.int .u8 0,.int .i64 0,.int .i64 0,.int .u8 0,.string ⟨#[]⟩,.string ⟨#[]⟩,.string ⟨#[]⟩] 150)))
 have A2:((((w.alloc (Obj.cells #[.int .u8 0,.int .i64 0,.int .i64 0,.int .i64 0,.int .i64 0] 147)).alloc (Obj.cells #[.int .u8 0,.int .i64 0,.int .i64 0,.int .i64 0,.int .u8 0,.int .i64 0,.int .i64 0,.int .u8 0,.string ⟨#[]⟩,.string ⟨#[]⟩,.string ⟨#[]⟩,.int .u8 0,.int .i64 0,.int .i64 0,.int .i64 0,.int .u8 0,.int .i64 0,.int .i64 0,.int .u8 0,.string ⟨#[]⟩,.string ⟨#[]⟩,.string ⟨#[]⟩] 150)).alloc (Obj.cells #[.int .u8 0,.int .i64 0,.int .i64 0,.int .i64 0,.int .i64 0] 147)).alloc (Obj.cells #[.int .u8 0,.int .i64 0,.int .i64 0,.int .i64 0,.int .u8 0,.int .i64 0,.int .i64 0,.int .u8 0,.string ⟨#[]⟩,.string ⟨#[]⟩,.string ⟨#[]⟩,.int .u8 0,.int .i64 0,.int .i64 0,.int .i64 0,.int .u8 0,.int .i64 0,.int .i64 0,.int .u8 0,.string ⟨#[]⟩,.string ⟨#[]⟩,.string ⟨#[]⟩] 150)).heap[w.heap.size+2]?=some (.cells (recA (zRec 0)) 147 (0,0)):=tr_al (Obj.cells #[.int .u8 0,.int .i64 0,.int .i64 0,.int .i64 0,.int .u8 0,.int .i64 0,.int .i64 0,.int .u8 0,.string ⟨#[]⟩,.string ⟨#[]⟩,.string ⟨#[]⟩,.int .u8 0,.int .i64 0,.int .i64 0,.int .i64 0,.int .u8 0,.int .i64 0,.int .i64 0,.int .u8 0,.string ⟨#[]⟩,.string ⟨#[]⟩,.string ⟨#[]⟩] 150) (e2 ▸ heap_alloc_new ((w.alloc (Obj.cells #[.int .u8 0,.int .i64 0,.int .i64 0,.int .i64 0,.int .i64 0] 147)).alloc (Obj.cells #[.int .u8 0,.int .i64 0,.int .i64 0,.int .i64 0,.int .u8 0,.int .i64 0,.int .i64 0,.int .u8 0,.string ⟨#[]⟩,.string ⟨#[]⟩,.string ⟨#[]⟩,.int .u8 0,.int .i64 0,.int .i64 0,.int .i64 0,.int .u8 0,.int .i64 0,.int .i64 0,.int .u8 0,.string ⟨#[]⟩,.string ⟨#[]⟩,.string ⟨#[]⟩] 150)) (Obj.cells #[.int .u8 0,.int .i64 0,.int .i64 0,.int .i64 0,.int .i64 0] 147))
 have A3:((((w.alloc (Obj.cells #[.int .u8 0,.int .i64 0,.int .i64 0,.int .i64 0,.int .i64 0] 147)).alloc (Obj.cells #[.int .u8 0,.int .i64 0,.int .i64 0,.int .i64 0,.int .u8 0,.int .i64 0,.int .i64 0,.int .u8 0,.string ⟨#[]⟩,.string ⟨#[]⟩,.string ⟨#[]⟩,.int .u8 0,.int .i64 0,.int .i64 0,.int .i64 0,.int .u8 0,.int .i64 0,.int .i64 0,.int .u8 0,.string ⟨#[]⟩,.string ⟨#[]⟩,.string ⟨#[]⟩] 150)).alloc (Obj.cells #[.int .u8 0,.int .i64 0,.int .i64 0,.int .i64 0,.int .i64 0] 147)).alloc (Obj.cells #[.int .u8 0,.int .i64 0,.int .i64 0,.int .i64 0,.int .u8 0,.int .i64 0,.int .i64 0,.int .u8 0,.string ⟨#[]⟩,.string ⟨#[]⟩,.string ⟨#[]⟩,.int .u8 0,.int .i64 0,.int .i64 0,.int .i64 0,.int .u8 0,.int .i64 0,.int .i64 0,.int .u8 0,.string ⟨#[]⟩,.string ⟨#[]⟩,.string ⟨#[]⟩] 150)).heap[w.heap.size+3]?=some (.cells (ffA (two (zCp 0) (zCp 0))) 150 (0,0)):=e3 ▸ heap_alloc_new (((w.alloc (Obj.cells #[.int .u8 0,.int .i64 0,.int .i64 0,.int .i64 0,.int .i64 0] 147)).alloc (Obj.cells #[.int .u8 0,.int .i64 0,.int .i64 0,.int .i64 0,.int .u8 0,.int .i64 0,.int .i64 0,.int .u8 0,.string ⟨#[]⟩,.string ⟨#[]⟩,.string ⟨#[]⟩,.int .u8 0,.int .i64 0,.int .i64 0,.int .i64 0,.int .u8 0,.int .i64 0,.int .i64 0,.int .u8 0,.string ⟨#[]⟩,.string ⟨#[]⟩,.string ⟨#[]⟩] 150)).alloc (Obj.cells #[.int .u8 0,.int .i64 0,.int .i64 0,.int .i64 0,.int .i64 0] 147)) (Obj.cells #[.int .u8 0,.int .i64 0,.int .i64 0,.int .i64 0,.int .u8 0,.int .i64 0,.int .i64 0,.int .u8 0,.string ⟨#[]⟩,.string ⟨#[]⟩,.string ⟨#[]⟩,.int .u8 0,.int .i64 0,.int .i64 0,.int .i64 0,.int .u8 0,.int .i64 0,.int .i64 0,.int .u8 0,.string ⟨#[]⟩,.string ⟨#[]⟩,.string ⟨#[]⟩] 150)
 have L0:=h.below hb4
 have D0:=R.below hb4
 clear hb1 hb2 hb3 e1 e2 e3 h1 h2
 generalize (((w.alloc (Obj.cells #[.int .u8 0,.int .i64 0,.int .i64 0,.int .i64 0,.int .i64 0] 147)).alloc (Obj.cells #[.int .u8 0,.int .i64 0,.int .i64 0,.int .i64 0,.int .u8 0,.int .i64 0,.int .i64 0,.int .u8 0,.string ⟨#[]⟩,.string ⟨#[]⟩,.string ⟨#[]⟩,.int .u8 0,.int .i64 0,.int .i64 0,.int .i64 0,.int .u8 0,.int .i64 0,.int .i64 0,.int .u8 0,.string ⟨#[]⟩,.string ⟨#[]⟩,.string ⟨#[]⟩] 150)).alloc (Obj.cells #[.int .u8 0,.int .i64 0,.int .i64 0,.int .i64 0,.int .i64 0] 147)).alloc (Obj.cells #[.int .u8 0,.int .i64 0,.int .i64 0,.int .i64 0,.int .u8 0,.int .i64 0,.int .i64 0,.int .u8 0,.string ⟨#[]⟩,.string ⟨#[]⟩,.string ⟨#[]⟩,.int .u8 0,.int .i64 0,.int .i64 0,.int .i64 0,.int .u8 0,.int .i64 0,.int .i64 0,.int .u8 0,.string ⟨#[]⟩,.string ⟨#[]⟩,.string ⟨#[]⟩] 150)=w0 at *
 have hat:=rat1_any L0 D0 (plW i) hpin
 have hfl:=rfr1_len (s:=s) R (plW i)
 obtain ⟨st,tg,body,hr⟩:∃ st tg body,fr1 d s.rep 3 (plW i)=(st,tg,body):=⟨_,_,_,rfl⟩
 rw [hr] at hat hfl hrec
 simp only at hfl
 generalize plW i=p at *
 unfold recOf at hrec
 simp only at hrec
 have HRR:=Lib.hid hrec
 clear hr hrec h R
 refine seqH fun K HK=>?_
 go_wp2_with (first
   | (go_at_call 161;refine hat.mono ?_;rintro e w2 ⟨⟨a3,c3,rfl,hO⟩,hb2⟩)
   | ((first | (with_reducible refine wpList_stNew 39 _ _ ?_) | (with_reducible refine wp_stNew 39 _ _ ?_));refine ⟨_,_,⟨sizeOf39,rfl,tgV_nw _⟩,rfl,?_⟩))
 refine HK.out _ _ ?_
 clear HK
 have hbt:=blw w2 (Obj.cells #[.int .i64 tg.rep,.int .i64 tg.reg,.int .i64 tg.pla,.int .i64 tg.idx,.int .i64 tg.inc] 39)
 have F3:RdF B g q w.heap.size w2.heap.size qq d s (zRec 0) (zCp 0) (zCp 0) tg w (w2.alloc (Obj.cells #[.int .i64 tg.rep,.int .i64 tg.reg,.int .i64 tg.pla,.int .i64 tg.idx,.int .i64 tg.inc] 39)):=by
  have hb:=hb2.trans (hbt.mono hb2.size)
  exact ⟨L0.below hb,D0.below hb,tr_bl hb A0,tr_bl hb A1,tr_bl hb A2,tr_bl hb A3,heap_alloc_new w2 (Obj.cells #[.int .i64 tg.rep,.int .i64 tg.reg,.int .i64 tg.pla,.int .i64 tg.idx,.int .i64 tg.inc] 39),hb4.trans (hb.mono hb4.size),lt_blk (tr_bl hb2 A3)⟩
 have S3:=hO.below hbt
 clear L0 D0 A0 A1 A2 A3 hat hO hb2 hbt hb4
 (try simp only at S3)
 generalize w2.alloc (Obj.cells #[.int .i64 tg.rep,.int .i64 tg.reg,.int .i64 tg.pla,.int .i64 tg.idx,.int .i64 tg.inc] 39)=w3 at *
 generalize w2.heap.size=tb at *
 refine seqH fun K HK=>?_
 go_wp2_with ((with_reducible refine wpList_stB 5 _ _ ?_);refine ⟨_,_,_,⟨_,_,_,sizeOf5,rfl,F3.r1,rec_st0 _ st⟩,?_⟩;intro w4 N4 g4)
 refine HK.out _ _ ?_
 clear HK
 have F4:=F3.str g4 N4
 have S4:=(S3.st g4 F3.r1 (by decide)).slb
 clear F3 S3 N4 g4
 refine wp_seq_k (fun K hK=>?_)
 go_cut [] (fun wx=>∃ t2,RdF B g q w.heap.size tb qq d s rv (zCp 0) (zCp 0) t2 w wx)
 case first=>
  by_cases hst:st=1
  case neg=>
   have e1:((st:Int)==1)=false:=by rw [beq_eq_false_iff_ne];omega
   have hrec:=HRR.out
   rw [if_pos hst] at hrec
   clear HRR hst
   go_wp2
   go_meet
   exact ⟨_,by rw [← hrec];exact F4⟩
  case pos=>
   subst hst
   have hrec:=HRR.out
   rw [if_neg (by simp)] at hrec
   clear HRR
   have hps:=rparse10_any a3 c3 body w4 S4
   rw [RcV_eq] at hps
   cases hp:parseR body with
   | none=>
    rw [hp] at hrec hps
    simp only [NxR] at hrec hps
    clear hp
    go_wp2_with (first
     | (go_at_call 162;refine hps.mono ?_;rintro e w5 ⟨rfl,hb6⟩)
     | ((first | (with_reducible refine wpList_stNew 69 _ _ ?_) | (with_reducible refine wp_stNew 69 _ _ ?_));refine ⟨_,_,⟨sizeOf69,rfl,bl_new _⟩,rfl,?_⟩;have F5:=(F4.below hb6).below (blw w5 (Obj.cells #[.int .i64 0,.int .i64 0] 69)))
     | ((with_reducible refine wpList_stB 5 _ _ ?_);refine ⟨_,_,_,⟨_,_,_,sizeOf5,rfl,F5.r1,rec_st0 _ 2⟩,?_⟩;intro w8 N8 g8))
    go_meet
    exact ⟨_,by rw [← hrec];exact F5.str g8 N8⟩
   | some x=>
    obtain ⟨b,k'⟩:=x
    rw [hp] at hrec hps
    simp only [NxR] at hrec hps
    clear hp
    go_wp2_with (first
     | (go_at_call 162;refine hps.mono ?_;rintro e w5 ⟨rfl,hb6⟩)
     | ((first | (with_reducible refine wpList_stNew 69 _ _ ?_) | (with_reducible refine wp_stNew 69 _ _ ?_));refine ⟨_,_,⟨sizeOf69,rfl,bl_new _⟩,rfl,?_⟩;have F5:=(F4.below hb6).below (blw w5 (Obj.cells (blA b) 69));have C5:=heap_alloc_new w5 (Obj.cells (blA b) 69);have t3:=F5.t3)
     | ((with_reducible refine wpList_ldB 69 _ ?_);refine ⟨rfl,_,⟨_,_,_,_,_,isAgg69,sizeOf69,rfl,‹_›,arr_all rfl⟩,?_⟩)
     | (with_reducible refine wpList_brec 1 tg.idx b (k':Int) _ _ _ _ (by simp [Act.eval]) (by simp [Act.eval]) (by simp [Act.eval]) (by simp [Act.eval]) ?_)
     | ((with_reducible refine wpList_stB 147 _ _ ?_);refine ⟨_,_,_,⟨_,_,_,sizeOf147,rfl,F5.r1,rec_over _ ⟨1,tg.idx,b,(k':Int)⟩⟩,?_⟩;intro w8 N8 g8))
    go_meet
    exact ⟨_,by rw [← hrec];exact F5.str g8 N8⟩
 clear HRR F4 S4
 (try refine hK _ _ ?_)
 (try clear hK)
 obtain ⟨tq,F6⟩:=hcut
 refine seqH fun K HK=>?_
 go_wp2_with fail
 go_loopw [15] (fun i wr=>∃ (j:Nat) (x y:SCp) (tq:Tg),j≤2∧i=.int .i64 (j:Nat)∧((j=0∧x=zCp 0∧y=zCp 0)∨(j=1∧x=c0∧y=zCp 0)∨(j=2∧x=c0∧y=c1))∧RdF B g q w.heap.size tb qq d s rv x y tq w wr) (fun i _=>2 - (intOf i).toNat)
 case atStart=>exact ⟨0,_,_,_,by omega,rfl,.inl ⟨rfl,rfl,rfl⟩,F6⟩
 case round=>
  clear F6
  obtain ⟨j,x,y,tq,hj,rfl,hst,F⟩:=hrel
  rcases hst with ⟨rfl,rfl,rfl⟩ | ⟨rfl,rfl,rfl⟩ | ⟨rfl,rfl,rfl⟩
  ·skip
   have hfl:=rfr2_len (s:=s) F.dk (2 * p)
   have hat:=rat2_any F.lg F.dk (2 * p) (by omega)
   obtain ⟨st,t2,body,hr⟩:∃ st tg body,fr2 d s.rep 4 (2 * p)=(st,tg,body):=⟨_,_,_,rfl⟩
   rw [hr] at hfl hat
   simp only at hfl
   have hcp:cpOf (st,t2,body)=c0:=by rw [← hr];exact hc0
   clear hr
   unfold cpOf at hcp
   simp only at hcp
   have HCP:=Lib.hid hcp
   clear hcp
   refine seqH fun K HK=>?_
   go_wp2
   refine HK.out _ _ ?_
   clear HK
   refine seqH fun K HK2=>?_
   refine wp_block ?_
   refine seqH fun K HK=>?_
   go_wp2_with (first
    | (go_at_call 161;refine hat.mono ?_;rintro e w2 ⟨⟨a3,c3,rfl,hO⟩,hb2⟩;have F2:=F.below hb2)
    | ((with_reducible refine wpList_stB 39 _ _ ?_);refine ⟨_,_,_,⟨_,_,_,sizeOf39,rfl,F2.tg,tg_over _ _⟩,?_⟩;intro w3 T3 g3))
   refine HK.out _ _ ?_
   clear HK
   have F3:=F2.stt g3 T3
   have S3:=hO.st g3 F2.tg (by decide)
   clear F F2 hat hO hb2 T3 g3
   (try simp only at S3)
   refine seqH fun K HK=>?_
   go_wp2_with ((with_reducible refine wpList_stB 5 _ _ ?_);refine ⟨_,_,_,⟨_,_,_,sizeOf5,rfl,F3.f1,ff_st0 _ _ st⟩,?_⟩;intro w4 N4 g4)
   refine HK.out _ _ ?_
   clear HK
   have F4:=F3.stf g4 N4
   have S4:=(S3.st g4 F3.f1 (by decide)).slb
   clear F3 S3 N4 g4
   by_cases hst:st=1
   case neg=>
    have e1:((st:Int)==1)=false:=by rw [beq_eq_false_iff_ne];omega
    have hcp:=HCP.out
    rw [if_pos hst] at hcp
    clear HCP hst
    have FE:RdF B g q w.heap.size tb qq d s rv c0 (zCp 0) t2 w w4:=by rw [← hcp];exact F4
    go_wp2
    (try simp only [Exit.inBlock,Exit.then])
    refine HK2.out _ _ ?_
    clear HK2
    go_wp2
    go_roundw
    case rel=>exact ⟨0+1,_,_,_,by omega,by rfl,.inr (.inl ⟨rfl,rfl,rfl⟩),FE⟩
    case measure=>simp [intOf]
   case pos=>
    subst hst
    have hcp:=HCP.out
    rw [if_neg (by simp)] at hcp
    clear HCP
    have hps:=rparse09_any a3 c3 body w4 S4 (by omega)
    rw [PsV_eq] at hps
    cases hp:parseE body with
    | none=>
     rw [hp] at hcp hps
     simp only [NxE] at hcp hps
     clear hp
     go_wp2_with (first
      | (go_at_call 163;refine hps.mono ?_;rintro e w5 ⟨rfl,hb6⟩;have X40:((w5.alloc (Obj.cells #[.int .i64 0,.int .i64 0] 69)).alloc (Obj.cells #[.int .u8 0,.int .i64 0,.int .i64 0,.int .u8 0,.string ⟨#[]⟩,.string ⟨#[]⟩,.string ⟨#[]⟩] 73)).heap[w5.heap.size]?=some (.cells (blA ⟨0,0⟩) 69 (0,0)):=tr_al (Obj.cells #[.int .u8 0,.int .i64 0,.int .i64 0,.int .u8 0,.string ⟨#[]⟩,.string ⟨#[]⟩,.string ⟨#[]⟩] 73) (heap_alloc_new w5 (Obj.cells #[.int .i64 0,.int .i64 0] 69));have Y40:=new_two w5 (Obj.cells #[.int .i64 0,.int .i64 0] 69) (Obj.cells #[.int .u8 0,.int .i64 0,.int .i64 0,.int .u8 0,.string ⟨#[]⟩,.string ⟨#[]⟩,.string ⟨#[]⟩] 73);have F5:=((F4.below hb6).below (blw w5 (Obj.cells #[.int .i64 0,.int .i64 0] 69))).below (blw (w5.alloc (Obj.cells #[.int .i64 0,.int .i64 0] 69)) (Obj.cells #[.int .u8 0,.int .i64 0,.int .i64 0,.int .u8 0,.string ⟨#[]⟩,.string ⟨#[]⟩,.string ⟨#[]⟩] 73));have htb:=lt_blk (F4.below hb6).tg)
      | ((with_reducible refine wpList_stB 69 _ _ ?_);refine ⟨_,_,_,⟨_,_,_,sizeOf69,rfl,X40,bl_over ⟨0,0⟩ zeroL⟩,?_⟩;intro w51 X41 g41;have Y41:=tr_st g41 Y40 (by omega);have F6:=F5.st9 g41 X40 (.inl rfl) htb)
      | ((with_reducible refine wpList_stB 73 _ _ ?_);refine ⟨_,_,_,⟨_,_,_,sizeOf73,rfl,Y41,en_over (zeroE 0) (zeroE 0)⟩,?_⟩;intro w52 Y42 g42;have X42:=tr_st g42 X41 (by omega);have F7:=F6.st9 g42 Y41 (.inr rfl) (Nat.lt_succ_of_lt htb);have t3:=F7.t3)
      | ((with_reducible refine wpList_stB 5 _ _ ?_);refine ⟨_,_,_,⟨_,_,_,sizeOf5,rfl,F7.f1,ff_st0 _ _ 2⟩,?_⟩;intro w8 N8 g8))
     have FE:RdF B g q w.heap.size tb qq d s rv c0 (zCp 0) t2 w w8:=by rw [← hcp];exact F7.stf g8 N8
     (try simp only [Exit.inBlock,Exit.then])
     refine HK2.out _ _ ?_
     clear HK2
     go_wp2
     go_roundw
     case rel=>exact ⟨0+1,_,_,_,by omega,by rfl,.inr (.inl ⟨rfl,rfl,rfl⟩),FE⟩
     case measure=>simp [intOf]
    | some x=>
     obtain ⟨b',e'⟩:=x
     rw [hp] at hcp hps
     simp only [NxE] at hcp hps
     have HC2:=Lib.hid hcp
     clear hp hcp
     go_wp2_with (first
      | (go_at_call 163;refine hps.mono ?_;rintro e w5 ⟨rfl,hb6⟩;have X40:((w5.alloc (Obj.cells #[.int .i64 0,.int .i64 0] 69)).alloc (Obj.cells #[.int .u8 0,.int .i64 0,.int .i64 0,.int .u8 0,.string ⟨#[]⟩,.string ⟨#[]⟩,.string ⟨#[]⟩] 73)).heap[w5.heap.size]?=some (.cells (blA ⟨0,0⟩) 69 (0,0)):=tr_al (Obj.cells #[.int .u8 0,.int .i64 0,.int .i64 0,.int .u8 0,.string ⟨#[]⟩,.string ⟨#[]⟩,.string ⟨#[]⟩] 73) (heap_alloc_new w5 (Obj.cells #[.int .i64 0,.int .i64 0] 69));have Y40:=new_two w5 (Obj.cells #[.int .i64 0,.int .i64 0] 69) (Obj.cells #[.int .u8 0,.int .i64 0,.int .i64 0,.int .u8 0,.string ⟨#[]⟩,.string ⟨#[]⟩,.string ⟨#[]⟩] 73);have F5:=((F4.below hb6).below (blw w5 (Obj.cells #[.int .i64 0,.int .i64 0] 69))).below (blw (w5.alloc (Obj.cells #[.int .i64 0,.int .i64 0] 69)) (Obj.cells #[.int .u8 0,.int .i64 0,.int .i64 0,.int .u8 0,.string ⟨#[]⟩,.string ⟨#[]⟩,.string ⟨#[]⟩] 73));have htb:=lt_blk (F4.below hb6).tg)
      | ((with_reducible refine wpList_stB 69 _ _ ?_);refine ⟨_,_,_,⟨_,_,_,sizeOf69,rfl,X40,bl_over ⟨0,0⟩ b'⟩,?_⟩;intro w51 X41 g41;have Y41:=tr_st g41 Y40 (by omega);have F6:=F5.st9 g41 X40 (.inl rfl) htb)
      | ((with_reducible refine wpList_stB 73 _ _ ?_);refine ⟨_,_,_,⟨_,_,_,sizeOf73,rfl,Y41,en_over (zeroE 0) e'⟩,?_⟩;intro w52 Y42 g42;have X42:=tr_st g42 X41 (by omega);have F7:=F6.st9 g42 Y41 (.inr rfl) (Nat.lt_succ_of_lt htb);have t3:=F7.t3)
      | ((with_reducible refine wpList_ldB 69 _ ?_);refine ⟨rfl,_,⟨_,_,_,_,_,isAgg69,sizeOf69,rfl,‹_›,arr_all rfl⟩,?_⟩)
      | ((with_reducible refine wpList_ldB 73 _ ?_);refine ⟨rfl,_,⟨_,_,_,_,_,isAgg73,sizeOf73,rfl,‹_›,arr_all rfl⟩,?_⟩)
      | (with_reducible refine wpList_bcpy 1 t2.idx b' e' _ _ _ _ (by simp [Act.eval,Act.put]) (by simp [Act.eval,Act.put]) (by simp [Act.eval,Act.put]) (by simp [Act.eval,Act.put]) ?_)
      | ((with_reducible refine wpList_stB 149 _ _ ?_);refine ⟨_,_,_,⟨_,_,_,sizeOf149,rfl,F7.f1,ff_cp0 _ _ ⟨1,t2.idx,b',e'⟩⟩,?_⟩;intro w8 N8 g8))
     have FE:RdF B g q w.heap.size tb qq d s rv c0 (zCp 0) t2 w w8:=by rw [← HC2.out];exact F7.stf g8 N8
     (try simp only [Exit.inBlock,Exit.then])
     refine HK2.out _ _ ?_
     clear HK2
     go_wp2
     go_roundw
     case rel=>exact ⟨0+1,_,_,_,by omega,by rfl,.inr (.inl ⟨rfl,rfl,rfl⟩),FE⟩
     case measure=>simp [intOf]
  ·skip
   have hfl:=rfr2_len (s:=s) F.dk (2 * p+1)
   have hat:=rat2_any F.lg F.dk (2 * p+1) (by omega)
   obtain ⟨st,t2,body,hr⟩:∃ st tg body,fr2 d s.rep 4 (2 * p+1)=(st,tg,body):=⟨_,_,_,rfl⟩
   rw [hr] at hfl hat
   simp only at hfl
   have hcp:cpOf (st,t2,body)=c1:=by rw [← hr];exact hc1
   clear hr
   unfold cpOf at hcp
   simp only at hcp
   have HCP:=Lib.hid hcp
   clear hcp
   refine seqH fun K HK=>?_
   go_wp2
   refine HK.out _ _ ?_
   clear HK
   refine seqH fun K HK2=>?_
   refine wp_block ?_
   refine seqH fun K HK=>?_
   go_wp2_with (first
    | (go_at_call 161;refine hat.mono ?_;rintro e w2 ⟨⟨a3,c3,rfl,hO⟩,hb2⟩;have F2:=F.below hb2)
    | ((with_reducible refine wpList_stB 39 _ _ ?_);refine ⟨_,_,_,⟨_,_,_,sizeOf39,rfl,F2.tg,tg_over _ _⟩,?_⟩;intro w3 T3 g3))
   refine HK.out _ _ ?_
   clear HK
   have F3:=F2.stt g3 T3
   have S3:=hO.st g3 F2.tg (by decide)
   clear F F2 hat hO hb2 T3 g3
   (try simp only at S3)
   refine seqH fun K HK=>?_
   go_wp2_with ((with_reducible refine wpList_stB 5 _ _ ?_);refine ⟨_,_,_,⟨_,_,_,sizeOf5,rfl,F3.f1,ff_st1 _ _ st⟩,?_⟩;intro w4 N4 g4)
   refine HK.out _ _ ?_
   clear HK
   have F4:=F3.stf g4 N4
   have S4:=(S3.st g4 F3.f1 (by decide)).slb
   clear F3 S3 N4 g4
   by_cases hst:st=1
   case neg=>
    have e1:((st:Int)==1)=false:=by rw [beq_eq_false_iff_ne];omega
    have hcp:=HCP.out
    rw [if_pos hst] at hcp
    clear HCP hst
    have FE:RdF B g q w.heap.size tb qq d s rv x c1 t2 w w4:=by rw [← hcp];exact F4
    go_wp2
    (try simp only [Exit.inBlock,Exit.then])
    refine HK2.out _ _ ?_
    clear HK2
    go_wp2
    go_roundw
    case rel=>exact ⟨1+1,_,_,_,by omega,by rfl,.inr (.inr ⟨rfl,rfl,rfl⟩),FE⟩
    case measure=>simp [intOf]
   case pos=>
    subst hst
    have hcp:=HCP.out
    rw [if_neg (by simp)] at hcp
    clear HCP
    have hps:=rparse09_any a3 c3 body w4 S4 (by omega)
    rw [PsV_eq] at hps
    cases hp:parseE body with
    | none=>
     rw [hp] at hcp hps
     simp only [NxE] at hcp hps
     clear hp
     go_wp2_with (first
      | (go_at_call 163;refine hps.mono ?_;rintro e w5 ⟨rfl,hb6⟩;have X40:((w5.alloc (Obj.cells #[.int .i64 0,.int .i64 0] 69)).alloc (Obj.cells #[.int .u8 0,.int .i64 0,.int .i64 0,.int .u8 0,.string ⟨#[]⟩,.string ⟨#[]⟩,.string ⟨#[]⟩] 73)).heap[w5.heap.size]?=some (.cells (blA ⟨0,0⟩) 69 (0,0)):=tr_al (Obj.cells #[.int .u8 0,.int .i64 0,.int .i64 0,.int .u8 0,.string ⟨#[]⟩,.string ⟨#[]⟩,.string ⟨#[]⟩] 73) (heap_alloc_new w5 (Obj.cells #[.int .i64 0,.int .i64 0] 69));have Y40:=new_two w5 (Obj.cells #[.int .i64 0,.int .i64 0] 69) (Obj.cells #[.int .u8 0,.int .i64 0,.int .i64 0,.int .u8 0,.string ⟨#[]⟩,.string ⟨#[]⟩,.string ⟨#[]⟩] 73);have F5:=((F4.below hb6).below (blw w5 (Obj.cells #[.int .i64 0,.int .i64 0] 69))).below (blw (w5.alloc (Obj.cells #[.int .i64 0,.int .i64 0] 69)) (Obj.cells #[.int .u8 0,.int .i64 0,.int .i64 0,.int .u8 0,.string ⟨#[]⟩,.string ⟨#[]⟩,.string ⟨#[]⟩] 73));have htb:=lt_blk (F4.below hb6).tg)
      | ((with_reducible refine wpList_stB 69 _ _ ?_);refine ⟨_,_,_,⟨_,_,_,sizeOf69,rfl,X40,bl_over ⟨0,0⟩ zeroL⟩,?_⟩;intro w51 X41 g41;have Y41:=tr_st g41 Y40 (by omega);have F6:=F5.st9 g41 X40 (.inl rfl) htb)
      | ((with_reducible refine wpList_stB 73 _ _ ?_);refine ⟨_,_,_,⟨_,_,_,sizeOf73,rfl,Y41,en_over (zeroE 0) (zeroE 0)⟩,?_⟩;intro w52 Y42 g42;have X42:=tr_st g42 X41 (by omega);have F7:=F6.st9 g42 Y41 (.inr rfl) (Nat.lt_succ_of_lt htb);have t3:=F7.t3)
      | ((with_reducible refine wpList_stB 5 _ _ ?_);refine ⟨_,_,_,⟨_,_,_,sizeOf5,rfl,F7.f1,ff_st1 _ _ 2⟩,?_⟩;intro w8 N8 g8))
     have FE:RdF B g q w.heap.size tb qq d s rv x c1 t2 w w8:=by rw [← hcp];exact F7.stf g8 N8
     (try simp only [Exit.inBlock,Exit.then])
     refine HK2.out _ _ ?_
     clear HK2
     go_wp2
     go_roundw
     case rel=>exact ⟨1+1,_,_,_,by omega,by rfl,.inr (.inr ⟨rfl,rfl,rfl⟩),FE⟩
     case measure=>simp [intOf]
    | some x=>
     obtain ⟨b',e'⟩:=x
     rw [hp] at hcp hps
     simp only [NxE] at hcp hps
     have HC2:=Lib.hid hcp
     clear hp hcp
     go_wp2_with (first
      | (go_at_call 163;refine hps.mono ?_;rintro e w5 ⟨rfl,hb6⟩;have X40:((w5.alloc (Obj.cells #[.int .i64 0,.int .i64 0] 69)).alloc (Obj.cells #[.int .u8 0,.int .i64 0,.int .i64 0,.int .u8 0,.string ⟨#[]⟩,.string ⟨#[]⟩,.string ⟨#[]⟩] 73)).heap[w5.heap.size]?=some (.cells (blA ⟨0,0⟩) 69 (0,0)):=tr_al (Obj.cells #[.int .u8 0,.int .i64 0,.int .i64 0,.int .u8 0,.string ⟨#[]⟩,.string ⟨#[]⟩,.string ⟨#[]⟩] 73) (heap_alloc_new w5 (Obj.cells #[.int .i64 0,.int .i64 0] 69));have Y40:=new_two w5 (Obj.cells #[.int .i64 0,.int .i64 0] 69) (Obj.cells #[.int .u8 0,.int .i64 0,.int .i64 0,.int .u8 0,.string ⟨#[]⟩,.string ⟨#[]⟩,.string ⟨#[]⟩] 73);have F5:=((F4.below hb6).below (blw w5 (Obj.cells #[.int .i64 0,.int .i64 0] 69))).below (blw (w5.alloc (Obj.cells #[.int .i64 0,.int .i64 0] 69)) (Obj.cells #[.int .u8 0,.int .i64 0,.int .i64 0,.int .u8 0,.string ⟨#[]⟩,.string ⟨#[]⟩,.string ⟨#[]⟩] 73));have htb:=lt_blk (F4.below hb6).tg)
      | ((with_reducible refine wpList_stB 69 _ _ ?_);refine ⟨_,_,_,⟨_,_,_,sizeOf69,rfl,X40,bl_over ⟨0,0⟩ b'⟩,?_⟩;intro w51 X41 g41;have Y41:=tr_st g41 Y40 (by omega);have F6:=F5.st9 g41 X40 (.inl rfl) htb)
      | ((with_reducible refine wpList_stB 73 _ _ ?_);refine ⟨_,_,_,⟨_,_,_,sizeOf73,rfl,Y41,en_over (zeroE 0) e'⟩,?_⟩;intro w52 Y42 g42;have X42:=tr_st g42 X41 (by omega);have F7:=F6.st9 g42 Y41 (.inr rfl) (Nat.lt_succ_of_lt htb);have t3:=F7.t3)
      | ((with_reducible refine wpList_ldB 69 _ ?_);refine ⟨rfl,_,⟨_,_,_,_,_,isAgg69,sizeOf69,rfl,‹_›,arr_all rfl⟩,?_⟩)
      | ((with_reducible refine wpList_ldB 73 _ ?_);refine ⟨rfl,_,⟨_,_,_,_,_,isAgg73,sizeOf73,rfl,‹_›,arr_all rfl⟩,?_⟩)
      | (with_reducible refine wpList_bcpy 1 t2.idx b' e' _ _ _ _ (by simp [Act.eval,Act.put]) (by simp [Act.eval,Act.put]) (by simp [Act.eval,Act.put]) (by simp [Act.eval,Act.put]) ?_)
      | ((with_reducible refine wpList_stB 149 _ _ ?_);refine ⟨_,_,_,⟨_,_,_,sizeOf149,rfl,F7.f1,ff_cp1 _ _ ⟨1,t2.idx,b',e'⟩⟩,?_⟩;intro w8 N8 g8))
     have FE:RdF B g q w.heap.size tb qq d s rv x c1 t2 w w8:=by rw [← HC2.out];exact F7.stf g8 N8
     (try simp only [Exit.inBlock,Exit.then])
     refine HK2.out _ _ ?_
     clear HK2
     go_wp2
     go_roundw
     case rel=>exact ⟨1+1,_,_,_,by omega,by rfl,.inr (.inr ⟨rfl,rfl,rfl⟩),FE⟩
     case measure=>simp [intOf]
  ·go_wp2
   refine HK.out _ _ ?_
   clear HK
   refine seqH fun K HK=>?_
   go_wp2_with fail
   have hbd:=(Below.refl wr.heap.size wr).drew
   have F1:=F.below hbd
   refine wp_region_held_drew (S:=fun w'=>w'.heap[w.heap.size+2]?=some (.cells (recA rv) 147 (0,0))∧w'.heap[w.heap.size+3]?=some (.cells (ffA (two x y)) 150 (0,0))) (by kernel_rfl) ⟨F1.r1,F1.f1⟩ (fun hS0=>?_)
   clear hbd F
   generalize wr.drew=x0 at *
   refine tkT 0 (v:=.agg (recA rv)) rfl (by intro wS hSw;exact exec_ldB 147 _ ⟨_,_,_,_,_,isAgg147,sizeOf147,rfl,hSw.1,arr_all rfl⟩) ?_
   refine tkT 1 (v:=.agg (ffA (two x y))) rfl (by intro wS hSw;exact exec_ldB 150 _ ⟨_,_,_,_,_,isAgg150,sizeOf150,rfl,hSw.2,arr_all rfl⟩) ?_
   refine rdy1 2 rfl (fun K' hK'=>?_)
   refine wp_stB 147 _ _ ?_
   refine ⟨_,_,_,⟨_,_,_,sizeOf147,rfl,F1.r0,rec_over _ rv⟩,?_⟩
   intro w11 N11 g11
   have M11:=tr_st g11 F1.f0 (by omega)
   have hb11:=bl_st F1.bl g11 (by have:=lt_blk F1.r0;omega) (Nat.le_refl _)
   have hS1:=And.intro (tr_st g11 hS0.1 (by omega)) (tr_st g11 hS0.2 (by omega))
   refine hK'.out _ _ hS1 (fun _=>?_)
   clear hK' hS0
   (try simp only [Act.put,qa1,qa2,qa3])
   refine rdy1 3 rfl (fun K' hK'=>?_)
   refine wp_stB 150 _ _ ?_
   refine ⟨_,_,_,⟨_,_,_,sizeOf150,rfl,M11,ff_over _ (two x y)⟩,?_⟩
   intro w12 M12 g12
   have N12:=tr_st g12 N11 (by omega)
   have hb12:=bl_st hb11 g12 (by have:=lt_blk M11;omega) (by omega)
   refine hK'.out _ _ ⟨tr_st g12 hS1.1 (by omega),tr_st g12 hS1.2 (by omega)⟩ (fun _=>?_)
   clear hK'
   (try simp only [Act.put,qa1,qa2,qa3])
   refine wpAnyH_done (by kernel_rfl) ?_ _
   refine HK.out _ _ ?_
   clear HK
   go_wp2
   refine bodyPost_ret (results_c2 rfl rfl (run_loadVar_all isAgg147 sizeOf147 N12 rfl) rfl (run_loadVar_all isAgg150 sizeOf150 M12 rfl)) rfl ⟨rfl,hb12⟩
end
end
section
theorem ws_1 (d:Dk) (f:Int) (fr:List UInt8):wsD d f fr 1=writeD d f (pcD fr 0):=by
 show (if (0:Int)≠0 then (d,(0:Int)) else writeD d (f+((0:Nat):Int)) (pcD fr 0))=_
 rw [if_neg (by simp),show f+((0:Nat):Int)=f by omega]
theorem ws_2 (d:Dk) (f:Int) (fr:List UInt8):wsD d f fr 2=if (writeD d f (pcD fr 0)).2≠0 then writeD d f (pcD fr 0) else writeD (writeD d f (pcD fr 0)).1 (f+1) (pcD fr 1):=by
 have h:wsD d f fr 2=if (wsD d f fr 1).2≠0 then wsD d f fr 1 else writeD (wsD d f fr 1).1 (f+((1:Nat):Int)) (pcD fr 1):=rfl
 rw [h,ws_1]
 rfl
section
variable {B g q:Nat} {qq:RQ} {d:Dk} {w:World} {s:Lg}
theorem rwrite1_any (L:LrB w q g s) (R:RefB B g qq d w) (hb:B≤w.heap.size) {pla f:Int} (hff:firstN 3 pla=f) (hf0:0≤f) (hf1:f < 200) (i:Int) (a:Option Addr) (cap:Nat) (body:List UInt8) (S:SlB w a cap body) (hmay:mayTg ⟨s.rep,3,pla,i,s.inc⟩=true) (hbl:body.length≤43) (hw:d.waits.length≤1000) :
  Calls Tryz.prog 88 #[.pointer (some ⟨q,0,none⟩),.int .i64 3,.int .i64 pla,.int .i64 i,.slice a body.length cap] w fun e w'=>e=.returned (.int .i64 (lputD d f (sealF ⟨s.rep,3,pla,i,s.inc⟩ body 64) 1).2)∧RDoes B g rT w (lputD d f (sealF ⟨s.rep,3,pla,i,s.inc⟩ body 64) 1).1 w':=by
 have hse:=fun (w':World) (h':SlB w' a cap body)=>rseal_any ⟨s.rep,3,pla,i,s.inc⟩ a cap body 1 w' h' (by omega) (by decide)
 have hsr:sealR ⟨s.rep,3,pla,i,s.inc⟩ body 1=sealF ⟨s.rep,3,pla,i,s.inc⟩ body 64:=by
  unfold sealR
  rw [if_pos ⟨hmay,by decide,(by show body.length≤43;exact hbl)⟩]
 simp only [hsr] at hse
 have hfl:(sealF ⟨s.rep,3,pla,i,s.inc⟩ body 64).length=64:=sealF_len (by decide) (by simpa [roomN] using hbl)
 obtain ⟨fr,hfr⟩:∃ fr,sealF ⟨s.rep,3,pla,i,s.inc⟩ body 64=fr:=⟨_,rfl⟩
 simp only [hfr] at hse hfl ⊢
 rw [hfl] at hse
 obtain ⟨r,hr⟩:∃ r,lputD d f fr 1=r:=⟨_,rfl⟩
 rw [hr]
 unfold lputD at hr
 rw [ws_1] at hr
 have hp0:(pcD fr 0).length=64:=pcD_len (by omega)
 have HWX:=fun (G c2:Nat) w' qq (D:RefB B g qq d w') hB O=>rwrite_any D hB f (some ⟨G,0,none⟩) c2 (pcD fr 0) O (by omega)
 obtain ⟨d1,e1,hd1⟩:∃ d1 e1,writeD d f (pcD fr 0)=(d1,e1):=⟨_,_,rfl⟩
 rw [hd1] at hr
 simp only [hd1,hp0] at HWX
 simp only at hr
 have HR:=Lib.hid hr
 have HFL:=Lib.hid hfl
 have HP0:=Lib.hid hp0
 have HF:=Lib.hid hff
 clear hr hfl hp0 hd1 hff hsr hfr hmay
 go_enter func88,ntmps88
 refine seqH fun K HK=>?_
 go_wp2
 refine HK.out _ _ ?_
 clear HK
 refine seqH fun K HK=>?_
 go_wp2_with fail
 have hbd:=(Below.refl w.heap.size w).drew
 have D3:=R.below hbd
 have L3:=L.below hbd
 have S3:=S.below hbd
 have hb4:=hbd
 refine wp_region_held_drew (S:=fun w'=>LrB w' q g s) (by kernel_rfl) L3 (fun hS0=>?_)
 clear R L S
 generalize w.drew=x0 at *
 refine tkP 0 rfl ?_
 refine tkP 1 rfl ?_
 refine tkP 2 rfl ?_
 refine tkT 3 rfl (by intro wS hSw;have c:=hSw.c1;go_simp;(try with_reducible rfl)) ?_
 refine tkP 4 rfl ?_
 refine tkP 5 rfl ?_
 refine tkP 6 rfl ?_
 refine tkP 7 rfl ?_
 refine tkP 8 rfl ?_
 refine tkP 9 rfl ?_
 refine tkT 10 rfl (by intro wS hSw;have c:=hSw.c2;go_simp;(try with_reducible rfl)) ?_
 refine tkP 11 rfl ?_
 refine tkP 12 rfl ?_
 refine tkP 13 rfl ?_
 refine rdy1 14 rfl (fun K' hK'=>?_)
 go_simp
 refine (rwide_any 3 _).mono ?_
 rintro e w5 ⟨rfl,rfl⟩
 rw [show wideN 3=1 from rfl]
 refine hK'.out _ _ hS0 (fun _=>?_)
 clear hK'
 (try simp only [Act.put,qa1,qa2,qa3])
 refine rdy1 15 rfl (fun K' hK'=>?_)
 go_simp
 have hse5:=hse _ S3
 refine hse5.mono ?_
 rintro e w6 ⟨⟨v6,rfl,o6⟩,hb7⟩
 obtain ⟨G,c2,rfl,hG⟩:=owns_some o6 (by decide)
 have O6:w6.ownsRow w.heap.size 5 1 (.slice (some ⟨G,0,none⟩) 64 c2) 64 (bys fr):=owns_mono o6 hb4.size
 have D6:=D3.below hb7
 have L6:=L3.below hb7
 have hb8:=hb4.trans (hb7.mono hb4.size)
 have k6:=Kx.of (X:=rT) hb8 hb
 refine hK'.out _ _ L6 (fun _=>?_)
 clear hK' hS0 hbd D3 L3 S3 hb4 hb7 hse hse5 o6
 (try simp only [Act.put,qa1,qa2,qa3])
 refine tkP 16 rfl ?_
 refine tkP 17 rfl ?_
 refine tkP 18 rfl ?_
 refine tkP 19 rfl ?_
 refine tkP 20 rfl ?_
 refine wpAnyH_done (by kernel_rfl) ?_ _
 refine HK.out _ _ ?_
 clear HK
 have hcc:64≤c2:=by
  obtain ⟨_,_,e,hh⟩:=SlB.of_owns (l:=fr) (by rw [HFL.out];exact O6)
  injection e with _ _ e3
  subst e3
  have:=hh.le
  have:=HFL.out
  omega
 have HSL:∀ w',w'.ownsRow w.heap.size 5 1 (.slice (some ⟨G,0,none⟩) 64 c2) 64 (bys fr)→SlB w' (some ⟨G,0,none⟩) c2 fr:=fun w' ho=>by
  obtain ⟨_,_,e,hh⟩:=SlB.of_owns (l:=fr) (by rw [HFL.out];exact ho)
  injection e with e1 _ e3
  subst e1
  subst e3
  exact hh
 have HW0:=HWX G c2
 clear HWX
 refine seqH fun K HK=>?_
 go_wp2_with fail
 go_loopw [13] (fun i wr=>∃ j:Nat,j≤1∧i=.int .i64 (j:Nat)∧((j=0∧RefB B g qq d wr)∨(j=1∧e1=0∧∃ q',RefB B g q' d1 wr))∧LrB wr q g s∧wr.ownsRow w.heap.size 5 1 (.slice (some ⟨G,0,none⟩) 64 c2) 64 (bys fr)∧Kx rT B w wr) (fun i _=>1 - (intOf i).toNat)
 case atStart=>exact ⟨0,by omega,rfl,.inl ⟨rfl,D6⟩,L6,O6,k6⟩
 case round=>
  clear D6 L6 O6 k6
  obtain ⟨j,hj,rfl,hst,L7,O7,k7⟩:=hrel
  rcases hst with ⟨rfl,D7⟩ | ⟨rfl,rfl,q7,D7⟩
  ·have h1:(64:Int)≤c2:=by omega
   skip
   have hB7:=Nat.le_trans hb k7.bl.size
   refine seqH fun K HK=>?_
   go_wp2
   refine HK.out _ _ ?_
   clear HK
   refine seqH fun K HK2=>?_
   refine wp_block ?_
   refine seqH fun K HK3=>?_
   go_wp2_with fail
   have hbd:=(Below.refl wr.heap.size wr).drew
   have D8:=D7.below hbd
   have L8:=L7.below hbd
   have O8:=owns_bl O7 hbd
   have k8:=k7.trans (Kx.of (X:=rT) hbd hB7)
   have hB8:=Nat.le_trans hB7 hbd.size
   refine wp_region_held_drew (S:=fun w'=>LrB w' q g s) (by kernel_rfl) L8 (fun hS0=>?_)
   clear hbd D7 L7 O7 k7 hB7
   generalize wr.drew=x1 at *
   refine tkP 0 rfl ?_
   refine tkP 1 rfl ?_
   refine tkP 2 rfl ?_
   refine tkT 3 rfl (by intro wS hSw;have c:=hSw.c0;go_simp;(try with_reducible rfl)) ?_
   refine tkP 4 rfl ?_
   refine tkP 5 rfl ?_
   refine tkP 7 rfl ?_
   refine tkP 9 rfl ?_
   refine tkP 10 rfl ?_
   refine tkT 11 (v:=.int .i64 0) rfl (by intro wS hSw;go_simp;(try rfl)) ?_
   refine tkP 12 rfl ?_
   refine tkT 13 (v:=.int .i64 0) rfl (by intro wS hSw;go_simp;(try rfl)) ?_
   refine tkT 14 (v:=.int .i64 (0+64)) rfl (by intro wS hSw;go_simp;(try rfl)) ?_
   refine tkT 15 (v:=.slice (some ⟨G,0,none⟩) 64 (c2)) rfl (by intro wS hSw;go_simp;(try rfl)) ?_
   refine rdy1 6 rfl (fun K' hK'=>?_)
   go_simp
   refine (rfirst3_any 3 pla _).mono ?_
   rintro e w10 ⟨rfl,rfl⟩
   rw [HF.out]
   refine hK'.out _ _ L8 (fun _=>?_)
   clear hK'
   (try simp only [Act.put,qa1,qa2,qa3])
   refine tkT 8 (v:=.int .i64 (f)) rfl (by intro wS hSw;go_simp;(try rw [IntWalk.i64_in _ (by omega)])) ?_
   refine rdy1 16 rfl (fun K' hK'=>?_)
   go_simp
   refine (HW0 x1 _ D8 hB8 (fun w' hk=>by have:=(HSL _ (owns_kx O8 hk (by decide))).sub 0 64 (by omega);exact ⟨this.row,by have:=HP0.out;omega,by have:=this.max;omega,fun e=>by cases e⟩)).mono ?_
   rintro e w11 ⟨rfl,⟨q11,D11⟩,hk11⟩
   have L11:=L8.kx hk11
   have O11:=owns_kx O8 hk11 (by decide)
   have k11:=k8.trans hk11
   refine hK'.out _ _ L11 (fun _=>?_)
   clear hK' D8 L8 O8 k8 hB8 hk11 hS0
   (try simp only [Act.put,qa1,qa2,qa3])
   refine tkP 17 rfl ?_
   refine wpAnyH_done (by kernel_rfl) ?_ _
   refine HK3.out _ _ ?_
   clear HK3
   by_cases h0:e1=0
   case neg=>
    have hn:(e1 != 0)=true:=by rw [bne_iff_ne];exact h0
    have hr2:=(show r=(d1,e1) by rw [← HR.out,if_pos h0])
    go_wp2
    go_ret
    rw [hr2]
    exact ⟨rfl,⟨_,D11⟩,k11⟩
   case pos=>
    subst h0
    go_wp2
    (try simp only [Exit.inBlock,Exit.then])
    refine HK2.out _ _ ?_
    clear HK2
    go_wp2
    go_roundw
    case rel=>exact ⟨0+1,by omega,by rfl,.inr ⟨by trivial,by trivial,_,D11⟩,L11,O11,k11⟩
    case measure=>simp [intOf]
  ·have hr2:r=flushD d1:=by rw [← HR.out,if_neg (by simp)]
   clear HR
   clear HW0
   have hfl7:=rflush_any D7 (Nat.le_trans hb k7.bl.size)
   have c0:=L7.c0
   go_wp2
   refine HK.out _ _ ?_
   clear HK
   go_wp2_with (go_at_call 51;refine hfl7.mono ?_;rintro e w12 ⟨rfl,hd12,k12⟩)
   go_ret
   rw [hr2]
   exact ⟨rfl,hd12,k7.trans k12⟩
theorem rwrite2_any (L:LrB w q g s) (R:RefB B g qq d w) (hb:B≤w.heap.size) {pla f:Int} (hff:firstN 4 pla=f) (hf0:0≤f) (hf1:f < 200) (i:Int) (a:Option Addr) (cap:Nat) (body:List UInt8) (S:SlB w a cap body) (hmay:mayTg ⟨s.rep,4,pla,i,s.inc⟩=true) (hbl:body.length≤88) (hw:d.waits.length≤1000) :
  Calls Tryz.prog 88 #[.pointer (some ⟨q,0,none⟩),.int .i64 4,.int .i64 pla,.int .i64 i,.slice a body.length cap] w fun e w'=>e=.returned (.int .i64 (lputD d f (sealF ⟨s.rep,4,pla,i,s.inc⟩ body 128) 2).2)∧RDoes B g rT w (lputD d f (sealF ⟨s.rep,4,pla,i,s.inc⟩ body 128) 2).1 w':=by
 have hse:=fun (w':World) (h':SlB w' a cap body)=>rseal_any ⟨s.rep,4,pla,i,s.inc⟩ a cap body 2 w' h' (by omega) (by decide)
 have hsr:sealR ⟨s.rep,4,pla,i,s.inc⟩ body 2=sealF ⟨s.rep,4,pla,i,s.inc⟩ body 128:=by
  unfold sealR
  rw [if_pos ⟨hmay,by decide,(by show body.length≤88;exact hbl)⟩]
 simp only [hsr] at hse
 have hfl:(sealF ⟨s.rep,4,pla,i,s.inc⟩ body 128).length=128:=sealF_len (by decide) (by simpa [roomN] using hbl)
 obtain ⟨fr,hfr⟩:∃ fr,sealF ⟨s.rep,4,pla,i,s.inc⟩ body 128=fr:=⟨_,rfl⟩
 simp only [hfr] at hse hfl ⊢
 rw [hfl] at hse
 obtain ⟨r,hr⟩:∃ r,lputD d f fr 2=r:=⟨_,rfl⟩
 rw [hr]
 unfold lputD at hr
 rw [ws_2] at hr
 have hp0:(pcD fr 0).length=64:=pcD_len (by omega)
 have hp1:(pcD fr 1).length=64:=pcD_len (by omega)
 have hw1:=(write_pl d f (pcD fr 0)).2
 obtain ⟨d1,e1,hd1⟩:∃ d1 e1,writeD d f (pcD fr 0)=(d1,e1):=⟨_,_,rfl⟩
 rw [hd1] at hr hw1
 simp only at hr hw1
 obtain ⟨d2,e2,hd2⟩:∃ d2 e2,writeD d1 (f+1) (pcD fr 1)=(d2,e2):=⟨_,_,rfl⟩
 rw [hd2] at hr
 have HWX:=fun (G c2:Nat) w' qq (D:RefB B g qq d w') hB O=>rwrite_any D hB f (some ⟨G,0,none⟩) c2 (pcD fr 0) O (by omega)
 have HWY:=fun (G c2:Nat) w' qq (D:RefB B g qq d1 w') hB O=>rwrite_any D hB (f+1) (some ⟨G,64,none⟩) (c2 - 64) (pcD fr 1) O (by omega)
 simp only [hd1,hp0] at HWX
 simp only [hd2,hp1] at HWY
 have HR:=Lib.hid hr
 have HFL:=Lib.hid hfl
 have HP0:=Lib.hid hp0
 have HP1:=Lib.hid hp1
 have HF:=Lib.hid hff
 clear hr hfl hp0 hp1 hd1 hd2 hw1 hff hsr hfr hmay
 go_enter func88,ntmps88
 refine seqH fun K HK=>?_
 go_wp2
 refine HK.out _ _ ?_
 clear HK
 refine seqH fun K HK=>?_
 go_wp2_with fail
 have hbd:=(Below.refl w.heap.size w).drew
 have D3:=R.below hbd
 have L3:=L.below hbd
 have S3:=S.below hbd
 have hb4:=hbd
 refine wp_region_held_drew (S:=fun w'=>LrB w' q g s) (by kernel_rfl) L3 (fun hS0=>?_)
 clear R L S
 generalize w.drew=x0 at *
 refine tkP 0 rfl ?_
 refine tkP 1 rfl ?_
 refine tkP 2 rfl ?_
 refine tkT 3 rfl (by intro wS hSw;have c:=hSw.c1;go_simp;(try with_reducible rfl)) ?_
 refine tkP 4 rfl ?_
 refine tkP 5 rfl ?_
 refine tkP 6 rfl ?_
 refine tkP 7 rfl ?_
 refine tkP 8 rfl ?_
 refine tkP 9 rfl ?_
 refine tkT 10 rfl (by intro wS hSw;have c:=hSw.c2;go_simp;(try with_reducible rfl)) ?_
 refine tkP 11 rfl ?_
 refine tkP 12 rfl ?_
 refine tkP 13 rfl ?_
 refine rdy1 14 rfl (fun K' hK'=>?_)
 go_simp
 refine (rwide_any 4 _).mono ?_
 rintro e w5 ⟨rfl,rfl⟩
 rw [show wideN 4=2 from rfl]
 refine hK'.out _ _ hS0 (fun _=>?_)
 clear hK'
 (try simp only [Act.put,qa1,qa2,qa3])
 refine rdy1 15 rfl (fun K' hK'=>?_)
 go_simp
 have hse5:=hse _ S3
 refine hse5.mono ?_
 rintro e w6 ⟨⟨v6,rfl,o6⟩,hb7⟩
 obtain ⟨G,c2,rfl,hG⟩:=owns_some o6 (by decide)
 have O6:w6.ownsRow w.heap.size 5 1 (.slice (some ⟨G,0,none⟩) 128 c2) 128 (bys fr):=owns_mono o6 hb4.size
 have D6:=D3.below hb7
 have L6:=L3.below hb7
 have hb8:=hb4.trans (hb7.mono hb4.size)
 have k6:=Kx.of (X:=rT) hb8 hb
 refine hK'.out _ _ L6 (fun _=>?_)
 clear hK' hS0 hbd D3 L3 S3 hb4 hb7 hse hse5 o6
 (try simp only [Act.put,qa1,qa2,qa3])
 refine tkP 16 rfl ?_
 refine tkP 17 rfl ?_
 refine tkP 18 rfl ?_
 refine tkP 19 rfl ?_
 refine tkP 20 rfl ?_
 refine wpAnyH_done (by kernel_rfl) ?_ _
 refine HK.out _ _ ?_
 clear HK
 have hcc:128≤c2:=by
  obtain ⟨_,_,e,hh⟩:=SlB.of_owns (l:=fr) (by rw [HFL.out];exact O6)
  injection e with _ _ e3
  subst e3
  have:=hh.le
  have:=HFL.out
  omega
 have HSL:∀ w',w'.ownsRow w.heap.size 5 1 (.slice (some ⟨G,0,none⟩) 128 c2) 128 (bys fr)→SlB w' (some ⟨G,0,none⟩) c2 fr:=fun w' ho=>by
  obtain ⟨_,_,e,hh⟩:=SlB.of_owns (l:=fr) (by rw [HFL.out];exact ho)
  injection e with e1 _ e3
  subst e1
  subst e3
  exact hh
 have HW0:=HWX G c2
 have HW1:=HWY G c2
 clear HWX HWY
 refine seqH fun K HK=>?_
 go_wp2_with fail
 go_loopw [13] (fun i wr=>∃ j:Nat,j≤2∧i=.int .i64 (j:Nat)∧((j=0∧RefB B g qq d wr)∨(j=1∧e1=0∧∃ q',RefB B g q' d1 wr)∨(j=2∧e1=0∧e2=0∧∃ q',RefB B g q' d2 wr))∧LrB wr q g s∧wr.ownsRow w.heap.size 5 1 (.slice (some ⟨G,0,none⟩) 128 c2) 128 (bys fr)∧Kx rT B w wr) (fun i _=>2 - (intOf i).toNat)
 case atStart=>exact ⟨0,by omega,rfl,.inl ⟨rfl,D6⟩,L6,O6,k6⟩
 case round=>
  clear D6 L6 O6 k6
  obtain ⟨j,hj,rfl,hst,L7,O7,k7⟩:=hrel
  rcases hst with ⟨rfl,D7⟩ | ⟨rfl,rfl,q7,D7⟩ | ⟨rfl,rfl,rfl,q7,D7⟩
  ·have h1:(64:Int)≤c2:=by omega
   have h2:(128:Int)≤c2:=by omega
   have h3:¬ c2=64:=by omega
   skip
   have hB7:=Nat.le_trans hb k7.bl.size
   refine seqH fun K HK=>?_
   go_wp2
   refine HK.out _ _ ?_
   clear HK
   refine seqH fun K HK2=>?_
   refine wp_block ?_
   refine seqH fun K HK3=>?_
   go_wp2_with fail
   have hbd:=(Below.refl wr.heap.size wr).drew
   have D8:=D7.below hbd
   have L8:=L7.below hbd
   have O8:=owns_bl O7 hbd
   have k8:=k7.trans (Kx.of (X:=rT) hbd hB7)
   have hB8:=Nat.le_trans hB7 hbd.size
   refine wp_region_held_drew (S:=fun w'=>LrB w' q g s) (by kernel_rfl) L8 (fun hS0=>?_)
   clear hbd D7 L7 O7 k7 hB7
   generalize wr.drew=x1 at *
   refine tkP 0 rfl ?_
   refine tkP 1 rfl ?_
   refine tkP 2 rfl ?_
   refine tkT 3 rfl (by intro wS hSw;have c:=hSw.c0;go_simp;(try with_reducible rfl)) ?_
   refine tkP 4 rfl ?_
   refine tkP 5 rfl ?_
   refine tkP 7 rfl ?_
   refine tkP 9 rfl ?_
   refine tkP 10 rfl ?_
   refine tkT 11 (v:=.int .i64 0) rfl (by intro wS hSw;go_simp;(try rfl)) ?_
   refine tkP 12 rfl ?_
   refine tkT 13 (v:=.int .i64 0) rfl (by intro wS hSw;go_simp;(try rfl)) ?_
   refine tkT 14 (v:=.int .i64 (0+64)) rfl (by intro wS hSw;go_simp;(try rfl)) ?_
   refine tkT 15 (v:=.slice (some ⟨G,0,none⟩) 64 (c2)) rfl (by intro wS hSw;go_simp;(try rfl)) ?_
   refine rdy1 6 rfl (fun K' hK'=>?_)
   go_simp
   refine (rfirst3_any 4 pla _).mono ?_
   rintro e w10 ⟨rfl,rfl⟩
   rw [HF.out]
   refine hK'.out _ _ L8 (fun _=>?_)
   clear hK'
   (try simp only [Act.put,qa1,qa2,qa3])
   refine tkT 8 (v:=.int .i64 (f)) rfl (by intro wS hSw;go_simp;(try rw [IntWalk.i64_in _ (by omega)])) ?_
   refine rdy1 16 rfl (fun K' hK'=>?_)
   go_simp
   refine (HW0 x1 _ D8 hB8 (fun w' hk=>by have:=(HSL _ (owns_kx O8 hk (by decide))).sub 0 64 (by omega);exact ⟨this.row,by have:=HP0.out;omega,by have:=this.max;omega,fun e=>by cases e⟩)).mono ?_
   rintro e w11 ⟨rfl,⟨q11,D11⟩,hk11⟩
   have L11:=L8.kx hk11
   have O11:=owns_kx O8 hk11 (by decide)
   have k11:=k8.trans hk11
   refine hK'.out _ _ L11 (fun _=>?_)
   clear hK' D8 L8 O8 k8 hB8 hk11 hS0
   (try simp only [Act.put,qa1,qa2,qa3])
   refine tkP 17 rfl ?_
   refine wpAnyH_done (by kernel_rfl) ?_ _
   refine HK3.out _ _ ?_
   clear HK3
   by_cases h0:e1=0
   case neg=>
    have hn:(e1 != 0)=true:=by rw [bne_iff_ne];exact h0
    have hr2:=(show r=(d1,e1) by rw [← HR.out,if_pos h0,if_pos h0])
    go_wp2
    go_ret
    rw [hr2]
    exact ⟨rfl,⟨_,D11⟩,k11⟩
   case pos=>
    subst h0
    go_wp2
    (try simp only [Exit.inBlock,Exit.then])
    refine HK2.out _ _ ?_
    clear HK2
    go_wp2
    go_roundw
    case rel=>exact ⟨0+1,by omega,by rfl,.inr (.inl ⟨by trivial,by trivial,_,D11⟩),L11,O11,k11⟩
    case measure=>simp [intOf]
  ·have h1:(64:Int)≤c2:=by omega
   have h2:(128:Int)≤c2:=by omega
   have h3:¬ c2=64:=by omega
   skip
   have hB7:=Nat.le_trans hb k7.bl.size
   refine seqH fun K HK=>?_
   go_wp2
   refine HK.out _ _ ?_
   clear HK
   refine seqH fun K HK2=>?_
   refine wp_block ?_
   refine seqH fun K HK3=>?_
   go_wp2_with fail
   have hbd:=(Below.refl wr.heap.size wr).drew
   have D8:=D7.below hbd
   have L8:=L7.below hbd
   have O8:=owns_bl O7 hbd
   have k8:=k7.trans (Kx.of (X:=rT) hbd hB7)
   have hB8:=Nat.le_trans hB7 hbd.size
   refine wp_region_held_drew (S:=fun w'=>LrB w' q g s) (by kernel_rfl) L8 (fun hS0=>?_)
   clear hbd D7 L7 O7 k7 hB7
   generalize wr.drew=x1 at *
   refine tkP 0 rfl ?_
   refine tkP 1 rfl ?_
   refine tkP 2 rfl ?_
   refine tkT 3 rfl (by intro wS hSw;have c:=hSw.c0;go_simp;(try with_reducible rfl)) ?_
   refine tkP 4 rfl ?_
   refine tkP 5 rfl ?_
   refine tkP 7 rfl ?_
   refine tkP 9 rfl ?_
   refine tkP 10 rfl ?_
   refine tkT 11 (v:=.int .i64 64) rfl (by intro wS hSw;go_simp;(try rfl)) ?_
   refine tkP 12 rfl ?_
   refine tkT 13 (v:=.int .i64 64) rfl (by intro wS hSw;go_simp;(try rfl)) ?_
   refine tkT 14 (v:=.int .i64 (64+64)) rfl (by intro wS hSw;go_simp;(try rfl)) ?_
   refine tkT 15 (v:=.slice (some ⟨G,64,none⟩) 64 (c2 - 64)) rfl (by intro wS hSw;go_simp;(try rfl)) ?_
   refine rdy1 6 rfl (fun K' hK'=>?_)
   go_simp
   refine (rfirst3_any 4 pla _).mono ?_
   rintro e w10 ⟨rfl,rfl⟩
   rw [HF.out]
   refine hK'.out _ _ L8 (fun _=>?_)
   clear hK'
   (try simp only [Act.put,qa1,qa2,qa3])
   refine tkT 8 (v:=.int .i64 (f+1)) rfl (by intro wS hSw;go_simp;(try rw [IntWalk.i64_in _ (by omega)])) ?_
   refine rdy1 16 rfl (fun K' hK'=>?_)
   go_simp
   refine (HW1 x1 _ D8 hB8 (fun w' hk=>by have:=(HSL _ (owns_kx O8 hk (by decide))).sub 64 64 (by have:=HFL.out;omega);exact ⟨this.row,by have:=HP1.out;omega,by have:=this.max;omega,fun e=>by cases e⟩)).mono ?_
   rintro e w11 ⟨rfl,⟨q11,D11⟩,hk11⟩
   have L11:=L8.kx hk11
   have O11:=owns_kx O8 hk11 (by decide)
   have k11:=k8.trans hk11
   refine hK'.out _ _ L11 (fun _=>?_)
   clear hK' D8 L8 O8 k8 hB8 hk11 hS0
   (try simp only [Act.put,qa1,qa2,qa3])
   refine tkP 17 rfl ?_
   refine wpAnyH_done (by kernel_rfl) ?_ _
   refine HK3.out _ _ ?_
   clear HK3
   by_cases h0:e2=0
   case neg=>
    have hn:(e2 != 0)=true:=by rw [bne_iff_ne];exact h0
    have hr2:=(show r=(d2,e2) by have h:=HR.out;simp [h0] at h;exact h.symm)
    go_wp2
    go_ret
    rw [hr2]
    exact ⟨rfl,⟨_,D11⟩,k11⟩
   case pos=>
    subst h0
    go_wp2
    (try simp only [Exit.inBlock,Exit.then])
    refine HK2.out _ _ ?_
    clear HK2
    go_wp2
    go_roundw
    case rel=>exact ⟨1+1,by omega,by rfl,.inr (.inr ⟨by trivial,by trivial,by trivial,_,D11⟩),L11,O11,k11⟩
    case measure=>simp [intOf]
  ·have hr2:r=flushD d2:=by rw [← HR.out,if_neg (by simp),if_neg (by simp)]
   clear HR HW1
   clear HW0
   have hfl7:=rflush_any D7 (Nat.le_trans hb k7.bl.size)
   have c0:=L7.c0
   go_wp2
   refine HK.out _ _ ?_
   clear HK
   go_wp2_with (go_at_call 51;refine hfl7.mono ?_;rintro e w12 ⟨rfl,hd12,k12⟩)
   go_ret
   rw [hr2]
   exact ⟨rfl,hd12,k7.trans k12⟩
end
end
section
def hiS (f:Nat→SCp) (first:Nat):Nat:=if lessB (f first).bal (f (1 - first)).bal=true then 1 - first else first
def selS (f:Nat→SCp) (first:Nat) (a b:Bool):Option Nat:=if (a && b)=true then some (hiS f first) else if a=true then some 0 else if b=true then some 1 else none
section
variable {p:SRec} {f:Nat→SCp} {i:Int} {least:Bal}
theorem best_sel0:bestS f i 0 least=selS f 0 (ofS (f 0) i && !lessB (f 0).bal least) (ofS (f 1) i && !lessB (f 1).bal least):=by
 unfold bestS stepS selS hiS
 simp only [Nat.sub_zero]
 cases h1:ofS (f 0) i <;> cases h2:ofS (f 1) i <;> cases h3:lessB (f 0).bal least <;> cases h4:lessB (f 1).bal least <;> cases h5:lessB (f 0).bal (f 1).bal <;> simp_all
theorem best_sel1:bestS f i 1 least=selS f 1 (ofS (f 0) i && !lessB (f 0).bal least) (ofS (f 1) i && !lessB (f 1).bal least):=by
 unfold bestS stepS selS hiS
 simp only [Nat.sub_self]
 cases h1:ofS (f 0) i <;> cases h2:ofS (f 1) i <;> cases h3:lessB (f 0).bal least <;> cases h4:lessB (f 1).bal least <;> cases h5:lessB (f 1).bal (f 0).bal <;> simp_all
theorem less_min (b:Bal) (h1:-9223372036854775808≤b.rnd) (h2:-9223372036854775808≤b.rep):lessB b minBal=false:=by
 unfold lessB minBal
 simp only [Bool.or_eq_false_iff,Bool.and_eq_false_iff,decide_eq_false_iff_not]
 exact ⟨by omega,.inr (by omega)⟩
theorem best_min (h1:∀ k,-9223372036854775808≤(f k).bal.rnd ∧ -9223372036854775808≤(f k).bal.rep):bestS f i 0 minBal=selS f 0 (ofS (f 0) i) (ofS (f 1) i):=by
 rw [best_sel0,less_min _ (h1 0).1 (h1 0).2,less_min _ (h1 1).1 (h1 1).2]
 simp
theorem natI1 (n:Nat):(n==1)=((n:Int)==1):=by
 cases h:((n:Int)==1)
 ·exact nat_eq1 h
 ·exact nat_eq1 h
theorem natI2 (n:Nat):(n==2)=((n:Int)==2):=by
 cases h:((n:Int)==2)
 ·exact nat_eq2 h
 ·exact nat_eq2 h
end
theorem rof10_any (c:SCp) (i:Int) (w:World):Calls Tryz.prog 205 #[.agg (cpyA c),.int .i64 i] w fun e w'=>e=.returned (.bool (ofS c i))∧Below w.heap.size w w':=by
 have hb0:=blw w (Obj.cells (cpyA c) 149)
 have X:=heap_alloc_new w (Obj.cells (cpyA c) 149)
 have c0:=cp_0 X
 have c1:=cp_1 X
 unfold ofS
 rw [natI1]
 cases h1:((c.st:Int)==1)
 all_goals
  go_enter func205,ntmps205
  go_wp2
  go_ret
  exact ⟨ret_bool (by simp [*]),hb0⟩
theorem rhigh10_any (f:Nat→SCp) (first:Nat) (hf:first < 2) (w:World):Calls Tryz.prog 207 #[.agg (ffA f),.int .i64 (first:Int)] w fun e w'=>e=.returned (.int .i64 (hiS f first:Nat))∧Below w.heap.size w w':=by
 have hb0:=blw w (Obj.cells (ffA f) 150)
 rcases (show first=0∨first=1 by omega) with rfl | rfl
 ·unfold hiS
  simp only [Nat.sub_zero]
  obtain ⟨b,hb⟩:∃ b,lessB (f 0).bal (f 1).bal=b:=⟨_,rfl⟩
  have hab:=fun w=>rabv10_any (f 1).bal (f 0).bal w b hb
  rw [hb]
  clear hb hf
  go_enter func207,ntmps207
  refine seqH fun K HK=>?_
  go_wp2
  refine HK.out _ _ ?_
  clear HK
  have hbd:=hb0.drew
  have F1:=tr_bl (Below.refl (w.alloc (Obj.cells (ffA f) 150)).heap.size (w.alloc (Obj.cells (ffA f) 150))).drew (heap_alloc_new w (Obj.cells (ffA f) 150))
  refine seqH fun K HK=>?_
  refine wp_seq_k (fun K1 hK1=>?_)
  have HK1:=Lib.hid hK1
  clear hK1
  refine wp_region_held_drew (S:=fun w'=>w'.heap[w.heap.size]?=some (Obj.cells (ffA f) 150)) (by kernel_rfl) F1 (fun hS0=>?_)
  generalize (w.alloc (Obj.cells (ffA f) 150)).drew=x0 at *
  refine tkP 0 rfl ?_
  refine tkT 1 (v:=.int .i64 1) rfl (by intro wS hSw;go_simp;(try rfl)) ?_
  refine tkT 2 (v:=.pointer (some ⟨w.heap.size,11,none⟩)) rfl (by intro wS hSw;go_simp;(try rfl)) ?_
  refine tkT 3 (v:=.pointer (some ⟨w.heap.size,13,none⟩)) rfl (by intro wS hSw;go_simp;(try rfl)) ?_
  refine tkT 4 (v:=.agg (blA (f 1).bal)) rfl (by intro wS hSw;exact exec_ldB 69 _ ⟨_,_,_,_,_,isAgg69,sizeOf69,rfl,hSw,ff_balB f⟩) ?_
  refine tkP 5 rfl ?_
  refine tkT 6 (v:=.pointer (some ⟨w.heap.size,0,none⟩)) rfl (by intro wS hSw;go_simp;(try rfl)) ?_
  refine tkT 7 (v:=.pointer (some ⟨w.heap.size,2,none⟩)) rfl (by intro wS hSw;go_simp;(try rfl)) ?_
  refine tkT 8 (v:=.agg (blA (f 0).bal)) rfl (by intro wS hSw;exact exec_ldB 69 _ ⟨_,_,_,_,_,isAgg69,sizeOf69,rfl,hSw,ff_balA f⟩) ?_
  refine rdy1 9 rfl (fun K' hK'=>?_)
  go_simp
  refine (hab _).mono ?_
  rintro e w3 ⟨rfl,hb3⟩
  have hb4:=hbd.trans (hb3.mono hbd.size)
  refine hK'.out _ _ (tr_bl hb3 hS0) (fun _=>?_)
  clear hK'
  refine wpAnyH_done (by kernel_rfl) ?_ _
  refine HK1.out _ _ ?_
  clear HK1
  cases b
  ·go_wp2
   refine HK.out _ _ ?_
   clear HK
   go_wp2
   go_ret
   exact ⟨rfl,hb4⟩
  ·go_wp2
   go_ret
   exact ⟨rfl,hb4⟩
 ·unfold hiS
  simp only [Nat.sub_self]
  obtain ⟨b,hb⟩:∃ b,lessB (f 1).bal (f 0).bal=b:=⟨_,rfl⟩
  have hab:=fun w=>rabv10_any (f 0).bal (f 1).bal w b hb
  rw [hb]
  clear hb hf
  go_enter func207,ntmps207
  refine seqH fun K HK=>?_
  go_wp2
  refine HK.out _ _ ?_
  clear HK
  have hbd:=hb0.drew
  have F1:=tr_bl (Below.refl (w.alloc (Obj.cells (ffA f) 150)).heap.size (w.alloc (Obj.cells (ffA f) 150))).drew (heap_alloc_new w (Obj.cells (ffA f) 150))
  refine seqH fun K HK=>?_
  refine wp_seq_k (fun K1 hK1=>?_)
  have HK1:=Lib.hid hK1
  clear hK1
  refine wp_region_held_drew (S:=fun w'=>w'.heap[w.heap.size]?=some (Obj.cells (ffA f) 150)) (by kernel_rfl) F1 (fun hS0=>?_)
  generalize (w.alloc (Obj.cells (ffA f) 150)).drew=x0 at *
  refine tkP 0 rfl ?_
  refine tkT 1 (v:=.int .i64 0) rfl (by intro wS hSw;go_simp;(try rfl)) ?_
  refine tkT 2 (v:=.pointer (some ⟨w.heap.size,0,none⟩)) rfl (by intro wS hSw;go_simp;(try rfl)) ?_
  refine tkT 3 (v:=.pointer (some ⟨w.heap.size,2,none⟩)) rfl (by intro wS hSw;go_simp;(try rfl)) ?_
  refine tkT 4 (v:=.agg (blA (f 0).bal)) rfl (by intro wS hSw;exact exec_ldB 69 _ ⟨_,_,_,_,_,isAgg69,sizeOf69,rfl,hSw,ff_balA f⟩) ?_
  refine tkP 5 rfl ?_
  refine tkT 6 (v:=.pointer (some ⟨w.heap.size,11,none⟩)) rfl (by intro wS hSw;go_simp;(try rfl)) ?_
  refine tkT 7 (v:=.pointer (some ⟨w.heap.size,13,none⟩)) rfl (by intro wS hSw;go_simp;(try rfl)) ?_
  refine tkT 8 (v:=.agg (blA (f 1).bal)) rfl (by intro wS hSw;exact exec_ldB 69 _ ⟨_,_,_,_,_,isAgg69,sizeOf69,rfl,hSw,ff_balB f⟩) ?_
  refine rdy1 9 rfl (fun K' hK'=>?_)
  go_simp
  refine (hab _).mono ?_
  rintro e w3 ⟨rfl,hb3⟩
  have hb4:=hbd.trans (hb3.mono hbd.size)
  refine hK'.out _ _ (tr_bl hb3 hS0) (fun _=>?_)
  clear hK'
  refine wpAnyH_done (by kernel_rfl) ?_ _
  refine HK1.out _ _ ?_
  clear HK1
  cases b
  ·go_wp2
   refine HK.out _ _ ?_
   clear HK
   go_wp2
   go_ret
   exact ⟨rfl,hb4⟩
  ·go_wp2
   go_ret
   exact ⟨rfl,hb4⟩
section
variable {w:World} {g:Nat} {T:TypeId} {p:SRec} {f:Nat→SCp}
theorem ff_a0 (h:w.heap[g]?=some (.cells (ffA f) T (0,0))):w.cell? ⟨g,0,none⟩=some (.int .u8 ((f 0).st:Int)):=blk_cell h 0 _ rfl
theorem ff_a1 (h:w.heap[g]?=some (.cells (ffA f) T (0,0))):w.cell? ⟨g,1,none⟩=some (.int .i64 (f 0).idx):=blk_cell h 1 _ rfl
theorem ff_b0 (h:w.heap[g]?=some (.cells (ffA f) T (0,0))):w.cell? ⟨g,11,none⟩=some (.int .u8 ((f 1).st:Int)):=blk_cell h 11 _ rfl
theorem ff_b1 (h:w.heap[g]?=some (.cells (ffA f) T (0,0))):w.cell? ⟨g,12,none⟩=some (.int .i64 (f 1).idx):=blk_cell h 12 _ rfl
theorem rc_1 (h:w.heap[g]?=some (.cells (recA p) T (0,0))):w.cell? ⟨g,1,none⟩=some (.int .i64 p.idx):=blk_cell h 1 _ rfl
end
theorem rbey10_any (p:SRec) (f:Nat→SCp) (i:Int) (w:World):Calls Tryz.prog 208 #[.agg (recA p),.agg (ffA f),.int .i64 i] w fun e w'=>e=.returned (.bool (beyondS p f i))∧Below w.heap.size w w':=by
 have hbp:=blw w (Obj.cells (recA p) 147)
 have hb0:=hbp.trans ((blw (w.alloc (Obj.cells (recA p) 147)) (Obj.cells (ffA f) 150)).mono hbp.size)
 have X:((w.alloc (Obj.cells (recA p) 147)).alloc (Obj.cells (ffA f) 150)).heap[w.heap.size]?=some (.cells (recA p) 147 (0,0)):=tr_al (Obj.cells (ffA f) 150) (heap_alloc_new w (Obj.cells (recA p) 147))
 have Y:((w.alloc (Obj.cells (recA p) 147)).alloc (Obj.cells (ffA f) 150)).heap[w.heap.size+1]?=some (.cells (ffA f) 150 (0,0)):=by
  have:=heap_alloc_new (w.alloc (Obj.cells (recA p) 147)) (Obj.cells (ffA f) 150)
  rwa [show (w.alloc (Obj.cells (recA p) 147)).heap.size=w.heap.size+1 by simp] at this
 have u0:=rc_0 X
 have u1:=rc_1 X
 have v0:=ff_a0 Y
 have v1:=ff_a1 Y
 have v2:=ff_b0 Y
 have v3:=ff_b1 Y
 clear X Y hbp
 unfold beyondS
 rw [natI1,natI1,natI1]
 by_cases hp:((p.st:Int)==1)=true∧i < p.idx
 ·obtain ⟨h1,h2⟩:=hp
  go_enter func208,ntmps208
  go_wp2
  go_ret
  exact ⟨ret_bool (by simp [*]),hb0⟩
 have hp2:((p.st:Int)==1)=false∨(((p.st:Int)==1)=true∧¬ i < p.idx):=by
  cases h:((p.st:Int)==1)
  ·exact .inl rfl
  ·exact .inr ⟨rfl,fun h2=>hp ⟨h,h2⟩⟩
 clear hp
 have hq2:(((f 0).st:Int)==1)=false∨((((f 0).st:Int)==1)=true∧¬ i < (f 0).idx)∨((((f 0).st:Int)==1)=true∧i < (f 0).idx):=by
  cases h:(((f 0).st:Int)==1)
  ·exact .inl rfl
  ·by_cases h2:i < (f 0).idx
   ·exact .inr (.inr ⟨rfl,h2⟩)
   ·exact .inr (.inl ⟨rfl,h2⟩)
 have hr2:(((f 1).st:Int)==1)=false∨((((f 1).st:Int)==1)=true∧¬ i < (f 1).idx)∨((((f 1).st:Int)==1)=true∧i < (f 1).idx):=by
  cases h:(((f 1).st:Int)==1)
  ·exact .inl rfl
  ·by_cases h2:i < (f 1).idx
   ·exact .inr (.inr ⟨rfl,h2⟩)
   ·exact .inr (.inl ⟨rfl,h2⟩)
 rcases hp2 with a1 | ⟨a1,a2⟩ <;> rcases hq2 with b1 | ⟨b1,b2⟩ | ⟨b1,b2⟩ <;> rcases hr2 with c1 | ⟨c1,c2⟩ | ⟨c1,c2⟩
 all_goals
  go_enter func208,ntmps208
  go_wp2
  go_ret
  exact ⟨ret_bool (by simp [*]),hb0⟩
end
section
theorem rcp_bal {p:SRec}:2+2≤(recA p).size∧(recA p).extract 2 (2+2)=blA p.bal:=⟨by show _≤5;omega,rfl⟩
theorem ff_cpA (f:Nat→SCp):0+11≤(ffA f).size∧(ffA f).extract 0 (0+11)=cpyA (f 0):=⟨by show _≤22;omega,by apply Array.ext';rw [Array.toList_extract];rfl⟩
theorem ff_cpB (f:Nat→SCp):11+11≤(ffA f).size∧(ffA f).extract 11 (11+11)=cpyA (f 1):=⟨by show _≤22;omega,by apply Array.ext';rw [Array.toList_extract];rfl⟩
theorem rwhere10_any (p:SRec) (f:Nat→SCp) (i:Int) (w:World) (hw:p.wh=0∨p.wh=1) (hf:∀ k,-9223372036854775808≤(f k).bal.rnd ∧ -9223372036854775808≤(f k).bal.rep):Calls Tryz.prog 164 #[.agg (recA p),.agg (ffA f),.int .i64 i] w fun e w'=>e=.returned (outV (intactS p f i))∧Below w.heap.size w w':=by
 have hbp:=blw w (Obj.cells (recA p) 147)
 have hx:=hbp.trans ((blw (w.alloc (Obj.cells (recA p) 147)) (Obj.cells (ffA f) 150)).mono hbp.size)
 have X:((w.alloc (Obj.cells (recA p) 147)).alloc (Obj.cells (ffA f) 150)).heap[w.heap.size]?=some (Obj.cells (recA p) 147):=tr_al (Obj.cells (ffA f) 150) (heap_alloc_new w (Obj.cells (recA p) 147))
 have Y:((w.alloc (Obj.cells (recA p) 147)).alloc (Obj.cells (ffA f) 150)).heap[w.heap.size+1]?=some (Obj.cells (ffA f) 150):=by
  have:=heap_alloc_new (w.alloc (Obj.cells (recA p) 147)) (Obj.cells (ffA f) 150)
  rwa [show (w.alloc (Obj.cells (recA p) 147)).heap.size=w.heap.size+1 by simp] at this
 obtain ⟨r,hr⟩:∃ r,intactS p f i=r:=⟨_,rfl⟩
 rw [hr]
 unfold intactS at hr
 rw [best_min hf] at hr
 have HR:=Lib.hid hr
 have hoa:=fun w=>rof10_any (f 0) i w
 have hob:=fun w=>rof10_any (f 1) i w
 obtain ⟨a,ha⟩:∃ a,ofS (f 0) i=a:=⟨_,rfl⟩
 obtain ⟨b,hb⟩:∃ b,ofS (f 1) i=b:=⟨_,rfl⟩
 rw [ha] at hoa
 rw [hb] at hob
 have HA:=Lib.hid ha
 have HB:=Lib.hid hb
 have HW:=Lib.hid hw
 clear hr hf ha hb hw hbp
 go_enter func164,ntmps164
 refine seqH fun K HK=>?_
 go_wp2
 refine HK.out _ _ ?_
 clear HK
 have hd:=(Below.refl ((w.alloc (Obj.cells (recA p) 147)).alloc (Obj.cells (ffA f) 150)).heap.size ((w.alloc (Obj.cells (recA p) 147)).alloc (Obj.cells (ffA f) 150))).drew
 have X0:=tr_bl hd X
 have Y0:=tr_bl hd Y
 have hx0:=hx.trans (hd.mono hx.size)
 refine seqH fun K HK=>?_
 refine wp_region_held_drew (S:=fun w'=>w'.heap[w.heap.size+1]?=some (Obj.cells (ffA f) 150)) (by kernel_rfl) Y0 (fun hS0=>?_)
 generalize ((w.alloc (Obj.cells (recA p) 147)).alloc (Obj.cells (ffA f) 150)).drew=x0 at *
 clear hd X Y hx
 refine tkT 0 (v:=.pointer (some ⟨w.heap.size+1,0,none⟩)) rfl (by intro wS hSw;go_simp;(try rfl)) ?_
 refine tkT 1 (v:=.agg (cpyA (f 0))) rfl (by intro wS hSw;exact exec_ldB 149 _ ⟨_,_,_,_,_,isAgg149,sizeOf149,rfl,hSw,ff_cpA f⟩) ?_
 refine tkP 2 rfl ?_
 refine tkT 4 (v:=.pointer (some ⟨w.heap.size+1,11,none⟩)) rfl (by intro wS hSw;go_simp;(try rfl)) ?_
 refine tkT 5 (v:=.agg (cpyA (f 1))) rfl (by intro wS hSw;exact exec_ldB 149 _ ⟨_,_,_,_,_,isAgg149,sizeOf149,rfl,hSw,ff_cpB f⟩) ?_
 refine tkP 6 rfl ?_
 refine rdy1 3 rfl (fun K' hK'=>?_)
 go_simp
 refine (hoa _).mono ?_
 rintro e w1 ⟨rfl,hb1⟩
 have X1:=tr_bl hb1 X0
 have Y1:=tr_bl hb1 Y0
 have hx1:=hx0.trans (hb1.mono hx0.size)
 refine hK'.out _ _ Y1 (fun _=>?_)
 clear hK' X0 Y0 hx0 hb1 hoa hS0
 (try simp only [Act.put,qa1,qa2,qa3])
 refine rdy1 7 rfl (fun K' hK'=>?_)
 go_simp
 refine (hob _).mono ?_
 rintro e w2 ⟨rfl,hb2⟩
 have X:=tr_bl hb2 X1
 have Y:=tr_bl hb2 Y1
 have hx:=hx1.trans (hb2.mono hx1.size)
 refine hK'.out _ _ Y (fun _=>?_)
 clear hK' X1 Y1 hx1 hb2 hob
 (try simp only [Act.put,qa1,qa2,qa3])
 refine tkP 8 rfl ?_
 refine tkP 9 rfl ?_
 refine wpAnyH_done (by kernel_rfl) ?_ _
 refine HK.out _ _ ?_
 clear HK
 have c0:=rc_0 X
 have c1:=rc_1 X
 have c4:=rc_4 X
 have hr:=HR.out
 rw [HA.out,HB.out] at hr
 have ha:=HA.out
 have hb:=HB.out
 have hw:=HW.out
 clear HR HA HB HW
 by_cases h1:p.st=1∧p.idx=i
 case pos=>
  rw [if_pos h1] at hr
  have e0:((p.st:Int)==1)=true:=by rw [h1.1];rfl
  have e1:(p.idx==i)=true:=by rw [beq_iff_eq];exact h1.2
  obtain ⟨la,hla⟩:∃ l,lessB (f 0).bal p.bal=l:=⟨_,rfl⟩
  obtain ⟨lb,hlb⟩:∃ l,lessB (f 1).bal p.bal=l:=⟨_,rfl⟩
  have hA:=fun w=>rabv10_any p.bal (f 0).bal w la hla
  have hB:=fun w=>rabv10_any p.bal (f 1).bal w lb hlb
  clear h1
  rcases hw with hw | hw
  ·rw [hw,show ((0:Int) % 2).toNat=0 from rfl,best_sel0,ha,hb,hla,hlb] at hr
   rw [hw] at c4
   subst hr
   clear ha hb hla hlb
   cases a <;> cases la <;> cases b <;> cases lb
   all_goals
    go_wp2_with (first
     | ((with_reducible refine wpList_ldB 69 _ ?_);refine ⟨rfl,_,⟨_,_,_,_,_,isAgg69,sizeOf69,rfl,‹_›,rcp_bal⟩,?_⟩)
     | ((with_reducible refine wpList_ldB 69 _ ?_);refine ⟨rfl,_,⟨_,_,_,_,_,isAgg69,sizeOf69,rfl,‹_›,ff_balA f⟩,?_⟩)
     | ((with_reducible refine wpList_ldB 69 _ ?_);refine ⟨rfl,_,⟨_,_,_,_,_,isAgg69,sizeOf69,rfl,‹_›,ff_balB f⟩,?_⟩)
     | ((with_reducible refine wpList_ldB 147 _ ?_);refine ⟨rfl,_,⟨_,_,_,_,_,isAgg147,sizeOf147,rfl,‹_›,arr_all rfl⟩,?_⟩)
     | ((with_reducible refine wpList_ldB 150 _ ?_);refine ⟨rfl,_,⟨_,_,_,_,_,isAgg150,sizeOf150,rfl,‹_›,arr_all rfl⟩,?_⟩)
     | (go_at_call 206;(first | (with_reducible refine (hA _).mono ?_) | (with_reducible refine (hB _).mono ?_));rintro e w7 ⟨rfl,hb7⟩;have X:=tr_bl hb7 X;have Y:=tr_bl hb7 Y;have hx:=hx.trans (hb7.mono hx.size);have c0:=rc_0 X;have c4:=rc_4 X)
     | (go_at_call 208;refine (hbey _).mono ?_;rintro e w7 ⟨rfl,hb7⟩;have X:=tr_bl hb7 X;have Y:=tr_bl hb7 Y;have hx:=hx.trans (hb7.mono hx.size);have c0:=rc_0 X;have v0:=ff_a0 Y;have v2:=ff_b0 Y)
     | (go_at_call 207;refine (rhigh10_any f 0 (by omega) _).mono ?_;rintro e w8 ⟨rfl,hb8⟩;have hx:=hx.trans (hb8.mono hx.size)))
    go_ret
    exact ⟨rfl,hx⟩
  ·rw [hw,show ((1:Int) % 2).toNat=1 from rfl,best_sel1,ha,hb,hla,hlb] at hr
   rw [hw] at c4
   subst hr
   clear ha hb hla hlb
   cases a <;> cases la <;> cases b <;> cases lb
   all_goals
    go_wp2_with (first
     | ((with_reducible refine wpList_ldB 69 _ ?_);refine ⟨rfl,_,⟨_,_,_,_,_,isAgg69,sizeOf69,rfl,‹_›,rcp_bal⟩,?_⟩)
     | ((with_reducible refine wpList_ldB 69 _ ?_);refine ⟨rfl,_,⟨_,_,_,_,_,isAgg69,sizeOf69,rfl,‹_›,ff_balA f⟩,?_⟩)
     | ((with_reducible refine wpList_ldB 69 _ ?_);refine ⟨rfl,_,⟨_,_,_,_,_,isAgg69,sizeOf69,rfl,‹_›,ff_balB f⟩,?_⟩)
     | ((with_reducible refine wpList_ldB 147 _ ?_);refine ⟨rfl,_,⟨_,_,_,_,_,isAgg147,sizeOf147,rfl,‹_›,arr_all rfl⟩,?_⟩)
     | ((with_reducible refine wpList_ldB 150 _ ?_);refine ⟨rfl,_,⟨_,_,_,_,_,isAgg150,sizeOf150,rfl,‹_›,arr_all rfl⟩,?_⟩)
     | (go_at_call 206;(first | (with_reducible refine (hA _).mono ?_) | (with_reducible refine (hB _).mono ?_));rintro e w7 ⟨rfl,hb7⟩;have X:=tr_bl hb7 X;have Y:=tr_bl hb7 Y;have hx:=hx.trans (hb7.mono hx.size);have c0:=rc_0 X;have c4:=rc_4 X)
     | (go_at_call 208;refine (hbey _).mono ?_;rintro e w7 ⟨rfl,hb7⟩;have X:=tr_bl hb7 X;have Y:=tr_bl hb7 Y;have hx:=hx.trans (hb7.mono hx.size);have c0:=rc_0 X;have v0:=ff_a0 Y;have v2:=ff_b0 Y)
     | (go_at_call 207;refine (rhigh10_any f 1 (by omega) _).mono ?_;rintro e w8 ⟨rfl,hb8⟩;have hx:=hx.trans (hb8.mono hx.size)))
    go_ret
    exact ⟨rfl,hx⟩
 case neg=>
  rw [if_neg h1] at hr
  have hc:((p.st:Int)==1)=false∨(((p.st:Int)==1)=true∧(p.idx==i)=false):=by
   cases h:((p.st:Int)==1)
   ·exact .inl rfl
   ·refine .inr ⟨rfl,?_⟩
    rw [beq_eq_false_iff_ne]
    intro h2
    rw [beq_iff_eq] at h
    exact h1 ⟨by omega,h2⟩
  clear h1 ha hb hw
  have v0:=ff_a0 Y
  have v2:=ff_b0 Y
  obtain ⟨by_,hby⟩:∃ x,beyondS p f i=x:=⟨_,rfl⟩
  have hbey:=fun w=>rbey10_any p f i w
  rw [hby] at hbey hr
  unfold badS at hr
  rw [natI2,natI2] at hr
  clear hby
  cases by_
  case true=>
   rw [if_pos (.inl rfl)] at hr
   subst hr
   rcases hc with h1 | ⟨h1,h2⟩
   all_goals
    go_wp2_with (first
     | ((with_reducible refine wpList_ldB 69 _ ?_);refine ⟨rfl,_,⟨_,_,_,_,_,isAgg69,sizeOf69,rfl,‹_›,rcp_bal⟩,?_⟩)
     | ((with_reducible refine wpList_ldB 69 _ ?_);refine ⟨rfl,_,⟨_,_,_,_,_,isAgg69,sizeOf69,rfl,‹_›,ff_balA f⟩,?_⟩)
     | ((with_reducible refine wpList_ldB 69 _ ?_);refine ⟨rfl,_,⟨_,_,_,_,_,isAgg69,sizeOf69,rfl,‹_›,ff_balB f⟩,?_⟩)
     | ((with_reducible refine wpList_ldB 147 _ ?_);refine ⟨rfl,_,⟨_,_,_,_,_,isAgg147,sizeOf147,rfl,‹_›,arr_all rfl⟩,?_⟩)
     | ((with_reducible refine wpList_ldB 150 _ ?_);refine ⟨rfl,_,⟨_,_,_,_,_,isAgg150,sizeOf150,rfl,‹_›,arr_all rfl⟩,?_⟩)
     | (go_at_call 206;(first | (with_reducible refine (hA _).mono ?_) | (with_reducible refine (hB _).mono ?_));rintro e w7 ⟨rfl,hb7⟩;have X:=tr_bl hb7 X;have Y:=tr_bl hb7 Y;have hx:=hx.trans (hb7.mono hx.size);have c0:=rc_0 X;have c4:=rc_4 X)
     | (go_at_call 208;refine (hbey _).mono ?_;rintro e w7 ⟨rfl,hb7⟩;have X:=tr_bl hb7 X;have Y:=tr_bl hb7 Y;have hx:=hx.trans (hb7.mono hx.size);have c0:=rc_0 X;have v0:=ff_a0 Y;have v2:=ff_b0 Y)
     | (go_at_call 207;refine (rhigh10_any f 0 (by omega) _).mono ?_;rintro e w8 ⟨rfl,hb8⟩;have hx:=hx.trans (hb8.mono hx.size)))
    go_ret
    exact ⟨rfl,hx⟩
  case false=>
   have hd:(((p.st:Int)==2)=true∧((((f 0).st:Int)==2)=true∨((((f 0).st:Int)==2)=false∧(((f 1).st:Int)==2)=true)))∨(((p.st:Int)==2)=false∨(((p.st:Int)==2)=true∧(((f 0).st:Int)==2)=false∧(((f 1).st:Int)==2)=false)):=by
    cases ((p.st:Int)==2) <;> cases (((f 0).st:Int)==2) <;> cases (((f 1).st:Int)==2) <;> simp
   have h2p:p.st=2↔((p.st:Int)==2)=true:=by rw [beq_iff_eq];omega
   rcases hd with ⟨d1,d2⟩ | hd
   ·rw [if_pos (.inr ⟨h2p.2 d1,by rcases d2 with d2 | ⟨_,d2⟩ <;> simp [d2]⟩)] at hr
    subst hr
    clear h2p
    rcases d2 with d2 | ⟨d2,d3⟩ <;> rcases hc with h1 | ⟨h1,h2⟩
    all_goals
     go_wp2_with (first
      | ((with_reducible refine wpList_ldB 69 _ ?_);refine ⟨rfl,_,⟨_,_,_,_,_,isAgg69,sizeOf69,rfl,‹_›,rcp_bal⟩,?_⟩)
      | ((with_reducible refine wpList_ldB 69 _ ?_);refine ⟨rfl,_,⟨_,_,_,_,_,isAgg69,sizeOf69,rfl,‹_›,ff_balA f⟩,?_⟩)
      | ((with_reducible refine wpList_ldB 69 _ ?_);refine ⟨rfl,_,⟨_,_,_,_,_,isAgg69,sizeOf69,rfl,‹_›,ff_balB f⟩,?_⟩)
      | ((with_reducible refine wpList_ldB 147 _ ?_);refine ⟨rfl,_,⟨_,_,_,_,_,isAgg147,sizeOf147,rfl,‹_›,arr_all rfl⟩,?_⟩)
      | ((with_reducible refine wpList_ldB 150 _ ?_);refine ⟨rfl,_,⟨_,_,_,_,_,isAgg150,sizeOf150,rfl,‹_›,arr_all rfl⟩,?_⟩)
      | (go_at_call 206;(first | (with_reducible refine (hA _).mono ?_) | (with_reducible refine (hB _).mono ?_));rintro e w7 ⟨rfl,hb7⟩;have X:=tr_bl hb7 X;have Y:=tr_bl hb7 Y;have hx:=hx.trans (hb7.mono hx.size);have c0:=rc_0 X;have c4:=rc_4 X)
      | (go_at_call 208;refine (hbey _).mono ?_;rintro e w7 ⟨rfl,hb7⟩;have X:=tr_bl hb7 X;have Y:=tr_bl hb7 Y;have hx:=hx.trans (hb7.mono hx.size);have c0:=rc_0 X;have v0:=ff_a0 Y;have v2:=ff_b0 Y)
      | (go_at_call 207;refine (rhigh10_any f 0 (by omega) _).mono ?_;rintro e w8 ⟨rfl,hb8⟩;have hx:=hx.trans (hb8.mono hx.size)))
     go_ret
     exact ⟨rfl,hx⟩
   ·rw [if_neg (by
     rintro (h | ⟨h,h3⟩)
     ·cases h
     ·rw [h2p] at h
      rcases hd with d1 | ⟨d1,d2,d3⟩
      ·rw [d1] at h
       cases h
      ·rw [d2,d3] at h3
       cases h3)] at hr
    subst hr
    clear h2p
    rcases hd with d1 | ⟨d1,d2,d3⟩ <;> rcases hc with h1 | ⟨h1,h2⟩ <;> cases a <;> cases b
    all_goals
     go_wp2_with (first
      | ((with_reducible refine wpList_ldB 69 _ ?_);refine ⟨rfl,_,⟨_,_,_,_,_,isAgg69,sizeOf69,rfl,‹_›,rcp_bal⟩,?_⟩)
      | ((with_reducible refine wpList_ldB 69 _ ?_);refine ⟨rfl,_,⟨_,_,_,_,_,isAgg69,sizeOf69,rfl,‹_›,ff_balA f⟩,?_⟩)
      | ((with_reducible refine wpList_ldB 69 _ ?_);refine ⟨rfl,_,⟨_,_,_,_,_,isAgg69,sizeOf69,rfl,‹_›,ff_balB f⟩,?_⟩)
      | ((with_reducible refine wpList_ldB 147 _ ?_);refine ⟨rfl,_,⟨_,_,_,_,_,isAgg147,sizeOf147,rfl,‹_›,arr_all rfl⟩,?_⟩)
      | ((with_reducible refine wpList_ldB 150 _ ?_);refine ⟨rfl,_,⟨_,_,_,_,_,isAgg150,sizeOf150,rfl,‹_›,arr_all rfl⟩,?_⟩)
      | (go_at_call 206;(first | (with_reducible refine (hA _).mono ?_) | (with_reducible refine (hB _).mono ?_));rintro e w7 ⟨rfl,hb7⟩;have X:=tr_bl hb7 X;have Y:=tr_bl hb7 Y;have hx:=hx.trans (hb7.mono hx.size);have c0:=rc_0 X;have c4:=rc_4 X)
      | (go_at_call 208;refine (hbey _).mono ?_;rintro e w7 ⟨rfl,hb7⟩;have X:=tr_bl hb7 X;have Y:=tr_bl hb7 Y;have hx:=hx.trans (hb7.mono hx.size);have c0:=rc_0 X;have v0:=ff_a0 Y;have v2:=ff_b0 Y)
      | (go_at_call 207;refine (rhigh10_any f 0 (by omega) _).mono ?_;rintro e w8 ⟨rfl,hb8⟩;have hx:=hx.trans (hb8.mono hx.size)))
     go_ret
     exact ⟨rfl,hx⟩
end
section
theorem rnext10_any (p:SRec) (f:Nat→SCp) (i:Int) (w:World) (hw:p.wh=0∨p.wh=1) (hf:∀ k,-9223372036854775808≤(f k).bal.rnd ∧ -9223372036854775808≤(f k).bal.rep):Calls Tryz.prog 87 #[.agg (recA p),.agg (ffA f),.int .i64 i] w fun e w'=>e=.returned (.int .i64 (nextS p f i))∧Below w.heap.size w w':=by
 obtain ⟨r,hr⟩:∃ r,nextS p f i=r:=⟨_,rfl⟩
 rw [hr]
 have hin:=fun w=>rwhere10_any p f i w hw hf
 obtain ⟨k,hk⟩:∃ k,intactS p f i=k:=⟨_,rfl⟩
 unfold nextS at hr
 rw [hk] at hr hin
 have HKK:=Lib.hid hk
 have HRR:=Lib.hid hr
 have HW:=Lib.hid hw
 clear hk hr hw hf
 generalize hv:outV k=v at hin
 have HV:=Lib.hid hv
 clear hv
 have hbp:=blw w (Obj.cells (recA p) 147)
 have hb0:=hbp.trans ((blw (w.alloc (Obj.cells (recA p) 147)) (Obj.cells (ffA f) 150)).mono hbp.size)
 have X:((w.alloc (Obj.cells (recA p) 147)).alloc (Obj.cells (ffA f) 150)).heap[w.heap.size]?=some (.cells (recA p) 147 (0,0)):=tr_al (Obj.cells (ffA f) 150) (heap_alloc_new w (Obj.cells (recA p) 147))
 have Y:((w.alloc (Obj.cells (recA p) 147)).alloc (Obj.cells (ffA f) 150)).heap[w.heap.size+1]?=some (.cells (ffA f) 150 (0,0)):=by
  have:=heap_alloc_new (w.alloc (Obj.cells (recA p) 147)) (Obj.cells (ffA f) 150)
  rwa [show (w.alloc (Obj.cells (recA p) 147)).heap.size=w.heap.size+1 by simp] at this
 go_enter func87,ntmps87
 refine seqH fun K HK=>?_
 go_wp2
 refine HK.out _ _ ?_
 clear HK
 generalize (w.alloc (Obj.cells (recA p) 147)).alloc (Obj.cells (ffA f) 150)=w1 at *
 generalize w.heap.size+1=y at *
 refine seqH fun K HK=>?_
 go_wp2_with (first
   | ((with_reducible refine wpList_ldB 147 _ ?_);refine ⟨rfl,_,⟨_,_,_,_,_,isAgg147,sizeOf147,rfl,‹_›,arr_all rfl⟩,?_⟩)
   | ((with_reducible refine wpList_ldB 150 _ ?_);refine ⟨rfl,_,⟨_,_,_,_,_,isAgg150,sizeOf150,rfl,‹_›,arr_all rfl⟩,?_⟩)
   | (go_at_call 164;refine (hin _).mono ?_;rintro e w2 ⟨rfl,hb2⟩))
 refine HK.out _ _ ?_
 clear HK
 have X2:=tr_bl hb2 X
 have hb3:=hb0.trans (hb2.mono hb0.size)
 have c0:=rc_0 X2
 have c4:=rc_4 X2
 clear hin X Y hb0 hb2 hbp
 have hk:=HKK.out
 have hr:=HRR.out
 have hw:=HW.out
 clear HKK HRR HW
 rw [← HV.out]
 clear HV
 cases k with
 | some k=>
  have hk2:k < 2:=intact_lt hk
  obtain rfl:1 - k=r:=hr
  clear hk hw
  rw [show outV (some k)=.int .i64 (k:Int) from rfl]
  rcases (show k=0∨k=1 by omega) with rfl | rfl
  all_goals
   go_wp2
   go_ret
   exact ⟨rfl,hb3⟩
 | none=>
  rw [show outV none=.int .i64 (-1) from rfl]
  simp only at hr
  clear hk
  cases h1:((p.st:Int)==1)
  case false=>
   have h1n:p.st≠1:=fun h=>by rw [h] at h1;exact absurd h1 (by decide)
   obtain rfl:0=r:=by rw [← hr,if_neg h1n]
   clear hr h1n hw
   go_wp2
   go_ret
   exact ⟨rfl,hb3⟩
  case true=>
   have h1n:p.st=1:=by rw [beq_iff_eq] at h1;omega
   rw [if_pos h1n] at hr
   clear h1n
   rcases hw with hw | hw
   all_goals
    rw [hw] at hr c4
    subst hr
    clear hw
    go_wp2
    go_ret
    exact ⟨by kernel_rfl,hb3⟩
end
section
theorem cpOf_bal (r:Nat×Tg×List UInt8):-9223372036854775808≤(cpOf r).bal.rnd ∧ -9223372036854775808≤(cpOf r).bal.rep:=by
 unfold cpOf
 have h0:-9223372036854775808≤(0:Int) ∧ -9223372036854775808≤(0:Int):=by omega
 split
 ·exact h0
 ·cases h:parseE r.2.2 with
  | none=>exact h0
  | some x=>
   obtain ⟨b,e⟩:=x
   simp only
   by_cases h7:r.2.2.length < 7
   ·rw [parseE_short h7] at h
    cases h
   ·rw [parseE_long (by omega)] at h
    cases h2:rdE r.2.2 7 with
    | none=>rw [h2] at h;cases h
    | some y=>
     obtain ⟨e',n⟩:=y
     rw [h2] at h
     simp only at h
     split at h
     ·cases h
     ·injection h with h
      injection h with h _
      subst h
      exact ⟨by show _≤((_:Nat):Int);omega,by show _≤((_:Nat):Int);omega⟩
section
variable {B g q:Nat} {qq:RQ} {d:Dk} {w w':World} {s:Lg} {b:Bal} {e:En}
theorem ffW_bal (d:Dk) (s:Lg) (i:Int) (k:Nat):-9223372036854775808≤(ffW d s i k).bal.rnd ∧ -9223372036854775808≤(ffW d s i k).bal.rep:=cpOf_bal _
theorem rput11_ok (h:LrB w q g s) (R:RefB B g qq d w) (hb:B≤w.heap.size) (hs:LgOk s) (i:Int) (hh:hasW s i=true) (e1:d.down=false) (e2:d.dead=false) (hbm:mayBl b=true) (hem:mayE e=true) (hw:d.waits.length≤900):Calls Tryz.prog 24 #[.pointer (some ⟨q,0,none⟩),.int .i64 i,.agg (blA b),.agg (enA e)] w fun en w'=>en=.returned (.int .i64 (putW d s i b e).2)∧RDoes B g rT w (putW d s i b e).1 w':=by
 have hh2:=hh
 unfold hasW at hh2
 rw [Bool.and_eq_true,decide_eq_true_iff,decide_eq_true_iff] at hh2
 have hsp0:=hs.p
 have h1:1≤i:=by omega
 have h2:i≤1099511627776:=by omega
 have hplv:(i - 1).tmod 24=plW i:=Int.tmod_eq_emod_of_nonneg (by omega)
 have hpr:=fun w=>rprint09_ok b e w hbm hem
 have hre:=fun w' (h:LrB w' q g s) (D:RefB B g qq d w')=>rread11_any h D i h1 h2
 have hwh:(recW d s i).wh=0∨(recW d s i).wh=1:=recOf_wh _
 have hnx:=fun w=>rnext10_any (recW d s i) (ffW d s i) i w hwh (ffW_bal d s i)
 have hk2:=nextS_lt (recW d s i) (ffW d s i) i
 have hbl:=bodyE_len b hem
 obtain ⟨r,hr⟩:∃ r,putW d s i b e=r:=⟨_,rfl⟩
 rw [hr]
 unfold putW at hr
 generalize recW d s i=p at *
 generalize ffW d s i=f at *
 obtain ⟨k,hk⟩:∃ k,nextS p f i=k:=⟨_,rfl⟩
 rw [hk] at hr hk2
 simp only [hk] at hnx
 have hsp:=fun w=>rprint10_ok b k w hbm hk2
 have hmy4:=mayT4 hs h1 h2 hk2
 have hmy3:=mayT3 hs h1 h2
 have hpin:=plW_in (i:=i)
 have hf4:=first4 (p:=2 * plW i+k) (by omega)
 have hf3:=first3 hpin
 have hW4:=fun w' (L:LrB w' q g s) (D:RefB B g qq d w') hB a cap S=>rwrite2_any (f:=firstN 4 (2 * plW i+k)) L D hB rfl (by omega) (by omega) i a cap (bodyE b e) S hmy4 (by omega) (by omega)
 have ht4:=lputD_wt d (firstN 4 (2 * plW i+k)) (frmL s i k b e) 2
 unfold putL1 putL2 at hr
 obtain ⟨r4,hr4⟩:∃ r4,lputD d (firstN 4 (2 * plW i+k)) (frmL s i k b e) 2=r4:=⟨_,rfl⟩
 rw [show sealF ⟨s.rep,4,2 * plW i+k,i,s.inc⟩ (bodyE b e) 128=frmL s i k b e from rfl,hr4] at hW4
 rw [hr4] at hr ht4
 have hW3:=fun w' qq' (L:LrB w' q g s) (D:RefB B g qq' r4.1 w') hB a cap S=>rwrite1_any (f:=firstN 3 (plW i)) L D hB rfl (by omega) (by omega) i a cap (recB b k) S hmy3 (by rw [recB_len];omega) (by omega)
 obtain ⟨r3,hr3⟩:∃ r3,lputD r4.1 (firstN 3 (plW i)) (frmR s i k b) 1=r3:=⟨_,rfl⟩
 rw [show sealF ⟨s.rep,3,plW i,i,s.inc⟩ (recB b k) 64=frmR s i k b from rfl,hr3] at hW3
 rw [hr3] at hr
 have HR:=Lib.hid hr
 have hbl0:0 < (bodyE b e).length:=by omega
 have hrl0:0 < (recB b k).length:=by rw [recB_len];omega
 have hki:0≤(k:Int)∧(k:Int) < 2:=by omega
 clear hr hr3 hr4 ht4 hf3 hf4 hmy3 hmy4 hk hwh hbl hbm hem hh2 hsp0
 generalize plW i=pp at *
 generalize bodyE b e=body at *
 generalize recB b k=rbd at *
 generalize (k:Int)=ki at *
 have hbB:=blw w (Obj.cells (blA b) 69)
 have hb0:=hbB.trans ((blw (w.alloc (Obj.cells (blA b) 69)) (Obj.cells (enA e) 73)).mono hbB.size)
 have Bx:((w.alloc (Obj.cells (blA b) 69)).alloc (Obj.cells (enA e) 73)).heap[w.heap.size]?=some (.cells (blA b) 69 (0,0)):=tr_al (Obj.cells (enA e) 73) (heap_alloc_new w (Obj.cells (blA b) 69))
 have Ex:((w.alloc (Obj.cells (blA b) 69)).alloc (Obj.cells (enA e) 73)).heap[w.heap.size+1]?=some (.cells (enA e) 73 (0,0)):=new_two w (Obj.cells (blA b) 69) (Obj.cells (enA e) 73)
 have L0:=h.below hb0
 have D0:=R.below hb0
 go_enter func24,ntmps24
 refine seqH fun K HK=>?_
 go_wp2
 refine HK.out _ _ ?_
 clear HK
 generalize (w.alloc (Obj.cells (blA b) 69)).alloc (Obj.cells (enA e) 73)=w0 at *
 clear h R hbB
 refine seqH fun K HK=>?_
 go_wp2_with (first
  | ((with_reducible refine wpList_ldB 69 _ ?_);refine ⟨rfl,_,⟨_,_,_,_,_,isAgg69,sizeOf69,rfl,‹_›,arr_all rfl⟩,?_⟩)
  | ((with_reducible refine wpList_ldB 73 _ ?_);refine ⟨rfl,_,⟨_,_,_,_,_,isAgg73,sizeOf73,rfl,‹_›,arr_all rfl⟩,?_⟩)
  | (go_at_call 84;refine (hpr _).mono ?_;rintro en w2 ⟨⟨v2,rfl,O2⟩,hb2⟩))
 refine HK.out _ _ ?_
 clear HK
 have hb3:=hb0.trans (hb2.mono hb0.size)
 have L2:=L0.below hb2
 have D2:=D0.below hb2
 have hhs:=rhas11_any L2 hs.p i
 rw [hh] at hhs
 obtain ⟨a2,c2,rfl,hO2⟩:=OwnB.of_row O2 hbl0
 have c0:=L2.c0
 have c4:=D2.c4
 have c5:=D2.c5
 rw [e1] at c4
 rw [e2] at c5
 have B2:=tr_bl hb2 Bx
 have O2:=hO2.mono hb0.size
 clear L0 D0 Bx Ex hb0 hb2 hpr hs hO2
 refine seqH fun K HK=>?_
 go_wp2_with (go_at_call 85;refine hhs.mono ?_;rintro en w3 ⟨rfl,rfl⟩)
 refine HK.out _ _ ?_
 clear HK
 refine seqH fun K HK=>?_
 go_wp2
 refine HK.out _ _ ?_
 clear HK
 clear c0 c4 c5 e1 e2 hhs
 refine seqH fun K HK=>?_
 go_wp2_with (first
   | (go_at_call 86;refine (hre _ L2 D2).mono ?_;rintro en w4 ⟨rfl,hb6⟩;have X40:((w4.alloc (Obj.cells #[.int .u8 0,.int .i64 0,.int .i64 0,.int .i64 0,.int .i64 0] 147)).alloc (Obj.cells #[.int .u8 0,.int .i64 0,.int .i64 0,.int .i64 0,.int .u8 0,.int .i64 0,.int .i64 0,.int .u8 0,.string ⟨#[]⟩,.string ⟨#[]⟩,.string ⟨#[]⟩,.int .u8 0,.int .i64 0,.int .i64 0,.int .i64 0,.int .u8 0,.int .i64 0,.int .i64 0,.int .u8 0,.string ⟨#[]⟩,.string ⟨#[]⟩,.string ⟨#[]⟩] 150)).heap[w4.heap.size]?=some (.cells (recA (zRec 0)) 147 (0,0)):=tr_al (Obj.cells #[.int .u8 0,.int .i64 0,.int .i64 0,.int .i64 0,.int .u8 0,.int .i64 0,.int .i64 0,.int .u8 0,.string ⟨#[]⟩,.string ⟨#[]⟩,.string ⟨#[]⟩,.int .u8 0,.int .i64 0,.int .i64 0,.int .i64 0,.int .u8 0,.int .i64 0,.int .i64 0,.int .u8 0,.string ⟨#[]⟩,.string ⟨#[]⟩,.string ⟨#[]⟩] 150) (heap_alloc_new w4 (Obj.cells #[.int .u8 0,.int .i64 0,.int .i64 0,.int .i64 0,.int .i64 0] 147));have Y40:((w4.alloc (Obj.cells #[.int .u8 0,.int .i64 0,.int .i64 0,.int .i64 0,.int .i64 0] 147)).alloc (Obj.cells #[.int .u8 0,.int .i64 0,.int .i64 0,.int .i64 0,.int .u8 0,.int .i64 0,.int .i64 0,.int .u8 0,.string ⟨#[]⟩,.string ⟨#[]⟩,.string ⟨#[]⟩,.int .u8 0,.int .i64 0,.int .i64 0,.int .i64 0,.int .u8 0,.int .i64 0,.int .i64 0,.int .u8 0,.string ⟨#[]⟩,.string ⟨#[]⟩,.string ⟨#[]⟩] 150)).heap[w4.heap.size+1]?=some (.cells (ffA (fun _=>zCp 0)) 150 (0,0)):=new_two w4 (Obj.cells #[.int .u8 0,.int .i64 0,.int .i64 0,.int .i64 0,.int .i64 0] 147) (Obj.cells #[.int .u8 0,.int .i64 0,.int .i64 0,.int .i64 0,.int .u8 0,.int .i64 0,.int .i64 0,.int .u8 0,.string ⟨#[]⟩,.string ⟨#[]⟩,.string ⟨#[]⟩,.int .u8 0,.int .i64 0,.int .i64 0,.int .i64 0,.int .u8 0,.int .i64 0,.int .i64 0,.int .u8 0,.string ⟨#[]⟩,.string ⟨#[]⟩,.string ⟨#[]⟩] 150))
   | ((with_reducible refine wpList_stB 147 _ _ ?_);refine ⟨_,_,_,⟨_,_,_,sizeOf147,rfl,X40,rec_over _ p⟩,?_⟩;intro w41 X41 g41;have Y41:=tr_st g41 Y40 (by omega))
   | ((with_reducible refine wpList_stB 150 _ _ ?_);refine ⟨_,_,_,⟨_,_,_,sizeOf150,rfl,Y41,ff_over _ f⟩,?_⟩;intro w42 Y42 g42))
 refine HK.out _ _ ?_
 clear HK
 have X42:=tr_st g42 X41 (by omega)
 have hbb:=hb6.trans (((blw w4 (Obj.cells #[.int .u8 0,.int .i64 0,.int .i64 0,.int .i64 0,.int .i64 0] 147)).trans ((blw (w4.alloc (Obj.cells #[.int .u8 0,.int .i64 0,.int .i64 0,.int .i64 0,.int .i64 0] 147)) (Obj.cells #[.int .u8 0,.int .i64 0,.int .i64 0,.int .i64 0,.int .u8 0,.int .i64 0,.int .i64 0,.int .u8 0,.string ⟨#[]⟩,.string ⟨#[]⟩,.string ⟨#[]⟩,.int .u8 0,.int .i64 0,.int .i64 0,.int .i64 0,.int .u8 0,.int .i64 0,.int .i64 0,.int .u8 0,.string ⟨#[]⟩,.string ⟨#[]⟩,.string ⟨#[]⟩] 150)).mono (blw w4 (Obj.cells #[.int .u8 0,.int .i64 0,.int .i64 0,.int .i64 0,.int .i64 0] 147)).size)).mono hb6.size)
 have hsz4:=hb6.size
 have hk42:Below w2.heap.size w2 w42:=bls (bls hbb (Nat.le_refl _) g41 hsz4) (Nat.le_refl _) g42 (by omega)
 have L42:=L2.below hk42
 have D42:=D2.below hk42
 have B42:=tr_bl hk42 B2
 have O42:=O2.below hk42
 have hx42:=hb3.trans (hk42.mono hb3.size)
 clear hre L2 D2 B2 O2 hb3 hb6 hbb hsz4 hk42 X40 Y40 X41 Y41 g41 g42
 generalize w4.heap.size=cb at *
 refine seqH fun K HK=>?_
 go_wp2_with (first
   | ((with_reducible refine wpList_ldB 147 _ ?_);refine ⟨rfl,_,⟨_,_,_,_,_,isAgg147,sizeOf147,rfl,‹_›,arr_all rfl⟩,?_⟩)
   | ((with_reducible refine wpList_ldB 150 _ ?_);refine ⟨rfl,_,⟨_,_,_,_,_,isAgg150,sizeOf150,rfl,‹_›,arr_all rfl⟩,?_⟩)
   | (go_at_call 87;refine (hnx _).mono ?_;rintro en w5 ⟨rfl,hb7⟩))
 refine HK.out _ _ ?_
 clear HK
 have L5:=L42.below hb7
 have D5:=D42.below hb7
 have B5:=tr_bl hb7 B42
 have S5:=(O42.below hb7).slb
 have hx5:=hx42.trans (hb7.mono hx42.size)
 have hB5:=Nat.le_trans hb hx5.size
 have k5:=Kx.of (X:=rT) hx5 hb
 clear L42 D42 B42 O42 hx42 hb7 X42 Y42 hnx hx5
 refine seqH fun K HK=>?_
 go_wp2_with (go_at_call 88;refine (hW4 _ L5 D5 hB5 a2 c2 S5).mono ?_;rintro en w7 ⟨rfl,⟨q7,D7⟩,k7⟩)
 refine HK.out _ _ ?_
 clear HK
 have B7:=k7.ty _ _ _ B5 (by decide)
 have L7:=L5.kx k7
 have hB7:=Nat.le_trans hB5 k7.bl.size
 have k8:=k5.trans k7
 clear L5 D5 B5 S5 k5 k7 hW4 hB5
 by_cases h4:r4.2=0
 case neg=>
  obtain rfl:r4=r:=by rw [← HR.out,if_pos h4]
  have e4:(r4.2 != 0)=true:=by rw [bne_iff_ne];exact h4
  clear HR h4
  go_wp2
  go_ret
  exact ⟨rfl,⟨_,D7⟩,k8⟩
 case pos=>
  obtain rfl:r3=r:=by rw [← HR.out,if_neg (by simp [h4])]
  rw [h4]
  clear HR h4
  refine seqH fun K HK=>?_
  go_wp2
  refine HK.out _ _ ?_
  clear HK
  refine seqH fun K HK=>?_
  go_wp2_with (first
     | ((with_reducible refine wpList_ldB 69 _ ?_);refine ⟨rfl,_,⟨_,_,_,_,_,isAgg69,sizeOf69,rfl,‹_›,arr_all rfl⟩,?_⟩)
     | (go_at_call 89;refine (hsp _).mono ?_;rintro en w9 ⟨⟨v9,rfl,O9⟩,hb9⟩))
  refine HK.out _ _ ?_
  clear HK
  obtain ⟨a9,c9,rfl,hO9⟩:=OwnB.of_row O9 hrl0
  have hW3':=hW3 w9 q7 (L7.below hb9) (D7.below hb9) (Nat.le_trans hB7 hb9.size) a9 c9 hO9.slb
  have k9:=k8.trans (Kx.of (X:=rT) hb9 hB7)
  clear L7 D7 B7 k8 hW3 O9 hO9 hb9 hB7 hsp
  go_wp2_with (go_at_call 88;refine hW3'.mono ?_;rintro en w10 ⟨rfl,hd10,k10⟩)
  go_ret
  exact ⟨rfl,hd10,k9.trans k10⟩
theorem rput11_any (h:LrB w q g s) (R:RefB B g qq d w) (hb:B≤w.heap.size) (hs:LgOk s) (i:Int) (hw:d.waits.length≤900):Calls Tryz.prog 24 #[.pointer (some ⟨q,0,none⟩),.int .i64 i,.agg (blA b),.agg (enA e)] w fun en w'=>en=.returned (.int .i64 (putAll d s i b e).2)∧RDoes B g rT w (putAll d s i b e).1 w':=by
 have hup:=up_cases R
 unfold putAll
 cases hm:(mayBl b && mayE e)
 ·rw [if_pos (.inr rfl)]
  have hpr:=fun w=>rprint09_bad b e w hm
  cases hh:hasW s i
  all_goals
   have hbB:=blw w (Obj.cells (blA b) 69)
   have hb0:=hbB.trans ((blw (w.alloc (Obj.cells (blA b) 69)) (Obj.cells (enA e) 73)).mono hbB.size)
   have Bx:((w.alloc (Obj.cells (blA b) 69)).alloc (Obj.cells (enA e) 73)).heap[w.heap.size]?=some (.cells (blA b) 69 (0,0)):=tr_al (Obj.cells (enA e) 73) (heap_alloc_new w (Obj.cells (blA b) 69))
   have Ex:((w.alloc (Obj.cells (blA b) 69)).alloc (Obj.cells (enA e) 73)).heap[w.heap.size+1]?=some (.cells (enA e) 73 (0,0)):=new_two w (Obj.cells (blA b) 69) (Obj.cells (enA e) 73)
   have L0:=h.below hb0
   have D0:=R.below hb0
   go_enter func24,ntmps24
   refine seqH fun K HK=>?_
   go_wp2
   refine HK.out _ _ ?_
   clear HK
   generalize (w.alloc (Obj.cells (blA b) 69)).alloc (Obj.cells (enA e) 73)=w0 at *
   clear h R hbB
   refine seqH fun K HK=>?_
   go_wp2_with (first
    | ((with_reducible refine wpList_ldB 69 _ ?_);refine ⟨rfl,_,⟨_,_,_,_,_,isAgg69,sizeOf69,rfl,‹_›,arr_all rfl⟩,?_⟩)
    | ((with_reducible refine wpList_ldB 73 _ ?_);refine ⟨rfl,_,⟨_,_,_,_,_,isAgg73,sizeOf73,rfl,‹_›,arr_all rfl⟩,?_⟩)
    | (go_at_call 84;refine (hpr _).mono ?_;rintro en w2 ⟨rfl,hb2⟩))
   refine HK.out _ _ ?_
   clear HK
   have hb3:=hb0.trans (hb2.mono hb0.size)
   have L2:=L0.below hb2
   have D2:=D0.below hb2
   have hhs:=rhas11_any L2 hs.p i
   rw [hh] at hhs
   go_wp2_with (go_at_call 85;refine hhs.mono ?_;rintro en w3 ⟨rfl,rfl⟩)
   go_ret
   exact ⟨rfl,⟨_,D2⟩,Kx.of hb3 hb⟩
 ·rw [Bool.and_eq_true] at hm
  have hpr:=fun w=>rprint09_ok b e w hm.1 hm.2
  cases hh:hasW s i
  ·rw [if_pos (.inl rfl)]
   have hbB:=blw w (Obj.cells (blA b) 69)
   have hb0:=hbB.trans ((blw (w.alloc (Obj.cells (blA b) 69)) (Obj.cells (enA e) 73)).mono hbB.size)
   have Bx:((w.alloc (Obj.cells (blA b) 69)).alloc (Obj.cells (enA e) 73)).heap[w.heap.size]?=some (.cells (blA b) 69 (0,0)):=tr_al (Obj.cells (enA e) 73) (heap_alloc_new w (Obj.cells (blA b) 69))
   have Ex:((w.alloc (Obj.cells (blA b) 69)).alloc (Obj.cells (enA e) 73)).heap[w.heap.size+1]?=some (.cells (enA e) 73 (0,0)):=new_two w (Obj.cells (blA b) 69) (Obj.cells (enA e) 73)
   have L0:=h.below hb0
   have D0:=R.below hb0
   go_enter func24,ntmps24
   refine seqH fun K HK=>?_
   go_wp2
   refine HK.out _ _ ?_
   clear HK
   generalize (w.alloc (Obj.cells (blA b) 69)).alloc (Obj.cells (enA e) 73)=w0 at *
   clear h R hbB
   refine seqH fun K HK=>?_
   go_wp2_with (first
    | ((with_reducible refine wpList_ldB 69 _ ?_);refine ⟨rfl,_,⟨_,_,_,_,_,isAgg69,sizeOf69,rfl,‹_›,arr_all rfl⟩,?_⟩)
    | ((with_reducible refine wpList_ldB 73 _ ?_);refine ⟨rfl,_,⟨_,_,_,_,_,isAgg73,sizeOf73,rfl,‹_›,arr_all rfl⟩,?_⟩)
    | (go_at_call 84;refine (hpr _).mono ?_;rintro en w2 ⟨⟨v2,rfl,O2⟩,hb2⟩))
   refine HK.out _ _ ?_
   clear HK
   have hb3:=hb0.trans (hb2.mono hb0.size)
   have L2:=L0.below hb2
   have D2:=D0.below hb2
   have hhs:=rhas11_any L2 hs.p i
   rw [hh] at hhs
   go_wp2_with (go_at_call 85;refine hhs.mono ?_;rintro en w3 ⟨rfl,rfl⟩)
   go_ret
   exact ⟨rfl,⟨_,D2⟩,Kx.of hb3 hb⟩
  ·rw [if_neg (by simp)]
   rcases hup with ⟨hu,e1,e2⟩ | hup
   ·rw [if_neg (by simp [hu])]
    exact rput11_ok h R hb hs i hh e1 e2 hm.1 hm.2 hw
   ·rcases hup with ⟨hu,e1,e2⟩ | ⟨hu,e1⟩
    all_goals
     rw [if_pos hu]
     have hbB:=blw w (Obj.cells (blA b) 69)
     have hb0:=hbB.trans ((blw (w.alloc (Obj.cells (blA b) 69)) (Obj.cells (enA e) 73)).mono hbB.size)
     have Bx:((w.alloc (Obj.cells (blA b) 69)).alloc (Obj.cells (enA e) 73)).heap[w.heap.size]?=some (.cells (blA b) 69 (0,0)):=tr_al (Obj.cells (enA e) 73) (heap_alloc_new w (Obj.cells (blA b) 69))
     have Ex:((w.alloc (Obj.cells (blA b) 69)).alloc (Obj.cells (enA e) 73)).heap[w.heap.size+1]?=some (.cells (enA e) 73 (0,0)):=new_two w (Obj.cells (blA b) 69) (Obj.cells (enA e) 73)
     have L0:=h.below hb0
     have D0:=R.below hb0
     go_enter func24,ntmps24
     refine seqH fun K HK=>?_
     go_wp2
     refine HK.out _ _ ?_
     clear HK
     generalize (w.alloc (Obj.cells (blA b) 69)).alloc (Obj.cells (enA e) 73)=w0 at *
     clear h R hbB
     refine seqH fun K HK=>?_
     go_wp2_with (first
      | ((with_reducible refine wpList_ldB 69 _ ?_);refine ⟨rfl,_,⟨_,_,_,_,_,isAgg69,sizeOf69,rfl,‹_›,arr_all rfl⟩,?_⟩)
      | ((with_reducible refine wpList_ldB 73 _ ?_);refine ⟨rfl,_,⟨_,_,_,_,_,isAgg73,sizeOf73,rfl,‹_›,arr_all rfl⟩,?_⟩)
      | (go_at_call 84;refine (hpr _).mono ?_;rintro en w2 ⟨⟨v2,rfl,O2⟩,hb2⟩))
     refine HK.out _ _ ?_
     clear HK
     have hb3:=hb0.trans (hb2.mono hb0.size)
     have L2:=L0.below hb2
     have D2:=D0.below hb2
     have hhs:=rhas11_any L2 hs.p i
     rw [hh] at hhs
     have c0:=L2.c0
     have c4:=D2.c4
     have c5:=D2.c5
     (try rw [e1] at c4)
     (try rw [e2] at c5)
     go_wp2_with (go_at_call 85;refine hhs.mono ?_;rintro en w3 ⟨rfl,rfl⟩)
     go_ret
     exact ⟨rfl,⟨_,D2⟩,Kx.of hb3 hb⟩
end
end
section
theorem rp_st (i st st':Int) (b:Bal) (e:En):1+1≤(rpA i st b e).size∧(Value.int .u8 st').cells.size=1∧(∀ u ∈ (Value.int .u8 st').cells.toList,u.oneCell'=true)∧((rpA i st b e).toList.take 1++(Value.int .u8 st').cells.toList++(rpA i st b e).toList.drop (1+1)).toArray=rpA i st' b e:=
 ⟨by show _≤11;omega,rfl,by simp [Value.cells,Value.oneCell'],rfl⟩
theorem rp_ent (i st:Int) (b:Bal) (e e':En):4+7≤(rpA i st b e).size∧(Value.agg (enA e')).cells.size=7∧(∀ u ∈ (Value.agg (enA e')).cells.toList,u.oneCell'=true)∧((rpA i st b e).toList.take 4++(Value.agg (enA e')).cells.toList++(rpA i st b e).toList.drop (4+7)).toArray=rpA i st b e':=
 ⟨by show _≤11;omega,rfl,by simp [Value.cells,enA,Value.oneCell'],rfl⟩
def bad3 (f:Nat→SCp):Prop:=(((f 0).st:Int)==2)=true∨((((f 0).st:Int)==2)=false∧(((f 1).st:Int)==2)=true)∨((((f 0).st:Int)==2)=false∧(((f 1).st:Int)==2)=false)
def bad2 (f:Nat→SCp):Prop:=(((f 0).st:Int)==2)=true∨((((f 0).st:Int)==2)=false∧(((f 1).st:Int)==2)=true)
def notP (p:SRec) (i:Int):Prop:=((p.st:Int)==1)=false∨(((p.st:Int)==1)=true∧(p.idx==i)=false)
theorem rwhat10_any (p:SRec) (f:Nat→SCp) (i:Int) (w:World) (hw:p.wh=0∨p.wh=1) (hf:∀ k,-9223372036854775808≤(f k).bal.rnd ∧ -9223372036854775808≤(f k).bal.rep):Calls Tryz.prog 168 #[.agg (recA p),.agg (ffA f),.int .i64 i] w fun e w'=>(∃ kk:Int,e=.returned (.tuple #[.int .u8 (whatS p f i).1,.agg (rpA i (whatS p f i).2.1 (whatS p f i).2.2.1 (whatS p f i).2.2.2),.int .i64 kk]))∧Below w.heap.size w w':=by
 have hin:=fun w=>rwhere10_any p f i w hw hf
 obtain ⟨r,hr⟩:∃ r,whatS p f i=r:=⟨_,rfl⟩
 rw [hr]
 unfold whatS at hr
 cases hk:intactS p f i with
 | some k=>
  rw [hk] at hin hr
  have hk2:=intact_lt hk
  simp only at hr
  subst hr
  clear hk hw hf
  rcases (show k=0∨k=1 by omega) with rfl | rfl
  ·rw [show outV (some 0)=.int .i64 0 from rfl] at hin
   go_enter func168,ntmps168
   refine seqH fun K HK=>?_
   go_wp2
   refine HK.out _ _ ?_
   clear HK
   obtain ⟨hb1,P1,F1,R1⟩:=n3 w (Obj.cells (recA p) 147) (Obj.cells (ffA f) 150) (Obj.cells #[.int .i64 0,.int .u8 0,.int .i64 0,.int .i64 0,.int .u8 0,.int .i64 0,.int .i64 0,.int .u8 0,.string ⟨#[]⟩,.string ⟨#[]⟩,.string ⟨#[]⟩] 163)
   change _=some (Obj.cells (rpA 0 0 zeroL (zeroE 0)) 163 (0,0)) at R1
   have hn1:w.heap.size < w.heap.size+1:=by omega
   have hn2:w.heap.size+1 < w.heap.size+1+1:=by omega
   generalize ((w.alloc (Obj.cells (recA p) 147)).alloc (Obj.cells (ffA f) 150)).alloc (Obj.cells #[.int .i64 0,.int .u8 0,.int .i64 0,.int .i64 0,.int .u8 0,.int .i64 0,.int .i64 0,.int .u8 0,.string ⟨#[]⟩,.string ⟨#[]⟩,.string ⟨#[]⟩] 163)=w1 at *
   generalize w.heap.size+1+1=rb at *
   generalize w.heap.size+1=fb at *
   refine seqH fun K HK=>?_
   go_wp2_with ((first | (with_reducible refine wpList_stNew 163 _ _ ?_) | (with_reducible refine wp_stNew 163 _ _ ?_));refine ⟨_,_,⟨sizeOf163,rfl,rp_k _ _⟩,rfl,?_⟩)
   refine HK.out _ _ ?_
   clear HK
   have hbx:=blw w1 (Obj.cells (rpA i 0 zeroL (zeroE 0)) 163)
   have O2:=heap_alloc_new w1 (Obj.cells (rpA i 0 zeroL (zeroE 0)) 163)
   have P2:=tr_bl hbx P1
   have F2:=tr_bl hbx F1
   have R2:=tr_bl hbx R1
   have hb2:=hb1.trans (hbx.mono hb1.size)
   have hr1:=lt_blk R1
   clear hb1 P1 F1 R1 hbx
   generalize w1.alloc (Obj.cells (rpA i 0 zeroL (zeroE 0)) 163)=w2 at *
   generalize w1.heap.size=ob at *
   refine seqH fun K HK=>?_
   go_wp2_with (first
    | ((with_reducible refine wpList_ldB 147 _ ?_);refine ⟨rfl,_,⟨_,_,_,_,_,isAgg147,sizeOf147,rfl,‹_›,arr_all rfl⟩,?_⟩)
    | ((with_reducible refine wpList_ldB 150 _ ?_);refine ⟨rfl,_,⟨_,_,_,_,_,isAgg150,sizeOf150,rfl,‹_›,arr_all rfl⟩,?_⟩)
    | (go_at_call 164;refine (hin _).mono ?_;rintro e w3 ⟨rfl,hb3⟩))
   refine HK.out _ _ ?_
   clear HK
   have P:=tr_bl hb3 P2
   have F:=tr_bl hb3 F2
   have R:=tr_bl hb3 R2
   have O:=tr_bl hb3 O2
   have hx:=hb2.trans (hb3.mono hb2.size)
   clear hb2 hb3 P2 F2 R2 O2 hin
   refine seqH fun K HK=>?_
   go_wp2_with (first
    | ((with_reducible refine wpList_ldB 69 _ ?_);refine ⟨rfl,_,⟨_,_,_,_,_,isAgg69,sizeOf69,rfl,‹_›,ff_balA f⟩,?_⟩)
    | ((with_reducible refine wpList_ldB 73 _ ?_);refine ⟨rfl,_,⟨_,_,_,_,_,isAgg73,sizeOf73,rfl,‹_›,ff_enA f⟩,?_⟩)
    | ((first | (with_reducible refine wpList_stB 5 _ _ ?_) | (with_reducible refine wp_stB 5 _ _ ?_));refine ⟨_,_,_,⟨_,_,_,sizeOf5,rfl,‹_›,rp_st _ _ _ _ _⟩,?_⟩;intro w4 O4 g4;have F4:=tr_st g4 F (by omega);have R4:=tr_st g4 R (by omega);have hx4:=bls hx (Nat.le_refl _) g4 (by omega))
    | ((first | (with_reducible refine wpList_stB 69 _ _ ?_) | (with_reducible refine wp_stB 69 _ _ ?_));refine ⟨_,_,_,⟨_,_,_,sizeOf69,rfl,‹_›,rp_bal _ _ _ _ _⟩,?_⟩;intro w5 O5 g5;have F5:=tr_st g5 F4 (by omega);have R5:=tr_st g5 R4 (by omega);have hx5:=bls hx4 (Nat.le_refl _) g5 (by omega))
    | ((first | (with_reducible refine wpList_stB 73 _ _ ?_) | (with_reducible refine wp_stB 73 _ _ ?_));refine ⟨_,_,_,⟨_,_,_,sizeOf73,rfl,‹_›,rp_ent _ _ _ _ _⟩,?_⟩;intro w6 O6 g6;have F6:=tr_st g6 F5 (by omega);have R6:=tr_st g6 R5 (by omega);have hx6:=bls hx5 (Nat.le_refl _) g6 (by omega)))
   clear HK
   have hbd:=(Below.refl w6.heap.size w6).drew
   have O7:=tr_bl hbd O6
   have R7:=tr_bl hbd R6
   have hx7:=hx6.trans (hbd.mono hx6.size)
   clear O4 O5 O6 R4 R5 R6 F4 F5 F6 hx4 hx5 hx6 hbd P F R O hx
   refine wp_region_held_drew (S:=fun w'=>w'.heap[ob]?=some (.cells (rpA i 2 (f 0).bal (f 0).e) 163 (0,0))) (by kernel_rfl) O7 (fun hS0=>?_)
   generalize w6.drew=x0 at *
   refine tkT 0 (v:=.agg (rpA i 2 (f 0).bal (f 0).e)) rfl (by intro wS hSw;exact exec_ldB 163 _ ⟨_,_,_,_,_,isAgg163,sizeOf163,rfl,hSw,arr_all rfl⟩) ?_
   refine tkP 1 rfl ?_
   refine tkP 2 rfl ?_
   refine rdy1 3 rfl (fun K' hK'=>?_)
   refine wp_stB 163 _ _ ?_
   refine ⟨_,_,_,⟨_,_,_,sizeOf163,rfl,R7,rp_over _ _ _ _ i 2 (f 0).bal (f 0).e⟩,?_⟩
   intro w8 R8 g8
   refine hK'.out _ _ (tr_st g8 hS0 (show rb≠ob by omega)) (fun _=>?_)
   clear hK'
   (try simp only [Act.put,qa1,qa2,qa3])
   refine tkP 4 rfl ?_
   refine wpAnyH_done (by kernel_rfl) ?_ _
   go_wp2
   refine bodyPost_ret (results_t1c1t1' rfl rfl (run_loadVar_all isAgg163 sizeOf163 R8 rfl)) rfl ⟨⟨_,rfl⟩,bls hx7 (Nat.le_refl _) g8 (by omega)⟩
  ·rw [show outV (some 1)=.int .i64 1 from rfl] at hin
   go_enter func168,ntmps168
   refine seqH fun K HK=>?_
   go_wp2
   refine HK.out _ _ ?_
   clear HK
   obtain ⟨hb1,P1,F1,R1⟩:=n3 w (Obj.cells (recA p) 147) (Obj.cells (ffA f) 150) (Obj.cells #[.int .i64 0,.int .u8 0,.int .i64 0,.int .i64 0,.int .u8 0,.int .i64 0,.int .i64 0,.int .u8 0,.string ⟨#[]⟩,.string ⟨#[]⟩,.string ⟨#[]⟩] 163)
   change _=some (Obj.cells (rpA 0 0 zeroL (zeroE 0)) 163 (0,0)) at R1
   have hn1:w.heap.size < w.heap.size+1:=by omega
   have hn2:w.heap.size+1 < w.heap.size+1+1:=by omega
   generalize ((w.alloc (Obj.cells (recA p) 147)).alloc (Obj.cells (ffA f) 150)).alloc (Obj.cells #[.int .i64 0,.int .u8 0,.int .i64 0,.int .i64 0,.int .u8 0,.int .i64 0,.int .i64 0,.int .u8 0,.string ⟨#[]⟩,.string ⟨#[]⟩,.string ⟨#[]⟩] 163)=w1 at *
   generalize w.heap.size+1+1=rb at *
   generalize w.heap.size+1=fb at *
   refine seqH fun K HK=>?_
   go_wp2_with ((first | (with_reducible refine wpList_stNew 163 _ _ ?_) | (with_reducible refine wp_stNew 163 _ _ ?_));refine ⟨_,_,⟨sizeOf163,rfl,rp_k _ _⟩,rfl,?_⟩)
   refine HK.out _ _ ?_
   clear HK
   have hbx:=blw w1 (Obj.cells (rpA i 0 zeroL (zeroE 0)) 163)
   have O2:=heap_alloc_new w1 (Obj.cells (rpA i 0 zeroL (zeroE 0)) 163)
   have P2:=tr_bl hbx P1
   have F2:=tr_bl hbx F1
   have R2:=tr_bl hbx R1
   have hb2:=hb1.trans (hbx.mono hb1.size)
   have hr1:=lt_blk R1
   clear hb1 P1 F1 R1 hbx
   generalize w1.alloc (Obj.cells (rpA i 0 zeroL (zeroE 0)) 163)=w2 at *
   generalize w1.heap.size=ob at *
   refine seqH fun K HK=>?_
   go_wp2_with (first
    | ((with_reducible refine wpList_ldB 147 _ ?_);refine ⟨rfl,_,⟨_,_,_,_,_,isAgg147,sizeOf147,rfl,‹_›,arr_all rfl⟩,?_⟩)
    | ((with_reducible refine wpList_ldB 150 _ ?_);refine ⟨rfl,_,⟨_,_,_,_,_,isAgg150,sizeOf150,rfl,‹_›,arr_all rfl⟩,?_⟩)
    | (go_at_call 164;refine (hin _).mono ?_;rintro e w3 ⟨rfl,hb3⟩))
   refine HK.out _ _ ?_
   clear HK
   have P:=tr_bl hb3 P2
   have F:=tr_bl hb3 F2
   have R:=tr_bl hb3 R2
   have O:=tr_bl hb3 O2
   have hx:=hb2.trans (hb3.mono hb2.size)
   clear hb2 hb3 P2 F2 R2 O2 hin
   refine seqH fun K HK=>?_
   go_wp2_with (first
    | ((with_reducible refine wpList_ldB 69 _ ?_);refine ⟨rfl,_,⟨_,_,_,_,_,isAgg69,sizeOf69,rfl,‹_›,ff_balB f⟩,?_⟩)
    | ((with_reducible refine wpList_ldB 73 _ ?_);refine ⟨rfl,_,⟨_,_,_,_,_,isAgg73,sizeOf73,rfl,‹_›,ff_enB f⟩,?_⟩)
    | ((first | (with_reducible refine wpList_stB 5 _ _ ?_) | (with_reducible refine wp_stB 5 _ _ ?_));refine ⟨_,_,_,⟨_,_,_,sizeOf5,rfl,‹_›,rp_st _ _ _ _ _⟩,?_⟩;intro w4 O4 g4;have F4:=tr_st g4 F (by omega);have R4:=tr_st g4 R (by omega);have hx4:=bls hx (Nat.le_refl _) g4 (by omega))
    | ((first | (with_reducible refine wpList_stB 69 _ _ ?_) | (with_reducible refine wp_stB 69 _ _ ?_));refine ⟨_,_,_,⟨_,_,_,sizeOf69,rfl,‹_›,rp_bal _ _ _ _ _⟩,?_⟩;intro w5 O5 g5;have F5:=tr_st g5 F4 (by omega);have R5:=tr_st g5 R4 (by omega);have hx5:=bls hx4 (Nat.le_refl _) g5 (by omega))
    | ((first | (with_reducible refine wpList_stB 73 _ _ ?_) | (with_reducible refine wp_stB 73 _ _ ?_));refine ⟨_,_,_,⟨_,_,_,sizeOf73,rfl,‹_›,rp_ent _ _ _ _ _⟩,?_⟩;intro w6 O6 g6;have F6:=tr_st g6 F5 (by omega);have R6:=tr_st g6 R5 (by omega);have hx6:=bls hx5 (Nat.le_refl _) g6 (by omega)))
   clear HK
   have hbd:=(Below.refl w6.heap.size w6).drew
   have O7:=tr_bl hbd O6
   have R7:=tr_bl hbd R6
   have hx7:=hx6.trans (hbd.mono hx6.size)
   clear O4 O5 O6 R4 R5 R6 F4 F5 F6 hx4 hx5 hx6 hbd P F R O hx
   refine wp_region_held_drew (S:=fun w'=>w'.heap[ob]?=some (.cells (rpA i 2 (f 1).bal (f 1).e) 163 (0,0))) (by kernel_rfl) O7 (fun hS0=>?_)
   generalize w6.drew=x0 at *
   refine tkT 0 (v:=.agg (rpA i 2 (f 1).bal (f 1).e)) rfl (by intro wS hSw;exact exec_ldB 163 _ ⟨_,_,_,_,_,isAgg163,sizeOf163,rfl,hSw,arr_all rfl⟩) ?_
   refine tkP 1 rfl ?_
   refine tkP 2 rfl ?_
   refine rdy1 3 rfl (fun K' hK'=>?_)
   refine wp_stB 163 _ _ ?_
   refine ⟨_,_,_,⟨_,_,_,sizeOf163,rfl,R7,rp_over _ _ _ _ i 2 (f 1).bal (f 1).e⟩,?_⟩
   intro w8 R8 g8
   refine hK'.out _ _ (tr_st g8 hS0 (show rb≠ob by omega)) (fun _=>?_)
   clear hK'
   (try simp only [Act.put,qa1,qa2,qa3])
   refine tkP 4 rfl ?_
   refine wpAnyH_done (by kernel_rfl) ?_ _
   go_wp2
   refine bodyPost_ret (results_t1c1t1' rfl rfl (run_loadVar_all isAgg163 sizeOf163 R8 rfl)) rfl ⟨⟨_,rfl⟩,bls hx7 (Nat.le_refl _) g8 (by omega)⟩
 | none=>
  rw [hk,show outV none=.int .i64 (-1) from rfl] at hin
  rw [hk] at hr
  simp only at hr
  have HR:=Lib.hid hr
  clear hk hw hf hr
  have hbey:=fun w=>rbey10_any p f i w
  go_enter func168,ntmps168
  refine seqH fun K HK=>?_
  go_wp2
  refine HK.out _ _ ?_
  clear HK
  obtain ⟨hb1,P1,F1,R1⟩:=n3 w (Obj.cells (recA p) 147) (Obj.cells (ffA f) 150) (Obj.cells #[.int .i64 0,.int .u8 0,.int .i64 0,.int .i64 0,.int .u8 0,.int .i64 0,.int .i64 0,.int .u8 0,.string ⟨#[]⟩,.string ⟨#[]⟩,.string ⟨#[]⟩] 163)
  change _=some (Obj.cells (rpA 0 0 zeroL (zeroE 0)) 163 (0,0)) at R1
  have hn1:w.heap.size < w.heap.size+1:=by omega
  have hn2:w.heap.size+1 < w.heap.size+1+1:=by omega
  generalize ((w.alloc (Obj.cells (recA p) 147)).alloc (Obj.cells (ffA f) 150)).alloc (Obj.cells #[.int .i64 0,.int .u8 0,.int .i64 0,.int .i64 0,.int .u8 0,.int .i64 0,.int .i64 0,.int .u8 0,.string ⟨#[]⟩,.string ⟨#[]⟩,.string ⟨#[]⟩] 163)=w1 at *
  generalize w.heap.size+1+1=rb at *
  generalize w.heap.size+1=fb at *
  refine seqH fun K HK=>?_
  go_wp2_with ((first | (with_reducible refine wpList_stNew 163 _ _ ?_) | (with_reducible refine wp_stNew 163 _ _ ?_));refine ⟨_,_,⟨sizeOf163,rfl,rp_k _ _⟩,rfl,?_⟩)
  refine HK.out _ _ ?_
  clear HK
  have hbx:=blw w1 (Obj.cells (rpA i 0 zeroL (zeroE 0)) 163)
  have O2:=heap_alloc_new w1 (Obj.cells (rpA i 0 zeroL (zeroE 0)) 163)
  have P2:=tr_bl hbx P1
  have F2:=tr_bl hbx F1
  have R2:=tr_bl hbx R1
  have hb2:=hb1.trans (hbx.mono hb1.size)
  have hr1:=lt_blk R1
  clear hb1 P1 F1 R1 hbx
  generalize w1.alloc (Obj.cells (rpA i 0 zeroL (zeroE 0)) 163)=w2 at *
  generalize w1.heap.size=ob at *
  refine seqH fun K HK=>?_
  go_wp2_with (first
   | ((with_reducible refine wpList_ldB 147 _ ?_);refine ⟨rfl,_,⟨_,_,_,_,_,isAgg147,sizeOf147,rfl,‹_›,arr_all rfl⟩,?_⟩)
   | ((with_reducible refine wpList_ldB 150 _ ?_);refine ⟨rfl,_,⟨_,_,_,_,_,isAgg150,sizeOf150,rfl,‹_›,arr_all rfl⟩,?_⟩)
   | (go_at_call 164;refine (hin _).mono ?_;rintro e w3 ⟨rfl,hb3⟩))
  refine HK.out _ _ ?_
  clear HK
  have P:=tr_bl hb3 P2
  have F:=tr_bl hb3 F2
  have R:=tr_bl hb3 R2
  have O:=tr_bl hb3 O2
  have hx:=hb2.trans (hb3.mono hb2.size)
  clear hb2 hb3 P2 F2 R2 O2 hin
  have c0:=rc_0 P
  have c1:=rc_1 P
  have v0:=ff_a0 F
  have v2:=ff_b0 F
  have hr:=HR.out
  clear HR
  have hbad:badS f=((((f 0).st:Int)==2) || (((f 1).st:Int)==2)):=by unfold badS;rw [natI2,natI2]
  have hb3:bad3 f:=by
   unfold bad3
   cases (((f 0).st:Int)==2) <;> cases (((f 1).st:Int)==2) <;> simp
  obtain ⟨y,hy⟩:∃ y,beyondS p f i=y:=⟨_,rfl⟩
  have hD:(((2:Int),(3:Int),p.bal,zeroE 0)=r∧((p.st:Int)==1)=true∧(p.idx==i)=true)∨(((2:Int),(4:Int),zeroL,zeroE 0)=r∧((notP p i∧y=true∧bad3 f)∨(((p.st:Int)==1)=false∧y=false∧((p.st:Int)==2)=true∧bad2 f)))∨(y=false∧((((1:Int),(1:Int),zeroL,zeroE 0)=r∧notP p i∧((p.st:Int)==2)=false∧bad2 f)∨(((0:Int),(1:Int),zeroL,zeroE 0)=r∧((((p.st:Int)==1)=false∧((p.st:Int)==2)=true)∨(notP p i∧((p.st:Int)==2)=false))∧(((f 0).st:Int)==2)=false∧(((f 1).st:Int)==2)=false))):=by
   by_cases h1:p.st=1∧p.idx=i
   ·rw [if_pos h1] at hr
    exact .inl ⟨hr,by rw [h1.1];rfl,by rw [beq_iff_eq];exact h1.2⟩
   rw [if_neg h1,hy] at hr
   have hc:notP p i:=by
    cases h:((p.st:Int)==1)
    ·exact .inl h
    ·refine .inr ⟨h,?_⟩
     rw [beq_eq_false_iff_ne]
     intro h2
     rw [beq_iff_eq] at h
     exact h1 ⟨by omega,h2⟩
   cases y
   case true=>
    rw [if_pos rfl] at hr
    exact .inr (.inl ⟨hr,.inl ⟨hc,rfl,hb3⟩⟩)
   case false=>
    rw [if_neg (by simp),hbad] at hr
    by_cases h2:p.st=2
    ·rw [if_neg (fun h=>h h2)] at hr
     have q1:((p.st:Int)==1)=false:=by rw [h2];rfl
     have q3:((p.st:Int)==2)=true:=by rw [h2];rfl
     rcases hb3 with d1 | ⟨d1,d2⟩ | ⟨d1,d2⟩
     ·rw [d1,if_pos (by simp)] at hr
      exact .inr (.inl ⟨hr,.inr ⟨q1,rfl,q3,.inl d1⟩⟩)
     ·rw [d1,d2,if_pos (by simp)] at hr
      exact .inr (.inl ⟨hr,.inr ⟨q1,rfl,q3,.inr ⟨d1,d2⟩⟩⟩)
     ·rw [d1,d2,if_neg (by simp)] at hr
      exact .inr (.inr ⟨rfl,.inr ⟨hr,.inl ⟨q1,q3⟩,d1,d2⟩⟩)
    ·rw [if_pos h2] at hr
     have q3:((p.st:Int)==2)=false:=by rw [beq_eq_false_iff_ne];omega
     rcases hb3 with d1 | ⟨d1,d2⟩ | ⟨d1,d2⟩
     ·rw [d1,if_pos (by simp)] at hr
      exact .inr (.inr ⟨rfl,.inl ⟨hr,hc,q3,.inl d1⟩⟩)
     ·rw [d1,d2,if_pos (by simp)] at hr
      exact .inr (.inr ⟨rfl,.inl ⟨hr,hc,q3,.inr ⟨d1,d2⟩⟩⟩)
     ·rw [d1,d2,if_neg (by simp)] at hr
      exact .inr (.inr ⟨rfl,.inr ⟨hr,.inr ⟨hc,q3⟩,d1,d2⟩⟩)
  rw [hy] at hbey
  clear hr hy hbad
  rcases hD with ⟨hr,q1,q2⟩ | ⟨hr,h4⟩ | ⟨rfl,h4⟩
  ·clear hbey
   rcases hb3 with d1 | ⟨d1,d2⟩ | ⟨d1,d2⟩
   all_goals
    subst hr
    go_wp2_with (first
     | ((with_reducible refine wpList_ldB 147 _ ?_);refine ⟨rfl,_,⟨_,_,_,_,_,isAgg147,sizeOf147,rfl,‹_›,arr_all rfl⟩,?_⟩)
     | ((with_reducible refine wpList_ldB 150 _ ?_);refine ⟨rfl,_,⟨_,_,_,_,_,isAgg150,sizeOf150,rfl,‹_›,arr_all rfl⟩,?_⟩)
     | ((with_reducible refine wpList_ldB 69 _ ?_);refine ⟨rfl,_,⟨_,_,_,_,_,isAgg69,sizeOf69,rfl,‹_›,rc_bal _⟩,?_⟩)
     | (go_at_call 208;refine (hbey _).mono ?_;rintro e w4 ⟨rfl,hb4⟩;have P:=tr_bl hb4 P;have R:=tr_bl hb4 R;have O:=tr_bl hb4 O;have hx:=hx.trans (hb4.mono hx.size);have c0:=rc_0 P)
     | ((first | (with_reducible refine wpList_stB 5 _ _ ?_) | (with_reducible refine wp_stB 5 _ _ ?_));refine ⟨_,_,_,⟨_,_,_,sizeOf5,rfl,‹_›,rp_st _ _ _ _ _⟩,?_⟩;intro w5 O5 g5;have P5:=tr_st g5 P (by omega);have R5:=tr_st g5 R (by omega);have hx5:=bls hx (Nat.le_refl _) g5 (by omega))
     | ((first | (with_reducible refine wpList_stB 69 _ _ ?_) | (with_reducible refine wp_stB 69 _ _ ?_));refine ⟨_,_,_,⟨_,_,_,sizeOf69,rfl,‹_›,rp_bal _ _ _ _ _⟩,?_⟩;intro w6 O6 g6;have R6:=tr_st g6 R5 (by omega);have hx6:=bls hx5 (Nat.le_refl _) g6 (by omega)))
    have hbd:=(Below.refl w6.heap.size w6).drew
    have OE:=tr_bl hbd O6
    have RE:=tr_bl hbd R6
    have hxE:=hx6.trans (hbd.mono hx6.size)
    refine wp_region_held_drew (S:=fun w'=>w'.heap[ob]?=some (.cells (rpA i 3 p.bal (zeroE 0)) 163 (0,0))) (by kernel_rfl) OE (fun hS0=>?_)
    generalize w6.drew=x0 at *
    refine tkT 0 (v:=.agg (rpA i 3 p.bal (zeroE 0))) rfl (by intro wS hSw;exact exec_ldB 163 _ ⟨_,_,_,_,_,isAgg163,sizeOf163,rfl,hSw,arr_all rfl⟩) ?_
    refine tkP 1 rfl ?_
    refine rdy1 2 rfl (fun K' hK'=>?_)
    refine wp_stB 163 _ _ ?_
    refine ⟨_,_,_,⟨_,_,_,sizeOf163,rfl,RE,rp_over _ _ _ _ i 3 p.bal (zeroE 0)⟩,?_⟩
    intro w8 R8 g8
    refine hK'.out _ _ (tr_st g8 hS0 (show rb≠ob by omega)) (fun _=>?_)
    clear hK'
    (try simp only [Act.put,qa1,qa2,qa3])
    refine tkP 3 rfl ?_
    refine wpAnyH_done (by kernel_rfl) ?_ _
    go_wp2
    refine bodyPost_ret (results_t1c1t1' rfl rfl (run_loadVar_all isAgg163 sizeOf163 R8 rfl)) rfl ⟨⟨_,rfl⟩,bls hxE (Nat.le_refl _) g8 (by omega)⟩
  ·clear hb3
   rcases h4 with ⟨q1 | ⟨q1,q2⟩,rfl,d1 | ⟨d1,d2⟩ | ⟨d1,d2⟩⟩ | ⟨q1,rfl,q3,d1 | ⟨d1,d2⟩⟩
   all_goals
    subst hr
    go_wp2_with (first
     | ((with_reducible refine wpList_ldB 147 _ ?_);refine ⟨rfl,_,⟨_,_,_,_,_,isAgg147,sizeOf147,rfl,‹_›,arr_all rfl⟩,?_⟩)
     | ((with_reducible refine wpList_ldB 150 _ ?_);refine ⟨rfl,_,⟨_,_,_,_,_,isAgg150,sizeOf150,rfl,‹_›,arr_all rfl⟩,?_⟩)
     | ((with_reducible refine wpList_ldB 69 _ ?_);refine ⟨rfl,_,⟨_,_,_,_,_,isAgg69,sizeOf69,rfl,‹_›,rc_bal _⟩,?_⟩)
     | (go_at_call 208;refine (hbey _).mono ?_;rintro e w4 ⟨rfl,hb4⟩;have P:=tr_bl hb4 P;have R:=tr_bl hb4 R;have O:=tr_bl hb4 O;have hx:=hx.trans (hb4.mono hx.size);have c0:=rc_0 P)
     | ((first | (with_reducible refine wpList_stB 5 _ _ ?_) | (with_reducible refine wp_stB 5 _ _ ?_));refine ⟨_,_,_,⟨_,_,_,sizeOf5,rfl,‹_›,rp_st _ _ _ _ _⟩,?_⟩;intro w5 O5 g5;have P5:=tr_st g5 P (by omega);have R5:=tr_st g5 R (by omega);have hx5:=bls hx (Nat.le_refl _) g5 (by omega))
     | ((first | (with_reducible refine wpList_stB 69 _ _ ?_) | (with_reducible refine wp_stB 69 _ _ ?_));refine ⟨_,_,_,⟨_,_,_,sizeOf69,rfl,‹_›,rp_bal _ _ _ _ _⟩,?_⟩;intro w6 O6 g6;have R6:=tr_st g6 R5 (by omega);have hx6:=bls hx5 (Nat.le_refl _) g6 (by omega)))
    have hbd:=(Below.refl w5.heap.size w5).drew
    have OE:=tr_bl hbd O5
    have RE:=tr_bl hbd R5
    have hxE:=hx5.trans (hbd.mono hx5.size)
    refine wp_region_held_drew (S:=fun w'=>w'.heap[ob]?=some (.cells (rpA i 4 zeroL (zeroE 0)) 163 (0,0))) (by kernel_rfl) OE (fun hS0=>?_)
    generalize w5.drew=x0 at *
    refine tkT 0 (v:=.agg (rpA i 4 zeroL (zeroE 0))) rfl (by intro wS hSw;exact exec_ldB 163 _ ⟨_,_,_,_,_,isAgg163,sizeOf163,rfl,hSw,arr_all rfl⟩) ?_
    refine tkP 1 rfl ?_
    refine rdy1 2 rfl (fun K' hK'=>?_)
    refine wp_stB 163 _ _ ?_
    refine ⟨_,_,_,⟨_,_,_,sizeOf163,rfl,RE,rp_over _ _ _ _ i 4 zeroL (zeroE 0)⟩,?_⟩
    intro w8 R8 g8
    refine hK'.out _ _ (tr_st g8 hS0 (show rb≠ob by omega)) (fun _=>?_)
    clear hK'
    (try simp only [Act.put,qa1,qa2,qa3])
    refine tkP 3 rfl ?_
    refine wpAnyH_done (by kernel_rfl) ?_ _
    go_wp2
    refine bodyPost_ret (results_t1c1t1' rfl rfl (run_loadVar_all isAgg163 sizeOf163 R8 rfl)) rfl ⟨⟨_,rfl⟩,bls hxE (Nat.le_refl _) g8 (by omega)⟩
  ·clear hb3
   rcases h4 with ⟨hr,q1 | ⟨q1,q2⟩,q3,d1 | ⟨d1,d2⟩⟩ | ⟨hr,⟨q1,q3⟩ | ⟨q1 | ⟨q1,q2⟩,q3⟩,d1,d2⟩
   all_goals
    subst hr
    go_wp2_with (first
     | ((with_reducible refine wpList_ldB 147 _ ?_);refine ⟨rfl,_,⟨_,_,_,_,_,isAgg147,sizeOf147,rfl,‹_›,arr_all rfl⟩,?_⟩)
     | ((with_reducible refine wpList_ldB 150 _ ?_);refine ⟨rfl,_,⟨_,_,_,_,_,isAgg150,sizeOf150,rfl,‹_›,arr_all rfl⟩,?_⟩)
     | ((with_reducible refine wpList_ldB 69 _ ?_);refine ⟨rfl,_,⟨_,_,_,_,_,isAgg69,sizeOf69,rfl,‹_›,rc_bal _⟩,?_⟩)
     | (go_at_call 208;refine (hbey _).mono ?_;rintro e w4 ⟨rfl,hb4⟩;have P:=tr_bl hb4 P;have R:=tr_bl hb4 R;have O:=tr_bl hb4 O;have hx:=hx.trans (hb4.mono hx.size);have c0:=rc_0 P)
     | ((first | (with_reducible refine wpList_stB 5 _ _ ?_) | (with_reducible refine wp_stB 5 _ _ ?_));refine ⟨_,_,_,⟨_,_,_,sizeOf5,rfl,‹_›,rp_st _ _ _ _ _⟩,?_⟩;intro w5 O5 g5;have P5:=tr_st g5 P (by omega);have R5:=tr_st g5 R (by omega);have hx5:=bls hx (Nat.le_refl _) g5 (by omega))
     | ((first | (with_reducible refine wpList_stB 69 _ _ ?_) | (with_reducible refine wp_stB 69 _ _ ?_));refine ⟨_,_,_,⟨_,_,_,sizeOf69,rfl,‹_›,rp_bal _ _ _ _ _⟩,?_⟩;intro w6 O6 g6;have R6:=tr_st g6 R5 (by omega);have hx6:=bls hx5 (Nat.le_refl _) g6 (by omega)))
    have hbd:=(Below.refl w5.heap.size w5).drew
    have OE:=tr_bl hbd O5
    have RE:=tr_bl hbd R5
    have hxE:=hx5.trans (hbd.mono hx5.size)
    refine wp_region_held_drew (S:=fun w'=>w'.heap[ob]?=some (.cells (rpA i 1 zeroL (zeroE 0)) 163 (0,0))) (by kernel_rfl) OE (fun hS0=>?_)
    generalize w5.drew=x0 at *
    refine tkT 0 (v:=.agg (rpA i 1 zeroL (zeroE 0))) rfl (by intro wS hSw;exact exec_ldB 163 _ ⟨_,_,_,_,_,isAgg163,sizeOf163,rfl,hSw,arr_all rfl⟩) ?_
    refine tkP 1 rfl ?_
    refine rdy1 2 rfl (fun K' hK'=>?_)
    refine wp_stB 163 _ _ ?_
    refine ⟨_,_,_,⟨_,_,_,sizeOf163,rfl,RE,rp_over _ _ _ _ i 1 zeroL (zeroE 0)⟩,?_⟩
    intro w8 R8 g8
    refine hK'.out _ _ (tr_st g8 hS0 (show rb≠ob by omega)) (fun _=>?_)
    clear hK'
    (try simp only [Act.put,qa1,qa2,qa3])
    refine tkP 3 rfl ?_
    refine wpAnyH_done (by kernel_rfl) ?_ _
    go_wp2
    refine bodyPost_ret (results_t1c1t1' rfl rfl (run_loadVar_all isAgg163 sizeOf163 R8 rfl)) rfl ⟨⟨_,rfl⟩,bls hxE (Nat.le_refl _) g8 (by omega)⟩
end
end Go.Proofs.YtbdonjenekhmdaaGreatDoor
