/- Texts that the claim leans on, part 19: D47, D48, D49, D50, C15, C16, C7, C8. -/
import Derived.Test.YtbdonjenekhmdaaGreatDoorZ1
import Derived.Test.YtbdonjenekhmdaaGreatDoorZ2
import Derived.Test.YtbdonjenekhmdaaGreatDoorZ3
import Derived.Test.YtbdonjenekhmdaaGreatDoorZ4
import Derived.Test.YtbdonjenekhmdaaGreatDoorZ5
import Derived.Test.YtbdonjenekhmdaaGreatDoorZ6
import Derived.Test.YtbdonjenekhmdaaGreatDoorZ7
import Derived.Test.YtbdonjenekhmdaaGreatDoorZ8
import Derived.Test.YtbdonjenekhmdaaGreatDoorZ9
import Derived.Test.YtbdonjenekhmdaaGreatDoorZ10
import Derived.Test.YtbdonjenekhmdaaGreatDoorZ11
import Derived.Test.YtbdonjenekhmdaaGreatDoorZ12
import Derived.Test.YtbdonjenekhmdaaGreatDoorZ13
import Derived.Test.YtbdonjenekhmdaaGreatDoorZ14
import Derived.Test.YtbdonjenekhmdaaGreatDoorZ15
import Derived.Test.YtbdonjenekhmdaaGreatDoorZ16
import Derived.Test.YtbdonjenekhmdaaGreatDoorZ17
import Derived.Test.YtbdonjenekhmdaaGreatDoorZ18
namespace Go.Proofs.YtbdonjenekhmdaaGreatDoor
open Go.RowKit Go.Proofs.Tryz
set_option maxRecDepth 100000
set_option maxHeartbeats 32000000
section
section
variable {B g gp:Nat} {wv:Value} {d:Dk} {w:World}
end
end
section
section
variable {B g gp:Nat} {wv:Value} {d:Dk} {w:World}
end
end
section
section
variable {B g gp:Nat} {wv:Value} {d:Dk} {w:World}
end
end
section
theorem take_eq_snoc {l m:List UInt8} {j:Nat} (h:l.take j=m.take j) (hl:j < l.length) (hm:j < m.length) (e:l[j]=m[j]):l.take (j+1)=m.take (j+1):=by
 rw [List.take_succ_eq_append_getElem hl,List.take_succ_eq_append_getElem hm,h,e]
theorem rsame_any (a b:Option Addr) (c k:Nat) (l m:List UInt8) (w:World) (hl:Row w a (bys l)) (hm:Row w b (bys m)) (hb:l.length≤1000000):Calls Tryz.prog 17 #[.slice a l.length c,.slice b m.length k] w fun e w'=>e=.returned (.bool (decide (l=m)))∧Below w.heap.size w w':=by
 by_cases hlen:l.length=m.length
 case neg=>
  rw [decide_eq_false (fun e=>hlen (by rw [e]))]
  have e1:((l.length:Int) != (m.length:Int))=true:=by rw [bne_iff_ne];omega
  go_enter func17,ntmps17
  go_wp2
  go_ret
  exact ⟨rfl,Below.refl _ _⟩
 case pos=>
  have e1:((l.length:Int) != (m.length:Int))=false:=by rw [bne_eq_false_iff_eq];omega
  have HLE:=Lib.hid hlen
  clear hlen
  obtain ⟨r,hr⟩:∃ r,decide (l=m)=r:=⟨_,rfl⟩
  rw [hr]
  have HR:=Lib.hid hr
  clear hr
  go_enter func17,ntmps17
  refine seqH fun K HK=>?_
  go_wp2
  refine HK.out _ _ ?_
  clear HK
  refine seqH fun K HK=>?_
  go_wp2
  refine HK.out _ _ ?_
  clear HK
  refine seqH fun K HK=>?_
  go_wp2_with fail
  go_loopw [5] (fun i wr=>∃ j:Nat,j≤l.length∧i=.int .i64 (j:Nat)∧Hid (l.take j=m.take j)∧Below w.heap.size w wr) (fun i _=>l.length - (intOf i).toNat)
  case atStart=>exact ⟨0,by omega,rfl,Lib.hid rfl,Below.refl _ _⟩
  case round=>
   obtain ⟨j,hj,rfl,ht,hbr⟩:=hrel
   by_cases hlt:j < l.length
   case neg=>
    obtain rfl:j=l.length:=by omega
    have hlm:l=m:=by
     have h:=ht.out
     rw [List.take_length,HLE.out,List.take_length] at h
     exact h
    have hrt:r=true:=by rw [← HR.out,decide_eq_true hlm]
    have HRT:=Lib.hid hrt
    clear hrt hlm e1
    go_wp2
    refine HK.out _ _ ?_
    clear HK
    go_wp2
    go_ret
    exact ⟨by rw [HRT.out];rfl,hbr⟩
   case pos=>
    have hltm:j < m.length:=by have:=HLE.out;omega
    obtain ⟨b1,f1,rfl,hc1⟩:=(hl.below0 hbr).byte hlt
    obtain ⟨b2,f2,rfl,hc2⟩:=(hm.below0 hbr).byte hltm
    have hsn:=fun e=>take_eq_snoc ht.out hlt hltm e
    have hnt:l[j]≠m[j]→r=false:=fun hne=>by
     rw [← HR.out,decide_eq_false]
     intro e
     exact hne (by simp only [e])
    generalize l[j]=x at *
    generalize m[j]=y at *
    have HNT:=Lib.hid hnt
    have HSN:=Lib.hid hsn
    clear hnt hsn ht
    go_wp2_with fail
    have hbd:=(Below.refl wr.heap.size wr).drew
    have hlm:(j:Int) < m.length:=by omega
    refine wp_region_cls (C:=fun w'=>Below wr.heap.size wr w') (by kernel_rfl) (by kernel_rfl) hbd ?_
    clear hbd
    iterate 3
     refine qvP ?_
    refine wpQuiet_val (by rfl) ?_ ?_ ?_
    rotate_left
    ·intro wS hSw
     have c:=(hSw.cell (World.block_lt_of_cell? _ _ hc1)).trans hc1
     go_simp
     (try with_reducible rfl)
    iterate 3
     (try simp only [Act.put,qa1,qa2,qa3])
     refine qvP ?_
    (try simp only [Act.put,qa1,qa2,qa3])
    refine wpQuiet_val (by rfl) ?_ ?_ ?_
    rotate_left
    ·intro wS hSw
     have c:=(hSw.cell (World.block_lt_of_cell? _ _ hc2)).trans hc2
     go_simp
     (try with_reducible rfl)
    (try simp only [Act.put,qa1,qa2,qa3])
    refine qvP ?_
    refine wpQuiet_nil ?_
    intro wE hE
    have hbE:=hbr.trans (hE.mono hbr.size)
    by_cases hxy:x=y
    ·subst hxy
     have e2:((x.toNat:Int) != (x.toNat:Int))=false:=by simp
     go_wp2
     go_roundw
     case rel=>exact ⟨j+1,by omega,by go_num,Lib.hid (HSN.out rfl),hbE⟩
     case measure=>simp [intOf];omega
    ·have e2:((x.toNat:Int) != (y.toNat:Int))=true:=by
      rw [bne_iff_ne]
      intro e
      exact hxy (UInt8.toNat_inj.1 (by omega))
     obtain rfl:=HNT.out hxy
     go_wp2
     go_ret
     exact ⟨rfl,hbE⟩
def loadsD (d:Dk) (reg ver:Int) (body:List UInt8):Bool:=decide ((loadC d 0 reg).2.2=0) && (decide ((loadC d 0 reg).1=ver) && decide ((loadC d 0 reg).2.1=body))
end
section
theorem OwnB.of_rowR {w:World} {base:Nat} {v:Value} {l:List UInt8} (h:w.ownsRow base 5 1 v l.length (bys l)):∃ a c,v=.slice a l.length c∧OwnB w base a c l:=by
 rcases h.2 with ⟨h1,h2⟩ | ⟨g,cap,cur,h1,h2,h3,h4,h5,h6,h7⟩
 ·have:l=[]:=List.eq_nil_of_length_eq_zero h2
  subst this
  exact ⟨Option.none,0,h1,OwnB.none _ _⟩
 ·refine ⟨some ⟨g,0,.none⟩,cap,h1,.inr ⟨g,cur.toList.drop (bys l).length,rfl,h2,h4,h5,?_⟩⟩
  rw [Nat.mul_one] at h7
  have e:bys l++cur.toList.drop (bys l).length=cur.toList:=by
   rw [bys_len,← h7,List.take_append_drop]
  rw [e,Array.toArray_toList]
  exact h3
theorem getN_b2 {l:List UInt8} (h:2≤l.length):getN l 0 2=(l[0]'(by omega)).toNat+256 * (l[1]'(by omega)).toNat:=by
 match l,h with
 | a :: b :: l,_=>
  show ofLe [a,b]=a.toNat+256 * b.toNat
  simp [ofLe]
theorem ropen_odd (a:Option Addr) (cap:Nat) (l:List UInt8) (w:World) (hl:l.length≤1000) (hr:roomN l.length=0):Calls Tryz.prog 187 #[.slice a l.length cap] w fun e w'=>FrRes w.heap.size (openF l) e w'∧Below w.heap.size w w':=by
 rw [openF_size hr]
 have hbB:=blw w (Obj.cells #[.int .i64 0,.int .i64 0,.int .i64 0,.int .i64 0,.int .i64 0] 39)
 have B3:=heap_alloc_new w (Obj.cells #[.int .i64 0,.int .i64 0,.int .i64 0,.int .i64 0,.int .i64 0] 39)
 by_cases hm:l.length % 64=0
 ·obtain ⟨k,hk⟩:∃ k,l.length=64 * k:=⟨l.length / 64,by omega⟩
  rw [hk] at hr
  have hroom:∀ w,Calls Tryz.prog 137 #[.int .i64 (k:Int)] w fun e w'=>e=.returned (.int .i64 0)∧w=w':=fun w=>by
   have:=rroom_any k w
   rw [hr] at this
   exact this
  have e1:(l.length:Int) / 64=(k:Int):=by omega
  have e2:((l.length:Int).tmod 64)=0:=by rw [Int.tmod_eq_emod_of_nonneg (by omega)];omega
  have e3:((l.length:Int) % 64)=0:=by omega
  clear hk hm hr
  go_enter func187,ntmps187
  go_wp2_with (first
   | (go_at_call 137;refine (hroom _).mono ?_;rintro e w2 ⟨rfl,rfl⟩)
   | ((with_reducible refine wpList_stB 39 _ _ ?_);refine ⟨_,_,_,⟨_,_,_,sizeOf39,rfl,B3,st5 _ rfl 0 0 0 0 0⟩,?_⟩;intro w5 B5 g5))
  refine bodyPost_ret (results_t1c1t1 rfl rfl (run_loadVar_all isAgg39 sizeOf39 B5 rfl)) rfl ⟨FrRes.none rfl,bl_st hbB g5 hbB.size (Nat.le_refl _)⟩
 ·have e2:((l.length:Int).tmod 64 != 0)=true:=by rw [bne_iff_ne,Int.tmod_eq_emod_of_nonneg (by omega)];omega
  have e3:((l.length:Int) % 64 != 0)=true:=by rw [bne_iff_ne];omega
  clear hm hr
  go_enter func187,ntmps187
  go_wp2_with (first
   | ((with_reducible refine wpList_stB 39 _ _ ?_);refine ⟨_,_,_,⟨_,_,_,sizeOf39,rfl,B3,st5 _ rfl 0 0 0 0 0⟩,?_⟩;intro w5 B5 g5))
  refine bodyPost_ret (results_t1c1t1 rfl rfl (run_loadVar_all isAgg39 sizeOf39 B5 rfl)) rfl ⟨FrRes.none rfl,bl_st hbB g5 hbB.size (Nat.le_refl _)⟩
theorem ropen_z1 (a:Option Addr) (cap:Nat) (l:List UInt8) (w:World) (hs:SlB w a cap l) (hl:l.length=64) (hz:noughtsB l=true):Calls Tryz.prog 187 #[.slice a 64 cap] w fun e w'=>FrRes w.heap.size (openF l) e w'∧Below w.heap.size w w':=by
 have ho:openF l=(0,zeroTg,[]):=by unfold openF;rw [hl,if_neg (by decide),if_pos hz]
 rw [ho]
 have hroom:∀ w,Calls Tryz.prog 137 #[.int .i64 1] w fun e w'=>e=.returned (.int .i64 43)∧w=w':=fun w=>rroom_any 1 w
 have hbB:=blw w (Obj.cells #[.int .i64 0,.int .i64 0,.int .i64 0,.int .i64 0,.int .i64 0] 39)
 have B3:=heap_alloc_new w (Obj.cells #[.int .i64 0,.int .i64 0,.int .i64 0,.int .i64 0,.int .i64 0] 39)
 have hno:=rblank_any a cap l (w.alloc (Obj.cells #[.int .i64 0,.int .i64 0,.int .i64 0,.int .i64 0,.int .i64 0] 39)) (hs.below hbB)
 rw [hl,hz] at hno
 clear ho hz hl
 go_enter func187,ntmps187
 go_wp2_with (first
  | (go_at_call 137;refine (hroom _).mono ?_;rintro e w2 ⟨rfl,rfl⟩)
  | (go_at_call 215;refine hno.mono ?_;rintro e w2 ⟨rfl,rfl⟩)
  | ((with_reducible refine wpList_stB 39 _ _ ?_);refine ⟨_,_,_,⟨_,_,_,sizeOf39,rfl,B3,st5 _ rfl 0 0 0 0 0⟩,?_⟩;intro w5 B5 g5))
 refine bodyPost_ret (results_t1c1t1 rfl rfl (run_loadVar_all isAgg39 sizeOf39 B5 rfl)) rfl ⟨FrRes.none rfl,bl_st hbB g5 hbB.size (Nat.le_refl _)⟩
theorem ropen_z2 (a:Option Addr) (cap:Nat) (l:List UInt8) (w:World) (hs:SlB w a cap l) (hl:l.length=128) (hz:noughtsB l=true):Calls Tryz.prog 187 #[.slice a 128 cap] w fun e w'=>FrRes w.heap.size (openF l) e w'∧Below w.heap.size w w':=by
 have ho:openF l=(0,zeroTg,[]):=by unfold openF;rw [hl,if_neg (by decide),if_pos hz]
 rw [ho]
 have hroom:∀ w,Calls Tryz.prog 137 #[.int .i64 2] w fun e w'=>e=.returned (.int .i64 88)∧w=w':=fun w=>rroom_any 2 w
 have hbB:=blw w (Obj.cells #[.int .i64 0,.int .i64 0,.int .i64 0,.int .i64 0,.int .i64 0] 39)
 have B3:=heap_alloc_new w (Obj.cells #[.int .i64 0,.int .i64 0,.int .i64 0,.int .i64 0,.int .i64 0] 39)
 have hno:=rblank_any a cap l (w.alloc (Obj.cells #[.int .i64 0,.int .i64 0,.int .i64 0,.int .i64 0,.int .i64 0] 39)) (hs.below hbB)
 rw [hl,hz] at hno
 clear ho hz hl
 go_enter func187,ntmps187
 go_wp2_with (first
  | (go_at_call 137;refine (hroom _).mono ?_;rintro e w2 ⟨rfl,rfl⟩)
  | (go_at_call 215;refine hno.mono ?_;rintro e w2 ⟨rfl,rfl⟩)
  | ((with_reducible refine wpList_stB 39 _ _ ?_);refine ⟨_,_,_,⟨_,_,_,sizeOf39,rfl,B3,st5 _ rfl 0 0 0 0 0⟩,?_⟩;intro w5 B5 g5))
 refine bodyPost_ret (results_t1c1t1 rfl rfl (run_loadVar_all isAgg39 sizeOf39 B5 rfl)) rfl ⟨FrRes.none rfl,bl_st hbB g5 hbB.size (Nat.le_refl _)⟩
theorem ropen_m1 (b off:Nat) (cap:Nat) (l:List UInt8) (w:World) (hs:SlB w (some ⟨b,off,none⟩) cap l) (hl:l.length=64) (hz:noughtsB l=false):Calls Tryz.prog 187 #[.slice (some ⟨b,off,none⟩) 64 cap] w fun e w'=>FrRes w.heap.size (openF l) e w'∧Below w.heap.size w w':=by
 rw [open_ref (b:=l) (by rw [hl];decide) hz]
 have hroom:∀ w,Calls Tryz.prog 137 #[.int .i64 1] w fun e w'=>e=.returned (.int .i64 43)∧w=w':=fun w=>rroom_any 1 w
 have hcap:64≤cap:=by have:=hs.le;omega
 have hmx:=hs.max
 unfold maxLen at hmx
 have k2:¬ cap=2:=by omega
 have k17:¬ cap=17:=by omega
 have hbB:=blw w (Obj.cells #[.int .i64 0,.int .i64 0,.int .i64 0,.int .i64 0,.int .i64 0] 39)
 have B3:=heap_alloc_new w (Obj.cells #[.int .i64 0,.int .i64 0,.int .i64 0,.int .i64 0,.int .i64 0] 39)
 have hno:=rblank_any _ cap l (w.alloc (Obj.cells #[.int .i64 0,.int .i64 0,.int .i64 0,.int .i64 0,.int .i64 0] 39)) (hs.below hbB)
 rw [hl,hz] at hno
 have hn2:=getN_b2 (l:=l) (by omega)
 have hl0:=(l[0]'(by omega)).toNat_lt
 have hl1:=(l[1]'(by omega)).toNat_lt
 have hc0:=hs.row.byteAt (i:=0) (by omega)
 have hc1:=hs.row.byteAt (i:=1) (by omega)
 generalize (l[0]'(by omega)).toNat=y0 at *
 generalize (l[1]'(by omega)).toNat=y1 at *
 have hpa:∀ w',SlB w' (some ⟨b,off,none⟩) cap l→Calls Tryz.prog 216 #[.slice (some ⟨b,off+2,none⟩) 15 (cap - 2)] w' fun e w''=>e=.returned (.tuple #[tgV (parseT ((l.drop 2).take 15)).1,.int .i64 (parseT ((l.drop 2).take 15)).2])∧Below w'.heap.size w' w'':=fun w' h=>
  rtparse_any _ _ _ w' (h.sub 2 15 (by omega)) (by rw [List.length_take,List.length_drop];omega)
 obtain ⟨tg,pe,hpt,hpe⟩:∃ tg pe,parseT ((l.drop 2).take 15)=(tg,pe)∧((pe=0∧tg=tagAt l 2∧mayTg (tagAt l 2)=true)∨(pe=30∧mayTg (tagAt l 2)=false)):=by
  unfold parseT
  rw [tagAt_sub]
  cases h:mayTg (tagAt l 2)
  ·exact ⟨_,_,rfl,.inr ⟨rfl,rfl⟩⟩
  ·exact ⟨_,_,rfl,.inl ⟨rfl,rfl,rfl⟩⟩
 rw [hpt] at hpa
 simp only at hpa
 obtain ⟨n,hn⟩:∃ n,getN l 0 2=n:=⟨_,rfl⟩
 rw [hn] at hn2 ⊢
 rw [hl]
 obtain ⟨r,hr⟩:∃ r,(if mayTg (tagAt l 2)=true∧n≤roomN 64∧sealF (tagAt l 2) ((l.drop 17).take n) 64=l then (1,tagAt l 2,(l.drop 17).take n) else (2,zeroTg,[]))=r:=⟨_,rfl⟩
 rw [hr]
 have HR:=Lib.hid hr
 clear hr
 have HPE:=Lib.hid hpe
 have HL:=Lib.hid hl
 have HN2:=Lib.hid hn2
 have HY1:=Lib.hid (show IntKind.i64.wrap (y1:Int)=y1 from IntWalk.i64_in _ (by omega))
 have HY0:=Lib.hid (show IntKind.i64.wrap (y0:Int)=y0 from IntWalk.i64_in _ (by omega))
 have HYM:=Lib.hid (show IntKind.i64.wrap (256 * (y1:Int))=256 * (y1:Int) from IntWalk.i64_in _ (by omega))
 have HYA:=Lib.hid (show IntKind.i64.wrap ((y0:Int)+256 * (y1:Int))=(n:Int) by rw [hn2];push_cast;exact IntWalk.i64_in _ (by omega))
 have hnlt:n < 65536:=by omega
 have hbw:b < w.heap.size:=World.block_lt_of_cell? _ _ hc0
 clear hpe hpt hz hl hn hn2 hl0 hl1
 go_enter func187,ntmps187
 refine seqH fun K HK=>?_
 go_wp2
 refine HK.out _ _ ?_
 clear HK
 refine seqH fun K HK=>?_
 go_wp2
 refine HK.out _ _ ?_
 clear HK
 refine seqH fun K HK=>?_
 go_wp2_with (go_at_call 137;refine (hroom _).mono ?_;rintro e w2 ⟨rfl,rfl⟩)
 refine HK.out _ _ ?_
 clear HK
 refine seqH fun K HK=>?_
 go_wp2_with (go_at_call 215;refine hno.mono ?_;rintro e w2 ⟨rfl,rfl⟩)
 refine HK.out _ _ ?_
 clear HK
 clear hno
 generalize w.alloc (Obj.cells #[.int .i64 0,.int .i64 0,.int .i64 0,.int .i64 0,.int .i64 0] 39)=w1 at *
 obtain ⟨q,hq⟩:∃ q,w.heap.size=q:=⟨_,rfl⟩
 rw [hq] at B3 hbB hbw
 try rw [hq]
 have hq1:q≤w1.heap.size:=Nat.le_of_lt (lt_blk B3)
 have HS:=Lib.hid hs
 have hd0:w1.cell? ⟨b,off,none⟩=some (.int .u8 y0):=(hbB.cell (p:=⟨b,off,none⟩) hbw).trans hc0
 have hd1:w1.cell? ⟨b,off+1,none⟩=some (.int .u8 y1):=(hbB.cell (p:=⟨b,off+1,none⟩) hbw).trans hc1
 have hsl:∀ w',Below q w w'→SlB w' (some ⟨b,off,none⟩) cap l:=fun w' h=>HS.out.below (by rw [hq];exact h)
 have HSL:=Lib.hid hsl
 clear hq hs hc0 hc1 hsl HS
 refine seqH fun K HK=>?_
 go_wp2_with fail
 have hbd:=(Below.refl w1.heap.size w1).drew
 have hb1:=hbB.trans (hbd.mono hq1)
 have B4:=tr_bl hbd B3
 have e0:w1.drew.cell? ⟨b,off,none⟩=some (.int .u8 y0):=hd0
 have e1:w1.drew.cell? ⟨b,off+1,none⟩=some (.int .u8 y1):=hd1
 have hq2:q≤w1.drew.heap.size:=hq1
 have hbl:b < w1.drew.heap.size:=Nat.lt_of_lt_of_le hbw hq1
 clear hbd B3 hd0 hd1 hbB hq1 hbw
 refine wp_region_held_drew (S:=fun w'=>Below w1.drew.heap.size w1.drew w') (by kernel_rfl) (Below.refl _ _) (fun hS0=>?_)
 generalize w1.drew=w2 at *
 refine tkP 0 rfl ?_
 refine tkP 1 rfl ?_
 refine tkT 2 rfl (by intro wS hSw;have c:=(hSw.cell (p:=⟨b,off,none⟩) hbl).trans e0;go_simp;(try with_reducible rfl)) ?_
 refine tkT 3 (v:=.int .i64 (y0:Int)) rfl (by intro wS hSw;go_simp;rw [HY0.out]) ?_
 refine tkP 4 rfl ?_
 refine tkP 5 rfl ?_
 refine tkT 6 rfl (by intro wS hSw;have c:=(hSw.cell (p:=⟨b,off+1,none⟩) hbl).trans e1;go_simp;(try with_reducible rfl)) ?_
 refine tkT 7 (v:=.int .i64 (y1:Int)) rfl (by intro wS hSw;go_simp;rw [HY1.out]) ?_
 refine tkT 8 (v:=.int .i64 (256 * (y1:Int))) rfl (by intro wS hSw;go_simp;rw [HYM.out]) ?_
 refine tkT 9 (v:=.int .i64 (n:Int)) rfl (by intro wS hSw;go_simp;rw [HYA.out]) ?_
 refine tkP 10 rfl ?_
 refine wpAnyH_done (by kernel_rfl) ?_ _
 refine HK.out _ _ ?_
 clear HK e0 e1 hbl hS0
 have hs2:=HSL.out _ hb1
 refine seqH fun K HK=>?_
 go_wp2_with (go_at_call 216;refine (hpa _ hs2).mono ?_;rintro e w5 ⟨rfl,hb6⟩)
 refine HK.out _ _ ?_
 clear HK
 have A5:=tr_al (Obj.cells #[.int .i64 tg.rep,.int .i64 tg.reg,.int .i64 tg.pla,.int .i64 tg.idx,.int .i64 tg.inc] 39) (tr_bl hb6 B4)
 have T5:=heap_alloc_new w5 (Obj.cells #[.int .i64 tg.rep,.int .i64 tg.reg,.int .i64 tg.pla,.int .i64 tg.idx,.int .i64 tg.inc] 39)
 have hb50:=hb1.trans (hb6.mono hq2)
 have hq5:=Nat.le_trans hq2 hb6.size
 have hb7:=hb50.trans ((blw w5 (Obj.cells #[.int .i64 tg.rep,.int .i64 tg.reg,.int .i64 tg.pla,.int .i64 tg.idx,.int .i64 tg.inc] 39)).mono hq5)
 have hq0:q < w5.heap.size:=Nat.lt_of_lt_of_le (lt_blk B4) (hb6.size)
 have hq7:=Nat.le_trans hq5 (blw w5 (Obj.cells #[.int .i64 tg.rep,.int .i64 tg.reg,.int .i64 tg.pla,.int .i64 tg.idx,.int .i64 tg.inc] 39)).size
 have hs7:=HSL.out _ hb7
 clear hb1 hs2 hb6 hb50 hpa B4 hq2 hq5
 generalize w5.alloc (Obj.cells #[.int .i64 tg.rep,.int .i64 tg.reg,.int .i64 tg.pla,.int .i64 tg.idx,.int .i64 tg.inc] 39)=w6 at *
 generalize w5.heap.size=q5 at *
 have HNO:Hid (¬ (mayTg (tagAt l 2)=true∧n≤43∧sealF (tagAt l 2) ((l.drop 17).take n) 64=l)→r=(2,zeroTg,[])):=Lib.hid (fun h=>by rw [← HR.out];exact if_neg h)
 rcases HPE.out with ⟨h1,h2,h3⟩ | ⟨h1,h3⟩
 case inr=>
  obtain rfl:=HNO.out (by rw [h3];simp)
  subst h1
  clear h3 HPE
  go_wp2_with (first
   | (go_at_call 137;refine (hroom _).mono ?_;rintro e w2 ⟨rfl,rfl⟩)
   | ((with_reducible refine wpList_stB 39 _ _ ?_);refine ⟨_,_,_,⟨_,_,_,sizeOf39,rfl,A5,st5 _ rfl 0 0 0 0 0⟩,?_⟩;intro w5 B5 g5))
  refine bodyPost_ret (results_t1c1t1 rfl rfl (run_loadVar_all isAgg39 sizeOf39 B5 rfl)) rfl ⟨FrRes.none rfl,bl_st hb7 g5 hq7 (Nat.le_refl _)⟩
 case inl=>
 subst h1
 have HTG:=Lib.hid h2
 have HMY:=Lib.hid h3
 clear h3 HPE h2
 by_cases hnr:n≤43
 case neg=>
  obtain rfl:=HNO.out (fun h=>hnr h.2.1)
  have hI:(43:Int) < n:=by omega
  go_wp2_with (first
   | (go_at_call 137;refine (hroom _).mono ?_;rintro e w2 ⟨rfl,rfl⟩)
   | ((with_reducible refine wpList_stB 39 _ _ ?_);refine ⟨_,_,_,⟨_,_,_,sizeOf39,rfl,A5,st5 _ rfl 0 0 0 0 0⟩,?_⟩;intro w5 B5 g5))
  refine bodyPost_ret (results_t1c1t1 rfl rfl (run_loadVar_all isAgg39 sizeOf39 B5 rfl)) rfl ⟨FrRes.none rfl,bl_st hb7 g5 hq7 (Nat.le_refl _)⟩
 case pos=>
 have hI:(n:Int)≤43:=by omega
 have kn:¬ cap=17+n:=by omega
 have hbl:((l.drop 17).take n).length=n:=by rw [List.length_take,List.length_drop,HL.out];omega
 have hsb:=hs7.sub 17 n (by rw [HL.out];omega)
 have hcp:=copy_any _ _ _ w6 hsb (by omega)
 rw [hbl] at hcp
 have HBL:=Lib.hid hbl
 obtain ⟨body,hbody⟩:∃ body,(l.drop 17).take n=body:=⟨_,rfl⟩
 rw [hbody] at hcp hsb HBL
 have HBY:=Lib.hid hbody
 have HNR:=Lib.hid hnr
 clear hbody hbl hsb
 refine seqH fun K HK=>?_
 go_wp2_with (go_at_call 137;refine (hroom _).mono ?_;rintro e w2 ⟨rfl,rfl⟩)
 refine HK.out _ _ ?_
 clear HK
 refine seqH fun K HK=>?_
 go_wp2_with (go_at_call 10;refine hcp.mono ?_;rintro e w8 ⟨⟨v8,rfl,o8⟩,hb8⟩)
 refine HK.out _ _ ?_
 clear HK
 have A8:=tr_bl hb8 A5
 have T8:=tr_bl hb8 T5
 have hb9:=hb7.trans (hb8.mono hq7)
 have hq8:=Nat.le_trans hq7 hb8.size
 have o8':w8.ownsRow q 5 1 v8 body.length (bys body):=by rw [HBL.out];exact owns_mono o8 hq7
 clear A5 T5 hb7 hs7 hcp hb8 o8
 obtain ⟨ba,bc,rfl,ob8⟩:=OwnB.of_rowR o8'
 have hsb:=ob8.slb
 have hse:=rseal_any tg ba bc body 1 w8 hsb (by have:=HBL.out;omega) (by decide)
 clear hsb o8'
 refine seqH fun K HK=>?_
 go_wp2_with (first
   | ((with_reducible refine wpList_ldB 39 _ ?_);refine ⟨rfl,_,⟨_,_,_,_,_,isAgg39,sizeOf39,rfl,‹_›,ld5 _ _ _ _ _⟩,?_⟩)
   | (go_at_call 60;refine hse.mono ?_;rintro e w9 ⟨⟨v9,rfl,o9⟩,hb10⟩))
 refine HK.out _ _ ?_
 clear HK
 have A9:=tr_bl hb10 A8
 have T9:=tr_bl hb10 T8
 have hb11:=hb9.trans (hb10.mono hq8)
 have hq9:=Nat.le_trans hq8 hb10.size
 have ob9:=ob8.below hb10
 obtain ⟨sa,sc,rfl,hsa⟩:=SlB.of_owns o9
 have hsr:sealR tg body 1=sealF (tagAt l 2) ((l.drop 17).take n) 64:=by
  have h1:mayTg tg=true:=by rw [HTG.out];exact HMY.out
  unfold sealR
  rw [if_pos ⟨h1,by decide,by have:=HBL.out;show body.length≤43;omega⟩,HTG.out,HBY.out]
 have hsm:=rsame_any sa (some ⟨b,off,none⟩) sc cap (sealR tg body 1) l w9 hsa.row (HSL.out _ hb11).row (by have:=(sealR_le tg body 1).1;omega)
 rw [hsr,HL.out] at hsm
 rw [hsr]
 clear A8 T8 hb9 hq8 ob8 hb10 o9 hsa hse hsr
 by_cases heq:sealF (tagAt l 2) ((l.drop 17).take n) 64=l
 case neg=>
  obtain rfl:=HNO.out (fun h=>heq h.2.2)
  rw [decide_eq_false heq] at hsm
  clear heq
  generalize sealF (tagAt l 2) ((l.drop 17).take n) 64=sl at *
  go_wp2_with (first
   | ((with_reducible refine wpList_stB 39 _ _ ?_);refine ⟨_,_,_,⟨_,_,_,sizeOf39,rfl,A10,st5 _ rfl 0 0 0 0 0⟩,?_⟩;intro w5 B5 g5)
   | (go_at_call 17;refine hsm.mono ?_;rintro e w10 ⟨rfl,hb12⟩;have A10:=tr_bl hb12 A9;have hb13:=hb11.trans (hb12.mono hq9)))
  refine bodyPost_ret (results_t1c1t1 rfl rfl (run_loadVar_all isAgg39 sizeOf39 B5 rfl)) rfl ⟨FrRes.none rfl,bl_st hb13 g5 (Nat.le_trans hq9 hb12.size) (Nat.le_refl _)⟩
 case pos=>
  obtain rfl:(1,tg,body)=r:=by rw [← HR.out,if_pos ⟨HMY.out,HNR.out,heq⟩,HTG.out,HBY.out]
  rw [decide_eq_true heq] at hsm
  clear heq HR HNO
  generalize sealF (tagAt l 2) ((l.drop 17).take n) 64=sl at *
  refine seqH fun K HK=>?_
  go_wp2_with (go_at_call 17;refine hsm.mono ?_;rintro e w10 ⟨rfl,hb12⟩)
  refine HK.out _ _ ?_
  clear HK
  refine seqH fun K HK=>?_
  go_wp2_with fail
  have hbd:=(Below.refl w10.heap.size w10).drew
  have F4:=tr_bl hbd (tr_bl hb12 A9)
  have T11:=tr_bl hbd (tr_bl hb12 T9)
  have hb13:=hb11.trans (hb12.mono hq9)
  have hq10:=Nat.le_trans hq9 hb12.size
  have hb14:=hb13.trans (hbd.mono hq10)
  have hq11:q≤w10.drew.heap.size:=hq10
  have ob11:=(ob9.below hb12).below hbd
  clear A9 T9 hb11 ob9 hb12 hb13 hsm
  refine wp_region_held_drew (S:=fun w'=>w'.heap[q5]?=some (.cells #[.int .i64 tg.rep,.int .i64 tg.reg,.int .i64 tg.pla,.int .i64 tg.idx,.int .i64 tg.inc] 39 (0,0))) (by kernel_rfl) T11 (fun hS0=>?_)
  clear hbd
  generalize w10.drew=x0 at *
  refine tkT 0 (v:=.agg (#[.int .i64 tg.rep,.int .i64 tg.reg,.int .i64 tg.pla,.int .i64 tg.idx,.int .i64 tg.inc])) rfl (by intro wS hSw;exact exec_ldB 39 _ ⟨_,_,_,_,_,isAgg39,sizeOf39,rfl,hSw,ld5 _ _ _ _ _⟩) ?_
  refine tkP 1 rfl ?_
  refine tkP 2 rfl ?_
  refine rdy1 3 rfl (fun K' hK'=>?_)
  refine wp_stB 39 _ _ ?_
  refine ⟨_,_,_,⟨_,_,_,sizeOf39,rfl,F4,st5 _ rfl tg.rep tg.reg tg.pla tg.idx tg.inc⟩,?_⟩
  intro w11 B11 g11
  refine hK'.out _ _ (tr_st g11 hS0 (by omega)) (fun _=>?_)
  clear hK'
  (try simp only [Act.put,qa1,qa2,qa3])
  refine tkP 4 rfl ?_
  refine wpAnyH_done (by kernel_rfl) ?_ _
  refine HK.out _ _ ?_
  clear HK
  go_wp2
  refine bodyPost_ret (results_t1c1t1 rfl rfl (run_loadVar_all isAgg39 sizeOf39 B11 rfl)) rfl ⟨⟨ba,bc,rfl,ob11.st g11 F4 (by decide)⟩,bl_st hb14 g11 hq11 (Nat.le_refl _)⟩
theorem ropen_m2 (b off:Nat) (cap:Nat) (l:List UInt8) (w:World) (hs:SlB w (some ⟨b,off,none⟩) cap l) (hl:l.length=128) (hz:noughtsB l=false):Calls Tryz.prog 187 #[.slice (some ⟨b,off,none⟩) 128 cap] w fun e w'=>FrRes w.heap.size (openF l) e w'∧Below w.heap.size w w':=by
 rw [open_ref (b:=l) (by rw [hl];decide) hz]
 have hroom:∀ w,Calls Tryz.prog 137 #[.int .i64 2] w fun e w'=>e=.returned (.int .i64 88)∧w=w':=fun w=>rroom_any 2 w
 have hcap:128≤cap:=by have:=hs.le;omega
 have hmx:=hs.max
 unfold maxLen at hmx
 have k2:¬ cap=2:=by omega
 have k17:¬ cap=17:=by omega
 have hbB:=blw w (Obj.cells #[.int .i64 0,.int .i64 0,.int .i64 0,.int .i64 0,.int .i64 0] 39)
 have B3:=heap_alloc_new w (Obj.cells #[.int .i64 0,.int .i64 0,.int .i64 0,.int .i64 0,.int .i64 0] 39)
 have hno:=rblank_any _ cap l (w.alloc (Obj.cells #[.int .i64 0,.int .i64 0,.int .i64 0,.int .i64 0,.int .i64 0] 39)) (hs.below hbB)
 rw [hl,hz] at hno
 have hn2:=getN_b2 (l:=l) (by omega)
 have hl0:=(l[0]'(by omega)).toNat_lt
 have hl1:=(l[1]'(by omega)).toNat_lt
 have hc0:=hs.row.byteAt (i:=0) (by omega)
 have hc1:=hs.row.byteAt (i:=1) (by omega)
 generalize (l[0]'(by omega)).toNat=y0 at *
 generalize (l[1]'(by omega)).toNat=y1 at *
 have hpa:∀ w',SlB w' (some ⟨b,off,none⟩) cap l→Calls Tryz.prog 216 #[.slice (some ⟨b,off+2,none⟩) 15 (cap - 2)] w' fun e w''=>e=.returned (.tuple #[tgV (parseT ((l.drop 2).take 15)).1,.int .i64 (parseT ((l.drop 2).take 15)).2])∧Below w'.heap.size w' w'':=fun w' h=>
  rtparse_any _ _ _ w' (h.sub 2 15 (by omega)) (by rw [List.length_take,List.length_drop];omega)
 obtain ⟨tg,pe,hpt,hpe⟩:∃ tg pe,parseT ((l.drop 2).take 15)=(tg,pe)∧((pe=0∧tg=tagAt l 2∧mayTg (tagAt l 2)=true)∨(pe=30∧mayTg (tagAt l 2)=false)):=by
  unfold parseT
  rw [tagAt_sub]
  cases h:mayTg (tagAt l 2)
  ·exact ⟨_,_,rfl,.inr ⟨rfl,rfl⟩⟩
  ·exact ⟨_,_,rfl,.inl ⟨rfl,rfl,rfl⟩⟩
 rw [hpt] at hpa
 simp only at hpa
 obtain ⟨n,hn⟩:∃ n,getN l 0 2=n:=⟨_,rfl⟩
 rw [hn] at hn2 ⊢
 rw [hl]
 obtain ⟨r,hr⟩:∃ r,(if mayTg (tagAt l 2)=true∧n≤roomN 128∧sealF (tagAt l 2) ((l.drop 17).take n) 128=l then (1,tagAt l 2,(l.drop 17).take n) else (2,zeroTg,[]))=r:=⟨_,rfl⟩
 rw [hr]
 have HR:=Lib.hid hr
 clear hr
 have HPE:=Lib.hid hpe
 have HL:=Lib.hid hl
 have HN2:=Lib.hid hn2
 have HY1:=Lib.hid (show IntKind.i64.wrap (y1:Int)=y1 from IntWalk.i64_in _ (by omega))
 have HY0:=Lib.hid (show IntKind.i64.wrap (y0:Int)=y0 from IntWalk.i64_in _ (by omega))
 have HYM:=Lib.hid (show IntKind.i64.wrap (256 * (y1:Int))=256 * (y1:Int) from IntWalk.i64_in _ (by omega))
 have HYA:=Lib.hid (show IntKind.i64.wrap ((y0:Int)+256 * (y1:Int))=(n:Int) by rw [hn2];push_cast;exact IntWalk.i64_in _ (by omega))
 have hnlt:n < 65536:=by omega
 have hbw:b < w.heap.size:=World.block_lt_of_cell? _ _ hc0
 clear hpe hpt hz hl hn hn2 hl0 hl1
 go_enter func187,ntmps187
 refine seqH fun K HK=>?_
 go_wp2
 refine HK.out _ _ ?_
 clear HK
 refine seqH fun K HK=>?_
 go_wp2
 refine HK.out _ _ ?_
 clear HK
 refine seqH fun K HK=>?_
 go_wp2_with (go_at_call 137;refine (hroom _).mono ?_;rintro e w2 ⟨rfl,rfl⟩)
 refine HK.out _ _ ?_
 clear HK
 refine seqH fun K HK=>?_
 go_wp2_with (go_at_call 215;refine hno.mono ?_;rintro e w2 ⟨rfl,rfl⟩)
 refine HK.out _ _ ?_
 clear HK
 clear hno
 generalize w.alloc (Obj.cells #[.int .i64 0,.int .i64 0,.int .i64 0,.int .i64 0,.int .i64 0] 39)=w1 at *
 obtain ⟨q,hq⟩:∃ q,w.heap.size=q:=⟨_,rfl⟩
 rw [hq] at B3 hbB hbw
 try rw [hq]
 have hq1:q≤w1.heap.size:=Nat.le_of_lt (lt_blk B3)
 have HS:=Lib.hid hs
 have hd0:w1.cell? ⟨b,off,none⟩=some (.int .u8 y0):=(hbB.cell (p:=⟨b,off,none⟩) hbw).trans hc0
 have hd1:w1.cell? ⟨b,off+1,none⟩=some (.int .u8 y1):=(hbB.cell (p:=⟨b,off+1,none⟩) hbw).trans hc1
 have hsl:∀ w',Below q w w'→SlB w' (some ⟨b,off,none⟩) cap l:=fun w' h=>HS.out.below (by rw [hq];exact h)
 have HSL:=Lib.hid hsl
 clear hq hs hc0 hc1 hsl HS
 refine seqH fun K HK=>?_
 go_wp2_with fail
 have hbd:=(Below.refl w1.heap.size w1).drew
 have hb1:=hbB.trans (hbd.mono hq1)
 have B4:=tr_bl hbd B3
 have e0:w1.drew.cell? ⟨b,off,none⟩=some (.int .u8 y0):=hd0
 have e1:w1.drew.cell? ⟨b,off+1,none⟩=some (.int .u8 y1):=hd1
 have hq2:q≤w1.drew.heap.size:=hq1
 have hbl:b < w1.drew.heap.size:=Nat.lt_of_lt_of_le hbw hq1
 clear hbd B3 hd0 hd1 hbB hq1 hbw
 refine wp_region_held_drew (S:=fun w'=>Below w1.drew.heap.size w1.drew w') (by kernel_rfl) (Below.refl _ _) (fun hS0=>?_)
 generalize w1.drew=w2 at *
 refine tkP 0 rfl ?_
 refine tkP 1 rfl ?_
 refine tkT 2 rfl (by intro wS hSw;have c:=(hSw.cell (p:=⟨b,off,none⟩) hbl).trans e0;go_simp;(try with_reducible rfl)) ?_
 refine tkT 3 (v:=.int .i64 (y0:Int)) rfl (by intro wS hSw;go_simp;rw [HY0.out]) ?_
 refine tkP 4 rfl ?_
 refine tkP 5 rfl ?_
 refine tkT 6 rfl (by intro wS hSw;have c:=(hSw.cell (p:=⟨b,off+1,none⟩) hbl).trans e1;go_simp;(try with_reducible rfl)) ?_
 refine tkT 7 (v:=.int .i64 (y1:Int)) rfl (by intro wS hSw;go_simp;rw [HY1.out]) ?_
 refine tkT 8 (v:=.int .i64 (256 * (y1:Int))) rfl (by intro wS hSw;go_simp;rw [HYM.out]) ?_
 refine tkT 9 (v:=.int .i64 (n:Int)) rfl (by intro wS hSw;go_simp;rw [HYA.out]) ?_
 refine tkP 10 rfl ?_
 refine wpAnyH_done (by kernel_rfl) ?_ _
 refine HK.out _ _ ?_
 clear HK e0 e1 hbl hS0
 have hs2:=HSL.out _ hb1
 refine seqH fun K HK=>?_
 go_wp2_with (go_at_call 216;refine (hpa _ hs2).mono ?_;rintro e w5 ⟨rfl,hb6⟩)
 refine HK.out _ _ ?_
 clear HK
 have A5:=tr_al (Obj.cells #[.int .i64 tg.rep,.int .i64 tg.reg,.int .i64 tg.pla,.int .i64 tg.idx,.int .i64 tg.inc] 39) (tr_bl hb6 B4)
 have T5:=heap_alloc_new w5 (Obj.cells #[.int .i64 tg.rep,.int .i64 tg.reg,.int .i64 tg.pla,.int .i64 tg.idx,.int .i64 tg.inc] 39)
 have hb50:=hb1.trans (hb6.mono hq2)
 have hq5:=Nat.le_trans hq2 hb6.size
 have hb7:=hb50.trans ((blw w5 (Obj.cells #[.int .i64 tg.rep,.int .i64 tg.reg,.int .i64 tg.pla,.int .i64 tg.idx,.int .i64 tg.inc] 39)).mono hq5)
 have hq0:q < w5.heap.size:=Nat.lt_of_lt_of_le (lt_blk B4) (hb6.size)
 have hq7:=Nat.le_trans hq5 (blw w5 (Obj.cells #[.int .i64 tg.rep,.int .i64 tg.reg,.int .i64 tg.pla,.int .i64 tg.idx,.int .i64 tg.inc] 39)).size
 have hs7:=HSL.out _ hb7
 clear hb1 hs2 hb6 hb50 hpa B4 hq2 hq5
 generalize w5.alloc (Obj.cells #[.int .i64 tg.rep,.int .i64 tg.reg,.int .i64 tg.pla,.int .i64 tg.idx,.int .i64 tg.inc] 39)=w6 at *
 generalize w5.heap.size=q5 at *
 have HNO:Hid (¬ (mayTg (tagAt l 2)=true∧n≤88∧sealF (tagAt l 2) ((l.drop 17).take n) 128=l)→r=(2,zeroTg,[])):=Lib.hid (fun h=>by rw [← HR.out];exact if_neg h)
 rcases HPE.out with ⟨h1,h2,h3⟩ | ⟨h1,h3⟩
 case inr=>
  obtain rfl:=HNO.out (by rw [h3];simp)
  subst h1
  clear h3 HPE
  go_wp2_with (first
   | (go_at_call 137;refine (hroom _).mono ?_;rintro e w2 ⟨rfl,rfl⟩)
   | ((with_reducible refine wpList_stB 39 _ _ ?_);refine ⟨_,_,_,⟨_,_,_,sizeOf39,rfl,A5,st5 _ rfl 0 0 0 0 0⟩,?_⟩;intro w5 B5 g5))
  refine bodyPost_ret (results_t1c1t1 rfl rfl (run_loadVar_all isAgg39 sizeOf39 B5 rfl)) rfl ⟨FrRes.none rfl,bl_st hb7 g5 hq7 (Nat.le_refl _)⟩
 case inl=>
 subst h1
 have HTG:=Lib.hid h2
 have HMY:=Lib.hid h3
 clear h3 HPE h2
 by_cases hnr:n≤88
 case neg=>
  obtain rfl:=HNO.out (fun h=>hnr h.2.1)
  have hI:(88:Int) < n:=by omega
  go_wp2_with (first
   | (go_at_call 137;refine (hroom _).mono ?_;rintro e w2 ⟨rfl,rfl⟩)
   | ((with_reducible refine wpList_stB 39 _ _ ?_);refine ⟨_,_,_,⟨_,_,_,sizeOf39,rfl,A5,st5 _ rfl 0 0 0 0 0⟩,?_⟩;intro w5 B5 g5))
  refine bodyPost_ret (results_t1c1t1 rfl rfl (run_loadVar_all isAgg39 sizeOf39 B5 rfl)) rfl ⟨FrRes.none rfl,bl_st hb7 g5 hq7 (Nat.le_refl _)⟩
 case pos=>
 have hI:(n:Int)≤88:=by omega
 have kn:¬ cap=17+n:=by omega
 have hbl:((l.drop 17).take n).length=n:=by rw [List.length_take,List.length_drop,HL.out];omega
 have hsb:=hs7.sub 17 n (by rw [HL.out];omega)
 have hcp:=copy_any _ _ _ w6 hsb (by omega)
 rw [hbl] at hcp
 have HBL:=Lib.hid hbl
 obtain ⟨body,hbody⟩:∃ body,(l.drop 17).take n=body:=⟨_,rfl⟩
 rw [hbody] at hcp hsb HBL
 have HBY:=Lib.hid hbody
 have HNR:=Lib.hid hnr
 clear hbody hbl hsb
 refine seqH fun K HK=>?_
 go_wp2_with (go_at_call 137;refine (hroom _).mono ?_;rintro e w2 ⟨rfl,rfl⟩)
 refine HK.out _ _ ?_
 clear HK
 refine seqH fun K HK=>?_
 go_wp2_with (go_at_call 10;refine hcp.mono ?_;rintro e w8 ⟨⟨v8,rfl,o8⟩,hb8⟩)
 refine HK.out _ _ ?_
 clear HK
 have A8:=tr_bl hb8 A5
 have T8:=tr_bl hb8 T5
 have hb9:=hb7.trans (hb8.mono hq7)
 have hq8:=Nat.le_trans hq7 hb8.size
 have o8':w8.ownsRow q 5 1 v8 body.length (bys body):=by rw [HBL.out];exact owns_mono o8 hq7
 clear A5 T5 hb7 hs7 hcp hb8 o8
 obtain ⟨ba,bc,rfl,ob8⟩:=OwnB.of_rowR o8'
 have hsb:=ob8.slb
 have hse:=rseal_any tg ba bc body 2 w8 hsb (by have:=HBL.out;omega) (by decide)
 clear hsb o8'
 refine seqH fun K HK=>?_
 go_wp2_with (first
   | ((with_reducible refine wpList_ldB 39 _ ?_);refine ⟨rfl,_,⟨_,_,_,_,_,isAgg39,sizeOf39,rfl,‹_›,ld5 _ _ _ _ _⟩,?_⟩)
   | (go_at_call 60;refine hse.mono ?_;rintro e w9 ⟨⟨v9,rfl,o9⟩,hb10⟩))
 refine HK.out _ _ ?_
 clear HK
 have A9:=tr_bl hb10 A8
 have T9:=tr_bl hb10 T8
 have hb11:=hb9.trans (hb10.mono hq8)
 have hq9:=Nat.le_trans hq8 hb10.size
 have ob9:=ob8.below hb10
 obtain ⟨sa,sc,rfl,hsa⟩:=SlB.of_owns o9
 have hsr:sealR tg body 2=sealF (tagAt l 2) ((l.drop 17).take n) 128:=by
  have h1:mayTg tg=true:=by rw [HTG.out];exact HMY.out
  unfold sealR
  rw [if_pos ⟨h1,by decide,by have:=HBL.out;show body.length≤88;omega⟩,HTG.out,HBY.out]
 have hsm:=rsame_any sa (some ⟨b,off,none⟩) sc cap (sealR tg body 2) l w9 hsa.row (HSL.out _ hb11).row (by have:=(sealR_le tg body 2).1;omega)
 rw [hsr,HL.out] at hsm
 rw [hsr]
 clear A8 T8 hb9 hq8 ob8 hb10 o9 hsa hse hsr
 by_cases heq:sealF (tagAt l 2) ((l.drop 17).take n) 128=l
 case neg=>
  obtain rfl:=HNO.out (fun h=>heq h.2.2)
  rw [decide_eq_false heq] at hsm
  clear heq
  generalize sealF (tagAt l 2) ((l.drop 17).take n) 128=sl at *
  go_wp2_with (first
   | ((with_reducible refine wpList_stB 39 _ _ ?_);refine ⟨_,_,_,⟨_,_,_,sizeOf39,rfl,A10,st5 _ rfl 0 0 0 0 0⟩,?_⟩;intro w5 B5 g5)
   | (go_at_call 17;refine hsm.mono ?_;rintro e w10 ⟨rfl,hb12⟩;have A10:=tr_bl hb12 A9;have hb13:=hb11.trans (hb12.mono hq9)))
  refine bodyPost_ret (results_t1c1t1 rfl rfl (run_loadVar_all isAgg39 sizeOf39 B5 rfl)) rfl ⟨FrRes.none rfl,bl_st hb13 g5 (Nat.le_trans hq9 hb12.size) (Nat.le_refl _)⟩
 case pos=>
  obtain rfl:(1,tg,body)=r:=by rw [← HR.out,if_pos ⟨HMY.out,HNR.out,heq⟩,HTG.out,HBY.out]
  rw [decide_eq_true heq] at hsm
  clear heq HR HNO
  generalize sealF (tagAt l 2) ((l.drop 17).take n) 128=sl at *
  refine seqH fun K HK=>?_
  go_wp2_with (go_at_call 17;refine hsm.mono ?_;rintro e w10 ⟨rfl,hb12⟩)
  refine HK.out _ _ ?_
  clear HK
  refine seqH fun K HK=>?_
  go_wp2_with fail
  have hbd:=(Below.refl w10.heap.size w10).drew
  have F4:=tr_bl hbd (tr_bl hb12 A9)
  have T11:=tr_bl hbd (tr_bl hb12 T9)
  have hb13:=hb11.trans (hb12.mono hq9)
  have hq10:=Nat.le_trans hq9 hb12.size
  have hb14:=hb13.trans (hbd.mono hq10)
  have hq11:q≤w10.drew.heap.size:=hq10
  have ob11:=(ob9.below hb12).below hbd
  clear A9 T9 hb11 ob9 hb12 hb13 hsm
  refine wp_region_held_drew (S:=fun w'=>w'.heap[q5]?=some (.cells #[.int .i64 tg.rep,.int .i64 tg.reg,.int .i64 tg.pla,.int .i64 tg.idx,.int .i64 tg.inc] 39 (0,0))) (by kernel_rfl) T11 (fun hS0=>?_)
  clear hbd
  generalize w10.drew=x0 at *
  refine tkT 0 (v:=.agg (#[.int .i64 tg.rep,.int .i64 tg.reg,.int .i64 tg.pla,.int .i64 tg.idx,.int .i64 tg.inc])) rfl (by intro wS hSw;exact exec_ldB 39 _ ⟨_,_,_,_,_,isAgg39,sizeOf39,rfl,hSw,ld5 _ _ _ _ _⟩) ?_
  refine tkP 1 rfl ?_
  refine tkP 2 rfl ?_
  refine rdy1 3 rfl (fun K' hK'=>?_)
  refine wp_stB 39 _ _ ?_
  refine ⟨_,_,_,⟨_,_,_,sizeOf39,rfl,F4,st5 _ rfl tg.rep tg.reg tg.pla tg.idx tg.inc⟩,?_⟩
  intro w11 B11 g11
  refine hK'.out _ _ (tr_st g11 hS0 (by omega)) (fun _=>?_)
  clear hK'
  (try simp only [Act.put,qa1,qa2,qa3])
  refine tkP 4 rfl ?_
  refine wpAnyH_done (by kernel_rfl) ?_ _
  refine HK.out _ _ ?_
  clear HK
  go_wp2
  refine bodyPost_ret (results_t1c1t1 rfl rfl (run_loadVar_all isAgg39 sizeOf39 B11 rfl)) rfl ⟨⟨ba,bc,rfl,ob11.st g11 F4 (by decide)⟩,bl_st hb14 g11 hq11 (Nat.le_refl _)⟩
end
section
theorem ropen_any (a:Option Addr) (cap:Nat) (l:List UInt8) (w:World) (hs:SlB w a cap l) (hl:l.length≤1000):Calls Tryz.prog 187 #[.slice a l.length cap] w fun e w'=>FrRes w.heap.size (openF l) e w'∧Below w.heap.size w w':=by
 by_cases hr:roomN l.length=0
 ·exact ropen_odd a cap l w hl hr
 ·obtain ⟨h64,_⟩:=roomN_of (n:=l.length) (by omega)
  rcases h64 with h | h
  ·rw [h]
   cases hz:noughtsB l
   ·obtain ⟨b,off,rfl⟩:=hs.some_of (by omega)
    exact ropen_m1 b off cap l w hs h hz
   ·exact ropen_z1 a cap l w hs h hz
  ·rw [h]
   cases hz:noughtsB l
   ·obtain ⟨b,off,rfl⟩:=hs.some_of (by omega)
    exact ropen_m2 b off cap l w hs h hz
   ·exact ropen_z2 a cap l w hs h hz
theorem rmine_any (a:Option Addr) (cap:Nat) (l:List UInt8) (rep reg pla:Int) (w:World) (hs:SlB w a cap l) (hl:l.length≤1000):Calls Tryz.prog 127 #[.slice a l.length cap,.int .i64 rep,.int .i64 reg,.int .i64 pla] w fun e w'=>FrRes w.heap.size (mineF l rep reg pla) e w'∧Below w.heap.size w w':=by
 obtain ⟨st,tg,body,hr⟩:∃ st tg body,openF l=(st,tg,body):=⟨_,_,_,rfl⟩
 unfold mineF
 rw [hr]
 have HR:=Lib.hid hr
 clear hr
 have hbB:=blw w (Obj.cells #[.int .i64 0,.int .i64 0,.int .i64 0,.int .i64 0,.int .i64 0] 39)
 have B3:=heap_alloc_new w (Obj.cells #[.int .i64 0,.int .i64 0,.int .i64 0,.int .i64 0,.int .i64 0] 39)
 simp only
 by_cases hst:st=1
 case neg=>
  rw [if_neg (fun hh=>hst hh.1)]
  have h0:((st:Int)==1)=false:=by rw [beq_eq_false_iff_ne];omega
  clear hst
  go_enter func127,ntmps127
  refine seqH fun K HK=>?_
  go_wp2
  refine HK.out _ _ ?_
  clear HK
  refine seqH fun K HK=>?_
  go_wp2_with (go_at_call 187;refine (ropen_any a cap l _ (hs.below hbB) hl).mono ?_;rintro e w2 ⟨⟨a2,c2,rfl,ho2⟩,hb2⟩;rw [HR.out] at ho2;rw [HR.out];have A3:=tr_bl hb2 B3)
  refine HK.out _ _ ?_
  clear HK
  have C3:=tr_al (Obj.cells #[.int .i64 tg.rep,.int .i64 tg.reg,.int .i64 tg.pla,.int .i64 tg.idx,.int .i64 tg.inc] 39) A3
  have T3:=heap_alloc_new w2 (Obj.cells #[.int .i64 tg.rep,.int .i64 tg.reg,.int .i64 tg.pla,.int .i64 tg.idx,.int .i64 tg.inc] 39)
  have hb3:=hbB.trans (hb2.mono hbB.size)
  have hb4:=hb3.alloc hb3.size (Obj.cells #[.int .i64 tg.rep,.int .i64 tg.reg,.int .i64 tg.pla,.int .i64 tg.idx,.int .i64 tg.inc] 39)
  have hq:w.heap.size < w2.heap.size:=lt_blk A3
  have ho3:=(ho2.mono hbB.size).below (blw w2 (Obj.cells #[.int .i64 tg.rep,.int .i64 tg.reg,.int .i64 tg.pla,.int .i64 tg.idx,.int .i64 tg.inc] 39))
  clear A3 hb2 hb3 ho2
  generalize w2.alloc (Obj.cells #[.int .i64 tg.rep,.int .i64 tg.reg,.int .i64 tg.pla,.int .i64 tg.idx,.int .i64 tg.inc] 39)=w3 at *
  generalize w2.heap.size=q at *
  have q0:=blk_cell T3 0 _ rfl
  have q1:=blk_cell T3 1 _ rfl
  have q2:=blk_cell T3 2 _ rfl
  refine seqH fun K HK=>?_
  go_wp2
  refine HK.out _ _ ?_
  clear HK
  refine seqH fun K HK=>?_
  go_wp2_with fail
  have hbd:=(Below.refl w3.heap.size w3).drew
  have F4:=tr_bl hbd C3
  have T11:=tr_bl hbd T3
  have hb14:=hb4.trans (hbd.mono hb4.size)
  have ho11:=ho3.below hbd
  clear C3 T3 hb4 ho3 q0 q1 q2
  refine wp_region_held_drew (S:=fun w'=>w'.heap[q]?=some (.cells #[.int .i64 tg.rep,.int .i64 tg.reg,.int .i64 tg.pla,.int .i64 tg.idx,.int .i64 tg.inc] 39 (0,0))) (by kernel_rfl) T11 (fun hS0=>?_)
  clear hbd
  generalize w3.drew=x0 at *
  refine tkP 0 rfl ?_
  refine tkT 1 (v:=.agg (#[.int .i64 tg.rep,.int .i64 tg.reg,.int .i64 tg.pla,.int .i64 tg.idx,.int .i64 tg.inc])) rfl (by intro wS hSw;exact exec_ldB 39 _ ⟨_,_,_,_,_,isAgg39,sizeOf39,rfl,hSw,ld5 _ _ _ _ _⟩) ?_
  refine tkP 2 rfl ?_
  refine tkP 3 rfl ?_
  refine rdy1 4 rfl (fun K' hK'=>?_)
  refine wp_stB 39 _ _ ?_
  refine ⟨_,_,_,⟨_,_,_,sizeOf39,rfl,F4,st5 _ rfl tg.rep tg.reg tg.pla tg.idx tg.inc⟩,?_⟩
  intro w11 B11 g11
  refine hK'.out _ _ (tr_st g11 hS0 (by omega)) (fun _=>?_)
  clear hK'
  (try simp only [Act.put,qa1,qa2,qa3])
  refine tkP 5 rfl ?_
  refine wpAnyH_done (by kernel_rfl) ?_ _
  refine HK.out _ _ ?_
  clear HK
  go_wp2
  refine bodyPost_ret (results_t1c1t1 rfl rfl (run_loadVar_all isAgg39 sizeOf39 B11 rfl)) rfl ⟨⟨a2,c2,rfl,ho11.st g11 F4 (by decide)⟩,bl_st hb14 g11 hb14.size (Nat.le_refl _)⟩
 case pos=>
  subst hst
  have h0:(((1:Nat):Int)==1)=true:=rfl
  by_cases h1:tg.rep=rep
  case neg=>
   rw [if_pos ⟨rfl,.inl h1⟩]
   have e1:(tg.rep != rep)=true:=by rw [bne_iff_ne];exact h1
   go_enter func127,ntmps127
   refine seqH fun K HK=>?_
   go_wp2
   refine HK.out _ _ ?_
   clear HK
   refine seqH fun K HK=>?_
   go_wp2_with (go_at_call 187;refine (ropen_any a cap l _ (hs.below hbB) hl).mono ?_;rintro e w2 ⟨⟨a2,c2,rfl,ho2⟩,hb2⟩;rw [HR.out] at ho2;rw [HR.out];have A3:=tr_bl hb2 B3)
   refine HK.out _ _ ?_
   clear HK
   have C3:=tr_al (Obj.cells #[.int .i64 tg.rep,.int .i64 tg.reg,.int .i64 tg.pla,.int .i64 tg.idx,.int .i64 tg.inc] 39) A3
   have T3:=heap_alloc_new w2 (Obj.cells #[.int .i64 tg.rep,.int .i64 tg.reg,.int .i64 tg.pla,.int .i64 tg.idx,.int .i64 tg.inc] 39)
   have hb3:=hbB.trans (hb2.mono hbB.size)
   have hb4:=hb3.alloc hb3.size (Obj.cells #[.int .i64 tg.rep,.int .i64 tg.reg,.int .i64 tg.pla,.int .i64 tg.idx,.int .i64 tg.inc] 39)
   have hq:w.heap.size < w2.heap.size:=lt_blk A3
   have ho3:=(ho2.mono hbB.size).below (blw w2 (Obj.cells #[.int .i64 tg.rep,.int .i64 tg.reg,.int .i64 tg.pla,.int .i64 tg.idx,.int .i64 tg.inc] 39))
   clear A3 hb2 hb3 ho2
   generalize w2.alloc (Obj.cells #[.int .i64 tg.rep,.int .i64 tg.reg,.int .i64 tg.pla,.int .i64 tg.idx,.int .i64 tg.inc] 39)=w3 at *
   generalize w2.heap.size=q at *
   have q0:=blk_cell T3 0 _ rfl
   have q1:=blk_cell T3 1 _ rfl
   have q2:=blk_cell T3 2 _ rfl
   go_wp2_with ((with_reducible refine wpList_stB 39 _ _ ?_);refine ⟨_,_,_,⟨_,_,_,sizeOf39,rfl,C3,st5 _ rfl 0 0 0 0 0⟩,?_⟩;intro w5 B5 g5)
   refine bodyPost_ret (results_t1c1t1 rfl rfl (run_loadVar_all isAgg39 sizeOf39 B5 rfl)) rfl ⟨FrRes.none rfl,bl_st hb4 g5 hb4.size (Nat.le_refl _)⟩
  case pos=>
   have e1:(tg.rep != rep)=false:=by simpa using h1
   by_cases h2:tg.reg=reg
   case neg=>
    rw [if_pos ⟨rfl,.inr (.inl h2)⟩]
    have e2:(tg.reg != reg)=true:=by rw [bne_iff_ne];exact h2
    clear h1
    go_enter func127,ntmps127
    refine seqH fun K HK=>?_
    go_wp2
    refine HK.out _ _ ?_
    clear HK
    refine seqH fun K HK=>?_
    go_wp2_with (go_at_call 187;refine (ropen_any a cap l _ (hs.below hbB) hl).mono ?_;rintro e w2 ⟨⟨a2,c2,rfl,ho2⟩,hb2⟩;rw [HR.out] at ho2;rw [HR.out];have A3:=tr_bl hb2 B3)
    refine HK.out _ _ ?_
    clear HK
    have C3:=tr_al (Obj.cells #[.int .i64 tg.rep,.int .i64 tg.reg,.int .i64 tg.pla,.int .i64 tg.idx,.int .i64 tg.inc] 39) A3
    have T3:=heap_alloc_new w2 (Obj.cells #[.int .i64 tg.rep,.int .i64 tg.reg,.int .i64 tg.pla,.int .i64 tg.idx,.int .i64 tg.inc] 39)
    have hb3:=hbB.trans (hb2.mono hbB.size)
    have hb4:=hb3.alloc hb3.size (Obj.cells #[.int .i64 tg.rep,.int .i64 tg.reg,.int .i64 tg.pla,.int .i64 tg.idx,.int .i64 tg.inc] 39)
    have hq:w.heap.size < w2.heap.size:=lt_blk A3
    have ho3:=(ho2.mono hbB.size).below (blw w2 (Obj.cells #[.int .i64 tg.rep,.int .i64 tg.reg,.int .i64 tg.pla,.int .i64 tg.idx,.int .i64 tg.inc] 39))
    clear A3 hb2 hb3 ho2
    generalize w2.alloc (Obj.cells #[.int .i64 tg.rep,.int .i64 tg.reg,.int .i64 tg.pla,.int .i64 tg.idx,.int .i64 tg.inc] 39)=w3 at *
    generalize w2.heap.size=q at *
    have q0:=blk_cell T3 0 _ rfl
    have q1:=blk_cell T3 1 _ rfl
    have q2:=blk_cell T3 2 _ rfl
    go_wp2_with ((with_reducible refine wpList_stB 39 _ _ ?_);refine ⟨_,_,_,⟨_,_,_,sizeOf39,rfl,C3,st5 _ rfl 0 0 0 0 0⟩,?_⟩;intro w5 B5 g5)
    refine bodyPost_ret (results_t1c1t1 rfl rfl (run_loadVar_all isAgg39 sizeOf39 B5 rfl)) rfl ⟨FrRes.none rfl,bl_st hb4 g5 hb4.size (Nat.le_refl _)⟩
   case pos=>
    have e2:(tg.reg != reg)=false:=by simpa using h2
    by_cases h3:tg.pla=pla
    case neg=>
     rw [if_pos ⟨rfl,.inr (.inr h3)⟩]
     have e3:(tg.pla != pla)=true:=by rw [bne_iff_ne];exact h3
     clear h1 h2
     go_enter func127,ntmps127
     refine seqH fun K HK=>?_
     go_wp2
     refine HK.out _ _ ?_
     clear HK
     refine seqH fun K HK=>?_
     go_wp2_with (go_at_call 187;refine (ropen_any a cap l _ (hs.below hbB) hl).mono ?_;rintro e w2 ⟨⟨a2,c2,rfl,ho2⟩,hb2⟩;rw [HR.out] at ho2;rw [HR.out];have A3:=tr_bl hb2 B3)
     refine HK.out _ _ ?_
     clear HK
     have C3:=tr_al (Obj.cells #[.int .i64 tg.rep,.int .i64 tg.reg,.int .i64 tg.pla,.int .i64 tg.idx,.int .i64 tg.inc] 39) A3
     have T3:=heap_alloc_new w2 (Obj.cells #[.int .i64 tg.rep,.int .i64 tg.reg,.int .i64 tg.pla,.int .i64 tg.idx,.int .i64 tg.inc] 39)
     have hb3:=hbB.trans (hb2.mono hbB.size)
     have hb4:=hb3.alloc hb3.size (Obj.cells #[.int .i64 tg.rep,.int .i64 tg.reg,.int .i64 tg.pla,.int .i64 tg.idx,.int .i64 tg.inc] 39)
     have hq:w.heap.size < w2.heap.size:=lt_blk A3
     have ho3:=(ho2.mono hbB.size).below (blw w2 (Obj.cells #[.int .i64 tg.rep,.int .i64 tg.reg,.int .i64 tg.pla,.int .i64 tg.idx,.int .i64 tg.inc] 39))
     clear A3 hb2 hb3 ho2
     generalize w2.alloc (Obj.cells #[.int .i64 tg.rep,.int .i64 tg.reg,.int .i64 tg.pla,.int .i64 tg.idx,.int .i64 tg.inc] 39)=w3 at *
     generalize w2.heap.size=q at *
     have q0:=blk_cell T3 0 _ rfl
     have q1:=blk_cell T3 1 _ rfl
     have q2:=blk_cell T3 2 _ rfl
     go_wp2_with ((with_reducible refine wpList_stB 39 _ _ ?_);refine ⟨_,_,_,⟨_,_,_,sizeOf39,rfl,C3,st5 _ rfl 0 0 0 0 0⟩,?_⟩;intro w5 B5 g5)
     refine bodyPost_ret (results_t1c1t1 rfl rfl (run_loadVar_all isAgg39 sizeOf39 B5 rfl)) rfl ⟨FrRes.none rfl,bl_st hb4 g5 hb4.size (Nat.le_refl _)⟩
    case pos=>
     rw [if_neg (by rintro ⟨_,h | h | h⟩ <;> contradiction)]
     have e3:(tg.pla != pla)=false:=by simpa using h3
     clear h1 h2 h3
     go_enter func127,ntmps127
     refine seqH fun K HK=>?_
     go_wp2
     refine HK.out _ _ ?_
     clear HK
     refine seqH fun K HK=>?_
     go_wp2_with (go_at_call 187;refine (ropen_any a cap l _ (hs.below hbB) hl).mono ?_;rintro e w2 ⟨⟨a2,c2,rfl,ho2⟩,hb2⟩;rw [HR.out] at ho2;rw [HR.out];have A3:=tr_bl hb2 B3)
     refine HK.out _ _ ?_
     clear HK
     have C3:=tr_al (Obj.cells #[.int .i64 tg.rep,.int .i64 tg.reg,.int .i64 tg.pla,.int .i64 tg.idx,.int .i64 tg.inc] 39) A3
     have T3:=heap_alloc_new w2 (Obj.cells #[.int .i64 tg.rep,.int .i64 tg.reg,.int .i64 tg.pla,.int .i64 tg.idx,.int .i64 tg.inc] 39)
     have hb3:=hbB.trans (hb2.mono hbB.size)
     have hb4:=hb3.alloc hb3.size (Obj.cells #[.int .i64 tg.rep,.int .i64 tg.reg,.int .i64 tg.pla,.int .i64 tg.idx,.int .i64 tg.inc] 39)
     have hq:w.heap.size < w2.heap.size:=lt_blk A3
     have ho3:=(ho2.mono hbB.size).below (blw w2 (Obj.cells #[.int .i64 tg.rep,.int .i64 tg.reg,.int .i64 tg.pla,.int .i64 tg.idx,.int .i64 tg.inc] 39))
     clear A3 hb2 hb3 ho2
     generalize w2.alloc (Obj.cells #[.int .i64 tg.rep,.int .i64 tg.reg,.int .i64 tg.pla,.int .i64 tg.idx,.int .i64 tg.inc] 39)=w3 at *
     generalize w2.heap.size=q at *
     have q0:=blk_cell T3 0 _ rfl
     have q1:=blk_cell T3 1 _ rfl
     have q2:=blk_cell T3 2 _ rfl
     refine seqH fun K HK=>?_
     go_wp2
     refine HK.out _ _ ?_
     clear HK
     refine seqH fun K HK=>?_
     go_wp2_with fail
     have hbd:=(Below.refl w3.heap.size w3).drew
     have F4:=tr_bl hbd C3
     have T11:=tr_bl hbd T3
     have hb14:=hb4.trans (hbd.mono hb4.size)
     have ho11:=ho3.below hbd
     clear C3 T3 hb4 ho3 q0 q1 q2
     refine wp_region_held_drew (S:=fun w'=>w'.heap[q]?=some (.cells #[.int .i64 tg.rep,.int .i64 tg.reg,.int .i64 tg.pla,.int .i64 tg.idx,.int .i64 tg.inc] 39 (0,0))) (by kernel_rfl) T11 (fun hS0=>?_)
     clear hbd
     generalize w3.drew=x0 at *
     refine tkP 0 rfl ?_
     refine tkT 1 (v:=.agg (#[.int .i64 tg.rep,.int .i64 tg.reg,.int .i64 tg.pla,.int .i64 tg.idx,.int .i64 tg.inc])) rfl (by intro wS hSw;exact exec_ldB 39 _ ⟨_,_,_,_,_,isAgg39,sizeOf39,rfl,hSw,ld5 _ _ _ _ _⟩) ?_
     refine tkP 2 rfl ?_
     refine tkP 3 rfl ?_
     refine rdy1 4 rfl (fun K' hK'=>?_)
     refine wp_stB 39 _ _ ?_
     refine ⟨_,_,_,⟨_,_,_,sizeOf39,rfl,F4,st5 _ rfl tg.rep tg.reg tg.pla tg.idx tg.inc⟩,?_⟩
     intro w11 B11 g11
     refine hK'.out _ _ (tr_st g11 hS0 (by omega)) (fun _=>?_)
     clear hK'
     (try simp only [Act.put,qa1,qa2,qa3])
     refine tkP 5 rfl ?_
     refine wpAnyH_done (by kernel_rfl) ?_ _
     refine HK.out _ _ ?_
     clear HK
     go_wp2
     refine bodyPost_ret (results_t1c1t1 rfl rfl (run_loadVar_all isAgg39 sizeOf39 B11 rfl)) rfl ⟨⟨a2,c2,rfl,ho11.st g11 F4 (by decide)⟩,bl_st hb14 g11 hb14.size (Nat.le_refl _)⟩
end
section
section
variable {B g:Nat} {q:RQ} {d:Dk} {w w':World}
theorem rstray_any (h:RefB B g q d w) (hB:B≤w.heap.size) (s t:Int):Calls Tryz.prog 145 #[.pointer (some ⟨g,0,none⟩),.int .i64 s,.int .i64 t] w fun e w'=>e=.returned (.int .i64 (strayD d s t).2)∧RDoes B g rT w (strayD d s t).1 w':=by
 have hh:=rhas_any h s
 have ht:=rhas_any h t
 unfold strayD
 by_cases h0:thereD d s=0
 case neg=>
  rw [if_pos (by simpa using h0)]
  have h2:=there_two h.n0 h0
  rw [h2] at hh ⊢
  clear h2 h0 ht
  go_enter func145,ntmps145
  go_wp2_with (go_at_call 147;refine hh.mono ?_;rintro e w1 ⟨rfl,rfl⟩)
  go_ret
  exact ⟨rfl,⟨_,h⟩,Kx.refl _ _ _⟩
 case pos=>
 rw [if_neg (by simpa using h0)]
 obtain ⟨k,rfl,hk⟩:=there_nat h.n0 h0
 rw [h0] at hh
 clear h0
 by_cases h1:thereD d t=0
 case neg=>
  rw [if_pos (by simpa using h1)]
  have h2:=there_two h.n0 h1
  rw [h2] at ht ⊢
  clear h2 h1
  go_enter func145,ntmps145
  refine seqH fun K HK=>?_
  go_wp2
  refine HK.out _ _ ?_
  clear HK
  go_wp2_with fail
  go_at_call 147
  refine hh.mono ?_
  rintro e w1 ⟨rfl,rfl⟩
  go_wp2_with fail
  go_at_call 147
  refine ht.mono ?_
  rintro e w1 ⟨rfl,rfl⟩
  go_wp2
  go_ret
  exact ⟨rfl,⟨_,h⟩,Kx.refl _ _ _⟩
 case pos=>
 rw [if_neg (by simpa using h1)]
 obtain ⟨m,rfl,hm⟩:=there_nat h.n0 h1
 rw [h1] at ht
 clear h1
 simp only [Int.toNat_natCast]
 obtain ⟨p,hp⟩:∃ p,d.pl[k]?=some p:=⟨_,List.getElem?_eq_getElem hk⟩
 rw [getD_pl hp]
 obtain ⟨x,hx,cx⟩:=h.ra_at hk
 have hok:=(h.ok p (List.mem_of_getElem? hp)).1
 have hsec:=h.rs k x p hx hp
 have HP:=Lib.hid hp
 have HK2:=Lib.hid hk
 have HM2:=Lib.hid hm
 have H64:=Lib.hid hok
 have hlen:p.rest.length≤1000000:=by omega
 unfold slv at cx
 clear hp hx hk hm hok
 go_enter func145,ntmps145
 refine seqH fun K HK=>?_
 go_wp2
 refine HK.out _ _ ?_
 clear HK
 refine seqH fun K HK=>?_
 go_wp2_with fail
 go_at_call 147
 refine hh.mono ?_
 rintro e w1 ⟨rfl,rfl⟩
 go_wp2_with fail
 go_at_call 147
 refine ht.mono ?_
 rintro e w1 ⟨rfl,rfl⟩
 go_wp2
 refine HK.out _ _ ?_
 clear HK hh ht
 refine seqH fun K HK=>?_
 go_wp2_with fail
 have hd:=h.below (Below.refl w.heap.size w).drew
 have kd:=Kx.of (X:=rT) (Below.refl w.heap.size w).drew hB
 have sd:SecB B w.drew x p.rest:=owns_bl hsec (Below.refl _ _).drew
 have hcx:w.drew.cell? ⟨q.rb,k,none⟩=some (.slice (some ⟨x.1,0,none⟩) 64 x.2):=cx
 have hBd:B≤w.drew.heap.size:=hB
 refine wp_region_held_drew (S:=fun w'=>w'.heap[g]?=some (.cells (rkA q d) 57 (0,0))) (by kernel_rfl) hd.box (fun hS0=>?_)
 clear cx hsec h
 generalize w.drew=x0 at *
 refine tkP 0 rfl ?_
 refine tkP 1 rfl ?_
 refine tkP 2 rfl ?_
 refine tkT 3 rfl (by intro wS hSw;have c:=blk_cell hSw 0 (.slice (some ⟨q.rb,0,none⟩) d.pl.length q.rc) rfl;go_simp;(try with_reducible rfl)) ?_
 refine tkP 4 rfl ?_
 refine tkP 5 rfl ?_
 refine tkP 6 rfl ?_
 refine tkP 7 rfl ?_
 refine tkT 8 rfl (by intro wS hSw;have c:=blk_cell hSw 0 (.slice (some ⟨q.rb,0,none⟩) d.pl.length q.rc) rfl;go_simp;(try with_reducible rfl)) ?_
 refine tkP 9 rfl ?_
 refine tkT 10 rfl (by intro wS hSw;have hlt:=HK2.out;go_simp;(try rw [if_pos hlt]);(try with_reducible rfl)) ?_
 refine rdy1 11 rfl (fun K' hK'=>?_)
 refine wp_run (v:=.slice (some ⟨x.1,0,none⟩) 64 x.2) (w':=x0) (by go_simp) ?_
 refine hK'.out _ _ hS0 (fun _=>?_)
 clear hK'
 (try simp only [Act.put,qa1,qa2,qa3])
 refine rdy1 12 rfl (fun K' hK'=>?_)
 go_simp
 rw [← H64.out]
 refine (copy_any _ _ _ _ (sd.slb H64.out) hlen).mono ?_
 rintro e w2 ⟨⟨v,rfl,hO⟩,hb2⟩
 rw [H64.out] at hO
 obtain ⟨a2,c2,rfl,ha2⟩:=owns_some hO (by decide)
 have h2:=hd.below hb2
 have k2:=kd.trans (Kx.of (X:=rT) hb2 hBd)
 have hf2:∀ y ∈ q.ra++(q.ma++q.wa),y.1≠a2:=fun y hy=>by have:=hd.fresh y hy;omega
 have hB2:=Nat.le_trans hBd hb2.size
 have hO2:=owns_mono hO hBd
 have S2:=tr_bl hb2 hS0
 clear hd sd hb2 kd hO hS0 ha2 hBd hcx
 refine hK'.out _ _ S2 (fun _=>?_)
 (try simp only [Act.put,qa1,qa2,qa3])
 refine tkT 13 rfl (by intro wS hSw;have hlt:=HM2.out;go_simp;(try rw [if_pos hlt]);(try with_reducible rfl)) ?_
 refine rdy1 14 rfl (fun K' hK'=>?_)
 refine wp_stOwn 37 _ _ (.slice (some ⟨a2,0,none⟩) 64 c2) sizeOf37 rfl rfl rfl rfl h2.rest HM2.out ?_
 intro w3 hr3 g3
 obtain ⟨h3,k3⟩:=h2.setRest (x:=(a2,c2)) HM2.out hr3 g3 hO2 H64.out hf2
 obtain ⟨cs2,hcs2,_⟩:=h2.blk_r
 have k30:=k2.trans k3
 have hB3:=Nat.le_trans hB2 g3.size
 refine hK'.out _ _ (blk_neT hcs2 g3 _ _ _ (by decide) S2) (fun _=>?_)
 refine wpAnyH_done (by kernel_rfl) ?_ _
 refine HK.out _ _ ?_
 clear HK hK' h2 k2 hf2 hB2 hO2 S2 g3 k3 hr3 hcs2
 obtain ⟨q1,hq1⟩:∃ q1,{ q with ra:=q.ra.set m (a2,c2) }=q1:=⟨_,rfl⟩
 obtain ⟨d1,hd1⟩:∃ d1,({ d with pl:=d.pl.modify m (fun p'=>{ p' with rest:=p.rest }) }:Dk)=d1:=⟨_,rfl⟩
 have HKK:Hid (k < d1.pl.length):=Lib.hid (by rw [← hd1];simpa using HK2.out)
 have HMM:Hid (m < d1.pl.length):=Lib.hid (by rw [← hd1];simpa using HM2.out)
 obtain ⟨p1,hp1,hl1⟩:∃ p1,d1.pl[k]?=some p1∧p1.lost=p.lost:=by
  rw [← hd1]
  simp only [List.getElem?_modify,HP.out]
  by_cases e:m=k
  ·exact ⟨{ p with rest:=p.rest },by simp [e],rfl⟩
  ·exact ⟨p,by simp [e],rfl⟩
 rw [hd1] at h3
 rw [hq1] at h3
 have HD1:=Lib.hid hd1
 have ex1:=h3.lo_at hp1
 rw [hl1] at ex1
 clear hq1 hd1 hp1 hl1
 refine seqH fun K HK=>?_
 go_wp2_with fail
 have hd:=h3.below (Below.refl w3.heap.size w3).drew
 have kd:=k30.trans (Kx.of (X:=rT) (Below.refl w3.heap.size w3).drew hB3)
 have hcx:w3.drew.cell? ⟨q1.lb,k,none⟩=some (.bool p.lost):=ex1
 refine wp_region_held_drew (S:=fun w'=>w'.heap[g]?=some (.cells (rkA q1 d1) 57 (0,0))) (by kernel_rfl) hd.box (fun hS0=>?_)
 clear h3 ex1 k30 hB3
 generalize w3.drew=w5 at *
 refine tkP 0 rfl ?_
 refine tkP 1 rfl ?_
 refine tkP 2 rfl ?_
 refine tkT 3 rfl (by intro wS hSw;have c:=blk_cell hSw 2 (.slice (some ⟨q1.lb,0,none⟩) d1.pl.length q1.lc) rfl;go_simp;(try with_reducible rfl)) ?_
 refine tkP 4 rfl ?_
 refine tkP 5 rfl ?_
 refine tkP 6 rfl ?_
 refine tkP 7 rfl ?_
 refine tkT 8 rfl (by intro wS hSw;have c:=blk_cell hSw 2 (.slice (some ⟨q1.lb,0,none⟩) d1.pl.length q1.lc) rfl;go_simp;(try with_reducible rfl)) ?_
 refine tkP 9 rfl ?_
 refine tkT 10 rfl (by intro wS hSw;have hlt:=HKK.out;go_simp;(try rw [if_pos hlt]);(try with_reducible rfl)) ?_
 refine rdy1 11 rfl (fun K' hK'=>?_)
 refine wp_run (v:=.bool p.lost) (w':=w5) (by go_simp) ?_
 refine hK'.out _ _ hS0 (fun _=>?_)
 clear hK'
 (try simp only [Act.put,qa1,qa2,qa3])
 refine tkT 12 rfl (by intro wS hSw;have hlt:=HMM.out;go_simp;(try rw [if_pos hlt]);(try with_reducible rfl)) ?_
 refine rdy1 13 rfl (fun K' hK'=>?_)
 refine wp_stOwn 4 _ _ (.bool p.lost) sizeOf4 rfl rfl rfl rfl hd.lost HMM.out ?_
 intro w6 hr6 g6
 obtain ⟨h6,k6⟩:=hd.setLost hr6 g6
 obtain ⟨cs2,hcs2,_⟩:=hd.blk_l
 refine hK'.out _ _ (blk_neT hcs2 g6 _ _ _ (by decide) hS0) (fun _=>?_)
 refine wpAnyH_done (by kernel_rfl) ?_ _
 refine HK.out _ _ ?_
 clear HK
 go_wp2
 go_ret
 refine ⟨rfl,⟨q1,?_⟩,kd.trans k6⟩
 have e:{ d1 with pl:=d1.pl.modify m (fun p'=>{ p' with lost:=p.lost }) }={ d with pl:=d.pl.modify m (fun p'=>{ p' with rest:=p.rest,lost:=p.lost }) }:=by
  rw [← HD1.out]
  simp only [Dk.mk.injEq,and_true]
  apply List.ext_getElem?
  intro i
  simp only [List.getElem?_modify]
  by_cases hi:m=i
  ·cases d.pl[i]? <;> simp [hi]
  ·cases d.pl[i]? <;> simp [hi]
 rw [← e]
 exact h6
end
end
section
theorem spend_val (d:Dk):(spendD d).2=0∨(spendD d).2=5:=by
 unfold spendD
 split
 ·exact .inr rfl
 ·split <;> exact .inl rfl
theorem thru_no {pl:List Pl} {x:List UInt8×Nat} {l:List (List UInt8×Nat)} {k:Nat} {is:Nat→Bool} (h:is k=false):thruD pl (x :: l) k is=thruD pl l (k+1) is:=by
 obtain ⟨b,s⟩:=x
 simp only [thruD]
 rw [h]
 simp
theorem thru_none:∀ (l:List (List UInt8×Nat)) (pl:List Pl) (k:Nat) (is:Nat→Bool),(∀ i,k≤i→is i=false)→thruD pl l k is=pl
 | [],_,_,_,_=>rfl
 | x :: l,pl,k,is,h=>by
  rw [thru_no (h k (Nat.le_refl _))]
  exact thru_none l pl (k+1) is fun i hi=>h i (by omega)
section
variable {B g:Nat} {q:RQ} {d:Dk} {w w':World}
theorem rflush_any (h:RefB B g q d w) (hB:B≤w.heap.size):Calls Tryz.prog 51 #[.pointer (some ⟨g,0,none⟩)] w fun e w'=>e=.returned (.int .i64 (flushD d).2)∧RDoes B g rT w (flushD d).1 w':=by
 have hli:=live_is h.n0
 have c4:=h.c4
 have c5:=h.c5
 have hsp:=rspend_any h
 unfold flushD
 rcases two_b d.down with e1 | e1
 case inr=>
  have hl5:live0 d=5:=by rw [hli,if_pos (.inl e1)]
  rw [if_pos (by rw [hl5];simp),hl5]
  rw [e1] at c4
  clear hli hl5 e1
  go_enter func51,ntmps51
  go_wp2
  go_ret
  exact ⟨rfl,⟨_,h⟩,Kx.refl _ _ _⟩
 case inl=>
 rcases two_b d.dead with e2 | e2
 case inr=>
  have hl5:live0 d=5:=by rw [hli,if_pos (.inr e2)]
  rw [if_pos (by rw [hl5];simp),hl5]
  rw [e1] at c4
  rw [e2] at c5
  clear hli hl5 e1 e2
  go_enter func51,ntmps51
  go_wp2
  go_ret
  exact ⟨rfl,⟨_,h⟩,Kx.refl _ _ _⟩
 case inl=>
 have hl0:live0 d=0:=by rw [hli,if_neg (by rw [e1,e2];simp)]
 rw [if_neg (by rw [hl0];simp)]
 rw [e1] at c4
 rw [e2] at c5
 clear hli hl0 e1 e2
 rcases spend_val d with hs | hs
 case inr=>
  rw [if_pos (by rw [hs];simp),hs]
  rw [hs] at hsp
  clear hs
  go_enter func51,ntmps51
  go_wp2_with (go_at_call 120;refine hsp.mono ?_;rintro e w1 ⟨rfl,h1,k1⟩)
  go_ret
  exact ⟨rfl,⟨_,h1⟩,k1⟩
 case inl=>
 rw [if_neg (by rw [hs];simp)]
 rw [hs] at hsp
 clear hs
 obtain ⟨d1,hd1⟩:∃ d1,(spendD d).1=d1:=⟨_,rfl⟩
 rw [hd1] at hsp ⊢
 clear hd1
 go_enter func51,ntmps51
 refine seqH fun K HK=>?_
 go_wp2
 refine HK.out _ _ ?_
 clear HK
 refine seqH fun K HK=>?_
 go_wp2_with (go_at_call 120;refine hsp.mono ?_;rintro e w1 ⟨rfl,h1,k1⟩)
 refine HK.out _ _ ?_
 clear HK
 clear hsp c4 c5 h
 have hB1:=Nat.le_trans hB k1.bl.size
 obtain ⟨gw,cw,hwv,_,hwc,hwm⟩:=Row.of_owns h1.wts
 unfold maxLen at hwm
 have HWV:=Lib.hid hwv
 clear hwv
 obtain ⟨R,hR⟩:∃ R,thruD d1.pl d1.waits 0 (fun _=>true)=R:=⟨_,rfl⟩
 rw [hR]
 have HR:=Lib.hid hR
 clear hR
 refine wp_seq_k (fun K hK=>?_)
 go_cut [] (fun wx=>∃ q',RefB B g q' { d1 with pl:=R } wx∧Kx rT B w wx)
 case first=>
  go_wp2
  go_loopw [3] (fun i wr=>∃ (j:Nat) (pl:List Pl) (q':RQ),j≤d1.waits.length∧i=.int .i64 j∧RefB B g q' { d1 with pl:=pl } wr∧Hid (q'.wv=q.wv)∧Kx rT B w wr∧Hid (thruD pl (d1.waits.drop j) j (fun _=>true)=R)) (fun i _=>d1.waits.length - (intOf i).toNat)
  case atStart=>exact ⟨0,d1.pl,q,by omega,rfl,h1,Lib.hid rfl,k1,HR⟩
  case round=>
   obtain ⟨j,pl,q',hj,rfl,hd,HV,hk,hth⟩:=hrel
   have c3:=hd.c3
   rw [HV.out,HWV.out] at c3
   by_cases hlt:j < d1.waits.length
   case neg=>
    have hRpl:R=pl:=by
     have h:=hth.out
     rw [List.drop_of_length_le (by omega)] at h
     exact h.symm
    have HRP:=Lib.hid hRpl
    clear hRpl hth
    go_wp2
    go_meet
    exact ⟨q',by rw [HRP.out];exact hd,hk⟩
   case pos=>
    have hdr:=List.drop_eq_getElem_cons hlt
    obtain ⟨⟨b,t⟩,hz⟩:∃ z,d1.waits[j]=z:=⟨_,rfl⟩
    have hat:d1.waits[j]?=some (b,t):=by rw [List.getElem?_eq_getElem hlt,hz]
    rw [hz] at hdr
    obtain ⟨gw2,cw2,x,hv2,cs,cx,hsec,h64,htl⟩:=hd.wait_at hat
    have hve:=(HV.out.trans HWV.out).symm.trans hv2
    injection hve with hv3 _ hv4
    subst hv3 hv4
    have hBr:=Nat.le_trans hB hk.bl.size
    have hcm:=rcome_any hd hBr t htl x b hsec h64
    have HTH:Hid (thruD (pl.set t ⟨b,b,false⟩) (d1.waits.drop (j+1)) (j+1) (fun _=>true)=R):=Lib.hid (by
     have h:=hth.out
     rw [hdr,thru_step rfl] at h
     exact h)
    unfold slv at cx hcm
    clear hth hdr hz hat hv2 hsec h64 htl
    go_wp2_with (go_at_call 121;refine hcm.mono ?_;rintro e w3 ⟨⟨v3,rfl⟩,⟨q3,hd3,hv3,_⟩,hk3⟩;have HV3:=Lib.hid hv3;clear hv3)
    go_roundw
    case rel=>exact ⟨j+1,_,q3,by omega,by go_num,hd3,Lib.hid (HV3.out.trans HV.out),hk.trans hk3,HTH⟩
    case measure=>simp [intOf];omega
 obtain ⟨q2,h2,k2⟩:=hcut
 refine hK _ _ ?_
 clear hK
 have hBx:=h2.box
 refine seqH fun K HK=>?_
 go_wp2_with ((first | (with_reducible refine wpList_stB 55 _ _ ?_) | (with_reducible refine wp_stB 55 _ _ ?_));refine ⟨_,_,_,⟨_,_,_,sizeOf55,rfl,‹_›,rk_waits _ _ none 0 0 [] []⟩,?_⟩;intro w5 B5 g5)
 refine HK.out _ _ ?_
 clear HK
 go_wp2
 go_ret
 obtain ⟨h5,k5⟩:=h2.unwait B5 g5
 exact ⟨rfl,⟨_,h5⟩,k2.trans k5⟩
theorem keepB_no {keep:List Bool} {i:Nat} (h:keep.length≤i):keepB keep i=false:=by
 unfold keepB
 rw [List.getD_eq_getElem?_getD,List.getElem?_eq_none_iff.2 h]
 rfl
theorem rcrash_any (h:RefB B g q d w) (hB:B≤w.heap.size) (ka:Option Addr) (kc:Nat) (keep:List Bool) (hl1:keep.length≤1000) (hkr:∀ w',Kx rT B w w'→Row w' ka (keep.map Value.bool)):Calls Tryz.prog 141 #[.pointer (some ⟨g,0,none⟩),.slice ka keep.length kc] w fun e w'=>e=.returned (.int .i64 (crashD d keep).2)∧RDoes B g rT w (crashD d keep).1 w':=by
 have c4:=h.c4
 have hn:=h.n0
 unfold crashD there0
 rcases two_b d.down with e1 | e1
 case inr=>
  rw [if_pos ⟨hn,e1⟩]
  rw [e1] at c4
  clear e1
  go_enter func141,ntmps141
  go_wp2
  go_ret
  exact ⟨rfl,⟨_,h⟩,Kx.refl _ _ _⟩
 case inl=>
 rw [if_neg (by rw [e1];simp),if_neg (by rw [if_neg (by omega)];simp)]
 rw [e1] at c4
 clear e1
 obtain ⟨gw,cw,hwv,_,hwc,hwm⟩:=Row.of_owns h.wts
 unfold maxLen at hwm
 have HWV:=Lib.hid hwv
 clear hwv
 obtain ⟨R,hR⟩:∃ R,thruD d.pl d.waits 0 (keepB keep)=R:=⟨_,rfl⟩
 rw [hR]
 have HR:=Lib.hid hR
 clear hR
 go_enter func141,ntmps141
 refine seqH fun K HK=>?_
 go_wp2
 refine HK.out _ _ ?_
 clear HK
 refine seqH fun K HK=>?_
 go_wp2
 refine HK.out _ _ ?_
 clear HK
 clear c4
 refine wp_seq_k (fun K hK=>?_)
 go_cut [] (fun wx=>∃ q',RefB B g q' { d with pl:=R } wx∧Kx rT B w wx)
 case first=>
  go_wp2
  go_loopw [5] (fun i wr=>∃ (j:Nat) (pl:List Pl) (q':RQ),j≤d.waits.length∧i=.int .i64 j∧RefB B g q' { d with pl:=pl } wr∧Hid (q'.wv=q.wv)∧Kx rT B w wr∧Hid (thruD pl (d.waits.drop j) j (keepB keep)=R)) (fun i _=>d.waits.length - (intOf i).toNat)
  case atStart=>exact ⟨0,d.pl,q,by omega,rfl,h,Lib.hid rfl,Kx.refl _ _ _,HR⟩
  case round=>
   obtain ⟨j,pl,q',hj,rfl,hd,HV,hk,hth⟩:=hrel
   have c3:=hd.c3
   rw [HV.out,HWV.out] at c3
   by_cases hlt:j < d.waits.length
   case neg=>
    have hRpl:R=pl:=by
     have h:=hth.out
     rw [List.drop_of_length_le (by omega)] at h
     exact h.symm
    have HRP:=Lib.hid hRpl
    clear hRpl hth
    go_wp2
    go_meet
    exact ⟨q',by rw [HRP.out];exact hd,hk⟩
   case pos=>
    by_cases hlk:j < keep.length
    case neg=>
     have hRpl:R=pl:=by
      have h:=hth.out
      rw [thru_none _ _ _ _ (fun i hi=>keepB_no (by omega))] at h
      exact h.symm
     have HRP:=Lib.hid hRpl
     clear hRpl hth
     go_wp2
     go_meet
     exact ⟨q',by rw [HRP.out];exact hd,hk⟩
    case pos=>
     have hdr:=List.drop_eq_getElem_cons hlt
     obtain ⟨⟨b,t⟩,hz⟩:∃ z,d.waits[j]=z:=⟨_,rfl⟩
     have hat:d.waits[j]?=some (b,t):=by rw [List.getElem?_eq_getElem hlt,hz]
     rw [hz] at hdr
     obtain ⟨kb,ko,hka,hkc⟩:=(hkr _ hk).at (k:=j) (by simp;omega)
     obtain ⟨v,hv⟩:∃ v,keep[j]?=some v:=⟨_,List.getElem?_eq_getElem hlk⟩
     have ck:=hkc j (.bool v) (by simp [hv])
     have hkv:keepB keep j=v:=by unfold keepB;rw [List.getD_eq_getElem?_getD,hv];rfl
     subst hka
     cases v
     case false=>
      have HTH:Hid (thruD pl (d.waits.drop (j+1)) (j+1) (keepB keep)=R):=Lib.hid (by
       have h:=hth.out
       rw [hdr,thru_no hkv] at h
       exact h)
      clear hth hdr hz hat hkc hv hkv
      go_wp2
      go_roundw
      case rel=>exact ⟨j+1,_,q',by omega,by go_num,hd,HV,hk,HTH⟩
      case measure=>simp [intOf];omega
     case true=>
      obtain ⟨gw2,cw2,x,hv2,cs,cx,hsec,h64,htl⟩:=hd.wait_at hat
      have hve:=(HV.out.trans HWV.out).symm.trans hv2
      injection hve with hv3 _ hv4
      subst hv3 hv4
      have hBr:=Nat.le_trans hB hk.bl.size
      have hcm:=rcome_any hd hBr t htl x b hsec h64
      have HTH:Hid (thruD (pl.set t ⟨b,b,false⟩) (d.waits.drop (j+1)) (j+1) (keepB keep)=R):=Lib.hid (by
       have h:=hth.out
       rw [hdr,thru_step hkv] at h
       exact h)
      unfold slv at cx hcm
      clear hth hdr hz hat hv2 hsec h64 htl hkc hv hkv
      go_wp2_with (go_at_call 121;refine hcm.mono ?_;rintro e w3 ⟨⟨v3,rfl⟩,⟨q3,hd3,hv3,_⟩,hk3⟩;have HV3:=Lib.hid hv3;clear hv3)
      go_roundw
      case rel=>exact ⟨j+1,_,q3,by omega,by go_num,hd3,Lib.hid (HV3.out.trans HV.out),hk.trans hk3,HTH⟩
      case measure=>simp [intOf];omega
 obtain ⟨q2,h2,k2⟩:=hcut
 refine hK _ _ ?_
 clear hK
 have hBx:=h2.box
 refine seqH fun K HK=>?_
 go_wp2_with ((first | (with_reducible refine wpList_stB 55 _ _ ?_) | (with_reducible refine wp_stB 55 _ _ ?_));refine ⟨_,_,_,⟨_,_,_,sizeOf55,rfl,‹_›,rk_waits _ _ none 0 0 [] []⟩,?_⟩;intro w5 B5 g5)
 refine HK.out _ _ ?_
 clear HK
 obtain ⟨h5,k5⟩:=h2.unwait B5 g5
 clear hBx
 refine seqH fun K HK=>?_
 go_wp2_with ((with_reducible refine wpList_stB 4 _ _ ?_);refine ⟨_,_,_,⟨_,_,_,sizeOf4,rfl,B5,rk_down _ _ true⟩,?_⟩;intro w6 B6 g6)
 refine HK.out _ _ ?_
 clear HK
 go_wp2
 go_ret
 obtain ⟨h6,k6⟩:=h5.turn B6 g6 rfl rfl h5.lo h5.hi
 exact ⟨rfl,⟨_,h6⟩,k2.trans (k5.trans k6)⟩
end
end
end Go.Proofs.YtbdonjenekhmdaaGreatDoor
