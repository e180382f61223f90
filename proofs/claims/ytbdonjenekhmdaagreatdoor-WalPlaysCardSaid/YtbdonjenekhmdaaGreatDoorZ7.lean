/- Texts that the claim leans on, part 7: D17, D18, D19, D20, D21, D22, D23, D24a. -/
import Derived.Test.YtbdonjenekhmdaaGreatDoorZ1
import Derived.Test.YtbdonjenekhmdaaGreatDoorZ2
import Derived.Test.YtbdonjenekhmdaaGreatDoorZ3
import Derived.Test.YtbdonjenekhmdaaGreatDoorZ4
import Derived.Test.YtbdonjenekhmdaaGreatDoorZ5
import Derived.Test.YtbdonjenekhmdaaGreatDoorZ6
import Derived.Laws.BitsAllLaws
import Derived.Laws.MakeOwn
namespace Go.Proofs.YtbdonjenekhmdaaGreatDoor
open Go.RowKit Go.Proofs.Tryz
set_option maxRecDepth 100000
set_option maxHeartbeats 32000000
section
section
variable {B g gp:Nat} {wv:Value} {d:Dk} {w:World}
theorem flush_any (h:DiskB B g gp wv d w) (hb:B≤w.heap.size):Calls Tryz.prog 45 #[.pointer (some ⟨g,0,none⟩)] w fun e w'=>e=.returned (.int .i64 (flushD d).2)∧(∃ wv',DiskB B g gp wv' (flushD d).1 w')∧Kt B w w':=by
 have hlv:=live_no h
 have hsp:=spend_any h
 obtain ⟨r,hr⟩:∃ r,live0 d=r:=⟨_,rfl⟩
 rw [hr] at hlv
 by_cases h0:r=0
 case neg=>
  rw [show flushD d=(d,r) by unfold flushD;rw [hr,if_pos h0]]
  have h0b:(r != 0)=true:=by simpa using h0
  go_enter func45,ntmps45
  go_wp2_with (go_at_call 112;refine hlv.mono ?_;rintro e w1 ⟨rfl,rfl⟩)
  go_ret
  exact ⟨rfl,⟨_,h⟩,Kt.refl _ _⟩
 case pos=>
  subst h0
  obtain ⟨⟨d1,e1⟩,hsd⟩:∃ x,spendD d=x:=⟨_,rfl⟩
  rw [hsd] at hsp
  have hfl:flushD d=if e1≠0 then (d1,e1) else ({ d1 with pl:=thruD d1.pl d1.waits 0 (fun _=>true),waits:=[] },0):=by
   unfold flushD
   rw [hr,if_neg (by simp),hsd]
  rw [hfl]
  clear hfl hsd hr
  by_cases he:e1=0
  case neg=>
   rw [if_pos he]
   have heb:(e1 != 0)=true:=by simpa using he
   go_enter func45,ntmps45
   go_wp2_with (first
    | (go_at_call 112;refine hlv.mono ?_;rintro e w1 ⟨rfl,rfl⟩)
    | (go_at_call 113;refine hsp.mono ?_;rintro e w2 ⟨rfl,hd2,hk2⟩))
   go_ret
   exact ⟨rfl,⟨_,hd2⟩,hk2⟩
  case pos=>
   subst he
   rw [if_neg (by simp)]
   go_enter func45,ntmps45
   go_wp2_with (first
    | (go_at_call 112;refine hlv.mono ?_;rintro e w1 ⟨rfl,rfl⟩)
    | (go_at_call 113;refine hsp.mono ?_;rintro e w2 ⟨rfl,hd2,hk2⟩)
    | (go_at_call 114;refine (through_all hd2 (Nat.le_trans hb hk2.bl.size)).mono ?_;rintro e w3 ⟨rfl,hd3,hk3⟩))
   go_ret
   exact ⟨rfl,⟨_,hd3⟩,hk2.trans hk3⟩
end
end
section
theorem thru_skip {pl:List Pl} {x:List UInt8×Nat} {l:List (List UInt8×Nat)} {k:Nat} {is:Nat→Bool} (h:is k=false):thruD pl (x :: l) k is=thruD pl l (k+1) is:=by
 obtain ⟨b,s⟩:=x
 simp only [thruD]
 rw [h]
 rfl
theorem crash1_any (k:Nat) (qk:Nat) (ka:Option Addr) (kc:Nat) (keep:List Bool) (w:World) (hq:w.cell? ⟨qk,0,none⟩=some (.slice ka keep.length kc)) (hr:Row w ka (keep.map Value.bool)) :
  Calls Tryz.prog 188 #[.int .i64 (k:Int),.pointer (some ⟨qk,0,none⟩)] w fun e w'=>e=.returned (.bool (keepB keep k))∧w=w':=by
 by_cases h:k < keep.length
 ·obtain ⟨b,off,rfl,hc⟩:=hr.at (k:=k) (by simpa using h)
  have hck:=hc k (.bool keep[k]) (by simp [h])
  have hv:keepB keep k=keep[k]:=by simp [keepB,List.getD,h]
  rw [hv]
  generalize keep[k]=z at *
  clear hc hr hv
  have hI:(k:Int) < keep.length:=by omega
  go_enter func188,ntmps188
  go_wp2
  go_ret
  exact ⟨rfl,rfl⟩
 ·have hv:keepB keep k=false:=by simp [keepB,List.getD,h]
  rw [hv]
  clear hv
  have hI:¬ (k:Int) < keep.length:=by omega
  go_enter func188,ntmps188
  go_wp2
  go_ret
  exact ⟨rfl,rfl⟩
section
variable {B g gp:Nat} {wv:Value} {d:Dk} {w:World}
theorem through_keep (h:DiskB B g gp wv d w) (hb:B≤w.heap.size) (qk:Nat) (ka:Option Addr) (kc:Nat) (keep:List Bool) (hqk:w.heap[qk]?=some (.cells #[.slice ka keep.length kc] 40 (0,0))) (hkr:∀ w',Kt B w w'→Row w' ka (keep.map Value.bool)):Calls Tryz.prog 114 #[.pointer (some ⟨g,0,none⟩),.func (.func 188) #[] #[.pointer (some ⟨qk,0,none⟩)]] w fun e w'=>e=.returned (.tuple #[])∧DiskB B g gp (.slice none 0 0) { d with pl:=thruD d.pl d.waits 0 (keepB keep),waits:=[] } w'∧Kt B w w':=by
 obtain ⟨wa,wc,rfl,_,hwl,hwm⟩:=Row.of_owns h.wts
 unfold maxLen at hwm
 have c1:=h.c1
 obtain ⟨R,hR⟩:∃ R,thruD d.pl d.waits 0 (keepB keep)=R:=⟨_,rfl⟩
 rw [hR]
 have HR:=Lib.hid hR
 clear hR
 go_enter func114,ntmps114
 refine seqH fun K HK=>?_
 go_wp2_with fail
 go_loopw [11,4,5] (fun i _ _ wr=>∃ (j:Nat) (pl:List Pl),j≤d.waits.length∧i=.int .i64 (j:Nat)∧Hid (pl.length=d.pl.length)∧DiskB B g gp (.slice wa d.waits.length wc) { d with pl:=pl } wr∧Kt B w wr∧Hid (thruD pl (d.waits.drop j) j (keepB keep)=R)) (fun i _ _ _=>d.waits.length - (intOf i).toNat)
 case atStart=>exact ⟨0,d.pl,by omega,rfl,Lib.hid rfl,h,Kt.refl _ _,HR⟩
 case round=>
  obtain ⟨j,pl,hj,rfl,hpl,hd,hk,hth⟩:=hrel
  by_cases hlt:j < d.waits.length
  case neg=>
   have hRpl:R=pl:=by
    have h:=hth.out
    rw [List.drop_of_length_le (by omega)] at h
    exact h.symm
   have HRP:=Lib.hid hRpl
   have hB:=hd.box
   clear hRpl hth
   go_wp2
   refine HK.out _ _ ?_
   clear HK
   go_wp2_with ((first | (with_reducible refine wpList_stB 93 _ _ ?_) | (with_reducible refine wp_stB 93 _ _ ?_));refine ⟨_,_,_,⟨_,_,_,sizeOf93,rfl,‹_›,dk_waits _ _ _ none 0 0⟩,?_⟩;intro w5 B5 g5)
   go_end0
   have b8:=tr_st g5 hd.pls (by rintro rfl;have:=hd.box.symm.trans hd.pls;injection this with this;injection this with _ e;revert e;decide)
   refine ⟨rfl,?_,hk.trans (Kt.st g5 hd.box (.inl rfl) hd.gb)⟩
   rw [HRP.out]
   exact ⟨B5,b8,World.ownsRow_nil _ _ _ _,hd.gb,hd.pb,hd.n0,hd.nl,hd.lo,hd.hi,hd.ok,fun _ hx=>by cases hx⟩
  case pos=>
   have hat:d.waits[j]?=some d.waits[j]:=List.getElem?_eq_getElem hlt
   have hxk:=hd.wk _ (List.getElem_mem hlt)
   have hdr:=List.drop_eq_getElem_cons hlt
   generalize d.waits[j]=x at *
   have hrow:=Row.of_owns hd.wts
   obtain ⟨wa',wc',hv,hwr,_⟩:=hrow
   injection hv with e1 e2 e3
   subst e1 e3
   obtain ⟨b,off,rfl,hbl,hc0,hcs⟩:=hwr.flat0 wtC_len (by decide) hat
   have hbq:B≤wr.heap.size:=Nat.le_trans hb hk.bl.size
   have HDR:=Lib.hid hdr
   clear hdr hat hwr e2
   have hx2:x.2 < pl.length:=hxk.2
   have hx3:(x.2:Int) < pl.length:=by omega
   have hpx:pl[x.2]?=some pl[x.2]:=List.getElem?_eq_getElem hx2
   generalize pl[x.2]=px at *
   have hbX:=blw wr (Obj.cells (wtC x).toArray 219)
   have hdX:=hd.below hbX
   have hkX:=hk.trans (Kt.of hbX hbq)
   have hqX:=heap_alloc_new wr (Obj.cells (wtC x).toArray 219)
   have hqq:(wr.alloc (Obj.cells (wtC x).toArray 219)).cell? ⟨qk,0,none⟩=some (.slice ka keep.length kc):=blk_cell (hkX.ty _ _ _ hqk (by decide) (by decide) (by decide)) 0 _ rfl
   have hcr:=crash1_any j qk ka kc keep (wr.alloc (Obj.cells (wtC x).toArray 219)) hqq (hkr _ hkX)
   obtain ⟨z,hz⟩:∃ z,keepB keep j=z:=⟨_,rfl⟩
   rw [hz] at hcr
   have HZ:=Lib.hid hz
   clear hz hqq
   go_wp2_with (first
    | ((with_reducible refine wpList_ldC 219 _ ?_);refine ⟨rfl,_,⟨_,_,_,isAgg219,sizeOf219,rfl,(show (wtC x).toArray.size=65 by rw [List.size_toArray,wtC_len]),fun j u hu=>hcs j u (by simpa using hu)⟩,?_⟩)
    | ((first | (with_reducible refine wpList_stNew 219 _ _ ?_) | (with_reducible refine wp_stNew 219 _ _ ?_));refine ⟨_,_,⟨sizeOf219,rfl,wt_new x⟩,rfl,?_⟩)
    | (go_at_call 188;refine hcr.mono ?_;rintro e w5 ⟨rfl,rfl⟩;cases z))
   case roundEnd=>
    go_roundw
    case rel=>exact ⟨j+1,pl,by omega,by go_num,hpl,hdX,hkX,Lib.hid (by have h:=hth.out;rw [HDR.out,thru_skip HZ.out] at h;exact h)⟩
    case measure=>simp [intOf];omega
   clear hd hk hcs hc0 hbl hbq hbX hcr
   generalize wr.alloc (Obj.cells (wtC x).toArray 219)=wq at *
   obtain ⟨q,hq⟩:∃ q,wr.heap.size=q:=⟨_,rfl⟩
   simp only [hq] at hqX ⊢
   clear hq
   have hdD:=hdX.below (Below.refl wq.heap.size wq).drew
   have hqD:=tr_bl (Below.refl wq.heap.size wq).drew hqX
   have hkD:=hkX.trans (Kt.of (Below.refl wq.heap.size wq).drew (Nat.le_trans hb hkX.bl.size))
   have hne1:gp≠g:=by rintro rfl;have:=hdD.box.symm.trans hdD.pls;injection this with this;injection this with _ e;revert e;decide
   have hne2:gp≠q:=by rintro rfl;have:=hqD.symm.trans hdD.pls;injection this with this;injection this with _ e;revert e;decide
   refine wp_region_held_drew (S:=fun w'=>w'.heap[g]?=some (.cells (dkA gp (.slice (some ⟨b,off,none⟩) d.waits.length wc) { d with pl:=pl }) 95 (0,0))∧w'.heap[q]?=some (.cells (wtC x).toArray 219 (0,0))) (by kernel_rfl) ⟨hdD.box,hqD⟩ (fun hS0=>?_)
   generalize wq.drew=x0 at *
   clear hdX hkX hqX
   refine tkP 0 rfl ?_
   refine tkP 1 rfl ?_
   refine tkP 2 rfl ?_
   refine tkT 3 rfl (by intro wS hSw;have c:=dkA_c0 hSw.1;go_simp;(try with_reducible rfl)) ?_
   refine tkP 4 rfl ?_
   refine tkT 5 rfl (by intro wS hSw;have c:=wt_c64 hSw.2;go_simp;(try with_reducible rfl)) ?_
   refine tkP 6 rfl ?_
   refine tkT 7 (v:=.agg ((bys x.1).toArray)) rfl (by intro wS hSw;exact exec_ldB 217 _ ⟨_,_,_,_,_,isAgg217,sizeOf217,rfl,hSw.2,wt_rest hxk.1⟩) ?_
   refine tkP 8 rfl ?_
   refine tkT 9 (v:=.agg ((bys x.1).toArray)) rfl (by intro wS hSw;exact exec_ldB 217 _ ⟨_,_,_,_,_,isAgg217,sizeOf217,rfl,hSw.2,wt_rest hxk.1⟩) ?_
   refine tkT 10 (v:=.agg (plC ⟨x.1,x.1,false⟩).toArray) rfl (by intro wS hSw;exact exec_place hxk.1 rfl rfl) ?_
   refine tkP 11 rfl ?_
   refine wpAnyH_ready (rs:=[12]) (by kernel_rfl) (by simp) ?_
   refine AllReadyH.cons (o:=⟨_,_,_,_,_,_⟩) rfl (fun K' hK'=>?_) (AllReadyH.nil)
   refine (if_pos (by rfl)).mpr ?_
   refine wp_stB 255 _ _ ?_
   refine ⟨_,_,_,⟨_,_,_,sizeOf255,rfl,hdD.pls,pls_whole hpx⟩,?_⟩
   intro w6 B6 g6
   have hfin:=hdD.sect B6 g6 ⟨hxk.1,hxk.1⟩
   refine hK'.out _ _ ⟨tr_st g6 hS0.1 hne1,tr_st g6 hS0.2 hne2⟩ (fun _=>?_)
   refine wpAnyH_done (by kernel_rfl) ?_ _
   go_wp2
   go_roundw
   case rel=>exact ⟨j+1,_,by omega,by go_num,Lib.hid (by rw [List.length_set];exact hpl.out),hfin.1,hkD.trans hfin.2,Lib.hid (by have h:=hth.out;rw [HDR.out,thru_step HZ.out] at h;exact h)⟩
   case measure=>simp [intOf];omega
end
end
section
section
variable {B g gp:Nat} {wv:Value} {d:Dk} {w:World}
theorem crash_any (h:DiskB B g gp wv d w) (hb:B≤w.heap.size) (ka:Option Addr) (kc:Nat) (keep:List Bool) (hkr:∀ w',Kt B w w'→Row w' ka (keep.map Value.bool)):Calls Tryz.prog 129 #[.pointer (some ⟨g,0,none⟩),.slice ka keep.length kc] w fun e w'=>e=.returned (.int .i64 (crashD d keep).2)∧(∃ wv',DiskB B g gp wv' (crashD d keep).1 w')∧Kt B w w':=by
 have hn:=h.n0
 have h0:(0:Int) < d.pl.length:=by omega
 have hz:=decide_eq_true h0
 have hbX:=blw w (Obj.cells #[.slice ka keep.length kc] 40)
 have hdX:=h.below hbX
 have hkX:Kt B w (w.alloc (Obj.cells #[.slice ka keep.length kc] 40)):=Kt.of hbX hb
 have hqX:=heap_alloc_new w (Obj.cells #[.slice ka keep.length kc] 40)
 have c2:=hdX.c2
 have ht:=there_no hdX
 have hth:=through_keep hdX (Nat.le_trans hb hkX.bl.size) w.heap.size ka kc keep hqX (fun w' hk'=>hkr w' (hkX.trans hk'))
 cases hdn:d.down
 case true=>
  rw [hdn] at c2
  rw [show crashD d keep=(d,5) by unfold crashD;rw [if_pos ⟨by omega,hdn⟩]]
  go_enter func129,ntmps129
  go_wp2_with (go_at_call 33;refine (dsize hdX).mono ?_;rintro e w1 ⟨rfl,rfl⟩)
  go_ret
  exact ⟨rfl,⟨_,hdX⟩,hkX⟩
 case false=>
  rw [hdn] at c2
  rw [show crashD d keep=({ d with pl:=thruD d.pl d.waits 0 (keepB keep),waits:=[],down:=true },0) by unfold crashD there0;rw [if_neg (by rw [hdn];simp),if_neg (show ¬ d.pl.length=0 by omega),if_neg (by simp)]]
  go_enter func129,ntmps129
  go_wp2_with (first
   | (go_at_call 33;refine (dsize hdX).mono ?_;rintro e w1 ⟨rfl,rfl⟩)
   | (go_at_call 181;refine ht.mono ?_;rintro e w1 ⟨rfl,rfl⟩)
   | (go_at_call 114;refine hth.mono ?_;rintro e w3 ⟨rfl,hd3,hk3⟩;have hB3:=hd3.box)
   | ((first | (with_reducible refine wpList_stB 4 _ _ ?_) | (with_reducible refine wp_stB 4 _ _ ?_));refine ⟨_,_,_,⟨_,_,_,sizeOf4,rfl,‹_›,dk_down _ _ _ true⟩,?_⟩;intro w5 B5 g5;have D5:=hd3.turn B5 g5 rfl rfl h.lo h.hi))
  go_ret
  exact ⟨rfl,⟨_,D5.1⟩,(hkX.trans hk3).trans D5.2⟩
end
end
section
def RestRes (base:Nat) (r:List UInt8×Bool×Int) (e:Ending) (w':World):Prop:=
 if r.2.2=0∧r.2.1=false then ∃ a c,e=.returned (.tuple #[.slice a 64 c,.bool false,.int .i64 0])∧w'.ownsRow base 5 1 (.slice a 64 c) 64 (bys r.1) else e=.returned (.tuple #[.slice none 0 0,.bool r.2.1,.int .i64 r.2.2])
section
variable {B g gp:Nat} {wv:Value} {d:Dk} {w:World}
theorem there_in {d:Dk} {s:Int} (h0:thereD d s=0):0≤s∧s < d.pl.length:=by
 unfold thereD at h0
 split at h0
 ·cases h0
 ·split at h0
  ·cases h0
  ·omega
end
end
section
theorem pl_bit (p:Pl) (hp:p.rest.length=64) (i:Nat) (hi:i < 64) (v:UInt8):(plC p).take i++bys [v]++(plC p).drop (i+1)=plC { p with rest:=p.rest.set i v }:=by
 have h64:(bys p.rest).length=64:=by rw [bys_len];exact hp
 have hb:bys (p.rest.set i v)=(bys p.rest).take i++bys [v]++(bys p.rest).drop (i+1):=by
  unfold bys
  rw [List.set_eq_take_append_cons_drop,if_pos (by omega)]
  simp only [List.map_append,List.map_cons,List.map_nil,List.map_take,List.map_drop,List.append_assoc,List.cons_append,List.nil_append]
 unfold plC
 simp only
 rw [fix64_of hp,fix64_of (show (p.rest.set i v).length=64 by rw [List.length_set];exact hp),hb]
 simp only [List.append_assoc]
 rw [List.take_append_of_le_length (by omega),List.drop_append_of_le_length (by omega)]
end
section
section
variable {B g gp:Nat} {wv:Value} {d:Dk} {w:World}
theorem flip_any (h:DiskB B g gp wv d w) (hb:B≤w.heap.size) (s bit:Int):Calls Tryz.prog 131 #[.pointer (some ⟨g,0,none⟩),.int .i64 s,.int .i64 bit] w fun e w'=>e=.returned (.int .i64 (flipD d s bit).2)∧DiskB B g gp wv (flipD d s bit).1 w'∧Kt B w w':=by
 have hbA:=blw w (Obj.cells #[.int .i64 s] 3)
 have hA:=h.below hbA
 have hk:=Kt.of hbA hb
 have hq:(w.alloc (Obj.cells #[.int .i64 s] 3)).cell? ⟨w.heap.size,0,none⟩=some (.int .i64 s):=blk_cell (heap_alloc_new w _) 0 _ rfl
 have ht:=there_1 hA s w.heap.size hq
 have c0:=hA.c0
 have hP:=hA.pls
 unfold flipD
 by_cases h0:thereD d s=0
 ·rw [if_neg (by simpa using h0)]
  rw [h0] at ht
  by_cases hbt:bit < 0
  ·rw [if_pos hbt]
   go_enter func131,ntmps131
   go_wp2_with (go_at_call 181;refine ht.mono ?_;rintro e w1 ⟨rfl,rfl⟩)
   go_ret
   exact ⟨rfl,hA,hk⟩
  ·rw [if_neg hbt]
   go_enter func131,ntmps131
   have hsr:=there_in h0
   obtain ⟨k,rfl⟩:∃ k:Nat,s=k:=⟨s.toNat,by omega⟩
   have hk2:k < d.pl.length:=by omega
   have hk3:(k:Int) < d.pl.length:=by omega
   have hpk:d.pl[k]?=some d.pl[k]:=List.getElem?_eq_getElem hk2
   simp only [Int.toNat_natCast]
   rw [modify_set _ hpk]
   have hok:=h.ok _ (List.getElem_mem hk2)
   generalize d.pl[k]=p at *
   obtain ⟨n,hn,hn2⟩:∃ n:Nat,bit=(n:Int)∧n=bit.toNat:=⟨bit.toNat,by omega,rfl⟩
   obtain ⟨m,hm,hm2⟩:∃ m:Nat,n % 512=m∧m < 512:=⟨_,rfl,Nat.mod_lt _ (by decide)⟩
   have hmt:bit % 512=(m:Int):=by omega
   rw [← hn2,hm]
   clear hn2
   have HM:=Lib.hid hmt
   have hnn:0≤bit:=by omega
   clear hmt hn hm hbt
   obtain ⟨q,hq8,hq64⟩:∃ q:Nat,m / 8=q∧q < 64:=⟨_,rfl,by omega⟩
   obtain ⟨r,hr8,hr64⟩:∃ r:Nat,m % 8=r∧r < 8:=⟨_,rfl,by omega⟩
   unfold turnBit
   rw [hq8,hr8]
   have HQ:=Lib.hid (show (m:Int) / 8=(q:Int) by omega)
   have HR:=Lib.hid (show (m:Int).tmod 8=(r:Int) by rw [Int.tmod_eq_emod_of_nonneg (by omega)];omega)
   have hw1:IntKind.i64.wrap (q:Int)=q:=by rw [IntKind.wrap_i64];omega
   have HW:=Lib.hid hw1
   have hs8:IntKind.u8.wrap (2 ^ r:Nat)=((2 ^ r:Nat):Int):=by
    have:∀ r,r < 8→IntKind.u8.wrap ((2 ^ r:Nat):Int)=((2 ^ r:Nat):Int):=by decide
    exact this r hr64
   have HS8:=Lib.hid hs8
   have hxr:∀ y:UInt8,bits .xor .u8 (y.toNat:Int) (2 ^ r)=((UInt8.ofNat (y.toNat ^^^ 2 ^ r)).toNat:Int):=fun y=>by
    have h2:2 ^ r < 2 ^ 8:=Nat.pow_lt_pow_right (by decide) hr64
    have h3:=Nat.xor_lt_two_pow (n:=8) y.toNat_lt h2
    have h4:=u8_xor_nat y.toNat (2 ^ r) y.toNat_lt h2
    rw [show ((2 ^ r:Nat):Int)=2 ^ r by push_cast;rfl] at h4
    rw [h4,UInt8.toNat_ofNat',Nat.mod_eq_of_lt h3]
   have HX:=Lib.hid hxr
   clear hxr
   clear hq8 hr8 hw1 hs8
   obtain ⟨y,hy⟩:∃ y,p.rest[q]?=some y:=⟨_,List.getElem?_eq_getElem (by rw [hok.1];exact hq64)⟩
   rw [show p.rest.getD q 0=y by rw [List.getD_eq_getElem?_getD,hy];rfl]
   have hcy:(plC p)[q]?=some (.int .u8 y.toNat):=by
    unfold plC
    rw [List.getElem?_append_left (by rw [bys_len,fix64_len];exact hq64),fix64_of hok.1]
    simp [bys,byv,hy]
   have HY:=Lib.hid hy
   clear hy
   go_wp2_with (go_at_call 181;refine ht.mono ?_;rintro e w1 ⟨rfl,rfl⟩)
   rw [HM.out]
   clear hq ht h0 hsr HM c0 hP hnn hbA
   generalize w.alloc (Obj.cells #[.int .i64 (k:Int)] 3)=wq at *
   have hdD:=hA.below (Below.refl wq.heap.size wq).drew
   have hkD:=hk.trans (Kt.of (Below.refl wq.heap.size wq).drew (Nat.le_trans hb hk.bl.size))
   have hne1:gp≠g:=by rintro rfl;have:=hdD.box.symm.trans hdD.pls;injection this with this;injection this with _ e;revert e;decide
   refine wp_region_held_drew (S:=fun w'=>w'.heap[g]?=some (.cells (dkA gp wv d) 95 (0,0))) (by kernel_rfl) hdD.box (fun hS0=>?_)
   generalize wq.drew=x0 at *
   refine tkP 0 rfl ?_
   refine tkP 1 rfl ?_
   refine tkP 2 rfl ?_
   refine tkT 3 rfl (by intro wS hSw;have c:=dkA_c0 hSw;go_simp;(try with_reducible rfl)) ?_
   refine tkP 4 rfl ?_
   refine tkP 5 rfl ?_
   refine tkT 6 (v:=.int .i64 (q:Int)) rfl (by intro wS hSw;go_simp;rw [HQ.out,HW.out]) ?_
   refine tkP 7 rfl ?_
   refine tkP 8 rfl ?_
   refine tkT 9 (v:=.pointer (some ⟨gp,k * 129+q,none⟩)) rfl (by intro wS hSw;go_simp;exact fun hh=>absurd hh (by omega)) ?_
   refine tkP 11 rfl ?_
   refine tkT 12 (v:=.int .i64 (r:Int)) rfl (by intro wS hSw;go_simp;rw [HR.out]) ?_
   refine tkT 13 (v:=.int .u8 ((2 ^ r:Nat):Int)) rfl (by intro wS hSw;go_simp;exact HS8.out) ?_
   refine tkP 15 rfl ?_
   refine tkP 16 rfl ?_
   have hcl:x0.cell? ⟨gp,k * 129+q,none⟩=some (.int .u8 y.toNat):=blk_cell hdD.pls _ _ (pls_at hpk hcy)
   refine wpAnyH_ready (rs:=[10]) (by kernel_rfl) (by simp) ?_
   refine AllReadyH.cons (o:=⟨_,_,_,_,_,_⟩) rfl (fun K' hK'=>?_) (AllReadyH.nil)
   refine (if_pos (by rfl)).mpr ?_
   refine wp_run (v:=.int .u8 y.toNat) (w':=x0) (by go_simp) ?_
   refine hK'.out _ _ hS0 (fun _=>?_)
   clear hK'
   (try simp only [Act.put,qa1,qa2,qa3])
   refine tkT 14 (v:=.int .u8 ((UInt8.ofNat (y.toNat ^^^ 2 ^ r)).toNat:Int)) rfl (by intro wS hSw;go_simp;rw [HX.out];simp) ?_
   refine tkT 17 (v:=.pointer (some ⟨gp,k * 129+q,none⟩)) rfl (by intro wS hSw;go_simp;exact fun hh=>absurd hh (by omega)) ?_
   refine wpAnyH_ready (rs:=[18]) (by kernel_rfl) (by simp) ?_
   refine AllReadyH.cons (o:=⟨_,_,_,_,_,_⟩) rfl (fun K' hK'=>?_) (AllReadyH.nil)
   refine (if_pos (by rfl)).mpr ?_
   refine wp_stB 5 _ _ ?_
   refine ⟨_,_,_,⟨_,_,_,sizeOf5,rfl,hdD.pls,pls_part (x:=.int .u8 ((UInt8.ofNat (y.toNat ^^^ 2 ^ r)).toNat:Int)) (p':={ p with rest:=p.rest.set q (UInt8.ofNat (y.toNat ^^^ 2 ^ r)) }) hpk rfl (by omega) (by simp [Value.cells,Value.oneCell']) (pl_bit p hok.1 q hq64 _)⟩,?_⟩
   intro w6 B6 g6
   have hfin:=hdD.sect B6 g6 ⟨by rw [List.length_set];exact hok.1,hok.2⟩
   refine hK'.out _ _ (tr_st g6 hS0 hne1) (fun _=>?_)
   refine wpAnyH_done (by kernel_rfl) ?_ _
   go_wp2
   go_ret
   exact ⟨rfl,hfin.1,hkD.trans hfin.2⟩
 ·rw [if_pos (by simpa using h0)]
  have h0b:(thereD d s != 0)=true:=by simpa using h0
  go_enter func131,ntmps131
  go_wp2_with (go_at_call 181;refine ht.mono ?_;rintro e w1 ⟨rfl,rfl⟩)
  go_ret
  exact ⟨rfl,hA,hk⟩
end
end
section
theorem infoPl:(Tryz.prog.info? 255).map (fun i=>(i.zero.map (·.cells),i.size,i.bytes))=some (some (plC zeroPl).toArray,129,129):=by kernel_rfl
theorem made_pls (s:Nat):madeCells (plC zeroPl).toArray (s * 129)=plsV (List.replicate s zeroPl):=by
 apply Array.ext_getElem?
 intro k
 by_cases hk:k < s * 129
 ·have h1:(List.replicate s zeroPl)[k / 129]?=some zeroPl:=by
   rw [List.getElem?_replicate,if_pos (by omega)]
  have hlt:k % 129 < (plC zeroPl).length:=by rw [plC_len];omega
  have h2:(plC zeroPl)[k % 129]?=some (plC zeroPl)[k % 129]:=List.getElem?_eq_getElem hlt
  have h3:=pls_at h1 h2
  rw [show k / 129 * 129+k % 129=k by omega] at h3
  rw [h3]
  unfold madeCells
  have hs:(plC zeroPl).toArray.size=129:=by rw [List.size_toArray,plC_len]
  rw [Array.getElem?_map,Array.getElem?_range,if_pos hk,hs]
  show some ((plC zeroPl).toArray[k % 129]!)=_
  rw [getElem!_pos _ _ (by rw [hs];omega)]
  simp
 ·rw [Array.getElem?_eq_none (by rw [size_madeCells];omega),Array.getElem?_eq_none (by rw [plsV_size,List.length_replicate];omega)]
theorem make_pls (s:Nat) (hs:s≤1024) (w:World):(Instr.makeSlice 92 (.int .i64 s) (.int .i64 s)).run Tryz.prog w=.ok (.slice (some ⟨w.heap.size,0,none⟩) s s) (w.alloc (.cells (plsV (List.replicate s zeroPl)) 255)):=by
 obtain ⟨i,hi,h2⟩:=Option.map_eq_some_iff.1 infoPl
 simp only [Prod.mk.injEq] at h2
 obtain ⟨hz,hsz,hb⟩:=h2
 obtain ⟨z,hz,hzc⟩:=Option.map_eq_some_iff.1 hz
 have:=run_make (P:=Tryz.prog) w 92 255 i z underlying92 hi hz .i64 .i64 s s (by omega) (by omega) (by rw [hb];omega) (by omega)
 rw [hsz,hzc] at this
 simp only [Int.toNat_natCast] at this
 rw [made_pls] at this
 exact this
section
variable {B:Nat} {w:World}
theorem new_any (s:Nat) (h1:1≤s) (h2:s≤1024) (hB:B≤w.heap.size):Calls Tryz.prog 6 #[.int .i64 s] w fun e w'=>(∃ g gp,e=.returned (.tuple #[.pointer (some ⟨g,0,none⟩),.int .i64 0])∧DiskB B g gp (.slice none 0 0) (newDk s) w')∧Below w.heap.size w w':=by
 have hmk:=make_pls s h2
 go_enter func6,ntmps6
 go_wp2
 go_ret2
 have hb1:=blw w (Obj.cells (plsV (List.replicate s zeroPl)) 255)
 have n1:=heap_alloc_new w (Obj.cells (plsV (List.replicate s zeroPl)) 255)
 have hsz:(w.alloc (Obj.cells (plsV (List.replicate s zeroPl)) 255)).heap.size=w.heap.size+1:=by simp
 generalize w.alloc (Obj.cells (plsV (List.replicate s zeroPl)) 255)=w1 at *
 have hlen:(newDk s).pl.length=s:=List.length_replicate
 have e:#[Value.slice (some ⟨w.heap.size,0,none⟩) s s,.slice none 0 0,.bool false,.bool false,.int .i64 (-1)]=dkA w.heap.size (.slice none 0 0) (newDk s):=by
  unfold dkA
  rw [hlen]
  rfl
 refine ⟨⟨w.heap.size+1,w.heap.size,rfl,⟨?_,?_,World.ownsRow_nil _ _ _ _,by omega,hB,by rw [hlen];exact h1,by rw [hlen];exact h2,Int.le_refl _,by show (-1:Int)≤_;omega,?_,?_⟩⟩,?_⟩
 ·rw [← e,← hsz]
  exact heap_alloc_new w1 _
 ·exact tr_al _ n1
 ·intro p hp
  obtain rfl:=List.eq_of_mem_replicate hp
  exact ⟨rfl,rfl⟩
 ·intro x hx
  cases hx
 ·exact hb1.alloc (by omega) _
end
section
variable {B g gp:Nat} {wv:Value} {d:Dk} {w:World}
theorem waits_any (h:DiskB B g gp wv d w):Calls Tryz.prog 18 #[.pointer (some ⟨g,0,none⟩)] w fun e w'=>e=.returned (.int .i64 d.waits.length)∧w=w':=by
 obtain ⟨wa,wc,rfl,_,hwl,hwm⟩:=Row.of_owns h.wts
 have h0:((d.pl.length:Int)==0)=false:=by have:=h.n0;rw [beq_eq_false_iff_ne];omega
 have c1:=h.c1
 go_enter func18,ntmps18
 go_wp2_with (go_at_call 33;refine (dsize h).mono ?_;rintro e w1 ⟨rfl,rfl⟩)
 go_ret
 exact ⟨rfl,rfl⟩
end
end
section
abbrev halV:Value:=.agg #[.int .u32 0x00000000,.int .u32 0x105ec76f,.int .u32 0x20bd8ede,.int .u32 0x30e349b1,.int .u32 0x417b1dbc,.int .u32 0x5125dad3,.int .u32 0x61c69362,.int .u32 0x7198540d,
 .int .u32 0x82f63b78,.int .u32 0x92a8fc17,.int .u32 0xa24bb5a6,.int .u32 0xb21572c9,.int .u32 0xc38d26c4,.int .u32 0xd3d3e1ab,.int .u32 0xe330a81a,.int .u32 0xf36e6f75]
def halL:List Value:=[.int .u32 0x00000000,.int .u32 0x105ec76f,.int .u32 0x20bd8ede,.int .u32 0x30e349b1,.int .u32 0x417b1dbc,.int .u32 0x5125dad3,.int .u32 0x61c69362,.int .u32 0x7198540d,
 .int .u32 0x82f63b78,.int .u32 0x92a8fc17,.int .u32 0xa24bb5a6,.int .u32 0xb21572c9,.int .u32 0xc38d26c4,.int .u32 0xd3d3e1ab,.int .u32 0xe330a81a,.int .u32 0xf36e6f75]
theorem hal_c:∀ k,k < 16→halL[k]?=some (.int .u32 (half k:Nat))
 | 0,_=>rfl | 1,_=>rfl | 2,_=>rfl | 3,_=>rfl | 4,_=>rfl | 5,_=>rfl | 6,_=>rfl | 7,_=>rfl
 | 8,_=>rfl | 9,_=>rfl | 10,_=>rfl | 11,_=>rfl | 12,_=>rfl | 13,_=>rfl | 14,_=>rfl | 15,_=>rfl
 | n+16,h=>absurd h (by omega)
theorem halves_any (w:World):Calls Tryz.prog 227 #[] w fun e w'=>e=.returned halV∧Below w.heap.size w w':=by
 go_enter func227,ntmps227
 go_wp2
 (try simp only [Exit.inBlock,Exit.then])
 refine bodyPost_ret (v:=halV) ?hr rfl ⟨rfl,?_⟩
 case hr=>
  simp only [results,Tryz.results227]
  go_simp
  try rfl
 (repeat' (first | (with_reducible exact Below.refl _ _) | (with_reducible assumption) | (with_reducible refine Below.alloc ?_ ?_ _) | (with_reducible refine Below.drew ?_) | (with_reducible refine below_drewN ?_ _) | (with_reducible refine Below.setCell ?_ ?_ _) | (with_reducible refine Below.trans ?_ (by assumption)) | go_size))
end
end Go.Proofs.YtbdonjenekhmdaaGreatDoor
