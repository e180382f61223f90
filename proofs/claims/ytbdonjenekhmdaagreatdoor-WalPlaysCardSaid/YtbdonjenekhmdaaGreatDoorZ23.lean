/- Texts that the claim leans on, part 23: W22, W23, W10, W11, W12, W13, W14, W15. -/
import Derived.Test.YtbdonjenekhmdaaGreatDoorZ1
import Derived.Test.YtbdonjenekhmdaaGreatDoorZ2
import Derived.Test.YtbdonjenekhmdaaGreatDoorZ3
import Derived.Test.YtbdonjenekhmdaaGreatDoorZ4
import Derived.Test.YtbdonjenekhmdaaGreatDoorZ5
import Derived.Test.YtbdonjenekhmdaaGreatDoorZ6
import Derived.Test.YtbdonjenekhmdaaGreatDoorZ7
import Derived.Test.YtbdonjenekhmdaaGreatDoorZ8
import Derived.Test.YtbdonjenekhmdaaGreatDoorZ9
import Derived.Test.YtbdonjenekhmdaaGreatDoorZ10
import Derived.Test.YtbdonjenekhmdaaGreatDoorZ11
import Derived.Test.YtbdonjenekhmdaaGreatDoorZ12
import Derived.Test.YtbdonjenekhmdaaGreatDoorZ13
import Derived.Test.YtbdonjenekhmdaaGreatDoorZ14
import Derived.Test.YtbdonjenekhmdaaGreatDoorZ15
import Derived.Test.YtbdonjenekhmdaaGreatDoorZ16
import Derived.Test.YtbdonjenekhmdaaGreatDoorZ17
import Derived.Test.YtbdonjenekhmdaaGreatDoorZ18
import Derived.Test.YtbdonjenekhmdaaGreatDoorZ19
import Derived.Test.YtbdonjenekhmdaaGreatDoorZ20
import Derived.Test.YtbdonjenekhmdaaGreatDoorZ21
import Derived.Test.YtbdonjenekhmdaaGreatDoorZ22
namespace Go.Proofs.YtbdonjenekhmdaaGreatDoor
open Go.RowKit Go.Proofs.Tryz
set_option maxRecDepth 100000
set_option maxHeartbeats 32000000
section
theorem LgOk.of_open {d:Dk} {rep inc snap:Int} (h:openE d rep inc snap=0):LgOk ⟨rep,inc,snap⟩∧upD d=true:=by
 unfold openE at h
 split at h
 ·cases h
 split at h
 ·cases h
 rename_i h1 h2
 have hf:fitW snap=true:=by
  cases hf:fitW snap
  ·exact absurd (.inr (.inr (.inr (.inr (.inr hf))))) h1
  ·rfl
 unfold fitW at hf
 rw [Bool.and_eq_true,decide_eq_true_iff,decide_eq_true_iff] at hf
 exact ⟨⟨by show 0≤rep∧rep≤6;omega,by show 1≤inc∧inc≤1099511627776;omega,hf⟩,by simpa using h2⟩
def putAll (d:Dk) (s:Lg) (i:Int) (b:Bal) (e:En):Dk×Int:=
 if hasW s i=false∨(mayBl b && mayE e)=false then (d,2) else if upD d=false then (d,5) else putW d s i b e
section
variable {B g gp q:Nat} {wv:Value} {d:Dk} {w w':World} {s:Lg} {b:Bal} {e:En}
theorem lopen_any (hd:DiskB B g gp wv d w) (rep inc snap:Int) (h156:156≤d.pl.length):Calls Tryz.prog 21 #[.pointer (some ⟨g,0,none⟩),.int .i64 rep,.int .i64 inc,.int .i64 snap] w fun e w'=>OpnW 144 g ⟨rep,inc,snap⟩ (openE d rep inc snap) w e w'∧Below w.heap.size w w':=by
 by_cases h0:openE d rep inc snap=0
 ·obtain ⟨h1,h2⟩:=LgOk.of_open h0
  refine (lopen_ok hd rep inc snap h156 h1 h2).mono ?_
  rintro e w' ⟨⟨q,rfl,hq,hL⟩,hb⟩
  exact ⟨.inl ⟨h0,q,rfl,hq,hL⟩,hb⟩
 ·have hsz:=dsize hd
  have hu:=fun w' (D:DiskB B g gp wv d w')=>up_any D
  have hn0:¬ ((d.pl.length:Int) < 156):=by omega
  have hn1:((d.pl.length:Int)==0)=false:=by rw [beq_eq_false_iff_ne];omega
  have hfi:=fun w=>lfits_any snap w
  rcases (show rep < 0∨(¬ rep < 0∧7≤rep)∨(¬ rep < 0∧¬ 7≤rep∧inc < 1)∨(¬ rep < 0∧¬ 7≤rep∧¬ inc < 1∧1099511627776 < inc)∨(¬ rep < 0∧¬ 7≤rep∧¬ inc < 1∧¬ 1099511627776 < inc) by omega) with h | ⟨h1,h⟩ | ⟨h1,h2,h⟩ | ⟨h1,h2,h3,h⟩ | ⟨h1,h2,h3,h4⟩
  ·clear h0
   have hr:openE d rep inc snap=2:=by unfold openE;rw [if_pos (by omega)]
   rw [hr]
   clear hr
   go_enter func21,ntmps21
   go_wp2_with (first
    | (go_at_call 33;refine hsz.mono ?_;rintro e w1 ⟨rfl,rfl⟩)
    | (go_at_call 34;refine (all_any _).mono ?_;rintro e w1 ⟨rfl,hb1⟩)
    | (go_at_call 75;refine (hfi _).mono ?_;rintro e w1 ⟨rfl,rfl⟩)
    | (go_at_call 43;refine (hu _ (hd.below hb1)).mono ?_;rintro e w1 ⟨rfl,rfl⟩))
   go_ret2
   exact ⟨OpnW.bad (by decide),hb1⟩
  ·clear h0
   have hr:openE d rep inc snap=2:=by unfold openE;rw [if_pos (by omega)]
   rw [hr]
   clear hr
   go_enter func21,ntmps21
   go_wp2_with (first
    | (go_at_call 33;refine hsz.mono ?_;rintro e w1 ⟨rfl,rfl⟩)
    | (go_at_call 34;refine (all_any _).mono ?_;rintro e w1 ⟨rfl,hb1⟩)
    | (go_at_call 75;refine (hfi _).mono ?_;rintro e w1 ⟨rfl,rfl⟩)
    | (go_at_call 43;refine (hu _ (hd.below hb1)).mono ?_;rintro e w1 ⟨rfl,rfl⟩))
   go_ret2
   exact ⟨OpnW.bad (by decide),hb1⟩
  ·clear h0
   have hr:openE d rep inc snap=2:=by unfold openE;rw [if_pos (by omega)]
   rw [hr]
   clear hr
   go_enter func21,ntmps21
   go_wp2_with (first
    | (go_at_call 33;refine hsz.mono ?_;rintro e w1 ⟨rfl,rfl⟩)
    | (go_at_call 34;refine (all_any _).mono ?_;rintro e w1 ⟨rfl,hb1⟩)
    | (go_at_call 75;refine (hfi _).mono ?_;rintro e w1 ⟨rfl,rfl⟩)
    | (go_at_call 43;refine (hu _ (hd.below hb1)).mono ?_;rintro e w1 ⟨rfl,rfl⟩))
   go_ret2
   exact ⟨OpnW.bad (by decide),hb1⟩
  ·clear h0
   have hr:openE d rep inc snap=2:=by unfold openE;rw [if_pos (by omega)]
   rw [hr]
   clear hr
   go_enter func21,ntmps21
   go_wp2_with (first
    | (go_at_call 33;refine hsz.mono ?_;rintro e w1 ⟨rfl,rfl⟩)
    | (go_at_call 34;refine (all_any _).mono ?_;rintro e w1 ⟨rfl,hb1⟩)
    | (go_at_call 75;refine (hfi _).mono ?_;rintro e w1 ⟨rfl,rfl⟩)
    | (go_at_call 43;refine (hu _ (hd.below hb1)).mono ?_;rintro e w1 ⟨rfl,rfl⟩))
   go_ret2
   exact ⟨OpnW.bad (by decide),hb1⟩
  ·cases hf:fitW snap
   ·rw [hf] at hfi
    clear h0
    have hr:openE d rep inc snap=2:=by unfold openE;rw [if_pos (by simp [hf])]
    rw [hr]
    clear hr
    go_enter func21,ntmps21
    go_wp2_with (first
     | (go_at_call 33;refine hsz.mono ?_;rintro e w1 ⟨rfl,rfl⟩)
     | (go_at_call 34;refine (all_any _).mono ?_;rintro e w1 ⟨rfl,hb1⟩)
     | (go_at_call 75;refine (hfi _).mono ?_;rintro e w1 ⟨rfl,rfl⟩)
     | (go_at_call 43;refine (hu _ (hd.below hb1)).mono ?_;rintro e w1 ⟨rfl,rfl⟩))
    go_ret2
    exact ⟨OpnW.bad (by decide),hb1⟩
   ·rw [hf] at hfi
    have hr:openE d rep inc snap=if upD d=false then 5 else 0:=by unfold openE;rw [if_neg (by rw [hf];simp;omega)]
    rw [hr] at h0 ⊢
    cases hup:upD d
    ·rw [hup] at hu
     clear hr hf h0
     go_enter func21,ntmps21
     go_wp2_with (first
      | (go_at_call 33;refine hsz.mono ?_;rintro e w1 ⟨rfl,rfl⟩)
      | (go_at_call 34;refine (all_any _).mono ?_;rintro e w1 ⟨rfl,hb1⟩)
      | (go_at_call 75;refine (hfi _).mono ?_;rintro e w1 ⟨rfl,rfl⟩)
      | (go_at_call 43;refine (hu _ (hd.below hb1)).mono ?_;rintro e w1 ⟨rfl,rfl⟩))
     go_ret2
     exact ⟨OpnW.bad (by decide),hb1⟩
    ·rw [hup] at h0
     exact absurd rfl h0
theorem lput_any (h:LgB w q g s) (hd:DiskB B g gp wv d w) (hb:B≤w.heap.size) (hs:LgOk s) (i:Int) (hw:d.waits.length≤900):Calls Tryz.prog 23 #[.pointer (some ⟨q,0,none⟩),.int .i64 i,.agg (blA b),.agg (enA e)] w fun en w'=>en=.returned (.int .i64 (putAll d s i b e).2)∧(∃ wv',DiskB B g gp wv' (putAll d s i b e).1 w')∧Kt B w w':=by
 have hli:=fun w' (h:LgB w' q g s) (D:DiskB B g gp wv d w')=>llive_any2 h D hs.p i
 unfold putAll
 cases hh:hasW s i
 ·rw [if_pos (.inl rfl)]
  rw [has_not (d:=d) hh] at hli
  have hbB:=blw w (Obj.cells (blA b) 69)
  have hb0:=hbB.trans ((blw (w.alloc (Obj.cells (blA b) 69)) (Obj.cells (enA e) 73)).mono hbB.size)
  have Bx:((w.alloc (Obj.cells (blA b) 69)).alloc (Obj.cells (enA e) 73)).heap[w.heap.size]?=some (.cells (blA b) 69 (0,0)):=tr_al (Obj.cells (enA e) 73) (heap_alloc_new w (Obj.cells (blA b) 69))
  have Ex:((w.alloc (Obj.cells (blA b) 69)).alloc (Obj.cells (enA e) 73)).heap[w.heap.size+1]?=some (.cells (enA e) 73 (0,0)):=new_two w (Obj.cells (blA b) 69) (Obj.cells (enA e) 73)
  have L0:=h.below hb0
  have D0:=hd.below hb0
  go_enter func23,ntmps23
  refine seqH fun K HK=>?_
  go_wp2
  refine HK.out _ _ ?_
  clear HK
  generalize (w.alloc (Obj.cells (blA b) 69)).alloc (Obj.cells (enA e) 73)=w0 at *
  clear h hd hbB
  go_wp2_with (go_at_call 77;refine (hli _ L0 D0).mono ?_;rintro en w1 ⟨rfl,rfl⟩)
  go_ret
  exact ⟨rfl,⟨_,D0⟩,Kt.of hb0 hb⟩
 ·rw [live_has (d:=d) hh] at hli
  cases hm:(mayBl b && mayE e)
  ·rw [if_pos (.inr rfl)]
   have hpr:=fun w=>eprint_bad (w:=w) (b:=b) (e:=e) hm
   cases hu:upD d
   ·rw [hu] at hli
    have hbB:=blw w (Obj.cells (blA b) 69)
    have hb0:=hbB.trans ((blw (w.alloc (Obj.cells (blA b) 69)) (Obj.cells (enA e) 73)).mono hbB.size)
    have Bx:((w.alloc (Obj.cells (blA b) 69)).alloc (Obj.cells (enA e) 73)).heap[w.heap.size]?=some (.cells (blA b) 69 (0,0)):=tr_al (Obj.cells (enA e) 73) (heap_alloc_new w (Obj.cells (blA b) 69))
    have Ex:((w.alloc (Obj.cells (blA b) 69)).alloc (Obj.cells (enA e) 73)).heap[w.heap.size+1]?=some (.cells (enA e) 73 (0,0)):=new_two w (Obj.cells (blA b) 69) (Obj.cells (enA e) 73)
    have L0:=h.below hb0
    have D0:=hd.below hb0
    go_enter func23,ntmps23
    refine seqH fun K HK=>?_
    go_wp2
    refine HK.out _ _ ?_
    clear HK
    generalize (w.alloc (Obj.cells (blA b) 69)).alloc (Obj.cells (enA e) 73)=w0 at *
    clear h hd hbB
    go_wp2_with (first
     | (go_at_call 77;refine (hli _ L0 D0).mono ?_;rintro en w1 ⟨rfl,rfl⟩)
     | ((with_reducible refine wpList_ldB 69 _ ?_);refine ⟨rfl,_,⟨_,_,_,_,_,isAgg69,sizeOf69,rfl,‹_›,arr_all rfl⟩,?_⟩)
     | ((with_reducible refine wpList_ldB 73 _ ?_);refine ⟨rfl,_,⟨_,_,_,_,_,isAgg73,sizeOf73,rfl,‹_›,arr_all rfl⟩,?_⟩)
     | (go_at_call 78;refine (hpr _).mono ?_;rintro en w2 ⟨rfl,hb2⟩))
    go_ret
    exact ⟨rfl,⟨_,D0.below hb2⟩,Kt.of (hb0.trans (hb2.mono hb0.size)) hb⟩
   ·rw [hu] at hli
    have hbB:=blw w (Obj.cells (blA b) 69)
    have hb0:=hbB.trans ((blw (w.alloc (Obj.cells (blA b) 69)) (Obj.cells (enA e) 73)).mono hbB.size)
    have Bx:((w.alloc (Obj.cells (blA b) 69)).alloc (Obj.cells (enA e) 73)).heap[w.heap.size]?=some (.cells (blA b) 69 (0,0)):=tr_al (Obj.cells (enA e) 73) (heap_alloc_new w (Obj.cells (blA b) 69))
    have Ex:((w.alloc (Obj.cells (blA b) 69)).alloc (Obj.cells (enA e) 73)).heap[w.heap.size+1]?=some (.cells (enA e) 73 (0,0)):=new_two w (Obj.cells (blA b) 69) (Obj.cells (enA e) 73)
    have L0:=h.below hb0
    have D0:=hd.below hb0
    go_enter func23,ntmps23
    refine seqH fun K HK=>?_
    go_wp2
    refine HK.out _ _ ?_
    clear HK
    generalize (w.alloc (Obj.cells (blA b) 69)).alloc (Obj.cells (enA e) 73)=w0 at *
    clear h hd hbB
    go_wp2_with (first
     | (go_at_call 77;refine (hli _ L0 D0).mono ?_;rintro en w1 ⟨rfl,rfl⟩)
     | ((with_reducible refine wpList_ldB 69 _ ?_);refine ⟨rfl,_,⟨_,_,_,_,_,isAgg69,sizeOf69,rfl,‹_›,arr_all rfl⟩,?_⟩)
     | ((with_reducible refine wpList_ldB 73 _ ?_);refine ⟨rfl,_,⟨_,_,_,_,_,isAgg73,sizeOf73,rfl,‹_›,arr_all rfl⟩,?_⟩)
     | (go_at_call 78;refine (hpr _).mono ?_;rintro en w2 ⟨rfl,hb2⟩))
    go_ret
    exact ⟨rfl,⟨_,D0.below hb2⟩,Kt.of (hb0.trans (hb2.mono hb0.size)) hb⟩
  ·rw [if_neg (by simp)]
   rw [Bool.and_eq_true] at hm
   cases hu:upD d
   ·rw [if_pos rfl]
    have hpr:=fun w=>eprint_ok (w:=w) (b:=b) (e:=e) hm.1 hm.2
    rw [hu] at hli
    have hbB:=blw w (Obj.cells (blA b) 69)
    have hb0:=hbB.trans ((blw (w.alloc (Obj.cells (blA b) 69)) (Obj.cells (enA e) 73)).mono hbB.size)
    have Bx:((w.alloc (Obj.cells (blA b) 69)).alloc (Obj.cells (enA e) 73)).heap[w.heap.size]?=some (.cells (blA b) 69 (0,0)):=tr_al (Obj.cells (enA e) 73) (heap_alloc_new w (Obj.cells (blA b) 69))
    have Ex:((w.alloc (Obj.cells (blA b) 69)).alloc (Obj.cells (enA e) 73)).heap[w.heap.size+1]?=some (.cells (enA e) 73 (0,0)):=new_two w (Obj.cells (blA b) 69) (Obj.cells (enA e) 73)
    have L0:=h.below hb0
    have D0:=hd.below hb0
    go_enter func23,ntmps23
    refine seqH fun K HK=>?_
    go_wp2
    refine HK.out _ _ ?_
    clear HK
    generalize (w.alloc (Obj.cells (blA b) 69)).alloc (Obj.cells (enA e) 73)=w0 at *
    clear h hd hbB
    go_wp2_with (first
     | (go_at_call 77;refine (hli _ L0 D0).mono ?_;rintro en w1 ⟨rfl,rfl⟩)
     | ((with_reducible refine wpList_ldB 69 _ ?_);refine ⟨rfl,_,⟨_,_,_,_,_,isAgg69,sizeOf69,rfl,‹_›,arr_all rfl⟩,?_⟩)
     | ((with_reducible refine wpList_ldB 73 _ ?_);refine ⟨rfl,_,⟨_,_,_,_,_,isAgg73,sizeOf73,rfl,‹_›,arr_all rfl⟩,?_⟩)
     | (go_at_call 78;refine (hpr _).mono ?_;rintro en w2 ⟨⟨a2,c2,rfl,O2⟩,hb2⟩))
    go_ret
    exact ⟨rfl,⟨_,D0.below hb2⟩,Kt.of (hb0.trans (hb2.mono hb0.size)) hb⟩
   ·rw [if_neg (by simp)]
    exact lput_ok h hd hb hs i (by rw [live_has hh,hu];rfl) hm.1 hm.2 hw
theorem lall_down (h:LgB w q g s) (hd:DiskB B g gp wv d w) (hup:upD d=false):Calls Tryz.prog 28 #[.pointer (some ⟨q,0,none⟩)] w fun e w'=>e=.returned (.tuple #[.slice none 0 0,.int .i64 5])∧w=w':=by
 have hno:=lnone_any2 h
 have hu:=up_any hd
 rw [hup] at hu
 have c0:=h.c0
 go_enter func28,ntmps28
 go_wp2_with (first
  | (go_at_call 90;refine hno.mono ?_;rintro e w1 ⟨rfl,rfl⟩)
  | (go_at_call 43;refine hu.mono ?_;rintro e w1 ⟨rfl,rfl⟩))
 go_ret2
 exact ⟨rfl,rfl⟩
end
def allE (d:Dk) (s:Lg):List Rpt×Int:=if upD d=false then ([],5) else (allW d s,0)
end
section
section
variable {B g q:Nat} {qq:RQ} {d:Dk} {w:World} {s:Lg}
theorem rat1_any (h:LrB w q g s) (R:RefB B g qq d w) (p:Int) (hp:0≤p∧p < 24):Calls Tryz.prog 161 #[.pointer (some ⟨q,0,none⟩),.int .i64 3,.int .i64 p] w fun e w'=>FrRes w.heap.size (fr1 d s.rep 3 p) e w'∧Below w.heap.size w w':=by
 have hf:=first3 hp
 unfold fr1
 obtain ⟨f,hff⟩:∃ f,firstN 3 p=f:=⟨_,rfl⟩
 rw [hff] at hf ⊢
 obtain ⟨r,hr⟩:∃ r,(if (readD d f).2≠0 then ((2:Nat),zeroTg,([]:List UInt8)) else mineF (preW d f 1) s.rep 3 p)=r:=⟨_,rfl⟩
 rw [hr]
 have HR:=Lib.hid hr
 clear hr
 have hfb:0≤f∧f < 200:=by omega
 have HF:=Lib.hid hff
 clear hf hff
 go_enter func161,ntmps161
 refine seqH fun K HK=>?_
 go_wp2
 refine HK.out _ _ ?_
 clear HK
 have hbz:=blw w (Obj.cells #[.int .i64 0,.int .i64 0,.int .i64 0,.int .i64 0,.int .i64 0] 39)
 have RZ:=heap_alloc_new w (Obj.cells #[.int .i64 0,.int .i64 0,.int .i64 0,.int .i64 0,.int .i64 0] 39)
 generalize w.alloc (Obj.cells #[.int .i64 0,.int .i64 0,.int .i64 0,.int .i64 0,.int .i64 0] 39)=w0 at *
 refine seqH fun K HK=>?_
 go_wp2
 refine HK.out _ _ ?_
 clear HK
 refine seqH fun K HK=>?_
 go_wp2_with fail
 go_loopw [10,9] (fun i o wr=>∃ (j:Nat) (v:Value),j≤1∧i=.int .i64 (j:Nat)∧o=v∧(∀ t:Nat,t < j→(readD d (f+t)).2=0)∧wr.ownsRow (w.heap.size+1) 5 1 v (preW d f j).length (bys (preW d f j))∧Below w.heap.size w wr∧wr.heap[w.heap.size]?=some (.cells #[.int .i64 0,.int .i64 0,.int .i64 0,.int .i64 0,.int .i64 0] 39 (0,0))) (fun i _ _=>1 - (intOf i).toNat)
 case atStart=>exact ⟨0,_,by omega,rfl,rfl,fun t ht=>absurd ht (by omega),World.ownsRow_nil _ _ _ _,hbz,RZ⟩
 case' round=>
  clear hbz RZ
  obtain ⟨j,v,hj,rfl,rfl,hall,hown,hbr,RB⟩:=hrel
 rcases (show j=0∨j=1 by omega) with rfl | rfl
 ·skip
  have hrd:=fun w' (h':RefB B g qq d w')=>rread_any h' (f)
  obtain ⟨bs,re,hbs⟩:∃ bs re,readD d (f)=(bs,re):=⟨_,_,rfl⟩
  have hrl:=rread_len R (f)
  rw [hbs] at hrl
  simp only [hbs] at hrd
  simp only at hrl
  have HBS:=Lib.hid hbs
  clear hbs
  have hdr:=R.below hbr
  have hsr:=h.below hbr
  have hpl:(preW d f 0).length=64 * 0:=rfl
  have HPL:=Lib.hid hpl
  have HPS:=Lib.hid (show preW d f (0+1)=preW d f 0++(readD d (f)).1 from rfl)
  clear hpl
  generalize preW d f 0=pr at *
  refine seqH fun K HK=>?_
  go_wp2_with (go_at_call 165;refine (rwide_any 3 _).mono ?_;rintro e w9 ⟨rfl,rfl⟩;rw [show wideN 3=1 from rfl])
  refine HK.out _ _ ?_
  clear HK
  refine seqH fun K HK2=>?_
  refine wp_block ?_
  refine seqH fun K HK3=>?_
  go_wp2_with fail
  have hbd:=(Below.refl wr.heap.size wr).drew
  have D1:=hdr.below hbd
  have S1:=hsr.below hbd
  have R1:=tr_bl hbd RB
  have hb1:=hbr.trans (hbd.mono hbr.size)
  have o1:=owns_bl hown hbd
  refine wp_region_held_drew (S:=fun w'=>LrB w' q g s) (by kernel_rfl) S1 (fun hS0=>?_)
  clear hbd hdr hsr hown hbr RB
  generalize wr.drew=x0 at *
  refine tkP 0 rfl ?_
  refine tkP 1 rfl ?_
  refine tkP 2 rfl ?_
  refine tkT 3 rfl (by intro wS hSw;have c:=hSw.c0;go_simp;(try with_reducible rfl)) ?_
  refine tkP 4 rfl ?_
  refine tkP 5 rfl ?_
  refine tkP 7 rfl ?_
  refine rdy1 6 rfl (fun K' hK'=>?_)
  go_simp
  refine (rfirst3_any 3 p _).mono ?_
  rintro e w2 ⟨rfl,rfl⟩
  rw [HF.out]
  refine hK'.out _ _ S1 (fun _=>?_)
  clear hK' hS0
  (try simp only [Act.put,qa1,qa2,qa3])
  refine tkT 8 (v:=.int .i64 (f)) rfl (by intro wS hSw;go_simp;(try rw [IntWalk.i64_in _ (by omega)])) ?_
  refine rdy1 9 rfl (fun K' hK'=>?_)
  go_simp
  refine (hrd _ D1).mono ?_
  rintro e w4 ⟨⟨a4,c4,rfl,s4⟩,hb4⟩
  have S4:=S1.below hb4
  have R4:=tr_bl hb4 R1
  have o4:=owns_bl o1 hb4
  have hb5:=hb1.trans (hb4.mono hb1.size)
  refine hK'.out _ _ S4 (fun _=>?_)
  clear hK' D1 S1 R1 o1 hb1 hb4 hrd
  (try simp only [Act.put,qa1,qa2,qa3])
  refine tkP 10 rfl ?_
  refine tkP 11 rfl ?_
  refine tkP 12 rfl ?_
  refine tkP 13 rfl ?_
  refine tkP 14 rfl ?_
  refine wpAnyH_done (by kernel_rfl) ?_ _
  refine HK3.out _ _ ?_
  clear HK3
  by_cases h0:re=0
  ·subst h0
   have HBL:=Lib.hid (hrl.1 rfl)
   clear hrl
   refine seqH fun K HK=>?_
   go_wp2
   refine HK.out _ _ ?_
   clear HK
   go_wp2_with (at_builtin;refine wpList_append_row rfl _ _ 37 5 elByte rfl (w.heap.size+1) _ pr.length (bys pr) rfl o4 a4 bs.length c4 (bys bs) rfl (by rw [bys_len];omega) s4.row bys_one (by have:=HPL.out;have:=HBL.out;omega) (by decide) (lt_blk R4) ?_;intro v6 w6 ho6 hb6)
   (try simp only [Exit.inBlock,Exit.then])
   refine HK2.out _ _ ?_
   clear HK2
   go_wp2
   go_roundw
   case rel=>
    refine ⟨0+1,_,by omega,by rfl,rfl,fun t ht=>?_,?_,hb5.trans (hb6.mono (by omega)),(hb6.block _ (by omega)).trans R4⟩
    ·by_cases htj:t < 0
     ·exact hall t htj
     ·obtain rfl:t=0:=by omega
      rw [show f+((0:Nat):Int)=f by omega,HBS.out]
    ·rw [HPS.out,HBS.out,List.length_append,bys_app]
     exact ho6
   case measure=>simp [intOf]
  ·have hn:(re != 0)=true:=by rw [bne_iff_ne];exact h0
   have hr0:r=(2,zeroTg,[]):=by
    rw [← HR.out,if_pos]
    (rw [HBS.out];exact h0)
   clear HK HR HPS
   subst hr0
   go_wp2_with ((with_reducible refine wpList_stB 39 _ _ ?_);refine ⟨_,_,_,⟨_,_,_,sizeOf39,rfl,R4,st5 _ rfl 0 0 0 0 0⟩,?_⟩;intro w8 B8 g8)
   refine bodyPost_ret (results_t1c1t1 rfl rfl (run_loadVar_all isAgg39 sizeOf39 B8 rfl)) rfl ⟨FrRes.none rfl,bl_st hb5 g8 hb5.size (by omega)⟩
 ·have hr0:=hall 0 (by omega)
  rw [show f+((0:Nat):Int)=f by omega] at hr0
  skip
  have hlen:(preW d f 1).length=64 * 1:=(rread_len R f).1 hr0
  clear hall
  generalize preW d f 1=b at *
  obtain ⟨a2,c2,rfl,s2⟩:=SlB.of_owns hown
  have hmi:=rmine_any a2 c2 b s.rep 3 p wr s2 (by omega)
  have hml:=mine_len3 b s.rep 3 p
  obtain ⟨st,tg,body,hmm⟩:∃ st tg body,mineF b s.rep 3 p=(st,tg,body):=⟨_,_,_,rfl⟩
  have hrr:=HR.out
  rw [if_neg (by simp [hr0]),hmm] at hrr
  rw [hmm] at hmi
  have c1:=(h.below hbr).c1
  clear hmm hown hlen HR hml
  generalize hbn:b.length=bn at *
  clear hbn
  subst hrr
  go_wp2_with (go_at_call 165;refine (rwide_any 3 _).mono ?_;rintro e w9 ⟨rfl,rfl⟩;rw [show wideN 3=1 from rfl])
  refine HK.out _ _ ?_
  clear HK
  go_wp2_with (first
   | (go_at_call 127;refine hmi.mono ?_;rintro e w2 ⟨⟨a3,c3,rfl,hO⟩,hb2⟩;have R2:=tr_bl hb2 RB)
   | ((with_reducible refine wpList_stB 39 _ _ ?_);refine ⟨_,_,_,⟨_,_,_,sizeOf39,rfl,R2,st5 _ rfl tg.rep tg.reg tg.pla tg.idx tg.inc⟩,?_⟩;intro w8 B8 g8))
  have hb3:=hbr.trans (hb2.mono hbr.size)
  refine bodyPost_ret (results_t1c1t1 rfl rfl (run_loadVar_all isAgg39 sizeOf39 B8 rfl)) rfl ⟨⟨a3,c3,rfl,(hO.mono hbr.size).st g8 R2 (by decide)⟩,bl_st hb3 g8 hb3.size (Nat.le_refl _)⟩
theorem rat2_any (h:LrB w q g s) (R:RefB B g qq d w) (p:Int) (hp:0≤p∧p < 48):Calls Tryz.prog 161 #[.pointer (some ⟨q,0,none⟩),.int .i64 4,.int .i64 p] w fun e w'=>FrRes w.heap.size (fr2 d s.rep 4 p) e w'∧Below w.heap.size w w':=by
 have hf:=first4 hp
 unfold fr2
 obtain ⟨f,hff⟩:∃ f,firstN 4 p=f:=⟨_,rfl⟩
 rw [hff] at hf ⊢
 obtain ⟨r,hr⟩:∃ r,(if (readD d f).2≠0∨(readD d (f+1)).2≠0 then ((2:Nat),zeroTg,([]:List UInt8)) else mineF (preW d f 2) s.rep 4 p)=r:=⟨_,rfl⟩
 rw [hr]
 have HR:=Lib.hid hr
 clear hr
 have hfb:0≤f∧f < 200:=by omega
 have HF:=Lib.hid hff
 clear hf hff
 go_enter func161,ntmps161
 refine seqH fun K HK=>?_
 go_wp2
 refine HK.out _ _ ?_
 clear HK
 have hbz:=blw w (Obj.cells #[.int .i64 0,.int .i64 0,.int .i64 0,.int .i64 0,.int .i64 0] 39)
 have RZ:=heap_alloc_new w (Obj.cells #[.int .i64 0,.int .i64 0,.int .i64 0,.int .i64 0,.int .i64 0] 39)
 generalize w.alloc (Obj.cells #[.int .i64 0,.int .i64 0,.int .i64 0,.int .i64 0,.int .i64 0] 39)=w0 at *
 refine seqH fun K HK=>?_
 go_wp2
 refine HK.out _ _ ?_
 clear HK
 refine seqH fun K HK=>?_
 go_wp2_with fail
 go_loopw [10,9] (fun i o wr=>∃ (j:Nat) (v:Value),j≤2∧i=.int .i64 (j:Nat)∧o=v∧(∀ t:Nat,t < j→(readD d (f+t)).2=0)∧wr.ownsRow (w.heap.size+1) 5 1 v (preW d f j).length (bys (preW d f j))∧Below w.heap.size w wr∧wr.heap[w.heap.size]?=some (.cells #[.int .i64 0,.int .i64 0,.int .i64 0,.int .i64 0,.int .i64 0] 39 (0,0))) (fun i _ _=>2 - (intOf i).toNat)
 case atStart=>exact ⟨0,_,by omega,rfl,rfl,fun t ht=>absurd ht (by omega),World.ownsRow_nil _ _ _ _,hbz,RZ⟩
 case' round=>
  clear hbz RZ
  obtain ⟨j,v,hj,rfl,rfl,hall,hown,hbr,RB⟩:=hrel
 rcases (show j=0∨j=1∨j=2 by omega) with rfl | rfl | rfl
 ·skip
  have hrd:=fun w' (h':RefB B g qq d w')=>rread_any h' (f)
  obtain ⟨bs,re,hbs⟩:∃ bs re,readD d (f)=(bs,re):=⟨_,_,rfl⟩
  have hrl:=rread_len R (f)
  rw [hbs] at hrl
  simp only [hbs] at hrd
  simp only at hrl
  have HBS:=Lib.hid hbs
  clear hbs
  have hdr:=R.below hbr
  have hsr:=h.below hbr
  have hpl:(preW d f 0).length=64 * 0:=rfl
  have HPL:=Lib.hid hpl
  have HPS:=Lib.hid (show preW d f (0+1)=preW d f 0++(readD d (f)).1 from rfl)
  clear hpl
  generalize preW d f 0=pr at *
  refine seqH fun K HK=>?_
  go_wp2_with (go_at_call 165;refine (rwide_any 4 _).mono ?_;rintro e w9 ⟨rfl,rfl⟩;rw [show wideN 4=2 from rfl])
  refine HK.out _ _ ?_
  clear HK
  refine seqH fun K HK2=>?_
  refine wp_block ?_
  refine seqH fun K HK3=>?_
  go_wp2_with fail
  have hbd:=(Below.refl wr.heap.size wr).drew
  have D1:=hdr.below hbd
  have S1:=hsr.below hbd
  have R1:=tr_bl hbd RB
  have hb1:=hbr.trans (hbd.mono hbr.size)
  have o1:=owns_bl hown hbd
  refine wp_region_held_drew (S:=fun w'=>LrB w' q g s) (by kernel_rfl) S1 (fun hS0=>?_)
  clear hbd hdr hsr hown hbr RB
  generalize wr.drew=x0 at *
  refine tkP 0 rfl ?_
  refine tkP 1 rfl ?_
  refine tkP 2 rfl ?_
  refine tkT 3 rfl (by intro wS hSw;have c:=hSw.c0;go_simp;(try with_reducible rfl)) ?_
  refine tkP 4 rfl ?_
  refine tkP 5 rfl ?_
  refine tkP 7 rfl ?_
  refine rdy1 6 rfl (fun K' hK'=>?_)
  go_simp
  refine (rfirst3_any 4 p _).mono ?_
  rintro e w2 ⟨rfl,rfl⟩
  rw [HF.out]
  refine hK'.out _ _ S1 (fun _=>?_)
  clear hK' hS0
  (try simp only [Act.put,qa1,qa2,qa3])
  refine tkT 8 (v:=.int .i64 (f)) rfl (by intro wS hSw;go_simp;(try rw [IntWalk.i64_in _ (by omega)])) ?_
  refine rdy1 9 rfl (fun K' hK'=>?_)
  go_simp
  refine (hrd _ D1).mono ?_
  rintro e w4 ⟨⟨a4,c4,rfl,s4⟩,hb4⟩
  have S4:=S1.below hb4
  have R4:=tr_bl hb4 R1
  have o4:=owns_bl o1 hb4
  have hb5:=hb1.trans (hb4.mono hb1.size)
  refine hK'.out _ _ S4 (fun _=>?_)
  clear hK' D1 S1 R1 o1 hb1 hb4 hrd
  (try simp only [Act.put,qa1,qa2,qa3])
  refine tkP 10 rfl ?_
  refine tkP 11 rfl ?_
  refine tkP 12 rfl ?_
  refine tkP 13 rfl ?_
  refine tkP 14 rfl ?_
  refine wpAnyH_done (by kernel_rfl) ?_ _
  refine HK3.out _ _ ?_
  clear HK3
  by_cases h0:re=0
  ·subst h0
   have HBL:=Lib.hid (hrl.1 rfl)
   clear hrl
   refine seqH fun K HK=>?_
   go_wp2
   refine HK.out _ _ ?_
   clear HK
   go_wp2_with (at_builtin;refine wpList_append_row rfl _ _ 37 5 elByte rfl (w.heap.size+1) _ pr.length (bys pr) rfl o4 a4 bs.length c4 (bys bs) rfl (by rw [bys_len];omega) s4.row bys_one (by have:=HPL.out;have:=HBL.out;omega) (by decide) (lt_blk R4) ?_;intro v6 w6 ho6 hb6)
   (try simp only [Exit.inBlock,Exit.then])
   refine HK2.out _ _ ?_
   clear HK2
   go_wp2
   go_roundw
   case rel=>
    refine ⟨0+1,_,by omega,by rfl,rfl,fun t ht=>?_,?_,hb5.trans (hb6.mono (by omega)),(hb6.block _ (by omega)).trans R4⟩
    ·by_cases htj:t < 0
     ·exact hall t htj
     ·obtain rfl:t=0:=by omega
      rw [show f+((0:Nat):Int)=f by omega,HBS.out]
    ·rw [HPS.out,HBS.out,List.length_append,bys_app]
     exact ho6
   case measure=>simp [intOf]
  ·have hn:(re != 0)=true:=by rw [bne_iff_ne];exact h0
   have hr0:r=(2,zeroTg,[]):=by
    rw [← HR.out,if_pos]
    (rw [HBS.out];exact .inl h0)
   clear HK HR HPS
   subst hr0
   go_wp2_with ((with_reducible refine wpList_stB 39 _ _ ?_);refine ⟨_,_,_,⟨_,_,_,sizeOf39,rfl,R4,st5 _ rfl 0 0 0 0 0⟩,?_⟩;intro w8 B8 g8)
   refine bodyPost_ret (results_t1c1t1 rfl rfl (run_loadVar_all isAgg39 sizeOf39 B8 rfl)) rfl ⟨FrRes.none rfl,bl_st hb5 g8 hb5.size (by omega)⟩
 ·have hr0:=hall 0 (by omega)
  rw [show f+((0:Nat):Int)=f by omega] at hr0
  skip
  have hrd:=fun w' (h':RefB B g qq d w')=>rread_any h' (f+1)
  obtain ⟨bs,re,hbs⟩:∃ bs re,readD d (f+1)=(bs,re):=⟨_,_,rfl⟩
  have hrl:=rread_len R (f+1)
  rw [hbs] at hrl
  simp only [hbs] at hrd
  simp only at hrl
  have HBS:=Lib.hid hbs
  clear hbs
  have hdr:=R.below hbr
  have hsr:=h.below hbr
  have hpl:(preW d f 1).length=64 * 1:=(rread_len R f).1 hr0
  have HPL:=Lib.hid hpl
  have HPS:=Lib.hid (show preW d f (1+1)=preW d f 1++(readD d (f+1)).1 from rfl)
  clear hpl
  generalize preW d f 1=pr at *
  refine seqH fun K HK=>?_
  go_wp2_with (go_at_call 165;refine (rwide_any 4 _).mono ?_;rintro e w9 ⟨rfl,rfl⟩;rw [show wideN 4=2 from rfl])
  refine HK.out _ _ ?_
  clear HK
  refine seqH fun K HK2=>?_
  refine wp_block ?_
  refine seqH fun K HK3=>?_
  go_wp2_with fail
  have hbd:=(Below.refl wr.heap.size wr).drew
  have D1:=hdr.below hbd
  have S1:=hsr.below hbd
  have R1:=tr_bl hbd RB
  have hb1:=hbr.trans (hbd.mono hbr.size)
  have o1:=owns_bl hown hbd
  refine wp_region_held_drew (S:=fun w'=>LrB w' q g s) (by kernel_rfl) S1 (fun hS0=>?_)
  clear hbd hdr hsr hown hbr RB
  generalize wr.drew=x0 at *
  refine tkP 0 rfl ?_
  refine tkP 1 rfl ?_
  refine tkP 2 rfl ?_
  refine tkT 3 rfl (by intro wS hSw;have c:=hSw.c0;go_simp;(try with_reducible rfl)) ?_
  refine tkP 4 rfl ?_
  refine tkP 5 rfl ?_
  refine tkP 7 rfl ?_
  refine rdy1 6 rfl (fun K' hK'=>?_)
  go_simp
  refine (rfirst3_any 4 p _).mono ?_
  rintro e w2 ⟨rfl,rfl⟩
  rw [HF.out]
  refine hK'.out _ _ S1 (fun _=>?_)
  clear hK' hS0
  (try simp only [Act.put,qa1,qa2,qa3])
  refine tkT 8 (v:=.int .i64 (f+1)) rfl (by intro wS hSw;go_simp;(try rw [IntWalk.i64_in _ (by omega)])) ?_
  refine rdy1 9 rfl (fun K' hK'=>?_)
  go_simp
  refine (hrd _ D1).mono ?_
  rintro e w4 ⟨⟨a4,c4,rfl,s4⟩,hb4⟩
  have S4:=S1.below hb4
  have R4:=tr_bl hb4 R1
  have o4:=owns_bl o1 hb4
  have hb5:=hb1.trans (hb4.mono hb1.size)
  refine hK'.out _ _ S4 (fun _=>?_)
  clear hK' D1 S1 R1 o1 hb1 hb4 hrd
  (try simp only [Act.put,qa1,qa2,qa3])
  refine tkP 10 rfl ?_
  refine tkP 11 rfl ?_
  refine tkP 12 rfl ?_
  refine tkP 13 rfl ?_
  refine tkP 14 rfl ?_
  refine wpAnyH_done (by kernel_rfl) ?_ _
  refine HK3.out _ _ ?_
  clear HK3
  by_cases h0:re=0
  ·subst h0
   have HBL:=Lib.hid (hrl.1 rfl)
   clear hrl
   refine seqH fun K HK=>?_
   go_wp2
   refine HK.out _ _ ?_
   clear HK
   go_wp2_with (at_builtin;refine wpList_append_row rfl _ _ 37 5 elByte rfl (w.heap.size+1) _ pr.length (bys pr) rfl o4 a4 bs.length c4 (bys bs) rfl (by rw [bys_len];omega) s4.row bys_one (by have:=HPL.out;have:=HBL.out;omega) (by decide) (lt_blk R4) ?_;intro v6 w6 ho6 hb6)
   (try simp only [Exit.inBlock,Exit.then])
   refine HK2.out _ _ ?_
   clear HK2
   go_wp2
   go_roundw
   case rel=>
    refine ⟨1+1,_,by omega,by rfl,rfl,fun t ht=>?_,?_,hb5.trans (hb6.mono (by omega)),(hb6.block _ (by omega)).trans R4⟩
    ·by_cases htj:t < 1
     ·exact hall t htj
     ·obtain rfl:t=1:=by omega
      rw [show f+((1:Nat):Int)=f+1 by omega,HBS.out]
    ·rw [HPS.out,HBS.out,List.length_append,bys_app]
     exact ho6
   case measure=>simp [intOf]
  ·have hn:(re != 0)=true:=by rw [bne_iff_ne];exact h0
   have hr0:r=(2,zeroTg,[]):=by
    rw [← HR.out,if_pos]
    (rw [HBS.out];exact .inr h0)
   clear HK HR HPS
   subst hr0
   go_wp2_with ((with_reducible refine wpList_stB 39 _ _ ?_);refine ⟨_,_,_,⟨_,_,_,sizeOf39,rfl,R4,st5 _ rfl 0 0 0 0 0⟩,?_⟩;intro w8 B8 g8)
   refine bodyPost_ret (results_t1c1t1 rfl rfl (run_loadVar_all isAgg39 sizeOf39 B8 rfl)) rfl ⟨FrRes.none rfl,bl_st hb5 g8 hb5.size (by omega)⟩
 ·have hr0:=hall 0 (by omega)
  have hr1:=hall 1 (by omega)
  rw [show f+((0:Nat):Int)=f by omega] at hr0
  rw [show f+((1:Nat):Int)=f+1 by omega] at hr1
  skip
  have hlen:(preW d f 2).length=64 * 2:=(by show ((readD d f).1++(readD d (f+1)).1).length=128;rw [List.length_append,(rread_len R f).1 hr0,(rread_len R (f+1)).1 hr1])
  clear hall
  generalize preW d f 2=b at *
  obtain ⟨a2,c2,rfl,s2⟩:=SlB.of_owns hown
  have hmi:=rmine_any a2 c2 b s.rep 4 p wr s2 (by omega)
  have hml:=mine_len3 b s.rep 4 p
  obtain ⟨st,tg,body,hmm⟩:∃ st tg body,mineF b s.rep 4 p=(st,tg,body):=⟨_,_,_,rfl⟩
  have hrr:=HR.out
  rw [if_neg (by simp [hr0,hr1]),hmm] at hrr
  rw [hmm] at hmi
  have c1:=(h.below hbr).c1
  clear hmm hown hlen HR hml
  generalize hbn:b.length=bn at *
  clear hbn
  subst hrr
  go_wp2_with (go_at_call 165;refine (rwide_any 4 _).mono ?_;rintro e w9 ⟨rfl,rfl⟩;rw [show wideN 4=2 from rfl])
  refine HK.out _ _ ?_
  clear HK
  go_wp2_with (first
   | (go_at_call 127;refine hmi.mono ?_;rintro e w2 ⟨⟨a3,c3,rfl,hO⟩,hb2⟩;have R2:=tr_bl hb2 RB)
   | ((with_reducible refine wpList_stB 39 _ _ ?_);refine ⟨_,_,_,⟨_,_,_,sizeOf39,rfl,R2,st5 _ rfl tg.rep tg.reg tg.pla tg.idx tg.inc⟩,?_⟩;intro w8 B8 g8))
  have hb3:=hbr.trans (hb2.mono hbr.size)
  refine bodyPost_ret (results_t1c1t1 rfl rfl (run_loadVar_all isAgg39 sizeOf39 B8 rfl)) rfl ⟨⟨a3,c3,rfl,(hO.mono hbr.size).st g8 R2 (by decide)⟩,bl_st hb3 g8 hb3.size (Nat.le_refl _)⟩
end
end
section
theorem bys_size1 {n:Nat} (h:n≤255):bys (le 1 n)=[.int .u8 (n:Int)]:=by
 have e:le 1 n=[UInt8.ofNat (n % 256)]:=rfl
 rw [e]
 unfold bys
 rw [List.map_cons,List.map_nil,byv_low]
 congr 2
 omega
theorem rtext01_any (s:Tx) (w:World) (hs:s.size≤255):Calls Tryz.prog 203 #[.string s] w fun e w'=>OwnBytes w.heap.size (txt s) 0 e w'∧Below w.heap.size w w':=by
 have hI:¬ (255:Int) < s.size:=by omega
 have W1:IntKind.u8.wrap (s.size:Int)=s.size:=IntWalk.u8_in _ (by omega)
 have hsz:s.toList.length=s.size:=tx_len s
 have ho:=owns_of_cur (w:=w.alloc (.cells #[Value.int .u8 (s.size:Int)] 5)) (base:=w.heap.size) (n:=1) (cap:=1) (size:=1) (cur:=[Value.int .u8 (s.size:Int)]) (ys:=[Value.int .u8 (s.size:Int)]) (heap_alloc_new w _) (Nat.le_refl _) (Nat.le_refl _) (by decide) rfl rfl
 have hb0:=blw w (Obj.cells #[Value.int .u8 (s.size:Int)] 5)
 go_enter func203,ntmps203
 refine seqH fun K HK=>?_
 go_wp2
 refine HK.out _ _ ?_
 clear HK
 refine seqH fun K HK=>?_
 go_wp2
 refine HK.out _ _ ?_
 clear HK
 refine seqH fun K HK=>?_
 go_wp2
 refine HK.out _ _ ?_
 clear HK
 generalize w.alloc (Obj.cells #[Value.int .u8 (s.size:Int)] 5)=w1 at *
 refine seqH fun K HK=>?_
 go_wp2_with fail
 go_loopw [5,4] (fun i o wr=>∃ (j:Nat) (v:Value),j≤s.size∧i=.int .i64 (j:Nat)∧o=v∧wr.ownsRow w.heap.size 5 1 v (1+j) (bys (le 1 s.size++s.toList.take j))∧Below w.heap.size w wr) (fun i _ _=>s.size - (intOf i).toNat)
 case atStart=>exact ⟨0,_,by omega,rfl,rfl,by rw [List.take_zero,List.append_nil,bys_size1 hs];exact ho,hb0⟩
 case round=>
  clear ho hb0
  obtain ⟨j,v,hj,rfl,rfl,hown,hbr⟩:=hrel
  by_cases hlt:j < s.size
  case neg=>
   obtain rfl:j=s.size:=by omega
   rw [List.take_of_length_le (by omega)] at hown
   go_wp2
   refine HK.out _ _ ?_
   clear HK
   go_wp2
   go_ret2
   refine ⟨⟨_,rfl,?_⟩,hbr⟩
   have e:(txt s).length=1+s.size:=by unfold txt;rw [List.length_append,le_len,hsz]
   rw [e]
   exact hown
  case pos=>
   have hsn:bys (le 1 s.size++s.toList.take (j+1))=bys (le 1 s.size++s.toList.take j)++[.int .u8 ((s[j]).toNat:Int)]:=by
    have hg:s.toList[j]'(by omega)=s[j]:=by
     simp only [ByteArray.toList_eq]
     rw [Array.getElem_toList]
     rfl
    rw [List.take_succ_eq_append_getElem (by omega),← List.append_assoc,bys_app (le 1 s.size++s.toList.take j),hg]
    rfl
   have HSN:=Lib.hid hsn
   clear hsn
   have hI2:(j:Int) < (s.size:Int):=by omega
   generalize bys (le 1 s.size++s.toList.take j)=pr at *
   go_wp2_with (at_builtin;refine wpList_append1 rfl _ _ 37 5 elByte rfl w.heap.size _ (1+j) _ rfl hown #[.int .u8 ((s[j]).toNat:Int)] rfl (by simp;rfl) _ rfl (by omega) (by decide) hbr.size ?_;intro v4 w4 ho4 hb4 _)
   go_roundw
   case rel=>exact ⟨j+1,_,by omega,by go_num,rfl,by rw [HSN.out];exact ho4,hbr.trans hb4⟩
   case measure=>simp [intOf];omega
theorem rget_no {a:Option Addr} {cap:Nat} {l:List UInt8} {p k:Nat} {w:World} (hs:SlB w a cap l) (hk:k=1∨k=2∨k=6) (hp:p≤l.length) (h:¬ p+k≤l.length):Calls Tryz.prog 39 #[.slice a l.length cap,.int .i64 p,.int .i64 k] w fun e w'=>e=.returned (.tuple #[.int .i64 0,.int .i64 0,.int .i64 10])∧w=w':=by
 have hm:=hs.max
 have hle:=hs.le
 have hg:=getE_short hk hp h
 have:=rget_bad a l.length cap p k w (by omega) (by rw [hg];decide)
 rw [hg] at this
 exact this
theorem rread01_any (a:Option Addr) (cap:Nat) (l:List UInt8) (p:Nat) (w:World) (hs:SlB w a cap l) (hp:p≤l.length) (hl:l.length≤1000000) :
  Calls Tryz.prog 223 #[.slice a l.length cap,.int .i64 p] w fun e w'=>e=.returned (readV l p)∧Below w.heap.size w w':=by
 unfold readV rdT
 by_cases h1:p+1≤l.length
 case neg=>
  have hr:rdN l p 1=none:=by unfold rdN;rw [if_neg h1]
  rw [hr]
  have hg:=rget_no hs (.inl rfl) hp h1
  clear hr
  go_enter func223,ntmps223
  go_wp2_with (go_at_call 39;refine hg.mono ?_;rintro e w1 ⟨rfl,rfl⟩)
  go_ret3
  exact ⟨rfl,Below.refl _ _⟩
 case pos=>
  have hr:rdN l p 1=some (getN l p 1,p+1):=by unfold rdN;rw [if_pos h1]
  rw [hr]
  simp only
  have hg:=rget_ok a cap l p 1 w hs (.inl rfl) h1
  have hmx:=hs.max
  unfold maxLen at hmx
  have hle:=hs.le
  have hnl:=(rdN_spec hr).2.2.2
  obtain ⟨n,hn⟩:∃ n,getN l p 1=n:=⟨_,rfl⟩
  rw [hn] at hg hnl ⊢
  clear hn hr
  have hat:=hs.row.at (k:=0) (by rw [bys_len];omega)
  obtain ⟨bk,off,ha,hat⟩:=hat
  subst ha
  clear hat
  obtain ⟨q,hq⟩:∃ q,p+1=q:=⟨_,rfl⟩
  rw [show ((p:Int)+((1:Nat):Int))=(q:Int) by omega] at hg
  rw [hq] at h1 ⊢
  clear hq
  by_cases h2:q+n≤l.length
  ·rw [if_pos h2]
   have i1:¬ (l.length:Int) - (q:Int) < (n:Int):=by omega
   have i2:(q:Int)+(n:Int)≤(cap:Int):=by omega
   have i3:(q:Int)≤(q:Int)+(n:Int):=by omega
   by_cases hc:cap=q
   ·obtain rfl:n=0:=by omega
    have hcv:(convert 37 9 (.slice (some ⟨bk,off,none⟩) 0 0)).run Tryz.prog w=.ok (.string (txOf [])) w:=conv_bytes (some ⟨bk,off,none⟩) 0 [] w (.inl rfl)
    rw [List.take_zero]
    subst hc
    clear hs i1 i2 i3
    have i2:(cap:Int)≤(cap:Int):=Int.le_refl _
    go_enter func223,ntmps223
    refine seqH fun K HK=>?_
    go_wp2
    refine HK.out _ _ ?_
    clear HK
    refine seqH fun K HK=>?_
    go_wp2_with (go_at_call 39;refine hg.mono ?_;rintro e w1 ⟨rfl,rfl⟩)
    refine HK.out _ _ ?_
    clear HK
    go_wp2
    go_ret3
    exact ⟨by go_num,Below.refl _ _⟩
   ·have hsb:=hs.sub q n (by omega)
    have hpl:((l.drop q).take n).length=n:=by rw [List.length_take,List.length_drop];omega
    have hcv:=conv_bytes (some ⟨bk,off+q,none⟩) (cap - q) _ _ hsb.row
    rw [hpl] at hcv
    clear hsb hpl hs
    go_enter func223,ntmps223
    refine seqH fun K HK=>?_
    go_wp2
    refine HK.out _ _ ?_
    clear HK
    refine seqH fun K HK=>?_
    go_wp2_with (go_at_call 39;refine hg.mono ?_;rintro e w1 ⟨rfl,rfl⟩)
    refine HK.out _ _ ?_
    clear HK
    go_wp2
    go_ret3
    exact ⟨by go_num,Below.refl _ _⟩
  ·rw [if_neg h2]
   have i1:(l.length:Int) - (q:Int) < (n:Int):=by omega
   go_enter func223,ntmps223
   go_wp2_with (go_at_call 39;refine hg.mono ?_;rintro e w1 ⟨rfl,rfl⟩)
   go_ret3
   exact ⟨rfl,Below.refl _ _⟩
end
section
def hdE (e:En):List UInt8:=le 1 2++(le 1 e.cli.toNat++(le 6 e.seq.toNat++le 1 e.op.kind.toNat))
theorem hdE_len (e:En):(hdE e).length=9:=by simp [hdE,le_len]
theorem entB_op {e:En} (h:e.kind=2):entB e=hdE e++txE e 3:=by
 unfold entB opB hdE
 rw [if_pos h,h]
 simp [txE,List.append_assoc]
theorem rbytes09_any (e:En) (hm:mayE e=true) (w:World):Calls Tryz.prog 160 #[.agg (enA e)] w fun en w'=>OwnBytes w.heap.size (entB e) 0 en w'∧Below w.heap.size w w':=by
 have hbe:=blw w (Obj.cells (enA e) 73)
 have E0:=heap_alloc_new w (Obj.cells (enA e) 73)
 have hfm:=fmay_any e (w.alloc (Obj.cells (enA e) 73)) true hm
 by_cases hk:e.kind=1
 case pos=>
  have hen:entB e=[1]:=by rw [may_noop hm hk];rfl
  rw [hen]
  go_enter func160,ntmps160
  refine seqH fun K HK=>?_
  go_wp2
  refine HK.out _ _ ?_
  clear HK
  generalize w.alloc (Obj.cells (enA e) 73)=w0 at *
  refine seqH fun K HK=>?_
  go_wp2_with (first
   | ((with_reducible refine wpList_ldB 73 _ ?_);refine ⟨rfl,_,⟨_,_,_,_,_,isAgg73,sizeOf73,rfl,‹_›,arr_all rfl⟩,?_⟩)
   | (go_at_call 159;refine hfm.mono ?_;rintro en w1 ⟨rfl,hb1⟩))
  refine HK.out _ _ ?_
  clear HK
  have E1:=tr_bl hb1 E0
  have hb2:=hbe.trans (hb1.mono hbe.size)
  clear hfm hbe hb1 E0
  have c0:w1.cell? ⟨w.heap.size,0,none⟩=some (.int .u8 1):=by rw [← hk];exact blk_cell E1 0 _ rfl
  go_wp2
  go_ret2
  have ho:=owns_of_cur (w:=w1.alloc (.cells #[Value.int .u8 1] 5)) (base:=w.heap.size) (n:=1) (cap:=1) (size:=1) (cur:=[Value.int .u8 1]) (ys:=[Value.int .u8 1]) (heap_alloc_new w1 _) hb2.size (Nat.le_refl _) (by decide) rfl rfl
  exact ⟨⟨_,rfl,ho⟩,hb2.alloc hb2.size _⟩
 case neg=>
  obtain ⟨hk2,hc0,hc4,hs1,hs2,hmo,hok⟩:=mayE_two hm hk
  obtain ⟨_,hks,hos,hvs,ho1,ho4⟩:=mayO_parts hmo
  have hsz:e.op.key.size≤255∧e.op.old.size≤255∧e.op.val.size≤255:=⟨by omega,by omega,by omega⟩
  have HL:=Lib.hid (show oputL 6 e.seq=le 6 e.seq.toNat from oput_one (k:=6) (by omega) (by show _ < 281474976710656;omega))
  have W1:IntKind.u8.wrap e.cli=e.cli:=IntWalk.u8_in _ (by omega)
  rw [entB_op hk2]
  go_enter func160,ntmps160
  refine seqH fun K HK=>?_
  go_wp2
  refine HK.out _ _ ?_
  clear HK
  generalize w.alloc (Obj.cells (enA e) 73)=w0 at *
  refine seqH fun K HK=>?_
  go_wp2_with (first
   | ((with_reducible refine wpList_ldB 73 _ ?_);refine ⟨rfl,_,⟨_,_,_,_,_,isAgg73,sizeOf73,rfl,‹_›,arr_all rfl⟩,?_⟩)
   | (go_at_call 159;refine hfm.mono ?_;rintro en w1 ⟨rfl,hb1⟩))
  refine HK.out _ _ ?_
  clear HK
  have E1:=tr_bl hb1 E0
  have hb2:=hbe.trans (hb1.mono hbe.size)
  clear hfm hbe hb1 E0
  have c0:w1.cell? ⟨w.heap.size,0,none⟩=some (.int .u8 2):=by rw [← hk2];exact blk_cell E1 0 _ rfl
  have c1:=blk_cell E1 1 (.int .i64 e.cli) rfl
  refine seqH fun K HK=>?_
  go_wp2
  refine HK.out _ _ ?_
  clear HK
  refine seqH fun K HK=>?_
  go_wp2
  refine HK.out _ _ ?_
  clear HK
  have hP:=heap_alloc_new w1 (Obj.cells #[.int .u8 2,.int .u8 e.cli] 5)
  have hq1:w.heap.size+1≤w1.heap.size:=lt_blk E1
  have ho:=owns_of_cur (w:=w1.alloc (Obj.cells #[.int .u8 2,.int .u8 e.cli] 5)) (base:=w.heap.size+1) (n:=2) (cap:=2) (size:=1) (cur:=[Value.int .u8 2,.int .u8 e.cli]) (ys:=[Value.int .u8 2,.int .u8 e.cli]) hP hq1 (Nat.le_refl _) (by decide) rfl rfl
  have E3:=tr_al (Obj.cells #[.int .u8 2,.int .u8 e.cli] 5) E1
  have hb3:=hb2.alloc hb2.size (Obj.cells #[.int .u8 2,.int .u8 e.cli] 5)
  have hq3:w.heap.size+1≤(w1.alloc (Obj.cells #[.int .u8 2,.int .u8 e.cli] 5)).heap.size:=by simp;omega
  clear c0 c1 E1 hb2 hP
  generalize w1.alloc (Obj.cells #[.int .u8 2,.int .u8 e.cli] 5)=w3 at *
  generalize w1.heap.size=pb at *
  have c2:=blk_cell E3 2 (.int .i64 e.seq) rfl
  refine seqH fun K HK=>?_
  go_wp2_with (go_at_call 52;refine (rput_any 6 e.seq _ (by omega)).mono ?_;rintro en w4 ⟨⟨v4,rfl,o4⟩,hb4⟩;rw [HL.out,le_len] at o4)
  refine HK.out _ _ ?_
  clear HK
  obtain ⟨a4,k4,rfl,s4⟩:=SlB.of_owns (l:=le 6 e.seq.toNat) (by rw [le_len];exact o4)
  rw [le_len]
  have ho4:=owns_bl ho hb4
  have E4:=tr_bl hb4 E3
  have hb5:=hb3.trans (hb4.mono hb3.size)
  have hq4:=Nat.le_trans hq3 hb4.size
  clear c2 E3 ho o4 hb3 hb4 hq3
  refine seqH fun K HK=>?_
  go_wp2_with (at_builtin;refine wpList_append_row rfl _ _ 37 5 elByte rfl (w.heap.size+1) _ 2 [Value.int .u8 2,.int .u8 e.cli] rfl ho4 a4 6 k4 (bys (le 6 e.seq.toNat)) rfl (by rw [bys_len,le_len]) s4.row bys_one (by omega) (by decide) hq4 ?_;intro v6 w6 ho6 hb6)
  refine HK.out _ _ ?_
  clear HK
  have E6:=(hb6.block w.heap.size (by omega)).trans E4
  have hb7:=hb5.trans (hb6.mono (by omega))
  have hq6:=Nat.le_trans hq4 hb6.size
  have c3:=blk_cell E6 3 (.int .u8 e.op.kind) rfl
  clear E4 ho4 s4 hb5 hb6 hq4
  refine seqH fun K HK=>?_
  go_wp2_with (at_builtin;refine wpList_append1 rfl _ _ 37 5 elByte rfl (w.heap.size+1) _ 8 _ rfl ho6 #[.int .u8 e.op.kind] rfl (by simp;rfl) _ rfl (by omega) (by decide) hq6 ?_;intro v8 w8 ho8 hb8 _)
  refine HK.out _ _ ?_
  clear HK
  have E8:=(hb8.block w.heap.size (by omega)).trans E6
  have hb9:=hb7.trans (hb8.mono (by omega))
  have hq8:=Nat.le_trans hq6 hb8.size
  clear c3 E6 ho6 hb7 hb8 hq6
  have hh:[Value.int .u8 2,.int .u8 e.cli]++bys (le 6 e.seq.toNat)++[.int .u8 e.op.kind]=bys (hdE e++txE e 0):=by
   show _=bys (hdE e++[])
   unfold hdE
   rw [List.append_nil,bys_app,bys_app,bys_app,le1_bys (by decide),le1_bys (n:=e.cli.toNat) (by omega),le1_bys (n:=e.op.kind.toNat) (by omega),Int.toNat_of_nonneg (by omega),Int.toNat_of_nonneg (by omega)]
   simp
  have ho9:w8.ownsRow (w.heap.size+1) 5 1 v8 (hdE e++txE e 0).length (bys (hdE e++txE e 0)):=by
   rw [← hh,List.length_append,hdE_len]
   exact ho8
  clear ho8 hh HL
  have d4:=blk_cell E8 4 (.string e.op.key) rfl
  have d5:=blk_cell E8 5 (.string e.op.old) rfl
  have d6:=blk_cell E8 6 (.string e.op.val) rfl
  refine seqH fun K HK=>?_
  go_wp2
  refine HK.out _ _ ?_
  clear HK
  have hT:=heap_alloc_new w8 (Obj.cells #[.string e.op.key,.string e.op.old,.string e.op.val] 9)
  have ho10:=owns_bl ho9 (blw w8 (Obj.cells #[.string e.op.key,.string e.op.old,.string e.op.val] 9))
  have hb10:=hb9.alloc hb9.size (Obj.cells #[.string e.op.key,.string e.op.old,.string e.op.val] 9)
  have hq10:w.heap.size+1≤(w8.alloc (Obj.cells #[.string e.op.key,.string e.op.old,.string e.op.val] 9)).heap.size:=by simp;omega
  clear d4 d5 d6 E8 ho9 hb9 hq8
  generalize w8.alloc (Obj.cells #[.string e.op.key,.string e.op.old,.string e.op.val] 9)=w10 at *
  generalize w8.heap.size=tb at *
  refine seqH fun K HK=>?_
  go_wp2_with fail
  go_loopw [8,4] (fun i o wr=>∃ (j:Nat) (v:Value),j≤3∧i=.int .i64 (j:Nat)∧o=v∧wr.ownsRow (w.heap.size+1) 5 1 v (hdE e++txE e j).length (bys (hdE e++txE e j))∧wr.heap[tb]?=some (.cells #[.string e.op.key,.string e.op.old,.string e.op.val] 9 (0,0))∧Below w.heap.size w wr∧w.heap.size+1≤wr.heap.size) (fun i _ _=>3 - (intOf i).toNat)
  case atStart=>exact ⟨0,_,by omega,rfl,rfl,ho10,hT,hb10,hq10⟩
  case round=>
   clear ho10 hT hb10 hq10
   obtain ⟨j,v,hj,rfl,rfl,hown,hT,hbr,hqr⟩:=hrel
   rcases (show j=0∨j=1∨j=2∨j=3 by omega) with rfl | rfl | rfl | rfl
   ·skip
    have hbt:=hsz.1
    have hlx:=txE_len e hsz 0
    have hhl:=hdE_len e
    have h9:hdE e++txE e (0+1)=(hdE e++txE e 0)++txt (e.op.key):=by simp [txE]
    have HST:=Lib.hid h9
    have hpl:(hdE e++txE e 0).length≤800:=by rw [List.length_append];omega
    have htxl:(txt (e.op.key)).length≤300∧1≤(txt (e.op.key)).length:=by rw [txt_len];omega
    clear h9 hlx hhl
    generalize hdE e++txE e 0=pr at *
    have c1:=blk_cell hT 0 (.string (e.op.key)) rfl
    go_wp2_with (first
     | (go_at_call 203;refine (rtext01_any (e.op.key) _ hbt).mono ?_;rintro en w1 ⟨⟨v1,rfl,o1⟩,hb1⟩;obtain ⟨a1,k1,rfl,s1⟩:=SlB.of_owns o1;obtain ⟨b3,f3,ha3,r3⟩:=s1.row.at (k:=0) (by rw [bys_len];omega);subst ha3;have o2:=owns_bl hown hb1;have hT1:=tr_bl hb1 hT;have hb2:=hbr.trans (hb1.mono hbr.size);have hq2:=Nat.le_trans hqr hb1.size)
     | (at_builtin;refine wpList_appendN' rfl _ _ 37 37 5 5 elByte underlying37 rfl (w.heap.size+1) _ pr.length _ rfl o2 ⟨b3,f3,none⟩ (txt (e.op.key)).length k1 (bys (txt (e.op.key))) rfl (by rw [bys_len];omega) (fun j u hu=>by rw [addr_add];exact r3 j u hu) bys_one (by omega) (by decide) hq2 ?_;intro v6 w6 ho6 hg6))
    have hb6:=hb2.grown hg6 hb2.size (fun k e=>Nat.le_trans (Nat.le_succ _) (o2.lt k e).1)
    have hT6:=tr_gb hg6 hT1 (own_ne o2 hT1 (by decide))
    go_roundw
    case rel=>exact ⟨0+1,_,by omega,by rfl,rfl,by rw [HST.out,List.length_append,bys_app];exact ho6,hT6,hb6,Nat.le_trans hq2 hg6.size⟩
    case measure=>simp [intOf]
   ·skip
    have hbt:=hsz.2.1
    have hlx:=txE_len e hsz 1
    have hhl:=hdE_len e
    have h9:hdE e++txE e (1+1)=(hdE e++txE e 1)++txt (e.op.old):=by simp [txE]
    have HST:=Lib.hid h9
    have hpl:(hdE e++txE e 1).length≤800:=by rw [List.length_append];omega
    have htxl:(txt (e.op.old)).length≤300∧1≤(txt (e.op.old)).length:=by rw [txt_len];omega
    clear h9 hlx hhl
    generalize hdE e++txE e 1=pr at *
    have c1:=blk_cell hT 1 (.string (e.op.old)) rfl
    go_wp2_with (first
     | (go_at_call 203;refine (rtext01_any (e.op.old) _ hbt).mono ?_;rintro en w1 ⟨⟨v1,rfl,o1⟩,hb1⟩;obtain ⟨a1,k1,rfl,s1⟩:=SlB.of_owns o1;obtain ⟨b3,f3,ha3,r3⟩:=s1.row.at (k:=0) (by rw [bys_len];omega);subst ha3;have o2:=owns_bl hown hb1;have hT1:=tr_bl hb1 hT;have hb2:=hbr.trans (hb1.mono hbr.size);have hq2:=Nat.le_trans hqr hb1.size)
     | (at_builtin;refine wpList_appendN' rfl _ _ 37 37 5 5 elByte underlying37 rfl (w.heap.size+1) _ pr.length _ rfl o2 ⟨b3,f3,none⟩ (txt (e.op.old)).length k1 (bys (txt (e.op.old))) rfl (by rw [bys_len];omega) (fun j u hu=>by rw [addr_add];exact r3 j u hu) bys_one (by omega) (by decide) hq2 ?_;intro v6 w6 ho6 hg6))
    have hb6:=hb2.grown hg6 hb2.size (fun k e=>Nat.le_trans (Nat.le_succ _) (o2.lt k e).1)
    have hT6:=tr_gb hg6 hT1 (own_ne o2 hT1 (by decide))
    go_roundw
    case rel=>exact ⟨1+1,_,by omega,by rfl,rfl,by rw [HST.out,List.length_append,bys_app];exact ho6,hT6,hb6,Nat.le_trans hq2 hg6.size⟩
    case measure=>simp [intOf]
   ·skip
    have hbt:=hsz.2.2
    have hlx:=txE_len e hsz 2
    have hhl:=hdE_len e
    have h9:hdE e++txE e (2+1)=(hdE e++txE e 2)++txt (e.op.val):=by simp [txE]
    have HST:=Lib.hid h9
    have hpl:(hdE e++txE e 2).length≤800:=by rw [List.length_append];omega
    have htxl:(txt (e.op.val)).length≤300∧1≤(txt (e.op.val)).length:=by rw [txt_len];omega
    clear h9 hlx hhl
    generalize hdE e++txE e 2=pr at *
    have c1:=blk_cell hT 2 (.string (e.op.val)) rfl
    go_wp2_with (first
     | (go_at_call 203;refine (rtext01_any (e.op.val) _ hbt).mono ?_;rintro en w1 ⟨⟨v1,rfl,o1⟩,hb1⟩;obtain ⟨a1,k1,rfl,s1⟩:=SlB.of_owns o1;obtain ⟨b3,f3,ha3,r3⟩:=s1.row.at (k:=0) (by rw [bys_len];omega);subst ha3;have o2:=owns_bl hown hb1;have hT1:=tr_bl hb1 hT;have hb2:=hbr.trans (hb1.mono hbr.size);have hq2:=Nat.le_trans hqr hb1.size)
     | (at_builtin;refine wpList_appendN' rfl _ _ 37 37 5 5 elByte underlying37 rfl (w.heap.size+1) _ pr.length _ rfl o2 ⟨b3,f3,none⟩ (txt (e.op.val)).length k1 (bys (txt (e.op.val))) rfl (by rw [bys_len];omega) (fun j u hu=>by rw [addr_add];exact r3 j u hu) bys_one (by omega) (by decide) hq2 ?_;intro v6 w6 ho6 hg6))
    have hb6:=hb2.grown hg6 hb2.size (fun k e=>Nat.le_trans (Nat.le_succ _) (o2.lt k e).1)
    have hT6:=tr_gb hg6 hT1 (own_ne o2 hT1 (by decide))
    go_roundw
    case rel=>exact ⟨2+1,_,by omega,by rfl,rfl,by rw [HST.out,List.length_append,bys_app];exact ho6,hT6,hb6,Nat.le_trans hq2 hg6.size⟩
    case measure=>simp [intOf]
   ·go_wp2
    refine HK.out _ _ ?_
    clear HK
    go_wp2
    go_ret2
    exact ⟨⟨_,rfl,owns_mono hown (by omega)⟩,hbr⟩
end
section
def rdE (l:List UInt8) (p:Nat):Option (En×Nat):=
 if p=l.length then none else
 if getN l p 1=1 then some (zeroE 1,p+1) else
 if getN l p 1≠2∨l.length < p+9 then none else
 match rdT l (p+9) with
 | none=>none
 | some (k,a1)=>
  match rdT l a1 with
  | none=>none
  | some (o,a2)=>
   match rdT l a2 with
   | none=>none
   | some (v,a3)=>if mayE ⟨2,getN l (p+1) 1,getN l (p+2) 6,⟨getN l (p+8) 1,k,o,v⟩⟩=true then some (⟨2,getN l (p+1) 1,getN l (p+2) 6,⟨getN l (p+8) 1,k,o,v⟩⟩,a3) else none
section
variable {l:List UInt8} {p k:Nat}
theorem pgS_bad {q:Pen} (h:q.bad=true) (k:Nat):(pgS l q k).bad=true:=by
 unfold pgS
 rw [if_neg (by rw [h];simp)]
theorem pgS_out (h:l.length < p+k):(pgS l ⟨p,false⟩ k).bad=true:=by
 unfold pgS
 rw [if_neg (by simp only;omega)]
theorem pgS_in (h:p+k≤l.length):pgS l ⟨p,false⟩ k=⟨p+k,false⟩:=by
 unfold pgS
 rw [if_pos ⟨rfl,h⟩]
theorem pgN_in (h:p+k≤l.length):pgN l ⟨p,false⟩ k=getN l p k:=by
 unfold pgN
 rw [if_pos ⟨rfl,h⟩]
theorem ptS_bad2 {q:Pen} (h:q.bad=true):(ptS l q).bad=true:=by
 unfold ptS
 rw [if_pos h]
 exact h
theorem rdE_eq (hp:p≤l.length):rdE l p=entR l p:=by
 unfold rdE entR
 by_cases h0:p=l.length
 ·rw [if_pos h0]
  have hb:(entP l p).2.bad=true:=by
   have h1:pgN l ⟨p,false⟩ 1=0:=by unfold pgN;rw [if_neg (by simp only;omega)]
   unfold entP
   rw [h1,if_neg (by decide)]
   exact pgS_out (by omega)
  rw [if_pos (.inl hb)]
 rw [if_neg h0]
 have hn:pgN l ⟨p,false⟩ 1=getN l p 1:=pgN_in (by omega)
 have hs:pgS l ⟨p,false⟩ 1=⟨p+1,false⟩:=pgS_in (by omega)
 by_cases h1:getN l p 1=1
 ·rw [if_pos h1]
  have he:entP l p=(zeroE 1,⟨p+1,false⟩):=by
   unfold entP
   rw [hn,h1,if_neg (by decide),hs]
   rfl
  rw [he,if_neg (by simp [mayE,zeroE,nilO])]
 rw [if_neg h1]
 by_cases h2:getN l p 1=2
 case neg=>
  rw [if_pos (.inl h2)]
  have he:entP l p=(zeroE (getN l p 1:Nat),⟨p+1,false⟩):=by
   unfold entP
   rw [hn,if_neg h2,hs]
  rw [he,if_pos]
  right
  unfold mayE zeroE
  simp only
  rw [if_neg (by omega)]
  simp
 have he:entP l p=opR l 2 ⟨p+1,false⟩:=by
  unfold entP
  rw [hn,if_pos h2,hs]
 rw [he]
 by_cases h9:l.length < p+9
 ·rw [if_pos (.inr h9)]
  have hb:(opR l 2 ⟨p+1,false⟩).2.bad=true:=by
   unfold opR
   simp only
   refine ptS_bad2 (ptS_bad2 (ptS_bad2 ?_))
   by_cases hA:p+2≤l.length
   ·rw [pgS_in (show p+1+1≤l.length by omega)]
    by_cases hB:p+8≤l.length
    ·rw [pgS_in (show p+1+1+6≤l.length by omega)]
     exact pgS_out (by omega)
    ·exact pgS_bad (pgS_out (by omega)) _
   ·exact pgS_bad (pgS_bad (pgS_out (by omega)) _) _
  rw [if_pos (.inl hb)]
 rw [if_neg (by omega)]
 have ho:opR l 2 ⟨p+1,false⟩=(⟨2,getN l (p+1) 1,getN l (p+2) 6,⟨getN l (p+8) 1,ptT l ⟨p+9,false⟩,ptT l (ptS l ⟨p+9,false⟩),ptT l (ptS l (ptS l ⟨p+9,false⟩))⟩⟩,ptS l (ptS l (ptS l ⟨p+9,false⟩))):=by
  unfold opR
  simp only
  rw [pgS_in (show p+1+1≤l.length by omega),pgN_in (show p+1+1≤l.length by omega),pgS_in (show p+1+1+6≤l.length by omega),pgN_in (show p+1+1+6≤l.length by omega),pgS_in (show p+1+1+6+1≤l.length by omega),pgN_in (show p+1+1+6+1≤l.length by omega)]
 rw [ho]
 have t1:∀ a,ptS l ⟨a,false⟩=match rdT l a with | some (_,b)=>⟨b,false⟩ | none=>⟨a,true⟩:=fun a=>by unfold ptS;rw [if_neg (by simp)];simp only;cases rdT l a <;> rfl
 have t2:∀ a,ptT l ⟨a,false⟩=match rdT l a with | some (s,_)=>s | none=>⟨#[]⟩:=fun a=>by unfold ptT;rw [if_neg (by simp)];simp only;cases rdT l a <;> rfl
 cases r1:rdT l (p+9) with
 | none=>
  simp only
  rw [if_pos]
  left
  rw [t1,r1]
  exact ptS_bad2 (ptS_bad2 rfl)
 | some x1=>
  obtain ⟨s1,a1⟩:=x1
  simp only [t1,t2,r1]
  cases r2:rdT l a1 with
  | none=>
   simp only
   rw [if_pos]
   left
   exact ptS_bad2 rfl
  | some x2=>
   obtain ⟨s2,a2⟩:=x2
   simp only [t1,t2]
   cases r3:rdT l a2 with
   | none=>simp
   | some x3=>
    obtain ⟨s3,a3⟩:=x3
    simp only
    generalize (⟨2,(getN l (p+1) 1:Nat),(getN l (p+2) 6:Nat),⟨(getN l (p+8) 1:Nat),s1,s2,s3⟩⟩:En)=e
    cases mayE e <;> simp
end
end
section
theorem byte_cell {w:World} {a:Option Addr} {cap:Nat} {l:List UInt8} (h:SlB w a cap l) (hl:0 < l.length):∃ bk off,a=some ⟨bk,off,none⟩∧∀ w',Below w.heap.size w w'→∀ k:Nat,k < l.length→w'.cell? ⟨bk,off+k,none⟩=some (.int .u8 ((getN l k 1:Nat):Int)):=by
 obtain ⟨bk,off,ha,hc⟩:=h.row.at (k:=0) (by rw [bys_len];omega)
 refine ⟨bk,off,ha,fun w' hb k hk=>cell_later hb (hc k _ ?_)⟩
 unfold bys
 rw [List.getElem?_map,List.getElem?_eq_getElem hk,getN_one hk]
 rfl
def enB2 (c:Nat):En:=⟨2,(c:Int),0,⟨0,⟨#[]⟩,⟨#[]⟩,⟨#[]⟩⟩⟩
theorem en_b2 (c:Nat):(Value.agg #[.int .u8 2,.int .i64 (c:Int),.int .i64 0,.int .u8 0,.string ⟨#[]⟩,.string ⟨#[]⟩,.string ⟨#[]⟩]).cells=enA (enB2 c)∧(enA (enB2 c)).size=7∧∀ u ∈ (enA (enB2 c)).toList,u.oneCell'=true:=⟨rfl,rfl,by simp [enA,Value.oneCell']⟩
section
variable (x y z s:Tx)
theorem t3_0:0+1≤(#[Value.string x,.string y,.string z]).size∧(Value.string s).cells.size=1∧(∀ u ∈ (Value.string s).cells.toList,u.oneCell'=true)∧((#[Value.string x,.string y,.string z]).toList.take 0++(Value.string s).cells.toList++(#[Value.string x,.string y,.string z]).toList.drop (0+1)).toArray=#[.string s,.string y,.string z]:=⟨by simp,rfl,by simp [Value.cells,Value.oneCell'],rfl⟩
theorem t3_1:1+1≤(#[Value.string x,.string y,.string z]).size∧(Value.string s).cells.size=1∧(∀ u ∈ (Value.string s).cells.toList,u.oneCell'=true)∧((#[Value.string x,.string y,.string z]).toList.take 1++(Value.string s).cells.toList++(#[Value.string x,.string y,.string z]).toList.drop (1+1)).toArray=#[.string x,.string s,.string z]:=⟨by simp,rfl,by simp [Value.cells,Value.oneCell'],rfl⟩
theorem t3_2:2+1≤(#[Value.string x,.string y,.string z]).size∧(Value.string s).cells.size=1∧(∀ u ∈ (Value.string s).cells.toList,u.oneCell'=true)∧((#[Value.string x,.string y,.string z]).toList.take 2++(Value.string s).cells.toList++(#[Value.string x,.string y,.string z]).toList.drop (2+1)).toArray=#[.string x,.string y,.string s]:=⟨by simp,rfl,by simp [Value.cells,Value.oneCell'],rfl⟩
end
theorem rread09_any (a:Option Addr) (cap p:Nat) (l:List UInt8) (w:World) (hs:SlB w a cap l) (hp:p≤l.length) (hl:l.length≤1000000) :
  Calls Tryz.prog 204 #[.slice a l.length cap,.int .i64 p] w fun en w'=>en=.returned (RdV (rdE l p))∧Below w.heap.size w w':=by
 obtain ⟨r,hr⟩:∃ r,rdE l p=r:=⟨_,rfl⟩
 rw [hr]
 unfold rdE at hr
 have hI1:¬ ((p:Int) < 0):=by omega
 have hI2:¬ ((l.length:Int) < p):=by omega
 by_cases h0:p=l.length
 ·rw [if_pos h0] at hr
  subst hr
  have e0:((p:Int)==(l.length:Int))=true:=by rw [beq_iff_eq];omega
  clear h0
  go_enter func204,ntmps204
  refine seqH fun K HK=>?_
  go_wp2
  refine HK.out _ _ ?_
  clear HK
  have hbz:=blw w (Obj.cells (enA (zeroE 0)) 73)
  have R0:=heap_alloc_new w (Obj.cells (enA (zeroE 0)) 73)
  change Code.wp _ _ _ _ (w.alloc (Obj.cells (enA (zeroE 0)) 73))
  generalize w.alloc (Obj.cells (enA (zeroE 0)) 73)=w0 at *
  go_wp2_with ((with_reducible refine wpList_stB 73 _ _ ?_);refine ⟨_,_,_,⟨_,_,_,sizeOf73,rfl,R0,en_over _ (zeroE 0)⟩,?_⟩;intro w9 R9 g9)
  refine bodyPost_ret (results_c1t2 rfl rfl (run_loadVar_all isAgg73 sizeOf73 R9 rfl)) rfl ⟨rfl,bls hbz (Nat.le_refl _) g9 (Nat.le_refl _)⟩
 rw [if_neg h0] at hr
 have e0:((p:Int)==(l.length:Int))=false:=by rw [beq_eq_false_iff_ne];omega
 have hlt:p < l.length:=by omega
 obtain ⟨bk,off,ha,HC⟩:=byte_cell hs (by omega)
 subst ha
 have hbz0:=blw w (Obj.cells (enA (zeroE 0)) 73)
 have c0:=HC _ hbz0 p hlt
 by_cases h1:getN l p 1=1
 ·rw [if_pos h1] at hr
  subst hr
  rw [h1] at c0
  clear h0 h1 HC hbz0
  go_enter func204,ntmps204
  refine seqH fun K HK=>?_
  go_wp2
  refine HK.out _ _ ?_
  clear HK
  have hbz:=blw w (Obj.cells (enA (zeroE 0)) 73)
  have R0:=heap_alloc_new w (Obj.cells (enA (zeroE 0)) 73)
  change Code.wp _ _ _ _ (w.alloc (Obj.cells (enA (zeroE 0)) 73))
  generalize w.alloc (Obj.cells (enA (zeroE 0)) 73)=w0 at *
  go_wp2_with ((with_reducible refine wpList_stB 73 _ _ ?_);refine ⟨_,_,_,⟨_,_,_,sizeOf73,rfl,R0,en_over _ (zeroE 1)⟩,?_⟩;intro w9 R9 g9)
  refine bodyPost_ret (results_c1t2 rfl rfl (run_loadVar_all isAgg73 sizeOf73 R9 rfl)) rfl ⟨rfl,bls hbz (Nat.le_refl _) g9 (Nat.le_refl _)⟩
 rw [if_neg h1] at hr
 have e1:(((getN l p 1:Nat):Int)==1)=false:=by rw [beq_eq_false_iff_ne];omega
 by_cases h2:getN l p 1=2
 case neg=>
  rw [if_pos (.inl h2)] at hr
  subst hr
  have e2:(((getN l p 1:Nat):Int) != 2)=true:=by rw [bne_iff_ne];omega
  generalize getN l p 1=g at *
  clear h0 h1 h2 HC hbz0
  go_enter func204,ntmps204
  refine seqH fun K HK=>?_
  go_wp2
  refine HK.out _ _ ?_
  clear HK
  have hbz:=blw w (Obj.cells (enA (zeroE 0)) 73)
  have R0:=heap_alloc_new w (Obj.cells (enA (zeroE 0)) 73)
  change Code.wp _ _ _ _ (w.alloc (Obj.cells (enA (zeroE 0)) 73))
  generalize w.alloc (Obj.cells (enA (zeroE 0)) 73)=w0 at *
  go_wp2_with ((with_reducible refine wpList_stB 73 _ _ ?_);refine ⟨_,_,_,⟨_,_,_,sizeOf73,rfl,R0,en_over _ (zeroE 0)⟩,?_⟩;intro w9 R9 g9)
  refine bodyPost_ret (results_c1t2 rfl rfl (run_loadVar_all isAgg73 sizeOf73 R9 rfl)) rfl ⟨rfl,bls hbz (Nat.le_refl _) g9 (Nat.le_refl _)⟩
 rw [h2] at c0
 clear e1 h1
 by_cases h9:l.length < p+9
 ·rw [if_pos (.inr h9)] at hr
  subst hr
  have e3:(l.length:Int) - (p:Int) < 9:=by omega
  clear h0 h2 HC hbz0 h9
  go_enter func204,ntmps204
  refine seqH fun K HK=>?_
  go_wp2
  refine HK.out _ _ ?_
  clear HK
  have hbz:=blw w (Obj.cells (enA (zeroE 0)) 73)
  have R0:=heap_alloc_new w (Obj.cells (enA (zeroE 0)) 73)
  change Code.wp _ _ _ _ (w.alloc (Obj.cells (enA (zeroE 0)) 73))
  generalize w.alloc (Obj.cells (enA (zeroE 0)) 73)=w0 at *
  go_wp2_with ((with_reducible refine wpList_stB 73 _ _ ?_);refine ⟨_,_,_,⟨_,_,_,sizeOf73,rfl,R0,en_over _ (zeroE 0)⟩,?_⟩;intro w9 R9 g9)
  refine bodyPost_ret (results_c1t2 rfl rfl (run_loadVar_all isAgg73 sizeOf73 R9 rfl)) rfl ⟨rfl,bls hbz (Nat.le_refl _) g9 (Nat.le_refl _)⟩
 rw [if_neg (by omega)] at hr
 have e3:¬ (l.length:Int) - (p:Int) < 9:=by omega
 obtain ⟨cl,hcl⟩:∃ n,getN l (p+1) 1=n:=⟨_,rfl⟩
 obtain ⟨sq,hsq⟩:∃ n,getN l (p+2) 6=n:=⟨_,rfl⟩
 obtain ⟨ok,hok⟩:∃ n,getN l (p+8) 1=n:=⟨_,rfl⟩
 rw [hcl,hsq,hok] at hr
 have hcb:cl < 256:=by rw [← hcl,getN_one (by omega)];exact (l[p+1]'(by omega)).toNat_lt
 have hob:ok < 256:=by rw [← hok,getN_one (by omega)];exact (l[p+8]'(by omega)).toNat_lt
 have HR:=Lib.hid hr
 have hget:=fun (w':World) (hb:Below w.heap.size w w')=>rget_ok (some ⟨bk,off,none⟩) cap l (p+2) 6 w' (hs.below hb) (by omega) (by omega)
 simp only [hsq] at hget
 have W1:IntKind.i64.wrap (cl:Int)=cl:=IntWalk.i64_in _ (by omega)
 have hC1:=fun w' hb=>HC w' hb (p+1) (by omega)
 have hC8:=fun w' hb=>HC w' hb (p+8) (by omega)
 simp only [hcl] at hC1
 simp only [hok] at hC8
 have HS:=fun (w':World) (hb:Below w.heap.size w w')=>hs.below hb
 have HL9:=Lib.hid h9
 clear h0 h2 HC hbz0 h9 hr hcl hsq hok hs
 go_enter func204,ntmps204
 refine seqH fun K HK=>?_
 go_wp2
 refine HK.out _ _ ?_
 clear HK
 have hbz:=blw w (Obj.cells (enA (zeroE 0)) 73)
 have R0:=heap_alloc_new w (Obj.cells (enA (zeroE 0)) 73)
 change Code.wp _ _ _ _ (w.alloc (Obj.cells (enA (zeroE 0)) 73))
 generalize w.alloc (Obj.cells (enA (zeroE 0)) 73)=w0 at *
 refine seqH fun K HK=>?_
 go_wp2
 refine HK.out _ _ ?_
 clear HK
 refine seqH fun K HK=>?_
 go_wp2
 refine HK.out _ _ ?_
 clear HK
 refine seqH fun K HK=>?_
 go_wp2
 refine HK.out _ _ ?_
 clear HK
 refine seqH fun K HK=>?_
 go_wp2
 refine HK.out _ _ ?_
 clear HK
 have c1:=hC1 _ hbz
 refine seqH fun K HK=>?_
 go_wp2_with ((first | (with_reducible refine wpList_stNew 73 _ _ ?_) | (with_reducible refine wp_stNew 73 _ _ ?_));refine ⟨_,_,⟨sizeOf73,rfl,en_b2 cl⟩,rfl,?_⟩)
 refine HK.out _ _ ?_
 clear HK
 have hbe:=blw w0 (Obj.cells (enA (enB2 cl)) 73)
 have E1:=heap_alloc_new w0 (Obj.cells (enA (enB2 cl)) 73)
 have R1:=tr_bl hbe R0
 have hb1:=hbz.trans (hbe.mono hbz.size)
 have hge:w.heap.size≤w0.heap.size:=hbz.size
 have hne:w0.heap.size≠w.heap.size:=by have:=lt_blk R0;omega
 clear R0 hbz hbe c0 c1 hC1
 generalize w0.alloc (Obj.cells (enA (enB2 cl)) 73)=w1 at *
 generalize w0.heap.size=ge at *
 have hg1:=hget _ hb1
 rw [show (((p+2:Nat)):Int)=(p:Int)+2 by omega] at hg1
 refine seqH fun K HK=>?_
 go_wp2_with (first
   | (go_at_call 39;refine hg1.mono ?_;rintro e w2 ⟨rfl,rfl⟩)
   | ((with_reducible refine wpList_stB 3 _ _ ?_);refine ⟨_,_,_,⟨_,_,_,sizeOf3,rfl,E1,en_s2 _ (sq:Int)⟩,?_⟩;intro w2 E2 g2))
 refine HK.out _ _ ?_
 clear HK
 have R2:=tr_st g2 R1 hne
 have hb2:=bls hb1 (Nat.le_refl _) g2 hge
 have c8:=hC8 _ hb2
 clear hget hg1 R1 hb1 g2 E1
 refine seqH fun K HK=>?_
 go_wp2_with ((with_reducible refine wpList_stB 5 _ _ ?_);refine ⟨_,_,_,⟨_,_,_,sizeOf5,rfl,E2,en_s3 _ (ok:Int)⟩,?_⟩;intro w3 E3 g3)
 refine HK.out _ _ ?_
 clear HK
 have R3:=tr_st g3 R2 hne
 have hb3:=bls hb2 (Nat.le_refl _) g3 hge
 clear hC8 c8 R2 hb2 E2 g3
 refine seqH fun K HK=>?_
 go_wp2
 refine HK.out _ _ ?_
 clear HK
 refine seqH fun K HK=>?_
 go_wp2
 refine HK.out _ _ ?_
 clear HK
 have hbt:=blw w3 (Obj.cells #[.string ⟨#[]⟩,.string ⟨#[]⟩,.string ⟨#[]⟩] 293)
 have T4:=heap_alloc_new w3 (Obj.cells #[.string ⟨#[]⟩,.string ⟨#[]⟩,.string ⟨#[]⟩] 293)
 have E4:=tr_bl hbt E3
 have R4:=tr_bl hbt R3
 have hb4:=hb3.trans (hbt.mono hb3.size)
 have htb:w.heap.size≤w3.heap.size:=hb3.size
 have hte:w3.heap.size≠ge:=by have:=lt_blk E3;omega
 have htr:w3.heap.size≠w.heap.size:=by have:=lt_blk R3;omega
 clear hbt E3 R3 hb3
 generalize w3.alloc (Obj.cells #[.string ⟨#[]⟩,.string ⟨#[]⟩,.string ⟨#[]⟩] 293)=w4 at *
 generalize w3.heap.size=tb at *
 replace E4:w4.heap[ge]?=some (.cells (enA ⟨2,(cl:Int),(sq:Int),⟨(ok:Int),⟨#[]⟩,⟨#[]⟩,⟨#[]⟩⟩⟩) 73 (0,0)):=E4
 have hp9:p+9≤l.length:=by have:=HL9.out;omega
 clear e0 hlt hcb hob W1 HL9 hI1 hI2 e3
 refine seqH fun K HK=>?_
 go_wp2_with fail
 go_loopw [10,8] (fun i o wr=>∃ (j nn:Nat),i=.int .i64 (j:Nat)∧o=.int .i64 (nn:Nat)∧nn≤l.length∧((j=0∧nn=p+9∧wr.heap[tb]?=some (.cells #[.string ⟨#[]⟩,.string ⟨#[]⟩,.string ⟨#[]⟩] 293 (0,0)))∨(j=1∧∃ s1,Hid (rdT l (p+9)=some (s1,nn))∧wr.heap[tb]?=some (.cells #[.string s1,.string ⟨#[]⟩,.string ⟨#[]⟩] 293 (0,0)))∨(j=2∧∃ s1 a1 s2,Hid (rdT l (p+9)=some (s1,a1))∧Hid (rdT l a1=some (s2,nn))∧wr.heap[tb]?=some (.cells #[.string s1,.string s2,.string ⟨#[]⟩] 293 (0,0)))∨(j=3∧∃ s1 a1 s2 a2 s3,Hid (rdT l (p+9)=some (s1,a1))∧Hid (rdT l a1=some (s2,a2))∧Hid (rdT l a2=some (s3,nn))∧wr.heap[tb]?=some (.cells #[.string s1,.string s2,.string s3] 293 (0,0))))∧wr.heap[ge]?=some (.cells (enA ⟨2,(cl:Int),(sq:Int),⟨(ok:Int),⟨#[]⟩,⟨#[]⟩,⟨#[]⟩⟩⟩) 73 (0,0))∧wr.heap[w.heap.size]?=some (.cells (enA (zeroE 0)) 73 (0,0))∧Below w.heap.size w wr) (fun i _ _=>3 - (intOf i).toNat)
 case atStart=>exact ⟨0,p+9,rfl,by congr 1,hp9,.inl ⟨rfl,rfl,T4⟩,E4,R4,hb4⟩
 case round=>
  clear T4 E4 R4 hb4 hp9
  obtain ⟨j,nn,rfl,rfl,hnn,hst,E5,R5,hbr⟩:=hrel
  have hrd:=rread01_any (some ⟨bk,off,none⟩) cap l nn wr (HS _ hbr) hnn hl
  rcases hst with ⟨rfl,rfl,T5⟩ | ⟨rfl,s1,H1,T5⟩ | ⟨rfl,s1,a1,s2,H1,H2,T5⟩ | ⟨rfl,s1,a1,s2,a2,s3,H1,H2,H3,T5⟩
  ·skip
   cases hrt:rdT l (p+9) with
   | none=>
    have hv:readV l (p+9)=.tuple #[.string ⟨#[]⟩,.int .i64 0,.int .i64 10]:=by unfold readV;rw [hrt]
    rw [hv] at hrd
    obtain rfl:none=r:=by rw [← HR.out];rw [hrt]
    clear hv hrt HR HK
    generalize p+9=nn at *
    go_wp2_with (first
     | (go_at_call 223;refine hrd.mono ?_;rintro e w6 ⟨rfl,hb6⟩;have R6:=tr_bl hb6 R5)
     | ((with_reducible refine wpList_stB 73 _ _ ?_);refine ⟨_,_,_,⟨_,_,_,sizeOf73,rfl,R6,en_over _ (zeroE 0)⟩,?_⟩;intro w9 R9 g9))
    refine bodyPost_ret (results_c1t2 rfl rfl (run_loadVar_all isAgg73 sizeOf73 R9 rfl)) rfl ⟨rfl,bls (hbr.trans (hb6.mono hbr.size)) (Nat.le_refl _) g9 (Nat.le_refl _)⟩
   | some xx=>
    obtain ⟨s,n2⟩:=xx
    have hv:readV l (p+9)=.tuple #[.string s,.int .i64 (n2:Int),.int .i64 0]:=by unfold readV;rw [hrt]
    have hn2:=(rdT_spec hrt).2.2.1
    rw [hv] at hrd
    have HT:=Lib.hid hrt
    clear hv hrt
    obtain ⟨n1,hn1⟩:∃ n1,p+9=n1:=⟨_,rfl⟩
    rw [hn1] at hrd ⊢
    clear hn1
    go_wp2_with (first
     | (go_at_call 223;refine hrd.mono ?_;rintro e w6 ⟨rfl,hb6⟩;have R6:=tr_bl hb6 R5;have T6:=tr_bl hb6 T5;have E6:=tr_bl hb6 E5;have hb7:=hbr.trans (hb6.mono hbr.size))
     | ((with_reducible refine wpList_stB 9 _ _ ?_);refine ⟨_,_,_,⟨_,_,_,sizeOf9,rfl,T6,t3_0 _ _ _ s⟩,?_⟩;intro w8 T8 g8))
    have E8:=tr_st g8 E6 hte
    have R8:=tr_st g8 R6 htr
    have hb8:=bls hb7 (Nat.le_refl _) g8 htb
    go_roundw
    case rel=>exact ⟨0+1,n2,by rfl,rfl,hn2,.inr (.inl ⟨rfl,s,Lib.hid rfl,T8⟩),E8,R8,hb8⟩
    case measure=>simp [intOf]
  ·skip
   cases hrt:rdT l (nn) with
   | none=>
    have hv:readV l (nn)=.tuple #[.string ⟨#[]⟩,.int .i64 0,.int .i64 10]:=by unfold readV;rw [hrt]
    rw [hv] at hrd
    obtain rfl:none=r:=by rw [← HR.out];rw [H1.out];simp only;rw [hrt]
    clear hv hrt HR HK
    generalize nn=nn at *
    go_wp2_with (first
     | (go_at_call 223;refine hrd.mono ?_;rintro e w6 ⟨rfl,hb6⟩;have R6:=tr_bl hb6 R5)
     | ((with_reducible refine wpList_stB 73 _ _ ?_);refine ⟨_,_,_,⟨_,_,_,sizeOf73,rfl,R6,en_over _ (zeroE 0)⟩,?_⟩;intro w9 R9 g9))
    refine bodyPost_ret (results_c1t2 rfl rfl (run_loadVar_all isAgg73 sizeOf73 R9 rfl)) rfl ⟨rfl,bls (hbr.trans (hb6.mono hbr.size)) (Nat.le_refl _) g9 (Nat.le_refl _)⟩
   | some xx=>
    obtain ⟨s,n2⟩:=xx
    have hv:readV l (nn)=.tuple #[.string s,.int .i64 (n2:Int),.int .i64 0]:=by unfold readV;rw [hrt]
    have hn2:=(rdT_spec hrt).2.2.1
    rw [hv] at hrd
    have HT:=Lib.hid hrt
    clear hv hrt
    obtain ⟨n1,hn1⟩:∃ n1,nn=n1:=⟨_,rfl⟩
    rw [hn1] at hrd ⊢
    clear hn1
    go_wp2_with (first
     | (go_at_call 223;refine hrd.mono ?_;rintro e w6 ⟨rfl,hb6⟩;have R6:=tr_bl hb6 R5;have T6:=tr_bl hb6 T5;have E6:=tr_bl hb6 E5;have hb7:=hbr.trans (hb6.mono hbr.size))
     | ((with_reducible refine wpList_stB 9 _ _ ?_);refine ⟨_,_,_,⟨_,_,_,sizeOf9,rfl,T6,t3_1 _ _ _ s⟩,?_⟩;intro w8 T8 g8))
    have E8:=tr_st g8 E6 hte
    have R8:=tr_st g8 R6 htr
    have hb8:=bls hb7 (Nat.le_refl _) g8 htb
    go_roundw
    case rel=>exact ⟨1+1,n2,by rfl,rfl,hn2,.inr (.inr (.inl ⟨rfl,s1,nn,s,H1,HT,T8⟩)),E8,R8,hb8⟩
    case measure=>simp [intOf]
  ·skip
   cases hrt:rdT l (nn) with
   | none=>
    have hv:readV l (nn)=.tuple #[.string ⟨#[]⟩,.int .i64 0,.int .i64 10]:=by unfold readV;rw [hrt]
    rw [hv] at hrd
    obtain rfl:none=r:=by rw [← HR.out];rw [H1.out];simp only;rw [H2.out];simp only;rw [hrt]
    clear hv hrt HR HK
    generalize nn=nn at *
    go_wp2_with (first
     | (go_at_call 223;refine hrd.mono ?_;rintro e w6 ⟨rfl,hb6⟩;have R6:=tr_bl hb6 R5)
     | ((with_reducible refine wpList_stB 73 _ _ ?_);refine ⟨_,_,_,⟨_,_,_,sizeOf73,rfl,R6,en_over _ (zeroE 0)⟩,?_⟩;intro w9 R9 g9))
    refine bodyPost_ret (results_c1t2 rfl rfl (run_loadVar_all isAgg73 sizeOf73 R9 rfl)) rfl ⟨rfl,bls (hbr.trans (hb6.mono hbr.size)) (Nat.le_refl _) g9 (Nat.le_refl _)⟩
   | some xx=>
    obtain ⟨s,n2⟩:=xx
    have hv:readV l (nn)=.tuple #[.string s,.int .i64 (n2:Int),.int .i64 0]:=by unfold readV;rw [hrt]
    have hn2:=(rdT_spec hrt).2.2.1
    rw [hv] at hrd
    have HT:=Lib.hid hrt
    clear hv hrt
    obtain ⟨n1,hn1⟩:∃ n1,nn=n1:=⟨_,rfl⟩
    rw [hn1] at hrd ⊢
    clear hn1
    go_wp2_with (first
     | (go_at_call 223;refine hrd.mono ?_;rintro e w6 ⟨rfl,hb6⟩;have R6:=tr_bl hb6 R5;have T6:=tr_bl hb6 T5;have E6:=tr_bl hb6 E5;have hb7:=hbr.trans (hb6.mono hbr.size))
     | ((with_reducible refine wpList_stB 9 _ _ ?_);refine ⟨_,_,_,⟨_,_,_,sizeOf9,rfl,T6,t3_2 _ _ _ s⟩,?_⟩;intro w8 T8 g8))
    have E8:=tr_st g8 E6 hte
    have R8:=tr_st g8 R6 htr
    have hb8:=bls hb7 (Nat.le_refl _) g8 htb
    go_roundw
    case rel=>exact ⟨2+1,n2,by rfl,rfl,hn2,.inr (.inr (.inr ⟨rfl,s1,a1,s2,nn,s,H1,H2,HT,T8⟩)),E8,R8,hb8⟩
    case measure=>simp [intOf]
  ·clear hrd
   have hr:=HR.out
   rw [H1.out] at hr
   simp only at hr
   rw [H2.out] at hr
   simp only at hr
   rw [H3.out] at hr
   simp only at hr
   clear HR H1 H2 H3
   go_wp2
   refine HK.out _ _ ?_
   clear HK
   have d0:=blk_cell T5 0 (.string s1) rfl
   refine seqH fun K HK=>?_
   go_wp2_with ((with_reducible refine wpList_stB 9 _ _ ?_);refine ⟨_,_,_,⟨_,_,_,sizeOf9,rfl,E5,en_st _ (j:=0) (off:=4) (by decide) rfl s1⟩,?_⟩;intro w6 E6 g6)
   refine HK.out _ _ ?_
   clear HK
   have T6:=tr_st g6 T5 hte.symm
   have R6:=tr_st g6 R5 hne
   have hb6:=bls hbr (Nat.le_refl _) g6 hge
   have d1:=blk_cell T6 1 (.string s2) rfl
   clear d0 T5 R5 hbr E5 g6
   refine seqH fun K HK=>?_
   go_wp2_with ((with_reducible refine wpList_stB 9 _ _ ?_);refine ⟨_,_,_,⟨_,_,_,sizeOf9,rfl,E6,en_st _ (j:=1) (off:=5) (by decide) rfl s2⟩,?_⟩;intro w7 E7 g7)
   refine HK.out _ _ ?_
   clear HK
   have T7:=tr_st g7 T6 hte.symm
   have R7:=tr_st g7 R6 hne
   have hb7:=bls hb6 (Nat.le_refl _) g7 hge
   have d2:=blk_cell T7 2 (.string s3) rfl
   clear d1 T6 R6 hb6 E6 g7
   refine seqH fun K HK=>?_
   go_wp2_with ((with_reducible refine wpList_stB 9 _ _ ?_);refine ⟨_,_,_,⟨_,_,_,sizeOf9,rfl,E7,en_st _ (j:=2) (off:=6) (by decide) rfl s3⟩,?_⟩;intro w8 E8 g8)
   refine HK.out _ _ ?_
   clear HK
   have R8:=tr_st g8 R7 hne
   have hb8:=bls hb7 (Nat.le_refl _) g8 hge
   clear d2 T7 R7 hb7 E7 g8
   replace E8:w8.heap[ge]?=some (.cells (enA ⟨2,(cl:Int),(sq:Int),⟨(ok:Int),s1,s2,s3⟩⟩) 73 (0,0)):=E8
   generalize (⟨2,(cl:Int),(sq:Int),⟨(ok:Int),s1,s2,s3⟩⟩:En)=en at *
   have hmy:=fun w=>fmay_any en w _ rfl
   cases hme:mayE en
   case false=>
    rw [hme] at hr
    simp only [hme] at hmy
    rw [if_neg (by simp)] at hr
    subst hr
    clear hme
    go_wp2_with (first
     | ((with_reducible refine wpList_ldB 73 _ ?_);refine ⟨rfl,_,⟨_,_,_,_,_,isAgg73,sizeOf73,rfl,‹_›,arr_all rfl⟩,?_⟩)
     | (go_at_call 159;refine (hmy _).mono ?_;rintro e w9 ⟨rfl,hb9⟩;have R9:=tr_bl hb9 R8)
     | ((with_reducible refine wpList_stB 73 _ _ ?_);refine ⟨_,_,_,⟨_,_,_,sizeOf73,rfl,R9,en_over _ (zeroE 0)⟩,?_⟩;intro w10 R10 g10))
    refine bodyPost_ret (results_c1t2 rfl rfl (run_loadVar_all isAgg73 sizeOf73 R10 rfl)) rfl ⟨rfl,bls (hb8.trans (hb9.mono hb8.size)) (Nat.le_refl _) g10 (Nat.le_refl _)⟩
   case true=>
    rw [hme] at hr
    simp only [hme] at hmy
    rw [if_pos rfl] at hr
    subst hr
    clear hme
    refine seqH fun K HK=>?_
    go_wp2_with (first
         | ((with_reducible refine wpList_ldB 73 _ ?_);refine ⟨rfl,_,⟨_,_,_,_,_,isAgg73,sizeOf73,rfl,‹_›,arr_all rfl⟩,?_⟩)
         | (go_at_call 159;refine (hmy _).mono ?_;rintro e w9 ⟨rfl,hb9⟩))
    refine HK.out _ _ ?_
    clear HK
    have R9:=tr_bl hb9 R8
    have E9:=tr_bl hb9 E8
    go_wp2_with (first
     | ((with_reducible refine wpList_ldB 73 _ ?_);refine ⟨rfl,_,⟨_,_,_,_,_,isAgg73,sizeOf73,rfl,‹_›,arr_all rfl⟩,?_⟩)
     | ((with_reducible refine wpList_stB 73 _ _ ?_);refine ⟨_,_,_,⟨_,_,_,sizeOf73,rfl,R9,en_over _ en⟩,?_⟩;intro w10 R10 g10))
    refine bodyPost_ret (results_c1t2 rfl rfl (run_loadVar_all isAgg73 sizeOf73 R10 rfl)) rfl ⟨rfl,bls (hb8.trans (hb9.mono hb8.size)) (Nat.le_refl _) g10 (Nat.le_refl _)⟩
end
section
theorem rbal10_any (b:Bal) (w:World) (r:Bool) (hr:mayBl b=r):Calls Tryz.prog 158 #[.agg (blA b)] w fun e w'=>e=.returned (.bool r)∧Below w.heap.size w w':=by
 obtain ⟨x,y⟩:=b
 rw [mayBl_eq] at hr
 simp only at hr
 unfold blA
 simp only
 have hb0:=blw w (Obj.cells #[.int .i64 x,.int .i64 y] 69)
 have hcs:x < 1∨(1≤x∧1099511627776 < x)∨(1≤x∧x≤1099511627776∧y < 0)∨(1≤x∧x≤1099511627776∧0≤y∧7≤y)∨(1≤x∧x≤1099511627776∧0≤y∧y < 7):=by omega
 have HR:=Lib.hid hr
 clear hr
 rcases hcs with h | ⟨h,h2⟩ | ⟨h,h2,h3⟩ | ⟨h,h2,h3,h4⟩ | ⟨h,h2,h3,h4⟩
 ·obtain rfl:r=false:=by rw [← HR.out,decide_eq_false (show ¬ 1≤x by omega)];rfl
  go_enter func158,ntmps158
  go_wp2
  go_ret
  exact ⟨ret_bool (by first | rfl | (simp;omega)),hb0⟩
 ·obtain rfl:r=false:=by rw [← HR.out,decide_eq_false (show ¬ x≤1099511627776 by omega)];simp
  go_enter func158,ntmps158
  go_wp2
  go_ret
  exact ⟨ret_bool (by first | rfl | (simp;omega)),hb0⟩
 ·obtain rfl:r=false:=by rw [← HR.out,decide_eq_false (show ¬ 0≤y by omega)];simp
  go_enter func158,ntmps158
  go_wp2
  go_ret
  exact ⟨ret_bool (by first | rfl | (simp;omega)),hb0⟩
 ·obtain rfl:r=false:=by rw [← HR.out,decide_eq_false (show ¬ y < 7 by omega)];simp
  go_enter func158,ntmps158
  go_wp2
  go_ret
  exact ⟨ret_bool (by first | rfl | (simp;omega)),hb0⟩
 ·obtain rfl:r=true:=by rw [← HR.out,decide_eq_true h,decide_eq_true h2,decide_eq_true h3,decide_eq_true h4];rfl
  go_enter func158,ntmps158
  go_wp2
  go_ret
  exact ⟨ret_bool (by first | rfl | (simp;omega)),hb0⟩
theorem rabv10_any (x y:Bal) (w:World) (r:Bool) (hr:lessB y x=r):Calls Tryz.prog 206 #[.agg (blA x),.agg (blA y)] w fun e w'=>e=.returned (.bool r)∧Below w.heap.size w w':=by
 obtain ⟨a,b⟩:=x
 obtain ⟨c,d⟩:=y
 unfold lessB at hr
 simp only at hr
 unfold blA
 simp only
 have hb0:Below w.heap.size w ((w.alloc (Obj.cells #[.int .i64 a,.int .i64 b] 69)).alloc (Obj.cells #[.int .i64 c,.int .i64 d] 69)):=(blw w _).alloc (by simp) _
 by_cases h1:a=c
 ·subst h1
  have hr2:decide (d < b)=r:=by rw [← hr];simp
  subst hr2
  clear hr
  go_enter func206,ntmps206
  go_wp2
  go_ret
  exact ⟨rfl,hb0⟩
 ·have e1:(a==c)=false:=by rw [beq_eq_false_iff_ne];exact h1
  have hr2:decide (c < a)=r:=by rw [← hr];simp [show ¬ c=a from fun h=>h1 h.symm]
  subst hr2
  clear hr
  go_enter func206,ntmps206
  go_wp2
  go_ret
  exact ⟨rfl,hb0⟩
theorem rprint09_bad (b:Bal) (e:En) (w:World) (h:(mayBl b && mayE e)=false):Calls Tryz.prog 84 #[.agg (blA b),.agg (enA e)] w fun en w'=>en=.returned (.tuple #[.slice none 0 0,.int .i64 2])∧Below w.heap.size w w':=by
 cases hb:mayBl b
 case false=>
  have hm:=fun w=>rbal10_any b w false hb
  clear hb h
  go_enter func84,ntmps84
  refine seqH fun K HK=>?_
  go_wp2
  refine HK.out _ _ ?_
  clear HK
  have hbA:=(blw w (Obj.cells (blA b) 69)).alloc (by simp) (Obj.cells (enA e) 73)
  have B0:=tr_al (Obj.cells (enA e) 73) (heap_alloc_new w (Obj.cells (blA b) 69))
  have E0:=heap_alloc_new (w.alloc (Obj.cells (blA b) 69)) (Obj.cells (enA e) 73)
  rw [show (w.alloc (Obj.cells (blA b) 69)).heap.size=w.heap.size+1 by simp] at E0
  change Code.wp _ _ _ _ ((w.alloc (Obj.cells (blA b) 69)).alloc (Obj.cells (enA e) 73))
  generalize (w.alloc (Obj.cells (blA b) 69)).alloc (Obj.cells (enA e) 73)=w0 at *
  go_wp2_with (first
   | ((with_reducible refine wpList_ldB 69 _ ?_);refine ⟨rfl,_,⟨_,_,_,_,_,isAgg69,sizeOf69,rfl,‹_›,arr_all rfl⟩,?_⟩)
   | (go_at_call 158;refine (hm _).mono ?_;rintro en w1 ⟨rfl,hb1⟩))
  go_ret2
  exact ⟨rfl,hbA.trans (hb1.mono hbA.size)⟩
 case true=>
  have hm:=fun w=>rbal10_any b w true hb
  rw [hb,Bool.true_and] at h
  have hf:=fun w=>fmay_any e w false h
  clear hb h
  go_enter func84,ntmps84
  refine seqH fun K HK=>?_
  go_wp2
  refine HK.out _ _ ?_
  clear HK
  have hbA:=(blw w (Obj.cells (blA b) 69)).alloc (by simp) (Obj.cells (enA e) 73)
  have B0:=tr_al (Obj.cells (enA e) 73) (heap_alloc_new w (Obj.cells (blA b) 69))
  have E0:=heap_alloc_new (w.alloc (Obj.cells (blA b) 69)) (Obj.cells (enA e) 73)
  rw [show (w.alloc (Obj.cells (blA b) 69)).heap.size=w.heap.size+1 by simp] at E0
  change Code.wp _ _ _ _ ((w.alloc (Obj.cells (blA b) 69)).alloc (Obj.cells (enA e) 73))
  generalize (w.alloc (Obj.cells (blA b) 69)).alloc (Obj.cells (enA e) 73)=w0 at *
  go_wp2_with (first
   | ((with_reducible refine wpList_ldB 69 _ ?_);refine ⟨rfl,_,⟨_,_,_,_,_,isAgg69,sizeOf69,rfl,‹_›,arr_all rfl⟩,?_⟩)
   | ((with_reducible refine wpList_ldB 73 _ ?_);refine ⟨rfl,_,⟨_,_,_,_,_,isAgg73,sizeOf73,rfl,‹_›,arr_all rfl⟩,?_⟩)
   | (go_at_call 158;refine (hm _).mono ?_;rintro en w1 ⟨rfl,hb1⟩;have E1:=tr_bl hb1 E0)
   | (go_at_call 159;refine (hf _).mono ?_;rintro en w2 ⟨rfl,hb2⟩))
  go_ret2
  exact ⟨rfl,hbA.trans ((hb1.trans (hb2.mono hb1.size)).mono hbA.size)⟩
theorem rprint09_ok (b:Bal) (e:En) (w:World) (hb:mayBl b=true) (hm:mayE e=true):Calls Tryz.prog 84 #[.agg (blA b),.agg (enA e)] w fun en w'=>OwnBytes w.heap.size (bodyE b e) 0 en w'∧Below w.heap.size w w':=by
 obtain ⟨hr1,hr2,hp0,hp7⟩:=mayBl_parts hb
 have hml:=fun w=>rbal10_any b w true hb
 have hf:=fun w=>fmay_any e w true hm
 have hby:=fun w=>rbytes09_any e hm w
 have HL:=Lib.hid (show oputL 6 b.rnd=le 6 b.rnd.toNat from oput_one (k:=6) (by omega) (by show _ < 281474976710656;omega))
 have W1:IntKind.u8.wrap b.rep=b.rep:=IntWalk.u8_in _ (by omega)
 have hel:=(bodyE_len b hm).2
 go_enter func84,ntmps84
 refine seqH fun K HK=>?_
 go_wp2
 refine HK.out _ _ ?_
 clear HK
 have hbA:=(blw w (Obj.cells (blA b) 69)).alloc (by simp) (Obj.cells (enA e) 73)
 have B0:=tr_al (Obj.cells (enA e) 73) (heap_alloc_new w (Obj.cells (blA b) 69))
 have E0:=heap_alloc_new (w.alloc (Obj.cells (blA b) 69)) (Obj.cells (enA e) 73)
 rw [show (w.alloc (Obj.cells (blA b) 69)).heap.size=w.heap.size+1 by simp] at E0
 change Code.wp _ _ _ _ ((w.alloc (Obj.cells (blA b) 69)).alloc (Obj.cells (enA e) 73))
 generalize (w.alloc (Obj.cells (blA b) 69)).alloc (Obj.cells (enA e) 73)=w0 at *
 refine seqH fun K HK=>?_
 go_wp2_with (first
   | ((with_reducible refine wpList_ldB 69 _ ?_);refine ⟨rfl,_,⟨_,_,_,_,_,isAgg69,sizeOf69,rfl,‹_›,arr_all rfl⟩,?_⟩)
   | ((with_reducible refine wpList_ldB 73 _ ?_);refine ⟨rfl,_,⟨_,_,_,_,_,isAgg73,sizeOf73,rfl,‹_›,arr_all rfl⟩,?_⟩)
   | (go_at_call 158;refine (hml _).mono ?_;rintro en w1 ⟨rfl,hb1⟩;have E1:=tr_bl hb1 E0;have B1:=tr_bl hb1 B0;have hbB:=hbA.trans (hb1.mono hbA.size))
   | (go_at_call 159;refine (hf _).mono ?_;rintro en w2 ⟨rfl,hb2⟩;have E2:=tr_bl hb2 E1;have B2:=tr_bl hb2 B1;have hbC:=hbB.trans (hb2.mono hbB.size)))
 refine HK.out _ _ ?_
 clear HK
 clear E0 B0 E1 B1 hbA hb1 hb2 hbB hml hf
 have c0:=blk_cell B2 0 (.int .i64 b.rnd) rfl
 have hq2:=lt_blk E2
 refine seqH fun K HK=>?_
 go_wp2_with (go_at_call 52;refine (rput_any 6 b.rnd _ (by omega)).mono ?_;rintro en w4 ⟨⟨v4,rfl,o4⟩,hb4⟩;rw [HL.out,le_len] at o4)
 refine HK.out _ _ ?_
 clear HK
 have E4:=tr_bl hb4 E2
 have B4:=tr_bl hb4 B2
 have hb5:=hbC.trans (hb4.mono hbC.size)
 have hq4:w2.heap.size≤w4.heap.size:=hb4.size
 have c1:=blk_cell B4 1 (.int .i64 b.rep) rfl
 clear c0 E2 B2 hbC hb4
 refine seqH fun K HK=>?_
 go_wp2_with (at_builtin;refine wpList_append1 rfl _ _ 37 5 elByte rfl w2.heap.size _ 6 _ rfl o4 #[.int .u8 b.rep] rfl (by simp;rfl) _ rfl (by omega) (by decide) hq4 ?_;intro v6 w6 o6 hb6 _)
 refine HK.out _ _ ?_
 clear HK
 have E6:=(hb6.block (w.heap.size+1) (by omega)).trans E4
 have hb7:=hb5.trans (hb6.mono (by omega))
 have hq6:=Nat.le_trans hq4 hb6.size
 clear c1 E4 B4 o4 hb5 hb6 hq4
 refine seqH fun K HK=>?_
 go_wp2_with (first
   | ((with_reducible refine wpList_ldB 73 _ ?_);refine ⟨rfl,_,⟨_,_,_,_,_,isAgg73,sizeOf73,rfl,‹_›,arr_all rfl⟩,?_⟩)
   | (go_at_call 160;refine (hby _).mono ?_;rintro en w8 ⟨⟨v8,rfl,o8⟩,hb8⟩))
 refine HK.out _ _ ?_
 clear HK
 obtain ⟨a8,k8,rfl,s8⟩:=SlB.of_owns o8
 have o9:=owns_bl o6 hb8
 have hb9:=hb7.trans (hb8.mono hb7.size)
 have hq9:=Nat.le_trans hq6 hb8.size
 have hln:(entB e).length≤59:=by unfold bodyE at hel;simp only [List.length_append,le_len] at hel;omega
 clear o6 hb7 hb8 E6 hq6 o8
 go_wp2_with (at_builtin;refine wpList_append_row rfl _ _ 37 5 elByte rfl w2.heap.size _ 7 _ rfl o9 a8 (entB e).length k8 (bys (entB e)) rfl (by rw [bys_len];omega) s8.row bys_one (by omega) (by decide) hq9 ?_;intro v10 w10 o10 hb10)
 go_ret2
 refine ⟨⟨_,rfl,?_⟩,hb9.trans (hb10.mono (by omega))⟩
 have hh:bys (le 6 b.rnd.toNat)++[Value.int .u8 b.rep]++bys (entB e)=bys (bodyE b e):=by
  unfold bodyE
  rw [bys_app,bys_app,le1_bys (n:=b.rep.toNat) (by omega),Int.toNat_of_nonneg (by omega)]
  simp
 have hlen:(bodyE b e).length=7+(entB e).length:=by unfold bodyE;simp only [List.length_append,le_len];omega
 rw [hlen,← hh]
 exact owns_mono o10 (by omega)
end
section
theorem rdE_le {l:List UInt8} {p:Nat} {e:En} {n:Nat} (hp:p≤l.length) (h:rdE l p=some (e,n)):n≤l.length:=by
 unfold rdE at h
 split at h
 ·cases h
 split at h
 ·injection h with h
  injection h with _ h
  omega
 split at h
 ·cases h
 cases r1:rdT l (p+9) with
 | none=>rw [r1] at h;cases h
 | some x1=>
  obtain ⟨s1,a1⟩:=x1
  rw [r1] at h
  simp only at h
  cases r2:rdT l a1 with
  | none=>rw [r2] at h;cases h
  | some x2=>
   obtain ⟨s2,a2⟩:=x2
   rw [r2] at h
   simp only at h
   cases r3:rdT l a2 with
   | none=>rw [r3] at h;cases h
   | some x3=>
    obtain ⟨s3,a3⟩:=x3
    rw [r3] at h
    simp only at h
    split at h
    ·injection h with h
     injection h with _ h
     have:=(rdT_spec r3).2.2.1
     omega
    ·cases h
theorem parseE_long {l:List UInt8} (h:7≤l.length):parseE l=match rdE l 7 with | none=>none | some (e,n)=>if n < l.length∨mayBl ⟨(getN l 0 6:Nat),(getN l 6 1:Nat)⟩=false then none else some (⟨(getN l 0 6:Nat),(getN l 6 1:Nat)⟩,e):=by
 unfold parseE
 simp only
 rw [pgS_in (show 0+6≤l.length by omega),pgN_in (show 0+6≤l.length by omega),pgS_in (show 0+6+1≤l.length by omega),pgN_in (show 0+6+1≤l.length by omega),← rdE_eq (show (0+6+1)≤l.length by omega)]
 simp only [Nat.zero_add,Nat.reduceAdd]
 cases rdE l 7 with
 | none=>rfl
 | some x=>
  obtain ⟨e,n⟩:=x
  simp
theorem parseE_short {l:List UInt8} (h:l.length < 7):parseE l=none:=by
 unfold parseE
 simp only
 have hb:(pgS l (pgS l ⟨0,false⟩ 6) 1).bad=true:=by
  by_cases h6:6≤l.length
  ·rw [pgS_in (show 0+6≤l.length by omega)]
   exact pgS_out (by omega)
  ·exact pgS_bad (pgS_out (by omega)) _
 cases entR l (pgS l (pgS l ⟨0,false⟩ 6) 1).at' with
 | none=>rfl
 | some x=>
  obtain ⟨e,n⟩:=x
  simp only
  rw [if_pos (.inl hb)]
theorem rparse09_any (a:Option Addr) (cap:Nat) (l:List UInt8) (w:World) (hs:SlB w a cap l) (hl:l.length≤1000000) :
  Calls Tryz.prog 163 #[.slice a l.length cap] w fun en w'=>en=.returned (PsV (parseE l))∧Below w.heap.size w w':=by
 by_cases h7:l.length < 7
 ·rw [parseE_short h7]
  have i1:(l.length:Int) < 7:=by omega
  go_enter func163,ntmps163
  refine seqH fun K HK=>?_
  go_wp2
  refine HK.out _ _ ?_
  clear HK
  have hbz:=(blw w (Obj.cells (blA ⟨0,0⟩) 69)).alloc (by simp) (Obj.cells (enA (zeroE 0)) 73)
  have B0:=tr_al (Obj.cells (enA (zeroE 0)) 73) (heap_alloc_new w (Obj.cells (blA ⟨0,0⟩) 69))
  have E0:=heap_alloc_new (w.alloc (Obj.cells (blA ⟨0,0⟩) 69)) (Obj.cells (enA (zeroE 0)) 73)
  rw [show (w.alloc (Obj.cells (blA ⟨0,0⟩) 69)).heap.size=w.heap.size+1 by simp] at E0
  change Code.wp _ _ _ _ ((w.alloc (Obj.cells (blA ⟨0,0⟩) 69)).alloc (Obj.cells (enA (zeroE 0)) 73))
  generalize (w.alloc (Obj.cells (blA ⟨0,0⟩) 69)).alloc (Obj.cells (enA (zeroE 0)) 73)=w0 at *
  have hne:w.heap.size≠w.heap.size+1:=by omega
  go_wp2_with (first
   | ((with_reducible refine wpList_stB 69 _ _ ?_);refine ⟨_,_,_,⟨_,_,_,sizeOf69,rfl,B0,bl_over _ ⟨0,0⟩⟩,?_⟩;intro w8 B8 g8;have E8:=tr_st g8 E0 hne;have hb8:=bls hbz (Nat.le_refl _) g8 (Nat.le_refl _))
   | ((with_reducible refine wpList_stB 73 _ _ ?_);refine ⟨_,_,_,⟨_,_,_,sizeOf73,rfl,E8,en_over _ (zeroE 0)⟩,?_⟩;intro w9 E9 g9;have B9:=tr_st g9 B8 (Ne.symm hne);have hb9:=bls hb8 (Nat.le_refl _) g9 (Nat.le_succ _)))
  refine bodyPost_ret (results_c2t1 rfl rfl (run_loadVar_all isAgg69 sizeOf69 B9 rfl) rfl (run_loadVar_all isAgg73 sizeOf73 E9 rfl)) rfl ⟨rfl,hb9⟩
 rw [parseE_long (by omega)]
 have i1:¬ (l.length:Int) < 7:=by omega
 obtain ⟨bk,off,ha,HC⟩:=byte_cell hs (by omega)
 subst ha
 have hrd:=fun (w':World) (hb:Below w.heap.size w w')=>rread09_any (some ⟨bk,off,none⟩) cap 7 l w' (hs.below hb) (by omega) hl
 have hget:=fun (w':World) (hb:Below w.heap.size w w')=>rget_ok (some ⟨bk,off,none⟩) cap l 0 6 w' (hs.below hb) (by omega) (by omega)
 have hC6:=fun w' hb=>HC w' hb 6 (by omega)
 have hle:=fun (e:En) (n:Nat) h=>rdE_le (l:=l) (p:=7) (e:=e) (n:=n) (by omega) h
 obtain ⟨rn,hrn⟩:∃ n,getN l 0 6=n:=⟨_,rfl⟩
 obtain ⟨rp,hrp⟩:∃ n,getN l 6 1=n:=⟨_,rfl⟩
 have hrb:rp < 256:=by rw [← hrp,getN_one (by omega)];exact (l[6]'(by omega)).toNat_lt
 obtain ⟨re,hre⟩:∃ r,rdE l 7=r:=⟨_,rfl⟩
 rw [hrn,hrp,hre]
 simp only [hrn] at hget
 simp only [hrp] at hC6
 simp only [hre,RdV_eq] at hrd
 simp only [hre] at hle
 have W1:IntKind.i64.wrap (rp:Int)=rp:=IntWalk.i64_in _ (by omega)
 have hbl:=fun w=>rbal10_any ⟨(rn:Int),(rp:Int)⟩ w _ rfl
 clear HC hrn hrp hre hs h7
 obtain ⟨ee,nn,er,hnx⟩:∃ ee nn er,NextR re=(ee,nn,er):=⟨_,_,_,rfl⟩
 simp only [hnx] at hrd
 go_enter func163,ntmps163
 refine seqH fun K HK=>?_
 go_wp2
 refine HK.out _ _ ?_
 clear HK
 have hbz:=(blw w (Obj.cells (blA ⟨0,0⟩) 69)).alloc (by simp) (Obj.cells (enA (zeroE 0)) 73)
 have B0:=tr_al (Obj.cells (enA (zeroE 0)) 73) (heap_alloc_new w (Obj.cells (blA ⟨0,0⟩) 69))
 have E0:=heap_alloc_new (w.alloc (Obj.cells (blA ⟨0,0⟩) 69)) (Obj.cells (enA (zeroE 0)) 73)
 rw [show (w.alloc (Obj.cells (blA ⟨0,0⟩) 69)).heap.size=w.heap.size+1 by simp] at E0
 change Code.wp _ _ _ _ ((w.alloc (Obj.cells (blA ⟨0,0⟩) 69)).alloc (Obj.cells (enA (zeroE 0)) 73))
 generalize (w.alloc (Obj.cells (blA ⟨0,0⟩) 69)).alloc (Obj.cells (enA (zeroE 0)) 73)=w0 at *
 have hne:w.heap.size≠w.heap.size+1:=by omega
 have hg0:=hget _ hbz
 refine seqH fun K HK=>?_
 go_wp2
 refine HK.out _ _ ?_
 clear HK
 refine seqH fun K HK=>?_
 go_wp2_with (go_at_call 39;refine hg0.mono ?_;rintro e w1 ⟨rfl,rfl⟩)
 refine HK.out _ _ ?_
 clear HK
 have c6:=hC6 _ hbz
 refine seqH fun K HK=>?_
 go_wp2_with ((first | (with_reducible refine wpList_stNew 69 _ _ ?_) | (with_reducible refine wp_stNew 69 _ _ ?_));refine ⟨_,_,⟨sizeOf69,rfl,bl_new ⟨(rn:Int),(rp:Int)⟩⟩,rfl,?_⟩)
 refine HK.out _ _ ?_
 clear HK
 have hbx:=blw w0 (Obj.cells (blA ⟨(rn:Int),(rp:Int)⟩) 69)
 have hxb:w.heap.size+1 < w0.heap.size:=(Array.getElem?_eq_some_iff.mp E0).1
 have X1:=heap_alloc_new w0 (Obj.cells (blA ⟨(rn:Int),(rp:Int)⟩) 69)
 have B1:=tr_bl hbx B0
 have E1:=tr_bl hbx E0
 have hb1:=hbz.trans (hbx.mono hbz.size)
 clear hget hg0 hC6 c6 hbx B0 E0 hbz
 generalize w0.alloc (Obj.cells (blA ⟨(rn:Int),(rp:Int)⟩) 69)=w1 at *
 generalize w0.heap.size=xb at *
 have hrd1:=hrd _ hb1
 refine seqH fun K HK=>?_
 go_wp2_with (first
   | (go_at_call 204;refine hrd1.mono ?_;rintro e w2 ⟨rfl,hb2⟩)
   | ((first | (with_reducible refine wpList_stNew 73 _ _ ?_) | (with_reducible refine wp_stNew 73 _ _ ?_));refine ⟨_,_,⟨sizeOf73,rfl,en_new ee⟩,rfl,?_⟩))
 refine HK.out _ _ ?_
 clear HK
 have hbe:=hb2.trans ((blw w2 (Obj.cells (enA ee) 73)).mono hb2.size)
 have hyb:w.heap.size+1 < w2.heap.size:=(Array.getElem?_eq_some_iff.mp (tr_bl hb2 E1)).1
 have Y3:=heap_alloc_new w2 (Obj.cells (enA ee) 73)
 have X3:=tr_bl hbe X1
 have B3:=tr_bl hbe B1
 have E3:=tr_bl hbe E1
 have hb3:=hb1.trans (hbe.mono hb1.size)
 clear hrd hrd1 hb2 hbe X1 B1 E1 hb1
 generalize w2.alloc (Obj.cells (enA ee) 73)=w3 at *
 generalize w2.heap.size=yb at *
 cases re with
 | none=>
  simp only [NextR] at hnx
  injection hnx with h1 h2
  injection h2 with h2 h3
  subst h1 h2 h3
  simp only
  go_wp2_with (first
   | ((with_reducible refine wpList_stB 69 _ _ ?_);refine ⟨_,_,_,⟨_,_,_,sizeOf69,rfl,B3,bl_over _ ⟨0,0⟩⟩,?_⟩;intro w8 B8 g8;have E8:=tr_st g8 E3 hne;have hb8:=bls hb3 (Nat.le_refl _) g8 (Nat.le_refl _))
   | ((with_reducible refine wpList_stB 73 _ _ ?_);refine ⟨_,_,_,⟨_,_,_,sizeOf73,rfl,E8,en_over _ (zeroE 0)⟩,?_⟩;intro w9 E9 g9;have B9:=tr_st g9 B8 (Ne.symm hne);have hb9:=bls hb8 (Nat.le_refl _) g9 (Nat.le_succ _)))
  refine bodyPost_ret (results_c2t1 rfl rfl (run_loadVar_all isAgg69 sizeOf69 B9 rfl) rfl (run_loadVar_all isAgg73 sizeOf73 E9 rfl)) rfl ⟨rfl,hb9⟩
 | some x=>
  obtain ⟨e',n'⟩:=x
  simp only [NextR] at hnx
  injection hnx with h1 h2
  injection h2 with h2 h3
  subst h1 h2 h3
  have hnl:=hle _ _ rfl
  simp only
  by_cases hn:n' < l.length
  ·rw [if_pos (.inl hn)]
   have e1:((n':Int) != (l.length:Int))=true:=by rw [bne_iff_ne];omega
   go_wp2_with (first
    | ((with_reducible refine wpList_stB 69 _ _ ?_);refine ⟨_,_,_,⟨_,_,_,sizeOf69,rfl,B3,bl_over _ ⟨0,0⟩⟩,?_⟩;intro w8 B8 g8;have E8:=tr_st g8 E3 hne;have hb8:=bls hb3 (Nat.le_refl _) g8 (Nat.le_refl _))
    | ((with_reducible refine wpList_stB 73 _ _ ?_);refine ⟨_,_,_,⟨_,_,_,sizeOf73,rfl,E8,en_over _ (zeroE 0)⟩,?_⟩;intro w9 E9 g9;have B9:=tr_st g9 B8 (Ne.symm hne);have hb9:=bls hb8 (Nat.le_refl _) g9 (Nat.le_succ _)))
   refine bodyPost_ret (results_c2t1 rfl rfl (run_loadVar_all isAgg69 sizeOf69 B9 rfl) rfl (run_loadVar_all isAgg73 sizeOf73 E9 rfl)) rfl ⟨rfl,hb9⟩
  ·have e1:((n':Int) != (l.length:Int))=false:=by rw [bne_eq_false_iff_eq];omega
   cases hmb:mayBl ⟨(rn:Int),(rp:Int)⟩
   ·rw [if_pos (.inr rfl)]
    simp only [hmb] at hbl
    clear hn hle hnl
    go_wp2_with (first
     | ((with_reducible refine wpList_ldB 69 _ ?_);refine ⟨rfl,_,⟨_,_,_,_,_,isAgg69,sizeOf69,rfl,‹_›,arr_all rfl⟩,?_⟩)
     | (go_at_call 158;refine (hbl _).mono ?_;rintro e w7 ⟨rfl,hb7⟩;have B7:=tr_bl hb7 B3;have E7:=tr_bl hb7 E3;have hb7b:=hb3.trans (hb7.mono hb3.size))
     | ((with_reducible refine wpList_stB 69 _ _ ?_);refine ⟨_,_,_,⟨_,_,_,sizeOf69,rfl,B7,bl_over _ ⟨0,0⟩⟩,?_⟩;intro w8 B8 g8;have E8:=tr_st g8 E7 hne;have hb8:=bls hb7b (Nat.le_refl _) g8 (Nat.le_refl _))
     | ((with_reducible refine wpList_stB 73 _ _ ?_);refine ⟨_,_,_,⟨_,_,_,sizeOf73,rfl,E8,en_over _ (zeroE 0)⟩,?_⟩;intro w9 E9 g9;have B9:=tr_st g9 B8 (Ne.symm hne);have hb9:=bls hb8 (Nat.le_refl _) g9 (Nat.le_succ _)))
    refine bodyPost_ret (results_c2t1 rfl rfl (run_loadVar_all isAgg69 sizeOf69 B9 rfl) rfl (run_loadVar_all isAgg73 sizeOf73 E9 rfl)) rfl ⟨rfl,hb9⟩
   ·rw [if_neg (by simp [hn])]
    simp only [hmb] at hbl
    clear hn hle hnl
    refine seqH fun K HK=>?_
    go_wp2_with (first
         | ((with_reducible refine wpList_ldB 69 _ ?_);refine ⟨rfl,_,⟨_,_,_,_,_,isAgg69,sizeOf69,rfl,‹_›,arr_all rfl⟩,?_⟩)
         | (go_at_call 158;refine (hbl _).mono ?_;rintro e w7 ⟨rfl,hb7⟩))
    refine HK.out _ _ ?_
    clear HK
    have B7:=tr_bl hb7 B3
    have E7:=tr_bl hb7 E3
    have X7:=tr_bl hb7 X3
    have Y7:=tr_bl hb7 Y3
    have hb7b:=hb3.trans (hb7.mono hb3.size)
    refine seqH fun K HK=>?_
    have hbd:=(Below.refl w7.heap.size w7).drew
    have hb8:=hb7b.trans (hbd.mono hb7b.size)
    have B8:=tr_bl hbd B7
    have E8:=tr_bl hbd E7
    have X8:=tr_bl hbd X7
    have Y8:=tr_bl hbd Y7
    refine wp_region_held_drew (S:=fun w'=>w'.heap[xb]?=some (Obj.cells (blA ⟨(rn:Int),(rp:Int)⟩) 69)∧w'.heap[yb]?=some (.cells (enA e') 73 (0,0))) (by kernel_rfl) ⟨X8,Y8⟩ (fun hS0=>?_)
    generalize w7.drew=x0 at *
    refine tkT 0 (v:=.agg (blA ⟨(rn:Int),(rp:Int)⟩)) rfl (by intro wS hSw;exact exec_ldB 69 _ ⟨_,_,_,_,_,isAgg69,sizeOf69,rfl,hSw.1,arr_all rfl⟩) ?_
    refine tkT 1 (v:=.agg (enA e')) rfl (by intro wS hSw;exact exec_ldB 73 _ ⟨_,_,_,_,_,isAgg73,sizeOf73,rfl,hSw.2,arr_all rfl⟩) ?_
    refine rdy1 2 rfl (fun K' hK'=>?_)
    refine wp_stB 69 _ _ ?_
    refine ⟨_,_,_,⟨_,_,_,sizeOf69,rfl,B8,bl_over _ ⟨(rn:Int),(rp:Int)⟩⟩,?_⟩
    intro w11 B11 g11
    have hS1:=And.intro (tr_st g11 hS0.1 (show w.heap.size≠xb by omega)) (tr_st g11 hS0.2 (show w.heap.size≠yb by omega))
    have E11:=tr_st g11 E8 hne
    refine hK'.out _ _ hS1 (fun _=>?_)
    clear hK'
    (try simp only [Act.put,qa1,qa2,qa3])
    refine rdy1 3 rfl (fun K' hK'=>?_)
    refine wp_stB 73 _ _ ?_
    refine ⟨_,_,_,⟨_,_,_,sizeOf73,rfl,E11,en_over _ e'⟩,?_⟩
    intro w12 E12 g12
    have B12:=tr_st g12 B11 (Ne.symm hne)
    refine hK'.out _ _ ⟨tr_st g12 hS1.1 (by omega),tr_st g12 hS1.2 (by omega)⟩ (fun _=>?_)
    clear hK'
    (try simp only [Act.put,qa1,qa2,qa3])
    refine tkP 4 rfl ?_
    refine wpAnyH_done (by kernel_rfl) ?_ _
    refine HK.out _ _ ?_
    clear HK
    go_wp2
    refine bodyPost_ret (results_c2t1 rfl rfl (run_loadVar_all isAgg69 sizeOf69 B12 rfl) rfl (run_loadVar_all isAgg73 sizeOf73 E12 rfl)) rfl ⟨rfl,bls (bls hb8 (Nat.le_refl _) g11 (Nat.le_refl _)) (Nat.le_refl _) g12 (Nat.le_succ _)⟩
end
end Go.Proofs.YtbdonjenekhmdaaGreatDoor
