/- Texts that the claim leans on, part 21: C12, C23, C24, C25, C26, C27, C28, C29. -/
import Derived.Test.YtbdonjenekhmdaaGreatDoorZ1
import Derived.Test.YtbdonjenekhmdaaGreatDoorZ2
import Derived.Test.YtbdonjenekhmdaaGreatDoorZ3
import Derived.Test.YtbdonjenekhmdaaGreatDoorZ4
import Derived.Test.YtbdonjenekhmdaaGreatDoorZ5
import Derived.Test.YtbdonjenekhmdaaGreatDoorZ6
import Derived.Test.YtbdonjenekhmdaaGreatDoorZ7
import Derived.Test.YtbdonjenekhmdaaGreatDoorZ8
import Derived.Test.YtbdonjenekhmdaaGreatDoorZ9
import Derived.Test.YtbdonjenekhmdaaGreatDoorZ10
import Derived.Test.YtbdonjenekhmdaaGreatDoorZ11
import Derived.Test.YtbdonjenekhmdaaGreatDoorZ12
import Derived.Test.YtbdonjenekhmdaaGreatDoorZ13
import Derived.Test.YtbdonjenekhmdaaGreatDoorZ14
import Derived.Test.YtbdonjenekhmdaaGreatDoorZ15
import Derived.Test.YtbdonjenekhmdaaGreatDoorZ16
import Derived.Test.YtbdonjenekhmdaaGreatDoorZ17
import Derived.Test.YtbdonjenekhmdaaGreatDoorZ18
import Derived.Test.YtbdonjenekhmdaaGreatDoorZ19
import Derived.Test.YtbdonjenekhmdaaGreatDoorZ20
namespace Go.Proofs.YtbdonjenekhmdaaGreatDoor
open Go.RowKit Go.Proofs.Tryz
set_option maxRecDepth 100000
set_option maxHeartbeats 32000000
section
theorem FrIn.kr {X:TypeId→Bool} {B:Nat} {w w':World} {G C:Nat} {b:List UInt8} (h:FrIn w G C b) (hk:Kx X B w w') (hX:X 5=false):FrIn w' G C b:=by
 obtain ⟨h1,h2,cur,h3,h4⟩:=h
 exact ⟨h1,h2,cur,hk.ty _ _ _ h3 hX,h4⟩
section
variable {B g:Nat} {q0:RQ} {d:Dk} {w:World}
theorem same6_no (h:RefB B g q0 d w) (hb:B≤w.heap.size) (x:A6) (hx:x.sl=false) (hi:∀ w',Kx fT B w w'→A6in w' x) (hl:x.dk.bytes.length≤200∧x.dk.keep.length≤100) (hw:d.waits.length≤1000) :
  Calls Tryz.prog 16 #[.pointer (some ⟨g,0,none⟩),a6V x] w fun e w'=>(∃ v,e=.returned v)∧RDoes B g fT w (do6 d x) w':=by
 have hbw:=blw w (Obj.cells (a6A x) 44)
 have D0:=h.below hbw
 have k0:=Kx.of (X:=fT) hbw hb
 have B0:=heap_alloc_new w (Obj.cells (a6A x) 44)
 have hB0:B≤(w.alloc (Obj.cells (a6A x) 44)).heap.size:=Nat.le_trans hb k0.bl.size
 have h5:=same5_any D0 hB0 x.dk (fun w' hk=>(hi w' (k0.trans hk)).d) (hi _ k0).k (hi _ k0).n hl (by omega)
 have c0:=a6_c0 B0
 rw [hx] at c0
 unfold do6
 rw [if_pos hx]
 unfold a6V
 clear hbw h hi hx
 go_enter func16,ntmps16
 refine seqH fun K HK=>?_
 go_wp2
 refine HK.out _ _ ?_
 clear HK
 generalize w.alloc (Obj.cells (a6A x) 44)=w0 at *
 go_wp2_with (first
  | ((with_reducible refine wpList_ldB 42 _ ?_);refine ⟨rfl,_,⟨_,_,_,_,_,isAgg42,sizeOf42,rfl,‹_›,a6_dk x⟩,?_⟩)
  | (go_at_call 64;refine h5.mono ?_;rintro e w1 ⟨rfl,D1,k1⟩))
 refine bodyPost_ret (results_none rfl _ _ _) rfl ?_
 exact ⟨⟨_,rfl⟩,D1,k0.trans k1⟩
theorem same6_yes (h:RefB B g q0 d w) (hb:B≤w.heap.size) (x:A6) (hx:x.sl=true) (hi:∀ w',Kx fT B w w'→A6in w' x) (hl:x.body.length≤1000) (hw:d.waits.length≤1000) :
  Calls Tryz.prog 16 #[.pointer (some ⟨g,0,none⟩),a6V x] w fun e w'=>(∃ v,e=.returned v)∧RDoes B g fT w (do6 d x) w':=by
 have hbw:=blw w (Obj.cells (a6A x) 44)
 have D0:=h.below hbw
 have k0:=Kx.of (X:=fT) hbw hb
 have B0:=heap_alloc_new w (Obj.cells (a6A x) 44)
 have hB0:B≤(w.alloc (Obj.cells (a6A x) 44)).heap.size:=Nat.le_trans hb k0.bl.size
 have I0:=hi _ k0
 have c0:=a6_c0 B0
 rw [hx] at c0
 unfold do6
 rw [if_neg (by rw [hx];decide)]
 have hwi:=fun w=>lwide_any x.tg w
 have hwt:=wideT_le x.tg
 have hse:=fun w' (hs':SlB w' x.oa x.oc x.body)=>rseal_any x.tg x.oa x.oc x.body (wideT x.tg) w' hs' hl (by omega)
 have hcs:=sealR_len x.tg x.body (wideT x.tg)
 have hff:sealE x.tg x.body (wideT x.tg)=0→∃ f:Nat,firstN x.tg.reg x.tg.pla=f∧f+wideT x.tg≤156:=fun he=>by
  cases hm:mayTg x.tg
  ·unfold sealE at he
   rw [if_pos (.inl hm)] at he
   cases he
  ·obtain ⟨f,h1,h2,_⟩:=place_of hm
   exact ⟨f,h1,h2⟩
 generalize wideT x.tg=n at *
 generalize sealR x.tg x.body n=b at *
 generalize sealE x.tg x.body n=se at *
 generalize hfi:firstN x.tg.reg x.tg.pla=fi at *
 have HF:=Lib.hid hfi
 have HCS:=Lib.hid hcs
 have HFF:=Lib.hid hff
 have hpw:=fun k=>(puts_pl d fi b k).2
 clear hfi hcs hff hbw h hi hx
 unfold a6V
 go_enter func16,ntmps16
 refine seqH fun K HK=>?_
 go_wp2
 refine HK.out _ _ ?_
 clear HK
 generalize w.alloc (Obj.cells (a6A x) 44)=w0 at *
 obtain ⟨q,hq⟩:∃ q,w.heap.size=q:=⟨_,rfl⟩
 have hbq:B≤q:=by omega
 rw [hq] at B0 c0 ⊢
 clear hq
 refine seqH fun K HK=>?_
 go_wp2
 refine HK.out _ _ ?_
 clear HK
 clear c0
 refine seqH fun K HK=>?_
 go_wp2_with fail
 have hbd:=(Below.refl w0.heap.size w0).drew
 have D1:=D0.below hbd
 have k1:=k0.trans (Kx.of (X:=fT) hbd hB0)
 have B1:=tr_bl hbd B0
 have s1:=I0.b.below hbd
 have hB1:=Nat.le_trans hB0 hbd.size
 clear D0 k0 B0 I0 hB0 hbd
 refine wp_region_held_drew (S:=fun w'=>w'.heap[q]?=some (.cells (a6A x) 44 (0,0))) (by kernel_rfl) B1 (fun hS0=>?_)
 generalize w0.drew=x0 at *
 refine tkP 0 rfl ?_
 refine tkT 1 (v:=.agg (#[Value.int .i64 x.tg.rep,.int .i64 x.tg.reg,.int .i64 x.tg.pla,.int .i64 x.tg.idx,.int .i64 x.tg.inc])) rfl (by intro wS hSw;exact exec_ldB 39 _ ⟨_,_,_,_,_,isAgg39,sizeOf39,rfl,hSw,a6_tg x⟩) ?_
 refine tkP 2 rfl ?_
 refine tkT 3 rfl (by intro wS hSw;have c:=a6_c6 hSw;go_simp;(try with_reducible rfl)) ?_
 refine tkP 4 rfl ?_
 refine tkT 5 (v:=.agg (#[Value.int .i64 x.tg.rep,.int .i64 x.tg.reg,.int .i64 x.tg.pla,.int .i64 x.tg.idx,.int .i64 x.tg.inc])) rfl (by intro wS hSw;exact exec_ldB 39 _ ⟨_,_,_,_,_,isAgg39,sizeOf39,rfl,hSw,a6_tg x⟩) ?_
 refine rdy1 6 rfl (fun K' hK'=>?_)
 go_simp
 refine (hwi _).mono ?_
 rintro e w4 ⟨rfl,hb4⟩
 have D4:=D1.below hb4
 have k4:=k1.trans (Kx.of (X:=fT) hb4 hB1)
 have B4:=tr_bl hb4 B1
 have s4:=s1.below hb4
 have hB4:=Nat.le_trans hB1 hb4.size
 refine hK'.out _ _ B4 (fun _=>?_)
 clear hK' D1 k1 B1 s1 hB1 hb4 hS0
 (try simp only [Act.put,qa1,qa2,qa3])
 refine rdy1 7 rfl (fun K' hK'=>?_)
 go_simp
 refine (hse _ s4).mono ?_
 rintro e w5 ⟨⟨v5,rfl,o5⟩,hb5⟩
 have D5:=D4.below hb5
 have k5:=k4.trans (Kx.of (X:=fT) hb5 hB4)
 have B5:=tr_bl hb5 B4
 have hB5:=Nat.le_trans hB4 hb5.size
 refine hK'.out _ _ B5 (fun _=>?_)
 clear hK' D4 k4 B4 s4 hB4 hb5 hse hwi
 (try simp only [Act.put,qa1,qa2,qa3])
 refine tkP 8 rfl ?_
 refine tkP 9 rfl ?_
 refine tkP 10 rfl ?_
 refine tkP 11 rfl ?_
 refine tkP 12 rfl ?_
 refine wpAnyH_done (by kernel_rfl) ?_ _
 refine HK.out _ _ ?_
 clear HK
 refine seqH fun K HK=>?_
 go_wp2
 refine HK.out _ _ ?_
 clear HK
 rcases HCS.out with ⟨hlb,hn12,rfl⟩ | ⟨hlb,hne⟩
 case inr=>
  have hsn:(se==0)=false:=by rw [beq_eq_false_iff_ne];exact hne
  rw [hlb]
  clear hne HCS HFF hlb
  go_wp2_with fail
  go_loopw [6] (fun i wr=>i=.int .i64 0∧wr=w5) (fun _ _=>0)
  case atStart=>exact ⟨rfl,rfl⟩
  case round=>
   obtain ⟨rfl,rfl⟩:=hrel
   go_wp2
   go_end0
   exact ⟨⟨_,rfl⟩,⟨_,D5⟩,k5⟩
 case inl=>
  obtain ⟨f,hf,hfn⟩:=HFF.out rfl
  subst hf
  obtain ⟨G,C,rfl,hG,F5⟩:=FrIn.of_owns o5 (by omega)
  rw [show b.length / 64=n by omega]
  have q1:(b.length:Int) / 64=(n:Int):=by omega
  have q2:(b.length:Int).tdiv 64=(n:Int):=by rw [Int.tdiv_eq_ediv_of_nonneg (by omega)];exact q1
  have hC:=F5.1
  have HL:=Lib.hid hlb
  have hCm:=F5.2.1
  unfold maxLen at hCm
  clear HCS HFF o5 hG hlb
  go_wp2_with fail
  go_loopw [6] (fun i wr=>∃ k:Nat,k≤n∧i=.int .i64 (k:Int)∧(∃ q',RefB B g q' (putsD d f b k) wr)∧Kx fT B w wr∧wr.heap[q]?=some (Obj.cells (a6A x) 44)∧FrIn wr G C b) (fun i _=>n - (intOf i).toNat)
  case atStart=>exact ⟨0,by omega,rfl,⟨_,D5⟩,k5,B5,F5⟩
  case round=>
   clear D5 k5 B5 F5 hB5
   obtain ⟨k,hkn,rfl,⟨wv7,D7⟩,k7,B7,F7⟩:=hrel
   have hB7:=Nat.le_trans hb k7.bl.size
   by_cases hlt:k < n
   case neg=>
    obtain rfl:k=n:=by omega
    go_wp2
    go_end0
    exact ⟨⟨_,rfl⟩,⟨_,D7⟩,k7⟩
   case pos=>
    have hlI:(k:Int) < (n:Int):=by omega
    have W1:=Lib.hid (show IntKind.i64.wrap (64 * (k:Int))=64 * (k:Int) from IntWalk.i64_in _ (by omega))
    have W2:=Lib.hid (show IntKind.i64.wrap (64 * (k:Int)+64)=64 * (k:Int)+64 from IntWalk.i64_in _ (by omega))
    have W3:=Lib.hid (show IntKind.i64.wrap ((f:Int)+(k:Int))=(f:Int)+(k:Int) from IntWalk.i64_in _ (by omega))
    have T1:=Lib.hid (show (64 * (k:Int)).toNat=64 * k by omega)
    have T2:=Lib.hid (show (64 * (k:Int)+64).toNat=64 * k+64 by omega)
    refine seqH fun K HK=>?_
    go_wp2
    refine HK.out _ _ ?_
    clear HK
    refine seqH fun K HK2=>?_
    refine wp_block ?_
    go_wp2_with fail
    have hbd:=(Below.refl wr.heap.size wr).drew
    have D9:=D7.below hbd
    have k9:=k7.trans (Kx.of (X:=fT) hbd hB7)
    have B9:=tr_bl hbd B7
    have F9:=F7.below hbd
    have hB9:=Nat.le_trans hB7 hbd.size
    clear D7 k7 B7 F7 hB7 hbd
    refine wp_region_held_drew (S:=fun w'=>w'.heap[q]?=some (.cells (a6A x) 44 (0,0))) (by kernel_rfl) B9 (fun hS0=>?_)
    generalize wr.drew=x1 at *
    refine tkP 0 rfl ?_
    refine tkP 1 rfl ?_
    refine tkP 2 rfl ?_
    refine tkT 3 rfl (by intro wS hSw;have c:=a6_c2 hSw;go_simp;(try with_reducible rfl)) ?_
    refine tkP 4 rfl ?_
    refine tkP 5 rfl ?_
    refine tkT 6 rfl (by intro wS hSw;have c:=a6_c3 hSw;go_simp;(try with_reducible rfl)) ?_
    refine tkP 8 rfl ?_
    refine tkP 10 rfl ?_
    refine tkP 11 rfl ?_
    refine tkT 12 (v:=.int .i64 (64 * (k:Int))) rfl (by intro wS hSw;go_simp;rw [W1.out]) ?_
    refine tkP 13 rfl ?_
    refine tkT 14 (v:=.int .i64 (64 * (k:Int))) rfl (by intro wS hSw;go_simp;rw [W1.out]) ?_
    refine tkT 15 (v:=.int .i64 (64 * (k:Int)+64)) rfl (by intro wS hSw;go_simp;rw [W2.out]) ?_
    refine tkT 16 (v:=.slice (some ⟨G,64 * k,none⟩) 64 (C - 64 * k)) rfl (by intro wS hSw;go_simp;rw [if_pos ⟨by omega,by have:=HL.out;omega⟩,if_pos ⟨by omega,by omega⟩,T1.out,T2.out,if_neg (by have:=HL.out;omega),show 64 * k+64 - 64 * k=64 by omega]) ?_
    refine rdy1 7 rfl (fun K' hK'=>?_)
    go_simp
    refine (first_any x.tg.reg x.tg.pla _).mono ?_
    rintro e w10 ⟨rfl,hb10⟩
    rw [HF.out]
    have D10:=D9.below hb10
    have k10:=k9.trans (Kx.of (X:=fT) hb10 hB9)
    have B10:=tr_bl hb10 B9
    have F10:=F9.below hb10
    have hB10:=Nat.le_trans hB9 hb10.size
    refine hK'.out _ _ B10 (fun _=>?_)
    clear hK' D9 k9 B9 F9 hB9 hb10 hS0
    (try simp only [Act.put,qa1,qa2,qa3])
    refine tkT 9 (v:=.int .i64 ((f:Int)+(k:Int))) rfl (by intro wS hSw;go_simp;rw [W3.out]) ?_
    refine rdy1 17 rfl (fun K' hK'=>?_)
    go_simp
    have hwr:=rwrite_any D10 hB10 ((f:Int)+(k:Int)) (some ⟨G,64 * k,none⟩) (C - 64 * k) (pcD b k) (fun w' hk=>(F10.kr hk (by decide)).piece (by have:=HL.out;omega)) (by have:=hpw k;omega)
    rw [pcD_len (by have:=HL.out;omega)] at hwr
    refine hwr.mono ?_
    rintro e w11 ⟨rfl,⟨wv11,D11⟩,hk11⟩
    have B11:=hk11.ty _ _ _ B10 (by decide)
    have F11:=F10.kr hk11 (by decide)
    have k11:=k10.trans hk11.f
    refine hK'.out _ _ B11 (fun _=>?_)
    clear hK' hwr D10 k10 B10 F10 hB10 hk11
    refine wpAnyH_done (by kernel_rfl) ?_ _
    (try simp only [Exit.inBlock,Exit.then])
    refine HK2.out _ _ ?_
    clear HK2
    go_wp2
    go_roundw
    case rel=>exact ⟨k+1,by omega,by go_num,⟨_,D11⟩,k11,B11,F11⟩
    case measure=>simp [intOf];omega
theorem same6_any (h:RefB B g q0 d w) (hb:B≤w.heap.size) (x:A6) (hi:∀ w',Kx fT B w w'→A6in w' x) (hl:x.body.length≤100∧x.dk.bytes.length≤200∧x.dk.keep.length≤100) (hw:d.waits.length≤1000) :
  Calls Tryz.prog 16 #[.pointer (some ⟨g,0,none⟩),a6V x] w fun e w'=>(∃ v,e=.returned v)∧RDoes B g fT w (do6 d x) w':=by
 cases hx:x.sl
 ·exact same6_no h hb x hx hi hl.2 hw
 ·exact same6_yes h hb x hx hi (by omega) hw
end
end
section
section
variable {B g:Nat} {q:RQ} {d:Dk} {w w':World}
theorem rread_len (h:RefB B g q d w) (s:Int):((readD d s).2=0→(readD d s).1.length=64)∧((readD d s).2≠0→(readD d s).1=[]):=by
 unfold readD
 by_cases h0:liveD d s=0
 ·rw [if_neg (by simpa using h0)]
  cases hl:lastW d.waits s.toNat with
  | some b=>
   obtain ⟨x,hx,e⟩:=lastW_mem hl
   simp only
   exact ⟨fun _=>by rw [← e];exact (h.wk x hx).1,fun hh=>absurd rfl hh⟩
  | none=>
   simp only
   cases hp:d.pl[s.toNat]? with
   | none=>exact ⟨(fun hh=>by cases hh),fun _=>rfl⟩
   | some p=>
    simp only
    by_cases hlo:p.lost=true
    ·rw [if_pos hlo]
     exact ⟨(fun hh=>by cases hh),fun _=>rfl⟩
    ·rw [if_neg hlo]
     exact ⟨fun _=>(h.ok p (List.mem_of_getElem? hp)).1,fun hh=>absurd rfl hh⟩
 ·rw [if_pos (by simpa using h0)]
  exact ⟨fun hh=>absurd hh h0,fun _=>rfl⟩
def mineD (d:Dk) (rep reg pla:Int):Nat×Tg×List UInt8:=mineF (readD d (firstN reg pla)).1 rep reg pla
end
end
section
def whichP (a b:Nat) (x y:Int):Int×Int:=if a=1∧b=1 then (if x < y then (1,0) else (0,0)) else if a=1 then (0,0) else if b=1 then (1,0) else if a=0∨b=0 then (-1,0) else (-1,70)
def whichC (d:Dk) (rep reg:Int):Int×Int:=whichP (copyC d rep reg 0).st (copyC d rep reg 1).st (copyC d rep reg 0).tg.idx (copyC d rep reg 1).tg.idx
section
variable {B g:Nat} {q:RQ} {d:Dk} {w w':World}
end
end
section
def LdR (r:Int×List UInt8×Int) (e:Ending) (w':World):Prop:=∃ a c,e=.returned (.tuple #[.int .i64 r.1,.slice a r.2.1.length c,.int .i64 r.2.2])∧SlB w' a c r.2.1
section
variable {B g:Nat} {q:RQ} {d:Dk} {w w':World}
end
end
section
section
variable {B g:Nat} {q:RQ} {d:Dk} {w w':World}
end
end
section
section
variable {B g:Nat} {q:RQ} {d:Dk} {w w':World}
end
end
section
section
variable {B g:Nat} {q:RQ} {d:Dk} {w w':World}
end
end
section
def firstW (i:Int):Int:=if i=0 then 1 else 0
section
variable {B g:Nat} {q:RQ} {d:Dk} {w w':World}
end
end
end Go.Proofs.YtbdonjenekhmdaaGreatDoor
