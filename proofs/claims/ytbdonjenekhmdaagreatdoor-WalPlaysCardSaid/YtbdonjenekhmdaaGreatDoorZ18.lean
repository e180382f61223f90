/- Texts that the claim leans on, part 18: C6, CG, G12, C14, C0, D44, D45, D46. -/
import Derived.Test.YtbdonjenekhmdaaGreatDoorZ1
import Derived.Test.YtbdonjenekhmdaaGreatDoorZ2
import Derived.Test.YtbdonjenekhmdaaGreatDoorZ3
import Derived.Test.YtbdonjenekhmdaaGreatDoorZ4
import Derived.Test.YtbdonjenekhmdaaGreatDoorZ5
import Derived.Test.YtbdonjenekhmdaaGreatDoorZ6
import Derived.Test.YtbdonjenekhmdaaGreatDoorZ7
import Derived.Test.YtbdonjenekhmdaaGreatDoorZ8
import Derived.Test.YtbdonjenekhmdaaGreatDoorZ9
import Derived.Test.YtbdonjenekhmdaaGreatDoorZ10
import Derived.Test.YtbdonjenekhmdaaGreatDoorZ11
import Derived.Test.YtbdonjenekhmdaaGreatDoorZ12
import Derived.Test.YtbdonjenekhmdaaGreatDoorZ13
import Derived.Test.YtbdonjenekhmdaaGreatDoorZ14
import Derived.Test.YtbdonjenekhmdaaGreatDoorZ15
import Derived.Test.YtbdonjenekhmdaaGreatDoorZ16
import Derived.Test.YtbdonjenekhmdaaGreatDoorZ17
namespace Go.Proofs.YtbdonjenekhmdaaGreatDoor
open Go.RowKit Go.Proofs.Tryz
set_option maxRecDepth 100000
set_option maxHeartbeats 32000000
section
theorem getD_pl {d:Dk} {s:Nat} {p:Pl} (h:d.pl[s]?=some p):d.pl.getD s zeroPl=p:=by rw [List.getD_eq_getElem?_getD,h];rfl
theorem lastW_snoc {b:List UInt8} {k s:Nat}:∀ (l:List (List UInt8×Nat)),lastW (l++[(b,k)]) s=if k=s then some b else lastW l s
 | []=>by simp [lastW]
 | (c,j) :: l=>by
  simp only [List.cons_append,lastW,lastW_snoc l]
  by_cases h:k=s
  ·simp [h]
  ·simp [h]
theorem take_snocL {α:Type} {l:List α} {k:Nat} {x:α} (h:l[k]?=some x):l.take (k+1)=l.take k++[x]:=by
 rw [List.take_add_one,h]
 rfl
theorem live_isD {d:Dk} (h:0 < d.pl.length) (s:Int):liveD d s=if d.down=true∨d.dead=true then 5 else thereD d s:=by
 unfold liveD
 by_cases hx:d.down=true∨d.dead=true
 ·rw [if_pos ⟨h,hx⟩,if_pos hx]
 ·rw [if_neg (fun hh=>hx hh.2),if_neg hx]
section
variable {B g:Nat} {q:RQ} {d:Dk} {w w':World}
theorem RefB.wait_at (h:RefB B g q d w) {k:Nat} {b:List UInt8} {s:Nat} (hk:d.waits[k]?=some (b,s)):∃ gw cw x,q.wv=.slice (some ⟨gw,0,none⟩) d.waits.length cw∧w.cell? ⟨gw,k * 2,none⟩=some (.int .i64 (s:Int))∧w.cell? ⟨gw,k * 2+1,none⟩=some (slv x)∧SecB B w x b∧b.length=64∧s < d.pl.length:=by
 have hlt:=(List.getElem?_eq_some_iff.1 hk).1
 obtain ⟨gw,cw,hv,_⟩:=owns_some h.wts (by omega)
 have hl:k < q.wa.length:=by rw [h.lw];exact hlt
 have hx:=List.getElem?_eq_getElem hl
 have hz:(d.waits.zip q.wa)[k]?=some ((b,s),q.wa[k]):=by rw [List.getElem?_zip_eq_some];exact ⟨hk,hx⟩
 have hw:=h.wts
 rw [hv] at hw
 have hwk:=h.wk _ (List.mem_of_getElem? hk)
 refine ⟨gw,cw,q.wa[k],hv,?_,?_,h.ws k _ _ hx hk,hwk.1,hwk.2⟩
 ·rw [hw.cellAt _ (by omega)]
  have:=flat_at rwC_len hz 0 _ rfl
  simpa using this
 ·rw [hw.cellAt _ (by omega)]
  exact flat_at rwC_len hz 1 _ rfl
def FoundR (l:List (List UInt8×Nat)) (s:Nat) (f:Int):Prop:=(f = -1∧lastW l s=none)∨∃ (j:Nat) (b:List UInt8),f=j∧l[j]?=some (b,s)∧lastW l s=some b
theorem rread_any (h:RefB B g q d w) (s:Int):Calls Tryz.prog 126 #[.pointer (some ⟨g,0,none⟩),.int .i64 s] w fun e w'=>(∃ a c,e=.returned (.tuple #[.slice a (readD d s).1.length c,.int .i64 (readD d s).2])∧SlB w' a c (readD d s).1)∧Below w.heap.size w w':=by
 have hh:=rhas_any h s
 have hli:=live_isD h.n0 s
 have c4:=h.c4
 have c5:=h.c5
 unfold readD
 rcases two_b d.down with e1 | e1
 ·rcases two_b d.dead with e2 | e2
  ·have hl0:liveD d s=thereD d s:=by rw [hli,if_neg (by rw [e1,e2];simp)]
   rw [hl0]
   rw [e1] at c4
   rw [e2] at c5
   clear hli hl0 e1 e2
   by_cases h0:thereD d s=0
   case neg=>
    rw [if_pos (by simpa using h0)]
    have h2:=there_two h.n0 h0
    rw [h2] at hh ⊢
    clear h2 h0
    go_enter func126,ntmps126
    go_wp2_with (go_at_call 147;refine hh.mono ?_;rintro e w1 ⟨rfl,rfl⟩)
    go_ret2
    exact ⟨⟨none,0,rfl,slb_nil _⟩,Below.refl _ _⟩
   case pos=>
    rw [if_neg (by simpa using h0)]
    obtain ⟨k,rfl,hk⟩:=there_nat h.n0 h0
    rw [h0] at hh
    simp only [Int.toNat_natCast]
    obtain ⟨gw,cw,hwv,_,hwc,hwm⟩:=Row.of_owns h.wts
    unfold maxLen at hwm
    have c3:=h.c3
    rw [hwv] at c3
    have HWV:=Lib.hid hwv
    have HKL:=Lib.hid hk
    clear h0 hwv hk
    go_enter func126,ntmps126
    refine seqH fun K HK=>?_
    go_wp2
    refine HK.out _ _ ?_
    clear HK
    refine seqH fun K HK=>?_
    go_wp2
    refine HK.out _ _ ?_
    clear HK
    refine seqH fun K HK=>?_
    go_wp2_with (go_at_call 147;refine hh.mono ?_;rintro e w1 ⟨rfl,rfl⟩)
    refine HK.out _ _ ?_
    clear HK
    refine seqH fun K HK=>?_
    go_wp2
    refine HK.out _ _ ?_
    clear HK
    refine wp_seq_k (fun K hK=>?_)
    go_cut [6] (fun v wx=>∃ f:Int,v=.int .i64 f∧Hid (FoundR d.waits k f)∧w=wx)
    case first=>
     go_wp2
     go_loop [6,7] (fun v i=>∃ (j:Nat) (f:Int),j≤d.waits.length∧i=.int .i64 j∧v=.int .i64 f∧Hid (FoundR (d.waits.take j) k f)) (fun _ i=>d.waits.length - (intOf i).toNat)
     case atStart=>exact ⟨0,-1,by omega,rfl,rfl,Lib.hid (.inl ⟨rfl,rfl⟩)⟩
     case round=>
      obtain ⟨j,f,hj,rfl,rfl,HF⟩:=hrel
      by_cases hlt:j < d.waits.length
      case pos=>
       obtain ⟨⟨b,t⟩,hat⟩:∃ z,d.waits[j]?=some z:=⟨_,List.getElem?_eq_getElem hlt⟩
       obtain ⟨gw2,cw2,x,hv2,cs,_,_⟩:=h.wait_at hat
       have hve:=HWV.out.symm.trans hv2
       injection hve with hv3 _ hv4
       subst hv3 hv4
       have htk:=take_snocL hat
       by_cases hts:t=k
       case pos=>
        have HN:Hid (FoundR (d.waits.take (j+1)) k j):=Lib.hid (by
         rw [htk]
         refine .inr ⟨j,b,rfl,?_,?_⟩
         ·rw [List.getElem?_append_right (by rw [List.length_take];omega),List.length_take,Nat.min_eq_left (by omega),Nat.sub_self,hts];rfl
         ·rw [lastW_snoc,if_pos hts])
        have hb:((t:Int)==(k:Int))=true:=by rw [hts];simp
        clear hat htk hts hv2
        go_wp2
        go_round
        case rel=>exact ⟨j+1,_,by omega,by go_num,rfl,HN⟩
        case measure=>simp [intOf];omega
       case neg=>
        have HN:Hid (FoundR (d.waits.take (j+1)) k f):=Lib.hid (by
         rw [htk]
         rcases HF.out with ⟨h1,h2⟩ | ⟨i,c,h1,h2,h3⟩
         ·exact .inl ⟨h1,by rw [lastW_snoc,if_neg hts];exact h2⟩
         ·exact .inr ⟨i,c,h1,by rw [List.getElem?_append_left (List.getElem?_eq_some_iff.1 h2).1];exact h2,by rw [lastW_snoc,if_neg hts];exact h3⟩)
        have hb:((t:Int)==(k:Int))=false:=by rw [beq_eq_false_iff_ne];omega
        clear hat htk hts hv2
        go_wp2
        go_round
        case rel=>exact ⟨j+1,_,by omega,by go_num,rfl,HN⟩
        case measure=>simp [intOf];omega
      case neg=>
       have HN:Hid (FoundR d.waits k f):=Lib.hid (by
        have:=HF.out
        rw [List.take_of_length_le (by omega)] at this
        exact this)
       go_wp2
       go_meet
       exact ⟨f,rfl,HN,rfl⟩
    obtain ⟨f,rfl,HF,rfl⟩:=hcut
    refine hK _ _ ?_
    clear hK
    rcases HF.out with ⟨h1,h2⟩ | ⟨j,b,h1,h2,h3⟩
    ·rw [h2]
     obtain ⟨p,hp⟩:∃ p,d.pl[k]?=some p:=⟨_,List.getElem?_eq_getElem HKL.out⟩
     simp only [hp]
     subst h1
     have c0:=h.c0
     have c2:=h.c2
     have ex:=h.lo_at hp
     obtain ⟨x,hx,cx⟩:=h.ra_at HKL.out
     have hok:=(h.ok p (List.mem_of_getElem? hp)).1
     have hsl:=(h.rs k x p hx hp).slb hok
     have hk:=HKL.out
     unfold slv at cx
     clear hp hx HF h2
     rcases two_b p.lost with e1 | e1
     ·rw [e1] at ex ⊢
      simp only [Bool.false_eq_true,if_false]
      have hlen:p.rest.length≤1000000:=by omega
      have HO:=Lib.hid hok
      have hcp:=copy_any _ _ _ w hsl hlen
      rw [hok] at hcp
      clear hok hlen e1
      go_wp2_with (go_at_call 10;refine hcp.mono ?_;rintro e w2 ⟨⟨v2,rfl,hO2⟩,hb2⟩)
      go_ret2
      have hO3:w2.ownsRow w.heap.size 5 1 v2 p.rest.length (bys p.rest):=by rw [HO.out];exact hO2
      obtain ⟨a,c,rfl,hs2⟩:=SlB.of_owns hO3
      exact ⟨⟨a,c,rfl,hs2⟩,hb2⟩
     ·rw [e1] at ex ⊢
      simp only [if_true]
      clear e1
      go_wp2
      go_ret2
      exact ⟨⟨none,0,rfl,slb_nil _⟩,Below.refl _ _⟩
    ·rw [h3]
     simp only
     subst h1
     have hjl:=(List.getElem?_eq_some_iff.1 h2).1
     obtain ⟨gw2,cw2,x,hv2,_,cx,hsec,hok,_⟩:=h.wait_at h2
     have hve:=HWV.out.symm.trans hv2
     injection hve with hv3 _ hv4
     subst hv3 hv4
     have hsl:=hsec.slb hok
     have hlen:b.length≤1000000:=by omega
     have HO:=Lib.hid hok
     have hcp:=copy_any _ _ _ w hsl hlen
     rw [hok] at hcp
     unfold slv at cx
     clear hok hlen h2 h3 hv2 HF hsec
     go_wp2_with (go_at_call 10;refine hcp.mono ?_;rintro e w2 ⟨⟨v2,rfl,hO2⟩,hb2⟩)
     go_ret2
     have hO3:w2.ownsRow w.heap.size 5 1 v2 b.length (bys b):=by rw [HO.out];exact hO2
     obtain ⟨a,c,rfl,hs2⟩:=SlB.of_owns hO3
     exact ⟨⟨a,c,rfl,hs2⟩,hb2⟩
  ·have hl5:liveD d s=5:=by rw [hli,if_pos (.inr e2)]
   rw [if_pos (by rw [hl5];simp),hl5]
   rw [e1] at c4
   rw [e2] at c5
   clear hli hl5 e1 e2
   go_enter func126,ntmps126
   go_wp2
   go_ret2
   exact ⟨⟨none,0,rfl,slb_nil _⟩,Below.refl _ _⟩
 ·have hl5:liveD d s=5:=by rw [hli,if_pos (.inl e1)]
  rw [if_pos (by rw [hl5];simp),hl5]
  rw [e1] at c4
  clear hli hl5 e1
  go_enter func126,ntmps126
  go_wp2
  go_ret2
  exact ⟨⟨none,0,rfl,slb_nil _⟩,Below.refl _ _⟩
end
end
section
theorem ofLe_take (p:List UInt8) (j:Nat) (h:j < p.length):ofLe (p.take (j+1))=ofLe (p.take j)+256 ^ j * p[j].toNat:=by
 rw [List.take_add_one,List.getElem?_eq_getElem h]
 simp only [Option.toList_some]
 rw [ofLe_app]
 have:(p.take j).length=j:=by rw [List.length_take];omega
 rw [this]
 simp [ofLe]
theorem rget_ok (a:Option Addr) (cap:Nat) (l:List UInt8) (at_ k:Nat) (w:World) (hs:SlB w a cap l) (hk:k=1∨k=2∨k=4∨k=6) (h:at_+k≤l.length) :
  Calls Tryz.prog 39 #[.slice a l.length cap,.int .i64 at_,.int .i64 k] w fun e w'=>e=.returned (.tuple #[.int .i64 (getN l at_ k),.int .i64 ((at_:Int)+k),.int .i64 0])∧w=w':=by
 have hw:widthB k=true:=by rcases hk with rfl | rfl | rfl | rfl <;> rfl
 have HW:=Lib.hid hw
 clear hw
 have hpl:((l.drop at_).take k).length=k:=by rw [List.length_take,List.length_drop];omega
 have hpe:∀ j:Nat,(hj:j < k)→((l.drop at_).take k)[j]'(by omega)=l[at_+j]'(by omega):=fun j hj=>by simp
 have HPE:=Lib.hid hpe
 clear hpe
 have hmx:=hs.max
 unfold maxLen at hmx
 have hle:=hs.le
 have hrow:=hs.row
 unfold getN
 go_enter func39,ntmps39
 refine seqH fun K HK=>?_
 go_wp2
 refine HK.out _ _ ?_
 clear HK
 refine seqH fun K HK=>?_
 go_wp2_with (go_at_call 105;refine (width_any _ _).mono ?_;rintro e w' ⟨rfl,rfl⟩;rw [HW.out])
 refine HK.out _ _ ?_
 clear HK
 refine seqH fun K HK=>?_
 go_wp2
 refine HK.out _ _ ?_
 clear HK
 refine seqH fun K HK=>?_
 go_wp2
 refine HK.out _ _ ?_
 clear HK
 refine wp_seq_k (fun K hK=>?_)
 go_cut [9] (fun n wx=>n=.int .i64 (ofLe ((l.drop at_).take k):Nat)∧wx=w)
 case first=>
  go_wp2_with fail
  go_loopw [9,10,11] (fun n wo i wr=>∃ j:Nat,j≤k∧i=.int .i64 j∧n=.int .i64 (ofLe (((l.drop at_).take k).take j):Nat)∧wo=.int .i64 ((256 ^ j:Nat):Int)∧wr=w) (fun _ _ i _=>k - (intOf i).toNat)
  case atStart=>exact ⟨0,by omega,rfl,rfl,rfl,rfl⟩
  case round=>
   obtain ⟨j,hj,rfl,rfl,rfl,rfl⟩:=hrel
   by_cases hlt:j < k
   ·obtain ⟨b,off,rfl,hc⟩:=hrow.byte (i:=at_+j) (by omega)
    have hst:=ofLe_take ((l.drop at_).take k) j (by omega)
    rw [HPE.out j hlt] at hst
    have hlt2:ofLe (((l.drop at_).take k).take j) < 256 ^ j:=by
     have:=ofLe_lt (((l.drop at_).take k).take j)
     rwa [show (((l.drop at_).take k).take j).length=j by rw [List.length_take];omega] at this
    have h5:256 ^ j≤256 ^ 5:=Nat.pow_le_pow_right (by omega) (by omega)
    have hb:=(l[at_+j]'(by omega)).toNat_lt
    have hpw:256 ^ (j+1)=256 * 256 ^ j:=by rw [Nat.pow_succ,Nat.mul_comm]
    generalize (l[at_+j]'(by omega)).toNat=x at *
    generalize 256 ^ j=wo at *
    have hmul:wo * x≤256 ^ 5 * 256:=Nat.mul_le_mul h5 (by omega)
    have hcast:(wo:Int) * (x:Int)=((wo * x:Nat):Int):=by rw [Int.natCast_mul]
    have HST:=Lib.hid hst
    have HPW:=Lib.hid hpw
    clear hst hpw
    generalize ofLe (((l.drop at_).take k).take j)=n at *
    generalize wo * x=pr at *
    go_wp2
    refine ⟨⟨j+1,by omega,by go_num,?_,?_,by first | trivial | rfl⟩,by simp [intOf];omega⟩
    ·rw [HST.out];exact int_eq (by omega)
    ·rw [HPW.out];exact int_eq (by omega)
   ·obtain rfl:j=k:=by omega
    rw [List.take_of_length_le (Nat.le_of_eq hpl)]
    go_wp2
    go_meet
    exact ⟨rfl,by first | trivial | rfl⟩
 obtain ⟨rfl,rfl⟩:=hcut
 refine hK _ _ ?_;clear hK
 generalize ofLe ((l.drop at_).take k)=n at *
 go_wp2
 go_ret3
 exact ⟨rfl,rfl⟩
end
section
def tagR (t:Tg):List UInt8:=if mayTg t=true then tagB t else []
theorem owns_gb {w w':World} {base n size:Nat} {e:TypeId} {v:Value} {xs:List Value} {r:Option Nat} (h:w.ownsRow base e size v n xs) (hg:w.grownBy w' r) (hr:∀ k,r=some k→k < base):w'.ownsRow base e size v n xs:=by
 obtain ⟨hl,h | ⟨k,cap,cur,hv,hk,hc,r'⟩⟩:=h
 ·exact ⟨hl,.inl h⟩
 ·exact ⟨hl,.inr ⟨k,cap,cur,hv,hk,tr_gb hg hc (fun e=>by have:=hr k e;omega),r'⟩⟩
theorem three_new (w:World) (x y z:UInt8):(w.alloc (.cells #[byv x,byv y,byv z] 5)).ownsRow w.heap.size 5 1 (.slice (some ⟨w.heap.size,0,none⟩) 3 3) 3 (bys [x,y,z]):=
 owns_of_cur (cur:=[byv x,byv y,byv z]) (heap_alloc_new w _) (Nat.le_refl _) (Nat.le_refl _) (by unfold maxLen;omega) rfl rfl
theorem rtprint_any (t:Tg) (w:World):Calls Tryz.prog 136 #[tgV t] w fun e w'=>(∃ v,e=.returned (.tuple #[v,.int .i64 (if mayTg t=true then 0 else 2)])∧w'.ownsRow w.heap.size 5 1 v (tagR t).length (bys (tagR t)))∧Below w.heap.size w w':=by
 have hm:=rtmay_any t (w.alloc (Obj.cells #[.int .i64 t.rep,.int .i64 t.reg,.int .i64 t.pla,.int .i64 t.idx,.int .i64 t.inc] 39))
 have hbw:=blw w (Obj.cells #[.int .i64 t.rep,.int .i64 t.reg,.int .i64 t.pla,.int .i64 t.idx,.int .i64 t.inc] 39)
 have B0:=heap_alloc_new w (Obj.cells #[.int .i64 t.rep,.int .i64 t.reg,.int .i64 t.pla,.int .i64 t.idx,.int .i64 t.inc] 39)
 have hqs:=hbw.size
 have c0:(w.alloc (Obj.cells #[.int .i64 t.rep,.int .i64 t.reg,.int .i64 t.pla,.int .i64 t.idx,.int .i64 t.inc] 39)).cell? ⟨w.heap.size,0,none⟩=some (.int .i64 t.rep):=blk_cell B0 0 _ rfl
 have c1:(w.alloc (Obj.cells #[.int .i64 t.rep,.int .i64 t.reg,.int .i64 t.pla,.int .i64 t.idx,.int .i64 t.inc] 39)).cell? ⟨w.heap.size,1,none⟩=some (.int .i64 t.reg):=blk_cell B0 1 _ rfl
 have c2:(w.alloc (Obj.cells #[.int .i64 t.rep,.int .i64 t.reg,.int .i64 t.pla,.int .i64 t.idx,.int .i64 t.inc] 39)).cell? ⟨w.heap.size,2,none⟩=some (.int .i64 t.pla):=blk_cell B0 2 _ rfl
 have c3:(w.alloc (Obj.cells #[.int .i64 t.rep,.int .i64 t.reg,.int .i64 t.pla,.int .i64 t.idx,.int .i64 t.inc] 39)).cell? ⟨w.heap.size,3,none⟩=some (.int .i64 t.idx):=blk_cell B0 3 _ rfl
 have c4:(w.alloc (Obj.cells #[.int .i64 t.rep,.int .i64 t.reg,.int .i64 t.pla,.int .i64 t.idx,.int .i64 t.inc] 39)).cell? ⟨w.heap.size,4,none⟩=some (.int .i64 t.inc):=blk_cell B0 4 _ rfl
 clear B0
 cases ht:mayTg t
 case false=>
  rw [show tagR t=[] by unfold tagR;rw [ht];rfl,if_neg (by decide)]
  rw [ht] at hm
  clear ht
  go_enter func136,ntmps136
  refine seqH fun K HK=>?_
  go_wp2
  refine HK.out _ _ ?_
  clear HK
  generalize w.alloc (Obj.cells #[.int .i64 t.rep,.int .i64 t.reg,.int .i64 t.pla,.int .i64 t.idx,.int .i64 t.inc] 39)=w0 at *
  generalize w.heap.size=q at *
  go_wp2_with (go_at_call 189;refine hm.mono ?_;rintro e w1 ⟨rfl,hb1⟩)
  go_ret2
  exact ⟨⟨_,rfl,World.ownsRow_nil _ _ _ _⟩,hbw.trans (hb1.mono hqs)⟩
 case true=>
  rw [show tagR t=tagB t by unfold tagR;rw [ht];rfl,if_pos rfl,tagB_len]
  rw [ht] at hm
  obtain ⟨h1,h2,h3,h4,h5,h6,h7,h8⟩:=mayTg_parts ht
  obtain ⟨g1,g2,g3⟩:=mayTg_small ht
  clear ht h4
  have L3:=Lib.hid (show oputL 6 t.idx=le 6 t.idx.toNat from oput_one (k:=6) (by omega) (by show _ < 281474976710656;omega))
  have L4:=Lib.hid (show oputL 6 t.inc=le 6 t.inc.toNat from oput_one (k:=6) (by omega) (by show _ < 281474976710656;omega))
  have E:=Lib.hid (show tagB t=([UInt8.ofNat t.rep.toNat,UInt8.ofNat t.reg.toNat,UInt8.ofNat t.pla.toNat]++le 6 t.idx.toNat)++le 6 t.inc.toNat by
   unfold tagB
   simp only [le,List.cons_append,List.nil_append]
   rw [Nat.mod_eq_of_lt (show t.rep.toNat < 256 by omega),Nat.mod_eq_of_lt (show t.reg.toNat < 256 by omega),Nat.mod_eq_of_lt (show t.pla.toNat < 256 by omega)])
  have V0:=Lib.hid (show byv (UInt8.ofNat t.rep.toNat)=.int .u8 t.rep by unfold byv;congr 1;rw [UInt8.toNat_ofNat',Nat.mod_eq_of_lt (show t.rep.toNat < 256 by omega)];omega)
  have V1:=Lib.hid (show byv (UInt8.ofNat t.reg.toNat)=.int .u8 t.reg by unfold byv;congr 1;rw [UInt8.toNat_ofNat',Nat.mod_eq_of_lt (show t.reg.toNat < 256 by omega)];omega)
  have V2:=Lib.hid (show byv (UInt8.ofNat t.pla.toNat)=.int .u8 t.pla by unfold byv;congr 1;rw [UInt8.toNat_ofNat',Nat.mod_eq_of_lt (show t.pla.toNat < 256 by omega)];omega)
  have M0:t.rep % 256=t.rep:=by omega
  have M1:t.reg % 256=t.reg:=by omega
  have M2:t.pla % 256=t.pla:=by omega
  go_enter func136,ntmps136
  refine seqH fun K HK=>?_
  go_wp2
  refine HK.out _ _ ?_
  clear HK
  generalize w.alloc (Obj.cells #[.int .i64 t.rep,.int .i64 t.reg,.int .i64 t.pla,.int .i64 t.idx,.int .i64 t.inc] 39)=w0 at *
  generalize w.heap.size=q at *
  refine seqH fun K HK=>?_
  go_wp2_with (go_at_call 189;refine hm.mono ?_;rintro e w1 ⟨rfl,hb1⟩)
  refine HK.out _ _ ?_
  clear HK
  replace c0:=cell_later hb1 c0
  replace c1:=cell_later hb1 c1
  replace c2:=cell_later hb1 c2
  replace c3:=cell_later hb1 c3
  replace c4:=cell_later hb1 c4
  refine seqH fun K HK=>?_
  go_wp2
  refine HK.out _ _ ?_
  clear HK
  have o3:=three_new w1 (UInt8.ofNat t.rep.toNat) (UInt8.ofNat t.reg.toNat) (UInt8.ofNat t.pla.toNat)
  rw [V0.out,V1.out,V2.out] at o3
  have hb2:=blw w1 (Obj.cells #[.int .u8 t.rep,.int .u8 t.reg,.int .u8 t.pla] 5)
  replace c3:=cell_later hb2 c3
  replace c4:=cell_later hb2 c4
  have hb3:=hbw.trans ((hb1.trans (hb2.mono hb1.size)).mono hqs)
  have hqb:q≤w1.heap.size:=Nat.le_trans hqs hb1.size
  have hbs:w1.heap.size < (w1.alloc (Obj.cells #[.int .u8 t.rep,.int .u8 t.reg,.int .u8 t.pla] 5)).heap.size:=by simp
  clear c0 c1 c2 V0 V1 V2 M0 M1 M2 hb2 hb1 hm hbw h1 h2 h3 g1 g2 g3
  generalize w1.alloc (Obj.cells #[.int .u8 t.rep,.int .u8 t.reg,.int .u8 t.pla] 5)=w2 at *
  generalize w1.heap.size=base at *
  refine seqH fun K HK=>?_
  go_wp2_with (go_at_call 52;refine (rput_any 6 t.idx _ (by omega)).mono ?_;rintro e w3 ⟨⟨v3,rfl,p3⟩,hb4⟩)
  refine HK.out _ _ ?_
  clear HK
  rw [L3.out] at p3
  obtain ⟨a3,k3,rfl,s3⟩:=SlB.of_owns p3
  replace o3:=owns_bl o3 hb4
  replace c4:=cell_later hb4 c4
  have hb5:=hb3.trans (hb4.mono (by have:=hb3.size;omega))
  have hbs3:=Nat.le_trans hbs hb4.size
  clear p3 c3 hb3 hb4 hbs
  refine seqH fun K HK=>?_
  go_wp2_with (go_at_call 52;refine (rput_any 6 t.inc _ (by omega)).mono ?_;rintro e w4 ⟨⟨v4,rfl,p4⟩,hb6⟩)
  refine HK.out _ _ ?_
  clear HK
  rw [L4.out] at p4
  replace o3:=owns_bl o3 hb6
  replace s3:=s3.below hb6
  have hb7:=hb5.trans (hb6.mono (by omega))
  have hbs4:=Nat.le_trans hbs3 hb6.size
  clear c4 hb5 hb6
  have m3:=le_len 6 t.idx.toNat
  have m4:=le_len 6 t.inc.toNat
  generalize le 6 t.idx.toNat=l3 at *
  generalize le 6 t.inc.toNat=l4 at *
  have M3:=Lib.hid m3
  have M4:=Lib.hid m4
  clear m3 m4
  obtain ⟨b3,f3,rfl,r3⟩:=s3.row.at (k:=0) (by have:=M3.out;rw [bys_len];omega)
  obtain ⟨a4,k4,rfl,s4⟩:=SlB.of_owns p4
  refine seqH fun K HK=>?_
  go_wp2_with (at_builtin;refine wpList_appendN' rfl _ _ 37 37 5 5 elByte underlying37 rfl base _ 3 _ rfl o3 ⟨b3,f3,none⟩ l3.length k3 (bys l3) rfl (by rw [bys_len];simp) (fun j u hu=>by rw [addr_add];exact r3 j u hu) bys_one (by have:=M3.out;omega) (by decide) (by omega) ?_;intro v5 w5 o5 g5)
  refine HK.out _ _ ?_
  clear HK
  rw [← bys_app] at o5
  have g5':w4.grownBy w5 (some base):=g5
  have q4:=owns_gb p4 g5' (fun k e=>by cases e;omega)
  have hb8:=hb7.grown g5' (by have:=hb7.size;omega) (fun k e=>by cases e;omega)
  have hbs5:=g5'.size
  obtain ⟨_,_,e4,s4'⟩:=SlB.of_owns q4
  cases e4
  clear s4 p4 q4 g5 g5' r3 s3 o3 hb7
  refine seqH fun K HK=>?_
  go_wp2_with (at_builtin;refine wpList_append_row rfl _ _ 37 5 elByte rfl base v5 (3+l3.length) _ rfl o5 a4 l4.length k4 (bys l4) rfl (by rw [bys_len];simp) s4'.row bys_one (by have:=M3.out;have:=M4.out;omega) (by decide) (by omega) ?_;intro v6 w6 o6 hb9)
  refine HK.out _ _ ?_
  clear HK
  rw [← bys_app,← E.out] at o6
  go_wp2
  go_ret2
  exact ⟨⟨v6,rfl,by rw [show (15:Nat)=3+l3.length+l4.length by have:=M3.out;have:=M4.out;omega];exact owns_mono o6 hqb⟩,hb8.trans (hb9.mono hqb)⟩
theorem rroom_any (n:Nat) (w:World):Calls Tryz.prog 137 #[.int .i64 (n:Int)] w fun e w'=>e=.returned (.int .i64 (roomN (64 * n):Nat))∧w=w':=by
 by_cases h1:n=1
 ·subst h1
  go_enter func137,ntmps137
  go_wp2
  go_ret
  exact ⟨rfl,rfl⟩
 by_cases h2:n=2
 ·subst h2
  go_enter func137,ntmps137
  go_wp2
  go_ret
  exact ⟨rfl,rfl⟩
 have e:roomN (64 * n)=0:=by unfold roomN;rw [if_neg (by omega),if_neg (by omega)]
 rw [e]
 have i1:((n:Int)==1)=false:=by rw [beq_eq_false_iff_ne];omega
 have i2:((n:Int)==2)=false:=by rw [beq_eq_false_iff_ne];omega
 clear e h1 h2
 go_enter func137,ntmps137
 go_wp2
 go_ret
 exact ⟨rfl,rfl⟩
def slLen:Value→Nat
 | .slice _ n _=>n
 | _=>0
theorem oput2 {n:Nat} (h:n < 65536):oputL 2 (n:Int)=le 2 n:=oput_one (k:=2) (by omega) (by show _ < 65536;omega)
theorem oput4b {z:Nat} (h:z < 4294967296):oputL 4 (z:Int)=le 4 z:=oput_one (k:=4) (by omega) (by show _ < 4294967296;omega)
theorem rseal_any (t:Tg) (a:Option Addr) (cap:Nat) (body:List UInt8) (n:Nat) (w:World) (hs:SlB w a cap body) (hl:body.length≤1000) (hn:n≤1000) :
  Calls Tryz.prog 60 #[tgV t,.slice a body.length cap,.int .i64 (n:Int)] w fun e w'=>(∃ v,e=.returned (.tuple #[v,.int .i64 (sealE t body n)])∧w'.ownsRow w.heap.size 5 1 v (sealR t body n).length (bys (sealR t body n)))∧Below w.heap.size w w':=by
 have hpr:=rtprint_any t (w.alloc (Obj.cells #[.int .i64 t.rep,.int .i64 t.reg,.int .i64 t.pla,.int .i64 t.idx,.int .i64 t.inc] 39))
 have hro:=fun w=>rroom_any n w
 have hbw:=blw w (Obj.cells #[.int .i64 t.rep,.int .i64 t.reg,.int .i64 t.pla,.int .i64 t.idx,.int .i64 t.inc] 39)
 have B0:=heap_alloc_new w (Obj.cells #[.int .i64 t.rep,.int .i64 t.reg,.int .i64 t.pla,.int .i64 t.idx,.int .i64 t.inc] 39)
 have hqs:=hbw.size
 have hs0:=hs.below hbw
 have c0:(w.alloc (Obj.cells #[.int .i64 t.rep,.int .i64 t.reg,.int .i64 t.pla,.int .i64 t.idx,.int .i64 t.inc] 39)).cell? ⟨w.heap.size,0,none⟩=some (.int .i64 t.rep):=blk_cell B0 0 _ rfl
 have c1:(w.alloc (Obj.cells #[.int .i64 t.rep,.int .i64 t.reg,.int .i64 t.pla,.int .i64 t.idx,.int .i64 t.inc] 39)).cell? ⟨w.heap.size,1,none⟩=some (.int .i64 t.reg):=blk_cell B0 1 _ rfl
 have c2:(w.alloc (Obj.cells #[.int .i64 t.rep,.int .i64 t.reg,.int .i64 t.pla,.int .i64 t.idx,.int .i64 t.inc] 39)).cell? ⟨w.heap.size,2,none⟩=some (.int .i64 t.pla):=blk_cell B0 2 _ rfl
 have c3:(w.alloc (Obj.cells #[.int .i64 t.rep,.int .i64 t.reg,.int .i64 t.pla,.int .i64 t.idx,.int .i64 t.inc] 39)).cell? ⟨w.heap.size,3,none⟩=some (.int .i64 t.idx):=blk_cell B0 3 _ rfl
 have c4:(w.alloc (Obj.cells #[.int .i64 t.rep,.int .i64 t.reg,.int .i64 t.pla,.int .i64 t.idx,.int .i64 t.inc] 39)).cell? ⟨w.heap.size,4,none⟩=some (.int .i64 t.inc):=blk_cell B0 4 _ rfl
 obtain ⟨sr,hsr⟩:∃ sr,sealR t body n=sr:=⟨_,rfl⟩
 obtain ⟨se,hse⟩:∃ se,sealE t body n=se:=⟨_,rfl⟩
 rw [hsr,hse]
 have HSR:=Lib.hid hsr
 have HSE:=Lib.hid hse
 clear hsr hse B0
 cases ht:mayTg t
 case false=>
  have e1:sr=[]:=by rw [← HSR.out];unfold sealR;rw [ht];simp
  have e2:se=2:=by rw [← HSE.out];unfold sealE;rw [ht];simp
  subst e1 e2
  rw [ht] at hpr
  have HT:=Lib.hid ht
  clear ht hro HSR HSE
  go_enter func60,ntmps60
  refine seqH fun K HK=>?_
  go_wp2
  refine HK.out _ _ ?_
  clear HK
  generalize w.alloc (Obj.cells #[.int .i64 t.rep,.int .i64 t.reg,.int .i64 t.pla,.int .i64 t.idx,.int .i64 t.inc] 39)=w0 at *
  generalize w.heap.size=q at *
  go_wp2_with (go_at_call 136;refine hpr.mono ?_;rintro e w1 ⟨⟨v1,rfl,p1⟩,hb1⟩)
  go_ret2
  exact ⟨⟨_,rfl,World.ownsRow_nil _ _ _ _⟩,hbw.trans (hb1.mono hqs)⟩
 case true=>
 rw [ht] at hpr
 rw [show tagR t=tagB t by unfold tagR;rw [ht];rfl,if_pos rfl] at hpr
 have HT:=Lib.hid ht
 by_cases hr0:roomN (64 * n)=0
 case pos=>
  have e1:sr=[]:=by rw [← HSR.out];unfold sealR;rw [ht,hr0];simp
  have e2:se=2:=by rw [← HSE.out];unfold sealE;rw [hr0];simp
  subst e1 e2
  rw [hr0] at hro
  clear ht hr0 HSR HSE
  go_enter func60,ntmps60
  refine seqH fun K HK=>?_
  go_wp2
  refine HK.out _ _ ?_
  clear HK
  generalize w.alloc (Obj.cells #[.int .i64 t.rep,.int .i64 t.reg,.int .i64 t.pla,.int .i64 t.idx,.int .i64 t.inc] 39)=w0 at *
  generalize w.heap.size=q at *
  go_wp2_with (first
   | (go_at_call 136;refine hpr.mono ?_;rintro e w1 ⟨⟨v1,rfl,p1⟩,hb1⟩)
   | (go_at_call 137;refine (hro _).mono ?_;rintro e w2 ⟨rfl,rfl⟩))
  go_ret2
  exact ⟨⟨_,rfl,World.ownsRow_nil _ _ _ _⟩,hbw.trans (hb1.mono hqs)⟩
 case neg=>
 have hn12:=(roomN_of (n:=64 * n) (by omega))
 obtain ⟨m,hm⟩:∃ m,roomN (64 * n)=m:=⟨_,rfl⟩
 rw [hm] at hro hn12
 have hm0:((m:Int)==0)=false:=by rw [beq_eq_false_iff_ne];omega
 have HM:=Lib.hid hm
 by_cases hbl:m < body.length
 case pos=>
  have e1:sr=[]:=by rw [← HSR.out];unfold sealR;rw [if_neg (by omega)]
  have e2:se=3:=by rw [← HSE.out];unfold sealE;rw [if_neg (by simp [ht,hm];omega),if_pos (by omega)]
  subst e1 e2
  have hI:(m:Int) < body.length:=by omega
  clear ht hr0 HSR HSE hm hn12
  go_enter func60,ntmps60
  refine seqH fun K HK=>?_
  go_wp2
  refine HK.out _ _ ?_
  clear HK
  generalize w.alloc (Obj.cells #[.int .i64 t.rep,.int .i64 t.reg,.int .i64 t.pla,.int .i64 t.idx,.int .i64 t.inc] 39)=w0 at *
  generalize w.heap.size=q at *
  go_wp2_with (first
   | (go_at_call 136;refine hpr.mono ?_;rintro e w1 ⟨⟨v1,rfl,p1⟩,hb1⟩)
   | (go_at_call 137;refine (hro _).mono ?_;rintro e w2 ⟨rfl,rfl⟩))
  go_ret2
  exact ⟨⟨_,rfl,World.ownsRow_nil _ _ _ _⟩,hbw.trans (hb1.mono hqs)⟩
 case neg=>
 have e1:sr=sealF t body (64 * n):=by rw [← HSR.out];unfold sealR;rw [if_pos ⟨ht,hr0,by omega⟩]
 have e2:se=0:=by rw [← HSE.out];unfold sealE;rw [if_neg (by simp [ht,hm];omega),if_neg (by omega)]
 subst e2
 have hI:¬ (m:Int) < body.length:=by omega
 have hn2:n≤2:=by omega
 have hn1:21+body.length≤64 * n:=by omega
 clear ht hr0 HSR HSE hm hn12 hn
 go_enter func60,ntmps60
 refine seqH fun K HK=>?_
 go_wp2
 refine HK.out _ _ ?_
 clear HK
 generalize w.alloc (Obj.cells #[.int .i64 t.rep,.int .i64 t.reg,.int .i64 t.pla,.int .i64 t.idx,.int .i64 t.inc] 39)=w0 at *
 generalize w.heap.size=q at *
 refine seqH fun K HK=>?_
 go_wp2_with (go_at_call 136;refine hpr.mono ?_;rintro e w1 ⟨⟨v1,rfl,p1⟩,hb1⟩)
 refine HK.out _ _ ?_
 clear HK
 have hb2:=hbw.trans (hb1.mono hqs)
 have hs1:=hs0.below hb1
 have hq1:=Nat.le_trans hqs hb1.size
 obtain ⟨a1,k1,rfl,s1⟩:=SlB.of_owns p1
 clear hpr hbw hb1 hs0 hqs c0 c1 c2 c3 c4 p1 hs
 refine seqH fun K HK=>?_
 go_wp2_with (go_at_call 137;refine (hro _).mono ?_;rintro e w2 ⟨rfl,rfl⟩)
 refine HK.out _ _ ?_
 clear HK
 refine seqH fun K HK=>?_
 go_wp2_with (go_at_call 137;refine (hro _).mono ?_;rintro e w2 ⟨rfl,rfl⟩)
 refine HK.out _ _ ?_
 clear HK
 refine seqH fun K HK=>?_
 go_wp2_with (go_at_call 52;refine (rput_any 2 (body.length:Int) _ (by omega)).mono ?_;rintro e w3 ⟨⟨v3,rfl,o3⟩,hb3⟩)
 refine HK.out _ _ ?_
 clear HK
 rw [oput2 (by omega)] at o3
 have s3:=s1.below hb3
 have hs3:=hs1.below hb3
 have hl3:=hb3.size
 refine seqH fun K HK=>?_
 go_wp2_with (at_builtin;refine wpList_append_row rfl _ _ 37 5 elByte rfl w1.heap.size v3 _ _ rfl o3 a1 (tagB t).length k1 (bys (tagB t)) rfl (by rw [bys_len];simp) s3.row bys_one (by rw [le_len,tagB_len];omega) (by decide) hl3 ?_;intro v4 w4 o4 hb4)
 refine HK.out _ _ ?_
 clear HK
 replace o4:w4.ownsRow w1.heap.size 5 1 v4 17 (bys (le 2 body.length++tagB t)):=by
  rw [bys_app]
  rw [le_len,tagB_len] at o4
  exact o4
 have hb5:=hb3.trans hb4
 have hs4:=hs1.below hb5
 have hl4:=hb5.size
 clear hb4 hb3 hs3 s3 o3 s1 hl3
 refine seqH fun K HK=>?_
 go_wp2_with (at_builtin;refine wpList_append_row rfl _ _ 37 5 elByte rfl w1.heap.size v4 17 _ rfl o4 a body.length cap (bys body) rfl (by rw [bys_len];simp) hs4.row bys_one (by omega) (by decide) hl4 ?_;intro v6 w6 o6 hb6)
 refine HK.out _ _ ?_
 clear HK
 rw [← bys_app] at o6
 have hb7:=hb5.trans hb6
 clear hb6 hb5 hs4 o4 hl4 hs1
 refine seqH fun K HK=>?_
 obtain ⟨pad,hpad⟩:∃ pad,64 * n - 21 - body.length=pad:=⟨_,rfl⟩
 have hpn:21+body.length+pad=64 * n:=by omega
 have HP:=Lib.hid hpad
 clear hpad
 go_wp2_with fail
 go_loopw [10] (fun o wr=>∃ j:Nat,j≤pad∧wr.ownsRow w1.heap.size 5 1 o (17+body.length+j) (bys ((le 2 body.length++tagB t++body)++List.replicate j 0))∧Below w1.heap.size w1 wr) (fun o _=>64 * n - slLen o)
 case atStart=>exact ⟨0,by omega,by simpa using o6,hb7⟩
 case round=>
  clear o6 hb7
  obtain ⟨j,hj,hown,hbr⟩:=hrel
  obtain ⟨ao,co,rfl,_,_,_⟩:=Row.of_owns hown
  have hlr:=hbr.size
  by_cases hlt:j < pad
  case pos=>
   have hlI:((17+body.length+j:Nat):Int) < 64 * (n:Int) - 4:=by omega
   go_wp2_with (at_builtin;refine wpList_append1 rfl _ _ 37 5 elByte rfl w1.heap.size _ (17+body.length+j) _ rfl hown #[.int .u8 0] rfl (by simp;rfl) _ rfl (by omega) (by omega) (by omega) ?_;intro v8 w8 o8 hb8 _)
   obtain ⟨a8,c8,rfl,_,_,_⟩:=Row.of_owns o8
   go_roundw
   case rel=>exact ⟨j+1,by omega,by rw [List.replicate_succ',← List.append_assoc,bys_app];exact o8,hbr.trans hb8⟩
   case measure=>simp [slLen];omega
  case neg=>
   obtain rfl:j=pad:=by omega
   have hlI:¬ ((17+body.length+j:Nat):Int) < 64 * (n:Int) - 4:=by omega
   have hhd:(le 2 body.length++tagB t++body)++List.replicate j 0=headF t body (64 * n):=by
    unfold headF
    rw [HP.out]
    simp only [List.append_assoc]
   have hhl:(headF t body (64 * n)).length=17+body.length+j:=by rw [← hhd];simp [le_len,tagB_len];omega
   rw [hhd,← hhl] at hown
   have hwe:=hown
   obtain ⟨a9,c9,e9,s9⟩:=SlB.of_owns hwe
   rw [hhl] at e9
   cases e9
   have hsum:=rsum_any ao co (headF t body (64 * n)) wr s9
   rw [hhl] at hsum
   go_wp2
   refine HK.out _ _ ?_
   clear HK
   obtain ⟨z,hz⟩:∃ z,crcS (headF t body (64 * n))=z:=⟨_,rfl⟩
   have hz2:=crcS_lt (headF t body (64 * n))
   rw [hz] at hsum hz2
   have HZ:=Lib.hid hz
   have HHL:=Lib.hid hhl
   clear hz hhd hhl hwe s9
   refine seqH fun K HK=>?_
   go_wp2_with (first
       | (go_at_call 138;refine hsum.mono ?_;rintro e w9 ⟨rfl,rfl⟩)
       | (go_at_call 52;refine (rput_any 4 (z:Int) _ (by omega)).mono ?_;rintro e w10 ⟨⟨v10,rfl,o10⟩,hb10⟩;rw [oput4b hz2] at o10;obtain ⟨a10,k10,rfl,s10⟩:=SlB.of_owns o10))
   refine HK.out _ _ ?_
   clear HK
   replace hown:=owns_bl hown hb10
   rw [HHL.out] at hown
   have hb11:=hbr.trans (hb10.mono hlr)
   have hl11:=hb11.size
   refine seqH fun K HK=>?_
   go_wp2_with (at_builtin;refine wpList_append_row rfl _ _ 37 5 elByte rfl w1.heap.size _ (17+body.length+j) _ rfl hown a10 (le 4 z).length k10 (bys (le 4 z)) rfl (by rw [bys_len];simp) s10.row bys_one (by rw [le_len];omega) (by decide) hl11 ?_;intro v12 w12 o12 hb12)
   refine HK.out _ _ ?_
   clear HK
   have hfin:w12.ownsRow w1.heap.size 5 1 v12 sr.length (bys sr):=by
    rw [e1]
    unfold sealF
    rw [HZ.out,bys_app,List.length_append,HHL.out]
    exact o12
   go_wp2
   go_ret2
   exact ⟨⟨v12,rfl,owns_mono hfin hq1⟩,hb2.trans ((hb11.trans hb12).mono hq1)⟩
end
section
theorem getN_b1 {l:List UInt8} {i:Nat} (h:i < l.length):getN l i 1=(l[i]).toNat:=by
 unfold getN
 rw [List.drop_eq_getElem_cons h,List.take_succ_cons,List.take_zero]
 rfl
theorem rblank_any (a:Option Addr) (cap:Nat) (l:List UInt8) (w:World) (hs:SlB w a cap l):Calls Tryz.prog 215 #[.slice a l.length cap] w fun e w'=>e=.returned (.bool (noughtsB l))∧w=w':=by
 have hr:=hs.row
 have hmx:=hs.max
 have hle:=hs.le
 unfold maxLen at hmx
 go_enter func215,ntmps215
 refine seqH fun K HK=>?_
 go_wp2
 refine HK.out _ _ ?_
 clear HK
 refine wp_seq_k (fun K hK=>?_)
 go_cut [] (fun wx=>Hid (noughtsB l=true)∧w=wx)
 case first=>
  go_wp2
  go_loop [3] (fun i=>∃ j:Nat,j≤l.length∧i=.int .i64 j∧Hid (noughtsB (l.take j)=true)) (fun i=>l.length - (intOf i).toNat)
  case atStart=>exact ⟨0,by omega,rfl,Lib.hid rfl⟩
  case round=>
   obtain ⟨j,hj,rfl,HN⟩:=hrel
   by_cases hlt:j < l.length
   case neg=>
    have HF:Hid (noughtsB l=true):=Lib.hid (by
     have:=HN.out
     rw [List.take_of_length_le (by omega)] at this
     exact this)
    go_wp2
    go_meet
    exact ⟨HF,rfl⟩
   case pos=>
    obtain ⟨b,off,rfl,hc⟩:=hr.byte (i:=j) hlt
    have htk:=take_snocL (List.getElem?_eq_getElem hlt)
    by_cases h0:l[j]=0
    case pos=>
     have HN2:Hid (noughtsB (l.take (j+1))=true):=Lib.hid (by
      rw [htk]
      unfold noughtsB
      rw [List.all_append]
      have:=HN.out
      unfold noughtsB at this
      rw [this,h0]
      rfl)
     rw [h0] at hc
     clear htk h0
     go_wp2
     go_round
     case rel=>exact ⟨j+1,by omega,by go_num,HN2⟩
     case measure=>simp [intOf];omega
    case neg=>
     have HF:Hid (noughtsB l=false):=Lib.hid (by
      unfold noughtsB
      rw [List.all_eq_false]
      exact ⟨l[j],List.getElem_mem hlt,by simpa using h0⟩)
     have hb:(((l[j]).toNat:Int) != 0)=true:=by
      rw [bne_iff_ne]
      intro e
      exact h0 (UInt8.toNat_inj.1 (by simpa using e))
     clear htk h0
     go_wp2
     go_ret
     exact ⟨ret_bool HF.out.symm,rfl⟩
 obtain ⟨HF,rfl⟩:=hcut
 refine hK _ _ ?_
 clear hK
 go_wp2
 go_ret
 exact ⟨ret_bool HF.out.symm,rfl⟩
theorem rtparse_any (a:Option Addr) (cap:Nat) (l:List UInt8) (w:World) (hs:SlB w a cap l) (hl:l.length=15):Calls Tryz.prog 216 #[.slice a 15 cap] w fun e w'=>e=.returned (.tuple #[tgV (parseT l).1,.int .i64 (parseT l).2])∧Below w.heap.size w w':=by
 have B0:=heap_alloc_new w (Obj.cells #[.int .i64 0,.int .i64 0,.int .i64 0,.int .i64 0,.int .i64 0] 39)
 have hb0:=blw w (Obj.cells #[.int .i64 0,.int .i64 0,.int .i64 0,.int .i64 0,.int .i64 0] 39)
 have hs0:=hs.below hb0
 have g3:=rget_ok a cap l 3 6 (w.alloc (Obj.cells #[.int .i64 0,.int .i64 0,.int .i64 0,.int .i64 0,.int .i64 0] 39)) hs0 (by omega) (by omega)
 have g9:=rget_ok a cap l 9 6 (w.alloc (Obj.cells #[.int .i64 0,.int .i64 0,.int .i64 0,.int .i64 0,.int .i64 0] 39)) hs0 (by omega) (by omega)
 rw [hl] at g3 g9
 obtain ⟨b,off,rfl,c0⟩:=hs0.row.byte (i:=0) (by omega)
 have c1:=hs0.row.byteAt (i:=1) (by omega)
 have c2:=hs0.row.byteAt (i:=2) (by omega)
 have e0:(l[0]'(by omega)).toNat=getN l 0 1:=(getN_b1 (by omega)).symm
 have e1:(l[1]'(by omega)).toNat=getN l 1 1:=(getN_b1 (by omega)).symm
 have e2:(l[2]'(by omega)).toNat=getN l 2 1:=(getN_b1 (by omega)).symm
 have l0:=(l[0]'(by omega)).toNat_lt
 have l1:=(l[1]'(by omega)).toNat_lt
 have l2:=(l[2]'(by omega)).toNat_lt
 rw [e0] at c0 l0
 rw [e1] at c1 l1
 rw [e2] at c2 l2
 have hta:tagAt l 0=⟨getN l 0 1,getN l 1 1,getN l 2 1,getN l 3 6,getN l 9 6⟩:=rfl
 have hm:=fun w=>rtmay_any (tagAt l 0) w
 unfold parseT
 rw [hta] at hm ⊢
 have hlt:b < w.heap.size:=by
  obtain ⟨b2,off2,e,c⟩:=hs.row.byte (i:=0) (by omega)
  cases e
  exact World.block_lt_of_cell? _ _ c
 clear hta e0 e1 e2 hs hs0 hl
 generalize getN l 0 1=n0 at *
 generalize getN l 1 1=n1 at *
 generalize getN l 2 1=n2 at *
 generalize getN l 3 6=n3 at *
 generalize getN l 9 6=n9 at *
 clear l
 obtain ⟨t,ht⟩:∃ t:Tg,t=⟨n0,n1,n2,n3,n9⟩:=⟨_,rfl⟩
 rw [← ht] at hm ⊢
 have t0:(n0:Int)=t.rep:=by rw [ht]
 have t1:(n1:Int)=t.reg:=by rw [ht]
 have t2:(n2:Int)=t.pla:=by rw [ht]
 have t3:(n3:Int)=t.idx:=by rw [ht]
 have t9:(n9:Int)=t.inc:=by rw [ht]
 have HW0:=Lib.hid (show IntKind.i64.wrap t.rep=t.rep by rw [← t0];exact IntWalk.i64_in _ (by omega))
 have HW1:=Lib.hid (show IntKind.i64.wrap t.reg=t.reg by rw [← t1];exact IntWalk.i64_in _ (by omega))
 have HW2:=Lib.hid (show IntKind.i64.wrap t.pla=t.pla by rw [← t2];exact IntWalk.i64_in _ (by omega))
 have z0:0≤t.rep∧t.rep < 256:=by omega
 have z1:0≤t.reg∧t.reg < 256:=by omega
 have z2:0≤t.pla∧t.pla < 256:=by omega
 rw [t0] at c0
 rw [t1] at c1
 rw [t2] at c2
 rw [t3] at g3
 rw [t9] at g9
 clear t0 t1 t2 t3 t9 ht l0 l1 l2 n0 n1 n2 n3 n9
 go_enter func216,ntmps216
 refine seqH fun K HK=>?_
 go_wp2
 refine HK.out _ _ ?_
 clear HK
 generalize w.alloc (Obj.cells #[.int .i64 0,.int .i64 0,.int .i64 0,.int .i64 0,.int .i64 0] 39)=w0 at *
 obtain ⟨q,hq⟩:∃ q,w.heap.size=q:=⟨_,rfl⟩
 simp only [hq] at B0 hlt hb0 ⊢
 have hqs:=hb0.size
 rw [hq] at hqs
 clear hq
 refine seqH fun K HK=>?_
 go_wp2
 refine HK.out _ _ ?_
 clear HK
 refine seqH fun K HK=>?_
 go_wp2_with (go_at_call 39;refine g3.mono ?_;rintro e w2 ⟨rfl,rfl⟩)
 refine HK.out _ _ ?_
 clear HK
 refine seqH fun K HK=>?_
 go_wp2_with (go_at_call 39;refine g9.mono ?_;rintro e w2 ⟨rfl,rfl⟩)
 refine HK.out _ _ ?_
 clear HK
 clear g3 g9
 refine seqH fun K HK=>?_
 go_wp2_with fail
 have hbd:=(Below.refl w0.heap.size w0).drew
 have hb1:=hb0.trans (hbd.mono hqs)
 have B1:=tr_bl hbd B0
 have d0:w0.drew.cell? ⟨b,off,none⟩=some (.int .u8 t.rep):=c0
 have d1:w0.drew.cell? ⟨b,off+1,none⟩=some (.int .u8 t.reg):=c1
 have d2:w0.drew.cell? ⟨b,off+2,none⟩=some (.int .u8 t.pla):=c2
 have hq1:q≤w0.drew.heap.size:=hqs
 have hbl:b < w0.drew.heap.size:=Nat.lt_of_lt_of_le hlt hq1
 clear hbd B0 c0 c1 c2 hb0 hqs hlt
 refine wp_region_held_drew (S:=fun w'=>Below w0.drew.heap.size w0.drew w') (by kernel_rfl) (Below.refl _ _) (fun hS0=>?_)
 generalize w0.drew=w1 at *
 refine tkP 0 rfl ?_
 refine tkP 1 rfl ?_
 refine tkT 2 rfl (by intro wS hSw;have c:=(hSw.cell (p:=⟨b,off,none⟩) hbl).trans d0;go_simp;(try with_reducible rfl)) ?_
 refine tkT 3 (v:=.int .i64 t.rep) rfl (by intro wS hSw;go_simp;rw [HW0.out]) ?_
 refine tkP 4 rfl ?_
 refine tkP 5 rfl ?_
 refine tkT 6 rfl (by intro wS hSw;have c:=(hSw.cell (p:=⟨b,off+1,none⟩) hbl).trans d1;go_simp;(try with_reducible rfl)) ?_
 refine tkT 7 (v:=.int .i64 t.reg) rfl (by intro wS hSw;go_simp;rw [HW1.out]) ?_
 refine tkP 8 rfl ?_
 refine tkP 9 rfl ?_
 refine tkT 10 rfl (by intro wS hSw;have c:=(hSw.cell (p:=⟨b,off+2,none⟩) hbl).trans d2;go_simp;(try with_reducible rfl)) ?_
 refine tkT 11 (v:=.int .i64 t.pla) rfl (by intro wS hSw;go_simp;rw [HW2.out]) ?_
 refine tkP 12 rfl ?_
 refine tkP 13 rfl ?_
 refine tkT 14 (v:=tgV t) rfl (by intro wS hSw;go_simp) ?_
 refine rdy1 15 rfl (fun K' hK'=>?_)
 go_simp
 have A2:=heap_alloc_new w1 (Obj.cells #[.int .i64 0,.int .i64 0,.int .i64 0,.int .i64 0,.int .i64 0] 39)
 have hbA:=blw w1 (Obj.cells #[.int .i64 0,.int .i64 0,.int .i64 0,.int .i64 0,.int .i64 0] 39)
 change K' _ (World.alloc _ (Obj.cells #[.int .i64 0,.int .i64 0,.int .i64 0,.int .i64 0,.int .i64 0] 39))
 refine hK'.out _ _ hbA (fun _=>?_)
 have B2:=tr_al (Obj.cells #[.int .i64 0,.int .i64 0,.int .i64 0,.int .i64 0,.int .i64 0] 39) B1
 have hne:q≠w1.heap.size:=by have:=lt_blk B1;omega
 have hb2:=hb1.trans (hbA.mono hq1)
 have hq2:=Nat.le_trans hq1 hbA.size
 have hA2s:w1.heap.size≤(w1.alloc (Obj.cells #[.int .i64 0,.int .i64 0,.int .i64 0,.int .i64 0,.int .i64 0] 39)).heap.size:=hbA.size
 clear B1 hK' hb1 d0 d1 d2 hbl hS0
 (try simp only [Act.put,qa1,qa2,qa3])
 generalize w1.alloc (Obj.cells #[.int .i64 0,.int .i64 0,.int .i64 0,.int .i64 0,.int .i64 0] 39)=w2 at *
 generalize w1.heap.size=q2 at *
 refine rdy1 16 rfl (fun K' hK'=>?_)
 refine wp_stB 39 _ _ ?_
 refine ⟨_,_,_,⟨_,_,_,sizeOf39,rfl,A2,st5 _ rfl t.rep t.reg t.pla t.idx t.inc⟩,?_⟩
 intro w3 A3 g3
 have B3:=tr_st g3 B2 (fun e=>hne e.symm)
 have hb3:=bl_st hb2 g3 hq2 (by omega)
 have hq3:=Nat.le_trans hq2 g3.size
 refine hK'.out _ _ (bl_st hbA g3 hA2s (Nat.le_refl _)) (fun _=>?_)
 refine wpAnyH_done (by kernel_rfl) ?_ _
 refine HK.out _ _ ?_
 clear HK hK' A2 B2 hb2 hbA g3 hq2
 obtain ⟨r,hr⟩:∃ r,mayTg t=r:=⟨_,rfl⟩
 rw [hr] at hm
 rw [hr]
 clear hr
 have hm3:=hm w3
 clear hm
 cases r
 case false=>
  rw [if_neg (by simp)]
  go_wp2_with (first
   | ((with_reducible refine wpList_stB 39 _ _ ?_);refine ⟨_,_,_,⟨_,_,_,sizeOf39,rfl,C3,st5 _ rfl 0 0 0 0 0⟩,?_⟩;intro w5 B5 g5)
   | ((with_reducible refine wpList_ldB 39 _ ?_);refine ⟨rfl,_,⟨_,_,_,_,_,isAgg39,sizeOf39,rfl,‹_›,ld5 _ _ _ _ _⟩,?_⟩)
   | (go_at_call 189;refine hm3.mono ?_;rintro e w4 ⟨rfl,hb4⟩;have C3:=tr_bl hb4 B3;have hb5:=hb3.trans (hb4.mono hq3)))
  refine bodyPost_ret (results_c1t1 rfl rfl (run_loadVar_all isAgg39 sizeOf39 B5 rfl)) rfl ⟨rfl,bl_st hb5 g5 (Nat.le_trans hq3 hb4.size) (Nat.le_refl _)⟩
 case true=>
  rw [if_pos rfl]
  go_wp2_with (first
   | ((with_reducible refine wpList_stB 39 _ _ ?_);refine ⟨_,_,_,⟨_,_,_,sizeOf39,rfl,C3,st5 _ rfl t.rep t.reg t.pla t.idx t.inc⟩,?_⟩;intro w5 B5 g5)
   | ((with_reducible refine wpList_ldB 39 _ ?_);refine ⟨rfl,_,⟨_,_,_,_,_,isAgg39,sizeOf39,rfl,‹_›,ld5 _ _ _ _ _⟩,?_⟩)
   | (go_at_call 189;refine hm3.mono ?_;rintro e w4 ⟨rfl,hb4⟩;have C3:=tr_bl hb4 B3;have D3:=tr_bl hb4 A3;have hb5:=hb3.trans (hb4.mono hq3)))
  refine bodyPost_ret (results_c1t1 rfl rfl (run_loadVar_all isAgg39 sizeOf39 B5 rfl)) rfl ⟨rfl,bl_st hb5 g5 (Nat.le_trans hq3 hb4.size) (Nat.le_refl _)⟩
end
section
theorem cut_add (l:List UInt8) (p a c:Nat):(l.drop p).take (a+c)=(l.drop p).take a++(l.drop (p+a)).take c:=by
 rw [List.take_add,List.drop_drop]
theorem le_getN {b:List UInt8} {p k:Nat} (h:p+k≤b.length):le k (getN b p k)=(b.drop p).take k:=by
 have:=le_ofLe ((b.drop p).take k)
 rw [List.length_take,List.length_drop,Nat.min_eq_left (by omega)] at this
 exact this
theorem tagB_at {b:List UInt8} {k:Nat} (h:k+15≤b.length):tagB (tagAt b k)=(b.drop k).take 15:=by
 unfold tagB tagAt
 simp only [Int.toNat_natCast]
 rw [le_getN (by omega),le_getN (by omega),le_getN (by omega),le_getN (by omega),le_getN (by omega)]
 rw [show (15:Nat)=1+(1+(1+(6+6))) from rfl,cut_add b k 1,cut_add b (k+1) 1,cut_add b (k+1+1) 1,cut_add b (k+1+1+1) 6]
theorem noughts_eq:∀ {l:List UInt8},noughtsB l=true→l=List.replicate l.length 0
 | [],_=>rfl
 | x :: l,h=>by
  simp only [noughtsB,List.all_cons,Bool.and_eq_true] at h
  have h1:x=0:=by simpa using h.1
  rw [List.length_cons,List.replicate_succ,h1,← noughts_eq (l:=l) h.2]
theorem seal_of {b:List UInt8} (hr:0 < roomN b.length) (hn:getN b 0 2≤roomN b.length) (hc:getN b (b.length - 4) 4=crcS (b.take (b.length - 4))) (hp:noughtsB ((b.drop (17+getN b 0 2)).take (b.length - 21 - getN b 0 2))=true) :
  sealF (tagAt b 2) ((b.drop 17).take (getN b 0 2)) b.length=b:=by
 obtain ⟨_,h21⟩:=roomN_of hr
 generalize hn2:getN b 0 2=n at *
 have hbl:((b.drop 17).take n).length=n:=by rw [List.length_take,List.length_drop];omega
 have hpad:=noughts_eq hp
 rw [List.length_take,List.length_drop,Nat.min_eq_left (by omega)] at hpad
 have hh:headF (tagAt b 2) ((b.drop 17).take n) b.length=b.take (b.length - 4):=by
  unfold headF
  rw [hbl,← hpad,tagB_at (by omega),← hn2,le_getN (by omega),hn2]
  have e:b.length - 4=2+(15+(n+(b.length - 21 - n))):=by omega
  rw [e,← List.drop_zero (l:=b),cut_add,cut_add,cut_add]
  simp only [List.drop_zero,Nat.zero_add]
 unfold sealF
 rw [hh,← hc,le_getN (by omega)]
 have e4:(b.drop (b.length - 4)).take 4=b.drop (b.length - 4):=List.take_of_length_le (by rw [List.length_drop];omega)
 rw [e4,List.take_append_drop]
theorem open_ref {b:List UInt8} (hr:0 < roomN b.length) (h0:noughtsB b=false) :
  openF b=if mayTg (tagAt b 2)=true∧getN b 0 2≤roomN b.length∧sealF (tagAt b 2) ((b.drop 17).take (getN b 0 2)) b.length=b then (1,tagAt b 2,(b.drop 17).take (getN b 0 2)) else (2,zeroTg,[]):=by
 split
 ·rename_i h
  obtain ⟨h1,h2,h3⟩:=h
  obtain ⟨_,h21⟩:=roomN_of hr
  have hbl:((b.drop 17).take (getN b 0 2)).length≤roomN b.length:=by rw [List.length_take];omega
  have:=open_seal h1 hr hbl
  rw [h3] at this
  exact this
 ·rename_i h
  unfold openF
  rw [if_neg (by omega),h0]
  simp only [Bool.false_eq_true,if_false]
  rw [if_neg]
  rintro ⟨h1,h2,h3,h4⟩
  exact h ⟨h1,h2,seal_of hr h2 h3 h4⟩
end
section
def OpenRes (base g:Nat) (d:Dk) (rep reg:Int) (e:Ending) (w':World):Prop:=
 if openC d rep reg=0 then ∃ q a0 k0 a1 k1,e=.returned (.tuple #[.pointer (some ⟨q,0,none⟩),.int .i64 0])∧base≤q ∧
  w'.heap[q]?=some (.cells (ceA g rep reg (copyC d rep reg 0).st (copyC d rep reg 0).tg (.slice a0 (copyC d rep reg 0).body.length k0) (copyC d rep reg 1).st (copyC d rep reg 1).tg (.slice a1 (copyC d rep reg 1).body.length k1)) 181 (0,0)) ∧
  OwnB w' base a0 k0 (copyC d rep reg 0).body∧OwnB w' base a1 k1 (copyC d rep reg 1).body
 else e=.returned (.tuple #[.pointer none,.int .i64 (openC d rep reg)])
theorem OpenRes.err {base g:Nat} {d:Dk} {rep reg x:Int} {w':World} (h:openC d rep reg=x) (hx:x≠0):OpenRes base g d rep reg (.returned (.tuple #[.pointer none,.int .i64 x])) w':=by
 unfold OpenRes
 rw [h,if_neg hx]
def CpIn (w':World) (base q g:Nat) (rep reg:Int) (c0 c1:Cp):Nat→Prop
 | 0=>w'.heap[q]?=some (.cells (ceZ g rep reg) 181 (0,0))
 | 1=>∃ a0 k0,w'.heap[q]?=some (.cells (ceA g rep reg c0.st c0.tg (.slice a0 c0.body.length k0) 0 zeroTg (.slice none 0 0)) 181 (0,0))∧OwnB w' base a0 k0 c0.body
 | _=>∃ a0 k0 a1 k1,w'.heap[q]?=some (.cells (ceA g rep reg c0.st c0.tg (.slice a0 c0.body.length k0) c1.st c1.tg (.slice a1 c1.body.length k1)) 181 (0,0))∧OwnB w' base a0 k0 c0.body∧OwnB w' base a1 k1 c1.body
section
variable {B g gp:Nat} {wv:Value} {d:Dk} {w:World}
end
end
section
section
variable {B g gp:Nat} {wv:Value} {d:Dk} {w:World}
end
end
section
section
variable {B g gp:Nat} {wv:Value} {d:Dk} {w:World}
def LoadRes (base:Nat) (r:Int×List UInt8×Int) (e:Ending) (w':World):Prop:=∃ a c,e=.returned (.tuple #[.int .i64 r.1,.slice a r.2.1.length c,.int .i64 r.2.2])∧OwnB w' base a c r.2.1
end
end
end Go.Proofs.YtbdonjenekhmdaaGreatDoor
