/- Texts that the claim leans on, part 17: C13, RowSt, C1, C2, C3, C4, C5, G1. -/
import Derived.Test.YtbdonjenekhmdaaGreatDoorZ1
import Derived.Test.YtbdonjenekhmdaaGreatDoorZ2
import Derived.Test.YtbdonjenekhmdaaGreatDoorZ3
import Derived.Test.YtbdonjenekhmdaaGreatDoorZ4
import Derived.Test.YtbdonjenekhmdaaGreatDoorZ5
import Derived.Test.YtbdonjenekhmdaaGreatDoorZ6
import Derived.Test.YtbdonjenekhmdaaGreatDoorZ7
import Derived.Test.YtbdonjenekhmdaaGreatDoorZ8
import Derived.Test.YtbdonjenekhmdaaGreatDoorZ9
import Derived.Test.YtbdonjenekhmdaaGreatDoorZ10
import Derived.Test.YtbdonjenekhmdaaGreatDoorZ11
import Derived.Test.YtbdonjenekhmdaaGreatDoorZ12
import Derived.Test.YtbdonjenekhmdaaGreatDoorZ13
import Derived.Test.YtbdonjenekhmdaaGreatDoorZ14
import Derived.Test.YtbdonjenekhmdaaGreatDoorZ15
import Derived.Test.YtbdonjenekhmdaaGreatDoorZ16
namespace Go.Proofs.YtbdonjenekhmdaaGreatDoor
open Go.RowKit Go.Proofs.Tryz
set_option maxRecDepth 100000
set_option maxHeartbeats 32000000
section
theorem rwide_any (n:Int) (w:World):Calls Tryz.prog 165 #[.int .i64 n] w fun e w'=>e=.returned (.int .i64 (wideN n))∧w=w':=by
 by_cases h1:n=1
 ·subst h1
  go_enter func165,ntmps165
  go_wp2
  go_ret
  exact ⟨rfl,rfl⟩
 by_cases h2:n=2
 ·subst h2
  go_enter func165,ntmps165
  go_wp2
  go_ret
  exact ⟨rfl,rfl⟩
 by_cases h3:n=3
 ·subst h3
  go_enter func165,ntmps165
  go_wp2
  go_ret
  exact ⟨rfl,rfl⟩
 by_cases h4:n=4
 ·subst h4
  go_enter func165,ntmps165
  go_wp2
  go_ret
  exact ⟨rfl,rfl⟩
 by_cases h5:n=5
 ·subst h5
  go_enter func165,ntmps165
  go_wp2
  go_ret
  exact ⟨rfl,rfl⟩
 have e:wideN n=0:=by unfold wideN;rw [if_neg h1,if_neg h2,if_neg h3,if_neg h4,if_neg h5]
 rw [e]
 have i1:(n==1)=false:=by rw [beq_eq_false_iff_ne];exact h1
 have i2:(n==2)=false:=by rw [beq_eq_false_iff_ne];exact h2
 have i3:(n==3)=false:=by rw [beq_eq_false_iff_ne];exact h3
 have i4:(n==4)=false:=by rw [beq_eq_false_iff_ne];exact h4
 have i5:(n==5)=false:=by rw [beq_eq_false_iff_ne];exact h5
 clear h1 h2 h3 h4 h5 e
 go_enter func165,ntmps165
 go_wp2
 go_ret
 exact ⟨rfl,rfl⟩
def PastF (region place:Int) (r:Nat):Prop:=∀ r':Nat,1≤r'→r' < r→¬ (region=r'∧0≤place∧place < placesN r')
theorem past_end {region place:Int} (h:PastF region place 6):firstN region place = -1:=by
 unfold firstN
 rw [if_pos]
 by_cases h1:1≤region∧region≤5
 ·have:=h region.toNat (by omega) (by omega)
  rw [show ((region.toNat:Nat):Int)=region by omega] at this
  by_cases h2:place < 0
  ·exact .inr (.inl h2)
  ·refine .inr (.inr ?_)
   apply Decidable.byContradiction
   intro h3
   exact this ⟨rfl,by omega,by omega⟩
 ·left
  unfold placesN
  rw [if_neg (by omega),if_neg (by omega),if_neg (by omega),if_neg (by omega),if_neg (by omega)]
structure RegN (r P W S S':Int):Prop where
 p:placesN r=P
 w:wideN r=W
 s:startN r=S
 n:startN (r+1)=S'
 e:S'=S+P * W
 p0:0≤P∧P≤48
 w0:1≤W∧W≤2
 s0:0≤S∧S≤156
theorem reg_n {r:Nat} (h1:1≤r) (h5:r≤5):∃ P W S S':Int,RegN r P W S S':=by
 have h:r=1∨r=2∨r=3∨r=4∨r=5:=by omega
 rcases h with rfl | rfl | rfl | rfl | rfl
 ·exact ⟨2,1,0,2,rfl,rfl,rfl,rfl,rfl,by omega,by omega,by omega⟩
 ·exact ⟨2,1,2,4,rfl,rfl,rfl,rfl,rfl,by omega,by omega,by omega⟩
 ·exact ⟨24,1,4,28,rfl,rfl,rfl,rfl,rfl,by omega,by omega,by omega⟩
 ·exact ⟨48,2,28,124,rfl,rfl,rfl,rfl,rfl,by omega,by omega,by omega⟩
 ·exact ⟨16,2,124,156,rfl,rfl,rfl,rfl,rfl,by omega,by omega,by omega⟩
theorem rfirst3_any (region place:Int) (w:World):Calls Tryz.prog 119 #[.int .i64 region,.int .i64 place] w fun e w'=>e=.returned (.int .i64 (firstN region place))∧w=w':=by
 go_enter func119,ntmps119
 refine seqH fun K HK=>?_
 go_wp2
 refine HK.out _ _ ?_
 clear HK
 refine seqH fun K HK=>?_
 go_wp2
 refine HK.out _ _ ?_
 clear HK
 refine wp_seq_k (fun K hK=>?_)
 go_cut [] (fun wx=>Hid (PastF region place 6)∧w=wx)
 case first=>
  go_wp2
  go_loopw [5,6] (fun a t wr=>∃ r:Nat,1≤r∧r≤6∧t=.int .i64 (r:Int)∧a=.int .i64 (startN r)∧Hid (PastF region place r)∧w=wr) (fun _ t _=>6 - (intOf t).toNat)
  case atStart=>exact ⟨1,by omega,by omega,rfl,rfl,Lib.hid (fun r' h1 h2=>by omega),rfl⟩
  case round=>
   obtain ⟨r,h1,h6,rfl,rfl,HP,rfl⟩:=hrel
   by_cases h5:r≤5
   case neg=>
    have e:r=6:=by omega
    subst e
    go_wp2
    go_meet
    exact ⟨HP,rfl⟩
   case pos=>
    obtain ⟨P,W,S,S',hR⟩:=reg_n h1 h5
    have HR:=Lib.hid hR
    have hp0:=hR.p0
    have hw0:=hR.w0
    have hs0:=hR.s0
    have hpl:=rplaces_any (r:Int) w
    have hwi:=rwide_any (r:Int) w
    rw [hR.p] at hpl
    rw [hR.w] at hwi
    rw [hR.s]
    clear hR
    refine seqH fun K HK=>?_
    go_wp2
    refine HK.out _ _ ?_
    clear HK
    rw [decide_eq_true (show (r:Int)≤5 by omega)]
    refine seqH fun K HK1=>?_
    refine wp_block ?_
    refine seqH fun K HK=>?_
    go_wp2
    refine HK.out _ _ ?_
    clear HK
    go_wp2_with fail
    go_loopw [5,7] (fun a t wr=>∃ p:Nat,(p:Int)≤P∧t=.int .i64 (p:Int)∧a=.int .i64 (S+(p:Int) * W)∧Hid (region=r→¬ (0≤place∧place < p))∧w=wr) (fun _ t _=>P.toNat - (intOf t).toNat)
    case atStart=>exact ⟨0,by omega,rfl,by simp,Lib.hid (fun _=>by omega),rfl⟩
    case round=>
     obtain ⟨p,hp,rfl,rfl,HQ,rfl⟩:=hrel
     by_cases hlt:(p:Int) < P
     case neg=>
      have e:(p:Int)=P:=by omega
      have HN:Hid (PastF region place (r+1)):=Lib.hid (fun r' h1 h2=>by
       by_cases e2:r'=r
       ·subst e2
        rintro ⟨h3,h4,h5⟩
        rw [HR.out.p] at h5
        exact HQ.out h3 ⟨h4,by omega⟩
       ·exact HP.out r' h1 (by omega))
      have HS:Hid (startN ((r:Int)+1)=S+(p:Int) * W):=Lib.hid (by rw [HR.out.n,HR.out.e,e])
      clear e HP HQ
      go_wp2_with (go_at_call 183;refine hpl.mono ?_;rintro e w3 ⟨rfl,rfl⟩)
      (try simp only [Exit.inBlock,Exit.then])
      refine HK1.out _ _ ?_
      go_wp2
      go_roundw
      case rel=>exact ⟨r+1,by omega,by omega,by go_num,by rw [← HS.out];rfl,HN,trivial⟩
      case measure=>simp [intOf];omega
     case pos=>
      have hPB:(p:Int) * W≤96:=by
       have h1:(p:Int)≤48:=by omega
       have h2:W≤2:=hw0.2
       have:=Int.mul_le_mul h1 h2 (by omega) (by omega)
       omega
      have hP0:0≤(p:Int) * W:=Int.mul_nonneg (by omega) (by omega)
      by_cases hm:region=r∧place=p
      case pos=>
       obtain ⟨h3,h4⟩:=hm
       have HV:Hid (firstN region place=S+(p:Int) * W):=Lib.hid (by
        unfold firstN
        rw [h3,HR.out.p,if_neg (by omega),HR.out.s,HR.out.w,h4])
       have b1:((r:Int)==region)=true:=by rw [h3];simp
       have b2:((p:Int)==place)=true:=by rw [h4];simp
       clear h3 h4
       generalize (p:Int) * W=pw at *
       go_wp2_with (go_at_call 183;refine hpl.mono ?_;rintro e w3 ⟨rfl,rfl⟩)
       go_ret
       exact ⟨by rw [HV.out];rfl,rfl⟩
      case neg=>
       have HQ2:Hid (region=r→¬ (0≤place∧place < ((p+1:Nat):Int))):=Lib.hid (fun h3 ⟨h4,h5⟩=>by
        by_cases h6:place=p
        ·exact hm ⟨h3,h6⟩
        ·exact HQ.out h3 ⟨h4,by omega⟩)
       have HM:Hid (((p+1:Nat):Int) * W=(p:Int) * W+W):=Lib.hid (by rw [Int.natCast_add,Int.add_mul];simp)
       generalize (p:Int) * W=pw at *
       by_cases h3:region=r
       ·have h4:place≠p:=fun e=>hm ⟨h3,e⟩
        have b1:((r:Int)==region)=true:=by rw [h3];simp
        have b2:((p:Int)==place)=false:=by rw [beq_eq_false_iff_ne];exact fun e=>h4 e.symm
        clear h3 h4 hm HQ
        go_wp2_with (first
         | (go_at_call 183;refine hpl.mono ?_;rintro e w3 ⟨rfl,rfl⟩)
         | (go_at_call 165;refine hwi.mono ?_;rintro e w4 ⟨rfl,rfl⟩))
        go_roundw
        case rel=>exact ⟨p+1,by omega,by go_num,by rw [HM.out];go_num,HQ2,trivial⟩
        case measure=>simp [intOf];omega
       ·have b1:((r:Int)==region)=false:=by rw [beq_eq_false_iff_ne];exact fun e=>h3 e.symm
        clear h3 hm HQ
        go_wp2_with (first
         | (go_at_call 183;refine hpl.mono ?_;rintro e w3 ⟨rfl,rfl⟩)
         | (go_at_call 165;refine hwi.mono ?_;rintro e w4 ⟨rfl,rfl⟩))
        go_roundw
        case rel=>exact ⟨p+1,by omega,by go_num,by rw [HM.out];go_num,HQ2,trivial⟩
        case measure=>simp [intOf];omega
 obtain ⟨HP,rfl⟩:=hcut
 refine hK _ _ ?_
 clear hK
 go_wp2
 go_ret
 exact ⟨by rw [past_end HP.out];rfl,rfl⟩
end
section
section
variable {w w':World} {base n size g cap:Nat} {e:TypeId} {xs:List Value} {cs cs':Array Value}
theorem own_block (h:w.ownsRow base e size (.slice (some ⟨g,0,none⟩) n cap) n xs):∃ cs,w.heap[g]?=some (.cells cs e (0,0))∧cs.toList.take (n * size)=xs∧base≤g∧n * size≤cs.size:=by
 obtain ⟨_,h | ⟨g',cap',cur,hv,hb,hc,h1,h2,h3,h4⟩⟩:=h
 ·cases h.1
 ·injection hv with hv1 _ hv3
  injection hv1 with hv1
  injection hv1 with hv1
  subst hv1 hv3
  exact ⟨cur,hc,h4,hb,by rw [h3];exact Nat.mul_le_mul_right _ h1⟩
theorem own_splice (h:w.ownsRow base e size (.slice (some ⟨g,0,none⟩) n cap) n xs) (hc:w.heap[g]?=some (.cells cs e (0,0))) (hc':w'.heap[g]?=some (.cells cs' e (0,0))) {o:Nat} {vs:List Value} (ho:o+vs.length≤n * size)
  (hs:(cs.toList.take o++vs++cs.toList.drop (o+vs.length)).toArray=cs'):w'.ownsRow base e size (.slice (some ⟨g,0,none⟩) n cap) n (xs.take o++vs++xs.drop (o+vs.length)):=by
 obtain ⟨hl,h | ⟨g',cap',cur,hv,hb,hcu,h1,h2,h3,h4⟩⟩:=h
 ·cases h.1
 ·injection hv with hv1 _ hv3
  injection hv1 with hv1
  injection hv1 with hv1
  subst hv1 hv3
  rw [hc] at hcu
  injection hcu with hcu
  injection hcu with hcu
  subst hcu
  have hsz:n * size≤cs.toList.length:=by rw [Array.length_toList,h3];exact Nat.mul_le_mul_right _ h1
  refine ⟨?_,.inr ⟨g,cap,cs',rfl,hb,hc',h1,h2,?_,?_⟩⟩
  ·simp only [List.length_append,List.length_take,List.length_drop]
   omega
  ·rw [← hs,List.size_toArray,← h3]
   simp only [List.length_append,List.length_take,List.length_drop,Array.length_toList]
   rw [Array.length_toList] at hsz
   omega
  ·rw [← hs,← h4,List.toList_toArray]
   rw [List.take_append,List.take_append]
   simp only [List.length_append,List.length_take]
   rw [Nat.min_eq_left (show o≤cs.toList.length by omega),List.take_take,Nat.min_eq_right (show o≤n * size by omega),List.take_of_length_le (l:=vs) (by omega),List.take_take,Nat.min_eq_left (show o≤n * size by omega),List.drop_take,
    show n * size - (o+vs.length)=n * size - (o+vs.length) from rfl]
end
end
section
structure Kx (X:TypeId→Bool) (B:Nat) (w w':World):Prop where
 bl:Below B w w'
 ty:∀ (j:Nat) (cs:Array Value) (T:TypeId),w.heap[j]?=some (.cells cs T (0,0))→X T=false→w'.heap[j]?=some (.cells cs T (0,0))
def rT (T:TypeId):Bool:=T==57 || (T==37 || (T==4 || T==202))
def fT (T:TypeId):Bool:=rT T || T==5
section
variable {X Y:TypeId→Bool} {B:Nat} {w w' w'':World}
theorem Kx.refl (X:TypeId→Bool) (B:Nat) (w:World):Kx X B w w:=⟨Below.refl _ _,fun _ _ _ h _=>h⟩
theorem Kx.trans (h:Kx X B w w') (h2:Kx X B w' w''):Kx X B w w'':=⟨h.bl.trans h2.bl,fun j cs T a b=>h2.ty j cs T (h.ty j cs T a b) b⟩
theorem Kx.of (hb:Below w.heap.size w w') (h:B≤w.heap.size):Kx X B w w':=⟨hb.mono h,fun _ _ _ a _=>tr_bl hb a⟩
theorem Kx.wide (h:Kx X B w w') (hX:∀ T,Y T=false→X T=false):Kx Y B w w':=⟨h.bl,fun j cs T a b=>h.ty j cs T a (hX T b)⟩
theorem Kx.st {g:Nat} {cs:Array Value} {T:TypeId} (hg:w.grownBy w' (some g)) (hc:w.heap[g]?=some (.cells cs T (0,0))) (hT:X T=true) (hB:B≤g):Kx X B w w':=by
 refine ⟨(Below.refl B w).grown hg (by have:=lt_blk hc;omega) (fun k e=>by cases e;exact hB),fun j cs' T' h h1=>tr_st hg h ?_⟩
 rintro rfl
 rw [hc] at h
 injection h with h
 injection h with _ e
 subst e
 rw [hT] at h1
 cases h1
theorem Kx.f (h:Kx rT B w w'):Kx fT B w w':=h.wide fun T hT=>by
 unfold fT at hT
 rw [Bool.or_eq_false_iff] at hT
 exact hT.1
theorem owns_keep {base n size:Nat} {e:TypeId} {v:Value} {xs:List Value} (h:w.ownsRow base e size v n xs) (hk:∀ (j:Nat) (cs:Array Value),w.heap[j]?=some (.cells cs e (0,0))→w'.heap[j]?=some (.cells cs e (0,0))):w'.ownsRow base e size v n xs:=by
 obtain ⟨hl,h | ⟨k,cap,cur,hv,hkk,hc,r⟩⟩:=h
 ·exact ⟨hl,.inl h⟩
 ·exact ⟨hl,.inr ⟨k,cap,cur,hv,hkk,hk _ _ hc,r⟩⟩
theorem owns_kx {base n size:Nat} {e:TypeId} {v:Value} {xs:List Value} (h:w.ownsRow base e size v n xs) (hk:Kx X B w w') (he:X e=false):w'.ownsRow base e size v n xs:=owns_keep h fun j cs hj=>hk.ty j cs e hj he
theorem DiskB.kx {g gp:Nat} {wv:Value} {d:Dk} {B2:Nat} (h:DiskB B g gp wv d w) (hk:Kx fT B2 w w'):DiskB B g gp wv d w':=
 ⟨hk.ty _ _ _ h.box (by decide),hk.ty _ _ _ h.pls (by decide),owns_kx h.wts hk (by decide),h.gb,h.pb,h.n0,h.nl,h.lo,h.hi,h.ok,h.wk⟩
end
/-! A store of one cell into a row that one owns. -/
theorem wp_stOwn {P:Program} {a:Act} {w:World} {K:Act→World→Prop} {Q:Exit→Act→World→Prop} {ty':TypeId} {pos:String} {af:Array Edge} {gd:Option (Nat×Bool)} (ty:TypeId) (x y:Operand) (v:Value) {B g i n c:Nat} {e:TypeId} {xs:List Value}
  (hs:∀ w,(sizeOf ty).run P w=.ok 1 w) (hx:a.eval x=.pointer (some ⟨g,i,none⟩)) (hv:a.eval y=v) (hc:v.cells=#[v]) (h1:v.oneCell'=true) (hown:w.ownsRow B e 1 (.slice (some ⟨g,0,none⟩) n c) n xs) (hi:i < n)
  (h:∀ w',w'.ownsRow B e 1 (.slice (some ⟨g,0,none⟩) n c) n (xs.set i v)→w.grownBy w' (some g)→K a w'):(Oper.mk none (.store ty x y) ty' pos af gd).wp P a w K Q:=by
 obtain ⟨cs,hcs,htk,hBg,hsz⟩:=own_block hown
 have hl:=hown.1
 refine wp_stB ty x y ⟨g,e,(cs.toList.take i++[v]++cs.toList.drop (i+1)).toArray,⟨i,1,cs,hs,hx,hcs,by omega,by rw [hv,hc];rfl,by rw [hv,hc];simpa using h1,by rw [hv,hc]⟩,fun w' hw' hg=>h w' ?_ hg⟩
 have:=own_splice (vs:=[v]) hown hcs hw' (o:=i) (by simp;omega) rfl
 have e2:xs.take i++[v]++xs.drop (i+[v].length)=xs.set i v:=by
  rw [List.set_eq_take_append_cons_drop,if_pos (by omega)]
  simp
 rw [e2] at this
 exact this
structure RQ where
 rb:Nat
 rc:Nat
 mb:Nat
 mc:Nat
 lb:Nat
 lc:Nat
 wv:Value
 ra:List (Nat×Nat)
 ma:List (Nat×Nat)
 wa:List (Nat×Nat)
def slv (x:Nat×Nat):Value:=.slice (some ⟨x.1,0,none⟩) 64 x.2
def rwC (z:(List UInt8×Nat)×(Nat×Nat)):List Value:=[.int .i64 (z.1.2:Int),slv z.2]
theorem rwC_len (z:(List UInt8×Nat)×(Nat×Nat)):(rwC z).length=2:=rfl
def rkA (q:RQ) (d:Dk):Array Value:=#[.slice (some ⟨q.rb,0,none⟩) d.pl.length q.rc,.slice (some ⟨q.mb,0,none⟩) d.pl.length q.mc,.slice (some ⟨q.lb,0,none⟩) d.pl.length q.lc,q.wv,.bool d.down,.bool d.dead,.int .i64 d.left]
def SecB (B:Nat) (w:World) (x:Nat×Nat) (l:List UInt8):Prop:=w.ownsRow B 5 1 (slv x) 64 (bys l)
structure SepQ (q:RQ):Prop where
 inj:∀ (i j:Nat) (x y:Nat×Nat),q.ra[i]?=some x→q.ra[j]?=some y→x.1=y.1→i=j
 ne:∀ x ∈ q.ra,∀ y ∈ q.ma++q.wa,x.1≠y.1
structure RefB (B g:Nat) (q:RQ) (d:Dk) (w:World):Prop where
 box:w.heap[g]?=some (.cells (rkA q d) 57 (0,0))
 rest:w.ownsRow B 37 1 (.slice (some ⟨q.rb,0,none⟩) d.pl.length q.rc) d.pl.length (q.ra.map slv)
 meant:w.ownsRow B 37 1 (.slice (some ⟨q.mb,0,none⟩) d.pl.length q.mc) d.pl.length (q.ma.map slv)
 lost:w.ownsRow B 4 1 (.slice (some ⟨q.lb,0,none⟩) d.pl.length q.lc) d.pl.length (d.pl.map fun p=>.bool p.lost)
 wts:w.ownsRow B 202 2 q.wv d.waits.length ((d.waits.zip q.wa).flatMap rwC)
 rs:∀ (s:Nat) (x:Nat×Nat) (p:Pl),q.ra[s]?=some x→d.pl[s]?=some p→SecB B w x p.rest
 ms:∀ (s:Nat) (x:Nat×Nat) (p:Pl),q.ma[s]?=some x→d.pl[s]?=some p→SecB B w x p.meant
 ws:∀ (i:Nat) (x:Nat×Nat) (y:List UInt8×Nat),q.wa[i]?=some x→d.waits[i]?=some y→SecB B w x y.1
 la:q.ra.length=d.pl.length
 lm:q.ma.length=d.pl.length
 lw:q.wa.length=d.waits.length
 sep:SepQ q
 rm:q.rb≠q.mb
 gb:B≤g
 n0:0 < d.pl.length
 nl:d.pl.length≤1024
 lo:-1≤d.left
 hi:d.left≤9223372036854775807
 ok:∀ p ∈ d.pl,p.rest.length=64∧p.meant.length=64
 wk:∀ x ∈ d.waits,x.1.length=64∧x.2 < d.pl.length
section
variable {B g:Nat} {q:RQ} {d d':Dk} {w w':World}
theorem RefB.keep (h:RefB B g q d w) (hk:∀ (j:Nat) (cs:Array Value) (T:TypeId),fT T=true→w.heap[j]?=some (.cells cs T (0,0))→w'.heap[j]?=some (.cells cs T (0,0))):RefB B g q d w':=
 { h with
  box:=hk _ _ _ (by decide) h.box
  rest:=owns_keep h.rest fun j cs=>hk j cs _ (by decide)
  meant:=owns_keep h.meant fun j cs=>hk j cs _ (by decide)
  lost:=owns_keep h.lost fun j cs=>hk j cs _ (by decide)
  wts:=owns_keep h.wts fun j cs=>hk j cs _ (by decide)
  rs:=fun s x p a b=>owns_keep (h.rs s x p a b) fun j cs=>hk j cs _ (by decide)
  ms:=fun s x p a b=>owns_keep (h.ms s x p a b) fun j cs=>hk j cs _ (by decide)
  ws:=fun s x p a b=>owns_keep (h.ws s x p a b) fun j cs=>hk j cs _ (by decide) }
theorem RefB.below (h:RefB B g q d w) (hb:Below w.heap.size w w'):RefB B g q d w':=h.keep fun _ _ _ _ a=>tr_bl hb a
theorem RefB.kt {B2:Nat} (h:RefB B g q d w) (hk:Kt B2 w w'):RefB B g q d w':=h.keep fun j cs T hT a=>hk.ty j cs T a (fun e=>by subst e;revert hT;decide) (fun e=>by subst e;revert hT;decide) (fun e=>by subst e;revert hT;decide)
theorem RefB.mono {B':Nat} (h:RefB B g q d w) (hB:B'≤B):RefB B' g q d w:=
 { h with
  rest:=owns_mono h.rest hB
  meant:=owns_mono h.meant hB
  lost:=owns_mono h.lost hB
  wts:=owns_mono h.wts hB
  rs:=fun s x p a b=>owns_mono (h.rs s x p a b) hB
  ms:=fun s x p a b=>owns_mono (h.ms s x p a b) hB
  ws:=fun s x p a b=>owns_mono (h.ws s x p a b) hB
  gb:=Nat.le_trans hB h.gb }
theorem RefB.c0 (h:RefB B g q d w):w.cell? ⟨g,0,none⟩=some (.slice (some ⟨q.rb,0,none⟩) d.pl.length q.rc):=blk_cell h.box 0 _ rfl
theorem RefB.c1 (h:RefB B g q d w):w.cell? ⟨g,1,none⟩=some (.slice (some ⟨q.mb,0,none⟩) d.pl.length q.mc):=blk_cell h.box 1 _ rfl
theorem RefB.c2 (h:RefB B g q d w):w.cell? ⟨g,2,none⟩=some (.slice (some ⟨q.lb,0,none⟩) d.pl.length q.lc):=blk_cell h.box 2 _ rfl
theorem RefB.c3 (h:RefB B g q d w):w.cell? ⟨g,3,none⟩=some q.wv:=blk_cell h.box 3 _ rfl
theorem RefB.c4 (h:RefB B g q d w):w.cell? ⟨g,4,none⟩=some (.bool d.down):=blk_cell h.box 4 _ rfl
theorem RefB.c5 (h:RefB B g q d w):w.cell? ⟨g,5,none⟩=some (.bool d.dead):=blk_cell h.box 5 _ rfl
theorem RefB.c6 (h:RefB B g q d w):w.cell? ⟨g,6,none⟩=some (.int .i64 d.left):=blk_cell h.box 6 _ rfl
theorem secB_lt {x:Nat×Nat} {l:List UInt8} (h:SecB B w x l):x.1 < w.heap.size:=by
 obtain ⟨cs,hc,_⟩:=own_block h
 exact lt_blk hc
theorem RefB.fresh (h:RefB B g q d w):∀ y ∈ q.ra++(q.ma++q.wa),y.1 < w.heap.size:=by
 intro y hy
 rw [List.mem_append,List.mem_append] at hy
 rcases hy with hy | hy | hy
 ·obtain ⟨i,hi⟩:=List.getElem?_of_mem hy
  have hlt:=(List.getElem?_eq_some_iff.1 hi).1
  rw [h.la] at hlt
  exact secB_lt (h.rs i y _ hi (List.getElem?_eq_getElem hlt))
 ·obtain ⟨i,hi⟩:=List.getElem?_of_mem hy
  have hlt:=(List.getElem?_eq_some_iff.1 hi).1
  rw [h.lm] at hlt
  exact secB_lt (h.ms i y _ hi (List.getElem?_eq_getElem hlt))
 ·obtain ⟨i,hi⟩:=List.getElem?_of_mem hy
  have hlt:=(List.getElem?_eq_some_iff.1 hi).1
  rw [h.lw] at hlt
  exact secB_lt (h.ws i y _ hi (List.getElem?_eq_getElem hlt))
theorem RefB.blk_r (h:RefB B g q d w):∃ cs,w.heap[q.rb]?=some (.cells cs 37 (0,0))∧B≤q.rb:=by
 obtain ⟨cs,hc,_,hb,_⟩:=own_block h.rest
 exact ⟨cs,hc,hb⟩
theorem RefB.blk_m (h:RefB B g q d w):∃ cs,w.heap[q.mb]?=some (.cells cs 37 (0,0))∧B≤q.mb:=by
 obtain ⟨cs,hc,_,hb,_⟩:=own_block h.meant
 exact ⟨cs,hc,hb⟩
theorem RefB.blk_l (h:RefB B g q d w):∃ cs,w.heap[q.lb]?=some (.cells cs 4 (0,0))∧B≤q.lb:=by
 obtain ⟨cs,hc,_,hb,_⟩:=own_block h.lost
 exact ⟨cs,hc,hb⟩
structure SameSz (d d':Dk):Prop where
 n:d'.pl.length=d.pl.length
 down:d'.down=d.down
 dead:d'.dead=d.dead
 left:d'.left=d.left
 waits:d'.waits=d.waits
end
end
section
theorem rk_down (q:RQ) (d:Dk) (x:Bool):4+1≤(rkA q d).size∧(Value.bool x).cells.size=1∧(∀ u ∈ (Value.bool x).cells.toList,u.oneCell'=true)∧((rkA q d).toList.take 4++(Value.bool x).cells.toList++(rkA q d).toList.drop (4+1)).toArray=rkA q { d with down:=x }:=
 ⟨by show _≤7;omega,rfl,by simp [Value.cells,Value.oneCell'],rfl⟩
theorem rk_dead (q:RQ) (d:Dk) (x:Bool):5+1≤(rkA q d).size∧(Value.bool x).cells.size=1∧(∀ u ∈ (Value.bool x).cells.toList,u.oneCell'=true)∧((rkA q d).toList.take 5++(Value.bool x).cells.toList++(rkA q d).toList.drop (5+1)).toArray=rkA q { d with dead:=x }:=
 ⟨by show _≤7;omega,rfl,by simp [Value.cells,Value.oneCell'],rfl⟩
theorem rk_left (q:RQ) (d:Dk) (x:Int):6+1≤(rkA q d).size∧(Value.int .i64 x).cells.size=1∧(∀ u ∈ (Value.int .i64 x).cells.toList,u.oneCell'=true)∧((rkA q d).toList.take 6++(Value.int .i64 x).cells.toList++(rkA q d).toList.drop (6+1)).toArray=rkA q { d with left:=x }:=
 ⟨by show _≤7;omega,rfl,by simp [Value.cells,Value.oneCell'],rfl⟩
theorem rk_waits (q:RQ) (d:Dk) (a:Option Addr) (n c:Nat) (wa:List (Nat×Nat)) (ws:List (List UInt8×Nat)):3+1≤(rkA q d).size∧(Value.slice a n c).cells.size=1∧(∀ u ∈ (Value.slice a n c).cells.toList,u.oneCell'=true)∧((rkA q d).toList.take 3++(Value.slice a n c).cells.toList++(rkA q d).toList.drop (3+1)).toArray=rkA { q with wv:=.slice a n c,wa:=wa } { d with waits:=ws }:=
 ⟨by show _≤7;omega,rfl,by simp [Value.cells,Value.oneCell'],rfl⟩
section
variable {B g:Nat} {q:RQ} {d d':Dk} {w w':World}
theorem RefB.boxed (h:RefB B g q d w) (hg:w.grownBy w' (some g)) (j:Nat) (cs:Array Value) (T:TypeId) (hT:T≠57) (hj:w.heap[j]?=some (.cells cs T (0,0))):w'.heap[j]?=some (.cells cs T (0,0)):=
 tr_st hg hj (fun e=>by
  subst e
  have:=h.box.symm.trans hj
  injection this with this
  injection this with _ e
  exact hT e.symm)
theorem RefB.turn (h:RefB B g q d w) (hB:w'.heap[g]?=some (.cells (rkA q d') 57 (0,0))) (hg:w.grownBy w' (some g)) (h1:d'.pl=d.pl) (h2:d'.waits=d.waits) (h3:-1≤d'.left) (h4:d'.left≤9223372036854775807):RefB B g q d' w'∧Kx rT B w w':=by
 have hk:=h.boxed hg
 refine ⟨⟨hB,?_,?_,?_,?_,?_,?_,?_,by rw [h1];exact h.la,by rw [h1];exact h.lm,by rw [h2];exact h.lw,h.sep,h.rm,h.gb,by rw [h1];exact h.n0,by rw [h1];exact h.nl,h3,h4,by rw [h1];exact h.ok,by rw [h1,h2];exact h.wk⟩,Kx.st hg h.box (by decide) h.gb⟩
 ·rw [h1];exact owns_keep h.rest fun j cs=>hk j cs _ (by decide)
 ·rw [h1];exact owns_keep h.meant fun j cs=>hk j cs _ (by decide)
 ·rw [h1];exact owns_keep h.lost fun j cs=>hk j cs _ (by decide)
 ·rw [h2];exact owns_keep h.wts fun j cs=>hk j cs _ (by decide)
 ·rw [h1];exact fun s x p a b=>owns_keep (h.rs s x p a b) fun j cs=>hk j cs _ (by decide)
 ·rw [h1];exact fun s x p a b=>owns_keep (h.ms s x p a b) fun j cs=>hk j cs _ (by decide)
 ·rw [h2];exact fun s x p a b=>owns_keep (h.ws s x p a b) fun j cs=>hk j cs _ (by decide)
theorem RefB.unwait (h:RefB B g q d w) (hB:w'.heap[g]?=some (.cells (rkA { q with wv:=.slice none 0 0,wa:=[] } { d with waits:=[] }) 57 (0,0))) (hg:w.grownBy w' (some g)):RefB B g { q with wv:=.slice none 0 0,wa:=[] } { d with waits:=[] } w'∧Kx rT B w w':=by
 have hk:=h.boxed hg
 refine ⟨⟨hB,?_,?_,?_,World.ownsRow_nil _ _ _ _,?_,?_,?_,h.la,h.lm,rfl,⟨h.sep.inj,fun x hx y hy=>h.sep.ne x hx y ?_⟩,h.rm,h.gb,h.n0,h.nl,h.lo,h.hi,h.ok,fun x hx=>by cases hx⟩,Kx.st hg h.box (by decide) h.gb⟩
 ·exact owns_keep h.rest fun j cs=>hk j cs _ (by decide)
 ·exact owns_keep h.meant fun j cs=>hk j cs _ (by decide)
 ·exact owns_keep h.lost fun j cs=>hk j cs _ (by decide)
 ·exact fun s x p a b=>owns_keep (h.rs s x p a b) fun j cs=>hk j cs _ (by decide)
 ·exact fun s x p a b=>owns_keep (h.ms s x p a b) fun j cs=>hk j cs _ (by decide)
 ·intro i x y a b
  simp at a
 ·simp only [List.append_nil] at hy
  exact List.mem_append_left _ hy
theorem RefB.wrote {x:Nat×Nat} {b:List UInt8} {k:Nat} {a8:Option Addr} {n8 c8:Nat} (h:RefB B g q d w) (hk:∀ (j:Nat) (cs:Array Value) (T:TypeId),T≠202→T≠57→w.heap[j]?=some (.cells cs T (0,0))→w'.heap[j]?=some (.cells cs T (0,0)))
  (hB:w'.heap[g]?=some (.cells (rkA { q with wv:=.slice a8 n8 c8,wa:=q.wa++[x] } { d with waits:=d.waits++[(b,k)] }) 57 (0,0)))
  (hw:w'.ownsRow B 202 2 (.slice a8 n8 c8) (d.waits.length+1) ((d.waits.zip q.wa).flatMap rwC++rwC ((b,k),x))) (hs:SecB B w x b) (hf:∀ y ∈ q.ra,y.1≠x.1) (h64:b.length=64) (hkn:k < d.pl.length) :
  RefB B g { q with wv:=.slice a8 n8 c8,wa:=q.wa++[x] } { d with waits:=d.waits++[(b,k)] } w':=by
 have hz:(d.waits++[(b,k)]).zip (q.wa++[x])=d.waits.zip q.wa++[((b,k),x)]:=by rw [List.zip_append h.lw.symm];rfl
 refine ⟨hB,?_,?_,?_,?_,?_,?_,?_,h.la,h.lm,by simp [h.lw],⟨h.sep.inj,fun x' hx y hy=>?_⟩,h.rm,h.gb,h.n0,h.nl,h.lo,h.hi,h.ok,?_⟩
 ·exact owns_keep h.rest fun j cs=>hk j cs _ (by decide) (by decide)
 ·exact owns_keep h.meant fun j cs=>hk j cs _ (by decide) (by decide)
 ·exact owns_keep h.lost fun j cs=>hk j cs _ (by decide) (by decide)
 ·simp only [hz,List.flatMap_append,List.length_append,List.length_singleton]
  rw [show [((b,k),x)].flatMap rwC=rwC ((b,k),x) by simp]
  exact hw
 ·exact fun s x p a b=>owns_keep (h.rs s x p a b) fun j cs=>hk j cs _ (by decide) (by decide)
 ·exact fun s x p a b=>owns_keep (h.ms s x p a b) fun j cs=>hk j cs _ (by decide) (by decide)
 ·intro i x' y ha hb
  simp only at ha hb
  by_cases hi:i < q.wa.length
  ·rw [List.getElem?_append_left hi] at ha
   rw [List.getElem?_append_left (by rw [← h.lw];exact hi)] at hb
   exact owns_keep (h.ws i x' y ha hb) fun j cs=>hk j cs _ (by decide) (by decide)
  ·rw [List.getElem?_append_right (by omega)] at ha
   rw [List.getElem?_append_right (by rw [← h.lw];omega)] at hb
   have h0:i - q.wa.length=0:=by
    have:=(List.getElem?_eq_some_iff.1 ha).1
    simp at this
    omega
   rw [h0] at ha
   rw [← h.lw,h0] at hb
   simp at ha hb
   subst ha hb
   exact owns_keep hs fun j cs=>hk j cs _ (by decide) (by decide)
 ·simp only at hx
  simp only [List.mem_append,List.mem_singleton] at hy
  rcases hy with hy | hy | rfl
  ·exact h.sep.ne x' hx y (List.mem_append_left _ hy)
  ·exact h.sep.ne x' hx y (List.mem_append_right _ hy)
  ·exact hf x' hx
 ·intro y hy
  simp only [List.mem_append,List.mem_singleton] at hy
  rcases hy with hy | rfl
  ·exact h.wk y hy
  ·exact ⟨h64,hkn⟩
end
theorem two_b (b:Bool):b=false∨b=true:=by cases b <;> simp
section
variable {B g:Nat} {q:RQ} {d:Dk} {w:World}
theorem rhas_any (h:RefB B g q d w) (s:Int):Calls Tryz.prog 147 #[.pointer (some ⟨g,0,none⟩),.int .i64 s] w fun e w'=>e=.returned (.bool (decide (thereD d s=0)))∧w=w':=by
 have c0:=h.c0
 have hn:=h.n0
 by_cases h0:s < 0
 ·have hr:Hid (thereD d s=2):=Lib.hid (by unfold thereD;rw [if_neg (by omega),if_pos (.inl h0)])
  have h0b:decide (s ≥ 0)=false:=decide_eq_false (by omega)
  go_enter func147,ntmps147
  go_wp2
  go_ret
  exact ⟨by rw [hr.out];rfl,rfl⟩
 ·by_cases h1:(d.pl.length:Int)≤s
  ·have hr:Hid (thereD d s=2):=Lib.hid (by unfold thereD;rw [if_neg (by omega),if_pos (.inr h1)])
   go_enter func147,ntmps147
   go_wp2
   go_ret
   exact ⟨ret_bool (by rw [hr.out];first | (simp;done) | (simp;omega)),rfl⟩
  ·have hr:Hid (thereD d s=0):=Lib.hid (by unfold thereD;rw [if_neg (by omega),if_neg (by omega)])
   go_enter func147,ntmps147
   go_wp2
   go_ret
   exact ⟨ret_bool (by rw [hr.out];first | (simp;done) | (simp;omega)),rfl⟩
theorem rspend_any (h:RefB B g q d w):Calls Tryz.prog 120 #[.pointer (some ⟨g,0,none⟩)] w fun e w'=>e=.returned (.bool (decide ((spendD d).2=0)))∧RefB B g q (spendD d).1 w'∧Kx rT B w w':=by
 have c6:=h.c6
 have hB:=h.box
 have hlo:=h.lo
 have hhi:=h.hi
 by_cases h0:d.left=0
 ·have hs:spendD d=({ d with dead:=true },5):=by unfold spendD;rw [if_pos h0]
  rw [hs]
  rw [h0] at c6
  clear hs
  go_enter func120,ntmps120
  go_wp2_with ((first | (with_reducible refine wpList_stB 4 _ _ ?_) | (with_reducible refine wp_stB 4 _ _ ?_));refine ⟨_,_,_,⟨_,_,_,sizeOf4,rfl,‹_›,rk_dead _ _ true⟩,?_⟩;intro w5 B5 g5)
  go_ret
  exact ⟨rfl,h.turn B5 g5 rfl rfl hlo hhi⟩
 ·by_cases h1:0 < d.left
  ·have hs:spendD d=({ d with left:=d.left - 1 },0):=by unfold spendD;rw [if_neg h0,if_pos h1]
   rw [hs]
   have h0b:(d.left==0)=false:=by rw [beq_eq_false_iff_ne];exact h0
   clear hs
   go_enter func120,ntmps120
   go_wp2_with ((first | (with_reducible refine wpList_stB 3 _ _ ?_) | (with_reducible refine wp_stB 3 _ _ ?_));refine ⟨_,_,_,⟨_,_,_,sizeOf3,rfl,‹_›,rk_left _ _ (d.left - 1)⟩,?_⟩;intro w5 B5 g5)
   go_ret
   exact ⟨rfl,h.turn B5 g5 rfl rfl (by simp only;omega) (by simp only;omega)⟩
  ·have hs:spendD d=(d,0):=by unfold spendD;rw [if_neg h0,if_neg h1]
   rw [hs]
   have h0b:(d.left==0)=false:=by rw [beq_eq_false_iff_ne];exact h0
   clear hs
   go_enter func120,ntmps120
   go_wp2
   go_ret
   exact ⟨rfl,h,Kx.refl _ _ _⟩
theorem live_is (h:0 < d.pl.length):live0 d=if d.down=true∨d.dead=true then 5 else 0:=by
 unfold live0 there0
 by_cases hx:d.down=true∨d.dead=true
 ·rw [if_pos ⟨h,hx⟩,if_pos hx]
 ·rw [if_neg (fun hh=>hx hh.2),if_neg hx,if_neg (by omega)]
theorem rpower_any (h:RefB B g q d w) (n:Int) (hn:n≤9223372036854775807):Calls Tryz.prog 146 #[.pointer (some ⟨g,0,none⟩),.int .i64 n] w fun e w'=>e=.returned (.int .i64 (powerD d n).2)∧RefB B g q (powerD d n).1 w'∧Kx rT B w w':=by
 have c4:=h.c4
 have c5:=h.c5
 have hB:=h.box
 have hli:=live_is h.n0
 unfold powerD
 rcases two_b d.down with e1 | e1
 ·rcases two_b d.dead with e2 | e2
  ·rw [e1,e2] at hli
   have hl0:live0 d=0:=by rw [hli];simp
   rw [if_neg (by rw [hl0];simp)]
   rw [e1] at c4
   rw [e2] at c5
   clear hli hl0 e1 e2
   by_cases h1:n < 0
   ·rw [if_pos h1]
    go_enter func146,ntmps146
    go_wp2
    go_ret
    exact ⟨rfl,h,Kx.refl _ _ _⟩
   ·rw [if_neg h1]
    go_enter func146,ntmps146
    go_wp2_with ((first | (with_reducible refine wpList_stB 3 _ _ ?_) | (with_reducible refine wp_stB 3 _ _ ?_));refine ⟨_,_,_,⟨_,_,_,sizeOf3,rfl,‹_›,rk_left _ _ n⟩,?_⟩;intro w5 B5 g5)
    go_ret
    exact ⟨rfl,h.turn B5 g5 rfl rfl (by simp only;omega) (by simp only;omega)⟩
  ·rw [e1,e2] at hli
   have hl5:live0 d=5:=by rw [hli];simp
   rw [if_pos (by rw [hl5];simp),hl5]
   rw [e1] at c4
   rw [e2] at c5
   clear hli hl5 e1 e2
   go_enter func146,ntmps146
   go_wp2
   go_ret
   exact ⟨rfl,h,Kx.refl _ _ _⟩
 ·rw [e1] at hli
  have hl5:live0 d=5:=by rw [hli];simp
  rw [if_pos (by rw [hl5];simp),hl5]
  rw [e1] at c4
  clear hli hl5 e1
  go_enter func146,ntmps146
  go_wp2
  go_ret
  exact ⟨rfl,h,Kx.refl _ _ _⟩
theorem rstart_any (h:RefB B g q d w):Calls Tryz.prog 142 #[.pointer (some ⟨g,0,none⟩)] w fun e w'=>e=.returned (.int .i64 (startD d).2)∧RefB B g q (startD d).1 w'∧Kx rT B w w':=by
 have c4:=h.c4
 have hB:=h.box
 have hn:=h.n0
 unfold startD there0
 rw [if_neg (by rw [if_neg (by omega)];simp)]
 rcases two_b d.down with e1 | e1
 ·rw [if_pos e1]
  rw [e1] at c4
  clear e1
  go_enter func142,ntmps142
  go_wp2
  go_ret
  exact ⟨rfl,h,Kx.refl _ _ _⟩
 ·rw [if_neg (by rw [e1];simp)]
  rw [e1] at c4
  clear e1
  go_enter func142,ntmps142
  refine seqH fun K HK=>?_
  go_wp2
  refine HK.out _ _ ?_
  clear HK
  refine seqH fun K HK=>?_
  go_wp2
  refine HK.out _ _ ?_
  clear HK
  refine seqH fun K HK=>?_
  go_wp2_with ((first | (with_reducible refine wpList_stB 4 _ _ ?_) | (with_reducible refine wp_stB 4 _ _ ?_));refine ⟨_,_,_,⟨_,_,_,sizeOf4,rfl,‹_›,rk_down _ _ false⟩,?_⟩;intro w5 B5 g5)
  refine HK.out _ _ ?_
  clear HK
  refine seqH fun K HK=>?_
  go_wp2_with ((with_reducible refine wpList_stB 4 _ _ ?_);refine ⟨_,_,_,⟨_,_,_,sizeOf4,rfl,B5,rk_dead _ _ false⟩,?_⟩;intro w6 B6 g6)
  refine HK.out _ _ ?_
  clear HK
  refine seqH fun K HK=>?_
  go_wp2_with ((with_reducible refine wpList_stB 3 _ _ ?_);refine ⟨_,_,_,⟨_,_,_,sizeOf3,rfl,B6,rk_left _ _ (-1)⟩,?_⟩;intro w7 B7 g7)
  refine HK.out _ _ ?_
  clear HK
  go_wp2
  go_ret
  obtain ⟨h5,k5⟩:=h.turn (d':={ d with down:=false }) B5 g5 rfl rfl h.lo h.hi
  obtain ⟨h6,k6⟩:=h5.turn (d':={ d with down:=false,dead:=false }) B6 g6 rfl rfl h.lo h.hi
  obtain ⟨h7,k7⟩:=h6.turn (d':={ d with down:=false,dead:=false,left:=-1 }) B7 g7 rfl rfl (by simp) (by simp)
  exact ⟨rfl,h7,k5.trans (k6.trans k7)⟩
end
end
section
theorem map_set {α β:Type} (f:α→β) (l:List α) (i:Nat) (x:α):(l.map f).set i (f x)=(l.set i x).map f:=by
 rw [List.map_set]
section
variable {B g:Nat} {q:RQ} {d:Dk} {w w':World} {s:Nat} {x:Nat×Nat} {b:List UInt8}
theorem blk_neT {k:Nat} {T:TypeId} {cs:Array Value} (hc:w.heap[k]?=some (.cells cs T (0,0))) (hg:w.grownBy w' (some k)) (j:Nat) (cs':Array Value) (T':TypeId) (hT:T'≠T) (hj:w.heap[j]?=some (.cells cs' T' (0,0))):w'.heap[j]?=some (.cells cs' T' (0,0)):=
 tr_st hg hj (fun e=>by
  subst e
  have:=hc.symm.trans hj
  injection this with this
  injection this with _ e
  exact hT e.symm)
theorem RefB.setRest (h:RefB B g q d w) (hs:s < d.pl.length) (hr:w'.ownsRow B 37 1 (.slice (some ⟨q.rb,0,none⟩) d.pl.length q.rc) d.pl.length ((q.ra.map slv).set s (slv x))) (hg:w.grownBy w' (some q.rb)) (hx:SecB B w x b) (h64:b.length=64) (hf:∀ y ∈ q.ra++(q.ma++q.wa),y.1≠x.1) :
  RefB B g { q with ra:=q.ra.set s x } { d with pl:=d.pl.modify s (fun p=>{ p with rest:=b }) } w'∧Kx rT B w w':=by
 obtain ⟨cs,hcs,hb⟩:=h.blk_r
 have hk:=blk_neT hcs hg
 have hne:q.mb≠q.rb:=fun e=>h.rm e.symm
 have hl:(d.pl.modify s (fun p=>{ p with rest:=b })).length=d.pl.length:=by simp
 refine ⟨⟨?_,?_,?_,?_,?_,?_,?_,?_,by simp [h.la],by simp [h.lm],h.lw,?_,h.rm,h.gb,by simp only [hl];exact h.n0,by simp only [hl];exact h.nl,h.lo,h.hi,?_,?_⟩,Kx.st hg hcs (by decide) hb⟩
 ·exact (hk _ _ _ (by decide) h.box).trans (congrArg (fun c=>some (Obj.cells c 57 (0,0))) (by unfold rkA;simp only [hl]))
 ·simp only [hl]
  rw [← map_set]
  exact hr
 ·simp only [hl]
  exact World.ownsRow.kept h.meant hg (.inr (fun e=>by
   have e:some q.mb=some q.rb:=e
   injection e with e
   exact hne e))
 ·simp only [hl]
  have e:(d.pl.modify s (fun p=>{ p with rest:=b })).map (fun p=>Value.bool p.lost)=d.pl.map (fun p=>Value.bool p.lost):=by
   apply List.ext_getElem?
   intro i
   simp only [List.getElem?_map,List.getElem?_modify]
   cases d.pl[i]? with
   | none=>rfl
   | some p=>by_cases hi:s=i <;> simp [hi]
  rw [e]
  exact owns_keep h.lost fun j cs=>hk j cs _ (by decide)
 ·exact owns_keep h.wts fun j cs=>hk j cs _ (by decide)
 ·intro i y p ha hp
  simp only [List.getElem?_modify] at hp
  simp only [List.getElem?_set] at ha
  by_cases hi:s=i
  ·subst hi
   rw [if_pos rfl,if_pos (by rw [h.la];exact hs)] at ha
   simp only [Option.some.injEq] at ha
   subst ha
   rw [List.getElem?_eq_getElem hs] at hp
   simp at hp
   subst hp
   exact owns_keep hx fun j cs=>hk j cs _ (by decide)
  ·rw [if_neg hi] at ha
   simp [hi] at hp
   exact owns_keep (h.rs i y p ha hp) fun j cs=>hk j cs _ (by decide)
 ·intro i y p ha hp
  simp only [List.getElem?_modify] at hp
  obtain ⟨p0,hp0,hm⟩:∃ p0,d.pl[i]?=some p0∧p.meant=p0.meant:=by
   cases h0:d.pl[i]? with
   | none=>rw [h0] at hp;cases hp
   | some p0=>
    rw [h0] at hp
    refine ⟨p0,rfl,?_⟩
    by_cases hi:s=i
    ·simp [hi] at hp;rw [← hp]
    ·simp [hi] at hp;rw [← hp]
  rw [hm]
  exact owns_keep (h.ms i y p0 ha hp0) fun j cs=>hk j cs _ (by decide)
 ·exact fun i y p ha hp=>owns_keep (h.ws i y p ha hp) fun j cs=>hk j cs _ (by decide)
 ·constructor
  ·intro i j y z hy hz e
   simp only [List.getElem?_set] at hy hz
   by_cases hi:s=i
   ·by_cases hj:s=j
    ·omega
    ·rw [if_pos hi] at hy
     rw [if_neg hj] at hz
     split at hy
     ·simp only [Option.some.injEq] at hy
      subst hy
      exact absurd e.symm (hf z (List.mem_append_left _ (List.mem_of_getElem? hz)))
     ·cases hy
   ·by_cases hj:s=j
    ·rw [if_neg hi] at hy
     rw [if_pos hj] at hz
     split at hz
     ·simp only [Option.some.injEq] at hz
      subst hz
      exact absurd e (hf y (List.mem_append_left _ (List.mem_of_getElem? hy)))
     ·cases hz
    ·rw [if_neg hi] at hy
     rw [if_neg hj] at hz
     exact h.sep.inj i j y z hy hz e
  ·intro y hy z hz
   rcases List.mem_or_eq_of_mem_set hy with hy | rfl
   ·exact h.sep.ne y hy z hz
   ·exact fun e=>hf z (List.mem_append_right _ hz) e.symm
 ·intro p hp
  obtain ⟨i,hi⟩:=List.getElem?_of_mem hp
  simp only [List.getElem?_modify] at hi
  cases h0:d.pl[i]? with
  | none=>rw [h0] at hi;cases hi
  | some p0=>
   rw [h0] at hi
   have hk0:=h.ok p0 (List.mem_of_getElem? h0)
   by_cases he:s=i
   ·simp [he] at hi;rw [← hi];exact ⟨h64,hk0.2⟩
   ·simp [he] at hi;rw [← hi];exact hk0
 ·simp only [hl]
  exact h.wk
theorem RefB.setMeant (h:RefB B g q d w) (hs:s < d.pl.length) (hr:w'.ownsRow B 37 1 (.slice (some ⟨q.mb,0,none⟩) d.pl.length q.mc) d.pl.length ((q.ma.map slv).set s (slv x))) (hg:w.grownBy w' (some q.mb)) (hx:SecB B w x b) (h64:b.length=64) (hf:∀ y ∈ q.ra,y.1≠x.1) :
  RefB B g { q with ma:=q.ma.set s x } { d with pl:=d.pl.modify s (fun p=>{ p with meant:=b }) } w'∧Kx rT B w w':=by
 obtain ⟨cs,hcs,hb⟩:=h.blk_m
 have hk:=blk_neT hcs hg
 have hl:(d.pl.modify s (fun p=>{ p with meant:=b })).length=d.pl.length:=by simp
 refine ⟨⟨?_,?_,?_,?_,?_,?_,?_,?_,by simp [h.la],by simp [h.lm],h.lw,?_,h.rm,h.gb,by simp only [hl];exact h.n0,by simp only [hl];exact h.nl,h.lo,h.hi,?_,?_⟩,Kx.st hg hcs (by decide) hb⟩
 ·exact (hk _ _ _ (by decide) h.box).trans (congrArg (fun c=>some (Obj.cells c 57 (0,0))) (by unfold rkA;simp only [hl]))
 ·simp only [hl]
  exact World.ownsRow.kept h.rest hg (.inr (fun e=>by
   have e:some q.rb=some q.mb:=e
   injection e with e
   exact h.rm e))
 ·simp only [hl]
  rw [← map_set]
  exact hr
 ·simp only [hl]
  have e:(d.pl.modify s (fun p=>{ p with meant:=b })).map (fun p=>Value.bool p.lost)=d.pl.map (fun p=>Value.bool p.lost):=by
   apply List.ext_getElem?
   intro i
   simp only [List.getElem?_map,List.getElem?_modify]
   cases d.pl[i]? with
   | none=>rfl
   | some p=>by_cases hi:s=i <;> simp [hi]
  rw [e]
  exact owns_keep h.lost fun j cs=>hk j cs _ (by decide)
 ·exact owns_keep h.wts fun j cs=>hk j cs _ (by decide)
 ·intro i y p ha hp
  simp only [List.getElem?_modify] at hp
  obtain ⟨p0,hp0,hm⟩:∃ p0,d.pl[i]?=some p0∧p.rest=p0.rest:=by
   cases h0:d.pl[i]? with
   | none=>rw [h0] at hp;cases hp
   | some p0=>
    rw [h0] at hp
    refine ⟨p0,rfl,?_⟩
    by_cases hi:s=i
    ·simp [hi] at hp;rw [← hp]
    ·simp [hi] at hp;rw [← hp]
  rw [hm]
  exact owns_keep (h.rs i y p0 ha hp0) fun j cs=>hk j cs _ (by decide)
 ·intro i y p ha hp
  simp only [List.getElem?_modify] at hp
  simp only [List.getElem?_set] at ha
  by_cases hi:s=i
  ·subst hi
   rw [if_pos rfl,if_pos (by rw [h.lm];exact hs)] at ha
   simp only [Option.some.injEq] at ha
   subst ha
   rw [List.getElem?_eq_getElem hs] at hp
   simp at hp
   subst hp
   exact owns_keep hx fun j cs=>hk j cs _ (by decide)
  ·rw [if_neg hi] at ha
   simp [hi] at hp
   exact owns_keep (h.ms i y p ha hp) fun j cs=>hk j cs _ (by decide)
 ·exact fun i y p ha hp=>owns_keep (h.ws i y p ha hp) fun j cs=>hk j cs _ (by decide)
 ·refine ⟨h.sep.inj,fun y hy z hz=>?_⟩
  simp only at hy hz
  rw [List.mem_append] at hz
  rcases hz with hz | hz
  ·rcases List.mem_or_eq_of_mem_set hz with hz | rfl
   ·exact h.sep.ne y hy z (List.mem_append_left _ hz)
   ·exact hf y hy
  ·exact h.sep.ne y hy z (List.mem_append_right _ hz)
 ·intro p hp
  obtain ⟨i,hi⟩:=List.getElem?_of_mem hp
  simp only [List.getElem?_modify] at hi
  cases h0:d.pl[i]? with
  | none=>rw [h0] at hi;cases hi
  | some p0=>
   rw [h0] at hi
   have hk0:=h.ok p0 (List.mem_of_getElem? h0)
   by_cases he:s=i
   ·simp [he] at hi;rw [← hi];exact ⟨hk0.1,h64⟩
   ·simp [he] at hi;rw [← hi];exact hk0
 ·simp only [hl]
  exact h.wk
theorem RefB.setLost {lo:Bool} (h:RefB B g q d w) (hr:w'.ownsRow B 4 1 (.slice (some ⟨q.lb,0,none⟩) d.pl.length q.lc) d.pl.length ((d.pl.map fun p=>.bool p.lost).set s (.bool lo))) (hg:w.grownBy w' (some q.lb)) :
  RefB B g q { d with pl:=d.pl.modify s (fun p=>{ p with lost:=lo }) } w'∧Kx rT B w w':=by
 obtain ⟨cs,hcs,hb⟩:=h.blk_l
 have hk:=blk_neT hcs hg
 have hl:(d.pl.modify s (fun p=>{ p with lost:=lo })).length=d.pl.length:=by simp
 have hsame:∀ (i:Nat) (p:Pl),(d.pl.modify s (fun p=>{ p with lost:=lo }))[i]?=some p→∃ p0,d.pl[i]?=some p0∧p.rest=p0.rest∧p.meant=p0.meant:=by
  intro i p hp
  simp only [List.getElem?_modify] at hp
  cases h0:d.pl[i]? with
  | none=>rw [h0] at hp;cases hp
  | some p0=>
   rw [h0] at hp
   refine ⟨p0,rfl,?_⟩
   by_cases hi:s=i
   ·simp [hi] at hp;rw [← hp];exact ⟨rfl,rfl⟩
   ·simp [hi] at hp;rw [← hp];exact ⟨rfl,rfl⟩
 refine ⟨⟨?_,?_,?_,?_,?_,?_,?_,?_,by simp [h.la],by simp [h.lm],h.lw,h.sep,h.rm,h.gb,by simp only [hl];exact h.n0,by simp only [hl];exact h.nl,h.lo,h.hi,?_,?_⟩,Kx.st hg hcs (by decide) hb⟩
 ·exact (hk _ _ _ (by decide) h.box).trans (congrArg (fun c=>some (Obj.cells c 57 (0,0))) (by unfold rkA;simp only [hl]))
 ·simp only [hl]
  exact owns_keep h.rest fun j cs=>hk j cs _ (by decide)
 ·simp only [hl]
  exact owns_keep h.meant fun j cs=>hk j cs _ (by decide)
 ·simp only [hl]
  have e:(d.pl.modify s (fun p=>{ p with lost:=lo })).map (fun p=>Value.bool p.lost)=(d.pl.map (fun p=>Value.bool p.lost)).set s (.bool lo):=by
   apply List.ext_getElem?
   intro i
   simp only [List.getElem?_map,List.getElem?_modify,List.getElem?_set,List.length_map]
   by_cases hi:s=i
   ·subst hi
    by_cases hlt:s < d.pl.length
    ·rw [List.getElem?_eq_getElem hlt];simp [hlt]
    ·rw [List.getElem?_eq_none_iff.2 (by omega)];simp [hlt]
   ·simp [hi]
  rw [e]
  exact hr
 ·exact owns_keep h.wts fun j cs=>hk j cs _ (by decide)
 ·intro i y p ha hp
  obtain ⟨p0,h0,h1,_⟩:=hsame i p hp
  rw [h1]
  exact owns_keep (h.rs i y p0 ha h0) fun j cs=>hk j cs _ (by decide)
 ·intro i y p ha hp
  obtain ⟨p0,h0,_,h1⟩:=hsame i p hp
  rw [h1]
  exact owns_keep (h.ms i y p0 ha h0) fun j cs=>hk j cs _ (by decide)
 ·exact fun i y p ha hp=>owns_keep (h.ws i y p ha hp) fun j cs=>hk j cs _ (by decide)
 ·intro p hp
  obtain ⟨i,hi⟩:=List.getElem?_of_mem hp
  obtain ⟨p0,h0,h1,h2⟩:=hsame i p hi
  rw [h1,h2]
  exact h.ok p0 (List.mem_of_getElem? h0)
 ·simp only [hl]
  exact h.wk
end
end
section
theorem SecB.slb {B:Nat} {w:World} {x:Nat×Nat} {l:List UInt8} (h:SecB B w x l) (h64:l.length=64):SlB w (some ⟨x.1,0,none⟩) x.2 l:=by
 have h2:w.ownsRow B 5 1 (slv x) l.length (bys l):=by rw [h64];exact h
 obtain ⟨a,c,e,hs⟩:=SlB.of_owns h2
 unfold slv at e
 injection e with e1 e2 e3
 subst e1 e3
 exact hs
section
variable {B g:Nat} {q:RQ} {d:Dk} {w:World}
theorem rcome_any (h:RefB B g q d w) (hB:B≤w.heap.size) (s:Nat) (hs:s < d.pl.length) (x:Nat×Nat) (b:List UInt8) (hx:SecB B w x b) (h64:b.length=64) :
  Calls Tryz.prog 121 #[.pointer (some ⟨g,0,none⟩),.agg #[.int .i64 (s:Int),slv x]] w fun e w'=>(∃ v,e=.returned v)∧(∃ q',RefB B g q' { d with pl:=d.pl.set s ⟨b,b,false⟩ } w'∧q'.wv=q.wv∧q'.wa=q.wa)∧Kx rT B w w':=by
 have W0:=heap_alloc_new w (Obj.cells #[.int .i64 (s:Int),slv x] 202)
 have hb0:=blw w (Obj.cells #[.int .i64 (s:Int),slv x] 202)
 have h0:=h.below hb0
 have hx0:SecB B _ x b:=owns_bl hx hb0
 have hB0:=Nat.le_trans hB hb0.size
 have k0:Kx rT B w _:=Kx.of hb0 hB
 have hlen:b.length≤1000000:=by omega
 have HS:=Lib.hid hs
 have HS0:=HS
 have H64:=Lib.hid h64
 unfold slv at *
 go_enter func121,ntmps121
 refine seqH fun K HK=>?_
 go_wp2
 refine HK.out _ _ ?_
 clear HK
 generalize w.alloc (Obj.cells #[.int .i64 (s:Int),.slice (some ⟨x.1,0,none⟩) 64 x.2] 202)=w0 at *
 obtain ⟨wb,hwb⟩:∃ k,w.heap.size=k:=⟨_,rfl⟩
 simp only [hwb] at W0 hb0 ⊢
 clear hb0 hwb h hx hs h64
 refine seqH fun K HK=>?_
 go_wp2_with fail
 refine wp_region_held_drew (S:=fun w'=>w'.heap[g]?=some (.cells (rkA q d) 57 (0,0))∧w'.heap[wb]?=some (.cells #[.int .i64 (s:Int),.slice (some ⟨x.1,0,none⟩) 64 x.2] 202 (0,0))) (by kernel_rfl) ⟨tr_bl (Below.refl _ _).drew h0.box,tr_bl (Below.refl _ _).drew W0⟩ (fun hS0=>?_)
 have hd:=h0.below (Below.refl _ _).drew
 have hxd:SecB B w0.drew x b:=owns_bl hx0 (Below.refl _ _).drew
 have hxs:=hxd.slb H64.out
 have hBd:B≤w0.drew.heap.size:=hB0
 have kd:=k0.trans (Kx.of (X:=rT) (Below.refl w0.heap.size w0).drew hB0)
 clear h0 W0 hx0 hB0 k0
 generalize w0.drew=w1 at *
 refine tkP 0 rfl ?_
 refine tkP 1 rfl ?_
 refine tkP 2 rfl ?_
 refine tkT 3 rfl (by intro wS hSw;have c:=blk_cell hSw.1 0 (.slice (some ⟨q.rb,0,none⟩) d.pl.length q.rc) rfl;go_simp;(try with_reducible rfl)) ?_
 refine tkP 4 rfl ?_
 refine tkT 5 rfl (by intro wS hSw;have c:=blk_cell hSw.2 0 _ rfl;go_simp;(try with_reducible rfl)) ?_
 refine tkP 6 rfl ?_
 refine tkT 7 rfl (by intro wS hSw;have c:=blk_cell hSw.2 1 _ rfl;go_simp;(try with_reducible rfl)) ?_
 refine rdy1 8 rfl (fun K' hK'=>?_)
 go_simp
 rw [← H64.out]
 refine (copy_any _ _ _ _ hxs hlen).mono ?_
 rintro e w2 ⟨⟨v,rfl,hO⟩,hb2⟩
 rw [H64.out] at hO
 obtain ⟨a2,c2,rfl,ha2⟩:=owns_some hO (by decide)
 have h2:=hd.below hb2
 have hx2:SecB B w2 x b:=owns_bl hxd hb2
 have k2:=kd.trans (Kx.of (X:=rT) hb2 hBd)
 have hf2:∀ y ∈ (q).ra++((q).ma++(q).wa),y.1≠a2:=fun y hy=>by have:=hd.fresh y hy;omega
 have hB2:=Nat.le_trans hBd hb2.size
 have hO2:=owns_mono hO hBd
 have S2:=And.intro (tr_bl hb2 hS0.1) (tr_bl hb2 hS0.2)
 clear hd hxd hxs hb2 kd hO hS0 ha2 hBd
 refine hK'.out _ _ S2 (fun _=>?_)
 (try simp only [Act.put,qa1,qa2,qa3])
 refine tkT 9 rfl (by intro wS hSw;have hlt:=HS.out;go_simp;(try rw [if_pos hlt]);(try with_reducible rfl)) ?_
 refine rdy1 10 rfl (fun K' hK'=>?_)
 refine wp_stOwn 37 _ _ (.slice (some ⟨a2,0,none⟩) 64 c2) sizeOf37 rfl rfl rfl rfl h2.rest HS.out ?_
 intro w3 hr3 g3
 obtain ⟨h3,k3⟩:=h2.setRest (x:=(a2,c2)) HS.out hr3 g3 hO2 H64.out hf2
 obtain ⟨cs2,hcs2,_⟩:=h2.blk_r
 have hx3:SecB B w3 x b:=owns_kx hx2 k3 (by decide)
 have W3:=blk_neT hcs2 g3 _ _ _ (by decide) S2.2
 have k30:=k2.trans k3
 have hB3:=Nat.le_trans hB2 g3.size
 have hS3:w3.heap[g]?=some (.cells (rkA q d) 57 (0,0)):=blk_neT hcs2 g3 _ _ _ (by decide) S2.1
 refine hK'.out _ _ ⟨hS3,W3⟩ (fun _=>?_)
 refine wpAnyH_done (by kernel_rfl) ?_ _
 refine HK.out _ _ ?_
 clear HK hK' h2 hx2 k2 hf2 hB2 hO2 S2 g3 k3 hr3 hcs2 hS3
 obtain ⟨q1,hq1⟩:∃ q1,{ q with ra:=q.ra.set s (a2,c2) }=q1:=⟨_,rfl⟩
 obtain ⟨d1,hd1⟩:∃ d1,({ d with pl:=d.pl.modify s (fun p=>{ p with rest:=b }) }:Dk)=d1:=⟨_,rfl⟩
 have HS:Hid (s < d1.pl.length):=Lib.hid (by rw [← hd1];simpa using HS.out)
 rw [hq1,hd1] at h3
 have HQ1:=Lib.hid hq1
 have HD1:=Lib.hid hd1
 clear hq1 hd1
 refine seqH fun K HK=>?_
 go_wp2_with fail
 refine wp_region_held_drew (S:=fun w'=>w'.heap[g]?=some (.cells (rkA q1 d1) 57 (0,0))∧w'.heap[wb]?=some (.cells #[.int .i64 (s:Int),.slice (some ⟨x.1,0,none⟩) 64 x.2] 202 (0,0))) (by kernel_rfl) ⟨tr_bl (Below.refl _ _).drew h3.box,tr_bl (Below.refl _ _).drew W3⟩ (fun hS0=>?_)
 have hd:=h3.below (Below.refl _ _).drew
 have hxd:SecB B w3.drew x b:=owns_bl hx3 (Below.refl _ _).drew
 have hxs:=hxd.slb H64.out
 have hBd:B≤w3.drew.heap.size:=hB3
 have kd:=k30.trans (Kx.of (X:=rT) (Below.refl w3.heap.size w3).drew hB3)
 clear h3 W3 hx3 hB3 k30
 generalize w3.drew=w1 at *
 refine tkP 0 rfl ?_
 refine tkP 1 rfl ?_
 refine tkP 2 rfl ?_
 refine tkT 3 rfl (by intro wS hSw;have c:=blk_cell hSw.1 1 (.slice (some ⟨q1.mb,0,none⟩) d1.pl.length q1.mc) rfl;go_simp;(try with_reducible rfl)) ?_
 refine tkP 4 rfl ?_
 refine tkT 5 rfl (by intro wS hSw;have c:=blk_cell hSw.2 0 _ rfl;go_simp;(try with_reducible rfl)) ?_
 refine tkP 6 rfl ?_
 refine tkT 7 rfl (by intro wS hSw;have c:=blk_cell hSw.2 1 _ rfl;go_simp;(try with_reducible rfl)) ?_
 refine rdy1 8 rfl (fun K' hK'=>?_)
 go_simp
 rw [← H64.out]
 refine (copy_any _ _ _ _ hxs hlen).mono ?_
 rintro e w2 ⟨⟨v,rfl,hO⟩,hb2⟩
 rw [H64.out] at hO
 obtain ⟨a2,c2,rfl,ha2⟩:=owns_some hO (by decide)
 have h2:=hd.below hb2
 have hx2:SecB B w2 x b:=owns_bl hxd hb2
 have k2:=kd.trans (Kx.of (X:=rT) hb2 hBd)
 have hf2:∀ y ∈ (q1).ra++((q1).ma++(q1).wa),y.1≠a2:=fun y hy=>by have:=hd.fresh y hy;omega
 have hB2:=Nat.le_trans hBd hb2.size
 have hO2:=owns_mono hO hBd
 have S2:=And.intro (tr_bl hb2 hS0.1) (tr_bl hb2 hS0.2)
 clear hd hxd hxs hb2 kd hO hS0 ha2 hBd
 refine hK'.out _ _ S2 (fun _=>?_)
 (try simp only [Act.put,qa1,qa2,qa3])
 refine tkT 9 rfl (by intro wS hSw;have hlt:=HS.out;go_simp;(try rw [if_pos hlt]);(try with_reducible rfl)) ?_
 refine rdy1 10 rfl (fun K' hK'=>?_)
 refine wp_stOwn 37 _ _ (.slice (some ⟨a2,0,none⟩) 64 c2) sizeOf37 rfl rfl rfl rfl h2.meant HS.out ?_
 intro w4 hr4 g4
 obtain ⟨h4,k4⟩:=h2.setMeant (x:=(a2,c2)) HS.out hr4 g4 hO2 H64.out (fun y hy=>hf2 y (List.mem_append_left _ hy))
 obtain ⟨cs2,hcs2,_⟩:=h2.blk_m
 have W4:=blk_neT hcs2 g4 _ _ _ (by decide) S2.2
 have k40:=k2.trans k4
 have hB4:=Nat.le_trans hB2 g4.size
 have hS4:w4.heap[g]?=some (.cells (rkA q1 d1) 57 (0,0)):=blk_neT hcs2 g4 _ _ _ (by decide) S2.1
 refine hK'.out _ _ ⟨hS4,W4⟩ (fun _=>?_)
 refine wpAnyH_done (by kernel_rfl) ?_ _
 refine HK.out _ _ ?_
 clear HK hK' h2 hx2 k2 hf2 hB2 hO2 S2 g4 k4 hr4 hcs2 hS4
 obtain ⟨q2,hq2⟩:∃ q2,{ q1 with ma:=q1.ma.set s (a2,c2) }=q2:=⟨_,rfl⟩
 obtain ⟨d2,hd2⟩:∃ d2,({ d1 with pl:=d1.pl.modify s (fun p=>{ p with meant:=b }) }:Dk)=d2:=⟨_,rfl⟩
 have HS:Hid (s < d2.pl.length):=Lib.hid (by rw [← hd2];simpa using HS.out)
 rw [hq2,hd2] at h4
 have HQ2:=Lib.hid hq2
 have HD2:=Lib.hid hd2
 clear hq2 hd2
 go_wp2_with fail
 refine wp_region_held_drew (S:=fun w'=>w'.heap[g]?=some (.cells (rkA q2 d2) 57 (0,0))∧w'.heap[wb]?=some (.cells #[.int .i64 (s:Int),.slice (some ⟨x.1,0,none⟩) 64 x.2] 202 (0,0))) (by kernel_rfl) ⟨tr_bl (Below.refl _ _).drew h4.box,tr_bl (Below.refl _ _).drew W4⟩ (fun hS0=>?_)
 have hd:=h4.below (Below.refl _ _).drew
 have kd:=k40.trans (Kx.of (X:=rT) (Below.refl w4.heap.size w4).drew hB4)
 clear h4 W4 k40
 generalize w4.drew=w5 at *
 refine tkP 0 rfl ?_
 refine tkP 1 rfl ?_
 refine tkP 2 rfl ?_
 refine tkT 3 rfl (by intro wS hSw;have c:=blk_cell hSw.1 2 (.slice (some ⟨q2.lb,0,none⟩) d2.pl.length q2.lc) rfl;go_simp;(try with_reducible rfl)) ?_
 refine tkP 4 rfl ?_
 refine tkT 5 rfl (by intro wS hSw;have c:=blk_cell hSw.2 0 _ rfl;go_simp;(try with_reducible rfl)) ?_
 refine tkT 6 rfl (by intro wS hSw;have hlt:=HS.out;go_simp;(try rw [if_pos hlt]);(try with_reducible rfl)) ?_
 refine rdy1 7 rfl (fun K' hK'=>?_)
 refine wp_stOwn 4 _ _ (.bool false) sizeOf4 rfl rfl rfl rfl hd.lost HS.out ?_
 intro w6 hr6 g6
 obtain ⟨h6,k6⟩:=hd.setLost hr6 g6
 obtain ⟨cs2,hcs2,_⟩:=hd.blk_l
 refine hK'.out _ _ ⟨blk_neT hcs2 g6 _ _ _ (by decide) hS0.1,blk_neT hcs2 g6 _ _ _ (by decide) hS0.2⟩ (fun _=>?_)
 refine wpAnyH_done (by kernel_rfl) ?_ _
 refine bodyPost_end (results_none Tryz.results121 _ _ _) rfl ⟨⟨_,rfl⟩,⟨q2,?_,?_,?_⟩,kd.trans k6⟩
 ·have e:{ d2 with pl:=d2.pl.modify s (fun p=>{ p with lost:=false }) }={ d with pl:=d.pl.set s ⟨b,b,false⟩ }:=by
   rw [← HD2.out,← HD1.out]
   simp only [Dk.mk.injEq,and_true]
   apply List.ext_getElem?
   intro i
   simp only [List.getElem?_modify,List.getElem?_set]
   by_cases hi:s=i
   ·subst hi
    rw [List.getElem?_eq_getElem HS0.out]
    simp [HS0.out]
   ·cases d.pl[i]? <;> simp [hi]
  rw [← e]
  exact h6
 ·rw [← HQ2.out,← HQ1.out]
 ·rw [← HQ2.out,← HQ1.out]
end
end
section
theorem there_nat {d:Dk} {s:Int} (hn:0 < d.pl.length) (h:thereD d s=0):∃ k:Nat,s=k∧k < d.pl.length:=by
 unfold thereD at h
 rw [if_neg (by omega)] at h
 split at h
 ·cases h
 ·exact ⟨s.toNat,by omega,by omega⟩
theorem there_two {d:Dk} {s:Int} (hn:0 < d.pl.length) (h:thereD d s≠0):thereD d s=2:=by
 unfold thereD at h ⊢
 rw [if_neg (by omega)] at h ⊢
 split at h
 ·rw [if_pos (by assumption)]
 ·exact absurd rfl h
theorem gb_cell (w:World) (p:Addr) (u:Value):w.grownBy (w.setCell p u) (some p.block):=⟨rfl,rfl,rfl,by simp,fun k _ hk=>heap_setCell_other w p k u (fun e=>hk (by simp [e]))⟩
def RDoes (B g:Nat) (X:TypeId→Bool) (w:World) (d':Dk) (w':World):Prop:=(∃ q',RefB B g q' d' w')∧Kx X B w w'
section
variable {B g:Nat} {q:RQ} {d:Dk} {w w':World}
theorem RefB.setByte {s k:Nat} {x:Nat×Nat} {p:Pl} {y:UInt8} (h:RefB B g q d w) (hp:d.pl[s]?=some p) (hx:q.ra[s]?=some x) (hr:w'.ownsRow B 5 1 (slv x) 64 (bys (p.rest.set k y))) (hg:w.grownBy w' (some x.1)) :
  RefB B g q { d with pl:=d.pl.modify s (fun p=>{ p with rest:=p.rest.set k y }) } w'∧Kx fT B w w':=by
 have hs:=(List.getElem?_eq_some_iff.1 hp).1
 have hpx:=(List.getElem?_eq_some_iff.1 hp).2
 obtain ⟨cs,hcs,_,hb,_⟩:=own_block (h.rs s x p hx hp)
 have hk:=blk_neT hcs hg
 have hl:(d.pl.modify s (fun p=>{ p with rest:=p.rest.set k y })).length=d.pl.length:=by simp
 have hother:∀ (z:Nat×Nat) (l:List UInt8),z.1≠x.1→SecB B w z l→SecB B w' z l:=fun z l hne hz=>World.ownsRow.kept hz hg (.inr (fun e=>by
  have e:some z.1=some x.1:=e
  injection e with e
  exact hne e))
 refine ⟨⟨?_,?_,?_,?_,?_,?_,?_,?_,by simp [h.la],by simp [h.lm],h.lw,h.sep,h.rm,h.gb,by simp only [hl];exact h.n0,by simp only [hl];exact h.nl,h.lo,h.hi,?_,?_⟩,Kx.st hg hcs (by decide) hb⟩
 ·exact (hk _ _ _ (by decide) h.box).trans (congrArg (fun c=>some (Obj.cells c 57 (0,0))) (by unfold rkA;simp only [hl]))
 ·simp only [hl]
  exact owns_keep h.rest fun j cs=>hk j cs _ (by decide)
 ·simp only [hl]
  exact owns_keep h.meant fun j cs=>hk j cs _ (by decide)
 ·simp only [hl]
  have e:(d.pl.modify s (fun p=>{ p with rest:=p.rest.set k y })).map (fun p=>Value.bool p.lost)=d.pl.map (fun p=>Value.bool p.lost):=by
   apply List.ext_getElem?
   intro i
   simp only [List.getElem?_map,List.getElem?_modify]
   cases d.pl[i]? with
   | none=>rfl
   | some p=>by_cases hi:s=i <;> simp [hi]
  rw [e]
  exact owns_keep h.lost fun j cs=>hk j cs _ (by decide)
 ·exact owns_keep h.wts fun j cs=>hk j cs _ (by decide)
 ·intro i z p2 ha hp2
  simp only [List.getElem?_modify] at hp2
  by_cases hi:s=i
  ·subst hi
   rw [hx] at ha
   simp only [Option.some.injEq] at ha
   subst ha
   rw [hp] at hp2
   simp at hp2
   subst hp2
   exact hr
  ·simp [hi] at hp2
   exact hother z _ (fun e=>hi (h.sep.inj s i x z hx ha e.symm)) (h.rs i z p2 ha hp2)
 ·intro i z p2 ha hp2
  simp only [List.getElem?_modify] at hp2
  obtain ⟨p0,hp0,hm⟩:∃ p0,d.pl[i]?=some p0∧p2.meant=p0.meant:=by
   cases h0:d.pl[i]? with
   | none=>rw [h0] at hp2;cases hp2
   | some p0=>
    rw [h0] at hp2
    refine ⟨p0,rfl,?_⟩
    by_cases hi:s=i
    ·simp [hi] at hp2;rw [← hp2]
    ·simp [hi] at hp2;rw [← hp2]
  rw [hm]
  exact hother z _ (fun e=>h.sep.ne x (List.mem_of_getElem? hx) z (List.mem_append_left _ (List.mem_of_getElem? ha)) e.symm) (h.ms i z p0 ha hp0)
 ·exact fun i z p2 ha hp2=>hother z _ (fun e=>h.sep.ne x (List.mem_of_getElem? hx) z (List.mem_append_right _ (List.mem_of_getElem? ha)) e.symm) (h.ws i z p2 ha hp2)
 ·intro p2 hp2
  obtain ⟨i,hi⟩:=List.getElem?_of_mem hp2
  simp only [List.getElem?_modify] at hi
  cases h0:d.pl[i]? with
  | none=>rw [h0] at hi;cases hi
  | some p0=>
   rw [h0] at hi
   have hk0:=h.ok p0 (List.mem_of_getElem? h0)
   by_cases he:s=i
   ·simp [he] at hi;rw [← hi];exact ⟨by simp [hk0.1],hk0.2⟩
   ·simp [he] at hi;rw [← hi];exact hk0
 ·simp only [hl]
  exact h.wk
theorem RefB.ra_at (h:RefB B g q d w) {s:Nat} (hs:s < d.pl.length):∃ x,q.ra[s]?=some x∧w.cell? ⟨q.rb,s,none⟩=some (slv x):=by
 have hl:s < q.ra.length:=by rw [h.la];exact hs
 have hx:=List.getElem?_eq_getElem hl
 refine ⟨_,hx,?_⟩
 rw [h.rest.cellAt _ (by omega)]
 simp [hx]
theorem RefB.lo_at (h:RefB B g q d w) {s:Nat} {p:Pl} (hp:d.pl[s]?=some p):w.cell? ⟨q.lb,s,none⟩=some (.bool p.lost):=by
 have hs:=(List.getElem?_eq_some_iff.1 hp).1
 rw [h.lost.cellAt _ (by omega)]
 simp [hp]
theorem rlose_any (h:RefB B g q d w) (s:Int):Calls Tryz.prog 144 #[.pointer (some ⟨g,0,none⟩),.int .i64 s] w fun e w'=>e=.returned (.int .i64 (loseD d s).2)∧RDoes B g rT w (loseD d s).1 w':=by
 have hh:=rhas_any h s
 unfold loseD
 by_cases h0:thereD d s=0
 ·rw [if_neg (by simpa using h0)]
  obtain ⟨k,rfl,hk⟩:=there_nat h.n0 h0
  rw [h0] at hh
  simp only [Int.toNat_natCast]
  have c2:=h.c2
  have hp:=List.getElem?_eq_getElem hk
  have ex:=h.lo_at hp
  have fx:w.frozen? ⟨q.lb,k,none⟩=false:=h.lost.frozenAt _
  have hst:=(h.lost.stored k (.bool true)).1
  have hgr:w.grownBy (w.setCell ⟨q.lb,k,none⟩ (.bool true)) (some q.lb):=gb_cell _ _ _
  obtain ⟨h6,k6⟩:=h.setLost (s:=k) (lo:=true) hst hgr
  have H6:=Lib.hid h6
  clear hp h0 hst hgr h6
  go_enter func144,ntmps144
  go_wp2_with (go_at_call 147;refine hh.mono ?_;rintro e w1 ⟨rfl,rfl⟩)
  go_ret
  exact ⟨rfl,⟨_,H6.out⟩,k6⟩
 ·rw [if_pos (by simpa using h0)]
  have h2:=there_two h.n0 h0
  rw [h2] at hh ⊢
  clear h2 h0
  go_enter func144,ntmps144
  go_wp2_with (go_at_call 147;refine hh.mono ?_;rintro e w1 ⟨rfl,rfl⟩)
  go_ret
  exact ⟨rfl,⟨_,h⟩,Kx.refl _ _ _⟩
theorem rflip_any (h:RefB B g q d w) (hB:B≤w.heap.size) (s bit:Int):Calls Tryz.prog 143 #[.pointer (some ⟨g,0,none⟩),.int .i64 s,.int .i64 bit] w fun e w'=>e=.returned (.int .i64 (flipD d s bit).2)∧RDoes B g fT w (flipD d s bit).1 w':=by
 have hh:=rhas_any h s
 unfold flipD
 by_cases h0:thereD d s=0
 ·rw [if_neg (by simpa using h0)]
  rw [h0] at hh
  by_cases hbt:bit < 0
  ·rw [if_pos hbt]
   go_enter func143,ntmps143
   go_wp2_with (go_at_call 147;refine hh.mono ?_;rintro e w1 ⟨rfl,rfl⟩)
   go_ret
   exact ⟨rfl,⟨_,h⟩,Kx.refl _ _ _⟩
  ·rw [if_neg hbt]
   obtain ⟨k,rfl,hk2⟩:=there_nat h.n0 h0
   obtain ⟨p,hp⟩:∃ p,d.pl[k]?=some p:=⟨_,List.getElem?_eq_getElem hk2⟩
   obtain ⟨x,hx,cx⟩:=h.ra_at hk2
   have hsec:=h.rs k x p hx hp
   have hok:=(h.ok p (List.mem_of_getElem? hp)).1
   simp only [Int.toNat_natCast]
   obtain ⟨n,hn,hn2⟩:∃ n:Nat,bit=(n:Int)∧n=bit.toNat:=⟨bit.toNat,by omega,rfl⟩
   obtain ⟨m,hm,hm2⟩:∃ m:Nat,n % 512=m∧m < 512:=⟨_,rfl,Nat.mod_lt _ (by decide)⟩
   have hmt:bit % 512=(m:Int):=by omega
   rw [← hn2,hm]
   clear hn2
   have HM:=Lib.hid hmt
   have hnn:0≤bit:=by omega
   clear hmt hn hm hbt
   obtain ⟨r8,hq8,hq64⟩:∃ r8:Nat,m / 8=r8∧r8 < 64:=⟨_,rfl,by omega⟩
   obtain ⟨r,hr8,hr64⟩:∃ r:Nat,m % 8=r∧r < 8:=⟨_,rfl,by omega⟩
   have HQ:=Lib.hid (show (m:Int) / 8=(r8:Int) by omega)
   have HR:=Lib.hid (show (m:Int).tmod 8=(r:Int) by rw [Int.tmod_eq_emod_of_nonneg (by omega)];omega)
   have hw1:IntKind.i64.wrap (r8:Int)=r8:=by rw [IntKind.wrap_i64];omega
   have HW:=Lib.hid hw1
   have hs8:IntKind.u8.wrap (2 ^ r:Nat)=((2 ^ r:Nat):Int):=by
    have:∀ r,r < 8→IntKind.u8.wrap ((2 ^ r:Nat):Int)=((2 ^ r:Nat):Int):=by decide
    exact this r hr64
   have HS8:=Lib.hid hs8
   have HU:=Lib.hid (show IntKind.u64.wrap (r:Int)=r by rw [IntKind.wrap_u64];omega)
   have hxr:∀ y:UInt8,bits .xor .u8 (y.toNat:Int) (2 ^ r)=((UInt8.ofNat (y.toNat ^^^ 2 ^ r)).toNat:Int):=fun y=>by
    have h2:2 ^ r < 2 ^ 8:=Nat.pow_lt_pow_right (by decide) hr64
    have h3:=Nat.xor_lt_two_pow (n:=8) y.toNat_lt h2
    have h4:=u8_xor_nat y.toNat (2 ^ r) y.toNat_lt h2
    rw [show ((2 ^ r:Nat):Int)=2 ^ r by push_cast;rfl] at h4
    rw [h4,UInt8.toNat_ofNat',Nat.mod_eq_of_lt h3]
   have HX:=Lib.hid hxr
   clear hxr hw1 hs8
   obtain ⟨y,hy⟩:∃ y,p.rest[r8]?=some y:=⟨_,List.getElem?_eq_getElem (by rw [hok];exact hq64)⟩
   have htb:∀ p' ∈ [p],turnBit p'.rest m=p'.rest.set r8 (UInt8.ofNat (y.toNat ^^^ 2 ^ r)):=by
    intro p' hp'
    rw [List.mem_singleton] at hp'
    subst hp'
    unfold turnBit
    rw [hq8,hr8,show p'.rest.getD r8 0=y by rw [List.getD_eq_getElem?_getD,hy];rfl]
   have hmod:d.pl.modify k (fun p=>{ p with rest:=turnBit p.rest m })=d.pl.modify k (fun p=>{ p with rest:=p.rest.set r8 (UInt8.ofNat (y.toNat ^^^ 2 ^ r)) }):=by
    apply List.ext_getElem?
    intro i
    simp only [List.getElem?_modify]
    by_cases hi:k=i
    ·subst hi
     rw [hp]
     simp [htb p (List.mem_singleton.2 rfl)]
    ·simp [hi]
   rw [hmod]
   clear hmod htb
   have HY:=Lib.hid hy
   have HP:=Lib.hid hp
   have HX2:=Lib.hid hx
   have HK2:=Lib.hid hk2
   have cy:w.cell? ⟨x.1,r8,none⟩=some (.int .u8 y.toNat):=by
    unfold SecB slv at hsec
    rw [hsec.cellAt _ (by omega)]
    simp [bys,byv,hy]
   unfold slv at cx
   clear hq8 hr8 hy hp hx h0 hok hk2
   go_enter func143,ntmps143
   go_wp2_with (go_at_call 147;refine hh.mono ?_;rintro e w1 ⟨rfl,rfl⟩)
   rw [HM.out]
   clear hh HM hnn
   have hd:=h.below (Below.refl w.heap.size w).drew
   have kd:=Kx.of (X:=fT) (Below.refl w.heap.size w).drew hB
   have sd:SecB B w.drew x p.rest:=owns_bl hsec (Below.refl _ _).drew
   have hcx:w.drew.cell? ⟨q.rb,k,none⟩=some (.slice (some ⟨x.1,0,none⟩) 64 x.2):=cx
   have hcy:w.drew.cell? ⟨x.1,r8,none⟩=some (.int .u8 y.toNat):=cy
   refine wp_region_held_drew (S:=fun w'=>w'.heap[g]?=some (.cells (rkA q d) 57 (0,0))∧w'.cell? ⟨q.rb,k,none⟩=some (.slice (some ⟨x.1,0,none⟩) 64 x.2)) (by kernel_rfl) ⟨hd.box,hcx⟩ (fun hS0=>?_)
   clear cx cy hsec
   generalize w.drew=x0 at *
   refine tkP 0 rfl ?_
   refine tkP 1 rfl ?_
   refine tkP 2 rfl ?_
   refine tkT 3 rfl (by intro wS hSw;have c:=blk_cell hSw.1 0 (.slice (some ⟨q.rb,0,none⟩) d.pl.length q.rc) rfl;go_simp;(try with_reducible rfl)) ?_
   refine tkP 4 rfl ?_
   refine tkT 5 rfl (by intro wS hSw;have hlt:=HK2.out;go_simp;(try rw [if_pos hlt]);(try with_reducible rfl)) ?_
   refine tkT 6 rfl (by intro wS hSw;have c:=hSw.2;go_simp;(try with_reducible rfl)) ?_
   refine tkP 7 rfl ?_
   refine tkT 8 (v:=.int .i64 (r8:Int)) rfl (by intro wS hSw;go_simp;rw [HQ.out,HW.out]) ?_
   refine tkP 9 rfl ?_
   refine tkP 10 rfl ?_
   refine tkP 11 rfl ?_
   refine tkT 12 rfl (by intro wS hSw;have c:=blk_cell hSw.1 0 (.slice (some ⟨q.rb,0,none⟩) d.pl.length q.rc) rfl;go_simp;(try with_reducible rfl)) ?_
   refine tkP 13 rfl ?_
   refine tkT 14 rfl (by intro wS hSw;have hlt:=HK2.out;go_simp;(try rw [if_pos hlt]);(try with_reducible rfl)) ?_
   refine tkT 15 rfl (by intro wS hSw;have c:=hSw.2;go_simp;(try with_reducible rfl)) ?_
   refine tkP 16 rfl ?_
   refine tkT 17 (v:=.int .i64 (r8:Int)) rfl (by intro wS hSw;go_simp;rw [HQ.out,HW.out]) ?_
   refine tkT 18 (v:=.pointer (some ⟨x.1,r8,none⟩)) rfl (by intro wS hSw;go_simp;exact fun hh=>absurd hh (by omega)) ?_
   refine tkP 20 rfl ?_
   refine tkT 21 (v:=.int .i64 (r:Int)) rfl (by intro wS hSw;go_simp;rw [HR.out]) ?_
   refine tkT 22 (v:=.int .u64 (r:Int)) rfl (by intro wS hSw;go_simp;rw [HU.out]) ?_
   refine tkT 23 (v:=.int .u8 ((2 ^ r:Nat):Int)) rfl (by intro wS hSw;go_simp;have hs9:=HS8.out;push_cast at hs9;exact hs9) ?_
   refine rdy1 19 rfl (fun K' hK'=>?_)
   refine wp_run (v:=.int .u8 y.toNat) (w':=x0) (by go_simp) ?_
   refine hK'.out _ _ hS0 (fun _=>?_)
   clear hK'
   (try simp only [Act.put,qa1,qa2,qa3])
   refine tkT 24 (v:=.int .u8 ((UInt8.ofNat (y.toNat ^^^ 2 ^ r)).toNat:Int)) rfl (by intro wS hSw;go_simp;rw [HX.out];simp) ?_
   refine tkT 25 (v:=.pointer (some ⟨x.1,r8,none⟩)) rfl (by intro wS hSw;go_simp;exact fun hh=>absurd hh (by omega)) ?_
   refine rdy1 26 rfl (fun K' hK'=>?_)
   have sd':x0.ownsRow B 5 1 (.slice (some ⟨x.1,0,none⟩) 64 x.2) 64 (bys p.rest):=sd
   refine wp_stOwn 5 _ _ (byv (UInt8.ofNat (y.toNat ^^^ 2 ^ r))) sizeOf5 rfl rfl rfl rfl sd' hq64 ?_
   intro w6 hr6 g6
   have e6:(bys p.rest).set r8 (byv (UInt8.ofNat (y.toNat ^^^ 2 ^ r)))=bys (p.rest.set r8 (UInt8.ofNat (y.toNat ^^^ 2 ^ r))):=by unfold bys;rw [List.map_set]
   rw [e6] at hr6
   obtain ⟨h6,k6⟩:=hd.setByte HP.out HX2.out hr6 g6
   obtain ⟨cs6,hcs6,_⟩:=own_block sd
   obtain ⟨csr,hcsr,_⟩:=hd.blk_r
   have S6:w6.cell? ⟨q.rb,k,none⟩=some (.slice (some ⟨x.1,0,none⟩) 64 x.2):=by
    have e:=blk_neT hcs6 g6 _ _ _ (by decide) hcsr
    have:=hS0.2
    unfold World.cell? at this ⊢
    simp only [hcsr] at this
    simp only [e]
    exact this
   refine hK'.out _ _ ⟨blk_neT hcs6 g6 _ _ _ (by decide) hS0.1,S6⟩ (fun _=>?_)
   refine wpAnyH_done (by kernel_rfl) ?_ _
   go_wp2
   go_ret
   exact ⟨rfl,⟨q,h6⟩,kd.trans k6⟩
 ·rw [if_pos (by simpa using h0)]
  have h2:=there_two h.n0 h0
  rw [h2] at hh ⊢
  clear h2 h0
  go_enter func143,ntmps143
  go_wp2_with (go_at_call 147;refine hh.mono ?_;rintro e w1 ⟨rfl,rfl⟩)
  go_ret
  exact ⟨rfl,⟨_,h⟩,Kx.refl _ _ _⟩
end
end
section
theorem rest_nil {d:Dk} {s:Int} (h:¬ ((restD d s).2.2=0∧(restD d s).2.1=false)):(restD d s).1=[]:=by
 unfold restD at h ⊢
 split
 ·rfl
 ·rename_i h0
  rw [if_neg h0] at h
  split
  ·rfl
  ·rename_i h1
   rw [if_neg h1] at h
   exact absurd ⟨rfl,rfl⟩ h
theorem owns64 {w:World} {base:Nat} {a:Option Addr} {c:Nat} {l:List UInt8} (h:w.ownsRow base 5 1 (.slice a 64 c) 64 (bys l)):l.length=64∧SlB w a c l:=by
 have hl:l.length=64:=by
  have:=h.1
  rw [bys_len] at this
  omega
 rw [← hl] at h
 obtain ⟨a',c',e,hs⟩:=SlB.of_owns h
 injection e with e1 e2 e3
 subst e1 e3
 exact ⟨hl,hs⟩
theorem slb_nil (w:World):SlB w none 0 []:=⟨.inl rfl,Nat.le_refl _,by simp,fun _=>rfl⟩
theorem RestRes.slb {base:Nat} {d:Dk} {s:Int} {e:Ending} {w':World} (h:RestRes base (restD d s) e w'):∃ a c,e=.returned (.tuple #[.slice a (restD d s).1.length c,.bool (restD d s).2.1,.int .i64 (restD d s).2.2])∧SlB w' a c (restD d s).1:=by
 have hn:=@rest_nil d s
 generalize restD d s=r at *
 unfold RestRes at h
 split at h
 ·rename_i h0
  obtain ⟨a,c,he,ho⟩:=h
  obtain ⟨h1,h2⟩:=owns64 ho
  refine ⟨a,c,?_,h2⟩
  rw [he,h1,h0.1,h0.2]
 ·rename_i h0
  have:=hn h0
  rw [this]
  exact ⟨none,0,h,slb_nil w'⟩
theorem ReadRes.slb {base:Nat} {r:List UInt8×Int} {e:Ending} {w':World} (h:ReadRes base r e w') (hn:¬ r.2=0→r.1=[]):∃ a c,e=.returned (.tuple #[.slice a r.1.length c,.int .i64 r.2])∧SlB w' a c r.1:=by
 unfold ReadRes at h
 split at h
 ·rename_i h0
  obtain ⟨a,c,he,ho⟩:=h
  obtain ⟨h1,h2⟩:=owns64 ho
  refine ⟨a,c,?_,h2⟩
  rw [he,h1,h0]
 ·rename_i h0
  rw [hn h0]
  exact ⟨none,0,h,slb_nil w'⟩
section
variable {B g gp:Nat} {wv:Value} {d:Dk} {w:World}
end
end
end Go.Proofs.YtbdonjenekhmdaaGreatDoor
