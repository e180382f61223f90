/- Texts that the claim leans on, part 13: D37b, D38, D39a, D39, D40, D41, X5, X6. -/
import Derived.Test.YtbdonjenekhmdaaGreatDoorZ1
import Derived.Test.YtbdonjenekhmdaaGreatDoorZ2
import Derived.Test.YtbdonjenekhmdaaGreatDoorZ3
import Derived.Test.YtbdonjenekhmdaaGreatDoorZ4
import Derived.Test.YtbdonjenekhmdaaGreatDoorZ5
import Derived.Test.YtbdonjenekhmdaaGreatDoorZ6
import Derived.Test.YtbdonjenekhmdaaGreatDoorZ7
import Derived.Test.YtbdonjenekhmdaaGreatDoorZ8
import Derived.Test.YtbdonjenekhmdaaGreatDoorZ9
import Derived.Test.YtbdonjenekhmdaaGreatDoorZ10
import Derived.Test.YtbdonjenekhmdaaGreatDoorZ11
import Derived.Test.YtbdonjenekhmdaaGreatDoorZ12
namespace Go.Proofs.YtbdonjenekhmdaaGreatDoor
open Go.RowKit Go.Proofs.Tryz
set_option maxRecDepth 100000
set_option maxHeartbeats 32000000
section
theorem open_m2 (b off:Nat) (cap:Nat) (l:List UInt8) (w:World) (hs:SlB w (some ⟨b,off,none⟩) cap l) (hl:l.length=128) (hz:noughtsB l=false):Calls Tryz.prog 211 #[.slice (some ⟨b,off,none⟩) 128 cap] w fun e w'=>FrRes w.heap.size (openF l) e w'∧Below w.heap.size w w':=by
 rw [openF_ok (N:=128) hl (by decide) hz]
 have hroom:∀ w,Calls Tryz.prog 116 #[.int .i64 2] w fun e w'=>e=.returned (.int .i64 88)∧w=w':=fun w=>room_any 2 w
 have hcap:128≤cap:=by have:=hs.le;omega
 have hmx:=hs.max
 unfold maxLen at hmx
 have k2:¬ cap=2:=by omega
 have k17:¬ cap=17:=by omega
 have hbB:=blw w (Obj.cells #[.int .i64 0,.int .i64 0,.int .i64 0,.int .i64 0,.int .i64 0] 39)
 have B3:=heap_alloc_new w (Obj.cells #[.int .i64 0,.int .i64 0,.int .i64 0,.int .i64 0,.int .i64 0] 39)
 have hno:=noughts_any _ cap l (w.alloc (Obj.cells #[.int .i64 0,.int .i64 0,.int .i64 0,.int .i64 0,.int .i64 0] 39)) (hs.below hbB)
 rw [hl,hz] at hno
 obtain ⟨n,hn,hnlt⟩:∃ n,getN l 0 2=n∧n < 65536:=⟨_,rfl,getN_lt l 0 2⟩
 obtain ⟨s,hsn,hslt⟩:∃ s,getN l 124 4=s∧s < 4294967296:=⟨_,rfl,getN_lt l 124 4⟩
 have g1:∀ w',SlB w' (some ⟨b,off,none⟩) cap l→Calls Tryz.prog 99 #[.slice (some ⟨b,off,none⟩) 128 cap,.int .i64 0,.int .i64 2] w' fun e w''=>e=.returned (.tuple #[.int .i64 (n:Nat),.int .i64 2,.int .i64 0])∧Below w'.heap.size w' w'':=fun w' h=>by
  have:=get_ok _ cap l 0 2 w' h (by omega) (by omega)
  rw [hl,hn] at this
  exact this
 have g2:∀ w',SlB w' (some ⟨b,off,none⟩) cap l→Calls Tryz.prog 99 #[.slice (some ⟨b,off,none⟩) 128 cap,.int .i64 124,.int .i64 4] w' fun e w''=>e=.returned (.tuple #[.int .i64 (s:Nat),.int .i64 128,.int .i64 0])∧Below w'.heap.size w' w'':=fun w' h=>by
  have:=get_ok _ cap l 124 4 w' h (by omega) (by omega)
  rw [hl,hsn] at this
  exact this
 have hpa:∀ w',SlB w' (some ⟨b,off,none⟩) cap l→Calls Tryz.prog 226 #[.slice (some ⟨b,off+2,none⟩) 15 (cap - 2)] w' fun e w''=>e=.returned (.tuple #[tgV (parseT ((l.drop 2).take 15)).1,.int .i64 (parseT ((l.drop 2).take 15)).2])∧Below w'.heap.size w' w'':=fun w' h=>
  tparse_any _ _ _ w' (h.sub 2 15 (by omega)) (by rw [List.length_take,List.length_drop];omega)
 obtain ⟨tg,pe,hpt,hpe⟩:∃ tg pe,parseT ((l.drop 2).take 15)=(tg,pe)∧((pe=0∧tg=tagAt l 2∧mayTg (tagAt l 2)=true)∨(pe=30∧mayTg (tagAt l 2)=false)):=by
  unfold parseT
  rw [tagAt_sub]
  cases h:mayTg (tagAt l 2)
  ·exact ⟨_,_,rfl,.inr ⟨rfl,rfl⟩⟩
  ·exact ⟨_,_,rfl,.inl ⟨rfl,rfl,rfl⟩⟩
 rw [hpt] at hpa
 simp only at hpa
 have HPE:=Lib.hid hpe
 have HL:=Lib.hid hl
 have HN:=Lib.hid hn
 have HS:=Lib.hid hsn
 clear hpe hpt hz hl hn hsn
 go_enter func211,ntmps211
 refine seqH fun K HK=>?_
 go_wp2
 refine HK.out _ _ ?_
 clear HK
 refine seqH fun K HK=>?_
 go_wp2
 refine HK.out _ _ ?_
 clear HK
 refine seqH fun K HK=>?_
 go_wp2_with (go_at_call 116;refine (hroom _).mono ?_;rintro e w2 ⟨rfl,rfl⟩)
 refine HK.out _ _ ?_
 clear HK
 refine seqH fun K HK=>?_
 go_wp2_with (go_at_call 225;refine hno.mono ?_;rintro e w2 ⟨rfl,hb2⟩)
 refine HK.out _ _ ?_
 clear HK
 have A3:=tr_bl hb2 B3
 have hb3:=hbB.trans (hb2.mono hbB.size)
 have hs3:=hs.below hb3
 clear hno hb2 B3 hbB
 refine seqH fun K HK=>?_
 go_wp2_with (go_at_call 99;refine (g1 _ hs3).mono ?_;rintro e w4 ⟨rfl,hb4⟩)
 refine HK.out _ _ ?_
 clear HK
 have A4:=tr_bl hb4 A3
 have hb5:=hb3.trans (hb4.mono hb3.size)
 have hs5:=hs.below hb5
 clear A3 hb3 hs3 hb4
 refine seqH fun K HK=>?_
 go_wp2_with (go_at_call 226;refine (hpa _ hs5).mono ?_;rintro e w5 ⟨rfl,hb6⟩)
 refine HK.out _ _ ?_
 clear HK
 have A5:=tr_al (Obj.cells #[.int .i64 tg.rep,.int .i64 tg.reg,.int .i64 tg.pla,.int .i64 tg.idx,.int .i64 tg.inc] 39) (tr_bl hb6 A4)
 have T5:=heap_alloc_new w5 (Obj.cells #[.int .i64 tg.rep,.int .i64 tg.reg,.int .i64 tg.pla,.int .i64 tg.idx,.int .i64 tg.inc] 39)
 have hb50:=hb5.trans (hb6.mono hb5.size)
 have hb7:=hb50.alloc hb50.size (Obj.cells #[.int .i64 tg.rep,.int .i64 tg.reg,.int .i64 tg.pla,.int .i64 tg.idx,.int .i64 tg.inc] 39)
 have hq0:w.heap.size < w5.heap.size:=Nat.lt_of_lt_of_le (lt_blk A4) (hb6.size)
 have hs7:=hs.below hb7
 clear A4 hb5 hs5 hb6 hb50 hpa g1
 generalize w5.alloc (Obj.cells #[.int .i64 tg.rep,.int .i64 tg.reg,.int .i64 tg.pla,.int .i64 tg.idx,.int .i64 tg.inc] 39)=w6 at *
 generalize w5.heap.size=q at *
 refine seqH fun K HK=>?_
 go_wp2
 refine HK.out _ _ ?_
 clear HK
 refine seqH fun K HK=>?_
 go_wp2_with (go_at_call 99;refine (g2 _ hs7).mono ?_;rintro e w8 ⟨rfl,hb8'⟩)
 refine HK.out _ _ ?_
 clear HK
 have C3:=tr_bl hb8' A5
 have T8:=tr_bl hb8' T5
 have hb8:=hb7.trans (hb8'.mono hb7.size)
 have hs8:=hs.below hb8
 clear g2 hs7 hb7 hb8' A5 T5
 have hsum:=sum_any _ cap (l.take 124) w8 (hs8.take 124)
 rw [show (l.take 124).length=124 by rw [List.length_take,HL.out];rfl] at hsum
 have hno7:∀ w',Below w8.heap.size w8 w'→n≤88→Calls Tryz.prog 225 #[.slice (some ⟨b,off+(17+n),none⟩) (124 - (17+n)) (cap - (17+n))] w' fun e w''=>e=.returned (.bool (noughtsB ((l.drop (17+n)).take (128 - 21 - n))))∧Below w'.heap.size w' w'':=fun w' hb hnr=>by
  have:=noughts_any _ _ ((l.drop (17+n)).take (128 - 21 - n)) w' ((hs8.below hb).sub (17+n) (128 - 21 - n) (by rw [HL.out];omega))
  rw [show ((l.drop (17+n)).take (128 - 21 - n)).length=124 - (17+n) by rw [List.length_take,List.length_drop,HL.out];omega] at this
  exact this
 have hok:okF l 128=(mayTg (tagAt l 2) && (decide (n≤88) && (decide (s=crcS (l.take 124)) && noughtsB ((l.drop (17+n)).take (128 - 21 - n))))):=by
  unfold okF
  rw [HN.out,show 128 - 4=124 from rfl,HS.out,show roomN 128=88 from rfl]
 rw [hok,HN.out]
 clear hok
 have hz:=crcS_lt (l.take 124)
 generalize crcS (l.take 124)=z at *
 generalize hnd:noughtsB ((l.drop (17+n)).take (128 - 21 - n))=nd at *
 clear hnd
 rcases HPE.out with ⟨h1,h2,h3⟩ | ⟨h1,h3⟩
 case inr=>
  rw [h3,Bool.false_and,if_neg (by simp)]
  subst h1
  clear h3 HPE
  go_wp2_with (first
   | (go_at_call 116;refine (hroom _).mono ?_;rintro e w2 ⟨rfl,rfl⟩)
   | (go_at_call 180;refine hsum.mono ?_;rintro e w7 ⟨rfl,hb7⟩;have D3:=tr_bl hb7 C3;have hb9:=hb8.trans (hb7.mono hb8.size))
   | (go_at_call 225;refine (hno8 _ hb7).mono ?_;rintro e w8 ⟨rfl,hb10⟩;have E3:=tr_bl hb10 D3;have hb11:=hb9.trans (hb10.mono hb9.size))
   | ((with_reducible refine wpList_stB 39 _ _ ?_);refine ⟨_,_,_,⟨_,_,_,sizeOf39,rfl,C3,st5 _ rfl 0 0 0 0 0⟩,?_⟩;intro w5 B5 g5))
  refine bodyPost_ret (results_t1c1t1 rfl rfl (run_loadVar_all isAgg39 sizeOf39 B5 rfl)) rfl ⟨FrRes.none rfl,bl_st hb8 g5 hb8.size (Nat.le_refl _)⟩
 case inl=>
  rw [h3,Bool.true_and]
  subst h1
  have HTG:=Lib.hid h2
  clear h3 HPE h2
  by_cases hnr:n≤88
  case neg=>
   rw [decide_eq_false hnr,Bool.false_and,if_neg (by simp)]
   have hI:(88:Int) < n:=by omega
   go_wp2_with (first
    | (go_at_call 116;refine (hroom _).mono ?_;rintro e w2 ⟨rfl,rfl⟩)
    | (go_at_call 180;refine hsum.mono ?_;rintro e w7 ⟨rfl,hb7⟩;have D3:=tr_bl hb7 C3;have hb9:=hb8.trans (hb7.mono hb8.size))
    | (go_at_call 225;refine (hno8 _ hb7).mono ?_;rintro e w8 ⟨rfl,hb10⟩;have E3:=tr_bl hb10 D3;have hb11:=hb9.trans (hb10.mono hb9.size))
    | ((with_reducible refine wpList_stB 39 _ _ ?_);refine ⟨_,_,_,⟨_,_,_,sizeOf39,rfl,C3,st5 _ rfl 0 0 0 0 0⟩,?_⟩;intro w5 B5 g5))
   refine bodyPost_ret (results_t1c1t1 rfl rfl (run_loadVar_all isAgg39 sizeOf39 B5 rfl)) rfl ⟨FrRes.none rfl,bl_st hb8 g5 hb8.size (Nat.le_refl _)⟩
  case pos=>
   rw [decide_eq_true hnr,Bool.true_and]
   have hI:(n:Int)≤88:=by omega
   have kn:¬ cap=17+n:=by omega
   have hno8:=fun w' h=>hno7 w' h hnr
   clear hno7
   by_cases hsz:s=z
   case neg=>
    rw [decide_eq_false hsz,Bool.false_and,if_neg (by simp)]
    have hne:((s:Int) != (z:Int))=true:=by rw [bne_iff_ne];omega
    go_wp2_with (first
     | (go_at_call 116;refine (hroom _).mono ?_;rintro e w2 ⟨rfl,rfl⟩)
     | (go_at_call 180;refine hsum.mono ?_;rintro e w7 ⟨rfl,hb7⟩;have D3:=tr_bl hb7 C3;have hb9:=hb8.trans (hb7.mono hb8.size))
     | (go_at_call 225;refine (hno8 _ hb7).mono ?_;rintro e w8 ⟨rfl,hb10⟩;have E3:=tr_bl hb10 D3;have hb11:=hb9.trans (hb10.mono hb9.size))
     | ((with_reducible refine wpList_stB 39 _ _ ?_);refine ⟨_,_,_,⟨_,_,_,sizeOf39,rfl,D3,st5 _ rfl 0 0 0 0 0⟩,?_⟩;intro w5 B5 g5))
    refine bodyPost_ret (results_t1c1t1 rfl rfl (run_loadVar_all isAgg39 sizeOf39 B5 rfl)) rfl ⟨FrRes.none rfl,bl_st hb9 g5 hb9.size (Nat.le_refl _)⟩
   case pos=>
    subst hsz
    rw [decide_eq_true rfl,Bool.true_and]
    have hne:((s:Int) != (s:Int))=false:=by simp
    cases nd
    case false=>
     rw [if_neg (by simp)]
     go_wp2_with (first
      | (go_at_call 116;refine (hroom _).mono ?_;rintro e w2 ⟨rfl,rfl⟩)
      | (go_at_call 180;refine hsum.mono ?_;rintro e w7 ⟨rfl,hb7⟩;have D3:=tr_bl hb7 C3;have hb9:=hb8.trans (hb7.mono hb8.size))
      | (go_at_call 225;refine (hno8 _ hb7).mono ?_;rintro e w8 ⟨rfl,hb10⟩;have E3:=tr_bl hb10 D3;have hb11:=hb9.trans (hb10.mono hb9.size))
      | ((with_reducible refine wpList_stB 39 _ _ ?_);refine ⟨_,_,_,⟨_,_,_,sizeOf39,rfl,E3,st5 _ rfl 0 0 0 0 0⟩,?_⟩;intro w5 B5 g5))
     refine bodyPost_ret (results_t1c1t1 rfl rfl (run_loadVar_all isAgg39 sizeOf39 B5 rfl)) rfl ⟨FrRes.none rfl,bl_st hb11 g5 hb11.size (Nat.le_refl _)⟩
    case true=>
     rw [if_pos rfl]
     refine seqH fun K HK=>?_
     go_wp2_with (first
           | (go_at_call 116;refine (hroom _).mono ?_;rintro e w2 ⟨rfl,rfl⟩)
           | (go_at_call 180;refine hsum.mono ?_;rintro e w7 ⟨rfl,hb7⟩;have D3:=tr_bl hb7 C3;have T7:=tr_bl hb7 T8;have hb9:=hb8.trans (hb7.mono hb8.size))
           | (go_at_call 225;refine (hno8 _ hb7).mono ?_;rintro e w9 ⟨rfl,hb10⟩;have E3:=tr_bl hb10 D3;have T9:=tr_bl hb10 T7;have hb11:=hb9.trans (hb10.mono hb9.size)))
     refine HK.out _ _ ?_
     clear HK
     have hbl:((l.drop 17).take n).length=n:=by rw [List.length_take,List.length_drop,HL.out];omega
     have hcl:=clone_any ⟨b,off+17,none⟩ (cap - 17) ((l.drop 17).take n) w9 ((hs.below hb11).sub 17 n (by rw [HL.out];omega)) (by omega)
     rw [hbl] at hcl
     have HBL:=Lib.hid hbl
     clear hbl C3 T8 hs8 hsum hno8 hb7 D3 T7 hb9 hb10 hb8 hz
     refine seqH fun K HK=>?_
     go_wp2_with (go_at_call 214;refine hcl.mono ?_;rintro e w10 ⟨⟨g,c,rfl,hc1,hc2,ho⟩,hb12⟩)
     refine HK.out _ _ ?_
     clear HK
     clear hcl
     have F3:=tr_bl hb12 E3
     have T10:=tr_bl hb12 T9
     have hb13:=hb11.trans (hb12.mono hb11.size)
     have ho10:=ho.mono hb11.size
     clear E3 T9 hb11 hb12 ho
     unfold maxLen at hc2
     refine seqH fun K HK=>?_
     go_wp2_with fail
     have hbd:=(Below.refl w10.heap.size w10).drew
     have F4:=tr_bl hbd F3
     have T11:=tr_bl hbd T10
     have hb14:=hb13.trans (hbd.mono hb13.size)
     have ho11:=ho10.below hbd
     clear F3 T10 hb13 ho10
     refine wp_region_held_drew (S:=fun w'=>w'.heap[q]?=some (.cells #[.int .i64 tg.rep,.int .i64 tg.reg,.int .i64 tg.pla,.int .i64 tg.idx,.int .i64 tg.inc] 39 (0,0))) (by kernel_rfl) T11 (fun hS0=>?_)
     clear hbd
     generalize w10.drew=x0 at *
     refine tkT 0 (v:=.agg (#[.int .i64 tg.rep,.int .i64 tg.reg,.int .i64 tg.pla,.int .i64 tg.idx,.int .i64 tg.inc])) rfl (by intro wS hSw;exact exec_ldB 39 _ ⟨_,_,_,_,_,isAgg39,sizeOf39,rfl,hSw,ld5 _ _ _ _ _⟩) ?_
     refine tkP 1 rfl ?_
     refine tkP 2 rfl ?_
     refine tkP 3 rfl ?_
     refine tkP 4 rfl ?_
     refine tkP 5 rfl ?_
     refine rdy1 6 rfl (fun K' hK'=>?_)
     refine wp_stB 39 _ _ ?_
     refine ⟨_,_,_,⟨_,_,_,sizeOf39,rfl,F4,st5 _ rfl tg.rep tg.reg tg.pla tg.idx tg.inc⟩,?_⟩
     intro w11 B11 g11
     refine hK'.out _ _ (tr_st g11 hS0 (by omega)) (fun _=>?_)
     clear hK'
     (try simp only [Act.put,qa1,qa2,qa3])
     refine tkP 7 rfl ?_
     refine wpAnyH_done (by kernel_rfl) ?_ _
     refine HK.out _ _ ?_
     clear HK
     go_wp2
     refine bodyPost_ret (results_t1c1t1 rfl rfl (run_loadVar_all isAgg39 sizeOf39 B11 rfl)) rfl ⟨⟨some ⟨g,0,none⟩,n,?_,?_⟩,bl_st hb14 g11 hb14.size (Nat.le_refl _)⟩
     ·rw [HBL.out,← HTG.out]
      rfl
     ·exact ho11.st g11 F4 (by decide)
end
section
theorem open_any (a:Option Addr) (cap:Nat) (l:List UInt8) (w:World) (hs:SlB w a cap l) (hl:l.length≤1000):Calls Tryz.prog 211 #[.slice a l.length cap] w fun e w'=>FrRes w.heap.size (openF l) e w'∧Below w.heap.size w w':=by
 by_cases hr:roomN l.length=0
 ·exact open_odd a cap l w hl hr
 ·obtain ⟨h64,_⟩:=roomN_of (n:=l.length) (by omega)
  rcases h64 with h | h
  ·rw [h]
   cases hz:noughtsB l
   ·obtain ⟨b,off,rfl⟩:=hs.some_of (by omega)
    exact open_m1 b off cap l w hs h hz
   ·exact open_n1 a cap l w hs h hz
  ·rw [h]
   cases hz:noughtsB l
   ·obtain ⟨b,off,rfl⟩:=hs.some_of (by omega)
    exact open_m2 b off cap l w hs h hz
   ·exact open_n2 a cap l w hs h hz
theorem mine_any (a:Option Addr) (cap:Nat) (l:List UInt8) (rep reg pla:Int) (w:World) (hs:SlB w a cap l) (hl:l.length≤1000):Calls Tryz.prog 171 #[.slice a l.length cap,.int .i64 rep,.int .i64 reg,.int .i64 pla] w fun e w'=>FrRes w.heap.size (mineF l rep reg pla) e w'∧Below w.heap.size w w':=by
 obtain ⟨st,tg,body,hr⟩:∃ st tg body,openF l=(st,tg,body):=⟨_,_,_,rfl⟩
 unfold mineF
 rw [hr]
 have HR:=Lib.hid hr
 clear hr
 have hbB:=blw w (Obj.cells #[.int .i64 0,.int .i64 0,.int .i64 0,.int .i64 0,.int .i64 0] 39)
 have B3:=heap_alloc_new w (Obj.cells #[.int .i64 0,.int .i64 0,.int .i64 0,.int .i64 0,.int .i64 0] 39)
 simp only
 by_cases hst:st=1
 case neg=>
  rw [if_neg (fun hh=>hst hh.1)]
  have h0:((st:Int)==1)=false:=by rw [beq_eq_false_iff_ne];omega
  clear hst
  go_enter func171,ntmps171
  refine seqH fun K HK=>?_
  go_wp2
  refine HK.out _ _ ?_
  clear HK
  refine seqH fun K HK=>?_
  go_wp2_with (go_at_call 211;refine (open_any a cap l _ (hs.below hbB) hl).mono ?_;rintro e w2 ⟨⟨a2,c2,rfl,ho2⟩,hb2⟩;rw [HR.out] at ho2;rw [HR.out];have A3:=tr_bl hb2 B3)
  refine HK.out _ _ ?_
  clear HK
  have C3:=tr_al (Obj.cells #[.int .i64 tg.rep,.int .i64 tg.reg,.int .i64 tg.pla,.int .i64 tg.idx,.int .i64 tg.inc] 39) A3
  have T3:=heap_alloc_new w2 (Obj.cells #[.int .i64 tg.rep,.int .i64 tg.reg,.int .i64 tg.pla,.int .i64 tg.idx,.int .i64 tg.inc] 39)
  have hb3:=hbB.trans (hb2.mono hbB.size)
  have hb4:=hb3.alloc hb3.size (Obj.cells #[.int .i64 tg.rep,.int .i64 tg.reg,.int .i64 tg.pla,.int .i64 tg.idx,.int .i64 tg.inc] 39)
  have hq:w.heap.size < w2.heap.size:=lt_blk A3
  have ho3:=(ho2.mono hbB.size).below (blw w2 (Obj.cells #[.int .i64 tg.rep,.int .i64 tg.reg,.int .i64 tg.pla,.int .i64 tg.idx,.int .i64 tg.inc] 39))
  clear A3 hb2 hb3 ho2
  generalize w2.alloc (Obj.cells #[.int .i64 tg.rep,.int .i64 tg.reg,.int .i64 tg.pla,.int .i64 tg.idx,.int .i64 tg.inc] 39)=w3 at *
  generalize w2.heap.size=q at *
  have q0:=blk_cell T3 0 _ rfl
  have q1:=blk_cell T3 1 _ rfl
  have q2:=blk_cell T3 2 _ rfl
  refine seqH fun K HK=>?_
  go_wp2
  refine HK.out _ _ ?_
  clear HK
  refine seqH fun K HK=>?_
  go_wp2_with fail
  have hbd:=(Below.refl w3.heap.size w3).drew
  have F4:=tr_bl hbd C3
  have T11:=tr_bl hbd T3
  have hb14:=hb4.trans (hbd.mono hb4.size)
  have ho11:=ho3.below hbd
  clear C3 T3 hb4 ho3 q0 q1 q2
  refine wp_region_held_drew (S:=fun w'=>w'.heap[q]?=some (.cells #[.int .i64 tg.rep,.int .i64 tg.reg,.int .i64 tg.pla,.int .i64 tg.idx,.int .i64 tg.inc] 39 (0,0))) (by kernel_rfl) T11 (fun hS0=>?_)
  clear hbd
  generalize w3.drew=x0 at *
  refine tkP 0 rfl ?_
  refine tkT 1 (v:=.agg (#[.int .i64 tg.rep,.int .i64 tg.reg,.int .i64 tg.pla,.int .i64 tg.idx,.int .i64 tg.inc])) rfl (by intro wS hSw;exact exec_ldB 39 _ ⟨_,_,_,_,_,isAgg39,sizeOf39,rfl,hSw,ld5 _ _ _ _ _⟩) ?_
  refine tkP 2 rfl ?_
  refine tkP 3 rfl ?_
  refine rdy1 4 rfl (fun K' hK'=>?_)
  refine wp_stB 39 _ _ ?_
  refine ⟨_,_,_,⟨_,_,_,sizeOf39,rfl,F4,st5 _ rfl tg.rep tg.reg tg.pla tg.idx tg.inc⟩,?_⟩
  intro w11 B11 g11
  refine hK'.out _ _ (tr_st g11 hS0 (by omega)) (fun _=>?_)
  clear hK'
  (try simp only [Act.put,qa1,qa2,qa3])
  refine tkP 5 rfl ?_
  refine wpAnyH_done (by kernel_rfl) ?_ _
  refine HK.out _ _ ?_
  clear HK
  go_wp2
  refine bodyPost_ret (results_t1c1t1 rfl rfl (run_loadVar_all isAgg39 sizeOf39 B11 rfl)) rfl ⟨⟨a2,c2,rfl,ho11.st g11 F4 (by decide)⟩,bl_st hb14 g11 hb14.size (Nat.le_refl _)⟩
 case pos=>
  subst hst
  have h0:(((1:Nat):Int)==1)=true:=rfl
  by_cases h1:tg.rep=rep
  case neg=>
   rw [if_pos ⟨rfl,.inl h1⟩]
   have e1:(tg.rep != rep)=true:=by rw [bne_iff_ne];exact h1
   go_enter func171,ntmps171
   refine seqH fun K HK=>?_
   go_wp2
   refine HK.out _ _ ?_
   clear HK
   refine seqH fun K HK=>?_
   go_wp2_with (go_at_call 211;refine (open_any a cap l _ (hs.below hbB) hl).mono ?_;rintro e w2 ⟨⟨a2,c2,rfl,ho2⟩,hb2⟩;rw [HR.out] at ho2;rw [HR.out];have A3:=tr_bl hb2 B3)
   refine HK.out _ _ ?_
   clear HK
   have C3:=tr_al (Obj.cells #[.int .i64 tg.rep,.int .i64 tg.reg,.int .i64 tg.pla,.int .i64 tg.idx,.int .i64 tg.inc] 39) A3
   have T3:=heap_alloc_new w2 (Obj.cells #[.int .i64 tg.rep,.int .i64 tg.reg,.int .i64 tg.pla,.int .i64 tg.idx,.int .i64 tg.inc] 39)
   have hb3:=hbB.trans (hb2.mono hbB.size)
   have hb4:=hb3.alloc hb3.size (Obj.cells #[.int .i64 tg.rep,.int .i64 tg.reg,.int .i64 tg.pla,.int .i64 tg.idx,.int .i64 tg.inc] 39)
   have hq:w.heap.size < w2.heap.size:=lt_blk A3
   have ho3:=(ho2.mono hbB.size).below (blw w2 (Obj.cells #[.int .i64 tg.rep,.int .i64 tg.reg,.int .i64 tg.pla,.int .i64 tg.idx,.int .i64 tg.inc] 39))
   clear A3 hb2 hb3 ho2
   generalize w2.alloc (Obj.cells #[.int .i64 tg.rep,.int .i64 tg.reg,.int .i64 tg.pla,.int .i64 tg.idx,.int .i64 tg.inc] 39)=w3 at *
   generalize w2.heap.size=q at *
   have q0:=blk_cell T3 0 _ rfl
   have q1:=blk_cell T3 1 _ rfl
   have q2:=blk_cell T3 2 _ rfl
   go_wp2_with ((with_reducible refine wpList_stB 39 _ _ ?_);refine ⟨_,_,_,⟨_,_,_,sizeOf39,rfl,C3,st5 _ rfl 0 0 0 0 0⟩,?_⟩;intro w5 B5 g5)
   refine bodyPost_ret (results_t1c1t1 rfl rfl (run_loadVar_all isAgg39 sizeOf39 B5 rfl)) rfl ⟨FrRes.none rfl,bl_st hb4 g5 hb4.size (Nat.le_refl _)⟩
  case pos=>
   have e1:(tg.rep != rep)=false:=by simpa using h1
   by_cases h2:tg.reg=reg
   case neg=>
    rw [if_pos ⟨rfl,.inr (.inl h2)⟩]
    have e2:(tg.reg != reg)=true:=by rw [bne_iff_ne];exact h2
    clear h1
    go_enter func171,ntmps171
    refine seqH fun K HK=>?_
    go_wp2
    refine HK.out _ _ ?_
    clear HK
    refine seqH fun K HK=>?_
    go_wp2_with (go_at_call 211;refine (open_any a cap l _ (hs.below hbB) hl).mono ?_;rintro e w2 ⟨⟨a2,c2,rfl,ho2⟩,hb2⟩;rw [HR.out] at ho2;rw [HR.out];have A3:=tr_bl hb2 B3)
    refine HK.out _ _ ?_
    clear HK
    have C3:=tr_al (Obj.cells #[.int .i64 tg.rep,.int .i64 tg.reg,.int .i64 tg.pla,.int .i64 tg.idx,.int .i64 tg.inc] 39) A3
    have T3:=heap_alloc_new w2 (Obj.cells #[.int .i64 tg.rep,.int .i64 tg.reg,.int .i64 tg.pla,.int .i64 tg.idx,.int .i64 tg.inc] 39)
    have hb3:=hbB.trans (hb2.mono hbB.size)
    have hb4:=hb3.alloc hb3.size (Obj.cells #[.int .i64 tg.rep,.int .i64 tg.reg,.int .i64 tg.pla,.int .i64 tg.idx,.int .i64 tg.inc] 39)
    have hq:w.heap.size < w2.heap.size:=lt_blk A3
    have ho3:=(ho2.mono hbB.size).below (blw w2 (Obj.cells #[.int .i64 tg.rep,.int .i64 tg.reg,.int .i64 tg.pla,.int .i64 tg.idx,.int .i64 tg.inc] 39))
    clear A3 hb2 hb3 ho2
    generalize w2.alloc (Obj.cells #[.int .i64 tg.rep,.int .i64 tg.reg,.int .i64 tg.pla,.int .i64 tg.idx,.int .i64 tg.inc] 39)=w3 at *
    generalize w2.heap.size=q at *
    have q0:=blk_cell T3 0 _ rfl
    have q1:=blk_cell T3 1 _ rfl
    have q2:=blk_cell T3 2 _ rfl
    go_wp2_with ((with_reducible refine wpList_stB 39 _ _ ?_);refine ⟨_,_,_,⟨_,_,_,sizeOf39,rfl,C3,st5 _ rfl 0 0 0 0 0⟩,?_⟩;intro w5 B5 g5)
    refine bodyPost_ret (results_t1c1t1 rfl rfl (run_loadVar_all isAgg39 sizeOf39 B5 rfl)) rfl ⟨FrRes.none rfl,bl_st hb4 g5 hb4.size (Nat.le_refl _)⟩
   case pos=>
    have e2:(tg.reg != reg)=false:=by simpa using h2
    by_cases h3:tg.pla=pla
    case neg=>
     rw [if_pos ⟨rfl,.inr (.inr h3)⟩]
     have e3:(tg.pla != pla)=true:=by rw [bne_iff_ne];exact h3
     clear h1 h2
     go_enter func171,ntmps171
     refine seqH fun K HK=>?_
     go_wp2
     refine HK.out _ _ ?_
     clear HK
     refine seqH fun K HK=>?_
     go_wp2_with (go_at_call 211;refine (open_any a cap l _ (hs.below hbB) hl).mono ?_;rintro e w2 ⟨⟨a2,c2,rfl,ho2⟩,hb2⟩;rw [HR.out] at ho2;rw [HR.out];have A3:=tr_bl hb2 B3)
     refine HK.out _ _ ?_
     clear HK
     have C3:=tr_al (Obj.cells #[.int .i64 tg.rep,.int .i64 tg.reg,.int .i64 tg.pla,.int .i64 tg.idx,.int .i64 tg.inc] 39) A3
     have T3:=heap_alloc_new w2 (Obj.cells #[.int .i64 tg.rep,.int .i64 tg.reg,.int .i64 tg.pla,.int .i64 tg.idx,.int .i64 tg.inc] 39)
     have hb3:=hbB.trans (hb2.mono hbB.size)
     have hb4:=hb3.alloc hb3.size (Obj.cells #[.int .i64 tg.rep,.int .i64 tg.reg,.int .i64 tg.pla,.int .i64 tg.idx,.int .i64 tg.inc] 39)
     have hq:w.heap.size < w2.heap.size:=lt_blk A3
     have ho3:=(ho2.mono hbB.size).below (blw w2 (Obj.cells #[.int .i64 tg.rep,.int .i64 tg.reg,.int .i64 tg.pla,.int .i64 tg.idx,.int .i64 tg.inc] 39))
     clear A3 hb2 hb3 ho2
     generalize w2.alloc (Obj.cells #[.int .i64 tg.rep,.int .i64 tg.reg,.int .i64 tg.pla,.int .i64 tg.idx,.int .i64 tg.inc] 39)=w3 at *
     generalize w2.heap.size=q at *
     have q0:=blk_cell T3 0 _ rfl
     have q1:=blk_cell T3 1 _ rfl
     have q2:=blk_cell T3 2 _ rfl
     go_wp2_with ((with_reducible refine wpList_stB 39 _ _ ?_);refine ⟨_,_,_,⟨_,_,_,sizeOf39,rfl,C3,st5 _ rfl 0 0 0 0 0⟩,?_⟩;intro w5 B5 g5)
     refine bodyPost_ret (results_t1c1t1 rfl rfl (run_loadVar_all isAgg39 sizeOf39 B5 rfl)) rfl ⟨FrRes.none rfl,bl_st hb4 g5 hb4.size (Nat.le_refl _)⟩
    case pos=>
     rw [if_neg (by rintro ⟨_,h | h | h⟩ <;> contradiction)]
     have e3:(tg.pla != pla)=false:=by simpa using h3
     clear h1 h2 h3
     go_enter func171,ntmps171
     refine seqH fun K HK=>?_
     go_wp2
     refine HK.out _ _ ?_
     clear HK
     refine seqH fun K HK=>?_
     go_wp2_with (go_at_call 211;refine (open_any a cap l _ (hs.below hbB) hl).mono ?_;rintro e w2 ⟨⟨a2,c2,rfl,ho2⟩,hb2⟩;rw [HR.out] at ho2;rw [HR.out];have A3:=tr_bl hb2 B3)
     refine HK.out _ _ ?_
     clear HK
     have C3:=tr_al (Obj.cells #[.int .i64 tg.rep,.int .i64 tg.reg,.int .i64 tg.pla,.int .i64 tg.idx,.int .i64 tg.inc] 39) A3
     have T3:=heap_alloc_new w2 (Obj.cells #[.int .i64 tg.rep,.int .i64 tg.reg,.int .i64 tg.pla,.int .i64 tg.idx,.int .i64 tg.inc] 39)
     have hb3:=hbB.trans (hb2.mono hbB.size)
     have hb4:=hb3.alloc hb3.size (Obj.cells #[.int .i64 tg.rep,.int .i64 tg.reg,.int .i64 tg.pla,.int .i64 tg.idx,.int .i64 tg.inc] 39)
     have hq:w.heap.size < w2.heap.size:=lt_blk A3
     have ho3:=(ho2.mono hbB.size).below (blw w2 (Obj.cells #[.int .i64 tg.rep,.int .i64 tg.reg,.int .i64 tg.pla,.int .i64 tg.idx,.int .i64 tg.inc] 39))
     clear A3 hb2 hb3 ho2
     generalize w2.alloc (Obj.cells #[.int .i64 tg.rep,.int .i64 tg.reg,.int .i64 tg.pla,.int .i64 tg.idx,.int .i64 tg.inc] 39)=w3 at *
     generalize w2.heap.size=q at *
     have q0:=blk_cell T3 0 _ rfl
     have q1:=blk_cell T3 1 _ rfl
     have q2:=blk_cell T3 2 _ rfl
     refine seqH fun K HK=>?_
     go_wp2
     refine HK.out _ _ ?_
     clear HK
     refine seqH fun K HK=>?_
     go_wp2_with fail
     have hbd:=(Below.refl w3.heap.size w3).drew
     have F4:=tr_bl hbd C3
     have T11:=tr_bl hbd T3
     have hb14:=hb4.trans (hbd.mono hb4.size)
     have ho11:=ho3.below hbd
     clear C3 T3 hb4 ho3 q0 q1 q2
     refine wp_region_held_drew (S:=fun w'=>w'.heap[q]?=some (.cells #[.int .i64 tg.rep,.int .i64 tg.reg,.int .i64 tg.pla,.int .i64 tg.idx,.int .i64 tg.inc] 39 (0,0))) (by kernel_rfl) T11 (fun hS0=>?_)
     clear hbd
     generalize w3.drew=x0 at *
     refine tkP 0 rfl ?_
     refine tkT 1 (v:=.agg (#[.int .i64 tg.rep,.int .i64 tg.reg,.int .i64 tg.pla,.int .i64 tg.idx,.int .i64 tg.inc])) rfl (by intro wS hSw;exact exec_ldB 39 _ ⟨_,_,_,_,_,isAgg39,sizeOf39,rfl,hSw,ld5 _ _ _ _ _⟩) ?_
     refine tkP 2 rfl ?_
     refine tkP 3 rfl ?_
     refine rdy1 4 rfl (fun K' hK'=>?_)
     refine wp_stB 39 _ _ ?_
     refine ⟨_,_,_,⟨_,_,_,sizeOf39,rfl,F4,st5 _ rfl tg.rep tg.reg tg.pla tg.idx tg.inc⟩,?_⟩
     intro w11 B11 g11
     refine hK'.out _ _ (tr_st g11 hS0 (by omega)) (fun _=>?_)
     clear hK'
     (try simp only [Act.put,qa1,qa2,qa3])
     refine tkP 5 rfl ?_
     refine wpAnyH_done (by kernel_rfl) ?_ _
     refine HK.out _ _ ?_
     clear HK
     go_wp2
     refine bodyPost_ret (results_t1c1t1 rfl rfl (run_loadVar_all isAgg39 sizeOf39 B11 rfl)) rfl ⟨⟨a2,c2,rfl,ho11.st g11 F4 (by decide)⟩,bl_st hb14 g11 hb14.size (Nat.le_refl _)⟩
end
section
def txB (l:List UInt8):ByteArray:=⟨l.toArray⟩
end
section
def coA (st:Nat) (t:Tg) (v:Value):Array Value:=#[.int .u8 (st:Int),.int .i64 t.rep,.int .i64 t.reg,.int .i64 t.pla,.int .i64 t.idx,.int .i64 t.inc,v]
section
variable {w:World} {q off:Nat} {T:TypeId} {st:Nat} {t:Tg} {v:Value}
end
end
section
def sameC (c x:Cp):Bool:=decide (c.st=x.st) && (decide (c.tg.idx=x.tg.idx) && decide (c.body=x.body))
def ceA (g:Nat) (rep reg:Int) (s0:Nat) (t0:Tg) (v0:Value) (s1:Nat) (t1:Tg) (v1:Value):Array Value:=
 #[.pointer (some ⟨g,0,none⟩),.int .i64 rep,.int .i64 reg,.int .u8 (s0:Int),.int .i64 t0.rep,.int .i64 t0.reg,.int .i64 t0.pla,.int .i64 t0.idx,.int .i64 t0.inc,v0,
  .int .u8 (s1:Int),.int .i64 t1.rep,.int .i64 t1.reg,.int .i64 t1.pla,.int .i64 t1.idx,.int .i64 t1.inc,v1]
section
variable {w:World} {q g:Nat} {rep reg:Int} {s0 s1:Nat} {t0 t1:Tg} {v0 v1:Value}
end
def cpA (s0:Nat) (t0:Tg) (v0:Value) (s1:Nat) (t1:Tg) (v1:Value):Array Value:=
 #[.int .u8 (s0:Int),.int .i64 t0.rep,.int .i64 t0.reg,.int .i64 t0.pla,.int .i64 t0.idx,.int .i64 t0.inc,v0,
  .int .u8 (s1:Int),.int .i64 t1.rep,.int .i64 t1.reg,.int .i64 t1.pla,.int .i64 t1.idx,.int .i64 t1.inc,v1]
section
variable {w:World} {q:Nat} {T:TypeId} {s0 s1:Nat} {t0 t1:Tg} {v0 v1:Value}
end
end
section
end
section
structure Live (d:Dk):Prop where
 len:d.pl.length=156
 w:d.waits=[]
 dn:d.down=false
 de:d.dead=false
section
variable {d:Dk} {t:Tg} {body:List UInt8} {k:Nat}
end
abbrev Vo:=Option (Int×Int×List UInt8)
def okO:Vo→Prop
 | none=>True
 | some (v,i,b)=>1≤v∧v≤1099511627776∧1≤i∧i≤1099511627776∧b.length≤43
def frO (reg:Int) (i:Int):Vo→List UInt8
 | none=>zeros64
 | some (v,c,b)=>sealF ⟨0,reg,i,v,c⟩ b 64
def verO:Vo→Int
 | none=>0
 | some (v,_,_)=>v
def bodO:Vo→List UInt8
 | none=>[]
 | some (_,_,b)=>b
structure Cel (d:Dk) (reg:Int) (o0 o1:Vo):Prop where
 r:reg=1∨reg=2
 k0:okO o0
 k1:okO o1
 p0:∃ m,d.pl[(firstN reg 0).toNat]?=some ⟨frO reg 0 o0,m,false⟩
 p1:∃ m,d.pl[(firstN reg 1).toNat]?=some ⟨frO reg 1 o1,m,false⟩
def coO (reg i:Int):Vo→Cp
 | none=>⟨0,zeroTg,[]⟩
 | some (v,c,b)=>⟨1,⟨0,reg,i,v,c⟩,b⟩
def maxO (o0 o1:Vo):Vo:=if verO o0 < verO o1 then o1 else o0
end
section
section
variable {d:Dk} {k j:Nat}
end
def putP (d:Dk) (k:Nat) (f:List UInt8):Dk:={ d with pl:=d.pl.set k ⟨f,f,false⟩,waits:=[],left:=(if 0 < d.left then d.left - 2 else d.left) }
/-! Places of a cell. -/
def secC (reg:Int) (i:Nat):Nat:=(if reg=1 then 0 else 2)+i
theorem sec_first {reg:Int} (hr:reg=1∨reg=2) {i:Nat} (hi:i < 2):firstN reg (i:Int)=((secC reg i:Nat):Int)∧secC reg i < 4:=by
 rcases hr with rfl | rfl <;> rcases (show i=0∨i=1 by omega) with rfl | rfl <;> decide
def cop (d:Dk) (rep reg:Int) (i:Nat):Cp:=⟨(mineF (readD d (secC reg i)).1 rep reg i).1,(mineF (readD d (secC reg i)).1 rep reg i).2.1,(mineF (readD d (secC reg i)).1 rep reg i).2.2⟩
theorem copy_cop {d:Dk} {rep reg:Int} (hr:reg=1∨reg=2):copyC d rep reg 0=cop d rep reg 0∧copyC d rep reg 1=cop d rep reg 1:=by
 have a:=(sec_first hr (i:=0) (by omega)).1
 have b:=(sec_first hr (i:=1) (by omega)).1
 constructor
 ·unfold copyC cop
  rw [← a]
  rfl
 ·unfold copyC cop
  rw [← b]
  rfl
theorem cop_frame {d:Dk} {rep reg v c:Int} {b:List UInt8} {i:Nat} {e:Int} (h:readD d (secC reg i)=(sealF ⟨rep,reg,i,v,c⟩ b 64,e)) (hm:mayTg ⟨rep,reg,i,v,c⟩=true) (hb:b.length≤43):cop d rep reg i=⟨1,⟨rep,reg,i,v,c⟩,b⟩:=by
 unfold cop
 rw [h]
 simp only
 have:=mine_seal (n:=64) hm (by decide) (show b.length≤roomN 64 from hb)
 simp only at this
 rw [this]
theorem cop_zero {d:Dk} {rep reg:Int} {i:Nat} {e:Int} (h:readD d (secC reg i)=(zeros64,e)):cop d rep reg i=⟨0,zeroTg,[]⟩:=by
 unfold cop
 rw [h]
 rfl
theorem may_cell2 {rep reg v c:Int} {i:Nat} (hp:0≤rep∧rep≤6) (hr:reg=1∨reg=2) (hi:i < 2) (h1:0≤v) (h2:v≤1099511627776) (h3:1≤c) (h4:c≤1099511627776):mayTg ⟨rep,reg,i,v,c⟩=true:=by
 have hpl:placesN reg=2:=by rcases hr with rfl | rfl <;> rfl
 have a2:((i:Nat):Int) < 2:=by omega
 simp [mayTg,hpl,hp.1,hp.2,a2,h1,h2,h3,h4]
theorem open_live {d:Dk} {rep reg:Int} (h:Live d) (hp:0≤rep∧rep≤6) (hr:reg=1∨reg=2):openC d rep reg=0:=by
 have hu:upD d=true:=by unfold upD;rw [h.len,h.dn,h.de];rfl
 unfold openC
 rw [h.len,hu]
 have a:¬ rep < 0:=by omega
 have b:¬ 7≤rep:=by omega
 rcases hr with rfl | rfl <;> simp [a,b]
theorem load_live {d:Dk} {rep reg:Int} (h:Live d) (hp:0≤rep∧rep≤6) (hr:reg=1∨reg=2):loadC d rep reg=if (loadedC (cop d rep reg 0) (cop d rep reg 1)).2.1=false then (0,[],(loadedC (cop d rep reg 0) (cop d rep reg 1)).2.2) else ((pickC (cop d rep reg 0) (cop d rep reg 1)).tg.idx,(pickC (cop d rep reg 0) (cop d rep reg 1)).body,0):=by
 unfold loadC
 rw [open_live h hp hr,(copy_cop hr).1,(copy_cop hr).2]
 simp
/-! A store: where there is power for all of it. -/
def firstP (c0 c1:Cp):Nat:=if (loadedC c0 c1).2.1=true then 1 - (loadedC c0 c1).1 else 0
section
variable {d:Dk} {rep reg inc:Int} {body:List UInt8}
end
end
end Go.Proofs.YtbdonjenekhmdaaGreatDoor
