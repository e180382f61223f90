/- Texts that the claim leans on, part 6: D11, D12, D13, D14, D15a, D15, D16a, D16. -/
import Derived.Test.YtbdonjenekhmdaaGreatDoorZ1
import Derived.Test.YtbdonjenekhmdaaGreatDoorZ2
import Derived.Test.YtbdonjenekhmdaaGreatDoorZ3
import Derived.Test.YtbdonjenekhmdaaGreatDoorZ4
import Derived.Test.YtbdonjenekhmdaaGreatDoorZ5
import Derived.Great.BuildSlice
import Derived.Great.FillDense
namespace Go.Proofs.YtbdonjenekhmdaaGreatDoor
open Go.RowKit Go.Proofs.Tryz
set_option maxRecDepth 100000
set_option maxHeartbeats 32000000
section
theorem dk_down (gp:Nat) (wv:Value) (d:Dk) (x:Bool):2+1≤(dkA gp wv d).size∧(Value.bool x).cells.size=1∧(∀ u ∈ (Value.bool x).cells.toList,u.oneCell'=true)∧((dkA gp wv d).toList.take 2++(Value.bool x).cells.toList++(dkA gp wv d).toList.drop (2+1)).toArray=dkA gp wv { d with down:=x }:=
 ⟨by show _≤5;omega,rfl,by simp [Value.cells,Value.oneCell'],rfl⟩
theorem dk_dead (gp:Nat) (wv:Value) (d:Dk) (x:Bool):3+1≤(dkA gp wv d).size∧(Value.bool x).cells.size=1∧(∀ u ∈ (Value.bool x).cells.toList,u.oneCell'=true)∧((dkA gp wv d).toList.take 3++(Value.bool x).cells.toList++(dkA gp wv d).toList.drop (3+1)).toArray=dkA gp wv { d with dead:=x }:=
 ⟨by show _≤5;omega,rfl,by simp [Value.cells,Value.oneCell'],rfl⟩
theorem dk_left (gp:Nat) (wv:Value) (d:Dk) (x:Int):4+1≤(dkA gp wv d).size∧(Value.int .i64 x).cells.size=1∧(∀ u ∈ (Value.int .i64 x).cells.toList,u.oneCell'=true)∧((dkA gp wv d).toList.take 4++(Value.int .i64 x).cells.toList++(dkA gp wv d).toList.drop (4+1)).toArray=dkA gp wv { d with left:=x }:=
 ⟨by show _≤5;omega,rfl,by simp [Value.cells,Value.oneCell'],rfl⟩
section
variable {B g gp:Nat} {wv:Value} {d d':Dk} {w w':World}
theorem DiskB.turn (h:DiskB B g gp wv d w) (hB:w'.heap[g]?=some (.cells (dkA gp wv d') 95 (0,0))) (hg:w.grownBy w' (some g)) (h1:d'.pl=d.pl) (h2:d'.waits=d.waits) (h3:-1≤d'.left) (h4:d'.left≤9223372036854775807):DiskB B g gp wv d' w'∧Kt B w w':=by
 have hne:g≠gp:=by
  rintro rfl
  have:=h.box.symm.trans h.pls
  injection this with this
  injection this with _ e
  revert e
  decide
 refine ⟨⟨hB,?_,?_,h.gb,h.pb,by rw [h1];exact h.n0,by rw [h1];exact h.nl,h3,h4,by rw [h1];exact h.ok,by rw [h1,h2];exact h.wk⟩,Kt.st hg h.box (.inl rfl) h.gb⟩
 ·rw [h1]
  exact tr_st hg h.pls hne
 ·rw [h2]
  exact owns_ne h.wts hg h.box (by decide)
end
section
variable {B g gp:Nat} {wv:Value} {d:Dk} {w:World}
theorem spend_any (h:DiskB B g gp wv d w):Calls Tryz.prog 113 #[.pointer (some ⟨g,0,none⟩)] w fun e w'=>e=.returned (.int .i64 (spendD d).2)∧DiskB B g gp wv (spendD d).1 w'∧Kt B w w':=by
 have c4:=h.c4
 have hB:=h.box
 have hlo:=h.lo
 have hhi:=h.hi
 by_cases h0:d.left=0
 ·have hs:spendD d=({ d with dead:=true },5):=by unfold spendD;rw [if_pos h0]
  rw [hs]
  rw [h0] at c4
  clear hs
  go_enter func113,ntmps113
  go_wp2_with ((first | (with_reducible refine wpList_stB 4 _ _ ?_) | (with_reducible refine wp_stB 4 _ _ ?_));refine ⟨_,_,_,⟨_,_,_,sizeOf4,rfl,‹_›,dk_dead _ _ _ true⟩,?_⟩;intro w5 B5 g5)
  go_ret
  exact ⟨rfl,h.turn B5 g5 rfl rfl hlo hhi⟩
 ·by_cases h1:0 < d.left
  ·have hs:spendD d=({ d with left:=d.left - 1 },0):=by unfold spendD;rw [if_neg h0,if_pos h1]
   rw [hs]
   have h0b:(d.left==0)=false:=by rw [beq_eq_false_iff_ne];exact h0
   clear hs
   go_enter func113,ntmps113
   go_wp2_with ((first | (with_reducible refine wpList_stB 3 _ _ ?_) | (with_reducible refine wp_stB 3 _ _ ?_));refine ⟨_,_,_,⟨_,_,_,sizeOf3,rfl,‹_›,dk_left _ _ _ (d.left - 1)⟩,?_⟩;intro w5 B5 g5)
   go_ret
   exact ⟨rfl,h.turn B5 g5 rfl rfl (by simp only;omega) (by simp only;omega)⟩
  ·have hs:spendD d=(d,0):=by unfold spendD;rw [if_neg h0,if_neg h1]
   rw [hs]
   have h0b:(d.left==0)=false:=by rw [beq_eq_false_iff_ne];exact h0
   clear hs
   go_enter func113,ntmps113
   go_wp2
   go_ret
   exact ⟨rfl,h,Kt.refl _ _⟩
theorem power_any (h:DiskB B g gp wv d w) (n:Int) (hn:n≤9223372036854775807):Calls Tryz.prog 134 #[.pointer (some ⟨g,0,none⟩),.int .i64 n] w fun e w'=>e=.returned (.int .i64 (powerD d n).2)∧DiskB B g gp wv (powerD d n).1 w'∧Kt B w w':=by
 have hB:=h.box
 obtain ⟨r,hr⟩:∃ r,live0 d=r:=⟨_,rfl⟩
 have hlv:=live_no h
 rw [hr] at hlv
 unfold powerD
 rw [hr]
 by_cases h0:r=0
 ·subst h0
  rw [if_neg (by simp)]
  by_cases h1:n < 0
  ·rw [if_pos h1]
   go_enter func134,ntmps134
   go_wp2_with (go_at_call 112;refine hlv.mono ?_;rintro e w1 ⟨rfl,rfl⟩)
   go_ret
   exact ⟨rfl,h,Kt.refl _ _⟩
  ·rw [if_neg h1]
   go_enter func134,ntmps134
   go_wp2_with (first
    | (go_at_call 112;refine hlv.mono ?_;rintro e w1 ⟨rfl,rfl⟩)
    | ((first | (with_reducible refine wpList_stB 3 _ _ ?_) | (with_reducible refine wp_stB 3 _ _ ?_));refine ⟨_,_,_,⟨_,_,_,sizeOf3,rfl,‹_›,dk_left _ _ _ n⟩,?_⟩;intro w5 B5 g5))
   go_ret
   exact ⟨rfl,h.turn B5 g5 rfl rfl (by simp only;omega) hn⟩
 ·rw [if_pos h0]
  have h0b:(r != 0)=true:=by simpa using h0
  go_enter func134,ntmps134
  go_wp2_with (go_at_call 112;refine hlv.mono ?_;rintro e w1 ⟨rfl,rfl⟩)
  go_ret
  exact ⟨rfl,h,Kt.refl _ _⟩
theorem start_any (h:DiskB B g gp wv d w):Calls Tryz.prog 130 #[.pointer (some ⟨g,0,none⟩)] w fun e w'=>e=.returned (.int .i64 (startD d).2)∧DiskB B g gp wv (startD d).1 w'∧Kt B w w':=by
 have hB:=h.box
 have c2:=h.c2
 have hn:=h.n0
 have ht:=there_no h
 unfold startD there0
 rw [if_neg (show ¬ d.pl.length=0 by omega),if_neg (by simp)]
 cases hdn:d.down
 case false=>
  rw [hdn] at c2
  rw [if_pos rfl]
  go_enter func130,ntmps130
  go_wp2_with (go_at_call 181;refine ht.mono ?_;rintro e w1 ⟨rfl,rfl⟩)
  go_ret
  exact ⟨rfl,h,Kt.refl _ _⟩
 case true=>
  rw [hdn] at c2
  rw [if_neg (by simp)]
  go_enter func130,ntmps130
  go_wp2_with (first
   | (go_at_call 181;refine ht.mono ?_;rintro e w1 ⟨rfl,rfl⟩)
   | ((first | (with_reducible refine wpList_stB 4 _ _ ?_) | (with_reducible refine wp_stB 4 _ _ ?_));refine ⟨_,_,_,⟨_,_,_,sizeOf4,rfl,‹_›,dk_down _ _ d false⟩,?_⟩;intro w5 B5 g5;have D5:=h.turn B5 g5 rfl rfl h.lo h.hi)
   | ((first | (with_reducible refine wpList_stB 4 _ _ ?_) | (with_reducible refine wp_stB 4 _ _ ?_));refine ⟨_,_,_,⟨_,_,_,sizeOf4,rfl,‹_›,dk_dead _ _ _ false⟩,?_⟩;intro w6 B6 g6;have D6:=D5.1.turn B6 g6 rfl rfl h.lo h.hi)
   | ((first | (with_reducible refine wpList_stB 3 _ _ ?_) | (with_reducible refine wp_stB 3 _ _ ?_));refine ⟨_,_,_,⟨_,_,_,sizeOf3,rfl,‹_›,dk_left _ _ _ (-1)⟩,?_⟩;intro w7 B7 g7;have D7:=D6.1.turn B7 g7 rfl rfl (by simp) (by simp)))
  go_ret
  exact ⟨rfl,D7.1,(D5.2.trans D6.2).trans D7.2⟩
theorem up_any (h:DiskB B g gp wv d w):Calls Tryz.prog 43 #[.pointer (some ⟨g,0,none⟩)] w fun e w'=>e=.returned (.bool (upD d))∧w=w':=by
 have c2:=h.c2
 have c3:=h.c3
 have hn:=h.n0
 have h0:(0:Int) < d.pl.length:=by omega
 unfold upD
 rw [decide_eq_true hn]
 cases hdn:d.down <;> cases hde:d.dead
 all_goals
  rw [hdn] at c2
  rw [hde] at c3
  go_enter func43,ntmps43
  go_wp2_with (go_at_call 33;refine (dsize h).mono ?_;rintro e w1 ⟨rfl,rfl⟩)
  go_ret
  exact ⟨rfl,rfl⟩
end
end
section
section
variable {B g gp:Nat} {wv:Value} {d:Dk} {w:World}
theorem there_1 (h:DiskB B g gp wv d w) (s:Int) (q:Nat) (hq:w.cell? ⟨q,0,none⟩=some (.int .i64 s)):Calls Tryz.prog 181 #[.pointer (some ⟨g,0,none⟩),.slice (some ⟨q,0,none⟩) 1 1] w fun e w'=>e=.returned (.int .i64 (thereD d s))∧w=w':=by
 have h0:((d.pl.length:Int)==0)=false:=by have:=h.n0;rw [beq_eq_false_iff_ne];omega
 have c0:=h.c0
 obtain ⟨r,hr⟩:∃ r,thereD d s=r:=⟨_,rfl⟩
 rw [hr]
 unfold thereD at hr
 rw [if_neg (show ¬ d.pl.length=0 by have:=h.n0;omega)] at hr
 have HR:=Lib.hid hr
 clear hr
 go_enter func181,ntmps181
 go_wp2_with (go_at_call 33;refine (dsize h).mono ?_;rintro e w1 ⟨rfl,rfl⟩)
 go_loopw [12,6] (fun i _ wr=>∃ k:Nat,k≤1∧i=.int .i64 (k:Nat)∧(k=1→r=0)∧wr=w) (fun i _ _=>1 - (intOf i).toNat)
 case atStart=>exact ⟨0,by omega,rfl,by omega,rfl⟩
 case round=>
  obtain ⟨k,hk,rfl,hkr,rfl⟩:=hrel
  rcases (show k=0∨k=1 by omega) with rfl | rfl
  ·by_cases h1:s < 0
   ·obtain rfl:r=2:=by rw [← HR.out,if_pos (.inl h1)]
    go_wp2
    go_ret
    exact ⟨rfl,rfl⟩
   ·by_cases h2:(d.pl.length:Int)≤s
    ·obtain rfl:r=2:=by rw [← HR.out,if_pos (.inr h2)]
     go_wp2
     go_ret
     exact ⟨rfl,rfl⟩
    ·obtain rfl:r=0:=by rw [← HR.out,if_neg (by omega)]
     go_wp2
     go_roundw
     case rel=>exact ⟨1,by omega,by first | rfl | go_num,by simp,by first | trivial | rfl⟩
     case measure=>first | (simp [intOf];done) | (simp [intOf];omega)
  ·obtain rfl:r=0:=hkr rfl
   go_wp2
   go_ret
   exact ⟨rfl,rfl⟩
theorem live_1 (h:DiskB B g gp wv d w) (s:Int) (q:Nat) (hq:w.cell? ⟨q,0,none⟩=some (.int .i64 s)):Calls Tryz.prog 112 #[.pointer (some ⟨g,0,none⟩),.slice (some ⟨q,0,none⟩) 1 1] w fun e w'=>e=.returned (.int .i64 (liveD d s))∧w=w':=by
 have h0:(0:Int) < d.pl.length:=by have:=h.n0;omega
 have c2:=h.c2
 have c3:=h.c3
 have hn:=h.n0
 have ht:=there_1 h s q hq
 unfold liveD
 cases hdn:d.down
 case true=>
  rw [hdn] at c2
  rw [if_pos ⟨hn,.inl rfl⟩]
  go_enter func112,ntmps112
  go_wp2_with (go_at_call 33;refine (dsize h).mono ?_;rintro e w1 ⟨rfl,rfl⟩)
  go_ret
  exact ⟨rfl,rfl⟩
 case false=>
  rw [hdn] at c2
  cases hde:d.dead
  case true=>
   rw [hde] at c3
   rw [if_pos ⟨hn,.inr rfl⟩]
   go_enter func112,ntmps112
   go_wp2_with (go_at_call 33;refine (dsize h).mono ?_;rintro e w1 ⟨rfl,rfl⟩)
   go_ret
   exact ⟨rfl,rfl⟩
  case false=>
   rw [hde] at c3
   rw [if_neg (by simp)]
   go_enter func112,ntmps112
   go_wp2_with (first
    | (go_at_call 33;refine (dsize h).mono ?_;rintro e w1 ⟨rfl,rfl⟩)
    | (go_at_call 181;refine ht.mono ?_;rintro e w1 ⟨rfl,rfl⟩))
   go_ret
   exact ⟨rfl,rfl⟩
end
end
section
theorem pl_split {l:List Pl} {s:Nat} {p:Pl} (h:l[s]?=some p):∃ a b,l=a++p :: b∧a.length=s∧∀ p',l.set s p'=a++p' :: b:=by
 have hs:=(List.getElem?_eq_some_iff.1 h).1
 have hp:=(List.getElem?_eq_some_iff.1 h).2
 refine ⟨l.take s,l.drop (s+1),?_,by rw [List.length_take];omega,fun p'=>by rw [List.set_eq_take_append_cons_drop,if_pos hs]⟩
 rw [← hp,← List.drop_eq_getElem_cons hs,List.take_append_drop]
theorem flat_part {l:List Pl} {s r:Nat} {p p':Pl} {v:List Value} (h:l[s]?=some p) (hr:r+v.length≤129) (hv:(plC p).take r++v++(plC p).drop (r+v.length)=plC p'):(l.flatMap plC).take (s * 129+r)++v++(l.flatMap plC).drop (s * 129+r+v.length)=(l.set s p').flatMap plC:=by
 obtain ⟨a,b,rfl,hl,hset⟩:=pl_split h
 have hfa:(a.flatMap plC).length=s * 129:=by rw [flat_len plC_len,hl,Nat.mul_comm]
 have hc:=plC_len p
 rw [hset p',List.flatMap_append,List.flatMap_cons,List.flatMap_append,List.flatMap_cons,← hv]
 have e1:(a.flatMap plC++(plC p++b.flatMap plC)).take (s * 129+r)=a.flatMap plC++(plC p).take r:=by
  rw [List.take_append,List.take_of_length_le (by omega),hfa,show s * 129+r - s * 129=r by omega,List.take_append_of_le_length (by omega)]
 have e2:(a.flatMap plC++(plC p++b.flatMap plC)).drop (s * 129+r+v.length)=(plC p).drop (r+v.length)++b.flatMap plC:=by
  rw [List.drop_append,List.drop_of_length_le (show (a.flatMap plC).length≤s * 129+r+v.length by omega),hfa,show s * 129+r+v.length - s * 129=r+v.length by omega,List.nil_append,List.drop_append_of_le_length (by omega)]
 rw [e1,e2]
 simp only [List.append_assoc]
theorem pls_part {l:List Pl} {s r n:Nat} {p p':Pl} {x:Value} (h:l[s]?=some p) (hn:x.cells.size=n) (hr:r+n≤129) (h1:∀ u ∈ x.cells.toList,u.oneCell'=true) (hv:(plC p).take r++x.cells.toList++(plC p).drop (r+n)=plC p') :
  s * 129+r+n≤(plsV l).size∧x.cells.size=n∧(∀ u ∈ x.cells.toList,u.oneCell'=true)∧((plsV l).toList.take (s * 129+r)++x.cells.toList++(plsV l).toList.drop (s * 129+r+n)).toArray=plsV (l.set s p'):=by
 have hs:=(List.getElem?_eq_some_iff.1 h).1
 have hn2:x.cells.toList.length=n:=by rw [Array.length_toList];exact hn
 refine ⟨by rw [plsV_size];omega,hn,h1,?_⟩
 unfold plsV
 simp only
 rw [← hn2] at hv hr ⊢
 rw [flat_part h hr hv]
theorem pls_at {l:List Pl} {s r:Nat} {p:Pl} {u:Value} (h:l[s]?=some p) (hu:(plC p)[r]?=some u):(plsV l)[s * 129+r]?=some u:=by
 unfold plsV
 rw [List.getElem?_toArray]
 exact flat_at plC_len h r u hu
theorem pl_lost (p:Pl) (x:Bool):(plC p).take 128++(Value.bool x).cells.toList++(plC p).drop (128+1)=plC { p with lost:=x }:=by
 have h1:(bys (fix64 p.rest)).length=64:=by rw [bys_len,fix64_len]
 have h2:(bys (fix64 p.meant)).length=64:=by rw [bys_len,fix64_len]
 have h3:(bys (fix64 p.rest)++bys (fix64 p.meant)).length=128:=by rw [List.length_append,h1,h2]
 have e:plC p=(bys (fix64 p.rest)++bys (fix64 p.meant))++[.bool p.lost]:=by simp [plC]
 have e1:(plC p).take 128=bys (fix64 p.rest)++bys (fix64 p.meant):=by rw [e,← h3,List.take_left]
 have e2:(plC p).drop (128+1)=[]:=List.drop_of_length_le (by rw [plC_len];omega)
 rw [e1,e2]
 simp [plC,Value.cells]
theorem pls_lost {l:List Pl} {s:Nat} {p:Pl} (h:l[s]?=some p):s * 129+128+1≤(plsV l).size∧(Value.bool true).cells.size=1∧(∀ u ∈ (Value.bool true).cells.toList,u.oneCell'=true)∧((plsV l).toList.take (s * 129+128)++(Value.bool true).cells.toList++(plsV l).toList.drop (s * 129+128+1)).toArray=plsV (l.set s { p with lost:=true }):=
 pls_part h rfl (by omega) (by simp [Value.cells,Value.oneCell']) (pl_lost p true)
section
variable {B g gp:Nat} {wv:Value} {d:Dk} {w w':World}
theorem DiskB.sect (h:DiskB B g gp wv d w) {s:Nat} {p':Pl} (hB:w'.heap[gp]?=some (.cells (plsV (d.pl.set s p')) 255 (0,0))) (hg:w.grownBy w' (some gp)) (hp:p'.rest.length=64∧p'.meant.length=64):DiskB B g gp wv { d with pl:=d.pl.set s p' } w'∧Kt B w w':=by
 have hne:gp≠g:=by
  rintro rfl
  have:=h.box.symm.trans h.pls
  injection this with this
  injection this with _ e
  revert e
  decide
 have hl:(d.pl.set s p').length=d.pl.length:=List.length_set
 refine ⟨⟨?_,hB,owns_ne h.wts hg h.pls (by decide),h.gb,h.pb,by rw [hl];exact h.n0,by rw [hl];exact h.nl,h.lo,h.hi,?_,?_⟩,Kt.st hg h.pls (.inr (.inl rfl)) h.pb⟩
 ·have e:dkA gp wv { d with pl:=d.pl.set s p' }=dkA gp wv d:=by unfold dkA;simp only [hl]
  rw [e]
  exact tr_st hg h.box hne
 ·intro q hq
  rcases List.mem_or_eq_of_mem_set hq with hq | rfl
  ·exact h.ok q hq
  ·exact hp
 ·intro x hx
  simp only [hl]
  exact h.wk x hx
theorem modify_set {l:List Pl} {s:Nat} {p:Pl} (f:Pl→Pl) (h:l[s]?=some p):l.modify s f=l.set s (f p):=by
 obtain ⟨a,b,rfl,hl,hset⟩:=pl_split h
 rw [hset,← hl]
 clear h hset hl
 induction a with
 | nil=>rfl
 | cons x a ih=>
  show (x :: (a++p :: b)).modify (a.length+1) f=x :: (a++f p :: b)
  rw [List.modify_succ_cons,ih]
theorem lose_any (h:DiskB B g gp wv d w) (hb:B≤w.heap.size) (s:Int):Calls Tryz.prog 132 #[.pointer (some ⟨g,0,none⟩),.int .i64 s] w fun e w'=>e=.returned (.int .i64 (loseD d s).2)∧DiskB B g gp wv (loseD d s).1 w'∧Kt B w w':=by
 have hbA:=blw w (Obj.cells #[.int .i64 s] 3)
 have hA:=h.below hbA
 have hk:=Kt.of hbA hb
 have hq:(w.alloc (Obj.cells #[.int .i64 s] 3)).cell? ⟨w.heap.size,0,none⟩=some (.int .i64 s):=blk_cell (heap_alloc_new w _) 0 _ rfl
 have ht:=there_1 hA s w.heap.size hq
 have c0:=hA.c0
 have hP:=hA.pls
 unfold loseD
 by_cases h0:thereD d s=0
 ·rw [if_neg (by simpa using h0)]
  rw [h0] at ht
  have hsr:0≤s∧s < d.pl.length:=by
   unfold thereD at h0
   split at h0
   ·cases h0
   ·split at h0
    ·cases h0
    ·omega
  obtain ⟨k,rfl⟩:∃ k:Nat,s=k:=⟨s.toNat,by omega⟩
  have hk2:k < d.pl.length:=by omega
  have hpk:d.pl[k]?=some d.pl[k]:=List.getElem?_eq_getElem hk2
  simp only [Int.toNat_natCast]
  rw [modify_set _ hpk]
  have hok:=h.ok _ (List.getElem_mem hk2)
  generalize d.pl[k]=p at *
  go_enter func132,ntmps132
  go_wp2_with (first
   | (go_at_call 181;refine ht.mono ?_;rintro e w1 ⟨rfl,rfl⟩)
   | ((first | (with_reducible refine wpList_stB 4 _ _ ?_) | (with_reducible refine wp_stB 4 _ _ ?_));refine ⟨_,_,_,⟨_,_,_,sizeOf4,rfl,‹_›,pls_lost hpk⟩,?_⟩;intro w5 B5 g5))
  go_ret
  have hs:=hA.sect B5 g5 hok
  exact ⟨rfl,hs.1,hk.trans hs.2⟩
 ·rw [if_pos (by simpa using h0)]
  have h0b:(thereD d s != 0)=true:=by simpa using h0
  go_enter func132,ntmps132
  go_wp2_with (go_at_call 181;refine ht.mono ?_;rintro e w1 ⟨rfl,rfl⟩)
  go_ret
  exact ⟨rfl,hA,hk⟩
end
theorem own_any (b:List UInt8) (hb:b.length=64) (w:World):Calls Tryz.prog 210 #[.agg (bys b).toArray] w fun e w'=>(∃ a c,e=.returned (.slice a 64 c)∧w'.ownsRow w.heap.size 5 1 (.slice a 64 c) 64 (bys b))∧Below w.heap.size w w':=by
 have hr:Row (w.alloc (Obj.cells (bys b).toArray 217)) (some ⟨w.heap.size,0,none⟩) (bys b):=Row.of_block (heap_alloc_new w (Obj.cells (bys b).toArray 217)) 0 (fun i u hu=>by rw [Nat.zero_add];exact hu)
 go_enter func210,ntmps210
 refine seqH fun K HK=>?_
 go_wp2
 refine HK.out _ _ ?_
 clear HK
 change Code.wp _ _ _ _ (w.alloc (Obj.cells (bys b).toArray 217))
 go_wp2_with (at_builtin;refine wpList_append_row rfl _ _ 37 5 elByte rfl w.heap.size _ 0 [] rfl (World.ownsRow_nil _ _ _ _) (some ⟨w.heap.size,0,none⟩) 64 64 (bys b) rfl (by rw [bys_len];omega) hr bys_one (by decide) (by decide) (by simp) ?_;intro v4 w4 ho4 hb4)
 rw [Nat.zero_add,List.nil_append] at ho4
 obtain ⟨a,c,rfl,_⟩:=Row.of_owns ho4
 go_ret
 exact ⟨⟨a,c,rfl,ho4⟩,(blw w (Obj.cells (bys b).toArray 217)).trans hb4⟩
end
section
theorem lastW_hit {b:List UInt8} {k s:Nat} {l:List (List UInt8×Nat)} (h:lastW l s=none) (hk:k=s):lastW ((b,k) :: l) s=some b:=by
 simp only [lastW,h]
 rw [if_pos hk]
theorem lastW_miss {b:List UInt8} {k s:Nat} {l:List (List UInt8×Nat)} (h:lastW l s=none) (hk:k≠s):lastW ((b,k) :: l) s=none:=by
 simp only [lastW,h]
 rw [if_neg hk]
theorem lastW_pre {s:Nat} {b:List UInt8}:∀ (a l:List (List UInt8×Nat)),lastW l s=some b→lastW (a++l) s=some b
 | [],_,h=>h
 | (c,k) :: a,l,h=>by
  have:=lastW_pre a l h
  simp only [List.cons_append,lastW,this]
theorem pl_rest {l:List Pl} {k:Nat} {p:Pl} (h:l[k]?=some p) (hp:p.rest.length=64):k * 129+64≤(plsV l).size∧(plsV l).extract (k * 129) (k * 129+64)=(bys p.rest).toArray:=by
 have hs:=(List.getElem?_eq_some_iff.1 h).1
 refine ⟨by rw [plsV_size];omega,?_⟩
 obtain ⟨a,b,rfl,hl,_⟩:=pl_split h
 have hfa:(a.flatMap plC).length=k * 129:=by rw [flat_len plC_len,hl,Nat.mul_comm]
 have h64:(bys p.rest).length=64:=by rw [bys_len];exact hp
 have e:(plsV (a++p :: b)).toList=a.flatMap plC++(bys p.rest++(bys (fix64 p.meant)++[.bool p.lost]++b.flatMap plC)):=by
  unfold plsV
  simp only [List.flatMap_append,List.flatMap_cons]
  rw [show plC p=bys p.rest++(bys (fix64 p.meant)++[.bool p.lost]) by unfold plC;rw [fix64_of hp]]
  simp only [List.append_assoc]
 apply Array.toList_inj.1
 rw [Array.toList_extract,e]
 show List.take (k * 129+64 - k * 129) (List.drop (k * 129) _)=bys p.rest
 rw [← hfa,List.drop_left,show (a.flatMap plC).length+64 - (a.flatMap plC).length=64 by omega,← h64,List.take_left]
theorem pl_lostAt (p:Pl):(plC p)[128]?=some (.bool p.lost):=by
 have h1:(bys (fix64 p.rest)).length=64:=by rw [bys_len,fix64_len]
 have h2:(bys (fix64 p.meant)).length=64:=by rw [bys_len,fix64_len]
 unfold plC
 rw [List.getElem?_append_right (by omega),h1,List.getElem?_append_right (by omega),h2]
 rfl
theorem wt_sec (x:List UInt8×Nat):(wtC x)[64]?=some (.int .i64 (x.2:Int)):=by
 have h1:(bys (fix64 x.1)).length=64:=by rw [bys_len,fix64_len]
 unfold wtC
 rw [List.getElem?_append_right (by omega),h1]
 rfl
theorem wt_bytes {x:List UInt8×Nat} (hx:x.1.length=64) {j:Nat} {u:Value} (h:(bys x.1).toArray[j]?=some u):(wtC x)[j]?=some u:=by
 rw [List.getElem?_toArray] at h
 unfold wtC
 rw [fix64_of hx,List.getElem?_append_left (List.getElem?_eq_some_iff.1 h).1]
 exact h
def ReadRes (base:Nat) (r:List UInt8×Int) (e:Ending) (w':World):Prop:=
 if r.2=0 then ∃ a c,e=.returned (.tuple #[.slice a 64 c,.int .i64 0])∧w'.ownsRow base 5 1 (.slice a 64 c) 64 (bys r.1) else e=.returned (.tuple #[.slice none 0 0,.int .i64 r.2])
theorem ReadRes.err {base:Nat} {x:Int} {w':World} (h:x≠0):ReadRes base ([],x) (.returned (.tuple #[.slice none 0 0,.int .i64 x])) w':=by
 unfold ReadRes
 rw [if_neg h]
theorem ReadRes.ok {base:Nat} {b:List UInt8} {w':World} {a:Option Addr} {c:Nat} (h:w'.ownsRow base 5 1 (.slice a 64 c) 64 (bys b)):ReadRes base (b,0) (.returned (.tuple #[.slice a 64 c,.int .i64 0])) w':=by
 unfold ReadRes
 rw [if_pos rfl]
 exact ⟨a,c,rfl,h⟩
section
variable {B g gp:Nat} {wv:Value} {d:Dk} {w:World}
theorem read_any (h:DiskB B g gp wv d w) (s:Int):Calls Tryz.prog 170 #[.pointer (some ⟨g,0,none⟩),.int .i64 s] w fun e w'=>ReadRes w.heap.size (readD d s) e w'∧Below w.heap.size w w':=by
 have hbA:=blw w (Obj.cells #[.int .i64 s] 3)
 have hA:=h.below hbA
 have hq:(w.alloc (Obj.cells #[.int .i64 s] 3)).cell? ⟨w.heap.size,0,none⟩=some (.int .i64 s):=blk_cell (heap_alloc_new w _) 0 _ rfl
 have ht:=live_1 hA s w.heap.size hq
 by_cases h0:liveD d s=0
 case neg=>
  rw [show readD d s=([],liveD d s) by unfold readD;rw [if_pos h0]]
  have h0b:(liveD d s != 0)=true:=by simpa using h0
  go_enter func170,ntmps170
  go_wp2_with (go_at_call 112;refine ht.mono ?_;rintro e w1 ⟨rfl,rfl⟩)
  go_ret2
  exact ⟨ReadRes.err h0,hbA⟩
 case pos=>
  rw [h0] at ht
  have hsr:0≤s∧s < d.pl.length:=by
   unfold liveD at h0
   split at h0
   ·cases h0
   ·unfold thereD at h0
    split at h0
    ·cases h0
    ·split at h0
     ·cases h0
     ·omega
  obtain ⟨k,rfl⟩:∃ k:Nat,s=k:=⟨s.toNat,by omega⟩
  obtain ⟨R,hR⟩:∃ R,readD d k=R:=⟨_,rfl⟩
  rw [hR]
  unfold readD at hR
  rw [if_neg (by simpa using h0)] at hR
  clear h0 hq
  have hk2:k < d.pl.length:=by omega
  have hpk:d.pl[k]?=some d.pl[k]:=List.getElem?_eq_getElem hk2
  have hok:=h.ok _ (List.getElem_mem hk2)
  simp only [Int.toNat_natCast] at hR
  rw [hpk] at hR
  simp only at hR
  generalize d.pl[k]=p at *
  obtain ⟨wa,wc,rfl,hwr,hwl,hwm⟩:=Row.of_owns hA.wts
  unfold maxLen at hwm
  have c0:=hA.c0
  have c1:=hA.c1
  have hP:=hA.pls
  have cl:(w.alloc (Obj.cells #[.int .i64 (k:Int)] 3)).cell? ⟨gp,k * 129+128,none⟩=some (.bool p.lost):=blk_cell hP _ _ (pls_at hpk (pl_lostAt p))
  have hwk:=Lib.hid h.wk
  have HW:=Lib.hid hwr
  have hwA:w.heap.size≤(w.alloc (Obj.cells #[.int .i64 (k:Int)] 3)).heap.size:=hbA.size
  have HR:=Lib.hid hR
  clear hR hwr h
  go_enter func170,ntmps170
  refine seqH fun K HK=>?_
  go_wp2
  refine HK.out _ _ ?_
  clear HK
  refine seqH fun K HK=>?_
  go_wp2_with (go_at_call 112;refine ht.mono ?_;rintro e w1 ⟨rfl,rfl⟩)
  refine HK.out _ _ ?_
  clear HK
  generalize w.alloc (Obj.cells #[.int .i64 (k:Int)] 3)=wA at *
  refine seqH fun K HK=>?_
  go_wp2_with fail
  go_loopw [7] (fun i wr=>∃ j:Nat,j≤d.waits.length∧i=.int .i64 ((j:Int) - 1)∧Hid (lastW (d.waits.drop j) k=none)∧wr=wA) (fun i _=>((intOf i)+1).toNat)
  case atStart=>exact ⟨d.waits.length,Nat.le_refl _,rfl,Lib.hid (by rw [List.drop_length];rfl),rfl⟩
  case round=>
   obtain ⟨j,hj,rfl,hla,rfl⟩:=hrel
   cases j with
   | zero=>
    have hln:lastW d.waits k=none:=by have h:=hla.out;rw [List.drop_zero] at h;exact h
    have hR:=HR.out
    rw [hln] at hR
    simp only at hR
    clear hla hln HR
    cases hlo:p.lost
    case true=>
     rw [hlo,if_pos rfl] at hR
     rw [hlo] at cl
     subst hR
     rw [show (((0:Nat):Int) - 1) = -1 by omega]
     go_wp2
     refine HK.out _ _ ?_
     clear HK
     go_wp2
     go_ret2
     exact ⟨ReadRes.err (by decide),hbA⟩
    case false=>
     rw [hlo,if_neg (by simp)] at hR
     rw [hlo] at cl
     subst hR
     rw [show (((0:Nat):Int) - 1) = -1 by omega]
     go_wp2
     refine HK.out _ _ ?_
     clear HK
     go_wp2_with (first
      | ((with_reducible refine wpList_ldB 217 _ ?_);refine ⟨rfl,_,⟨_,_,_,_,_,isAgg217,sizeOf217,rfl,‹_›,pl_rest hpk hok.1⟩,?_⟩)
      | (go_at_call 210;refine (own_any _ hok.1 _).mono ?_;rintro e w5 ⟨⟨a5,c5,rfl,ho5⟩,hb5⟩))
     go_ret2
     exact ⟨ReadRes.ok (owns_mono ho5 hwA),hbA.trans (hb5.mono hwA)⟩
   | succ j=>
    have hat:d.waits[j]?=some d.waits[j]:=List.getElem?_eq_getElem (by omega)
    have hxk:=hwk.out _ (List.getElem_mem (show j < d.waits.length by omega))
    have hdr:=List.drop_eq_getElem_cons (show j < d.waits.length by omega)
    generalize d.waits[j]=x at *
    obtain ⟨b,off,rfl,hbl,hc0,hcs⟩:=HW.out.flat0 wtC_len (by decide) hat
    have cs:=hcs 64 _ (wt_sec x)
    have HDR:=Lib.hid hdr
    have HAT:=Lib.hid hat
    clear hdr hat
    rw [show (((j+1:Nat):Int) - 1)=(j:Int) by omega]
    obtain ⟨bx,kx⟩:=x
    simp only at hxk cs
    by_cases hkx:kx=k
    case pos=>
     subst hkx
     have hl2:lastW d.waits kx=some bx:=by
      have h:=lastW_pre (d.waits.take j) (d.waits.drop j) (by rw [HDR.out];exact lastW_hit hla.out rfl)
      rwa [List.take_append_drop] at h
     have hR:=HR.out
     rw [hl2] at hR
     simp only at hR
     subst hR
     clear hl2 hla HR
     go_wp2_with (first
      | ((with_reducible refine wpList_ldC 217 _ ?_);refine ⟨rfl,_,⟨_,_,_,isAgg217,sizeOf217,rfl,(show (bys bx).toArray.size=64 by rw [List.size_toArray,bys_len];exact hxk.1),fun j u hu=>hcs j u (wt_bytes hxk.1 hu)⟩,?_⟩)
      | (go_at_call 210;refine (own_any _ hxk.1 _).mono ?_;rintro e w5 ⟨⟨a5,c5,rfl,ho5⟩,hb5⟩))
     go_ret2
     exact ⟨ReadRes.ok (owns_mono ho5 hwA),hbA.trans (hb5.mono hwA)⟩
    case neg=>
     have hl2:lastW (d.waits.drop j) k=none:=by rw [HDR.out];exact lastW_miss hla.out hkx
     have HL2:=Lib.hid hl2
     have hkb:((kx:Int)==(k:Int))=false:=by rw [beq_eq_false_iff_ne];omega
     clear hl2 hla
     go_wp2
     go_roundw
     case rel=>exact ⟨j,by omega,by go_num,HL2,by first | trivial | rfl⟩
     case measure=>first | (simp [intOf];done) | (simp [intOf];omega)
end
end
section
open Go.RowKit Go
theorem fill_first {place:Nat→Option (Nat×Nat)} {cells:Array Value} {v:Value} {s:Nat} (hs:0 < s) (h0:place 0=some (0,s)) (hv:v.cells.size=s) (hc:s≤cells.size) (rest:List (Nat×Value)) :
  ∃ r:Array Value,Instr.fill place cells ((0,v) :: rest)=Instr.fill place r rest∧r.size=cells.size∧∀ k,r[k]?=if k < s then v.cells[k]? else cells[k]?:=by
 obtain ⟨r,hr,hsz,hk⟩:=Great.fill_dense hs [v] 0 cells (by intro x hx;rw [List.mem_singleton.1 hx];exact hv) (by simpa using hc)
 refine ⟨r,?_,hsz,fun k=>?_⟩
 ·have hr':Instr.fill (fun i=>some (i * s,s)) cells [(0,v)]=some r:=hr
  simp only [Instr.fill,Nat.zero_mul] at hr'
  simp only [Instr.fill,h0]
  by_cases hb:v.cells.size≠s∨0+v.cells.size > cells.size
  ·rw [if_pos (by simpa using hb)] at hr'
   cases hr'
  ·rw [if_neg (by simpa using hb)] at hr' ⊢
   injection hr' with hr'
   rw [hr']
 ·rw [hk k]
  by_cases h:k < s
  ·rw [if_pos h,if_pos ⟨by simp,by simpa using h⟩]
   simp [Nat.div_eq_of_lt h,Nat.mod_eq_of_lt h]
  ·rw [if_neg h,if_neg (by simpa using h)]
theorem fill_write {place:Nat→Option (Nat×Nat)} {cells:Array Value} {x:List UInt8×Nat} (h0:place 0=some (0,64)) (h1:place 1=some (64,1)) (hx:x.1.length=64) (hc:cells.size=65) :
  Instr.fill place cells [(0,.agg (bys x.1).toArray),(1,.int .i64 (x.2:Int))]=some (wtC x).toArray:=by
 have hsz:(Value.agg (bys x.1).toArray).cells.size=64:=by show (bys x.1).toArray.size=64;rw [List.size_toArray,bys_len];exact hx
 obtain ⟨r,hr,hs,hk⟩:=fill_first (cells:=cells) (by decide) h0 hsz (by omega) [(1,Value.int .i64 (x.2:Int))]
 rw [hr]
 simp only [Instr.fill,h1]
 have h65:r.size=65:=by omega
 rw [if_neg (by rw [h65];simp [Value.cells])]
 congr 1
 apply Array.ext_getElem?
 intro k
 have e:(Value.int IntKind.i64 (x.2:Int)).cells.zipIdx.foldl (fun cs (y:Value×Nat)=>cs.setIfInBounds (64+y.2) y.1) r=r.setIfInBounds 64 (.int .i64 (x.2:Int)):=rfl
 have e2:(fun (cs:Array Value) (x:Value×Nat)=>match x with | (c,j)=>cs.setIfInBounds (64+j) c)=(fun cs (y:Value×Nat)=>cs.setIfInBounds (64+y.2) y.1):=rfl
 rw [e2,e]
 have er:((wtC x).toArray)[k]?=(wtC x)[k]?:=by simp
 rw [er]
 unfold wtC
 rw [fix64_of hx]
 have hbl:(bys x.1).length=64:=by rw [bys_len];exact hx
 by_cases h64:k=64
 ·subst h64
  rw [Array.getElem?_setIfInBounds_self_of_lt (by omega),List.getElem?_append_right (by omega),hbl]
  rfl
 ·rw [Array.getElem?_setIfInBounds_ne (Ne.symm h64),hk k]
  by_cases hlt:k < 64
  ·rw [if_pos hlt,List.getElem?_append_left (by omega)]
   show (bys x.1).toArray[k]?=_
   simp
  ·rw [if_neg hlt,List.getElem?_append_right (by omega),hbl,Array.getElem?_eq_none (by omega),List.getElem?_eq_none (by simp;omega)]
theorem build_write {x:List UInt8×Nat} (hx:x.1.length=64) (w:World):(Instr.build 219 #[(0,.agg (bys x.1).toArray),(1,.int .i64 (x.2:Int))]).run Tryz.prog w=.ok (.agg (wtC x).toArray) w:=by
 have hz:∃ z,(zeroValue 219).run Tryz.prog w=.ok z w∧z.cells.size=65:=⟨_,Tryz.zeroValue219 w,by kernel_rfl⟩
 obtain ⟨z,hz,hzs⟩:=hz
 simp only [Instr.build,Sem.run_bind,hz,Result.andThen_ok,run_underlying underlying219]
 have hm : ∀ w, (Array.mapM (fun (f : Field) => do let n ← sizeOf f.type; pure (f.offset, n)) #[{ name := "bytes", type := 217, offset := 0, embedded := true, tag := "", pkgPath := "sexton/disk", byteOffset := 0 }, { name := "sector", type := 3, offset := 64, embedded := false, tag := "", pkgPath := "sexton/disk", byteOffset := 64 }]).run Tryz.prog w = .ok #[(0, 64), (64, 1)] w := fun _ => by kernel_rfl
 rw [hm]
 simp only [Result.andThen_ok]
 rw [fill_write (x:=x) rfl rfl hx hzs]
 rfl
theorem infoWrite:(Tryz.prog.info? 219).map (fun i=>(i.zero.isSome,i.size))=some (true,65):=by kernel_rfl
theorem wp_build1 {o:Oper} {a:Act} {w:World} {K:Act→World→Prop} {Q:Exit→Act→World→Prop} (x:Operand) (ho:o.op=.buildSlice 93 1 #[(0,x)]) (cs:Array Value) (hcs:cs.size=65) (hx:a.eval x=.agg cs)
  (h:K (a.put o.dst (.slice (some ⟨w.heap.size,0,none⟩) 1 1)) (w.alloc (.cells cs 219))):o.wp Tryz.prog a w K Q:=by
 obtain ⟨ie,hie,h2⟩:=Option.map_eq_some_iff.1 infoWrite
 simp only [Prod.mk.injEq] at h2
 obtain ⟨hz,hsz⟩:=h2
 obtain ⟨z,hz⟩:=Option.isSome_iff_exists.1 hz
 refine Go.wp_buildSlice 93 219 1 _ ho cs ie z underlying93 hie hz (by rw [hsz];decide) (by rw [hsz];decide) ?_ h
 have hf:=Great.fill_whole (s:=65) (by decide) [Value.agg cs] ((Array.range (1 * ie.size)).map (z.cells[· % z.cells.size]!)) (by intro v hv;rw [List.mem_singleton.1 hv];exact hcs) (by simp [hsz])
 have e:([Value.agg cs].flatMap fun v=>v.cells.toList).toArray=cs:=by simp [Value.cells]
 rw [e] at hf
 rw [hsz] at hf ⊢
 simpa [hx] using hf
end
section
theorem elWrite:ElemT Tryz.prog 93 219 65 72:=ElemT.of (.agg (wtC ([],0)).toArray) underlying93 (by kernel_rfl) (by kernel_rfl) (by decide)
theorem wt_one (x:List UInt8×Nat):∀ u ∈ wtC x,u.oneCell'=true:=by
 intro u hu
 unfold wtC at hu
 rcases List.mem_append.1 hu with h | h
 ·exact bys_one u h
 ·rw [List.mem_singleton.1 h];rfl
theorem dk_waits (gp:Nat) (wv:Value) (d:Dk) (a:Option Addr) (n c:Nat):1+1≤(dkA gp wv d).size∧(Value.slice a n c).cells.size=1∧(∀ u ∈ (Value.slice a n c).cells.toList,u.oneCell'=true)∧((dkA gp wv d).toList.take 1++(Value.slice a n c).cells.toList++(dkA gp wv d).toList.drop (1+1)).toArray=dkA gp (.slice a n c) d:=
 ⟨by show _≤5;omega,rfl,by simp [Value.cells,Value.oneCell'],rfl⟩
theorem Kt.app {B n:Nat} {w w':World} {v:Value} {xs:List Value} (h:w.ownsRow B 219 65 v n xs) (hg:w.grownBy w' v.ownBlock) (hB:B≤w.heap.size):Kt B w w':=
 ⟨gb_to_below hg hB (fun k e=>(h.lt k e).1),fun _ _ _ hc _ _ h3=>tr_gb hg hc (own_ne h hc (Ne.symm h3))⟩
theorem DiskB.wrote {B g gp k len:Nat} {wv:Value} {d:Dk} {w w8 w9:World} {b:List UInt8} {a:Option Addr} {c:Nat} {pl:List Pl} (h:DiskB B g gp wv d w) (_:d.pl=pl) (hb:b.length=64) (hk:k < d.pl.length) (ho:w8.ownsRow B 219 65 (.slice a len c) (d.waits.length+1) (d.waits.flatMap wtC++wtC (b,k))) (hg:w.grownBy w8 wv.ownBlock)
  (hB:w9.heap[g]?=some (.cells (dkA gp (.slice a len c) d) 95 (0,0))) (hg9:w8.grownBy w9 (some g)) (hz:B≤w.heap.size):DiskB B g gp (.slice a len c) { d with waits:=d.waits++[(b,k)] } w9∧Kt B w w9:=by
 have b8:=tr_gb hg h.box (own_ne h.wts h.box (by decide))
 have p8:=tr_gb hg h.pls (own_ne h.wts h.pls (by decide))
 have hne:g≠gp:=by
  rintro rfl
  have:=h.box.symm.trans h.pls
  injection this with this
  injection this with _ e
  revert e
  decide
 refine ⟨⟨hB,tr_st hg9 p8 hne,?_,h.gb,h.pb,h.n0,h.nl,h.lo,h.hi,h.ok,?_⟩,(Kt.app h.wts hg hz).trans (Kt.st hg9 b8 (.inl rfl) h.gb)⟩
 ·have:=owns_ne ho hg9 b8 (by decide)
  simp only [List.length_append,List.length_singleton,List.flatMap_append,List.flatMap_cons,List.flatMap_nil,List.append_nil]
  exact this
 ·intro x hx
  rcases List.mem_append.1 hx with hx | hx
  ·exact h.wk x hx
  ·rw [List.mem_singleton.1 hx];exact ⟨hb,hk⟩
theorem exec_write {a:Act} {w:World} {dst:Option Tmp} {ty':TypeId} {pos:String} {af:Array Edge} {gd:Option (Nat×Bool)} {x y:Operand} {b:List UInt8} {k:Nat} (h:b.length=64) (hx:a.eval x=.agg (bys b).toArray) (hy:a.eval y=.int .i64 (k:Int)) :
  (execOp a.eval (Oper.mk dst (.build 219 #[(0,x),(1,y)]) ty' pos af gd)).run Tryz.prog w=.ok (.value (.agg (wtC (b,k)).toArray)) w:=by
 have hb:=build_write (x:=(b,k)) h w
 unfold execOp
 simp [hx,hy,hb]
theorem arr_at (a:Option Addr) (c:Nat) (w:World):(Instr.arrayAt 217 (.slice a 64 c)).run Tryz.prog w=.ok (.pointer a) w:=by
 simp [Instr.arrayAt,run_underlying underlying217]
section
variable {B g gp:Nat} {wv:Value} {d:Dk} {w:World}
theorem write_any (h:DiskB B g gp wv d w) (hb:B≤w.heap.size) (s:Int) (ba:Option Addr) (bc:Nat) (b:List UInt8) (hs:∀ w',Kt B w w'→SlB w' ba bc b) (hw:d.waits.length≤1000000) :
  Calls Tryz.prog 62 #[.pointer (some ⟨g,0,none⟩),.int .i64 s,.slice ba b.length bc] w fun e w'=>e=.returned (.int .i64 (writeD d s b).2)∧(∃ wv',DiskB B g gp wv' (writeD d s b).1 w')∧Kt B w w':=by
 have hbA:=blw w (Obj.cells #[.int .i64 s] 3)
 have hA:=h.below hbA
 have hkA:=Kt.of hbA hb
 have hq:(w.alloc (Obj.cells #[.int .i64 s] 3)).cell? ⟨w.heap.size,0,none⟩=some (.int .i64 s):=blk_cell (heap_alloc_new w _) 0 _ rfl
 have ht:=live_1 hA s w.heap.size hq
 by_cases h0:liveD d s=0
 case neg=>
  rw [show writeD d s b=(d,liveD d s) by unfold writeD;rw [if_pos h0]]
  have h0b:(liveD d s != 0)=true:=by simpa using h0
  go_enter func62,ntmps62
  go_wp2_with (go_at_call 112;refine ht.mono ?_;rintro e w1 ⟨rfl,rfl⟩)
  go_ret
  exact ⟨rfl,⟨_,hA⟩,hkA⟩
 case pos=>
  rw [h0] at ht
  have hsr:0≤s∧s < d.pl.length:=by
   unfold liveD at h0
   split at h0
   ·cases h0
   ·unfold thereD at h0
    split at h0
    ·cases h0
    ·split at h0
     ·cases h0
     ·omega
  by_cases h64:b.length=64
  case neg=>
   rw [show writeD d s b=(d,2) by unfold writeD;rw [if_neg (by simpa using h0),if_pos h64]]
   have hnb:((b.length:Int) != 64)=true:=by rw [bne_iff_ne];omega
   go_enter func62,ntmps62
   go_wp2_with (go_at_call 112;refine ht.mono ?_;rintro e w1 ⟨rfl,rfl⟩)
   go_ret
   exact ⟨rfl,⟨_,hA⟩,hkA⟩
  case pos=>
   have hsp:=spend_any hA
   obtain ⟨⟨d1,e1⟩,hsd⟩:∃ x,spendD d=x:=⟨_,rfl⟩
   rw [hsd] at hsp
   have hwr:writeD d s b=if e1≠0 then (d1,e1) else ({ d1 with waits:=d1.waits++[(b,s.toNat)] },0):=by
    unfold writeD
    rw [if_neg (by simpa using h0),if_neg (by simpa using h64),hsd]
   rw [hwr]
   have hd1:d1.pl=d.pl∧d1.waits=d.waits:=by
    unfold spendD at hsd
    split at hsd
    ·injection hsd with a _;rw [← a];exact ⟨rfl,rfl⟩
    ·split at hsd
     ·injection hsd with a _;rw [← a];exact ⟨rfl,rfl⟩
     ·injection hsd with a _;rw [← a];exact ⟨rfl,rfl⟩
   have HD1:=Lib.hid hd1
   clear hsd hwr h0 hd1
   by_cases he:e1=0
   case neg=>
    rw [if_pos he]
    have heb:(e1 != 0)=true:=by simpa using he
    go_enter func62,ntmps62
    rw [h64]
    go_wp2_with (first
     | (go_at_call 112;refine ht.mono ?_;rintro e w1 ⟨rfl,rfl⟩)
     | (go_at_call 113;refine hsp.mono ?_;rintro e w2 ⟨rfl,hd2,hk2⟩))
    go_ret
    exact ⟨rfl,⟨_,hd2⟩,hkA.trans hk2⟩
   case pos=>
    subst he
    rw [if_neg (by simp)]
    obtain ⟨k,rfl⟩:∃ k:Nat,s=k:=⟨s.toNat,by omega⟩
    simp only [Int.toNat_natCast]
    go_enter func62,ntmps62
    rw [h64]
    refine seqH fun K HK=>?_
    go_wp2
    refine HK.out _ _ ?_
    clear HK
    refine seqH fun K HK=>?_
    go_wp2_with (go_at_call 112;refine ht.mono ?_;rintro e w1 ⟨rfl,rfl⟩)
    refine HK.out _ _ ?_
    clear HK
    refine seqH fun K HK=>?_
    go_wp2
    refine HK.out _ _ ?_
    clear HK
    refine seqH fun K HK=>?_
    go_wp2_with (go_at_call 113;refine hsp.mono ?_;rintro e w2 ⟨rfl,hd2,hk2⟩)
    refine HK.out _ _ ?_
    clear HK
    have hk3:=hkA.trans hk2
    have hsl:=hs _ hk3
    clear hs hsp ht hA hkA hk2
    refine seqH fun K HK=>?_
    refine wp_region_held_drew (S:=fun _=>True) (by kernel_rfl) trivial (fun _=>?_)
    have hdc:=hd2.below (Below.refl w2.heap.size w2).drew
    have hs3:=hsl.below (Below.refl w2.heap.size w2).drew
    have hz2:B≤w2.heap.size:=Nat.le_trans hb hk3.bl.size
    have hkc:=hk3.trans (Kt.of (Below.refl w2.heap.size w2).drew hz2)
    have hbc:B≤w2.drew.heap.size:=hz2
    obtain ⟨o1,o2,rfl,hr3⟩:=hs3.row.at (k:=0) (by rw [bys_len];omega)
    generalize w2.drew=x0 at *
    clear hk3 hsl hs3 hd2 hz2 hb
    refine tkP 0 rfl ?_
    refine tkP 1 rfl ?_
    refine tkP 2 rfl ?_
    refine tkP 3 rfl ?_
    refine tkP 5 rfl ?_
    refine tkT 6 (v:=.pointer (some ⟨o1,o2,none⟩)) rfl (by intro wS hSw;go_simp;rw [arr_at];rfl) ?_
    refine tkP 8 rfl ?_
    obtain ⟨wa,wc,rfl,_⟩:=Row.of_owns hdc.wts
    refine wpAnyH_ready (rs:=[4,7]) (by kernel_rfl) (by simp) ?_
    refine AllReadyH.cons (o:=⟨_,_,_,_,_,_⟩) rfl (fun K' hK'=>?_) (AllReadyH.cons (o:=⟨_,_,_,_,_,_⟩) rfl (fun K' hK'=>?_) (AllReadyH.nil))
    ·refine (if_pos (by rfl)).mpr ?_
     have c:=hdc.c1
     go_simp
     clear c
     refine hK'.out _ _ trivial (fun _=>?_)
     refine wpAnyH_ready (rs:=[7]) (by kernel_rfl) (by simp) ?_
     refine AllReadyH.cons (o:=⟨_,_,_,_,_,_⟩) rfl (fun K' hK'=>?_) (AllReadyH.nil)
     ·refine (if_pos (by rfl)).mpr ?_
      refine wp_ldC 217 _ (v:=(bys b).toArray) ⟨_,_,_,isAgg217,sizeOf217,rfl,by rw [List.size_toArray,bys_len];exact h64,fun j u hu=>hr3 j u (by rw [List.getElem?_toArray] at hu;exact hu)⟩ ?_
      refine hK'.out _ _ trivial (fun _=>?_)
      refine tkT 9 (v:=.agg (wtC (b,k)).toArray) rfl (by intro wS hSw;exact exec_write h64 rfl rfl) ?_
      refine wpAnyH_ready (rs:=[10]) (by kernel_rfl) (by simp) ?_
      refine AllReadyH.cons (o:=⟨_,_,_,_,_,_⟩) rfl (fun K' hK'=>?_) (AllReadyH.nil)
      ·refine (if_pos (by rfl)).mpr ?_
       refine wp_build1 _ rfl (wtC (b,k)).toArray (by rw [List.size_toArray,wtC_len]) rfl ?_
       have hnc:=heap_alloc_new x0 (Obj.cells (wtC (b,k)).toArray 219)
       have hdc:=hdc.below (blw x0 (Obj.cells (wtC (b,k)).toArray 219))
       have hkc:=hkc.trans (Kt.of (blw x0 (Obj.cells (wtC (b,k)).toArray 219)) hbc)
       have hbc:=Nat.le_trans hbc (blw x0 (Obj.cells (wtC (b,k)).toArray 219)).size
       refine hK'.out _ _ trivial (fun _=>?_)
       refine wpAnyH_ready (rs:=[11]) (by kernel_rfl) (by simp) ?_
       refine AllReadyH.cons (o:=⟨_,_,_,_,_,_⟩) rfl (fun K' hK'=>?_) (AllReadyH.nil)
       refine (if_pos (by rfl)).mpr ?_
       refine wp_appN _ _ 93 93 219 219 elWrite underlying93 rfl B _ _ _ rfl hdc.wts ⟨x0.heap.size,0,none⟩ 1 1 (wtC (b,k)) rfl (wtC_len _) (fun j u hu=>?_) (wt_one _) (by rw [HD1.out.2];omega) (by decide) hbc ?_
       ·rw [addr_add]
        exact blk_cell hnc _ u (by rw [Nat.zero_add,List.getElem?_toArray];exact hu)
       intro v8 x8 ho8 hg8
       obtain ⟨a8,c8,rfl,_⟩:=Row.of_owns ho8
       refine hK'.out _ _ trivial (fun _=>?_)
       refine tkP 12 rfl ?_
       refine tkP 13 rfl ?_
       refine wpAnyH_ready (rs:=[14]) (by kernel_rfl) (by simp) ?_
       refine AllReadyH.cons (o:=⟨_,_,_,_,_,_⟩) rfl (fun K' hK'=>?_) (AllReadyH.nil)
       refine (if_pos (by rfl)).mpr ?_
       have box8:=tr_gb hg8 hdc.box (own_ne hdc.wts hdc.box (by decide))
       refine wp_stB 93 _ _ ?_
       refine ⟨_,_,_,⟨_,_,_,sizeOf93,rfl,box8,dk_waits _ _ _ _ _ _⟩,?_⟩
       intro x9 B9 g9
       refine hK'.out _ _ trivial (fun _=>?_)
       refine wpAnyH_done (by kernel_rfl) ?_ _
       refine HK.out _ _ ?_
       clear HK
       go_wp2
       go_ret
       have hfin:=hdc.wrote HD1.out.1 h64 (by rw [HD1.out.1];omega) ho8 hg8 B9 g9 hbc
       exact ⟨rfl,⟨_,hfin.1⟩,(hkc.trans hfin.2)⟩
    ·refine (if_pos (by rfl)).mpr ?_
     refine wp_ldC 217 _ (v:=(bys b).toArray) ⟨_,_,_,isAgg217,sizeOf217,rfl,by rw [List.size_toArray,bys_len];exact h64,fun j u hu=>hr3 j u (by rw [List.getElem?_toArray] at hu;exact hu)⟩ ?_
     refine hK'.out _ _ trivial (fun _=>?_)
     refine tkT 9 (v:=.agg (wtC (b,k)).toArray) rfl (by intro wS hSw;exact exec_write h64 rfl rfl) ?_
     refine wpAnyH_ready (rs:=[4,10]) (by kernel_rfl) (by simp) ?_
     refine AllReadyH.cons (o:=⟨_,_,_,_,_,_⟩) rfl (fun K' hK'=>?_) (AllReadyH.cons (o:=⟨_,_,_,_,_,_⟩) rfl (fun K' hK'=>?_) (AllReadyH.nil))
     ·refine (if_pos (by rfl)).mpr ?_
      have c:=hdc.c1
      go_simp
      clear c
      refine hK'.out _ _ trivial (fun _=>?_)
      refine wpAnyH_ready (rs:=[10]) (by kernel_rfl) (by simp) ?_
      refine AllReadyH.cons (o:=⟨_,_,_,_,_,_⟩) rfl (fun K' hK'=>?_) (AllReadyH.nil)
      ·refine (if_pos (by rfl)).mpr ?_
       refine wp_build1 _ rfl (wtC (b,k)).toArray (by rw [List.size_toArray,wtC_len]) rfl ?_
       have hnc:=heap_alloc_new x0 (Obj.cells (wtC (b,k)).toArray 219)
       have hdc:=hdc.below (blw x0 (Obj.cells (wtC (b,k)).toArray 219))
       have hkc:=hkc.trans (Kt.of (blw x0 (Obj.cells (wtC (b,k)).toArray 219)) hbc)
       have hbc:=Nat.le_trans hbc (blw x0 (Obj.cells (wtC (b,k)).toArray 219)).size
       refine hK'.out _ _ trivial (fun _=>?_)
       refine wpAnyH_ready (rs:=[11]) (by kernel_rfl) (by simp) ?_
       refine AllReadyH.cons (o:=⟨_,_,_,_,_,_⟩) rfl (fun K' hK'=>?_) (AllReadyH.nil)
       refine (if_pos (by rfl)).mpr ?_
       refine wp_appN _ _ 93 93 219 219 elWrite underlying93 rfl B _ _ _ rfl hdc.wts ⟨x0.heap.size,0,none⟩ 1 1 (wtC (b,k)) rfl (wtC_len _) (fun j u hu=>?_) (wt_one _) (by rw [HD1.out.2];omega) (by decide) hbc ?_
       ·rw [addr_add]
        exact blk_cell hnc _ u (by rw [Nat.zero_add,List.getElem?_toArray];exact hu)
       intro v8 x8 ho8 hg8
       obtain ⟨a8,c8,rfl,_⟩:=Row.of_owns ho8
       refine hK'.out _ _ trivial (fun _=>?_)
       refine tkP 12 rfl ?_
       refine tkP 13 rfl ?_
       refine wpAnyH_ready (rs:=[14]) (by kernel_rfl) (by simp) ?_
       refine AllReadyH.cons (o:=⟨_,_,_,_,_,_⟩) rfl (fun K' hK'=>?_) (AllReadyH.nil)
       refine (if_pos (by rfl)).mpr ?_
       have box8:=tr_gb hg8 hdc.box (own_ne hdc.wts hdc.box (by decide))
       refine wp_stB 93 _ _ ?_
       refine ⟨_,_,_,⟨_,_,_,sizeOf93,rfl,box8,dk_waits _ _ _ _ _ _⟩,?_⟩
       intro x9 B9 g9
       refine hK'.out _ _ trivial (fun _=>?_)
       refine wpAnyH_done (by kernel_rfl) ?_ _
       refine HK.out _ _ ?_
       clear HK
       go_wp2
       go_ret
       have hfin:=hdc.wrote HD1.out.1 h64 (by rw [HD1.out.1];omega) ho8 hg8 B9 g9 hbc
       exact ⟨rfl,⟨_,hfin.1⟩,(hkc.trans hfin.2)⟩
     ·refine (if_pos (by rfl)).mpr ?_
      refine wp_build1 _ rfl (wtC (b,k)).toArray (by rw [List.size_toArray,wtC_len]) rfl ?_
      have hnc:=heap_alloc_new x0 (Obj.cells (wtC (b,k)).toArray 219)
      have hdc:=hdc.below (blw x0 (Obj.cells (wtC (b,k)).toArray 219))
      have hkc:=hkc.trans (Kt.of (blw x0 (Obj.cells (wtC (b,k)).toArray 219)) hbc)
      have hbc:=Nat.le_trans hbc (blw x0 (Obj.cells (wtC (b,k)).toArray 219)).size
      refine hK'.out _ _ trivial (fun _=>?_)
      refine wpAnyH_ready (rs:=[4]) (by kernel_rfl) (by simp) ?_
      refine AllReadyH.cons (o:=⟨_,_,_,_,_,_⟩) rfl (fun K' hK'=>?_) (AllReadyH.nil)
      ·refine (if_pos (by rfl)).mpr ?_
       have c:=hdc.c1
       go_simp
       clear c
       refine hK'.out _ _ trivial (fun _=>?_)
       refine wpAnyH_ready (rs:=[11]) (by kernel_rfl) (by simp) ?_
       refine AllReadyH.cons (o:=⟨_,_,_,_,_,_⟩) rfl (fun K' hK'=>?_) (AllReadyH.nil)
       refine (if_pos (by rfl)).mpr ?_
       refine wp_appN _ _ 93 93 219 219 elWrite underlying93 rfl B _ _ _ rfl hdc.wts ⟨x0.heap.size,0,none⟩ 1 1 (wtC (b,k)) rfl (wtC_len _) (fun j u hu=>?_) (wt_one _) (by rw [HD1.out.2];omega) (by decide) hbc ?_
       ·rw [addr_add]
        exact blk_cell hnc _ u (by rw [Nat.zero_add,List.getElem?_toArray];exact hu)
       intro v8 x8 ho8 hg8
       obtain ⟨a8,c8,rfl,_⟩:=Row.of_owns ho8
       refine hK'.out _ _ trivial (fun _=>?_)
       refine tkP 12 rfl ?_
       refine tkP 13 rfl ?_
       refine wpAnyH_ready (rs:=[14]) (by kernel_rfl) (by simp) ?_
       refine AllReadyH.cons (o:=⟨_,_,_,_,_,_⟩) rfl (fun K' hK'=>?_) (AllReadyH.nil)
       refine (if_pos (by rfl)).mpr ?_
       have box8:=tr_gb hg8 hdc.box (own_ne hdc.wts hdc.box (by decide))
       refine wp_stB 93 _ _ ?_
       refine ⟨_,_,_,⟨_,_,_,sizeOf93,rfl,box8,dk_waits _ _ _ _ _ _⟩,?_⟩
       intro x9 B9 g9
       refine hK'.out _ _ trivial (fun _=>?_)
       refine wpAnyH_done (by kernel_rfl) ?_ _
       refine HK.out _ _ ?_
       clear HK
       go_wp2
       go_ret
       have hfin:=hdc.wrote HD1.out.1 h64 (by rw [HD1.out.1];omega) ho8 hg8 B9 g9 hbc
       exact ⟨rfl,⟨_,hfin.1⟩,(hkc.trans hfin.2)⟩
end
end
section
open Go.RowKit Go
theorem fill_at {place:Nat→Option (Nat×Nat)} {cells:Array Value} {v:Value} {i s:Nat} (hs:0 < s) (h0:place i=some (i * s,s)) (hv:v.cells.size=s) (hc:(i+1) * s≤cells.size) (rest:List (Nat×Value)) :
  ∃ r:Array Value,Instr.fill place cells ((i,v) :: rest)=Instr.fill place r rest∧r.size=cells.size∧∀ k,r[k]?=if i * s≤k∧k < (i+1) * s then v.cells[k % s]? else cells[k]?:=by
 obtain ⟨r,hr,hsz,hk⟩:=Great.fill_dense hs [v] i cells (by intro x hx;rw [List.mem_singleton.1 hx];exact hv) (by simpa using hc)
 refine ⟨r,?_,hsz,fun k=>?_⟩
 ·have hr':Instr.fill (fun i=>some (i * s,s)) cells [(i,v)]=some r:=hr
  simp only [Instr.fill] at hr'
  simp only [Instr.fill,h0]
  by_cases hb:v.cells.size≠s∨i * s+v.cells.size > cells.size
  ·rw [if_pos (by simpa using hb)] at hr'
   cases hr'
  ·rw [if_neg (by simpa using hb)] at hr' ⊢
   injection hr' with hr'
   rw [hr']
 ·rw [hk k]
  by_cases h:i * s≤k∧k < (i+1) * s
  ·rw [if_pos h,if_pos (by simpa using h)]
   have:k / s=i:=by
    apply Nat.div_eq_of_lt_le
    ·exact h.1
    ·exact h.2
   simp [this]
  ·rw [if_neg h,if_neg (by simpa using h)]
theorem fill_place {place:Nat→Option (Nat×Nat)} {cells:Array Value} {b:List UInt8} (h0:place 0=some (0 * 64,64)) (h1:place 1=some (1 * 64,64)) (hb:b.length=64) (hc:cells.size=129) (hz:cells[128]?=some (.bool false)) :
  Instr.fill place cells [(0,.agg (bys b).toArray),(1,.agg (bys b).toArray)]=some (plC ⟨b,b,false⟩).toArray:=by
 have hbl:(bys b).length=64:=by rw [bys_len];exact hb
 have hsz:(Value.agg (bys b).toArray).cells.size=64:=by show (bys b).toArray.size=64;rw [List.size_toArray];exact hbl
 obtain ⟨r,hr,hs,hk⟩:=fill_at (cells:=cells) (by decide) h0 hsz (by omega) [(1,Value.agg (bys b).toArray)]
 obtain ⟨r2,hr2,hs2,hk2⟩:=fill_at (cells:=r) (by decide) h1 hsz (by omega) []
 rw [hr,hr2]
 simp only [Instr.fill]
 congr 1
 apply Array.ext_getElem?
 intro k
 have er:((plC ⟨b,b,false⟩).toArray)[k]?=(plC ⟨b,b,false⟩)[k]?:=by simp
 rw [er,hk2 k,hk k]
 unfold plC
 simp only
 rw [fix64_of hb]
 have hag:∀ j:Nat,(Value.agg (bys b).toArray).cells[j]?=(bys b)[j]?:=fun j=>by show (bys b).toArray[j]?=_;simp
 rcases (show k < 64∨(64≤k∧k < 128)∨k=128∨128 < k by omega) with h | h | h | h
 ·rw [if_neg (by omega),if_pos (by omega),hag,Nat.mod_eq_of_lt h,List.getElem?_append_left (by omega)]
 ·rw [if_pos (by omega),hag,show k % 64=k - 64 by omega,List.getElem?_append_right (by omega),hbl,List.getElem?_append_left (by omega)]
 ·subst h
  rw [if_neg (by omega),if_neg (by omega),hz,List.getElem?_append_right (by omega),hbl,List.getElem?_append_right (by omega),hbl]
  rfl
 ·rw [if_neg (by omega),if_neg (by omega),Array.getElem?_eq_none (by omega),List.getElem?_eq_none (by simp [hbl];omega)]
theorem build_place {b:List UInt8} (hb:b.length=64) (w:World):(Instr.build 255 #[(0,.agg (bys b).toArray),(1,.agg (bys b).toArray)]).run Tryz.prog w=.ok (.agg (plC ⟨b,b,false⟩).toArray) w:=by
 have hz:∃ z,(zeroValue 255).run Tryz.prog w=.ok z w∧z.cells.size=129∧z.cells[128]?=some (.bool false):=⟨_,Tryz.zeroValue255 w,by kernel_rfl,by kernel_rfl⟩
 obtain ⟨z,hz,hzs,hzf⟩:=hz
 simp only [Instr.build,Sem.run_bind,hz,Result.andThen_ok,run_underlying underlying255]
 have hm : ∀ w, (Array.mapM (fun (f : Field) => do let n ← sizeOf f.type; pure (f.offset, n)) #[{ name := "rest", type := 217, offset := 0, embedded := false, tag := "", pkgPath := "sexton/disk", byteOffset := 0 }, { name := "meant", type := 217, offset := 64, embedded := false, tag := "", pkgPath := "sexton/disk", byteOffset := 64 }, { name := "lost", type := 4, offset := 128, embedded := false, tag := "", pkgPath := "sexton/disk", byteOffset := 128 }]).run Tryz.prog w = .ok #[(0, 64), (64, 64), (128, 1)] w := fun _ => by kernel_rfl
 rw [hm]
 simp only [Result.andThen_ok]
 rw [fill_place rfl rfl hb hzs hzf]
 rfl
theorem pls_whole {l:List Pl} {s:Nat} {p p':Pl} (h:l[s]?=some p):s * 129+129≤(plsV l).size∧(Value.agg (plC p').toArray).cells.size=129∧(∀ u ∈ (Value.agg (plC p').toArray).cells.toList,u.oneCell'=true)∧((plsV l).toList.take (s * 129)++(Value.agg (plC p').toArray).cells.toList++(plsV l).toList.drop (s * 129+129)).toArray=plsV (l.set s p'):=by
 have hsz:(Value.agg (plC p').toArray).cells.size=129:=by show (plC p').toArray.size=129;rw [List.size_toArray,plC_len]
 have hone:∀ u ∈ (Value.agg (plC p').toArray).cells.toList,u.oneCell'=true:=by
  intro u hu
  have hu2:u ∈ plC p':=hu
  unfold plC at hu2
  rcases List.mem_append.1 hu2 with h1 | h1
  ·exact bys_one u h1
  ·rcases List.mem_append.1 h1 with h1 | h1
   ·exact bys_one u h1
   ·rw [List.mem_singleton.1 h1];rfl
 have hv:(plC p).take 0++(Value.agg (plC p').toArray).cells.toList++(plC p).drop (0+129)=plC p':=by
  rw [List.drop_of_length_le (by rw [plC_len];omega),List.take_zero,List.nil_append,List.append_nil]
  rfl
 have:=pls_part (r:=0) (n:=129) h hsz (by omega) hone hv
 simpa using this
theorem wt_rest {x:List UInt8×Nat} (hx:x.1.length=64):0+64≤(wtC x).toArray.size∧(wtC x).toArray.extract 0 (0+64)=(bys x.1).toArray:=by
 have hbl:(bys x.1).length=64:=by rw [bys_len];exact hx
 refine ⟨by rw [List.size_toArray,wtC_len];omega,?_⟩
 apply Array.toList_inj.1
 rw [Array.toList_extract]
 show List.take (0+64 - 0) (List.drop 0 (wtC x))=bys x.1
 unfold wtC
 rw [fix64_of hx,List.drop_zero,show 0+64 - 0=(bys x.1).length by omega,List.take_left]
end
section
theorem flush1_any (k:Int) (w:World):Calls Tryz.prog 115 #[.int .i64 k] w fun e w'=>e=.returned (.bool true)∧w=w':=by
 go_enter func115,ntmps115
 go_wp2
 go_ret
 exact ⟨rfl,rfl⟩
theorem wt_new (x:List UInt8×Nat):(Value.agg (wtC x).toArray).cells=(wtC x).toArray∧(wtC x).toArray.size=65∧∀ u ∈ (wtC x).toArray.toList,u.oneCell'=true:=⟨rfl,by rw [List.size_toArray,wtC_len],wt_one x⟩
theorem dkA_c0 {w:World} {g gp:Nat} {wv:Value} {d:Dk} {T:TypeId} (h:w.heap[g]?=some (.cells (dkA gp wv d) T (0,0))):w.cell? ⟨g,0,none⟩=some (.slice (some ⟨gp,0,none⟩) d.pl.length d.pl.length):=blk_cell h 0 _ rfl
theorem wt_c64 {w:World} {q:Nat} {x:List UInt8×Nat} {T:TypeId} (h:w.heap[q]?=some (.cells (wtC x).toArray T (0,0))):w.cell? ⟨q,64,none⟩=some (.int .i64 (x.2:Int)):=blk_cell h 64 _ (by simp [wt_sec])
theorem exec_place {a:Act} {w:World} {dst:Option Tmp} {ty':TypeId} {pos:String} {af:Array Edge} {gd:Option (Nat×Bool)} {x y:Operand} {b:List UInt8} (h:b.length=64) (hx:a.eval x=.agg (bys b).toArray) (hy:a.eval y=.agg (bys b).toArray) :
  (execOp a.eval (Oper.mk dst (.build 255 #[(0,x),(1,y)]) ty' pos af gd)).run Tryz.prog w=.ok (.value (.agg (plC ⟨b,b,false⟩).toArray)) w:=by
 have hb:=build_place h w
 unfold execOp
 simp [hx,hy,hb]
theorem thru_step {pl:List Pl} {x:List UInt8×Nat} {l:List (List UInt8×Nat)} {k:Nat} {is:Nat→Bool} (h:is k=true):thruD pl (x :: l) k is=thruD (pl.set x.2 ⟨x.1,x.1,false⟩) l (k+1) is:=by
 obtain ⟨b,s⟩:=x
 simp only [thruD]
 rw [if_pos h]
section
variable {B g gp:Nat} {wv:Value} {d:Dk} {w:World}
theorem through_all (h:DiskB B g gp wv d w) (hb:B≤w.heap.size):Calls Tryz.prog 114 #[.pointer (some ⟨g,0,none⟩),.func (.func 115) #[] #[]] w fun e w'=>e=.returned (.tuple #[])∧DiskB B g gp (.slice none 0 0) { d with pl:=thruD d.pl d.waits 0 (fun _=>true),waits:=[] } w'∧Kt B w w':=by
 obtain ⟨wa,wc,rfl,_,hwl,hwm⟩:=Row.of_owns h.wts
 unfold maxLen at hwm
 have c1:=h.c1
 obtain ⟨R,hR⟩:∃ R,thruD d.pl d.waits 0 (fun _=>true)=R:=⟨_,rfl⟩
 rw [hR]
 have HR:=Lib.hid hR
 clear hR
 go_enter func114,ntmps114
 refine seqH fun K HK=>?_
 go_wp2_with fail
 go_loopw [11,4,5] (fun i _ _ wr=>∃ (j:Nat) (pl:List Pl),j≤d.waits.length∧i=.int .i64 (j:Nat)∧Hid (pl.length=d.pl.length)∧DiskB B g gp (.slice wa d.waits.length wc) { d with pl:=pl } wr∧Kt B w wr∧Hid (thruD pl (d.waits.drop j) j (fun _=>true)=R)) (fun i _ _ _=>d.waits.length - (intOf i).toNat)
 case atStart=>exact ⟨0,d.pl,by omega,rfl,Lib.hid rfl,h,Kt.refl _ _,HR⟩
 case round=>
  obtain ⟨j,pl,hj,rfl,hpl,hd,hk,hth⟩:=hrel
  by_cases hlt:j < d.waits.length
  case neg=>
   have hRpl:R=pl:=by
    have h:=hth.out
    rw [List.drop_of_length_le (by omega)] at h
    exact h.symm
   have HRP:=Lib.hid hRpl
   have hB:=hd.box
   clear hRpl hth
   go_wp2
   refine HK.out _ _ ?_
   clear HK
   go_wp2_with ((first | (with_reducible refine wpList_stB 93 _ _ ?_) | (with_reducible refine wp_stB 93 _ _ ?_));refine ⟨_,_,_,⟨_,_,_,sizeOf93,rfl,‹_›,dk_waits _ _ _ none 0 0⟩,?_⟩;intro w5 B5 g5)
   go_end0
   have b8:=tr_st g5 hd.pls (by rintro rfl;have:=hd.box.symm.trans hd.pls;injection this with this;injection this with _ e;revert e;decide)
   refine ⟨rfl,?_,hk.trans (Kt.st g5 hd.box (.inl rfl) hd.gb)⟩
   rw [HRP.out]
   exact ⟨B5,b8,World.ownsRow_nil _ _ _ _,hd.gb,hd.pb,hd.n0,hd.nl,hd.lo,hd.hi,hd.ok,fun _ hx=>by cases hx⟩
  case pos=>
   have hat:d.waits[j]?=some d.waits[j]:=List.getElem?_eq_getElem hlt
   have hxk:=hd.wk _ (List.getElem_mem hlt)
   have hdr:=List.drop_eq_getElem_cons hlt
   generalize d.waits[j]=x at *
   have hrow:=Row.of_owns hd.wts
   obtain ⟨wa',wc',hv,hwr,_⟩:=hrow
   injection hv with e1 e2 e3
   subst e1 e3
   obtain ⟨b,off,rfl,hbl,hc0,hcs⟩:=hwr.flat0 wtC_len (by decide) hat
   have hbq:B≤wr.heap.size:=Nat.le_trans hb hk.bl.size
   have HDR:=Lib.hid hdr
   clear hdr hat hwr e2
   have hx2:x.2 < pl.length:=hxk.2
   have hx3:(x.2:Int) < pl.length:=by omega
   have hpx:pl[x.2]?=some pl[x.2]:=List.getElem?_eq_getElem hx2
   generalize pl[x.2]=px at *
   go_wp2_with (first
    | ((with_reducible refine wpList_ldC 219 _ ?_);refine ⟨rfl,_,⟨_,_,_,isAgg219,sizeOf219,rfl,(show (wtC x).toArray.size=65 by rw [List.size_toArray,wtC_len]),fun j u hu=>hcs j u (by simpa using hu)⟩,?_⟩)
    | ((first | (with_reducible refine wpList_stNew 219 _ _ ?_) | (with_reducible refine wp_stNew 219 _ _ ?_));refine ⟨_,_,⟨sizeOf219,rfl,wt_new x⟩,rfl,?_⟩)
    | (go_at_call 115;refine (flush1_any _ _).mono ?_;rintro e w5 ⟨rfl,rfl⟩))
   have hbX:=blw wr (Obj.cells (wtC x).toArray 219)
   have hdX:=hd.below hbX
   have hkX:=hk.trans (Kt.of hbX hbq)
   have hqX:=heap_alloc_new wr (Obj.cells (wtC x).toArray 219)
   clear hd hk hcs hc0 hbl hbq hbX
   generalize wr.alloc (Obj.cells (wtC x).toArray 219)=wq at *
   obtain ⟨q,hq⟩:∃ q,wr.heap.size=q:=⟨_,rfl⟩
   simp only [hq] at hqX ⊢
   clear hq
   have hdD:=hdX.below (Below.refl wq.heap.size wq).drew
   have hqD:=tr_bl (Below.refl wq.heap.size wq).drew hqX
   have hkD:=hkX.trans (Kt.of (Below.refl wq.heap.size wq).drew (Nat.le_trans hb hkX.bl.size))
   have hne1:gp≠g:=by rintro rfl;have:=hdD.box.symm.trans hdD.pls;injection this with this;injection this with _ e;revert e;decide
   have hne2:gp≠q:=by rintro rfl;have:=hqD.symm.trans hdD.pls;injection this with this;injection this with _ e;revert e;decide
   refine wp_region_held_drew (S:=fun w'=>w'.heap[g]?=some (.cells (dkA gp (.slice (some ⟨b,off,none⟩) d.waits.length wc) { d with pl:=pl }) 95 (0,0))∧w'.heap[q]?=some (.cells (wtC x).toArray 219 (0,0))) (by kernel_rfl) ⟨hdD.box,hqD⟩ (fun hS0=>?_)
   generalize wq.drew=x0 at *
   clear hdX hkX hqX
   refine tkP 0 rfl ?_
   refine tkP 1 rfl ?_
   refine tkP 2 rfl ?_
   refine tkT 3 rfl (by intro wS hSw;have c:=dkA_c0 hSw.1;go_simp;(try with_reducible rfl)) ?_
   refine tkP 4 rfl ?_
   refine tkT 5 rfl (by intro wS hSw;have c:=wt_c64 hSw.2;go_simp;(try with_reducible rfl)) ?_
   refine tkP 6 rfl ?_
   refine tkT 7 (v:=.agg ((bys x.1).toArray)) rfl (by intro wS hSw;exact exec_ldB 217 _ ⟨_,_,_,_,_,isAgg217,sizeOf217,rfl,hSw.2,wt_rest hxk.1⟩) ?_
   refine tkP 8 rfl ?_
   refine tkT 9 (v:=.agg ((bys x.1).toArray)) rfl (by intro wS hSw;exact exec_ldB 217 _ ⟨_,_,_,_,_,isAgg217,sizeOf217,rfl,hSw.2,wt_rest hxk.1⟩) ?_
   refine tkT 10 (v:=.agg (plC ⟨x.1,x.1,false⟩).toArray) rfl (by intro wS hSw;exact exec_place hxk.1 rfl rfl) ?_
   refine tkP 11 rfl ?_
   refine wpAnyH_ready (rs:=[12]) (by kernel_rfl) (by simp) ?_
   refine AllReadyH.cons (o:=⟨_,_,_,_,_,_⟩) rfl (fun K' hK'=>?_) (AllReadyH.nil)
   refine (if_pos (by rfl)).mpr ?_
   refine wp_stB 255 _ _ ?_
   refine ⟨_,_,_,⟨_,_,_,sizeOf255,rfl,hdD.pls,pls_whole hpx⟩,?_⟩
   intro w6 B6 g6
   have hfin:=hdD.sect B6 g6 ⟨hxk.1,hxk.1⟩
   refine hK'.out _ _ ⟨tr_st g6 hS0.1 hne1,tr_st g6 hS0.2 hne2⟩ (fun _=>?_)
   refine wpAnyH_done (by kernel_rfl) ?_ _
   go_wp2
   go_roundw
   case rel=>exact ⟨j+1,_,by omega,by go_num,Lib.hid (by rw [List.length_set];exact hpl.out),hfin.1,hkD.trans hfin.2,Lib.hid (by have h:=hth.out;rw [HDR.out,thru_step rfl] at h;exact h)⟩
   case measure=>simp [intOf];omega
end
end
end Go.Proofs.YtbdonjenekhmdaaGreatDoor
