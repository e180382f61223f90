/- Texts that the claim leans on, part 5: E1, E2, E3, E4, D0, X3, X4, D10. -/
import Derived.Test.YtbdonjenekhmdaaGreatDoorZ1
import Derived.Test.YtbdonjenekhmdaaGreatDoorZ2
import Derived.Test.YtbdonjenekhmdaaGreatDoorZ3
import Derived.Test.YtbdonjenekhmdaaGreatDoorZ4
import Derived.Outline
import Derived.IntWalk
namespace Go.Proofs.YtbdonjenekhmdaaGreatDoor
open Go.RowKit Go.Proofs.Tryz
set_option maxRecDepth 100000
set_option maxHeartbeats 32000000
section
def penA (a:Option Addr) (n cap:Nat) (p:Pen):Array Value:=#[.slice a n cap,.int .i64 (p.at':Int),.bool p.bad]
def PenB (w:World) (g:Nat) (a:Option Addr) (cap:Nat) (l:List UInt8) (p:Pen):Prop:=w.heap[g]?=some (.cells (penA a l.length cap p) 228 (0,0))
def SlU (base:Nat) (w:World) (a:Option Addr) (cap:Nat) (l:List UInt8):Prop:=∀ w',Below base w w'→SlB w' a cap l
theorem pen_at (a:Option Addr) (n cap:Nat) (p:Pen) (x:Int) (k:Nat) (h:x=k):1+1≤(penA a n cap p).size∧(Value.int .i64 x).cells.size=1∧(∀ u ∈ (Value.int .i64 x).cells.toList,u.oneCell'=true)∧((penA a n cap p).toList.take 1++(Value.int .i64 x).cells.toList++(penA a n cap p).toList.drop (1+1)).toArray=penA a n cap ⟨k,p.bad⟩:=by
 subst h
 exact ⟨by show _≤3;omega,rfl,by simp [Value.cells,Value.oneCell'],rfl⟩
theorem pen_bad (a:Option Addr) (n cap:Nat) (p:Pen) (x:Bool):2+1≤(penA a n cap p).size∧(Value.bool x).cells.size=1∧(∀ u ∈ (Value.bool x).cells.toList,u.oneCell'=true)∧((penA a n cap p).toList.take 2++(Value.bool x).cells.toList++(penA a n cap p).toList.drop (2+1)).toArray=penA a n cap ⟨p.at',x⟩:=
 ⟨by show _≤3;omega,rfl,by simp [Value.cells,Value.oneCell'],rfl⟩
section
variable {base g cap:Nat} {w w' w'':World} {a:Option Addr} {l:List UInt8} {p:Pen}
theorem PenB.c0 (h:PenB w g a cap l p):w.cell? ⟨g,0,none⟩=some (.slice a l.length cap):=blk_cell h 0 _ rfl
theorem PenB.c1 (h:PenB w g a cap l p):w.cell? ⟨g,1,none⟩=some (.int .i64 (p.at':Int)):=blk_cell h 1 _ rfl
theorem PenB.c2 (h:PenB w g a cap l p):w.cell? ⟨g,2,none⟩=some (.bool p.bad):=blk_cell h 2 _ rfl
theorem SlU.now (h:SlU base w a cap l):SlB w a cap l:=h w (Below.refl _ _)
theorem SlU.step (h:SlU base w a cap l) (hb:Below base w w'):SlU base w' a cap l:=fun w'' h'=>h w'' (hb.trans h')
theorem SlU.of (h:SlB w a cap l):SlU w.heap.size w a cap l:=fun _ hb=>h.below hb
theorem pgN_le (l:List UInt8) (p:Pen) (k:Nat) (hk:k=1∨k=6):pgN l p k < 256 ^ k:=by
 unfold pgN
 split
 ·unfold getN
  have:=ofLe_lt ((l.drop p.at').take k)
  have h2:((l.drop p.at').take k).length≤k:=by rw [List.length_take];omega
  exact Nat.lt_of_lt_of_le this (Nat.pow_le_pow_right (by decide) h2)
 ·rcases hk with rfl | rfl <;> decide
theorem pgS_le (h:p.at'≤l.length) (k:Nat):(pgS l p k).at'≤l.length:=by
 unfold pgS
 split
 ·rename_i h2;exact h2.2
 ·exact h
theorem ptS_le (h:p.at'≤l.length):(ptS l p).at'≤l.length:=by
 unfold ptS
 split
 ·exact h
 ·cases h2:rdT l p.at' with
  | none=>exact h
  | some x=>exact (rdT_spec h2).2.2.1
theorem getV_form (l:List UInt8) (p k:Nat):∃ n q er:Int,getV l p k=.tuple #[.int .i64 n,.int .i64 q,.int .i64 er]∧((er=0∧p+k≤l.length∧n=getN l p k∧q=(p+k:Nat))∨(er=10∧¬ p+k≤l.length)):=by
 unfold getV rdN
 split
 ·rename_i h
  split at h
  ·injection h with h
   injection h with h1 h2
   subst h1 h2
   exact ⟨_,_,_,rfl,.inl ⟨rfl,by assumption,rfl,rfl⟩⟩
  ·cases h
 ·rename_i h
  split at h
  ·cases h
  ·exact ⟨_,_,_,rfl,.inr ⟨rfl,by assumption⟩⟩
theorem readV_form (l:List UInt8) (p:Nat):∃ (s:Tx) (q er:Int),readV l p=.tuple #[.string s,.int .i64 q,.int .i64 er]∧((er=0∧∃ q':Nat,q=q'∧rdT l p=some (s,q'))∨(er=10∧rdT l p=none)):=by
 unfold readV
 cases h:rdT l p with
 | none=>exact ⟨_,_,_,rfl,.inr ⟨rfl,rfl⟩⟩
 | some x=>exact ⟨_,_,_,rfl,.inl ⟨rfl,_,rfl,rfl⟩⟩
theorem pget_any (h:PenB w g a cap l p) (hs:SlU base w a cap l) (hp:p.at'≤l.length) (k:Nat) (hk:k=1∨k=6) :
  Calls Tryz.prog 219 #[.pointer (some ⟨g,0,none⟩),.int .i64 k] w fun e w'=>e=.returned (.int .i64 (pgN l p k))∧PenB w' g a cap l (pgS l p k)∧w.grownBy w' (some g):=by
 have hcall:∀ x,Calls Tryz.prog 99 #[.slice a l.length cap,.int .i64 p.at',.int .i64 k] (Under w x) fun e w'=>e=.returned (getV l p.at' k)∧Below (Under w x).heap.size (Under w x) w':=fun x=>get_v a cap l p.at' k _ (hs.now.below (under_below w x)) hp (by omega)
 obtain ⟨n,q,er,hgv,hcase⟩:=getV_form l p.at' k
 rw [hgv] at hcall
 obtain ⟨r,hr⟩:∃ r,pgN l p k=r:=⟨_,rfl⟩
 obtain ⟨s,hsx⟩:∃ s,pgS l p k=s:=⟨_,rfl⟩
 rw [hr,hsx]
 unfold pgN at hr
 unfold pgS at hsx
 obtain ⟨pa,bad⟩:=p
 have u0:=under_cell h.c0
 have u1:=under_cell h.c1
 simp only at hcase hr hsx u1 hcall
 have HG:w.heap[g]?=some (.cells (penA a l.length cap ⟨pa,bad⟩) 228 (0,0)):=h
 clear hgv hp h
 generalize hkk:(k:Int)=kk at *
 clear hkk
 cases bad
 case true=>
  obtain rfl:r=0:=by rw [← hr,if_neg (by simp)]
  obtain rfl:s=⟨pa,true⟩:=by rw [← hsx,if_neg (by simp)]
  clear hr hsx hcase
  go_enter func219,ntmps219
  refine seqH fun K HK=>?_
  go_wp2
  refine HK.out _ _ ?_
  clear HK
  refine seqH fun K HK=>?_
  refine wp_region_under (by kernel_rfl) (by kernel_rfl) ?_
  repeat (go_big_quiet_step ((go_at_call 99;exact under_call (hcall _))))
  refine wpQuiet_nil ?_
  intro _ hw'
  obtain ⟨xU,hw''⟩:=hw'
  subst hw''
  have hbU:=under_below w xU
  have B1:(Under w xU).heap[g]?=some (.cells (penA a l.length cap ⟨pa,true⟩) 228 (0,0)):=tr_bl hbU HG
  have hgr:=gb_of_below hbU (some g)
  have d2:=PenB.c2 B1
  refine HK.out _ _ ?_
  clear HK hbU
  generalize Under w xU=w1 at *
  go_wp2_with ((first | (with_reducible refine wpList_stB 4 _ _ ?_) | (with_reducible refine wp_stB 4 _ _ ?_));refine ⟨_,_,_,⟨_,_,_,sizeOf4,rfl,‹_›,pen_bad _ _ _ _ true⟩,?_⟩;intro w5 B5 g5;have d5:=PenB.c2 B5)
  go_ret
  exact ⟨rfl,B5,gb_trans hgr g5 (fun _ h=>.inr h)⟩
 case false=>
  rcases hcase with ⟨rfl,h1,rfl,rfl⟩ | ⟨rfl,h1⟩
  ·obtain rfl:(getN l pa k)=r:=by rw [← hr,if_pos ⟨rfl,h1⟩]
   obtain rfl:s=⟨pa+k,false⟩:=by rw [← hsx,if_pos ⟨rfl,h1⟩]
   clear hr hsx
   generalize getN l pa k=n at *
   go_enter func219,ntmps219
   refine seqH fun K HK=>?_
   go_wp2
   refine HK.out _ _ ?_
   clear HK
   refine seqH fun K HK=>?_
   refine wp_region_under (by kernel_rfl) (by kernel_rfl) ?_
   repeat (go_big_quiet_step ((go_at_call 99;exact under_call (hcall _))))
   refine wpQuiet_nil ?_
   intro _ hw'
   obtain ⟨xU,hw''⟩:=hw'
   subst hw''
   have hbU:=under_below w xU
   have B1:(Under w xU).heap[g]?=some (.cells (penA a l.length cap ⟨pa,false⟩) 228 (0,0)):=tr_bl hbU HG
   have hgr:=gb_of_below hbU (some g)
   have d2:=PenB.c2 B1
   refine HK.out _ _ ?_
   clear HK hbU
   generalize Under w xU=w1 at *
   go_wp2_with (first
    | ((first | (with_reducible refine wpList_stB 4 _ _ ?_) | (with_reducible refine wp_stB 4 _ _ ?_));refine ⟨_,_,_,⟨_,_,_,sizeOf4,rfl,‹_›,pen_bad _ _ _ _ false⟩,?_⟩;intro w5 B5 g5;have d5:=PenB.c2 B5)
    | ((first | (with_reducible refine wpList_stB 3 _ _ ?_) | (with_reducible refine wp_stB 3 _ _ ?_));refine ⟨_,_,_,⟨_,_,_,sizeOf3,rfl,‹_›,pen_at _ _ _ _ _ (pa+k) rfl⟩,?_⟩;intro w6 B6 g6))
   go_ret
   exact ⟨rfl,B6,gb_trans (gb_trans hgr g5 (fun _ h=>.inr h)) g6 (fun _ h=>.inr h)⟩
  ·obtain rfl:r=0:=by rw [← hr,if_neg (fun h=>h1 h.2)]
   obtain rfl:s=⟨pa,true⟩:=by rw [← hsx,if_neg (fun h=>h1 h.2)]
   clear hr hsx
   go_enter func219,ntmps219
   refine seqH fun K HK=>?_
   go_wp2
   refine HK.out _ _ ?_
   clear HK
   refine seqH fun K HK=>?_
   refine wp_region_under (by kernel_rfl) (by kernel_rfl) ?_
   repeat (go_big_quiet_step ((go_at_call 99;exact under_call (hcall _))))
   refine wpQuiet_nil ?_
   intro _ hw'
   obtain ⟨xU,hw''⟩:=hw'
   subst hw''
   have hbU:=under_below w xU
   have B1:(Under w xU).heap[g]?=some (.cells (penA a l.length cap ⟨pa,false⟩) 228 (0,0)):=tr_bl hbU HG
   have hgr:=gb_of_below hbU (some g)
   have d2:=PenB.c2 B1
   refine HK.out _ _ ?_
   clear HK hbU
   generalize Under w xU=w1 at *
   go_wp2_with ((first | (with_reducible refine wpList_stB 4 _ _ ?_) | (with_reducible refine wp_stB 4 _ _ ?_));refine ⟨_,_,_,⟨_,_,_,sizeOf4,rfl,‹_›,pen_bad _ _ _ _ true⟩,?_⟩;intro w5 B5 g5;have d5:=PenB.c2 B5)
   go_ret
   exact ⟨rfl,B5,gb_trans hgr g5 (fun _ h=>.inr h)⟩
end
end
section
def setT (e:En) (j:Nat) (s:Tx):En:=if j=0 then { e with op:={ e.op with key:=s } } else if j=1 then { e with op:={ e.op with old:=s } } else { e with op:={ e.op with val:=s } }
def putT (l:List UInt8) (p:Pen) (e:En) (j:Nat):En:=if (ptS l p).bad=true then e else setT e j (ptT l p)
def EntB (w:World) (g:Nat) (e:En):Prop:=w.heap[g]?=some (.cells (enA e) 73 (0,0))
theorem en_st (e:En) {j off:Nat} (hj:j < 3) (ho:off=4+j) (s:Tx):off+1≤(enA e).size∧(Value.string s).cells.size=1∧(∀ u ∈ (Value.string s).cells.toList,u.oneCell'=true)∧((enA e).toList.take off++(Value.string s).cells.toList++(enA e).toList.drop (off+1)).toArray=enA (setT e j s):=by
 subst ho
 rcases (show j=0∨j=1∨j=2 by omega) with rfl | rfl | rfl
 ·exact ⟨by show _≤7;omega,rfl,by simp [Value.cells,Value.oneCell'],rfl⟩
 ·exact ⟨by show _≤7;omega,rfl,by simp [Value.cells,Value.oneCell'],rfl⟩
 ·exact ⟨by show _≤7;omega,rfl,by simp [Value.cells,Value.oneCell'],rfl⟩
section
variable {base g ge cap:Nat} {w w' w'':World} {a:Option Addr} {l:List UInt8} {p:Pen} {e:En}
theorem bls (h:Below base w w') (hb:base≤w.heap.size) (h2:w'.grownBy w'' (some g)) (hg:base≤g):Below base w w'':=bl_st h h2 (Nat.le_trans hb h.size) hg
theorem ne_pe {cs cs':Array Value} (h:w.heap[g]?=some (.cells cs 228 (0,0))) (h2:w.heap[ge]?=some (.cells cs' 73 (0,0))):g≠ge:=by
 rintro rfl
 have:=h.symm.trans h2
 injection this with this
 injection this with _ e
 revert e
 decide
theorem pread_any (h:PenB w g a cap l p) (he:EntB w ge e) (hs:SlU base w a cap l) (hb:base≤w.heap.size) (hg:base≤g) (hge:base≤ge) (hp:p.at'≤l.length) (hl:l.length≤1000000) {j off:Nat} (hj:j < 3) (ho:off=4+j) :
  Calls Tryz.prog 228 #[.pointer (some ⟨g,0,none⟩),.pointer (some ⟨ge,off,none⟩)] w fun en w'=>en=.returned (.tuple #[])∧PenB w' g a cap l (ptS l p)∧EntB w' ge (putT l p e j)∧Below base w w':=by
 have hcall:∀ x,Calls Tryz.prog 237 #[.slice a l.length cap,.int .i64 p.at'] (Under w x) fun e w'=>e=.returned (readV l p.at')∧Below (Under w x).heap.size (Under w x) w':=fun x=>read_v a cap l p.at' _ (hs.now.below (under_below w x)) hp hl
 obtain ⟨tx,q,er,hgv,hcase⟩:=readV_form l p.at'
 rw [hgv] at hcall
 have hst:=fun s=>en_st e hj ho s
 obtain ⟨s,hsx⟩:∃ s,ptS l p=s:=⟨_,rfl⟩
 obtain ⟨e',hee⟩:∃ e',putT l p e j=e':=⟨_,rfl⟩
 rw [hsx,hee]
 unfold putT at hee
 rw [hsx] at hee
 unfold ptS at hsx
 unfold ptT at hee
 obtain ⟨pa,bad⟩:=p
 have u0:=under_cell h.c0
 have u1:=under_cell h.c1
 simp only at hcase hsx hee u1 hcall
 have HG:w.heap[g]?=some (.cells (penA a l.length cap ⟨pa,bad⟩) 228 (0,0)):=h
 have HE:w.heap[ge]?=some (.cells (enA e) 73 (0,0)):=he
 have hne:=ne_pe HG HE
 clear hgv hp h he hl ho hj
 cases bad
 case true=>
  obtain rfl:s=⟨pa,true⟩:=by rw [← hsx,if_pos rfl]
  obtain rfl:e=e':=by rw [← hee,if_pos rfl]
  clear hsx hee hcase hst
  go_enter func228,ntmps228
  refine seqH fun K HK=>?_
  refine wp_region_under (by kernel_rfl) (by kernel_rfl) ?_
  repeat (go_big_quiet_step ((go_at_call 237;exact under_call (hcall _))))
  refine wpQuiet_nil ?_
  intro _ hw'
  obtain ⟨xU,hw''⟩:=hw'
  subst hw''
  have hbU:=under_below w xU
  have B1:(Under w xU).heap[g]?=some (.cells (penA a l.length cap ⟨pa,true⟩) 228 (0,0)):=tr_bl hbU HG
  have E1:(Under w xU).heap[ge]?=some (.cells (enA e) 73 (0,0)):=tr_bl hbU HE
  have hbw:=hbU.mono hb
  have d2:=PenB.c2 B1
  refine HK.out _ _ ?_
  clear HK hbU
  generalize Under w xU=w1 at *
  go_wp2_with ((first | (with_reducible refine wpList_stB 4 _ _ ?_) | (with_reducible refine wp_stB 4 _ _ ?_));refine ⟨_,_,_,⟨_,_,_,sizeOf4,rfl,‹_›,pen_bad _ _ _ _ true⟩,?_⟩;intro w5 B5 g5;have d5:=PenB.c2 B5)
  go_end0
  exact ⟨rfl,B5,tr_st g5 E1 hne,bls hbw hb g5 hg⟩
 case false=>
  rcases hcase with ⟨rfl,q',rfl,h1⟩ | ⟨rfl,h1⟩
  ·rw [if_neg (by simp),h1] at hsx
   rw [if_neg (show ¬ (false=true) by simp),h1] at hee
   simp only at hsx hee
   subst hsx
   rw [if_neg (by simp)] at hee
   subst hee
   have hst2:=hst tx
   clear hst h1
   go_enter func228,ntmps228
   refine seqH fun K HK=>?_
   refine wp_region_under (by kernel_rfl) (by kernel_rfl) ?_
   repeat (go_big_quiet_step ((go_at_call 237;exact under_call (hcall _))))
   refine wpQuiet_nil ?_
   intro _ hw'
   obtain ⟨xU,hw''⟩:=hw'
   subst hw''
   have hbU:=under_below w xU
   have B1:(Under w xU).heap[g]?=some (.cells (penA a l.length cap ⟨pa,false⟩) 228 (0,0)):=tr_bl hbU HG
   have E1:(Under w xU).heap[ge]?=some (.cells (enA e) 73 (0,0)):=tr_bl hbU HE
   have hbw:=hbU.mono hb
   have d2:=PenB.c2 B1
   refine HK.out _ _ ?_
   clear HK hbU
   generalize Under w xU=w1 at *
   go_wp2_with (first
    | ((first | (with_reducible refine wpList_stB 4 _ _ ?_) | (with_reducible refine wp_stB 4 _ _ ?_));refine ⟨_,_,_,⟨_,_,_,sizeOf4,rfl,‹_›,pen_bad _ _ _ _ false⟩,?_⟩;intro w5 B5 g5;have d5:=PenB.c2 B5;have E5:=tr_st g5 E1 hne)
    | ((first | (with_reducible refine wpList_stB 9 _ _ ?_) | (with_reducible refine wp_stB 9 _ _ ?_));refine ⟨_,_,_,⟨_,_,_,sizeOf9,rfl,‹_›,hst2⟩,?_⟩;intro w6 E6 g6;have B6:=tr_st g6 B5 (Ne.symm hne))
    | ((first | (with_reducible refine wpList_stB 3 _ _ ?_) | (with_reducible refine wp_stB 3 _ _ ?_));refine ⟨_,_,_,⟨_,_,_,sizeOf3,rfl,‹_›,pen_at _ _ _ _ _ q' rfl⟩,?_⟩;intro w7 B7 g7))
   go_end0
   exact ⟨rfl,B7,tr_st g7 E6 hne,bls (bls (bls hbw hb g5 hg) hb g6 hge) hb g7 hg⟩
  ·rw [if_neg (by simp),h1] at hsx
   simp only at hsx
   subst hsx
   rw [if_pos rfl] at hee
   subst hee
   clear hst h1
   go_enter func228,ntmps228
   refine seqH fun K HK=>?_
   refine wp_region_under (by kernel_rfl) (by kernel_rfl) ?_
   repeat (go_big_quiet_step ((go_at_call 237;exact under_call (hcall _))))
   refine wpQuiet_nil ?_
   intro _ hw'
   obtain ⟨xU,hw''⟩:=hw'
   subst hw''
   have hbU:=under_below w xU
   have B1:(Under w xU).heap[g]?=some (.cells (penA a l.length cap ⟨pa,false⟩) 228 (0,0)):=tr_bl hbU HG
   have E1:(Under w xU).heap[ge]?=some (.cells (enA e) 73 (0,0)):=tr_bl hbU HE
   have hbw:=hbU.mono hb
   have d2:=PenB.c2 B1
   refine HK.out _ _ ?_
   clear HK hbU
   generalize Under w xU=w1 at *
   go_wp2_with ((first | (with_reducible refine wpList_stB 4 _ _ ?_) | (with_reducible refine wp_stB 4 _ _ ?_));refine ⟨_,_,_,⟨_,_,_,sizeOf4,rfl,‹_›,pen_bad _ _ _ _ true⟩,?_⟩;intro w5 B5 g5;have d5:=PenB.c2 B5)
   go_end0
   exact ⟨rfl,B5,tr_st g5 E1 hne,bls hbw hb g5 hg⟩
def txV (ge:Nat):Value:=.agg #[.pointer (some ⟨ge,4,none⟩),.pointer (some ⟨ge,5,none⟩),.pointer (some ⟨ge,6,none⟩)]
theorem txV_at (ge:Nat):(∀ w,(Instr.index 288 (txV ge) (.int .i64 0)).run Tryz.prog w=.ok (.pointer (some ⟨ge,4,none⟩)) w)∧(∀ w,(Instr.index 288 (txV ge) (.int .i64 1)).run Tryz.prog w=.ok (.pointer (some ⟨ge,5,none⟩)) w)∧∀ w,(Instr.index 288 (txV ge) (.int .i64 2)).run Tryz.prog w=.ok (.pointer (some ⟨ge,6,none⟩)) w:=
 ⟨fun _=>by kernel_rfl,fun _=>by kernel_rfl,fun _=>by kernel_rfl⟩
def stP (l:List UInt8) (p:Pen) (e:En):Nat→Pen×En
 | 0=>(p,e)
 | k+1=>(ptS l (stP l p e k).1,putT l (stP l p e k).1 (stP l p e k).2 k)
theorem ptexts_r (h:PenB w g a cap l p) (he:EntB w ge e) (hs:SlU base w a cap l) (hb:base≤w.heap.size) (hg:base≤g) (hge:base≤ge) (hp:p.at'≤l.length) (hl:l.length≤1000000) :
  Calls Tryz.prog 194 #[.pointer (some ⟨g,0,none⟩),.pointer (some ⟨ge,3,none⟩),.func (.func 228) #[] #[]] w fun en w'=>en=.returned (.tuple #[])∧PenB w' g a cap l (stP l p e 3).1∧EntB w' ge (stP l p e 3).2∧Below base w w':=by
 go_enter func194,ntmps194
 refine seqH fun K HK=>?_
 refine wp_region_under (by kernel_rfl) (by kernel_rfl) ?_
 repeat (go_big_quiet_step (fail))
 refine wpQuiet_nil ?_
 intro _ hw'
 obtain ⟨xU,hw''⟩:=hw'
 subst hw''
 have hbU:=under_below w xU
 have hp0:PenB (Under w xU) g a cap l p:=tr_bl hbU h
 have he0:EntB (Under w xU) ge e:=tr_bl hbU he
 refine HK.out _ _ ?_
 clear HK
 have hbd:=hbU
 clear hbU
 generalize Under w xU=w0 at *
 rw [show Value.agg #[.pointer (some ⟨ge,4,none⟩),.pointer (some ⟨ge,5,none⟩),.pointer (some ⟨ge,6,none⟩)]=txV ge from rfl]
 obtain ⟨i0,i1,i2⟩:=txV_at ge
 go_wp2
 go_loopw [18,7] (fun i _ wr=>∃ j:Nat,j≤3∧i=.int .i64 (j:Nat)∧PenB wr g a cap l (stP l p e j).1∧EntB wr ge (stP l p e j).2∧Below base w wr∧(stP l p e j).1.at'≤l.length) (fun i _ _=>3 - (intOf i).toNat)
 case atStart=>exact ⟨0,by omega,rfl,hp0,he0,hbd.mono hb,hp⟩
 case round=>
  clear hp0 he0 hbd
  obtain ⟨j,hj,rfl,hpn,hen,hbw,hpl⟩:=hrel
  rcases (show j=0∨j=1∨j=2∨j=3 by omega) with rfl | rfl | rfl | rfl
  ·skip
   generalize hst:stP l p e 0=st at *
   have h9:stP l p e (0+1)=(ptS l st.1,putT l st.1 st.2 0):=by rw [← hst];rfl
   have HST:=Lib.hid h9
   clear hst h9
   have hbr:=Nat.le_trans hb hbw.size
   go_wp2_with (go_at_call 228;refine (pread_any (j:=0) hpn hen (hs.step hbw) hbr hg hge hpl hl (by decide) rfl).mono ?_;rintro en w1 ⟨rfl,hp1,he1,hb1⟩)
   go_roundw
   case rel=>exact ⟨0+1,by omega,by rfl,by rw [HST.out];exact hp1,by rw [HST.out];exact he1,hbw.trans hb1,by rw [HST.out];exact ptS_le hpl⟩
   case measure=>simp [intOf]
  ·skip
   generalize hst:stP l p e 1=st at *
   have h9:stP l p e (1+1)=(ptS l st.1,putT l st.1 st.2 1):=by rw [← hst];rfl
   have HST:=Lib.hid h9
   clear hst h9
   have hbr:=Nat.le_trans hb hbw.size
   go_wp2_with (go_at_call 228;refine (pread_any (j:=1) hpn hen (hs.step hbw) hbr hg hge hpl hl (by decide) rfl).mono ?_;rintro en w1 ⟨rfl,hp1,he1,hb1⟩)
   go_roundw
   case rel=>exact ⟨1+1,by omega,by rfl,by rw [HST.out];exact hp1,by rw [HST.out];exact he1,hbw.trans hb1,by rw [HST.out];exact ptS_le hpl⟩
   case measure=>simp [intOf]
  ·skip
   generalize hst:stP l p e 2=st at *
   have h9:stP l p e (2+1)=(ptS l st.1,putT l st.1 st.2 2):=by rw [← hst];rfl
   have HST:=Lib.hid h9
   clear hst h9
   have hbr:=Nat.le_trans hb hbw.size
   go_wp2_with (go_at_call 228;refine (pread_any (j:=2) hpn hen (hs.step hbw) hbr hg hge hpl hl (by decide) rfl).mono ?_;rintro en w1 ⟨rfl,hp1,he1,hb1⟩)
   go_roundw
   case rel=>exact ⟨2+1,by omega,by rfl,by rw [HST.out];exact hp1,by rw [HST.out];exact he1,hbw.trans hb1,by rw [HST.out];exact ptS_le hpl⟩
   case measure=>simp [intOf]
  ·go_wp2
   go_end0
   exact ⟨rfl,hpn,hen,hbw⟩
end
end
section
theorem results_c1t2 {P:Program} {fn:Func} {p t q r:Nat} {tmps:Array Value} {w:World} {A:Addr} {v:Value} (hf:fn.results=#[.cell p t,.tmp q,.tmp r]) (hp:tmps.getD p undef=.pointer (some A)) (hl:(loadVar t A).run P w=.ok v w):(results fn tmps).run P w=.ok (.tuple #[v,tmps.getD q undef,tmps.getD r undef]) w:=by
 have hp':tmps[p]?.getD undef=.pointer (some A):=by simpa using hp
 simp [results,hf,hp',asAddr,hl]
def RdV (r:Option (En×Nat)):Value:=match r with | some (e,n)=>.tuple #[.agg (enA e),.int .i64 (n:Int),.int .i64 0] | none=>.tuple #[.agg (enA (zeroE 0)),.int .i64 0,.int .i64 90]
theorem en_new (e:En):(Value.agg (enA e)).cells=enA e∧(enA e).size=7∧∀ u ∈ (enA e).toList,u.oneCell'=true:=⟨rfl,rfl,by simp [enA,Value.oneCell']⟩
theorem en_k (k:Int):(Value.agg #[.int .u8 k,.int .i64 0,.int .i64 0,.int .u8 0,.string ⟨#[]⟩,.string ⟨#[]⟩,.string ⟨#[]⟩]).cells=enA (zeroE k)∧(enA (zeroE k)).size=7∧∀ u ∈ (enA (zeroE k)).toList,u.oneCell'=true:=⟨rfl,rfl,by simp [enA,Value.oneCell']⟩
theorem en_over (e e':En):0+7≤(enA e).size∧(Value.agg (enA e')).cells.size=7∧(∀ u ∈ (Value.agg (enA e')).cells.toList,u.oneCell'=true)∧((enA e).toList.take 0++(Value.agg (enA e')).cells.toList++(enA e).toList.drop (0+7)).toArray=enA e':=
 ⟨by show _≤7;omega,rfl,by simp [Value.cells,enA,Value.oneCell'],rfl⟩
theorem en_s1 (e:En) (x:Int):1+1≤(enA e).size∧(Value.int .i64 x).cells.size=1∧(∀ u ∈ (Value.int .i64 x).cells.toList,u.oneCell'=true)∧((enA e).toList.take 1++(Value.int .i64 x).cells.toList++(enA e).toList.drop (1+1)).toArray=enA { e with cli:=x }:=
 ⟨by show _≤7;omega,rfl,by simp [Value.cells,Value.oneCell'],rfl⟩
theorem en_s2 (e:En) (x:Int):2+1≤(enA e).size∧(Value.int .i64 x).cells.size=1∧(∀ u ∈ (Value.int .i64 x).cells.toList,u.oneCell'=true)∧((enA e).toList.take 2++(Value.int .i64 x).cells.toList++(enA e).toList.drop (2+1)).toArray=enA { e with seq:=x }:=
 ⟨by show _≤7;omega,rfl,by simp [Value.cells,Value.oneCell'],rfl⟩
theorem en_s3 (e:En) (x:Int):3+1≤(enA e).size∧(Value.int .u8 x).cells.size=1∧(∀ u ∈ (Value.int .u8 x).cells.toList,u.oneCell'=true)∧((enA e).toList.take 3++(Value.int .u8 x).cells.toList++(enA e).toList.drop (3+1)).toArray=enA { e with op:={ e.op with kind:=x } }:=
 ⟨by show _≤7;omega,rfl,by simp [Value.cells,Value.oneCell'],rfl⟩
theorem SlU.up {b b':Nat} {w:World} {a:Option Addr} {cap:Nat} {l:List UInt8} (h:SlU b w a cap l) (hb:b≤b'):SlU b' w a cap l:=fun w' h'=>h w' (h'.mono hb)
theorem ptS_bad {l:List UInt8} {p:Pen} (h:p.bad=true):ptS l p=p:=by unfold ptS;rw [if_pos h]
def outR (x:En×Pen):Option (En×Nat):=if x.2.bad=true∨mayE x.1=false then none else some (x.1,x.2.at')
theorem outR_bad {x:En×Pen} (h:x.2.bad=true):outR x=none:=by unfold outR;rw [if_pos (Or.inl h)]
theorem op_same {l:List UInt8} {k:Int} {p1 p2 p3 p4:Pen} {cl sq ok:Nat} (h1:pgN l p1 1=cl) (h2:pgS l p1 1=p2) (h3:pgN l p2 6=sq) (h4:pgS l p2 6=p3) (h5:pgN l p3 1=ok) (h6:pgS l p3 1=p4) :
  outR (opR l k p1)=outR ((stP l p4 ⟨k,cl,sq,⟨ok,⟨#[]⟩,⟨#[]⟩,⟨#[]⟩⟩⟩ 3).2,(stP l p4 ⟨k,cl,sq,⟨ok,⟨#[]⟩,⟨#[]⟩,⟨#[]⟩⟩⟩ 3).1):=by
 have ho:opR l k p1=(⟨k,cl,sq,⟨ok,ptT l p4,ptT l (ptS l p4),ptT l (ptS l (ptS l p4))⟩⟩,ptS l (ptS l (ptS l p4))):=by
  unfold opR
  simp only
  rw [h1,h2,h3,h4,h5,h6]
 rw [ho]
 rcases Bool.eq_false_or_eq_true (ptS l (ptS l (ptS l p4))).bad with hb | hb
 ·rw [outR_bad hb]
  exact (outR_bad hb).symm
 ·have hb2:(ptS l (ptS l p4)).bad=false:=by
   cases h:(ptS l (ptS l p4)).bad with
   | false=>rfl
   | true=>rw [ptS_bad h,h] at hb;exact hb.symm ▸ rfl
  have hb1:(ptS l p4).bad=false:=by
   cases h:(ptS l p4).bad with
   | false=>rfl
   | true=>rw [ptS_bad h,h] at hb2;exact hb2.symm ▸ rfl
  have e1:putT l p4 ⟨k,cl,sq,⟨ok,⟨#[]⟩,⟨#[]⟩,⟨#[]⟩⟩⟩ 0=⟨k,cl,sq,⟨ok,ptT l p4,⟨#[]⟩,⟨#[]⟩⟩⟩:=by unfold putT;rw [if_neg (by simp [hb1])];rfl
  have e2:putT l (ptS l p4) ⟨k,cl,sq,⟨ok,ptT l p4,⟨#[]⟩,⟨#[]⟩⟩⟩ 1=⟨k,cl,sq,⟨ok,ptT l p4,ptT l (ptS l p4),⟨#[]⟩⟩⟩:=by unfold putT;rw [if_neg (by simp [hb2])];rfl
  have e3:putT l (ptS l (ptS l p4)) ⟨k,cl,sq,⟨ok,ptT l p4,ptT l (ptS l p4),⟨#[]⟩⟩⟩ 2=⟨k,cl,sq,⟨ok,ptT l p4,ptT l (ptS l p4),ptT l (ptS l (ptS l p4))⟩⟩:=by unfold putT;rw [if_neg (by simp [hb])];rfl
  simp only [stP]
  rw [e1,e2,e3]
theorem eread_any (a:Option Addr) (cap p:Nat) (l:List UInt8) (w:World) (hs:SlB w a cap l) (hp:p≤l.length) (hl:l.length≤1000000) :
  Calls Tryz.prog 220 #[.slice a l.length cap,.int .i64 p] w fun en w'=>en=.returned (RdV (entR l p))∧Below w.heap.size w w':=by
 obtain ⟨r,hr⟩:∃ r,entR l p=r:=⟨_,rfl⟩
 rw [hr]
 have HR:=Lib.hid hr
 clear hr
 have hI1:¬ ((p:Int) < 0):=by omega
 have hI2:¬ ((l.length:Int) < p):=by omega
 have hs0:=SlU.of hs
 go_enter func220,ntmps220
 refine seqH fun K HK=>?_
 go_wp2
 refine HK.out _ _ ?_
 clear HK
 refine seqH fun K HK=>?_
 go_wp2
 refine HK.out _ _ ?_
 clear HK
 refine seqH fun K HK=>?_
 go_wp2
 refine HK.out _ _ ?_
 clear HK
 have hbZ:=(blw w (Obj.cells #[.int .u8 0,.int .i64 0,.int .i64 0,.int .u8 0,.string ⟨#[]⟩,.string ⟨#[]⟩,.string ⟨#[]⟩] 73))
 have hbP:=hbZ.trans ((blw (w.alloc (Obj.cells #[.int .u8 0,.int .i64 0,.int .i64 0,.int .u8 0,.string ⟨#[]⟩,.string ⟨#[]⟩,.string ⟨#[]⟩] 73)) (Obj.cells #[.slice a l.length cap,.int .i64 (p:Int),.bool false] 228)).mono hbZ.size)
 have R1:((w.alloc (Obj.cells #[.int .u8 0,.int .i64 0,.int .i64 0,.int .u8 0,.string ⟨#[]⟩,.string ⟨#[]⟩,.string ⟨#[]⟩] 73)).alloc (Obj.cells #[.slice a l.length cap,.int .i64 (p:Int),.bool false] 228)).heap[w.heap.size]?=some (.cells (enA (zeroE 0)) 73 (0,0)):=tr_al (Obj.cells #[.slice a l.length cap,.int .i64 (p:Int),.bool false] 228) (heap_alloc_new w (Obj.cells #[.int .u8 0,.int .i64 0,.int .i64 0,.int .u8 0,.string ⟨#[]⟩,.string ⟨#[]⟩,.string ⟨#[]⟩] 73))
 have B1:PenB ((w.alloc (Obj.cells #[.int .u8 0,.int .i64 0,.int .i64 0,.int .u8 0,.string ⟨#[]⟩,.string ⟨#[]⟩,.string ⟨#[]⟩] 73)).alloc (Obj.cells #[.slice a l.length cap,.int .i64 (p:Int),.bool false] 228)) (w.heap.size+1) a cap l ⟨p,false⟩:=by
  have:=heap_alloc_new (w.alloc (Obj.cells #[.int .u8 0,.int .i64 0,.int .i64 0,.int .u8 0,.string ⟨#[]⟩,.string ⟨#[]⟩,.string ⟨#[]⟩] 73)) (Obj.cells #[.slice a l.length cap,.int .i64 (p:Int),.bool false] 228)
  rwa [show (w.alloc (Obj.cells #[.int .u8 0,.int .i64 0,.int .i64 0,.int .u8 0,.string ⟨#[]⟩,.string ⟨#[]⟩,.string ⟨#[]⟩] 73)).heap.size=w.heap.size+1 by simp] at this
 have hgz:w.heap.size < w.heap.size+1:=by omega
 generalize (w.alloc (Obj.cells #[.int .u8 0,.int .i64 0,.int .i64 0,.int .u8 0,.string ⟨#[]⟩,.string ⟨#[]⟩,.string ⟨#[]⟩] 73)).alloc (Obj.cells #[.slice a l.length cap,.int .i64 (p:Int),.bool false] 228)=w1 at *
 generalize w.heap.size+1=g at *
 clear hbZ hI1 hI2 hs
 have hs1:=hs0.step hbP
 have hkb:=pgN_le l ⟨p,false⟩ 1 (.inl rfl)
 obtain ⟨k,hk⟩:∃ k,pgN l ⟨p,false⟩ 1=k:=⟨_,rfl⟩
 obtain ⟨p1,hp1⟩:∃ p1,pgS l ⟨p,false⟩ 1=p1:=⟨_,rfl⟩
 have hget:=pget_any (p:=⟨p,false⟩) B1 hs1 hp 1 (.inl rfl)
 have hp1l:=pgS_le (l:=l) (p:=⟨p,false⟩) hp 1
 rw [hk,hp1] at hget
 rw [hk] at hkb
 rw [hp1] at hp1l
 have HK1:=Lib.hid hk
 have HP1:=Lib.hid hp1
 clear hk hp1 hs1 B1
 have hkm:(k:Int) < 256:=by omega
 refine seqH fun K HK=>?_
 go_wp2_with (first
   | (go_at_call 219;refine hget.mono ?_;rintro e w2 ⟨rfl,B2,g2⟩)
   | ((first | (with_reducible refine wpList_stNew 73 _ _ ?_) | (with_reducible refine wp_stNew 73 _ _ ?_));refine ⟨_,_,⟨sizeOf73,rfl,en_k _⟩,rfl,?_⟩))
 refine HK.out _ _ ?_
 clear HK
 have hb2:=bls hbP (Nat.le_refl _) g2 (by omega)
 have R2:=tr_st g2 R1 (by omega)
 have hbx:=blw w2 (Obj.cells (enA (zeroE (k:Int))) 73)
 have hbw:=hb2.trans (hbx.mono hb2.size)
 have EP:(w2.alloc (Obj.cells (enA (zeroE (k:Int))) 73)).heap[w2.heap.size]?=some (.cells (enA (zeroE k)) 73 (0,0)):=heap_alloc_new w2 (Obj.cells (enA (zeroE (k:Int))) 73)
 have BP:PenB (w2.alloc (Obj.cells (enA (zeroE (k:Int))) 73)) g a cap l p1:=tr_bl hbx B2
 have RP:=tr_bl hbx R2
 have hn1:g≠w.heap.size:=by omega
 have hgl:=lt_blk B2
 have hn2:g≠w2.heap.size:=by omega
 have hn3:w2.heap.size≠w.heap.size:=by omega
 have hge:w.heap.size≤w2.heap.size:=hb2.size
 have hgg:w.heap.size≤g:=by omega
 clear hb2 R2 hbx B2 g2 hget R1 hbP
 generalize w2.alloc (Obj.cells (enA (zeroE (k:Int))) 73)=w3 at *
 generalize w2.heap.size=ge at *
 have ek0:w3.cell? ⟨ge,0,none⟩=some (.int .u8 (k:Int)):=blk_cell EP 0 _ rfl
 by_cases h2:k=2
 case neg=>
  have e2:((k:Int)==2)=false:=by rw [beq_eq_false_iff_ne];omega
  have hrr:outR (zeroE k,p1)=r:=by
   rw [← HR.out]
   unfold entR entP
   rw [HK1.out,HP1.out,if_neg h2]
   rfl
  clear HR HK1 HP1 h2
  refine seqH fun K HK=>?_
  go_wp2
  refine HK.out _ _ ?_
  clear HK
  generalize zeroE k=e at *
  generalize p1=pz at *
  unfold outR at hrr
  simp only at hrr
  have c2:=PenB.c2 BP
  have c1:=PenB.c1 BP
  cases hbd:pz.bad
  case true=>
   rw [hbd] at c2
   obtain rfl:none=r:=by rw [← hrr,if_pos (.inl hbd)]
   clear hrr hbd
   go_wp2_with ((with_reducible refine wpList_stB 73 _ _ ?_);refine ⟨_,_,_,⟨_,_,_,sizeOf73,rfl,RP,en_over _ (zeroE 0)⟩,?_⟩;intro w9 R9 g9)
   refine bodyPost_ret (results_c1t2 rfl rfl (run_loadVar_all isAgg73 sizeOf73 R9 rfl)) rfl ⟨rfl,bls hbw (Nat.le_refl _) g9 (Nat.le_refl _)⟩
  case false=>
   rw [hbd] at c2
   have hmy:=fun w=>emay_any e w _ rfl
   cases hme:mayE e
   case false=>
    rw [hme] at hmy
    obtain rfl:none=r:=by rw [← hrr,if_pos (.inr hme)]
    clear hrr hbd hme
    go_wp2_with (first
     | ((with_reducible refine wpList_ldB 73 _ ?_);refine ⟨rfl,_,⟨_,_,_,_,_,isAgg73,sizeOf73,rfl,‹_›,arr_all rfl⟩,?_⟩)
     | (go_at_call 150;refine (hmy _).mono ?_;rintro en w8 ⟨rfl,hb8⟩;have R8:=tr_bl hb8 RP)
     | ((with_reducible refine wpList_stB 73 _ _ ?_);refine ⟨_,_,_,⟨_,_,_,sizeOf73,rfl,R8,en_over _ (zeroE 0)⟩,?_⟩;intro w9 R9 g9))
    have hb9:=hbw.trans (hb8.mono hbw.size)
    refine bodyPost_ret (results_c1t2 rfl rfl (run_loadVar_all isAgg73 sizeOf73 R9 rfl)) rfl ⟨rfl,bls hb9 (Nat.le_refl _) g9 (Nat.le_refl _)⟩
   case true=>
    rw [hme] at hmy
    obtain rfl:some (e,pz.at')=r:=by rw [← hrr,if_neg (by simp [hbd,hme])]
    clear hrr hme
    refine seqH fun K HK=>?_
    go_wp2_with (first
       | ((with_reducible refine wpList_ldB 73 _ ?_);refine ⟨rfl,_,⟨_,_,_,_,_,isAgg73,sizeOf73,rfl,‹_›,arr_all rfl⟩,?_⟩)
       | (go_at_call 150;refine (hmy _).mono ?_;rintro en w8 ⟨rfl,hb8⟩))
    refine HK.out _ _ ?_
    clear HK
    refine seqH fun K HK=>?_
    have hb9:=hbw.trans (hb8.mono hbw.size)
    have hbd9:=(Below.refl w8.heap.size w8).drew
    have hb10:=hb9.trans (hbd9.mono hb9.size)
    have B9:=tr_bl hbd9 (tr_bl hb8 BP)
    have E9:=tr_bl hbd9 (tr_bl hb8 EP)
    have R9:=tr_bl hbd9 (tr_bl hb8 RP)
    clear c1 c2 hbd
    refine wp_region_held_drew (S:=fun w'=>w'.heap[ge]?=some (.cells (enA e) 73 (0,0))∧PenB w' g a cap l pz) (by kernel_rfl) ⟨E9,B9⟩ (fun hS0=>?_)
    generalize w8.drew=x0 at *
    refine tkT 0 (v:=.agg (enA e)) rfl (by intro wS hSw;exact exec_ldB 73 _ ⟨_,_,_,_,_,isAgg73,sizeOf73,rfl,hSw.1,arr_all rfl⟩) ?_
    refine tkP 1 rfl ?_
    refine tkT 2 rfl (by intro wS hSw;have c:=PenB.c1 hSw.2;go_simp;(try with_reducible rfl)) ?_
    refine rdy1 3 rfl (fun K' hK'=>?_)
    refine wp_stB 73 _ _ ?_
    refine ⟨_,_,_,⟨_,_,_,sizeOf73,rfl,R9,en_over _ e⟩,?_⟩
    intro w11 B11 g11
    refine hK'.out _ _ ⟨tr_st g11 hS0.1 (Ne.symm hn3),tr_st g11 hS0.2 (Ne.symm hn1)⟩ (fun _=>?_)
    clear hK'
    (try simp only [Act.put,qa1,qa2,qa3])
    refine tkP 4 rfl ?_
    refine tkP 5 rfl ?_
    refine wpAnyH_done (by kernel_rfl) ?_ _
    refine HK.out _ _ ?_
    clear HK
    go_wp2
    refine bodyPost_ret (results_c1t2 rfl rfl (run_loadVar_all isAgg73 sizeOf73 B11 rfl)) rfl ⟨rfl,bls hb10 (Nat.le_refl _) g11 (Nat.le_refl _)⟩
 case pos=>
  subst h2
  refine seqH fun K HK=>?_
  go_wp2_with fail
  have hget:=pget_any BP (hs0.step hbw) hp1l 1 (by omega)
  obtain ⟨cl,hxcl⟩:∃ x,pgN l p1 1=x:=⟨_,rfl⟩
  obtain ⟨p2,hxp2⟩:∃ x,pgS l p1 1=x:=⟨_,rfl⟩
  have hp2l:=pgS_le (l:=l) hp1l 1
  have hbcl:=pgN_le l p1 1 (by omega)
  rw [hxcl,hxp2] at hget
  rw [hxp2] at hp2l
  rw [hxcl] at hbcl
  have HXcl:=Lib.hid hxcl
  have HXp2:=Lib.hid hxp2
  clear hxcl hxp2
  refine hget.mono ?_
  rintro en w4 ⟨rfl,B4,g4⟩
  have E4:=tr_st g4 EP hn2
  have R4:=tr_st g4 RP hn1
  have hb4:=bls hbw (Nat.le_refl _) g4 hgg
  clear hget EP RP BP hbw
  go_wp2_with (first
   | ((first | (with_reducible refine wpList_stB 3 _ _ ?_) | (with_reducible refine wp_stB 3 _ _ ?_));refine ⟨_,_,_,⟨_,_,_,sizeOf3,rfl,‹_›,en_s1 _ _⟩,?_⟩;intro w5 E5 g5)
   | ((first | (with_reducible refine wpList_stB 3 _ _ ?_) | (with_reducible refine wp_stB 3 _ _ ?_));refine ⟨_,_,_,⟨_,_,_,sizeOf3,rfl,‹_›,en_s2 _ _⟩,?_⟩;intro w6 E6 g6))
  have B6:=tr_st g6 (tr_st g5 B4 (Ne.symm hn2)) (Ne.symm hn2)
  have R6:=tr_st g6 (tr_st g5 R4 hn3) hn3
  have hb6:=bls (bls hb4 (Nat.le_refl _) g5 hge) (Nat.le_refl _) g6 hge
  have E6':w6.heap[ge]?=some (.cells (enA ⟨2,cl,0,⟨0,⟨#[]⟩,⟨#[]⟩,⟨#[]⟩⟩⟩) 73 (0,0)):=E6
  clear g4 g5 g6 B4 R4 E4 E5 hb4 E6
  have hget:=pget_any B6 (hs0.step hb6) hp2l 6 (by omega)
  obtain ⟨sq,hxsq⟩:∃ x,pgN l p2 6=x:=⟨_,rfl⟩
  obtain ⟨p3,hxp3⟩:∃ x,pgS l p2 6=x:=⟨_,rfl⟩
  have hp3l:=pgS_le (l:=l) hp2l 6
  have hbsq:=pgN_le l p2 6 (by omega)
  rw [hxsq,hxp3] at hget
  rw [hxp3] at hp3l
  rw [hxsq] at hbsq
  have HXsq:=Lib.hid hxsq
  have HXp3:=Lib.hid hxp3
  clear hxsq hxp3
  refine hget.mono ?_
  rintro en w7 ⟨rfl,B7,g7⟩
  have E7:=tr_st g7 E6' hn2
  have R7:=tr_st g7 R6 hn1
  have hb7:=bls hb6 (Nat.le_refl _) g7 hgg
  clear hget
  go_wp2_with ((first | (with_reducible refine wpList_stB 3 _ _ ?_) | (with_reducible refine wp_stB 3 _ _ ?_));refine ⟨_,_,_,⟨_,_,_,sizeOf3,rfl,‹_›,en_s2 _ _⟩,?_⟩;intro w8 E8 g8)
  have B8:=tr_st g8 B7 (Ne.symm hn2)
  have R8:=tr_st g8 R7 hn3
  have hb8:=bls hb7 (Nat.le_refl _) g8 hge
  have E8':w8.heap[ge]?=some (.cells (enA ⟨2,cl,sq,⟨0,⟨#[]⟩,⟨#[]⟩,⟨#[]⟩⟩⟩) 73 (0,0)):=E8
  clear g7 g8 B7 R7 E7 E8 E6' B6 R6 hb7 hb6
  have hget:=pget_any B8 (hs0.step hb8) hp3l 1 (by omega)
  obtain ⟨ok,hxok⟩:∃ x,pgN l p3 1=x:=⟨_,rfl⟩
  obtain ⟨p4,hxp4⟩:∃ x,pgS l p3 1=x:=⟨_,rfl⟩
  have hp4l:=pgS_le (l:=l) hp3l 1
  have hbok:=pgN_le l p3 1 (by omega)
  rw [hxok,hxp4] at hget
  rw [hxp4] at hp4l
  rw [hxok] at hbok
  have HXok:=Lib.hid hxok
  have HXp4:=Lib.hid hxp4
  clear hxok hxp4
  have hokm:(ok:Int) < 256:=by omega
  refine hget.mono ?_
  rintro en w9 ⟨rfl,B9,g9⟩
  have E9:=tr_st g9 E8' hn2
  have R9:=tr_st g9 R8 hn1
  have hb9:=bls hb8 (Nat.le_refl _) g9 hgg
  clear hget
  go_wp2_with ((first | (with_reducible refine wpList_stB 5 _ _ ?_) | (with_reducible refine wp_stB 5 _ _ ?_));refine ⟨_,_,_,⟨_,_,_,sizeOf5,rfl,‹_›,en_s3 _ _⟩,?_⟩;intro w10 E10 g10)
  have B10:=tr_st g10 B9 (Ne.symm hn2)
  have R10:=tr_st g10 R9 hn3
  have hb10:=bls hb9 (Nat.le_refl _) g10 hge
  have E10':EntB w10 ge ⟨2,cl,sq,⟨ok,⟨#[]⟩,⟨#[]⟩,⟨#[]⟩⟩⟩:=E10
  clear g9 g10 B9 R9 E9 E10 E8' B8 R8 hb9 hb8
  have hgl10:=lt_blk B10
  refine (ptexts_r (base:=g) (e:=⟨2,cl,sq,⟨ok,⟨#[]⟩,⟨#[]⟩,⟨#[]⟩⟩⟩) B10 E10' ((hs0.step hb10).up hgg) (Nat.le_of_lt hgl10) (Nat.le_refl _) (by omega) hp4l hl).mono ?_
  rintro en w11 ⟨rfl,BP,EP,hb11⟩
  have RP:=(hb11.block w.heap.size (by omega)).trans R10
  have hbw:=hb10.trans (hb11.mono hgg)
  have hrr:outR ((stP l p4 ⟨2,cl,sq,⟨ok,⟨#[]⟩,⟨#[]⟩,⟨#[]⟩⟩⟩ 3).2,(stP l p4 ⟨2,cl,sq,⟨ok,⟨#[]⟩,⟨#[]⟩,⟨#[]⟩⟩⟩ 3).1)=r:=by
   rw [← HR.out,← op_same HXcl.out HXp2.out HXsq.out HXp3.out HXok.out HXp4.out]
   unfold entR entP
   rw [HK1.out,HP1.out,if_pos rfl]
   rfl
  clear HR HK1 HP1 HXcl HXp2 HXsq HXp3 HXok HXp4 hb11 R10 hb10 E10' B10
  generalize (stP l p4 ⟨2,cl,sq,⟨ok,⟨#[]⟩,⟨#[]⟩,⟨#[]⟩⟩⟩ 3).1=pz at *
  generalize (stP l p4 ⟨2,cl,sq,⟨ok,⟨#[]⟩,⟨#[]⟩,⟨#[]⟩⟩⟩ 3).2=e at *
  go_wp2
  refine HK.out _ _ ?_
  clear HK
  unfold outR at hrr
  simp only at hrr
  have c2:=PenB.c2 BP
  have c1:=PenB.c1 BP
  cases hbd:pz.bad
  case true=>
   rw [hbd] at c2
   obtain rfl:none=r:=by rw [← hrr,if_pos (.inl hbd)]
   clear hrr hbd
   go_wp2_with ((with_reducible refine wpList_stB 73 _ _ ?_);refine ⟨_,_,_,⟨_,_,_,sizeOf73,rfl,RP,en_over _ (zeroE 0)⟩,?_⟩;intro w9 R9 g9)
   refine bodyPost_ret (results_c1t2 rfl rfl (run_loadVar_all isAgg73 sizeOf73 R9 rfl)) rfl ⟨rfl,bls hbw (Nat.le_refl _) g9 (Nat.le_refl _)⟩
  case false=>
   rw [hbd] at c2
   have hmy:=fun w=>emay_any e w _ rfl
   cases hme:mayE e
   case false=>
    rw [hme] at hmy
    obtain rfl:none=r:=by rw [← hrr,if_pos (.inr hme)]
    clear hrr hbd hme
    go_wp2_with (first
     | ((with_reducible refine wpList_ldB 73 _ ?_);refine ⟨rfl,_,⟨_,_,_,_,_,isAgg73,sizeOf73,rfl,‹_›,arr_all rfl⟩,?_⟩)
     | (go_at_call 150;refine (hmy _).mono ?_;rintro en w8 ⟨rfl,hb8⟩;have R8:=tr_bl hb8 RP)
     | ((with_reducible refine wpList_stB 73 _ _ ?_);refine ⟨_,_,_,⟨_,_,_,sizeOf73,rfl,R8,en_over _ (zeroE 0)⟩,?_⟩;intro w9 R9 g9))
    have hb9:=hbw.trans (hb8.mono hbw.size)
    refine bodyPost_ret (results_c1t2 rfl rfl (run_loadVar_all isAgg73 sizeOf73 R9 rfl)) rfl ⟨rfl,bls hb9 (Nat.le_refl _) g9 (Nat.le_refl _)⟩
   case true=>
    rw [hme] at hmy
    obtain rfl:some (e,pz.at')=r:=by rw [← hrr,if_neg (by simp [hbd,hme])]
    clear hrr hme
    refine seqH fun K HK=>?_
    go_wp2_with (first
       | ((with_reducible refine wpList_ldB 73 _ ?_);refine ⟨rfl,_,⟨_,_,_,_,_,isAgg73,sizeOf73,rfl,‹_›,arr_all rfl⟩,?_⟩)
       | (go_at_call 150;refine (hmy _).mono ?_;rintro en w8 ⟨rfl,hb8⟩))
    refine HK.out _ _ ?_
    clear HK
    refine seqH fun K HK=>?_
    have hb9:=hbw.trans (hb8.mono hbw.size)
    have hbd9:=(Below.refl w8.heap.size w8).drew
    have hb10:=hb9.trans (hbd9.mono hb9.size)
    have B9:=tr_bl hbd9 (tr_bl hb8 BP)
    have E9:=tr_bl hbd9 (tr_bl hb8 EP)
    have R9:=tr_bl hbd9 (tr_bl hb8 RP)
    clear c1 c2 hbd
    refine wp_region_held_drew (S:=fun w'=>w'.heap[ge]?=some (.cells (enA e) 73 (0,0))∧PenB w' g a cap l pz) (by kernel_rfl) ⟨E9,B9⟩ (fun hS0=>?_)
    generalize w8.drew=x0 at *
    refine tkT 0 (v:=.agg (enA e)) rfl (by intro wS hSw;exact exec_ldB 73 _ ⟨_,_,_,_,_,isAgg73,sizeOf73,rfl,hSw.1,arr_all rfl⟩) ?_
    refine tkP 1 rfl ?_
    refine tkT 2 rfl (by intro wS hSw;have c:=PenB.c1 hSw.2;go_simp;(try with_reducible rfl)) ?_
    refine rdy1 3 rfl (fun K' hK'=>?_)
    refine wp_stB 73 _ _ ?_
    refine ⟨_,_,_,⟨_,_,_,sizeOf73,rfl,R9,en_over _ e⟩,?_⟩
    intro w11 B11 g11
    refine hK'.out _ _ ⟨tr_st g11 hS0.1 (Ne.symm hn3),tr_st g11 hS0.2 (Ne.symm hn1)⟩ (fun _=>?_)
    clear hK'
    (try simp only [Act.put,qa1,qa2,qa3])
    refine tkP 4 rfl ?_
    refine tkP 5 rfl ?_
    refine wpAnyH_done (by kernel_rfl) ?_ _
    refine HK.out _ _ ?_
    clear HK
    go_wp2
    refine bodyPost_ret (results_c1t2 rfl rfl (run_loadVar_all isAgg73 sizeOf73 B11 rfl)) rfl ⟨rfl,bls hb10 (Nat.le_refl _) g11 (Nat.le_refl _)⟩
end
section
def blA (b:Bal):Array Value:=#[.int .i64 b.rnd,.int .i64 b.rep]
def PsV (r:Option (Bal×En)):Value:=match r with | some (b,e)=>.tuple #[.agg (blA b),.agg (enA e),.int .i64 0] | none=>.tuple #[.agg (blA ⟨0,0⟩),.agg (enA (zeroE 0)),.int .i64 90]
theorem bl_new (b:Bal):(Value.agg (blA b)).cells=blA b∧(blA b).size=2∧∀ u ∈ (blA b).toList,u.oneCell'=true:=⟨rfl,rfl,by simp [blA,Value.oneCell']⟩
theorem bl_over (b b':Bal):0+2≤(blA b).size∧(Value.agg (blA b')).cells.size=2∧(∀ u ∈ (Value.agg (blA b')).cells.toList,u.oneCell'=true)∧((blA b).toList.take 0++(Value.agg (blA b')).cells.toList++(blA b).toList.drop (0+2)).toArray=blA b':=
 ⟨by show _≤2;omega,rfl,by simp [Value.cells,blA,Value.oneCell'],rfl⟩
theorem bl_s1 (b:Bal) (x:Int):1+1≤(blA b).size∧(Value.int .i64 x).cells.size=1∧(∀ u ∈ (Value.int .i64 x).cells.toList,u.oneCell'=true)∧((blA b).toList.take 1++(Value.int .i64 x).cells.toList++(blA b).toList.drop (1+1)).toArray=blA ⟨b.rnd,x⟩:=
 ⟨by show _≤2;omega,rfl,by simp [Value.cells,Value.oneCell'],rfl⟩
theorem mayBl_eq (b:Bal):mayBl b=(decide (1≤b.rnd) && (decide (b.rnd≤1099511627776) && (decide (0≤b.rep) && decide (b.rep < 7)))):=rfl
theorem ballot_any (b:Bal) (w:World) (r:Bool) (hr:mayBl b=r):Calls Tryz.prog 149 #[.agg (blA b)] w fun e w'=>e=.returned (.bool r)∧Below w.heap.size w w':=by
 obtain ⟨x,y⟩:=b
 rw [mayBl_eq] at hr
 simp only at hr
 unfold blA
 simp only
 have hb0:=blw w (Obj.cells #[.int .i64 x,.int .i64 y] 69)
 have hcs:x < 1∨(1≤x∧1099511627776 < x)∨(1≤x∧x≤1099511627776∧y < 0)∨(1≤x∧x≤1099511627776∧0≤y∧7≤y)∨(1≤x∧x≤1099511627776∧0≤y∧y < 7):=by omega
 have HR:=Lib.hid hr
 clear hr
 rcases hcs with h | ⟨h,h2⟩ | ⟨h,h2,h3⟩ | ⟨h,h2,h3,h4⟩ | ⟨h,h2,h3,h4⟩
 ·obtain rfl:r=false:=by rw [← HR.out,decide_eq_false (show ¬ 1≤x by omega)];rfl
  go_enter func149,ntmps149
  go_wp2
  go_ret
  exact ⟨ret_bool (by first | rfl | (simp;omega)),hb0⟩
 ·obtain rfl:r=false:=by rw [← HR.out,decide_eq_false (show ¬ x≤1099511627776 by omega)];simp
  go_enter func149,ntmps149
  go_wp2
  go_ret
  exact ⟨ret_bool (by first | rfl | (simp;omega)),hb0⟩
 ·obtain rfl:r=false:=by rw [← HR.out,decide_eq_false (show ¬ 0≤y by omega)];simp
  go_enter func149,ntmps149
  go_wp2
  go_ret
  exact ⟨ret_bool (by first | rfl | (simp;omega)),hb0⟩
 ·obtain rfl:r=false:=by rw [← HR.out,decide_eq_false (show ¬ y < 7 by omega)];simp
  go_enter func149,ntmps149
  go_wp2
  go_ret
  exact ⟨ret_bool (by first | rfl | (simp;omega)),hb0⟩
 ·obtain rfl:r=true:=by rw [← HR.out,decide_eq_true h,decide_eq_true h2,decide_eq_true h3,decide_eq_true h4];rfl
  go_enter func149,ntmps149
  go_wp2
  go_ret
  exact ⟨ret_bool (by first | rfl | (simp;omega)),hb0⟩
def NextR (r:Option (En×Nat)):En×Nat×Int:=match r with | some (e,n)=>(e,n,0) | none=>(zeroE 0,0,90)
theorem RdV_eq (r:Option (En×Nat)):RdV r=.tuple #[.agg (enA (NextR r).1),.int .i64 ((NextR r).2.1:Int),.int .i64 (NextR r).2.2]:=by cases r <;> rfl
theorem bl_k (n:Nat):(Value.agg #[.int .i64 (n:Int),.int .i64 0]).cells=blA ⟨(n:Int),0⟩∧(blA ⟨(n:Int),0⟩).size=2∧∀ u ∈ (blA ⟨(n:Int),0⟩).toList,u.oneCell'=true:=bl_new ⟨n,0⟩
theorem eparse_any (a:Option Addr) (cap:Nat) (l:List UInt8) (w:World) (hs:SlB w a cap l) (hl:l.length≤1000000) :
  Calls Tryz.prog 198 #[.slice a l.length cap] w fun en w'=>en=.returned (PsV (parseE l))∧Below w.heap.size w w':=by
 obtain ⟨r,hr⟩:∃ r,parseE l=r:=⟨_,rfl⟩
 rw [hr]
 have HR:=Lib.hid hr
 clear hr
 have hs0:=SlU.of hs
 go_enter func198,ntmps198
 refine seqH fun K HK=>?_
 go_wp2
 refine HK.out _ _ ?_
 clear HK
 refine seqH fun K HK=>?_
 go_wp2
 refine HK.out _ _ ?_
 clear HK
 have hbZ:=blw w (Obj.cells #[.int .i64 0,.int .i64 0] 69)
 have hbY:=hbZ.trans ((blw (w.alloc (Obj.cells #[.int .i64 0,.int .i64 0] 69)) (Obj.cells #[.int .u8 0,.int .i64 0,.int .i64 0,.int .u8 0,.string ⟨#[]⟩,.string ⟨#[]⟩,.string ⟨#[]⟩] 73)).mono hbZ.size)
 have hbP:=hbY.trans ((blw ((w.alloc (Obj.cells #[.int .i64 0,.int .i64 0] 69)).alloc (Obj.cells #[.int .u8 0,.int .i64 0,.int .i64 0,.int .u8 0,.string ⟨#[]⟩,.string ⟨#[]⟩,.string ⟨#[]⟩] 73)) (Obj.cells #[.slice a l.length cap,.int .i64 0,.bool false] 228)).mono hbY.size)
 have e1:(w.alloc (Obj.cells #[.int .i64 0,.int .i64 0] 69)).heap.size=w.heap.size+1:=by simp
 have e2:((w.alloc (Obj.cells #[.int .i64 0,.int .i64 0] 69)).alloc (Obj.cells #[.int .u8 0,.int .i64 0,.int .i64 0,.int .u8 0,.string ⟨#[]⟩,.string ⟨#[]⟩,.string ⟨#[]⟩] 73)).heap.size=w.heap.size+1+1:=by simp
 have RB:(((w.alloc (Obj.cells #[.int .i64 0,.int .i64 0] 69)).alloc (Obj.cells #[.int .u8 0,.int .i64 0,.int .i64 0,.int .u8 0,.string ⟨#[]⟩,.string ⟨#[]⟩,.string ⟨#[]⟩] 73)).alloc (Obj.cells #[.slice a l.length cap,.int .i64 0,.bool false] 228)).heap[w.heap.size]?=some (.cells (blA ⟨0,0⟩) 69 (0,0)):=tr_al (Obj.cells #[.slice a l.length cap,.int .i64 0,.bool false] 228) (tr_al (Obj.cells #[.int .u8 0,.int .i64 0,.int .i64 0,.int .u8 0,.string ⟨#[]⟩,.string ⟨#[]⟩,.string ⟨#[]⟩] 73) (heap_alloc_new w (Obj.cells #[.int .i64 0,.int .i64 0] 69)))
 have RE:(((w.alloc (Obj.cells #[.int .i64 0,.int .i64 0] 69)).alloc (Obj.cells #[.int .u8 0,.int .i64 0,.int .i64 0,.int .u8 0,.string ⟨#[]⟩,.string ⟨#[]⟩,.string ⟨#[]⟩] 73)).alloc (Obj.cells #[.slice a l.length cap,.int .i64 0,.bool false] 228)).heap[w.heap.size+1]?=some (.cells (enA (zeroE 0)) 73 (0,0)):=tr_al (Obj.cells #[.slice a l.length cap,.int .i64 0,.bool false] 228) (e1 ▸ heap_alloc_new (w.alloc (Obj.cells #[.int .i64 0,.int .i64 0] 69)) (Obj.cells #[.int .u8 0,.int .i64 0,.int .i64 0,.int .u8 0,.string ⟨#[]⟩,.string ⟨#[]⟩,.string ⟨#[]⟩] 73))
 have B1:PenB (((w.alloc (Obj.cells #[.int .i64 0,.int .i64 0] 69)).alloc (Obj.cells #[.int .u8 0,.int .i64 0,.int .i64 0,.int .u8 0,.string ⟨#[]⟩,.string ⟨#[]⟩,.string ⟨#[]⟩] 73)).alloc (Obj.cells #[.slice a l.length cap,.int .i64 0,.bool false] 228)) (w.heap.size+1+1) a cap l ⟨0,false⟩:=e2 ▸ heap_alloc_new ((w.alloc (Obj.cells #[.int .i64 0,.int .i64 0] 69)).alloc (Obj.cells #[.int .u8 0,.int .i64 0,.int .i64 0,.int .u8 0,.string ⟨#[]⟩,.string ⟨#[]⟩,.string ⟨#[]⟩] 73)) (Obj.cells #[.slice a l.length cap,.int .i64 0,.bool false] 228)
 have hn1:w.heap.size < w.heap.size+1:=by omega
 have hn2:w.heap.size+1 < w.heap.size+1+1:=by omega
 clear e1 e2 hbZ hbY hs
 generalize ((w.alloc (Obj.cells #[.int .i64 0,.int .i64 0] 69)).alloc (Obj.cells #[.int .u8 0,.int .i64 0,.int .i64 0,.int .u8 0,.string ⟨#[]⟩,.string ⟨#[]⟩,.string ⟨#[]⟩] 73)).alloc (Obj.cells #[.slice a l.length cap,.int .i64 0,.bool false] 228)=w1 at *
 generalize w.heap.size+1+1=g at *
 generalize w.heap.size+1=re at *
 have hgg:w.heap.size≤g:=by omega
 have hp0:(⟨0,false⟩:Pen).at'≤l.length:=Nat.zero_le _
 have hget:=pget_any B1 (hs0.step hbP) hp0 6 (by omega)
 obtain ⟨rn,hxrn⟩:∃ x,pgN l ⟨0,false⟩ 6=x:=⟨_,rfl⟩
 obtain ⟨p1,hxp1⟩:∃ x,pgS l ⟨0,false⟩ 6=x:=⟨_,rfl⟩
 have hp1l:=pgS_le (l:=l) hp0 6
 have hbrn:=pgN_le l ⟨0,false⟩ 6 (by omega)
 rw [hxrn,hxp1] at hget
 rw [hxp1] at hp1l
 rw [hxrn] at hbrn
 have HXrn:=Lib.hid hxrn
 have HXp1:=Lib.hid hxp1
 clear hxrn hxp1
 refine seqH fun K HK=>?_
 go_wp2_with (first
   | (go_at_call 219;refine hget.mono ?_;rintro en w2 ⟨rfl,B2,g2⟩)
   | ((first | (with_reducible refine wpList_stNew 69 _ _ ?_) | (with_reducible refine wp_stNew 69 _ _ ?_));refine ⟨_,_,⟨sizeOf69,rfl,bl_k _⟩,rfl,?_⟩))
 refine HK.out _ _ ?_
 clear HK
 have hb2:=bls hbP (Nat.le_refl _) g2 hgg
 have hgl:=lt_blk B2
 have RB2:=tr_st g2 RB (by omega)
 have RE2:=tr_st g2 RE (by omega)
 have hbx:=blw w2 (Obj.cells (blA ⟨(rn:Int),0⟩) 69)
 have X3:=heap_alloc_new w2 (Obj.cells (blA ⟨(rn:Int),0⟩) 69)
 have B3:PenB (w2.alloc (Obj.cells (blA ⟨(rn:Int),0⟩) 69)) g a cap l p1:=tr_bl hbx B2
 have RB3:=tr_bl hbx RB2
 have RE3:=tr_bl hbx RE2
 have hb3:=hb2.trans (hbx.mono hb2.size)
 clear hget B1 RB RE hbP g2 B2 RB2 RE2 hb2 hbx
 generalize w2.alloc (Obj.cells (blA ⟨(rn:Int),0⟩) 69)=w3 at *
 generalize w2.heap.size=x at *
 have hget:=pget_any B3 (hs0.step hb3) hp1l 1 (by omega)
 obtain ⟨rp,hxrp⟩:∃ x,pgN l p1 1=x:=⟨_,rfl⟩
 obtain ⟨p2,hxp2⟩:∃ x,pgS l p1 1=x:=⟨_,rfl⟩
 have hp2l:=pgS_le (l:=l) hp1l 1
 have hbrp:=pgN_le l p1 1 (by omega)
 rw [hxrp,hxp2] at hget
 rw [hxp2] at hp2l
 rw [hxrp] at hbrp
 have HXrp:=Lib.hid hxrp
 have HXp2:=Lib.hid hxp2
 clear hxrp hxp2
 refine seqH fun K HK=>?_
 go_wp2_with (first
   | (go_at_call 219;refine hget.mono ?_;rintro en w4 ⟨rfl,B4,g4⟩;have X4:=tr_st g4 X3 (by omega);have RB4:=tr_st g4 RB3 (by omega);have RE4:=tr_st g4 RE3 (by omega))
   | ((first | (with_reducible refine wpList_stB 3 _ _ ?_) | (with_reducible refine wp_stB 3 _ _ ?_));refine ⟨_,_,_,⟨_,_,_,sizeOf3,rfl,‹_›,bl_s1 _ _⟩,?_⟩;intro w5 X5 g5))
 refine HK.out _ _ ?_
 clear HK
 have hb4:=bls hb3 (Nat.le_refl _) g4 hgg
 have hb5:=bls hb4 (Nat.le_refl _) g5 (by omega)
 have B5:PenB w5 g a cap l p2:=tr_st g5 B4 (by omega)
 have RB5:=tr_st g5 RB4 (by omega)
 have RE5:=tr_st g5 RE4 (by omega)
 have X5':w5.heap[x]?=some (.cells (blA ⟨rn,rp⟩) 69 (0,0)):=X5
 clear hget B3 RB3 RE3 X3 hb3 g4 B4 X4 RB4 RE4 hb4 g5 X5
 have hrd:=eread_any a cap p2.at' l w5 (hs0.step hb5).now hp2l hl
 rw [RdV_eq] at hrd
 obtain ⟨e,nx,er,hnx⟩:∃ e nx er,NextR (entR l p2.at')=(e,nx,er):=⟨_,_,_,rfl⟩
 rw [hnx] at hrd
 simp only at hrd
 have HNX:=Lib.hid hnx
 clear hnx
 have c1:=B5.c1
 refine seqH fun K HK=>?_
 go_wp2_with (first
   | (go_at_call 220;refine hrd.mono ?_;rintro en w6 ⟨rfl,hb6⟩)
   | ((first | (with_reducible refine wpList_stNew 73 _ _ ?_) | (with_reducible refine wp_stNew 73 _ _ ?_));refine ⟨_,_,⟨sizeOf73,rfl,en_new _⟩,rfl,?_⟩))
 refine HK.out _ _ ?_
 clear HK
 have hby:=blw w6 (Obj.cells (enA e) 73)
 have E7:=heap_alloc_new w6 (Obj.cells (enA e) 73)
 have B7:PenB (w6.alloc (Obj.cells (enA e) 73)) g a cap l p2:=tr_bl hby (tr_bl hb6 B5)
 have RB7:=tr_bl hby (tr_bl hb6 RB5)
 have RE7:=tr_bl hby (tr_bl hb6 RE5)
 have X7:=tr_bl hby (tr_bl hb6 X5')
 have hb56:=hb5.trans (hb6.mono hb5.size)
 have hb7:=hb56.trans (hby.mono hb56.size)
 have hx6:=lt_blk (tr_bl hb6 X5')
 clear hrd c1 B5 RB5 RE5 X5' hb5 hb6 hb56 hby
 generalize w6.alloc (Obj.cells (enA e) 73)=w7 at *
 generalize w6.heap.size=y at *
 have c2:=B7.c2
 have hrr:(if p2.bad=true∨er≠0∨nx < l.length∨mayBl ⟨rn,rp⟩=false then none else some ((⟨rn,rp⟩:Bal),e))=r:=by
  rw [← HR.out]
  unfold parseE
  simp only
  rw [HXrn.out,HXp1.out,HXrp.out,HXp2.out]
  have h:=HNX.out
  revert h
  cases entR l p2.at' with
  | none=>
   intro h
   simp only [NextR,Prod.mk.injEq] at h
   rw [if_pos (Or.inr (Or.inl (by omega)))]
  | some z=>
   intro h
   obtain ⟨z1,z2⟩:=z
   simp only [NextR,Prod.mk.injEq] at h
   obtain ⟨rfl,rfl,rfl⟩:=h
   simp
 clear HR HNX HXrn HXp1 HXrp HXp2
 have hbal:=fun w=>ballot_any ⟨rn,rp⟩ w _ rfl
 by_cases hbd:p2.bad=true
 ·rw [hbd] at c2
  obtain rfl:none=r:=by rw [← hrr,if_pos (Or.inl hbd)]
  clear hrr hbd
  go_wp2_with (first
   | ((with_reducible refine wpList_stB 69 _ _ ?_);refine ⟨_,_,_,⟨_,_,_,sizeOf69,rfl,RB7,bl_over _ ⟨0,0⟩⟩,?_⟩;intro w9 RB9 g9;have RE9:=tr_st g9 RE7 (by omega))
   | ((with_reducible refine wpList_stB 73 _ _ ?_);refine ⟨_,_,_,⟨_,_,_,sizeOf73,rfl,RE9,en_over _ (zeroE 0)⟩,?_⟩;intro w10 RE10 g10;have RB10:=tr_st g10 RB9 (by omega)))
  refine bodyPost_ret (results_c2t1 rfl rfl (run_loadVar_all isAgg69 sizeOf69 RB10 rfl) rfl (run_loadVar_all isAgg73 sizeOf73 RE10 rfl)) rfl ⟨rfl,bls (bls hb7 (Nat.le_refl _) g9 (Nat.le_refl _)) (Nat.le_refl _) g10 (by omega)⟩
 have hbf:p2.bad=false:=by simpa using hbd
 rw [hbf] at c2
 clear hbd
 by_cases her:er=0
 case neg=>
  have ee:(er != 0)=true:=by rw [bne_iff_ne];exact her
  obtain rfl:none=r:=by rw [← hrr,if_pos (Or.inr (Or.inl her))]
  clear hrr her
  go_wp2_with (first
   | ((with_reducible refine wpList_stB 69 _ _ ?_);refine ⟨_,_,_,⟨_,_,_,sizeOf69,rfl,RB7,bl_over _ ⟨0,0⟩⟩,?_⟩;intro w9 RB9 g9;have RE9:=tr_st g9 RE7 (by omega))
   | ((with_reducible refine wpList_stB 73 _ _ ?_);refine ⟨_,_,_,⟨_,_,_,sizeOf73,rfl,RE9,en_over _ (zeroE 0)⟩,?_⟩;intro w10 RE10 g10;have RB10:=tr_st g10 RB9 (by omega)))
  refine bodyPost_ret (results_c2t1 rfl rfl (run_loadVar_all isAgg69 sizeOf69 RB10 rfl) rfl (run_loadVar_all isAgg73 sizeOf73 RE10 rfl)) rfl ⟨rfl,bls (bls hb7 (Nat.le_refl _) g9 (Nat.le_refl _)) (Nat.le_refl _) g10 (by omega)⟩
 subst her
 by_cases hnl:nx < l.length
 ·have hnl2:(nx:Int) < l.length:=by omega
  obtain rfl:none=r:=by rw [← hrr,if_pos (Or.inr (Or.inr (Or.inl hnl)))]
  clear hrr hnl
  go_wp2_with (first
   | ((with_reducible refine wpList_stB 69 _ _ ?_);refine ⟨_,_,_,⟨_,_,_,sizeOf69,rfl,RB7,bl_over _ ⟨0,0⟩⟩,?_⟩;intro w9 RB9 g9;have RE9:=tr_st g9 RE7 (by omega))
   | ((with_reducible refine wpList_stB 73 _ _ ?_);refine ⟨_,_,_,⟨_,_,_,sizeOf73,rfl,RE9,en_over _ (zeroE 0)⟩,?_⟩;intro w10 RE10 g10;have RB10:=tr_st g10 RB9 (by omega)))
  refine bodyPost_ret (results_c2t1 rfl rfl (run_loadVar_all isAgg69 sizeOf69 RB10 rfl) rfl (run_loadVar_all isAgg73 sizeOf73 RE10 rfl)) rfl ⟨rfl,bls (bls hb7 (Nat.le_refl _) g9 (Nat.le_refl _)) (Nat.le_refl _) g10 (by omega)⟩
 have hnl2:¬ ((nx:Int) < l.length):=by omega
 cases hbl:mayBl ⟨rn,rp⟩
 case false=>
  rw [hbl] at hbal
  obtain rfl:none=r:=by rw [← hrr,if_pos (Or.inr (Or.inr (Or.inr hbl)))]
  clear hrr hbl hnl
  refine seqH fun K HK=>?_
  go_wp2_with (first
   | ((with_reducible refine wpList_ldB 69 _ ?_);refine ⟨rfl,_,⟨_,_,_,_,_,isAgg69,sizeOf69,rfl,‹_›,arr_all rfl⟩,?_⟩)
   | (go_at_call 149;refine (hbal _).mono ?_;rintro en w8 ⟨rfl,hb8⟩;have RB8:=tr_bl hb8 RB7;have RE8:=tr_bl hb8 RE7)
   | ((with_reducible refine wpList_stB 69 _ _ ?_);refine ⟨_,_,_,⟨_,_,_,sizeOf69,rfl,RB8,bl_over _ ⟨0,0⟩⟩,?_⟩;intro w9 RB9 g9;have RE9:=tr_st g9 RE8 (by omega))
   | ((with_reducible refine wpList_stB 73 _ _ ?_);refine ⟨_,_,_,⟨_,_,_,sizeOf73,rfl,RE9,en_over _ (zeroE 0)⟩,?_⟩;intro w10 RE10 g10;have RB10:=tr_st g10 RB9 (by omega)))
  have hb9:=hb7.trans (hb8.mono hb7.size)
  refine bodyPost_ret (results_c2t1 rfl rfl (run_loadVar_all isAgg69 sizeOf69 RB10 rfl) rfl (run_loadVar_all isAgg73 sizeOf73 RE10 rfl)) rfl ⟨rfl,bls (bls hb9 (Nat.le_refl _) g9 (Nat.le_refl _)) (Nat.le_refl _) g10 (by omega)⟩
 case true=>
  rw [hbl] at hbal
  obtain rfl:some (⟨rn,rp⟩,e)=r:=by rw [← hrr,if_neg (by simp [hbf,hbl,hnl])]
  clear hrr hbl hnl
  refine seqH fun K HK=>?_
  go_wp2_with (first
     | ((with_reducible refine wpList_ldB 69 _ ?_);refine ⟨rfl,_,⟨_,_,_,_,_,isAgg69,sizeOf69,rfl,‹_›,arr_all rfl⟩,?_⟩)
     | (go_at_call 149;refine (hbal _).mono ?_;rintro en w8 ⟨rfl,hb8⟩))
  refine HK.out _ _ ?_
  clear HK
  refine seqH fun K HK=>?_
  have hb9:=hb7.trans (hb8.mono hb7.size)
  have hbd9:=(Below.refl w8.heap.size w8).drew
  have hb10:=hb9.trans (hbd9.mono hb9.size)
  have X9:=tr_bl hbd9 (tr_bl hb8 X7)
  have E9:=tr_bl hbd9 (tr_bl hb8 E7)
  have RB9:=tr_bl hbd9 (tr_bl hb8 RB7)
  have RE9:=tr_bl hbd9 (tr_bl hb8 RE7)
  clear c2 hbf
  refine wp_region_held_drew (S:=fun w'=>w'.heap[x]?=some (.cells (blA ⟨rn,rp⟩) 69 (0,0))∧w'.heap[y]?=some (.cells (enA e) 73 (0,0))) (by kernel_rfl) ⟨X9,E9⟩ (fun hS0=>?_)
  generalize w8.drew=x0 at *
  refine tkT 0 (v:=.agg (blA ⟨rn,rp⟩)) rfl (by intro wS hSw;exact exec_ldB 69 _ ⟨_,_,_,_,_,isAgg69,sizeOf69,rfl,hSw.1,arr_all rfl⟩) ?_
  refine tkT 1 (v:=.agg (enA e)) rfl (by intro wS hSw;exact exec_ldB 73 _ ⟨_,_,_,_,_,isAgg73,sizeOf73,rfl,hSw.2,arr_all rfl⟩) ?_
  refine rdy1 2 rfl (fun K' hK'=>?_)
  refine wp_stB 69 _ _ ?_
  refine ⟨_,_,_,⟨_,_,_,sizeOf69,rfl,RB9,bl_over _ ⟨rn,rp⟩⟩,?_⟩
  intro w11 RB11 g11
  have hS1:=And.intro (tr_st g11 hS0.1 (show w.heap.size≠x by omega)) (tr_st g11 hS0.2 (show w.heap.size≠y by omega))
  have RE11:=tr_st g11 RE9 (by omega)
  refine hK'.out _ _ hS1 (fun _=>?_)
  clear hK'
  (try simp only [Act.put,qa1,qa2,qa3])
  refine rdy1 3 rfl (fun K' hK'=>?_)
  refine wp_stB 73 _ _ ?_
  refine ⟨_,_,_,⟨_,_,_,sizeOf73,rfl,RE11,en_over _ e⟩,?_⟩
  intro w12 RE12 g12
  have RB12:=tr_st g12 RB11 (by omega)
  refine hK'.out _ _ ⟨tr_st g12 hS1.1 (by omega),tr_st g12 hS1.2 (by omega)⟩ (fun _=>?_)
  clear hK'
  (try simp only [Act.put,qa1,qa2,qa3])
  refine tkP 4 rfl ?_
  refine wpAnyH_done (by kernel_rfl) ?_ _
  refine HK.out _ _ ?_
  clear HK
  go_wp2
  refine bodyPost_ret (results_c2t1 rfl rfl (run_loadVar_all isAgg69 sizeOf69 RB12 rfl) rfl (run_loadVar_all isAgg73 sizeOf73 RE12 rfl)) rfl ⟨rfl,bls (bls hb10 (Nat.le_refl _) g11 (Nat.le_refl _)) (Nat.le_refl _) g12 (by omega)⟩
end
section
theorem size_at (g n cap:Nat) (a:Option Addr) (w:World) (hc:w.cell? ⟨g,0,none⟩=some (.slice a n cap)):Calls Tryz.prog 33 #[.pointer (some ⟨g,0,none⟩)] w fun e w'=>e=.returned (.int .i64 n)∧w=w':=by
 go_enter func33,ntmps33
 go_wp2
 go_ret
 exact ⟨rfl,rfl⟩
def DiskN (w:World) (p:Value) (n:Nat):Prop:=(p=.pointer none∧n=0)∨∃ g a cap,p=.pointer (some ⟨g,0,none⟩)∧w.cell? ⟨g,0,none⟩=some (.slice a n cap)
theorem DiskN.below {w w':World} {p:Value} {n:Nat} (h:DiskN w p n) (hb:Below w.heap.size w w'):DiskN w' p n:=by
 rcases h with h | ⟨g,a,cap,hp,hc⟩
 ·exact .inl h
 ·exact .inr ⟨g,a,cap,hp,(hb.cell (World.block_lt_of_cell? _ _ hc)).trans hc⟩
abbrev regV:Value:=.agg #[.int .i64 0,.int .i64 0,.int .i64 2,.int .i64 1,.int .i64 2,.int .i64 1,.int .i64 24,.int .i64 1,.int .i64 48,.int .i64 2,.int .i64 16,.int .i64 2]
theorem regions_any (w:World):Calls Tryz.prog 169 #[] w fun e w'=>e=.returned regV∧Below w.heap.size w w':=by
 go_enter func169,ntmps169
 go_wp2
 (try simp only [Exit.inBlock,Exit.then])
 refine bodyPost_ret (v:=regV) ?hr rfl ⟨rfl,?_⟩
 case hr=>
  simp only [results,Tryz.results169]
  go_simp
  try rfl
 (repeat' (first | (with_reducible exact Below.refl _ _) | (with_reducible assumption) | (with_reducible refine Below.alloc ?_ ?_ _) | (with_reducible refine Below.drew ?_) | (with_reducible refine below_drewN ?_ _) | (with_reducible refine Below.setCell ?_ ?_ _) | (with_reducible refine Below.trans ?_ (by assumption)) | go_size))
def atP (k:Nat):Int:=[(0:Int),0,2,4,28,124,156].getD k 156
theorem all_start (w:World):Calls Tryz.prog 96 #[.int .i64 (-1)] w fun e w'=>e=.returned (.int .i64 156)∧Below w.heap.size w w':=by
 have i0:∀ w,(Instr.index 246 regV (.int .i64 0)).run Tryz.prog w=.ok (.agg #[.int .i64 0,.int .i64 0]) w:=fun _=>by kernel_rfl
 have i1:∀ w,(Instr.index 246 regV (.int .i64 1)).run Tryz.prog w=.ok (.agg #[.int .i64 2,.int .i64 1]) w:=fun _=>by kernel_rfl
 have i2:∀ w,(Instr.index 246 regV (.int .i64 2)).run Tryz.prog w=.ok (.agg #[.int .i64 2,.int .i64 1]) w:=fun _=>by kernel_rfl
 have i3:∀ w,(Instr.index 246 regV (.int .i64 3)).run Tryz.prog w=.ok (.agg #[.int .i64 24,.int .i64 1]) w:=fun _=>by kernel_rfl
 have i4:∀ w,(Instr.index 246 regV (.int .i64 4)).run Tryz.prog w=.ok (.agg #[.int .i64 48,.int .i64 2]) w:=fun _=>by kernel_rfl
 have i5:∀ w,(Instr.index 246 regV (.int .i64 5)).run Tryz.prog w=.ok (.agg #[.int .i64 16,.int .i64 2]) w:=fun _=>by kernel_rfl
 go_enter func96,ntmps96
 refine seqH fun K HK=>?_
 go_wp2
 refine HK.out _ _ ?_
 clear HK
 refine seqH fun K HK=>?_
 go_wp2
 refine HK.out _ _ ?_
 clear HK
 go_wp2_with (go_at_call 169;refine (regions_any _).mono ?_;rintro e w1 ⟨rfl,hb1⟩)
 go_loopw [3,7] (fun t i wr=>∃ k:Nat,k≤6∧i=.int .i64 k∧t=.int .i64 (atP k)∧Below w.heap.size w wr) (fun _ i _=>6 - (intOf i).toNat)
 case atStart=>exact ⟨0,by omega,rfl,rfl,hb1⟩
 case round=>
  obtain ⟨k,hk,rfl,rfl,hbr⟩:=hrel
  have hbs:=hbr.size
  have h7:k=0∨k=1∨k=2∨k=3∨k=4∨k=5∨k=6:=by omega
  rcases h7 with rfl | rfl | rfl | rfl | rfl | rfl | rfl
  ·have ha:atP 0=0:=rfl
   rw [ha]
   go_wp2
   go_roundw
   case rel=>exact ⟨1,by omega,by rfl,by rfl,by (repeat' (first | (with_reducible exact Below.refl _ _) | (with_reducible assumption) | (with_reducible refine Below.alloc ?_ ?_ _) | (with_reducible refine Below.drew ?_) | (with_reducible refine below_drewN ?_ _) | (with_reducible refine Below.setCell ?_ ?_ _) | (with_reducible refine Below.trans ?_ (by assumption)) | go_size))⟩
   case measure=>simp [intOf]
  ·have ha:atP 1=0:=rfl
   rw [ha]
   go_wp2
   go_roundw
   case rel=>exact ⟨2,by omega,by rfl,by rfl,by (repeat' (first | (with_reducible exact Below.refl _ _) | (with_reducible assumption) | (with_reducible refine Below.alloc ?_ ?_ _) | (with_reducible refine Below.drew ?_) | (with_reducible refine below_drewN ?_ _) | (with_reducible refine Below.setCell ?_ ?_ _) | (with_reducible refine Below.trans ?_ (by assumption)) | go_size))⟩
   case measure=>simp [intOf]
  ·have ha:atP 2=2:=rfl
   rw [ha]
   go_wp2
   go_roundw
   case rel=>exact ⟨3,by omega,by rfl,by rfl,by (repeat' (first | (with_reducible exact Below.refl _ _) | (with_reducible assumption) | (with_reducible refine Below.alloc ?_ ?_ _) | (with_reducible refine Below.drew ?_) | (with_reducible refine below_drewN ?_ _) | (with_reducible refine Below.setCell ?_ ?_ _) | (with_reducible refine Below.trans ?_ (by assumption)) | go_size))⟩
   case measure=>simp [intOf]
  ·have ha:atP 3=4:=rfl
   rw [ha]
   go_wp2
   go_roundw
   case rel=>exact ⟨4,by omega,by rfl,by rfl,by (repeat' (first | (with_reducible exact Below.refl _ _) | (with_reducible assumption) | (with_reducible refine Below.alloc ?_ ?_ _) | (with_reducible refine Below.drew ?_) | (with_reducible refine below_drewN ?_ _) | (with_reducible refine Below.setCell ?_ ?_ _) | (with_reducible refine Below.trans ?_ (by assumption)) | go_size))⟩
   case measure=>simp [intOf]
  ·have ha:atP 4=28:=rfl
   rw [ha]
   go_wp2
   go_roundw
   case rel=>exact ⟨5,by omega,by rfl,by rfl,by (repeat' (first | (with_reducible exact Below.refl _ _) | (with_reducible assumption) | (with_reducible refine Below.alloc ?_ ?_ _) | (with_reducible refine Below.drew ?_) | (with_reducible refine below_drewN ?_ _) | (with_reducible refine Below.setCell ?_ ?_ _) | (with_reducible refine Below.trans ?_ (by assumption)) | go_size))⟩
   case measure=>simp [intOf]
  ·have ha:atP 5=124:=rfl
   rw [ha]
   go_wp2
   go_roundw
   case rel=>exact ⟨6,by omega,by rfl,by rfl,by (repeat' (first | (with_reducible exact Below.refl _ _) | (with_reducible assumption) | (with_reducible refine Below.alloc ?_ ?_ _) | (with_reducible refine Below.drew ?_) | (with_reducible refine below_drewN ?_ _) | (with_reducible refine Below.setCell ?_ ?_ _) | (with_reducible refine Below.trans ?_ (by assumption)) | go_size))⟩
   case measure=>simp [intOf]
  ·have ha:atP 6=156:=rfl
   rw [ha]
   go_wp2
   go_ret
   exact ⟨rfl,hbr⟩
theorem all_any (w:World):Calls Tryz.prog 34 #[] w fun e w'=>e=.returned (.int .i64 156)∧Below w.heap.size w w':=by
 go_enter func34,ntmps34
 go_wp2_with (go_at_call 96;refine (all_start _).mono ?_;rintro e w1 ⟨rfl,hb1⟩)
 go_ret
 exact ⟨rfl,hb1⟩
end
section
end
section
structure Pl where
 rest:List UInt8
 meant:List UInt8
 lost:Bool
structure Dk where
 pl:List Pl
 waits:List (List UInt8×Nat)
 down:Bool
 dead:Bool
 left:Int
def zeros64:List UInt8:=List.replicate 64 0
def zeroPl:Pl:=⟨zeros64,zeros64,false⟩
def newDk (n:Nat):Dk:=⟨List.replicate n zeroPl,[],false,false,-1⟩
/-! The errors of a call: 1 nobody made it,2 an argument,5 down,50 lost. -/
def thereD (d:Dk) (s:Int):Int:=if d.pl.length=0 then 1 else if s < 0∨(d.pl.length:Int)≤s then 2 else 0
def there0 (d:Dk):Int:=if d.pl.length=0 then 1 else 0
def liveD (d:Dk) (s:Int):Int:=if 0 < d.pl.length∧(d.down=true∨d.dead=true) then 5 else thereD d s
def live0 (d:Dk):Int:=if 0 < d.pl.length∧(d.down=true∨d.dead=true) then 5 else there0 d
def spendD (d:Dk):Dk×Int:=if d.left=0 then ({ d with dead:=true },5) else if 0 < d.left then ({ d with left:=d.left - 1 },0) else (d,0)
def powerD (d:Dk) (n:Int):Dk×Int:=if live0 d≠0 then (d,live0 d) else if n < 0 then (d,2) else ({ d with left:=n },0)
def lastW:List (List UInt8×Nat)→Nat→Option (List UInt8)
 | [],_=>none
 | (b,k) :: l,s=>match lastW l s with
  | some x=>some x
  | none=>if k=s then some b else none
def readD (d:Dk) (s:Int):List UInt8×Int:=
 if liveD d s≠0 then ([],liveD d s) else
 match lastW d.waits s.toNat with
 | some b=>(b,0)
 | none=>match d.pl[s.toNat]? with
  | none=>([],2)
  | some p=>if p.lost=true then ([],50) else (p.rest,0)
def writeD (d:Dk) (s:Int) (b:List UInt8):Dk×Int:=
 if liveD d s≠0 then (d,liveD d s) else
 if b.length≠64 then (d,2) else
 if (spendD d).2≠0 then spendD d else ({ (spendD d).1 with waits:=(spendD d).1.waits++[(b,s.toNat)] },0)
def thruD:List Pl→List (List UInt8×Nat)→Nat→(Nat→Bool)→List Pl
 | pl,[],_,_=>pl
 | pl,(b,s) :: l,k,is=>thruD (if is k=true then pl.set s ⟨b,b,false⟩ else pl) l (k+1) is
def flushD (d:Dk):Dk×Int:=
 if live0 d≠0 then (d,live0 d) else
 if (spendD d).2≠0 then spendD d else ({ (spendD d).1 with pl:=thruD (spendD d).1.pl (spendD d).1.waits 0 (fun _=>true),waits:=[] },0)
def keepB (keep:List Bool) (k:Nat):Bool:=keep.getD k false
def crashD (d:Dk) (keep:List Bool):Dk×Int:=
 if 0 < d.pl.length∧d.down=true then (d,5) else
 if there0 d≠0 then (d,there0 d) else ({ d with pl:=thruD d.pl d.waits 0 (keepB keep),waits:=[],down:=true },0)
def startD (d:Dk):Dk×Int:=
 if there0 d≠0 then (d,there0 d) else if d.down=false then (d,2) else ({ d with down:=false,dead:=false,left:=-1 },0)
def upD (d:Dk):Bool:=decide (0 < d.pl.length) && (!d.down && !d.dead)
def turnBit (l:List UInt8) (bit:Nat):List UInt8:=l.set (bit / 8) (UInt8.ofNat ((l.getD (bit / 8) 0).toNat ^^^ 2 ^ (bit % 8)))
def flipD (d:Dk) (s bit:Int):Dk×Int:=
 if thereD d s≠0 then (d,thereD d s) else if bit < 0 then (d,2) else
 ({ d with pl:=d.pl.modify s.toNat (fun p=>{ p with rest:=turnBit p.rest (bit.toNat % 512) }) },0)
def loseD (d:Dk) (s:Int):Dk×Int:=
 if thereD d s≠0 then (d,thereD d s) else ({ d with pl:=d.pl.modify s.toNat (fun p=>{ p with lost:=true }) },0)
def strayD (d:Dk) (s t:Int):Dk×Int:=
 if thereD d s≠0 then (d,thereD d s) else if thereD d t≠0 then (d,thereD d t) else
 ({ d with pl:=d.pl.modify t.toNat (fun p=>{ p with rest:=(d.pl.getD s.toNat zeroPl).rest,lost:=(d.pl.getD s.toNat zeroPl).lost }) },0)
def restD (d:Dk) (s:Int):List UInt8×Bool×Int:=
 if thereD d s≠0 then ([],false,thereD d s) else
 if (d.pl.getD s.toNat zeroPl).lost=true then ([],true,0) else ((d.pl.getD s.toNat zeroPl).rest,false,0)
def meantD (d:Dk) (s:Int):List UInt8×Int:=if thereD d s≠0 then ([],thereD d s) else ((d.pl.getD s.toNat zeroPl).meant,0)
/-! The cell. -/
structure Cp where
 st:Nat
 tg:Tg
 body:List UInt8
def overC (c x:Cp):Bool:=decide (c.st=1) && (decide (x.st≠1) || decide (x.tg.idx < c.tg.idx))
def copyC (d:Dk) (rep reg:Int) (i:Int):Cp:=⟨(mineF (readD d (firstN reg i)).1 rep reg i).1,(mineF (readD d (firstN reg i)).1 rep reg i).2.1,(mineF (readD d (firstN reg i)).1 rep reg i).2.2⟩
def openC (d:Dk) (rep reg:Int):Int:=
 if d.pl.length=0 then 1 else if d.pl.length < 156∨(reg≠1∧reg≠2)∨rep < 0∨7≤rep then 2 else if upD d=false then 5 else 0
def loadedC (c0 c1:Cp):Nat×Bool×Int:=
 if overC c1 c0=true then (1,true,0) else if c0.st=1 then (0,true,0) else if c0.st=0∨c1.st=0 then (0,false,0) else (0,false,70)
def pickC (c0 c1:Cp):Cp:=if (loadedC c0 c1).1=1 then c1 else c0
def loadC (d:Dk) (rep reg:Int):Int×List UInt8×Int:=
 if openC d rep reg≠0 then (0,[],openC d rep reg) else
 if (loadedC (copyC d rep reg 0) (copyC d rep reg 1)).2.1=false then (0,[],(loadedC (copyC d rep reg 0) (copyC d rep reg 1)).2.2) else
 ((pickC (copyC d rep reg 0) (copyC d rep reg 1)).tg.idx,(pickC (copyC d rep reg 0) (copyC d rep reg 1)).body,0)
def putC (d:Dk) (t:Tg) (body:List UInt8):Dk×Int:=
 if (writeD d (firstN t.reg t.pla) (sealF t body 64)).2≠0 then writeD d (firstN t.reg t.pla) (sealF t body 64) else
 flushD (writeD d (firstN t.reg t.pla) (sealF t body 64)).1
def storeC (d:Dk) (rep reg inc:Int) (body:List UInt8):Dk×Int:=
 if openC d rep reg≠0∧openC d rep reg≠5 then (d,openC d rep reg) else
 if inc < 1∨1099511627776 < inc then (d,2) else
 if 43 < body.length then (d,3) else
 if openC d rep reg≠0 then (d,openC d rep reg) else
 let ld:=loadedC (copyC d rep reg 0) (copyC d rep reg 1)
 if ld.2.2≠0 then (d,ld.2.2) else
 let version:=(pickC (copyC d rep reg 0) (copyC d rep reg 1)).tg.idx+1
 if 1099511627776 < version then (d,4) else
 let first:Int:=if ld.2.1=true then 1 - (ld.1:Int) else 0
 let r:=putC d ⟨rep,reg,first,version,inc⟩ body
 if r.2≠0 then r else putC r.1 ⟨rep,reg,1 - first,version,inc⟩ body
def healC (d:Dk) (rep reg:Int):Dk×Int:=
 if openC d rep reg≠0 then (d,openC d rep reg) else
 let c0:=copyC d rep reg 0
 let c1:=copyC d rep reg 1
 let ld:=loadedC c0 c1
 if ld.2.1=false then (d,ld.2.2) else
 let x:=if ld.1=1 then c1 else c0
 let y:=if ld.1=1 then c0 else c1
 if x.st=y.st∧x.tg.idx=y.tg.idx∧x.body=y.body then (d,0) else
 putC d ⟨rep,reg,1 - (ld.1:Int),x.tg.idx,x.tg.inc⟩ x.body
end
section
def fix64 (l:List UInt8):List UInt8:=(l++List.replicate 64 0).take 64
theorem fix64_len (l:List UInt8):(fix64 l).length=64:=by
 unfold fix64
 rw [List.length_take,List.length_append,List.length_replicate]
 omega
theorem fix64_of {l:List UInt8} (h:l.length=64):fix64 l=l:=by
 unfold fix64
 rw [← h,List.take_left]
def plC (p:Pl):List Value:=bys (fix64 p.rest)++(bys (fix64 p.meant)++[.bool p.lost])
theorem plC_len (p:Pl):(plC p).length=129:=by simp [plC,bys_len,fix64_len]
def plsV (l:List Pl):Array Value:=(l.flatMap plC).toArray
theorem plsV_size (l:List Pl):(plsV l).size=129 * l.length:=by
 simp only [plsV,List.size_toArray]
 exact flat_len plC_len l
def wtC (x:List UInt8×Nat):List Value:=bys (fix64 x.1)++[.int .i64 (x.2:Int)]
theorem wtC_len (x:List UInt8×Nat):(wtC x).length=65:=by simp [wtC,bys_len,fix64_len]
def dkA (gp:Nat) (wv:Value) (d:Dk):Array Value:=#[.slice (some ⟨gp,0,none⟩) d.pl.length d.pl.length,wv,.bool d.down,.bool d.dead,.int .i64 d.left]
structure DiskB (B g gp:Nat) (wv:Value) (d:Dk) (w:World):Prop where
 box:w.heap[g]?=some (.cells (dkA gp wv d) 95 (0,0))
 pls:w.heap[gp]?=some (.cells (plsV d.pl) 255 (0,0))
 wts:w.ownsRow B 219 65 wv d.waits.length (d.waits.flatMap wtC)
 gb:B≤g
 pb:B≤gp
 n0:0 < d.pl.length
 nl:d.pl.length≤1024
 lo:-1≤d.left
 hi:d.left≤9223372036854775807
 ok:∀ p ∈ d.pl,p.rest.length=64∧p.meant.length=64
 wk:∀ x ∈ d.waits,x.1.length=64∧x.2 < d.pl.length
structure Kt (B:Nat) (w w':World):Prop where
 bl:Below B w w'
 ty:∀ (j:Nat) (cs:Array Value) (T:TypeId),w.heap[j]?=some (.cells cs T (0,0))→T≠95→T≠255→T≠219→w'.heap[j]?=some (.cells cs T (0,0))
theorem Kt.refl (B:Nat) (w:World):Kt B w w:=⟨Below.refl _ _,fun _ _ _ h _ _ _=>h⟩
theorem Kt.trans {B:Nat} {w w' w'':World} (h:Kt B w w') (h2:Kt B w' w''):Kt B w w'':=⟨h.bl.trans h2.bl,fun j cs T a b c d=>h2.ty j cs T (h.ty j cs T a b c d) b c d⟩
theorem Kt.of {B:Nat} {w w':World} (hb:Below w.heap.size w w') (h:B≤w.heap.size):Kt B w w':=⟨hb.mono h,fun _ _ _ a _ _ _=>tr_bl hb a⟩
theorem Kt.st {B g:Nat} {w w':World} {cs:Array Value} {T:TypeId} (hg:w.grownBy w' (some g)) (hc:w.heap[g]?=some (.cells cs T (0,0))) (hT:T=95∨T=255∨T=219) (hB:B≤g):Kt B w w':=by
 refine ⟨(Below.refl B w).grown hg (by have:=lt_blk hc;omega) (fun k e=>by cases e;exact hB),fun j cs' T' h h1 h2 h3=>tr_st hg h ?_⟩
 rintro rfl
 rw [hc] at h
 injection h with h
 injection h with _ e
 subst e
 rcases hT with h | h | h
 ·exact h1 h
 ·exact h2 h
 ·exact h3 h
section
variable {B g gp:Nat} {wv:Value} {d:Dk} {w w':World}
theorem DiskB.below (h:DiskB B g gp wv d w) (hb:Below w.heap.size w w'):DiskB B g gp wv d w':=⟨tr_bl hb h.box,tr_bl hb h.pls,owns_bl h.wts hb,h.gb,h.pb,h.n0,h.nl,h.lo,h.hi,h.ok,h.wk⟩
theorem DiskB.c0 (h:DiskB B g gp wv d w):w.cell? ⟨g,0,none⟩=some (.slice (some ⟨gp,0,none⟩) d.pl.length d.pl.length):=blk_cell h.box 0 _ rfl
theorem DiskB.c1 (h:DiskB B g gp wv d w):w.cell? ⟨g,1,none⟩=some wv:=blk_cell h.box 1 _ rfl
theorem DiskB.c2 (h:DiskB B g gp wv d w):w.cell? ⟨g,2,none⟩=some (.bool d.down):=blk_cell h.box 2 _ rfl
theorem DiskB.c3 (h:DiskB B g gp wv d w):w.cell? ⟨g,3,none⟩=some (.bool d.dead):=blk_cell h.box 3 _ rfl
theorem DiskB.c4 (h:DiskB B g gp wv d w):w.cell? ⟨g,4,none⟩=some (.int .i64 d.left):=blk_cell h.box 4 _ rfl
end
section
variable {B g gp:Nat} {wv:Value} {d:Dk} {w:World}
theorem dsize (h:DiskB B g gp wv d w):Calls Tryz.prog 33 #[.pointer (some ⟨g,0,none⟩)] w fun e w'=>e=.returned (.int .i64 d.pl.length)∧w=w':=size_at g _ _ _ w h.c0
theorem there_no (h:DiskB B g gp wv d w):Calls Tryz.prog 181 #[.pointer (some ⟨g,0,none⟩),.slice none 0 0] w fun e w'=>e=.returned (.int .i64 0)∧w=w':=by
 have h0:((d.pl.length:Int)==0)=false:=by have:=h.n0;rw [beq_eq_false_iff_ne];omega
 go_enter func181,ntmps181
 go_wp2_with (go_at_call 33;refine (dsize h).mono ?_;rintro e w1 ⟨rfl,rfl⟩)
 go_loopw [12] (fun i wr=>i=.int .i64 0∧wr=w) (fun _ _=>0)
 case atStart=>exact ⟨rfl,rfl⟩
 case round=>
  obtain ⟨rfl,rfl⟩:=hrel
  go_wp2
  go_ret
  exact ⟨rfl,rfl⟩
theorem live_no (h:DiskB B g gp wv d w):Calls Tryz.prog 112 #[.pointer (some ⟨g,0,none⟩),.slice none 0 0] w fun e w'=>e=.returned (.int .i64 (live0 d))∧w=w':=by
 have h0:(0:Int) < d.pl.length:=by have:=h.n0;omega
 have c2:=h.c2
 have c3:=h.c3
 obtain ⟨r,hr⟩:∃ r,live0 d=r:=⟨_,rfl⟩
 rw [hr]
 unfold live0 there0 at hr
 have hn:=h.n0
 cases hdn:d.down
 case true=>
  rw [hdn] at c2 hr
  obtain rfl:r=5:=by rw [← hr,if_pos ⟨hn,.inl rfl⟩]
  clear hr
  go_enter func112,ntmps112
  go_wp2_with (first
   | (go_at_call 33;refine (dsize h).mono ?_;rintro e w1 ⟨rfl,rfl⟩)
   | (go_at_call 181;refine (there_no h).mono ?_;rintro e w1 ⟨rfl,rfl⟩))
  go_ret
  exact ⟨rfl,rfl⟩
 case false=>
  rw [hdn] at c2 hr
  cases hde:d.dead
  case true=>
   rw [hde] at c3 hr
   obtain rfl:r=5:=by rw [← hr,if_pos ⟨hn,.inr rfl⟩]
   clear hr
   go_enter func112,ntmps112
   go_wp2_with (first
    | (go_at_call 33;refine (dsize h).mono ?_;rintro e w1 ⟨rfl,rfl⟩)
    | (go_at_call 181;refine (there_no h).mono ?_;rintro e w1 ⟨rfl,rfl⟩))
   go_ret
   exact ⟨rfl,rfl⟩
  case false=>
   rw [hde] at c3 hr
   obtain rfl:r=0:=by rw [← hr,if_neg (by simp),if_neg (by omega)]
   clear hr
   go_enter func112,ntmps112
   go_wp2_with (first
    | (go_at_call 33;refine (dsize h).mono ?_;rintro e w1 ⟨rfl,rfl⟩)
    | (go_at_call 181;refine (there_no h).mono ?_;rintro e w1 ⟨rfl,rfl⟩))
   go_ret
   exact ⟨rfl,rfl⟩
end
end
end Go.Proofs.YtbdonjenekhmdaaGreatDoor
