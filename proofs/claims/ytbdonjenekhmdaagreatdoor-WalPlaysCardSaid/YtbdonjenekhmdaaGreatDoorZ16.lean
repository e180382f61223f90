/- Texts that the claim leans on, part 16: V4, V5, V9, X15, G10, O3, O4, G11. -/
import Derived.Test.YtbdonjenekhmdaaGreatDoorZ1
import Derived.Test.YtbdonjenekhmdaaGreatDoorZ2
import Derived.Test.YtbdonjenekhmdaaGreatDoorZ3
import Derived.Test.YtbdonjenekhmdaaGreatDoorZ4
import Derived.Test.YtbdonjenekhmdaaGreatDoorZ5
import Derived.Test.YtbdonjenekhmdaaGreatDoorZ6
import Derived.Test.YtbdonjenekhmdaaGreatDoorZ7
import Derived.Test.YtbdonjenekhmdaaGreatDoorZ8
import Derived.Test.YtbdonjenekhmdaaGreatDoorZ9
import Derived.Test.YtbdonjenekhmdaaGreatDoorZ10
import Derived.Test.YtbdonjenekhmdaaGreatDoorZ11
import Derived.Test.YtbdonjenekhmdaaGreatDoorZ12
import Derived.Test.YtbdonjenekhmdaaGreatDoorZ13
import Derived.Test.YtbdonjenekhmdaaGreatDoorZ14
import Derived.Test.YtbdonjenekhmdaaGreatDoorZ15
namespace Go.Proofs.YtbdonjenekhmdaaGreatDoor
open Go.RowKit Go.Proofs.Tryz
set_option maxRecDepth 100000
set_option maxHeartbeats 32000000
section
structure Kw (B eb:Nat) (w w':World):Prop where
 bl:Below B w w'
 ty:∀ (j:Nat) (cs:Array Value) (T:TypeId),w.heap[j]?=some (.cells cs T (0,0))→T≠95→T≠255→T≠219→j≠eb→w'.heap[j]?=some (.cells cs T (0,0))
section
variable {B eb g gp q n5 n6 n7 nk ns G:Nat} {wv:Value} {d:Dk} {w w1 w2:World} {s:Lg} {reg pla f:Int} {fr:List UInt8}
theorem Kw.refl (B eb:Nat) (w:World):Kw B eb w w:=⟨Below.refl _ _,fun _ _ _ h _ _ _ _=>h⟩
theorem Kw.trans (h:Kw B eb w w1) (h2:Kw B eb w1 w2):Kw B eb w w2:=⟨h.bl.trans h2.bl,fun j cs T a b c d e=>h2.ty j cs T (h.ty j cs T a b c d e) b c d e⟩
theorem Kw.of (h:Kt B w w1):Kw B eb w w1:=⟨h.bl,fun j cs T a b c d _=>h.ty j cs T a b c d⟩
theorem Kw.st (hg:w.grownBy w1 (some eb)) (hB:B≤eb) (hs:B≤w.heap.size):Kw B eb w w1:=⟨(Below.refl B w).grown hg hs (fun k e=>by cases e;exact hB),fun _ _ _ a _ _ _ e=>tr_st hg a (Ne.symm e)⟩
theorem Kw.kt (h:Kw B eb w1 w2) (hb:Below w.heap.size w w1) (hB:B≤w.heap.size) (he:w.heap.size≤eb):Kt B w w2:=⟨(hb.mono hB).trans h.bl,fun j cs T a b c d=>h.ty j cs T (tr_bl hb a) b c d (by have:=lt_blk a;omega)⟩
theorem ne_ty2 {j mb:Nat} {cs xs:Array Value} {T T':TypeId} (hc:w.heap[mb]?=some (.cells cs T (0,0))) (hj:w.heap[j]?=some (.cells xs T' (0,0))) (hT:T'≠T):mb≠j:=fun e=>by
 subst e
 rw [hc] at hj
 injection hj with hj
 injection hj with _ e
 exact hT e.symm
theorem DiskB.oe {mb:Nat} {cs:Array Value} {T:TypeId} (h:DiskB B g gp wv d w) (hg:w.grownBy w1 (some mb)) (hc:w.heap[mb]?=some (.cells cs T (0,0))) (h1:95≠T) (h2:255≠T) (h3:219≠T):DiskB B g gp wv d w1:=
 ⟨tr_st hg h.box (ne_ty2 hc h.box h1),tr_st hg h.pls (ne_ty2 hc h.pls h2),owns_ne h.wts hg hc h3,h.gb,h.pb,h.n0,h.nl,h.lo,h.hi,h.ok,h.wk⟩
theorem er_st (x y:Int):0+1≤(#[Value.int .i64 x]:Array Value).size∧(Value.int .i64 y).cells.size=1∧(∀ u ∈ (Value.int .i64 y).cells.toList,u.oneCell'=true)∧((#[Value.int .i64 x]:Array Value).toList.take 0++(Value.int .i64 y).cells.toList++(#[Value.int .i64 x]:Array Value).toList.drop (0+1)).toArray=#[.int .i64 y]:=
 ⟨by show _≤1;omega,rfl,by simp [Value.cells,Value.oneCell'],rfl⟩
def ErB (w:World) (eb:Nat) (x:Int):Prop:=w.heap[eb]?=some (.cells #[.int .i64 x] 25 (0,0))
theorem do_skip (v:Value) (x:Int) (hx:x≠0) (hE:ErB w eb x):Calls Tryz.prog 156 #[v,.pointer (some ⟨eb,0,none⟩)] w fun e w'=>e=.returned (.tuple #[])∧w=w':=by
 have c0:=one_c hE
 have e0:(x==0)=false:=by rw [beq_eq_false_iff_ne];exact hx
 go_enter func156,ntmps156
 go_wp2
 go_end0
 exact ⟨rfl,rfl⟩
theorem do_wr (hE:ErB w eb 0) (hBe:B≤eb) (h:LgB w q g s) (hd:DiskB B g gp wv d w) (hb:B≤w.heap.size) (k:Nat) (hk:k < 2) (hx:WBx w n5 n6 n7 nk ns q G reg pla k fr.length) (hO:OwnB w B (some ⟨G,0,none⟩) fr.length fr) (hl:64 * k+64≤fr.length) (hl2:fr.length≤128) (hf:firstN reg pla=f) (hfb:0≤f∧f < 200) (hw:d.waits.length≤1000000) :
  Calls Tryz.prog 156 #[wr2V n5 n6 n7 nk ns,.pointer (some ⟨eb,0,none⟩)] w fun e w'=>e=.returned (.tuple #[])∧(∃ wv',DiskB B g gp wv' (writeD d (f+k) (pcD fr k)).1 w')∧ErB w' eb (writeD d (f+k) (pcD fr k)).2∧Kw B eb w w':=by
 have hcl:=wr2_any h hd hb k hk hx hO hl hl2 hf hfb hw
 obtain ⟨d1,e1,hd1⟩:∃ d1 e1,writeD d (f+k) (pcD fr k)=(d1,e1):=⟨_,_,rfl⟩
 rw [hd1] at hcl ⊢
 have c0:=one_c hE
 have HE:w.heap[eb]?=some (.cells #[.int .i64 0] 25 (0,0)):=hE
 clear hd1 h hd hx hO hl hl2 hf hw hk
 go_enter func156,ntmps156
 go_wp2_with (first
  | (go_at_call 157;refine hcl.mono ?_;rintro e w1 ⟨rfl,⟨wv1,D1⟩,hk1⟩;have E1:=hk1.ty _ _ _ HE (by decide) (by decide) (by decide))
  | ((with_reducible refine wpList_stB 25 _ _ ?_);refine ⟨_,_,_,⟨_,_,_,sizeOf25,rfl,E1,er_st _ e1⟩,?_⟩;intro w2 E2 g2))
 go_end0
 exact ⟨rfl,⟨_,D1.oe g2 E1 (by decide) (by decide) (by decide)⟩,E2,(Kw.of hk1).trans (Kw.st g2 hBe (Nat.le_trans hb hk1.bl.size))⟩
abbrev flV (g:Nat):Value:=.func (.func 45) #[.pointer (some ⟨g,0,none⟩)] #[]
theorem do_fl (hE:ErB w eb 0) (hBe:B≤eb) (hd:DiskB B g gp wv d w) (hb:B≤w.heap.size) :
  Calls Tryz.prog 156 #[flV g,.pointer (some ⟨eb,0,none⟩)] w fun e w'=>e=.returned (.tuple #[])∧(∃ wv',DiskB B g gp wv' (flushD d).1 w')∧ErB w' eb (flushD d).2∧Kw B eb w w':=by
 have hcl:=flush_any hd hb
 obtain ⟨d1,e1,hd1⟩:∃ d1 e1,flushD d=(d1,e1):=⟨_,_,rfl⟩
 rw [hd1] at hcl ⊢
 have c0:=one_c hE
 have HE:w.heap[eb]?=some (.cells #[.int .i64 0] 25 (0,0)):=hE
 clear hd1 hd
 go_enter func156,ntmps156
 go_wp2_with (first
  | (go_at_call 45;refine hcl.mono ?_;rintro e w1 ⟨rfl,⟨wv1,D1⟩,hk1⟩;have E1:=hk1.ty _ _ _ HE (by decide) (by decide) (by decide))
  | ((with_reducible refine wpList_stB 25 _ _ ?_);refine ⟨_,_,_,⟨_,_,_,sizeOf25,rfl,E1,er_st _ e1⟩,?_⟩;intro w2 E2 g2))
 go_end0
 exact ⟨rfl,⟨_,D1.oe g2 E1 (by decide) (by decide) (by decide)⟩,E2,(Kw.of hk1).trans (Kw.st g2 hBe (Nat.le_trans hb hk1.bl.size))⟩
end
end
section
structure WF (B g gp q nb:Nat) (wv:Value) (d:Dk) (s:Lg) (reg pla:Int) (w wx:World):Prop where
 lg:LgB wx q g s
 b5:wx.heap[nb]?=some (.cells #[.pointer (some ⟨q,0,none⟩)] 62 (0,0))
 b6:wx.heap[nb+1]?=some (.cells #[.int .i64 reg] 3 (0,0))
 b7:wx.heap[nb+2]?=some (.cells #[.int .i64 pla] 3 (0,0))
 er:ErB wx (nb+3) 0
 dk:DiskB B g gp wv d wx
 bl:Below nb w wx
def Mid (B g gp q nb:Nat) (wv:Value) (d:Dk) (s:Lg) (reg pla:Int) (w:World) (fr:List UInt8) (v:Value) (wx:World):Prop:=
 ∃ sb G,v=.pointer (some ⟨sb,0,none⟩)∧wx.heap[sb]?=some (.cells #[.slice (some ⟨G,0,none⟩) fr.length fr.length] 37 (0,0))∧OwnB wx nb (some ⟨G,0,none⟩) fr.length fr∧WF B g gp q nb wv d s reg pla w wx
section
variable {B g gp q nb sb:Nat} {wv:Value} {d:Dk} {w wx wy:World} {s:Lg} {reg pla:Int} {cs:Array Value}
theorem WF.below (h:WF B g gp q nb wv d s reg pla w wx) (hb:Below wx.heap.size wx wy):WF B g gp q nb wv d s reg pla w wy:=
 ⟨h.lg.below hb,tr_bl hb h.b5,tr_bl hb h.b6,tr_bl hb h.b7,tr_bl hb h.er,h.dk.below hb,h.bl.trans (hb.mono (by have:=lt_blk h.b5;omega))⟩
theorem WF.st1 (h:WF B g gp q nb wv d s reg pla w wx) (hg:wx.grownBy wy (some sb)) (hc:wx.heap[sb]?=some (.cells cs 37 (0,0))) (hsb:nb≤sb):WF B g gp q nb wv d s reg pla w wy:=
 ⟨tr_st hg h.lg (ne_ty2 hc h.lg (by decide)),tr_st hg h.b5 (ne_ty2 hc h.b5 (by decide)),tr_st hg h.b6 (ne_ty2 hc h.b6 (by decide)),tr_st hg h.b7 (ne_ty2 hc h.b7 (by decide)),tr_st hg h.er (ne_ty2 hc h.er (by decide)),h.dk.oe hg hc (by decide) (by decide) (by decide),bl_st h.bl hg (by have:=lt_blk h.b5;omega) hsb⟩
theorem WF.st2 (h:WF B g gp q nb wv d s reg pla w wx) (hg:wx.grownBy wy (some (nb+3))) (he:ErB wy (nb+3) 0):WF B g gp q nb wv d s reg pla w wy:=
 ⟨tr_st hg h.lg (ne_ty2 h.er h.lg (by decide)),tr_st hg h.b5 (by omega),tr_st hg h.b6 (by omega),tr_st hg h.b7 (by omega),he,h.dk.oe hg h.er (by decide) (by decide) (by decide),bl_st h.bl hg (by have:=lt_blk h.b5;omega) (by omega)⟩
theorem sl_over (a:Option Addr) (n c:Nat):0+1≤(#[Value.slice none 0 0]:Array Value).size∧(Value.slice a n c).cells.size=1∧(∀ u ∈ (Value.slice a n c).cells.toList,u.oneCell'=true)∧((#[Value.slice none 0 0]:Array Value).toList.take 0++(Value.slice a n c).cells.toList++(#[Value.slice none 0 0]:Array Value).toList.drop (0+1)).toArray=#[.slice a n c]:=
 ⟨by show _≤1;omega,rfl,by simp [Value.cells,Value.oneCell'],rfl⟩
def wsD (d:Dk) (f:Int) (fr:List UInt8):Nat→Dk×Int
 | 0=>(d,0)
 | k+1=>if (wsD d f fr k).2≠0 then wsD d f fr k else writeD (wsD d f fr k).1 (f+k) (pcD fr k)
def lputD (d:Dk) (f:Int) (fr:List UInt8) (n:Nat):Dk×Int:=if (wsD d f fr n).2≠0 then wsD d f fr n else flushD (wsD d f fr n).1
theorem wsD_wt (d:Dk) (f:Int) (fr:List UInt8):∀ k,(wsD d f fr k).1.waits.length≤d.waits.length+k
 | 0=>Nat.le_refl _
 | k+1=>by
  have h:=wsD_wt d f fr k
  unfold wsD
  split
  ·omega
  ·have:=(write_pl (wsD d f fr k).1 (f+k) (pcD fr k)).2
   omega
theorem OwnB.kw {eb base c:Nat} {a:Option Addr} {l:List UInt8} {x:Int} (h:OwnB wx base a c l) (hk:Kw B eb wx wy) (he:ErB wx eb x):OwnB wy base a c l:=by
 rcases h with h | ⟨g,ys,h1,h2,h3,h4,h5⟩
 ·exact .inl h
 ·exact .inr ⟨g,ys,h1,h2,h3,h4,hk.ty _ _ _ h5 (by decide) (by decide) (by decide) (ne_ty2 h5 he (by decide))⟩
theorem lwrite1_any {f:Int} (h:LgB w q g s) (hd:DiskB B g gp wv d w) (hb:B≤w.heap.size) (hf:firstN 3 pla=f) (hfb:0≤f∧f < 200) (hw:d.waits.length≤1000) (i:Int) (a:Option Addr) (cap:Nat) (body:List UInt8) (hs:SlB w a cap body) (hmay:mayTg ⟨s.rep,3,pla,i,s.inc⟩=true) (hbl:body.length≤43) :
  Calls Tryz.prog 81 #[.pointer (some ⟨q,0,none⟩),.int .i64 3,.int .i64 pla,.int .i64 i,.slice a body.length cap] w fun e w'=>e=.returned (.int .i64 (lputD d f (sealF ⟨s.rep,3,pla,i,s.inc⟩ body 64) 1).2)∧(∃ wv',DiskB B g gp wv' (lputD d f (sealF ⟨s.rep,3,pla,i,s.inc⟩ body 64) 1).1 w')∧Kt B w w':=by
 obtain ⟨r,hr⟩:∃ r,lputD d f (sealF ⟨s.rep,3,pla,i,s.inc⟩ body 64) 1=r:=⟨_,rfl⟩
 rw [hr]
 have HR:=Lib.hid hr
 have HF:=Lib.hid hf
 clear hr hf
 have hfl:(sealF ⟨s.rep,3,pla,i,s.inc⟩ body 64).length=64:=sealF_len (by decide) (by simpa [roomN] using hbl)
 go_enter func81,ntmps81
 refine seqH fun K HK=>?_
 go_wp2
 refine HK.out _ _ ?_
 clear HK
 have hb1:=blw w (Obj.cells #[.pointer (some ⟨q,0,none⟩)] 62)
 have hb2:=hb1.trans ((blw (w.alloc (Obj.cells #[.pointer (some ⟨q,0,none⟩)] 62)) (Obj.cells #[.int .i64 3] 3)).mono hb1.size)
 have hb3:=hb2.trans ((blw ((w.alloc (Obj.cells #[.pointer (some ⟨q,0,none⟩)] 62)).alloc (Obj.cells #[.int .i64 3] 3)) (Obj.cells #[.int .i64 pla] 3)).mono hb2.size)
 have hb4:=hb3.trans ((blw (((w.alloc (Obj.cells #[.pointer (some ⟨q,0,none⟩)] 62)).alloc (Obj.cells #[.int .i64 3] 3)).alloc (Obj.cells #[.int .i64 pla] 3)) (Obj.cells #[.int .i64 0] 25)).mono hb3.size)
 have e1:(w.alloc (Obj.cells #[.pointer (some ⟨q,0,none⟩)] 62)).heap.size=w.heap.size+1:=by simp
 have e2:((w.alloc (Obj.cells #[.pointer (some ⟨q,0,none⟩)] 62)).alloc (Obj.cells #[.int .i64 3] 3)).heap.size=w.heap.size+2:=by simp
 have e3:(((w.alloc (Obj.cells #[.pointer (some ⟨q,0,none⟩)] 62)).alloc (Obj.cells #[.int .i64 3] 3)).alloc (Obj.cells #[.int .i64 pla] 3)).heap.size=w.heap.size+3:=by simp
 have F1:WF B g gp q w.heap.size wv d s 3 pla w ((((w.alloc (Obj.cells #[.pointer (some ⟨q,0,none⟩)] 62)).alloc (Obj.cells #[.int .i64 3] 3)).alloc (Obj.cells #[.int .i64 pla] 3)).alloc (Obj.cells #[.int .i64 0] 25)):=
  ⟨h.below hb4,tr_al (Obj.cells #[.int .i64 0] 25) (tr_al (Obj.cells #[.int .i64 pla] 3) (tr_al (Obj.cells #[.int .i64 3] 3) (heap_alloc_new w (Obj.cells #[.pointer (some ⟨q,0,none⟩)] 62)))),tr_al (Obj.cells #[.int .i64 0] 25) (tr_al (Obj.cells #[.int .i64 pla] 3) (e1 ▸ heap_alloc_new (w.alloc (Obj.cells #[.pointer (some ⟨q,0,none⟩)] 62)) (Obj.cells #[.int .i64 3] 3))),tr_al (Obj.cells #[.int .i64 0] 25) (e2 ▸ heap_alloc_new ((w.alloc (Obj.cells #[.pointer (some ⟨q,0,none⟩)] 62)).alloc (Obj.cells #[.int .i64 3] 3)) (Obj.cells #[.int .i64 pla] 3)),e3 ▸ heap_alloc_new (((w.alloc (Obj.cells #[.pointer (some ⟨q,0,none⟩)] 62)).alloc (Obj.cells #[.int .i64 3] 3)).alloc (Obj.cells #[.int .i64 pla] 3)) (Obj.cells #[.int .i64 0] 25),hd.below hb4,hb4⟩
 have SB1:=hs.below hb4
 clear hb1 hb2 hb3 hb4 e1 e2 e3
 generalize (((w.alloc (Obj.cells #[.pointer (some ⟨q,0,none⟩)] 62)).alloc (Obj.cells #[.int .i64 3] 3)).alloc (Obj.cells #[.int .i64 pla] 3)).alloc (Obj.cells #[.int .i64 0] 25)=w1 at *
 refine wp_seq_k (fun K hK=>?_)
 go_cut [11] (fun v wx=>Mid B g gp q w.heap.size wv d s 3 pla w (sealF ⟨s.rep,3,pla,i,s.inc⟩ body 64) v wx)
 case first=>
  have hbd:=(Below.refl w1.heap.size w1).drew
  have F:=F1.below hbd
  have SB:=SB1.below hbd
  clear F1 SB1 hbd
  refine wp_region_held_drew (S:=fun w'=>LgB w' q g s∧w'.heap[w.heap.size]?=some (.cells #[.pointer (some ⟨q,0,none⟩)] 62 (0,0))∧w'.heap[w.heap.size+1]?=some (.cells #[.int .i64 3] 3 (0,0))∧w'.heap[w.heap.size+2]?=some (.cells #[.int .i64 pla] 3 (0,0))) (by kernel_rfl) ⟨F.lg,F.b5,F.b6,F.b7⟩ (fun hS0=>?_)
  generalize w1.drew=x0 at *
  refine tkT 0 rfl (by intro wS hSw;have c:=one_c hSw.2.1;go_simp;(try with_reducible rfl)) ?_
  refine tkP 1 rfl ?_
  refine tkP 2 rfl ?_
  refine tkT 3 rfl (by intro wS hSw;have c:=hSw.1.c1;go_simp;(try with_reducible rfl)) ?_
  refine tkT 4 rfl (by intro wS hSw;have c:=one_c hSw.2.2.1;go_simp;(try with_reducible rfl)) ?_
  refine tkT 5 rfl (by intro wS hSw;have c:=one_c hSw.2.2.2;go_simp;(try with_reducible rfl)) ?_
  refine tkP 6 rfl ?_
  refine tkT 7 rfl (by intro wS hSw;have c:=one_c hSw.2.1;go_simp;(try with_reducible rfl)) ?_
  refine tkP 8 rfl ?_
  refine tkP 9 rfl ?_
  refine tkT 10 rfl (by intro wS hSw;have c:=hSw.1.c2;go_simp;(try with_reducible rfl)) ?_
  refine tkT 11 (v:=tgV ⟨s.rep,3,pla,i,s.inc⟩) rfl (by intro wS hSw;kernel_rfl) ?_
  refine tkP 12 rfl ?_
  refine tkT 13 rfl (by intro wS hSw;have c:=one_c hSw.2.2.1;go_simp;(try with_reducible rfl)) ?_
  refine wpAnyH_ready (rs:=[14,19]) (by kernel_rfl) (by simp) ?_
  refine AllReadyH.cons (o:=⟨_,_,_,_,_,_⟩) rfl (fun K' hK'=>?_) (AllReadyH.cons (o:=⟨_,_,_,_,_,_⟩) rfl (fun K' hK'=>?_) AllReadyH.nil)
  ·refine (if_pos (by rfl)).mpr ?_
   go_simp
   refine (wide_any 3 _).mono ?_
   rintro e x2 ⟨rfl,hbk⟩
   rw [show wideN 3=1 from rfl]
   have F:=F.below hbk
   have SB:=SB.below hbk
   skip
   refine hK'.out _ _ ⟨F.lg,F.b5,F.b6,F.b7⟩ (fun _=>?_)
   clear hK' hbk
   (try simp only [Act.put,qa1,qa2,qa3])
   refine wpAnyH_ready (rs:=[15,19]) (by kernel_rfl) (by simp) ?_
   refine AllReadyH.cons (o:=⟨_,_,_,_,_,_⟩) rfl (fun K' hK'=>?_) (AllReadyH.cons (o:=⟨_,_,_,_,_,_⟩) rfl (fun K' hK'=>?_) AllReadyH.nil)
   ·refine (if_pos (by rfl)).mpr ?_
    go_simp
    refine (seal1 ⟨s.rep,3,pla,i,s.inc⟩ a cap body _ SB hmay hbl).mono ?_
    rintro e x3 ⟨⟨G,rfl,hG,FG⟩,hbk⟩
    have hnG:=Nat.le_trans (Nat.le_of_lt (lt_blk F.b5)) hG
    have F:=F.below hbk
    have O:OwnB _ w.heap.size (some ⟨G,0,none⟩) (sealF ⟨s.rep,3,pla,i,s.inc⟩ body 64).length (sealF ⟨s.rep,3,pla,i,s.inc⟩ body 64):=.inr ⟨G,[],rfl,hnG,Nat.le_refl _,by rw [hfl];unfold maxLen;omega,by rw [List.append_nil];exact FG⟩
    skip
    refine hK'.out _ _ ⟨F.lg,F.b5,F.b6,F.b7⟩ (fun _=>?_)
    clear hK' hbk FG SB
    (try simp only [Act.put,qa1,qa2,qa3])
    refine tkP 16 rfl ?_
    refine tkP 17 rfl ?_
    refine tkP 18 rfl ?_
    refine rdy1 19 rfl (fun K' hK'=>?_)
    go_simp
    change K' _ (World.alloc _ (Obj.cells #[.slice none 0 0] 37))
    have hbk:=blw x3 (Obj.cells #[.slice none 0 0] 37)
    have SX:=heap_alloc_new x3 (Obj.cells #[.slice none 0 0] 37)
    have hsb:=Nat.le_of_lt (lt_blk F.b5)
    have F:=F.below hbk
    have O:=O.below hbk
    refine hK'.out _ _ ⟨F.lg,F.b5,F.b6,F.b7⟩ (fun _=>?_)
    clear hK' hbk
    generalize x3.alloc (Obj.cells #[.slice none 0 0] 37)=x4 at *
    generalize x3.heap.size=sb at *
    (try simp only [Act.put,qa1,qa2,qa3])
    refine rdy1 20 rfl (fun K' hK'=>?_)
    refine wp_stB 37 _ _ ?_
    refine ⟨_,_,_,⟨_,_,_,sizeOf37,rfl,SX,sl_over _ _ _⟩,?_⟩
    intro w20 SY g20
    have F20:=F.st1 g20 SX hsb
    have O20:=O.st g20 SX (by decide)
    refine hK'.out _ _ ⟨F20.lg,F20.b5,F20.b6,F20.b7⟩ (fun _=>?_)
    clear hK' F O SX
    (try simp only [Act.put,qa1,qa2,qa3])
    refine rdy1 21 rfl (fun K' hK'=>?_)
    refine wp_stB 25 _ _ ?_
    refine ⟨_,_,_,⟨_,_,_,sizeOf25,rfl,F20.er,er_st _ 0⟩,?_⟩
    intro w21 E21 g21
    have F21:=F20.st2 g21 E21
    have O21:=O20.st g21 F20.er (by decide)
    have SZ:=tr_st g21 SY (ne_ty2 F20.er SY (by decide))
    refine hK'.out _ _ ⟨F21.lg,F21.b5,F21.b6,F21.b7⟩ (fun _=>?_)
    clear hK'
    refine wpAnyH_done (by kernel_rfl) ?_ _
    go_wp2
    go_meet
    rw [← hfl] at SZ
    exact ⟨_,_,rfl,SZ,O21,F21⟩
   ·refine (if_pos (by rfl)).mpr ?_
    go_simp
    change K' _ (World.alloc _ (Obj.cells #[.slice none 0 0] 37))
    have hbk:=blw x2 (Obj.cells #[.slice none 0 0] 37)
    have SX:=heap_alloc_new x2 (Obj.cells #[.slice none 0 0] 37)
    have hsb:=Nat.le_of_lt (lt_blk F.b5)
    have F:=F.below hbk
    have SB:=SB.below hbk
    refine hK'.out _ _ ⟨F.lg,F.b5,F.b6,F.b7⟩ (fun _=>?_)
    clear hK' hbk
    generalize x2.alloc (Obj.cells #[.slice none 0 0] 37)=x3 at *
    generalize x2.heap.size=sb at *
    (try simp only [Act.put,qa1,qa2,qa3])
    refine rdy1 15 rfl (fun K' hK'=>?_)
    go_simp
    refine (seal1 ⟨s.rep,3,pla,i,s.inc⟩ a cap body _ SB hmay hbl).mono ?_
    rintro e x4 ⟨⟨G,rfl,hG,FG⟩,hbk⟩
    have hnG:=Nat.le_trans (Nat.le_of_lt (lt_blk F.b5)) hG
    have F:=F.below hbk
    have O:OwnB _ w.heap.size (some ⟨G,0,none⟩) (sealF ⟨s.rep,3,pla,i,s.inc⟩ body 64).length (sealF ⟨s.rep,3,pla,i,s.inc⟩ body 64):=.inr ⟨G,[],rfl,hnG,Nat.le_refl _,by rw [hfl];unfold maxLen;omega,by rw [List.append_nil];exact FG⟩
    have SX:=tr_bl hbk SX
    refine hK'.out _ _ ⟨F.lg,F.b5,F.b6,F.b7⟩ (fun _=>?_)
    clear hK' hbk FG SB
    (try simp only [Act.put,qa1,qa2,qa3])
    refine tkP 16 rfl ?_
    refine tkP 17 rfl ?_
    refine tkP 18 rfl ?_
    refine rdy1 20 rfl (fun K' hK'=>?_)
    refine wp_stB 37 _ _ ?_
    refine ⟨_,_,_,⟨_,_,_,sizeOf37,rfl,SX,sl_over _ _ _⟩,?_⟩
    intro w20 SY g20
    have F20:=F.st1 g20 SX hsb
    have O20:=O.st g20 SX (by decide)
    refine hK'.out _ _ ⟨F20.lg,F20.b5,F20.b6,F20.b7⟩ (fun _=>?_)
    clear hK' F O SX
    (try simp only [Act.put,qa1,qa2,qa3])
    refine rdy1 21 rfl (fun K' hK'=>?_)
    refine wp_stB 25 _ _ ?_
    refine ⟨_,_,_,⟨_,_,_,sizeOf25,rfl,F20.er,er_st _ 0⟩,?_⟩
    intro w21 E21 g21
    have F21:=F20.st2 g21 E21
    have O21:=O20.st g21 F20.er (by decide)
    have SZ:=tr_st g21 SY (ne_ty2 F20.er SY (by decide))
    refine hK'.out _ _ ⟨F21.lg,F21.b5,F21.b6,F21.b7⟩ (fun _=>?_)
    clear hK'
    refine wpAnyH_done (by kernel_rfl) ?_ _
    go_wp2
    go_meet
    rw [← hfl] at SZ
    exact ⟨_,_,rfl,SZ,O21,F21⟩
  ·refine (if_pos (by rfl)).mpr ?_
   go_simp
   change K' _ (World.alloc _ (Obj.cells #[.slice none 0 0] 37))
   have hbk:=blw x0 (Obj.cells #[.slice none 0 0] 37)
   have SX:=heap_alloc_new x0 (Obj.cells #[.slice none 0 0] 37)
   have hsb:=Nat.le_of_lt (lt_blk F.b5)
   have F:=F.below hbk
   have SB:=SB.below hbk
   refine hK'.out _ _ ⟨F.lg,F.b5,F.b6,F.b7⟩ (fun _=>?_)
   clear hK' hbk
   generalize x0.alloc (Obj.cells #[.slice none 0 0] 37)=x2 at *
   generalize x0.heap.size=sb at *
   (try simp only [Act.put,qa1,qa2,qa3])
   refine rdy1 14 rfl (fun K' hK'=>?_)
   go_simp
   refine (wide_any 3 _).mono ?_
   rintro e x3 ⟨rfl,hbk⟩
   rw [show wideN 3=1 from rfl]
   have F:=F.below hbk
   have SB:=SB.below hbk
   have SX:=tr_bl hbk SX
   refine hK'.out _ _ ⟨F.lg,F.b5,F.b6,F.b7⟩ (fun _=>?_)
   clear hK' hbk
   (try simp only [Act.put,qa1,qa2,qa3])
   refine rdy1 15 rfl (fun K' hK'=>?_)
   go_simp
   refine (seal1 ⟨s.rep,3,pla,i,s.inc⟩ a cap body _ SB hmay hbl).mono ?_
   rintro e x4 ⟨⟨G,rfl,hG,FG⟩,hbk⟩
   have hnG:=Nat.le_trans (Nat.le_of_lt (lt_blk F.b5)) hG
   have F:=F.below hbk
   have O:OwnB _ w.heap.size (some ⟨G,0,none⟩) (sealF ⟨s.rep,3,pla,i,s.inc⟩ body 64).length (sealF ⟨s.rep,3,pla,i,s.inc⟩ body 64):=.inr ⟨G,[],rfl,hnG,Nat.le_refl _,by rw [hfl];unfold maxLen;omega,by rw [List.append_nil];exact FG⟩
   have SX:=tr_bl hbk SX
   refine hK'.out _ _ ⟨F.lg,F.b5,F.b6,F.b7⟩ (fun _=>?_)
   clear hK' hbk FG SB
   (try simp only [Act.put,qa1,qa2,qa3])
   refine tkP 16 rfl ?_
   refine tkP 17 rfl ?_
   refine tkP 18 rfl ?_
   refine rdy1 20 rfl (fun K' hK'=>?_)
   refine wp_stB 37 _ _ ?_
   refine ⟨_,_,_,⟨_,_,_,sizeOf37,rfl,SX,sl_over _ _ _⟩,?_⟩
   intro w20 SY g20
   have F20:=F.st1 g20 SX hsb
   have O20:=O.st g20 SX (by decide)
   refine hK'.out _ _ ⟨F20.lg,F20.b5,F20.b6,F20.b7⟩ (fun _=>?_)
   clear hK' F O SX
   (try simp only [Act.put,qa1,qa2,qa3])
   refine rdy1 21 rfl (fun K' hK'=>?_)
   refine wp_stB 25 _ _ ?_
   refine ⟨_,_,_,⟨_,_,_,sizeOf25,rfl,F20.er,er_st _ 0⟩,?_⟩
   intro w21 E21 g21
   have F21:=F20.st2 g21 E21
   have O21:=O20.st g21 F20.er (by decide)
   have SZ:=tr_st g21 SY (ne_ty2 F20.er SY (by decide))
   refine hK'.out _ _ ⟨F21.lg,F21.b5,F21.b6,F21.b7⟩ (fun _=>?_)
   clear hK'
   refine wpAnyH_done (by kernel_rfl) ?_ _
   go_wp2
   go_meet
   rw [← hfl] at SZ
   exact ⟨_,_,rfl,SZ,O21,F21⟩
 have hlen:=hfl
 obtain ⟨fr,hfr⟩:∃ fr,sealF ⟨s.rep,3,pla,i,s.inc⟩ body 64=fr:=⟨_,rfl⟩
 rw [hfr] at hlen hcut HR
 clear hfr hfl
 obtain ⟨sb,G,rfl,SX,O,F⟩:=hcut
 refine hK _ _ ?_
 clear hK
 have hb':=Nat.le_trans hb F.bl.size
 have ce:=one_c F.er
 refine seqH fun K HK=>?_
 go_wp2
 refine HK.out _ _ ?_
 clear HK
 refine seqH fun K HK=>?_
 go_wp2
 refine HK.out _ _ ?_
 clear HK
 refine wp_seq_k (fun K hK=>?_)
 have HK:=Lib.hid hK
 clear hK ce
 have c6:=one_c F.b6
 go_wp2_with (go_at_call 111;refine (wide_any 3 _).mono ?_;rintro e w5 ⟨rfl,hb5⟩)
 rw [show wideN 3=1 from rfl]
 have SX:=tr_bl hb5 SX
 have O:=O.below hb5
 have F:=F.below hb5
 have hb':=Nat.le_trans hb' hb5.size
 clear c6 hb5
 generalize w5=wc at *
 go_loopw [39,13] (fun i' _ wr=>∃ j:Nat,j≤1∧i'=.int .i64 (j:Nat)∧(∃ wv',DiskB B g gp wv' (wsD d f fr j).1 wr)∧ErB wr (w.heap.size+3) (wsD d f fr j).2∧Kw B (w.heap.size+3) wc wr) (fun i' _ _=>1 - (intOf i').toNat)
 case atStart=>exact ⟨0,by omega,rfl,⟨_,F.dk⟩,F.er,Kw.refl _ _ _⟩
 case' round=>
  obtain ⟨j,hj,rfl,⟨wv5,D5⟩,E5,hkw⟩:=hrel
 rcases (show j=0∨j=1 by omega) with rfl | rfl
 ·skip
  have hB5:=Nat.le_trans hb' hkw.bl.size
  have hbk:=blw wr (Obj.cells #[.int .i64 0] 3)
  have ck:=heap_alloc_new wr (Obj.cells #[.int .i64 0] 3)
  have D6:=D5.below hbk
  have E6:ErB (wr.alloc (Obj.cells #[.int .i64 0] 3)) (w.heap.size+3) (wsD d f fr 0).2:=tr_bl hbk E5
  have L6:LgB (wr.alloc (Obj.cells #[.int .i64 0] 3)) q g s:=tr_bl hbk (hkw.ty _ _ _ F.lg (by decide) (by decide) (by decide) (ne_ty2 F.lg F.er (by decide)))
  have X6:WBx (wr.alloc (Obj.cells #[.int .i64 0] 3)) w.heap.size (w.heap.size+1) (w.heap.size+2) wr.heap.size sb q G 3 pla 0 fr.length:=⟨tr_bl hbk (hkw.ty _ _ _ F.b5 (by decide) (by decide) (by decide) (by omega)),tr_bl hbk (hkw.ty _ _ _ F.b6 (by decide) (by decide) (by decide) (by omega)),tr_bl hbk (hkw.ty _ _ _ F.b7 (by decide) (by decide) (by decide) (by omega)),ck,tr_bl hbk (hkw.ty _ _ _ SX (by decide) (by decide) (by decide) (ne_ty2 SX F.er (by decide)))⟩
  have O6:OwnB (wr.alloc (Obj.cells #[.int .i64 0] 3)) B (some ⟨G,0,none⟩) fr.length fr:=((O.kw hkw F.er).below hbk).mono hb
  have k6:=hkw.trans (Kw.of (eb:=w.heap.size+3) (Kt.of hbk hB5))
  have hB6:=Nat.le_trans hB5 hbk.size
  have hw6:=wsD_wt d f fr 0
  obtain ⟨st,hst⟩:∃ st,wsD d f fr 0=st:=⟨_,rfl⟩
  have hnx:wsD d f fr (0+1)=if st.2≠0 then st else writeD st.1 (f+(0:Nat)) (pcD fr 0):=by rw [← hst];rfl
  rw [hst] at D6 E6 hw6
  have HNX:=Lib.hid hnx
  clear hst hnx D5 E5 hkw hbk hB5 ck
  obtain ⟨d6,e6⟩:=st
  simp only at D6 E6 hw6
  by_cases h6:e6=0
  case pos=>
   subst h6
   have hnx:=HNX.out
   rw [if_neg (by simp)] at hnx
   have hdo:=do_wr E6 (by omega) L6 D6 hB6 0 (by omega) X6 O6 (by omega) (by omega) HF.out hfb (by omega)
   obtain ⟨r9,hr9⟩:∃ r9,writeD d6 (f+(0:Nat)) (pcD fr 0)=r9:=⟨_,rfl⟩
   simp only at hnx
   rw [hr9] at hdo hnx
   have HNY:=Lib.hid hnx
   clear HNX hnx hr9
   go_wp2_with (go_at_call 156;refine hdo.mono ?_;rintro e w7 ⟨rfl,D7,E7,k7⟩)
   go_roundw
   case rel=>exact ⟨0+1,by omega,by rfl,by rw [HNY.out];exact D7,by rw [HNY.out];exact E7,k6.trans k7⟩
   case measure=>simp [intOf]
  case neg=>
   have hnx:=HNX.out
   rw [if_pos h6] at hnx
   have HNY:=Lib.hid hnx
   clear HNX hnx
   go_wp2_with (go_at_call 156;refine (do_skip _ e6 h6 E6).mono ?_;rintro e w7 ⟨rfl,rfl⟩)
   go_roundw
   case rel=>exact ⟨0+1,by omega,by rfl,by rw [HNY.out];exact ⟨_,D6⟩,by rw [HNY.out];exact E6,k6⟩
   case measure=>simp [intOf]
 ·skip
  have hB5:=Nat.le_trans hb' hkw.bl.size
  have L6:LgB wr q g s:=hkw.ty _ _ _ F.lg (by decide) (by decide) (by decide) (ne_ty2 F.lg F.er (by decide))
  have c5:=one_c (hkw.ty _ _ _ F.b5 (by decide) (by decide) (by decide) (show w.heap.size≠w.heap.size+3 by omega))
  have l0:=L6.c0
  have hpd:(if (wsD d f fr 1).2≠0 then wsD d f fr 1 else flushD (wsD d f fr 1).1)=r:=HR.out
  obtain ⟨st,hst⟩:∃ st,wsD d f fr 1=st:=⟨_,rfl⟩
  rw [hst] at D5 E5 hpd
  clear hst HR
  obtain ⟨d6,e6⟩:=st
  simp only at D5 E5 hpd
  have hfin:∀ w',Kw B (w.heap.size+3) wc w'→Kt B w w':=fun w' k=>k.kt F.bl hb (by omega)
  go_wp2
  refine HK.out _ _ ?_
  clear HK
  by_cases h6:e6=0
  case pos=>
   subst h6
   rw [if_neg (by simp)] at hpd
   have hdo:=do_fl E5 (by omega) D5 hB5
   rw [hpd] at hdo
   have HPD:=Lib.hid hpd
   clear hpd
   refine seqH fun K HK=>?_
   go_wp2_with (go_at_call 156;refine hdo.mono ?_;rintro e w7 ⟨rfl,⟨wv7,D7⟩,E7,k7⟩)
   refine HK.out _ _ ?_
   clear HK
   have c7:=one_c E7
   have E7':w7.heap[w.heap.size+3]?=some (.cells #[.int .i64 r.2] 25 (0,0)):=E7
   go_wp2_with ((with_reducible refine wpList_stB 25 _ _ ?_);refine ⟨_,_,_,⟨_,_,_,sizeOf25,rfl,E7',er_st _ r.2⟩,?_⟩;intro w8 E8 g8)
   refine bodyPost_ret (results_c1 rfl rfl (by have c8:=one_c E8;go_simp;(try rfl))) rfl ⟨rfl,⟨_,D7.oe g8 E7 (by decide) (by decide) (by decide)⟩,hfin _ ((hkw.trans k7).trans (Kw.st g8 (by omega) (Nat.le_trans hB5 k7.bl.size)))⟩
  case neg=>
   rw [if_pos h6] at hpd
   subst hpd
   refine seqH fun K HK=>?_
   go_wp2_with (go_at_call 156;refine (do_skip _ e6 h6 E5).mono ?_;rintro e w7 ⟨rfl,rfl⟩)
   refine HK.out _ _ ?_
   clear HK
   have c7:=one_c E5
   have E7':wr.heap[w.heap.size+3]?=some (.cells #[.int .i64 e6] 25 (0,0)):=E5
   go_wp2_with ((with_reducible refine wpList_stB 25 _ _ ?_);refine ⟨_,_,_,⟨_,_,_,sizeOf25,rfl,E7',er_st _ e6⟩,?_⟩;intro w8 E8 g8)
   refine bodyPost_ret (results_c1 rfl rfl (by have c8:=one_c E8;go_simp;(try rfl))) rfl ⟨rfl,⟨_,D5.oe g8 E5 (by decide) (by decide) (by decide)⟩,hfin _ (hkw.trans (Kw.st g8 (by omega) hB5))⟩
theorem lwrite2_any {f:Int} (h:LgB w q g s) (hd:DiskB B g gp wv d w) (hb:B≤w.heap.size) (hf:firstN 4 pla=f) (hfb:0≤f∧f < 200) (hw:d.waits.length≤1000) (i:Int) (a:Option Addr) (cap:Nat) (body:List UInt8) (hs:SlB w a cap body) (hmay:mayTg ⟨s.rep,4,pla,i,s.inc⟩=true) (hbl:body.length≤88) :
  Calls Tryz.prog 81 #[.pointer (some ⟨q,0,none⟩),.int .i64 4,.int .i64 pla,.int .i64 i,.slice a body.length cap] w fun e w'=>e=.returned (.int .i64 (lputD d f (sealF ⟨s.rep,4,pla,i,s.inc⟩ body 128) 2).2)∧(∃ wv',DiskB B g gp wv' (lputD d f (sealF ⟨s.rep,4,pla,i,s.inc⟩ body 128) 2).1 w')∧Kt B w w':=by
 obtain ⟨r,hr⟩:∃ r,lputD d f (sealF ⟨s.rep,4,pla,i,s.inc⟩ body 128) 2=r:=⟨_,rfl⟩
 rw [hr]
 have HR:=Lib.hid hr
 have HF:=Lib.hid hf
 clear hr hf
 have hfl:(sealF ⟨s.rep,4,pla,i,s.inc⟩ body 128).length=128:=sealF_len (by decide) (by simpa [roomN] using hbl)
 go_enter func81,ntmps81
 refine seqH fun K HK=>?_
 go_wp2
 refine HK.out _ _ ?_
 clear HK
 have hb1:=blw w (Obj.cells #[.pointer (some ⟨q,0,none⟩)] 62)
 have hb2:=hb1.trans ((blw (w.alloc (Obj.cells #[.pointer (some ⟨q,0,none⟩)] 62)) (Obj.cells #[.int .i64 4] 3)).mono hb1.size)
 have hb3:=hb2.trans ((blw ((w.alloc (Obj.cells #[.pointer (some ⟨q,0,none⟩)] 62)).alloc (Obj.cells #[.int .i64 4] 3)) (Obj.cells #[.int .i64 pla] 3)).mono hb2.size)
 have hb4:=hb3.trans ((blw (((w.alloc (Obj.cells #[.pointer (some ⟨q,0,none⟩)] 62)).alloc (Obj.cells #[.int .i64 4] 3)).alloc (Obj.cells #[.int .i64 pla] 3)) (Obj.cells #[.int .i64 0] 25)).mono hb3.size)
 have e1:(w.alloc (Obj.cells #[.pointer (some ⟨q,0,none⟩)] 62)).heap.size=w.heap.size+1:=by simp
 have e2:((w.alloc (Obj.cells #[.pointer (some ⟨q,0,none⟩)] 62)).alloc (Obj.cells #[.int .i64 4] 3)).heap.size=w.heap.size+2:=by simp
 have e3:(((w.alloc (Obj.cells #[.pointer (some ⟨q,0,none⟩)] 62)).alloc (Obj.cells #[.int .i64 4] 3)).alloc (Obj.cells #[.int .i64 pla] 3)).heap.size=w.heap.size+3:=by simp
 have F1:WF B g gp q w.heap.size wv d s 4 pla w ((((w.alloc (Obj.cells #[.pointer (some ⟨q,0,none⟩)] 62)).alloc (Obj.cells #[.int .i64 4] 3)).alloc (Obj.cells #[.int .i64 pla] 3)).alloc (Obj.cells #[.int .i64 0] 25)):=
  ⟨h.below hb4,tr_al (Obj.cells #[.int .i64 0] 25) (tr_al (Obj.cells #[.int .i64 pla] 3) (tr_al (Obj.cells #[.int .i64 4] 3) (heap_alloc_new w (Obj.cells #[.pointer (some ⟨q,0,none⟩)] 62)))),tr_al (Obj.cells #[.int .i64 0] 25) (tr_al (Obj.cells #[.int .i64 pla] 3) (e1 ▸ heap_alloc_new (w.alloc (Obj.cells #[.pointer (some ⟨q,0,none⟩)] 62)) (Obj.cells #[.int .i64 4] 3))),tr_al (Obj.cells #[.int .i64 0] 25) (e2 ▸ heap_alloc_new ((w.alloc (Obj.cells #[.pointer (some ⟨q,0,none⟩)] 62)).alloc (Obj.cells #[.int .i64 4] 3)) (Obj.cells #[.int .i64 pla] 3)),e3 ▸ heap_alloc_new (((w.alloc (Obj.cells #[.pointer (some ⟨q,0,none⟩)] 62)).alloc (Obj.cells #[.int .i64 4] 3)).alloc (Obj.cells #[.int .i64 pla] 3)) (Obj.cells #[.int .i64 0] 25),hd.below hb4,hb4⟩
 have SB1:=hs.below hb4
 clear hb1 hb2 hb3 hb4 e1 e2 e3
 generalize (((w.alloc (Obj.cells #[.pointer (some ⟨q,0,none⟩)] 62)).alloc (Obj.cells #[.int .i64 4] 3)).alloc (Obj.cells #[.int .i64 pla] 3)).alloc (Obj.cells #[.int .i64 0] 25)=w1 at *
 refine wp_seq_k (fun K hK=>?_)
 go_cut [11] (fun v wx=>Mid B g gp q w.heap.size wv d s 4 pla w (sealF ⟨s.rep,4,pla,i,s.inc⟩ body 128) v wx)
 case first=>
  have hbd:=(Below.refl w1.heap.size w1).drew
  have F:=F1.below hbd
  have SB:=SB1.below hbd
  clear F1 SB1 hbd
  refine wp_region_held_drew (S:=fun w'=>LgB w' q g s∧w'.heap[w.heap.size]?=some (.cells #[.pointer (some ⟨q,0,none⟩)] 62 (0,0))∧w'.heap[w.heap.size+1]?=some (.cells #[.int .i64 4] 3 (0,0))∧w'.heap[w.heap.size+2]?=some (.cells #[.int .i64 pla] 3 (0,0))) (by kernel_rfl) ⟨F.lg,F.b5,F.b6,F.b7⟩ (fun hS0=>?_)
  generalize w1.drew=x0 at *
  refine tkT 0 rfl (by intro wS hSw;have c:=one_c hSw.2.1;go_simp;(try with_reducible rfl)) ?_
  refine tkP 1 rfl ?_
  refine tkP 2 rfl ?_
  refine tkT 3 rfl (by intro wS hSw;have c:=hSw.1.c1;go_simp;(try with_reducible rfl)) ?_
  refine tkT 4 rfl (by intro wS hSw;have c:=one_c hSw.2.2.1;go_simp;(try with_reducible rfl)) ?_
  refine tkT 5 rfl (by intro wS hSw;have c:=one_c hSw.2.2.2;go_simp;(try with_reducible rfl)) ?_
  refine tkP 6 rfl ?_
  refine tkT 7 rfl (by intro wS hSw;have c:=one_c hSw.2.1;go_simp;(try with_reducible rfl)) ?_
  refine tkP 8 rfl ?_
  refine tkP 9 rfl ?_
  refine tkT 10 rfl (by intro wS hSw;have c:=hSw.1.c2;go_simp;(try with_reducible rfl)) ?_
  refine tkT 11 (v:=tgV ⟨s.rep,4,pla,i,s.inc⟩) rfl (by intro wS hSw;kernel_rfl) ?_
  refine tkP 12 rfl ?_
  refine tkT 13 rfl (by intro wS hSw;have c:=one_c hSw.2.2.1;go_simp;(try with_reducible rfl)) ?_
  refine wpAnyH_ready (rs:=[14,19]) (by kernel_rfl) (by simp) ?_
  refine AllReadyH.cons (o:=⟨_,_,_,_,_,_⟩) rfl (fun K' hK'=>?_) (AllReadyH.cons (o:=⟨_,_,_,_,_,_⟩) rfl (fun K' hK'=>?_) AllReadyH.nil)
  ·refine (if_pos (by rfl)).mpr ?_
   go_simp
   refine (wide_any 4 _).mono ?_
   rintro e x2 ⟨rfl,hbk⟩
   rw [show wideN 4=2 from rfl]
   have F:=F.below hbk
   have SB:=SB.below hbk
   skip
   refine hK'.out _ _ ⟨F.lg,F.b5,F.b6,F.b7⟩ (fun _=>?_)
   clear hK' hbk
   (try simp only [Act.put,qa1,qa2,qa3])
   refine wpAnyH_ready (rs:=[15,19]) (by kernel_rfl) (by simp) ?_
   refine AllReadyH.cons (o:=⟨_,_,_,_,_,_⟩) rfl (fun K' hK'=>?_) (AllReadyH.cons (o:=⟨_,_,_,_,_,_⟩) rfl (fun K' hK'=>?_) AllReadyH.nil)
   ·refine (if_pos (by rfl)).mpr ?_
    go_simp
    refine (seal2 ⟨s.rep,4,pla,i,s.inc⟩ a cap body _ SB hmay hbl).mono ?_
    rintro e x3 ⟨⟨G,rfl,hG,FG⟩,hbk⟩
    have hnG:=Nat.le_trans (Nat.le_of_lt (lt_blk F.b5)) hG
    have F:=F.below hbk
    have O:OwnB _ w.heap.size (some ⟨G,0,none⟩) (sealF ⟨s.rep,4,pla,i,s.inc⟩ body 128).length (sealF ⟨s.rep,4,pla,i,s.inc⟩ body 128):=.inr ⟨G,[],rfl,hnG,Nat.le_refl _,by rw [hfl];unfold maxLen;omega,by rw [List.append_nil];exact FG⟩
    skip
    refine hK'.out _ _ ⟨F.lg,F.b5,F.b6,F.b7⟩ (fun _=>?_)
    clear hK' hbk FG SB
    (try simp only [Act.put,qa1,qa2,qa3])
    refine tkP 16 rfl ?_
    refine tkP 17 rfl ?_
    refine tkP 18 rfl ?_
    refine rdy1 19 rfl (fun K' hK'=>?_)
    go_simp
    change K' _ (World.alloc _ (Obj.cells #[.slice none 0 0] 37))
    have hbk:=blw x3 (Obj.cells #[.slice none 0 0] 37)
    have SX:=heap_alloc_new x3 (Obj.cells #[.slice none 0 0] 37)
    have hsb:=Nat.le_of_lt (lt_blk F.b5)
    have F:=F.below hbk
    have O:=O.below hbk
    refine hK'.out _ _ ⟨F.lg,F.b5,F.b6,F.b7⟩ (fun _=>?_)
    clear hK' hbk
    generalize x3.alloc (Obj.cells #[.slice none 0 0] 37)=x4 at *
    generalize x3.heap.size=sb at *
    (try simp only [Act.put,qa1,qa2,qa3])
    refine rdy1 20 rfl (fun K' hK'=>?_)
    refine wp_stB 37 _ _ ?_
    refine ⟨_,_,_,⟨_,_,_,sizeOf37,rfl,SX,sl_over _ _ _⟩,?_⟩
    intro w20 SY g20
    have F20:=F.st1 g20 SX hsb
    have O20:=O.st g20 SX (by decide)
    refine hK'.out _ _ ⟨F20.lg,F20.b5,F20.b6,F20.b7⟩ (fun _=>?_)
    clear hK' F O SX
    (try simp only [Act.put,qa1,qa2,qa3])
    refine rdy1 21 rfl (fun K' hK'=>?_)
    refine wp_stB 25 _ _ ?_
    refine ⟨_,_,_,⟨_,_,_,sizeOf25,rfl,F20.er,er_st _ 0⟩,?_⟩
    intro w21 E21 g21
    have F21:=F20.st2 g21 E21
    have O21:=O20.st g21 F20.er (by decide)
    have SZ:=tr_st g21 SY (ne_ty2 F20.er SY (by decide))
    refine hK'.out _ _ ⟨F21.lg,F21.b5,F21.b6,F21.b7⟩ (fun _=>?_)
    clear hK'
    refine wpAnyH_done (by kernel_rfl) ?_ _
    go_wp2
    go_meet
    rw [← hfl] at SZ
    exact ⟨_,_,rfl,SZ,O21,F21⟩
   ·refine (if_pos (by rfl)).mpr ?_
    go_simp
    change K' _ (World.alloc _ (Obj.cells #[.slice none 0 0] 37))
    have hbk:=blw x2 (Obj.cells #[.slice none 0 0] 37)
    have SX:=heap_alloc_new x2 (Obj.cells #[.slice none 0 0] 37)
    have hsb:=Nat.le_of_lt (lt_blk F.b5)
    have F:=F.below hbk
    have SB:=SB.below hbk
    refine hK'.out _ _ ⟨F.lg,F.b5,F.b6,F.b7⟩ (fun _=>?_)
    clear hK' hbk
    generalize x2.alloc (Obj.cells #[.slice none 0 0] 37)=x3 at *
    generalize x2.heap.size=sb at *
    (try simp only [Act.put,qa1,qa2,qa3])
    refine rdy1 15 rfl (fun K' hK'=>?_)
    go_simp
    refine (seal2 ⟨s.rep,4,pla,i,s.inc⟩ a cap body _ SB hmay hbl).mono ?_
    rintro e x4 ⟨⟨G,rfl,hG,FG⟩,hbk⟩
    have hnG:=Nat.le_trans (Nat.le_of_lt (lt_blk F.b5)) hG
    have F:=F.below hbk
    have O:OwnB _ w.heap.size (some ⟨G,0,none⟩) (sealF ⟨s.rep,4,pla,i,s.inc⟩ body 128).length (sealF ⟨s.rep,4,pla,i,s.inc⟩ body 128):=.inr ⟨G,[],rfl,hnG,Nat.le_refl _,by rw [hfl];unfold maxLen;omega,by rw [List.append_nil];exact FG⟩
    have SX:=tr_bl hbk SX
    refine hK'.out _ _ ⟨F.lg,F.b5,F.b6,F.b7⟩ (fun _=>?_)
    clear hK' hbk FG SB
    (try simp only [Act.put,qa1,qa2,qa3])
    refine tkP 16 rfl ?_
    refine tkP 17 rfl ?_
    refine tkP 18 rfl ?_
    refine rdy1 20 rfl (fun K' hK'=>?_)
    refine wp_stB 37 _ _ ?_
    refine ⟨_,_,_,⟨_,_,_,sizeOf37,rfl,SX,sl_over _ _ _⟩,?_⟩
    intro w20 SY g20
    have F20:=F.st1 g20 SX hsb
    have O20:=O.st g20 SX (by decide)
    refine hK'.out _ _ ⟨F20.lg,F20.b5,F20.b6,F20.b7⟩ (fun _=>?_)
    clear hK' F O SX
    (try simp only [Act.put,qa1,qa2,qa3])
    refine rdy1 21 rfl (fun K' hK'=>?_)
    refine wp_stB 25 _ _ ?_
    refine ⟨_,_,_,⟨_,_,_,sizeOf25,rfl,F20.er,er_st _ 0⟩,?_⟩
    intro w21 E21 g21
    have F21:=F20.st2 g21 E21
    have O21:=O20.st g21 F20.er (by decide)
    have SZ:=tr_st g21 SY (ne_ty2 F20.er SY (by decide))
    refine hK'.out _ _ ⟨F21.lg,F21.b5,F21.b6,F21.b7⟩ (fun _=>?_)
    clear hK'
    refine wpAnyH_done (by kernel_rfl) ?_ _
    go_wp2
    go_meet
    rw [← hfl] at SZ
    exact ⟨_,_,rfl,SZ,O21,F21⟩
  ·refine (if_pos (by rfl)).mpr ?_
   go_simp
   change K' _ (World.alloc _ (Obj.cells #[.slice none 0 0] 37))
   have hbk:=blw x0 (Obj.cells #[.slice none 0 0] 37)
   have SX:=heap_alloc_new x0 (Obj.cells #[.slice none 0 0] 37)
   have hsb:=Nat.le_of_lt (lt_blk F.b5)
   have F:=F.below hbk
   have SB:=SB.below hbk
   refine hK'.out _ _ ⟨F.lg,F.b5,F.b6,F.b7⟩ (fun _=>?_)
   clear hK' hbk
   generalize x0.alloc (Obj.cells #[.slice none 0 0] 37)=x2 at *
   generalize x0.heap.size=sb at *
   (try simp only [Act.put,qa1,qa2,qa3])
   refine rdy1 14 rfl (fun K' hK'=>?_)
   go_simp
   refine (wide_any 4 _).mono ?_
   rintro e x3 ⟨rfl,hbk⟩
   rw [show wideN 4=2 from rfl]
   have F:=F.below hbk
   have SB:=SB.below hbk
   have SX:=tr_bl hbk SX
   refine hK'.out _ _ ⟨F.lg,F.b5,F.b6,F.b7⟩ (fun _=>?_)
   clear hK' hbk
   (try simp only [Act.put,qa1,qa2,qa3])
   refine rdy1 15 rfl (fun K' hK'=>?_)
   go_simp
   refine (seal2 ⟨s.rep,4,pla,i,s.inc⟩ a cap body _ SB hmay hbl).mono ?_
   rintro e x4 ⟨⟨G,rfl,hG,FG⟩,hbk⟩
   have hnG:=Nat.le_trans (Nat.le_of_lt (lt_blk F.b5)) hG
   have F:=F.below hbk
   have O:OwnB _ w.heap.size (some ⟨G,0,none⟩) (sealF ⟨s.rep,4,pla,i,s.inc⟩ body 128).length (sealF ⟨s.rep,4,pla,i,s.inc⟩ body 128):=.inr ⟨G,[],rfl,hnG,Nat.le_refl _,by rw [hfl];unfold maxLen;omega,by rw [List.append_nil];exact FG⟩
   have SX:=tr_bl hbk SX
   refine hK'.out _ _ ⟨F.lg,F.b5,F.b6,F.b7⟩ (fun _=>?_)
   clear hK' hbk FG SB
   (try simp only [Act.put,qa1,qa2,qa3])
   refine tkP 16 rfl ?_
   refine tkP 17 rfl ?_
   refine tkP 18 rfl ?_
   refine rdy1 20 rfl (fun K' hK'=>?_)
   refine wp_stB 37 _ _ ?_
   refine ⟨_,_,_,⟨_,_,_,sizeOf37,rfl,SX,sl_over _ _ _⟩,?_⟩
   intro w20 SY g20
   have F20:=F.st1 g20 SX hsb
   have O20:=O.st g20 SX (by decide)
   refine hK'.out _ _ ⟨F20.lg,F20.b5,F20.b6,F20.b7⟩ (fun _=>?_)
   clear hK' F O SX
   (try simp only [Act.put,qa1,qa2,qa3])
   refine rdy1 21 rfl (fun K' hK'=>?_)
   refine wp_stB 25 _ _ ?_
   refine ⟨_,_,_,⟨_,_,_,sizeOf25,rfl,F20.er,er_st _ 0⟩,?_⟩
   intro w21 E21 g21
   have F21:=F20.st2 g21 E21
   have O21:=O20.st g21 F20.er (by decide)
   have SZ:=tr_st g21 SY (ne_ty2 F20.er SY (by decide))
   refine hK'.out _ _ ⟨F21.lg,F21.b5,F21.b6,F21.b7⟩ (fun _=>?_)
   clear hK'
   refine wpAnyH_done (by kernel_rfl) ?_ _
   go_wp2
   go_meet
   rw [← hfl] at SZ
   exact ⟨_,_,rfl,SZ,O21,F21⟩
 have hlen:=hfl
 obtain ⟨fr,hfr⟩:∃ fr,sealF ⟨s.rep,4,pla,i,s.inc⟩ body 128=fr:=⟨_,rfl⟩
 rw [hfr] at hlen hcut HR
 clear hfr hfl
 obtain ⟨sb,G,rfl,SX,O,F⟩:=hcut
 refine hK _ _ ?_
 clear hK
 have hb':=Nat.le_trans hb F.bl.size
 have ce:=one_c F.er
 refine seqH fun K HK=>?_
 go_wp2
 refine HK.out _ _ ?_
 clear HK
 refine seqH fun K HK=>?_
 go_wp2
 refine HK.out _ _ ?_
 clear HK
 refine wp_seq_k (fun K hK=>?_)
 have HK:=Lib.hid hK
 clear hK ce
 have c6:=one_c F.b6
 go_wp2_with (go_at_call 111;refine (wide_any 4 _).mono ?_;rintro e w5 ⟨rfl,hb5⟩)
 rw [show wideN 4=2 from rfl]
 have SX:=tr_bl hb5 SX
 have O:=O.below hb5
 have F:=F.below hb5
 have hb':=Nat.le_trans hb' hb5.size
 clear c6 hb5
 generalize w5=wc at *
 go_loopw [39,13] (fun i' _ wr=>∃ j:Nat,j≤2∧i'=.int .i64 (j:Nat)∧(∃ wv',DiskB B g gp wv' (wsD d f fr j).1 wr)∧ErB wr (w.heap.size+3) (wsD d f fr j).2∧Kw B (w.heap.size+3) wc wr) (fun i' _ _=>2 - (intOf i').toNat)
 case atStart=>exact ⟨0,by omega,rfl,⟨_,F.dk⟩,F.er,Kw.refl _ _ _⟩
 case' round=>
  obtain ⟨j,hj,rfl,⟨wv5,D5⟩,E5,hkw⟩:=hrel
 rcases (show j=0∨j=1∨j=2 by omega) with rfl | rfl | rfl
 ·skip
  have hB5:=Nat.le_trans hb' hkw.bl.size
  have hbk:=blw wr (Obj.cells #[.int .i64 0] 3)
  have ck:=heap_alloc_new wr (Obj.cells #[.int .i64 0] 3)
  have D6:=D5.below hbk
  have E6:ErB (wr.alloc (Obj.cells #[.int .i64 0] 3)) (w.heap.size+3) (wsD d f fr 0).2:=tr_bl hbk E5
  have L6:LgB (wr.alloc (Obj.cells #[.int .i64 0] 3)) q g s:=tr_bl hbk (hkw.ty _ _ _ F.lg (by decide) (by decide) (by decide) (ne_ty2 F.lg F.er (by decide)))
  have X6:WBx (wr.alloc (Obj.cells #[.int .i64 0] 3)) w.heap.size (w.heap.size+1) (w.heap.size+2) wr.heap.size sb q G 4 pla 0 fr.length:=⟨tr_bl hbk (hkw.ty _ _ _ F.b5 (by decide) (by decide) (by decide) (by omega)),tr_bl hbk (hkw.ty _ _ _ F.b6 (by decide) (by decide) (by decide) (by omega)),tr_bl hbk (hkw.ty _ _ _ F.b7 (by decide) (by decide) (by decide) (by omega)),ck,tr_bl hbk (hkw.ty _ _ _ SX (by decide) (by decide) (by decide) (ne_ty2 SX F.er (by decide)))⟩
  have O6:OwnB (wr.alloc (Obj.cells #[.int .i64 0] 3)) B (some ⟨G,0,none⟩) fr.length fr:=((O.kw hkw F.er).below hbk).mono hb
  have k6:=hkw.trans (Kw.of (eb:=w.heap.size+3) (Kt.of hbk hB5))
  have hB6:=Nat.le_trans hB5 hbk.size
  have hw6:=wsD_wt d f fr 0
  obtain ⟨st,hst⟩:∃ st,wsD d f fr 0=st:=⟨_,rfl⟩
  have hnx:wsD d f fr (0+1)=if st.2≠0 then st else writeD st.1 (f+(0:Nat)) (pcD fr 0):=by rw [← hst];rfl
  rw [hst] at D6 E6 hw6
  have HNX:=Lib.hid hnx
  clear hst hnx D5 E5 hkw hbk hB5 ck
  obtain ⟨d6,e6⟩:=st
  simp only at D6 E6 hw6
  by_cases h6:e6=0
  case pos=>
   subst h6
   have hnx:=HNX.out
   rw [if_neg (by simp)] at hnx
   have hdo:=do_wr E6 (by omega) L6 D6 hB6 0 (by omega) X6 O6 (by omega) (by omega) HF.out hfb (by omega)
   obtain ⟨r9,hr9⟩:∃ r9,writeD d6 (f+(0:Nat)) (pcD fr 0)=r9:=⟨_,rfl⟩
   simp only at hnx
   rw [hr9] at hdo hnx
   have HNY:=Lib.hid hnx
   clear HNX hnx hr9
   go_wp2_with (go_at_call 156;refine hdo.mono ?_;rintro e w7 ⟨rfl,D7,E7,k7⟩)
   go_roundw
   case rel=>exact ⟨0+1,by omega,by rfl,by rw [HNY.out];exact D7,by rw [HNY.out];exact E7,k6.trans k7⟩
   case measure=>simp [intOf]
  case neg=>
   have hnx:=HNX.out
   rw [if_pos h6] at hnx
   have HNY:=Lib.hid hnx
   clear HNX hnx
   go_wp2_with (go_at_call 156;refine (do_skip _ e6 h6 E6).mono ?_;rintro e w7 ⟨rfl,rfl⟩)
   go_roundw
   case rel=>exact ⟨0+1,by omega,by rfl,by rw [HNY.out];exact ⟨_,D6⟩,by rw [HNY.out];exact E6,k6⟩
   case measure=>simp [intOf]
 ·skip
  have hB5:=Nat.le_trans hb' hkw.bl.size
  have hbk:=blw wr (Obj.cells #[.int .i64 1] 3)
  have ck:=heap_alloc_new wr (Obj.cells #[.int .i64 1] 3)
  have D6:=D5.below hbk
  have E6:ErB (wr.alloc (Obj.cells #[.int .i64 1] 3)) (w.heap.size+3) (wsD d f fr 1).2:=tr_bl hbk E5
  have L6:LgB (wr.alloc (Obj.cells #[.int .i64 1] 3)) q g s:=tr_bl hbk (hkw.ty _ _ _ F.lg (by decide) (by decide) (by decide) (ne_ty2 F.lg F.er (by decide)))
  have X6:WBx (wr.alloc (Obj.cells #[.int .i64 1] 3)) w.heap.size (w.heap.size+1) (w.heap.size+2) wr.heap.size sb q G 4 pla 1 fr.length:=⟨tr_bl hbk (hkw.ty _ _ _ F.b5 (by decide) (by decide) (by decide) (by omega)),tr_bl hbk (hkw.ty _ _ _ F.b6 (by decide) (by decide) (by decide) (by omega)),tr_bl hbk (hkw.ty _ _ _ F.b7 (by decide) (by decide) (by decide) (by omega)),ck,tr_bl hbk (hkw.ty _ _ _ SX (by decide) (by decide) (by decide) (ne_ty2 SX F.er (by decide)))⟩
  have O6:OwnB (wr.alloc (Obj.cells #[.int .i64 1] 3)) B (some ⟨G,0,none⟩) fr.length fr:=((O.kw hkw F.er).below hbk).mono hb
  have k6:=hkw.trans (Kw.of (eb:=w.heap.size+3) (Kt.of hbk hB5))
  have hB6:=Nat.le_trans hB5 hbk.size
  have hw6:=wsD_wt d f fr 1
  obtain ⟨st,hst⟩:∃ st,wsD d f fr 1=st:=⟨_,rfl⟩
  have hnx:wsD d f fr (1+1)=if st.2≠0 then st else writeD st.1 (f+(1:Nat)) (pcD fr 1):=by rw [← hst];rfl
  rw [hst] at D6 E6 hw6
  have HNX:=Lib.hid hnx
  clear hst hnx D5 E5 hkw hbk hB5 ck
  obtain ⟨d6,e6⟩:=st
  simp only at D6 E6 hw6
  by_cases h6:e6=0
  case pos=>
   subst h6
   have hnx:=HNX.out
   rw [if_neg (by simp)] at hnx
   have hdo:=do_wr E6 (by omega) L6 D6 hB6 1 (by omega) X6 O6 (by omega) (by omega) HF.out hfb (by omega)
   obtain ⟨r9,hr9⟩:∃ r9,writeD d6 (f+(1:Nat)) (pcD fr 1)=r9:=⟨_,rfl⟩
   simp only at hnx
   rw [hr9] at hdo hnx
   have HNY:=Lib.hid hnx
   clear HNX hnx hr9
   go_wp2_with (go_at_call 156;refine hdo.mono ?_;rintro e w7 ⟨rfl,D7,E7,k7⟩)
   go_roundw
   case rel=>exact ⟨1+1,by omega,by rfl,by rw [HNY.out];exact D7,by rw [HNY.out];exact E7,k6.trans k7⟩
   case measure=>simp [intOf]
  case neg=>
   have hnx:=HNX.out
   rw [if_pos h6] at hnx
   have HNY:=Lib.hid hnx
   clear HNX hnx
   go_wp2_with (go_at_call 156;refine (do_skip _ e6 h6 E6).mono ?_;rintro e w7 ⟨rfl,rfl⟩)
   go_roundw
   case rel=>exact ⟨1+1,by omega,by rfl,by rw [HNY.out];exact ⟨_,D6⟩,by rw [HNY.out];exact E6,k6⟩
   case measure=>simp [intOf]
 ·skip
  have hB5:=Nat.le_trans hb' hkw.bl.size
  have L6:LgB wr q g s:=hkw.ty _ _ _ F.lg (by decide) (by decide) (by decide) (ne_ty2 F.lg F.er (by decide))
  have c5:=one_c (hkw.ty _ _ _ F.b5 (by decide) (by decide) (by decide) (show w.heap.size≠w.heap.size+3 by omega))
  have l0:=L6.c0
  have hpd:(if (wsD d f fr 2).2≠0 then wsD d f fr 2 else flushD (wsD d f fr 2).1)=r:=HR.out
  obtain ⟨st,hst⟩:∃ st,wsD d f fr 2=st:=⟨_,rfl⟩
  rw [hst] at D5 E5 hpd
  clear hst HR
  obtain ⟨d6,e6⟩:=st
  simp only at D5 E5 hpd
  have hfin:∀ w',Kw B (w.heap.size+3) wc w'→Kt B w w':=fun w' k=>k.kt F.bl hb (by omega)
  go_wp2
  refine HK.out _ _ ?_
  clear HK
  by_cases h6:e6=0
  case pos=>
   subst h6
   rw [if_neg (by simp)] at hpd
   have hdo:=do_fl E5 (by omega) D5 hB5
   rw [hpd] at hdo
   have HPD:=Lib.hid hpd
   clear hpd
   refine seqH fun K HK=>?_
   go_wp2_with (go_at_call 156;refine hdo.mono ?_;rintro e w7 ⟨rfl,⟨wv7,D7⟩,E7,k7⟩)
   refine HK.out _ _ ?_
   clear HK
   have c7:=one_c E7
   have E7':w7.heap[w.heap.size+3]?=some (.cells #[.int .i64 r.2] 25 (0,0)):=E7
   go_wp2_with ((with_reducible refine wpList_stB 25 _ _ ?_);refine ⟨_,_,_,⟨_,_,_,sizeOf25,rfl,E7',er_st _ r.2⟩,?_⟩;intro w8 E8 g8)
   refine bodyPost_ret (results_c1 rfl rfl (by have c8:=one_c E8;go_simp;(try rfl))) rfl ⟨rfl,⟨_,D7.oe g8 E7 (by decide) (by decide) (by decide)⟩,hfin _ ((hkw.trans k7).trans (Kw.st g8 (by omega) (Nat.le_trans hB5 k7.bl.size)))⟩
  case neg=>
   rw [if_pos h6] at hpd
   subst hpd
   refine seqH fun K HK=>?_
   go_wp2_with (go_at_call 156;refine (do_skip _ e6 h6 E5).mono ?_;rintro e w7 ⟨rfl,rfl⟩)
   refine HK.out _ _ ?_
   clear HK
   have c7:=one_c E5
   have E7':wr.heap[w.heap.size+3]?=some (.cells #[.int .i64 e6] 25 (0,0)):=E5
   go_wp2_with ((with_reducible refine wpList_stB 25 _ _ ?_);refine ⟨_,_,_,⟨_,_,_,sizeOf25,rfl,E7',er_st _ e6⟩,?_⟩;intro w8 E8 g8)
   refine bodyPost_ret (results_c1 rfl rfl (by have c8:=one_c E8;go_simp;(try rfl))) rfl ⟨rfl,⟨_,D5.oe g8 E5 (by decide) (by decide) (by decide)⟩,hfin _ (hkw.trans (Kw.st g8 (by omega) hB5))⟩
end
end
section
def frmL (s:Lg) (i:Int) (k:Nat) (b:Bal) (e:En):List UInt8:=sealF ⟨s.rep,4,2 * plW i+k,i,s.inc⟩ (bodyE b e) 128
def frmR (s:Lg) (i:Int) (k:Nat) (b:Bal):List UInt8:=sealF ⟨s.rep,3,plW i,i,s.inc⟩ (recB b k) 64
def putL1 (d:Dk) (s:Lg) (i:Int) (k:Nat) (b:Bal) (e:En):Dk×Int:=lputD d (firstN 4 (2 * plW i+k)) (frmL s i k b e) 2
def putL2 (d:Dk) (s:Lg) (i:Int) (k:Nat) (b:Bal):Dk×Int:=lputD d (firstN 3 (plW i)) (frmR s i k b) 1
def putW (d:Dk) (s:Lg) (i:Int) (b:Bal) (e:En):Dk×Int:=
 if (putL1 d s i (nextS (recW d s i) (ffW d s i) i) b e).2≠0 then putL1 d s i (nextS (recW d s i) (ffW d s i) i) b e else putL2 (putL1 d s i (nextS (recW d s i) (ffW d s i) i) b e).1 s i (nextS (recW d s i) (ffW d s i) i) b
theorem nextS_lt (p:SRec) (f:Nat→SCp) (i:Int):nextS p f i < 2:=by
 unfold nextS
 cases h:intactS p f i with
 | some k=>have:=intact_lt h;simp only;omega
 | none=>simp only;split <;> omega
theorem lputD_wt (d:Dk) (f:Int) (fr:List UInt8) (n:Nat):(lputD d f fr n).1.waits.length≤d.waits.length+n:=by
 have h:=wsD_wt d f fr n
 unfold lputD
 split
 ·exact h
 ·rcases flush_pl (wsD d f fr n).1 with h2 | h2
  ·rw [h2.2];exact h
  ·rw [h2.2];simp
section
variable {B g gp q:Nat} {wv:Value} {d:Dk} {w w':World} {s:Lg} {b:Bal} {e:En}
theorem mayT4 (hs:LgOk s) {i:Int} (h1:1≤i) (h2:i≤1099511627776) {k:Nat} (hk:k < 2):mayTg ⟨s.rep,4,2 * plW i+k,i,s.inc⟩=true:=by
 have:=hs.r
 have:=hs.n
 have:=plW_in (i:=i)
 unfold mayTg
 simp [placesN]
 omega
theorem mayT3 (hs:LgOk s) {i:Int} (h1:1≤i) (h2:i≤1099511627776):mayTg ⟨s.rep,3,plW i,i,s.inc⟩=true:=by
 have:=hs.r
 have:=hs.n
 have:=plW_in (i:=i)
 unfold mayTg
 simp [placesN]
 omega
theorem lopen_ok (hd:DiskB B g gp wv d w) (rep inc snap:Int) (h156:156≤d.pl.length) (hok:LgOk ⟨rep,inc,snap⟩) (hup:upD d=true):Calls Tryz.prog 21 #[.pointer (some ⟨g,0,none⟩),.int .i64 rep,.int .i64 inc,.int .i64 snap] w fun e w'=>(∃ q,e=.returned (.tuple #[.pointer (some ⟨q,0,none⟩),.int .i64 0])∧w.heap.size≤q∧LgB w' q g ⟨rep,inc,snap⟩)∧Below w.heap.size w w':=by
 have h1:=hok.r
 have h2:=hok.n
 have h3:=hok.p
 have hsz:=dsize hd
 have hu:=fun w' (D:DiskB B g gp wv d w')=>up_any D
 rw [hup] at hu
 simp only at h1 h2 h3
 have hn0:¬ ((d.pl.length:Int) < 156):=by omega
 have hn1:((d.pl.length:Int)==0)=false:=by rw [beq_eq_false_iff_ne];omega
 have hf:fitW snap=true:=by unfold fitW;rw [decide_eq_true h3.1,decide_eq_true h3.2];rfl
 have hfi:=fun w=>lfits_any snap w
 rw [hf] at hfi
 clear hf hup h156 hok
 go_enter func21,ntmps21
 go_wp2_with (first
  | (go_at_call 33;refine hsz.mono ?_;rintro e w1 ⟨rfl,rfl⟩)
  | (go_at_call 34;refine (all_any _).mono ?_;rintro e w1 ⟨rfl,hb1⟩)
  | (go_at_call 75;refine (hfi _).mono ?_;rintro e w1 ⟨rfl,rfl⟩)
  | (go_at_call 43;refine (hu _ (hd.below hb1)).mono ?_;rintro e w1 ⟨rfl,rfl⟩))
 go_ret2
 exact ⟨⟨_,rfl,hb1.size,heap_alloc_new _ (Obj.cells #[.pointer (some ⟨g,0,none⟩),.int .i64 rep,.int .i64 inc,.int .i64 snap] 144)⟩,hb1.trans ((blw _ (Obj.cells #[.pointer (some ⟨g,0,none⟩),.int .i64 rep,.int .i64 inc,.int .i64 snap] 144)).mono hb1.size)⟩
end
end
section
def half1 (y:Nat):Nat:=(y / 2) ^^^ (if y % 2=1 then 2197175160 else 0)
def inR (r b:Nat):Nat:=if r % 2=b then r / 2 else (r / 2) ^^^ 2197175160
def halfs:Nat→Nat→Nat
 | 0,y=>y
 | k+1,y=>half1 (halfs k y)
theorem xor_half (a b:Nat):(a ^^^ b) / 2=a / 2 ^^^ b / 2:=Nat.xor_div_two_pow (n:=1)
theorem xor_low (a b:Nat):(a ^^^ b) % 2=a % 2 ^^^ b % 2:=Nat.xor_mod_two_pow (n:=1)
theorem half1_xor (a b:Nat):half1 (a ^^^ b)=half1 a ^^^ half1 b:=by
 unfold half1
 rw [xor_half,xor_low]
 rcases (show a % 2=0∨a % 2=1 by omega) with h | h <;> rcases (show b % 2=0∨b % 2=1 by omega) with k | k <;> rw [h,k] <;> simp only [Nat.xor_self,Nat.xor_zero,Nat.zero_xor,if_true,if_false,Nat.zero_ne_one]
 ·rw [Nat.xor_assoc]
 ·rw [Nat.xor_assoc,Nat.xor_assoc,Nat.xor_comm (b / 2)]
 ·rw [Nat.xor_assoc,← Nat.xor_assoc 2197175160,Nat.xor_comm 2197175160 (b / 2),Nat.xor_assoc,Nat.xor_self,Nat.xor_zero]
theorem halfs_xor (a b:Nat):∀ k,halfs k (a ^^^ b)=halfs k a ^^^ halfs k b
 | 0=>rfl
 | k+1=>by
  show half1 (halfs k (a ^^^ b))=half1 (halfs k a) ^^^ half1 (halfs k b)
  rw [halfs_xor a b k,half1_xor]
theorem half1_two (y:Nat):half1 (2 * y)=y:=by
 unfold half1
 rw [if_neg (by omega),Nat.xor_zero]
 omega
theorem halfs_16 (q:Nat):halfs 4 (16 * q)=q:=by
 show half1 (half1 (half1 (half1 (16 * q))))=q
 rw [show 16 * q=2 * (2 * (2 * (2 * q))) by omega,half1_two,half1_two,half1_two,half1_two]
theorem halfs_low:∀ m,m < 16→halfs 4 m=half m:=by decide
theorem split16 (y:Nat):y=16 * (y / 16) ^^^ (y % 16):=by
 have h1:(16 * (y / 16) ^^^ (y % 16)) / 16=y / 16:=by
  have:=Nat.xor_div_two_pow (a:=16 * (y / 16)) (b:=y % 16) (n:=4)
  rw [show (2:Nat) ^ 4=16 from rfl] at this
  rw [this,show y % 16 / 16=0 by omega,Nat.xor_zero]
  omega
 have h2:(16 * (y / 16) ^^^ (y % 16)) % 16=y % 16:=by
  have:=Nat.xor_mod_two_pow (a:=16 * (y / 16)) (b:=y % 16) (n:=4)
  rw [show (2:Nat) ^ 4=16 from rfl] at this
  rw [this,show 16 * (y / 16) % 16=0 by omega,Nat.zero_xor]
  omega
 generalize 16 * (y / 16) ^^^ (y % 16)=z at *
 omega
theorem halfs_nib (y:Nat):halfs 4 y=nib y:=by
 have h:=halfs_xor (16 * (y / 16)) (y % 16) 4
 rw [← split16] at h
 rw [h,halfs_16,halfs_low _ (by omega)]
 rfl
theorem halfs_add (y:Nat):∀ a b,halfs (a+b) y=halfs a (halfs b y)
 | 0,b=>by rw [Nat.zero_add];rfl
 | a+1,b=>by
  rw [show a+1+b=(a+b)+1 by omega]
  show half1 (halfs (a+b) y)=half1 (halfs a (halfs b y))
  rw [halfs_add y a b]
theorem halfs_8 (r:Nat) (x:UInt8):halfs 8 (r ^^^ x.toNat)=stepC r x:=by
 rw [show (8:Nat)=4+4 from rfl,halfs_add,halfs_nib,halfs_nib]
 rfl
theorem inR_step {r x y k:Nat} (h:r ^^^ x=halfs k y):inR r (x % 2) ^^^ (x / 2)=halfs (k+1) y:=by
 show _=half1 (halfs k y)
 rw [← h]
 unfold half1 inR
 rw [xor_half,xor_low]
 rcases (show r % 2=0∨r % 2=1 by omega) with h | h <;> rcases (show x % 2=0∨x % 2=1 by omega) with k | k <;> rw [h,k] <;> simp only [Nat.xor_self,Nat.xor_zero,Nat.zero_xor,if_true,if_false,Nat.zero_ne_one,Nat.one_ne_zero]
 ·rw [Nat.xor_assoc,Nat.xor_assoc,Nat.xor_comm (x / 2)]
 ·rw [Nat.xor_assoc,Nat.xor_assoc,Nat.xor_comm (x / 2)]
theorem inR_lt {r b:Nat} (h:r < 4294967296):inR r b < 4294967296:=by
 unfold inR
 split
 ·omega
 ·exact Nat.xor_lt_two_pow (n:=32) (show r / 2 < 2 ^ 32 by omega) (by decide)
end
section
theorem rin_any (r b:Nat) (w:World) (hr:r < 4294967296) (hb:b < 2):Calls Tryz.prog 217 #[.int .u32 (r:Int),.int .u32 (b:Int)] w fun e w'=>e=.returned (.int .u32 (inR r b:Nat))∧w=w':=by
 have hx:=u32_xor_nat (r / 2) 2197175160 (by omega) (by decide)
 rw [show ((r / 2:Nat):Int)=(r:Int) / 2 by omega] at hx
 obtain ⟨p,hp,hp2⟩:∃ p:Nat,r % 2=p∧p < 2:=⟨_,rfl,by omega⟩
 have e1:(r:Int) % 2=(p:Int):=by omega
 have e2:(r:Int).tmod 2=(p:Int):=by rw [Int.tmod_eq_emod_of_nonneg (by omega)];exact e1
 have E2:=Lib.hid e2
 unfold inR
 rw [hp]
 by_cases h:p=b
 ·subst h
  rw [if_pos rfl]
  clear hp hx e2
  go_enter func217,ntmps217
  go_wp2
  go_ret
  exact ⟨ret_int (by omega),rfl⟩
 ·rw [if_neg h]
  have hne:((p:Int)==(b:Int))=false:=by rw [beq_eq_false_iff_ne];omega
  have HX:=Lib.hid hx
  clear hp h hx e2
  go_enter func217,ntmps217
  go_wp2
  go_ret
  exact ⟨ret_int HX.out,rfl⟩
theorem u32_flip {r:Nat} (h:r < 4294967296):((r ^^^ ones:Nat):Int)=4294967295 - (r:Int):=by
 have e:r ^^^ ones=2 ^ 32 - (r+1):=by
  apply Nat.eq_of_testBit_eq
  intro i
  rw [Nat.testBit_two_pow_sub_succ (by omega),Nat.testBit_xor,show ones=2 ^ 32 - 1 from rfl,Nat.testBit_two_pow_sub_one]
  by_cases hi:i < 32
  ·simp [hi]
  ·have:r.testBit i=false:=Nat.testBit_lt_two_pow (Nat.lt_of_lt_of_le (show r < 2 ^ 32 by omega) (Nat.pow_le_pow_right (by decide) (by omega)))
   simp [hi,this]
 rw [e]
 omega
theorem runC_snoc2 (r:Nat) (l:List UInt8) (j:Nat) (h:j < l.length):runC r (l.take (j+1))=stepC (runC r (l.take j)) l[j]:=by
 rw [List.take_succ_eq_append_getElem h,runC_app]
 rfl
theorem rextend_any (a:Option Addr) (cap:Nat) (l:List UInt8) (w:World) (hs:SlB w a cap l):Calls Tryz.prog 190 #[.int .u32 0,.slice a l.length cap] w fun e w'=>e=.returned (.int .u32 (crcS l:Nat))∧w=w':=by
 have hmx:=hs.max
 have hle:=hs.le
 unfold maxLen at hmx
 obtain ⟨z,hz⟩:∃ z,crcS l=z:=⟨_,rfl⟩
 rw [hz]
 have HZ:=Lib.hid hz
 clear hz
 go_enter func190,ntmps190
 refine seqH fun K HK=>?_
 go_wp2
 refine HK.out _ _ ?_
 clear HK
 refine seqH fun K HK=>?_
 go_wp2
 refine HK.out _ _ ?_
 clear HK
 refine seqH fun K HK=>?_
 go_wp2_with fail
 go_loopw [6,5,7,8] (fun i r _ _ wr=>∃ j:Nat,j≤l.length∧i=.int .i64 (j:Nat)∧r=.int .u32 (runC ones (l.take j):Nat)∧wr=w) (fun i _ _ _ _=>l.length - (intOf i).toNat)
 case atStart=>exact ⟨0,by omega,rfl,rfl,rfl⟩
 case round=>
  obtain ⟨j,hj,rfl,rfl,rfl⟩:=hrel
  have hlt0:=runC_lt (l.take j) (r:=ones) (by decide)
  by_cases hlt:j < l.length
  case neg=>
   obtain rfl:j=l.length:=by omega
   rw [List.take_length] at hlt0 ⊢
   have hfl:=u32_flip hlt0
   have hcr:z=runC ones l ^^^ ones:=by rw [← HZ.out];rfl
   subst hcr
   have HFL:=Lib.hid hfl
   clear hfl HZ
   generalize runC ones l=r at *
   go_wp2
   refine HK.out _ _ ?_
   clear HK
   go_wp2
   go_ret
   exact ⟨ret_int (by rw [HFL.out]),rfl⟩
  case pos=>
   obtain ⟨b,off,rfl,hc⟩:=hs.row.byte hlt
   have hsn:=Lib.hid (runC_snoc2 ones l j hlt)
   generalize l[j]=x at *
   have hx:=x.toNat_lt
   generalize runC ones (l.take j)=r at *
   refine seqH fun K HK=>?_
   go_wp2
   refine HK.out _ _ ?_
   clear HK
   refine wp_seq_k (fun K2 hK2=>?_)
   have HK2:=Lib.hid hK2
   clear hK2
   refine wp_block ?_
   refine seqH fun K HK=>?_
   go_wp2
   refine HK.out _ _ ?_
   clear HK
   refine seqH fun K HK=>?_
   go_wp2
   refine HK.out _ _ ?_
   clear HK
   go_wp2_with fail
   go_loopw [8,5,7] (fun i rr xx wq=>∃ k rk xk:Nat,k≤8∧i=.int .i64 (k:Nat)∧rr=.int .u32 (rk:Nat)∧xx=.int .u32 (xk:Nat)∧rk < 4294967296∧xk < 256∧Hid (xk < 2 ^ (8 - k))∧Hid (rk ^^^ xk=halfs k (r ^^^ x.toNat))∧wq=wr) (fun i _ _ _=>8 - (intOf i).toNat)
   case atStart=>exact ⟨0,r,x.toNat,by omega,rfl,rfl,rfl,hlt0,by omega,Lib.hid (by simpa using hx),Lib.hid rfl,rfl⟩
   case round=>
    obtain ⟨k,rk,xk,hk,rfl,rfl,rfl,hrk,hxk,hxp,hst,rfl⟩:=hrel
    by_cases hk8:k < 8
    case pos=>
     have hin:=rin_any rk (xk % 2) wr hrk (by omega)
     have hst2:=Lib.hid (inR_step hst.out)
     have hlt2:=inR_lt (b:=xk % 2) hrk
     have hxp2:=Lib.hid (show xk / 2 < 2 ^ (8 - (k+1)) by
      have h1:=hxp.out
      rw [show 8 - k=8 - (k+1)+1 by omega,Nat.pow_succ] at h1
      omega)
     obtain ⟨p,hp,hp2⟩:∃ p:Nat,xk % 2=p∧p < 2:=⟨_,rfl,by omega⟩
     rw [hp] at hin hst2 hlt2
     have e1:(xk:Int) % 2=(p:Int):=by omega
     have e2:(xk:Int).tmod 2=(p:Int):=by rw [Int.tmod_eq_emod_of_nonneg (by omega)];exact e1
     clear hp hst hxp
     generalize inR rk p=r2 at *
     go_wp2_with (go_at_call 217;refine hin.mono ?_;rintro e w3 ⟨rfl,rfl⟩)
     go_roundw
     case rel=>exact ⟨k+1,r2,xk / 2,by omega,by go_num,rfl,by first | rfl | (exact int_eq (by omega)),hlt2,by omega,hxp2,hst2,by first | trivial | rfl⟩
     case measure=>simp [intOf];omega
    case neg=>
     obtain rfl:k=8:=by omega
     have hx0:xk=0:=by have:=hxp.out;simpa using this
     subst hx0
     have hfin:=Lib.hid (show rk=runC ones (l.take (j+1)) by
      rw [hsn.out,← halfs_8,← hst.out,Nat.xor_zero])
     clear hxp hst
     go_wp2
     (try simp only [Exit.inBlock,Exit.then])
     refine HK2.out _ _ ?_
     clear HK2
     go_wp2
     go_roundw
     case rel=>exact ⟨j+1,by omega,by go_num,by rw [hfin.out],by first | trivial | rfl⟩
     case measure=>simp [intOf];omega
theorem rsum_any (a:Option Addr) (cap:Nat) (l:List UInt8) (w:World) (hs:SlB w a cap l):Calls Tryz.prog 138 #[.slice a l.length cap] w fun e w'=>e=.returned (.int .u32 (crcS l:Nat))∧w=w':=by
 go_enter func138,ntmps138
 go_wp2_with (go_at_call 190;refine (rextend_any a cap l _ hs).mono ?_;rintro e w1 ⟨rfl,rfl⟩)
 go_ret
 exact ⟨rfl,rfl⟩
end
section
def widthB (k:Int):Bool:=k==1 || k==2 || k==4 || k==6
theorem width_any (k:Int) (w:World):Calls Tryz.prog 105 #[.int .i64 k] w fun e w'=>e=.returned (.bool (widthB k))∧w=w':=by
 by_cases h:k=1∨k=2∨k=4∨k=6
 ·rcases h with rfl | rfl | rfl | rfl
  all_goals
   go_enter func105,ntmps105
   go_wp2
   go_ret
   exact ⟨rfl,rfl⟩
 ·have h1:(k==1)=false:=by rw [beq_eq_false_iff_ne];omega
  have h2:(k==2)=false:=by rw [beq_eq_false_iff_ne];omega
  have h3:(k==4)=false:=by rw [beq_eq_false_iff_ne];omega
  have h4:(k==6)=false:=by rw [beq_eq_false_iff_ne];omega
  go_enter func105,ntmps105
  go_wp2
  go_ret
  exact ⟨ret_bool (by simp [widthB,h1,h2,h3,h4]),rfl⟩
theorem widthB_many (k:Int):widthB k=!(manyI k==0):=by
 unfold widthB manyI
 by_cases h1:k=1;· subst h1;rfl
 by_cases h2:k=2;· subst h2;rfl
 by_cases h3:k=4;· subst h3;rfl
 by_cases h4:k=6;· subst h4;rfl
 simp [h1,h2,h3,h4]
theorem fits_pow {kk nn:Nat} (hk:kk=1∨kk=2∨kk=4∨kk=6):fitsB kk nn=(((nn / 256 ^ kk:Nat):Int)==0):=by
 have h:(((nn / 256 ^ kk:Nat):Int)==0)=decide (nn < 256 ^ kk):=by
  rw [Bool.eq_iff_iff]
  simp only [beq_iff_eq,decide_eq_true_eq]
  rw [show (((nn / 256 ^ kk:Nat):Int)=0↔nn / 256 ^ kk=0) from by omega,Nat.div_eq_zero_iff]
  constructor
  ·rintro (h | h)
   ·have:=Nat.pow_pos (n:=kk) (show 0 < 256 by omega)
    omega
   ·exact h
  ·intro h;exact .inr h
 rw [h]
 unfold fitsB manyI
 rcases hk with rfl | rfl | rfl | rfl
 all_goals
  rw [Bool.eq_iff_iff]
  simp
  try omega
theorem rfits_any (k n:Int) (w:World) (hn:n≤9223372036854775807):Calls Tryz.prog 122 #[.int .i64 k,.int .i64 n] w fun e w'=>e=.returned (.bool (fitsB k n))∧w=w':=by
 by_cases hk:k=1∨k=2∨k=4∨k=6
 ·have hw:widthB k=true:=by rcases hk with rfl | rfl | rfl | rfl <;> rfl
  have HW:=Lib.hid hw
  clear hw
  by_cases h0:0≤n
  ·obtain ⟨kk,rfl⟩:∃ kk:Nat,k=kk:=⟨k.toNat,by omega⟩
   obtain ⟨nn,rfl⟩:∃ nn:Nat,n=nn:=⟨n.toNat,by omega⟩
   have hk6:kk≤6:=by omega
   rw [fits_pow (show kk=1∨kk=2∨kk=4∨kk=6 by omega)]
   go_enter func122,ntmps122
   refine seqH fun K HK=>?_
   go_wp2
   refine HK.out _ _ ?_
   clear HK
   refine seqH fun K HK=>?_
   go_wp2_with (go_at_call 105;refine (width_any _ _).mono ?_;rintro e w' ⟨rfl,rfl⟩;rw [HW.out])
   refine HK.out _ _ ?_
   clear HK
   refine wp_seq_k (fun K hK=>?_)
   go_cut [1] (fun n wx=>n=.int .i64 ((nn / 256 ^ kk:Nat):Int)∧wx=w)
   case first=>
    go_wp2_with fail
    go_loopw [1,5] (fun n i wr=>∃ j:Nat,j≤kk∧i=.int .i64 j∧n=.int .i64 ((nn / 256 ^ j:Nat):Int)∧wr=w) (fun _ i _=>kk - (intOf i).toNat)
    case atStart=>exact ⟨0,by omega,rfl,by simp,rfl⟩
    case round=>
     obtain ⟨j,hj,rfl,rfl,rfl⟩:=hrel
     have hq:nn / 256 ^ (j+1)=nn / 256 ^ j / 256:=by rw [Nat.pow_succ,Nat.div_div_eq_div_mul]
     have hqn:nn / 256 ^ j≤nn:=Nat.div_le_self _ _
     by_cases hlt:j < kk
     ·generalize nn / 256 ^ j=q at *
      have HQ:=Lib.hid hq
      clear hq
      go_wp2
      refine ⟨⟨j+1,by omega,by go_num,?_,by first | trivial | rfl⟩,by simp [intOf];omega⟩
      rw [HQ.out]
      exact int_eq (by omega)
     ·obtain rfl:j=kk:=by omega
      clear hq
      generalize nn / 256 ^ j=q at *
      go_wp2
      go_meet
      exact ⟨rfl,by first | trivial | rfl⟩
   obtain ⟨rfl,rfl⟩:=hcut
   refine hK _ _ ?_;clear hK
   generalize nn / 256 ^ kk=q at *
   go_wp2
   go_ret
   exact ⟨rfl,rfl⟩
  ·go_enter func122,ntmps122
   go_wp2_with (go_at_call 105;refine (width_any _ _).mono ?_;rintro e w' ⟨rfl,rfl⟩;rw [HW.out])
   go_ret
   exact ⟨ret_bool (by unfold fitsB;rw [decide_eq_false (by omega)];rfl),rfl⟩
 ·have hm:manyI k=0:=by unfold manyI;rw [if_neg (by omega),if_neg (by omega),if_neg (by omega),if_neg (by omega)]
  have hw:widthB k=false:=by rw [widthB_many,hm];rfl
  have HW:=Lib.hid hw
  have hf:fitsB k n=false:=by unfold fitsB;rw [hm];simp
  have HF:=Lib.hid hf
  clear hw hm hf
  go_enter func122,ntmps122
  go_wp2_with (go_at_call 105;refine (width_any _ _).mono ?_;rintro e w' ⟨rfl,rfl⟩;rw [HW.out])
  go_ret
  exact ⟨ret_bool HF.out.symm,rfl⟩
end
section
theorem rput_any (k n:Int) (w:World) (hn64:n≤9223372036854775807):Calls Tryz.prog 52 #[.int .i64 k,.int .i64 n] w fun e w'=>OwnBytes w.heap.size (oputL k n) (oputE k n) e w'∧Below w.heap.size w w':=by
 unfold oputL oputE
 cases hf:fitsB k n
 ·rw [if_neg (by simp),if_neg (by simp)]
  have HF:=Lib.hid hf
  clear hf
  go_enter func52,ntmps52
  go_wp2_with (go_at_call 122;refine (rfits_any _ _ _ hn64).mono ?_;rintro e w1 ⟨rfl,rfl⟩;rw [HF.out])
  go_ret2
  exact ⟨⟨.slice none 0 0,rfl,World.ownsRow_nil _ _ _ _⟩,Below.refl _ _⟩
 ·rw [if_pos rfl,if_pos rfl]
  obtain ⟨hk,h0,hn⟩:=fits_w hf
  have HF:=Lib.hid hf
  clear hf
  obtain ⟨kk,rfl⟩:∃ kk:Nat,k=kk:=⟨k.toNat,by omega⟩
  obtain ⟨nn,rfl⟩:∃ nn:Nat,n=nn:=⟨n.toNat,by omega⟩
  simp only [Int.toNat_natCast]
  have hk6:kk≤6:=by omega
  have hn48:=(manyI_bd kk).2
  go_enter func52,ntmps52
  refine seqH fun K HK=>?_
  go_wp2
  refine HK.out _ _ ?_
  clear HK
  refine seqH fun K HK=>?_
  go_wp2_with (go_at_call 122;refine (rfits_any _ _ _ hn64).mono ?_;rintro e w1 ⟨rfl,rfl⟩;rw [HF.out])
  refine HK.out _ _ ?_
  clear HK
  refine seqH fun K HK=>?_
  go_wp2
  refine HK.out _ _ ?_
  clear HK
  refine wp_seq_k (fun K hK=>?_)
  go_cut [6] (fun out wx=>wx.ownsRow w.heap.size 5 1 out kk (bys (le kk nn))∧Below w.heap.size w wx)
  case first=>
   go_wp2_with fail
   go_loopw [1,6,7] (fun n out i wr=>∃ j:Nat,j≤kk∧i=.int .i64 j∧n=.int .i64 ((nn / 256 ^ j:Nat):Int)∧wr.ownsRow w.heap.size 5 1 out j (bys (le j nn))∧Below w.heap.size w wr) (fun _ _ i _=>kk - (intOf i).toNat)
   case atStart=>exact ⟨0,by omega,rfl,by simp,World.ownsRow_nil _ _ _ _,Below.refl _ _⟩
   case round=>
    obtain ⟨j,hj,rfl,rfl,hown,hb⟩:=hrel
    have hq:nn / 256 ^ (j+1)=nn / 256 ^ j / 256:=by rw [Nat.pow_succ,Nat.div_div_eq_div_mul]
    have hqn:nn / 256 ^ j≤nn:=Nat.div_le_self _ _
    have hsn:=le_snoc j nn
    have hbs:=hb.size
    by_cases hlt:j < kk
    ·generalize nn / 256 ^ j=q at *
     have HQ:=Lib.hid hq
     have HS:=Lib.hid hsn
     clear hq hsn
     go_wp2_with (at_builtin;refine wpList_append1 rfl _ _ 37 5 elByte rfl w.heap.size _ _ _ rfl hown #[.int .u8 ((q:Int) % 256)] rfl (by simp;rfl) _ rfl (by omega) (by omega) (by omega) ?_)
     intro v' w' hown' hb' _
     have hb2:=hb.trans hb'
     go_wp2
     refine ⟨⟨j+1,by omega,by go_num,?_,?_,hb2⟩,by simp [intOf];omega⟩
     ·rw [HQ.out]
      exact int_eq (by omega)
     ·rw [HS.out,bys_app]
      have e1:bys [UInt8.ofNat (q % 256)]=[.int .u8 ((q:Int) % 256)]:=by simp only [bys,List.map_cons,List.map_nil,byv_low]
      rw [e1]
      simpa using hown'
    ·obtain rfl:j=kk:=by omega
     clear hq hsn
     generalize nn / 256 ^ j=q at *
     go_wp2
     go_meet
     exact ⟨hown,hb⟩
  obtain ⟨hown2,hb3⟩:=hcut
  refine hK _ _ ?_;clear hK
  go_wp2
  go_ret2
  refine ⟨⟨_,rfl,?_⟩,hb3⟩
  rw [le_len]
  exact hown2
theorem rget_bad (a:Option Addr) (len cap:Nat) (at_ k:Int) (w:World) (hm:len≤maxLen) (h:getE len at_ k≠0) :
  Calls Tryz.prog 39 #[.slice a len cap,.int .i64 at_,.int .i64 k] w fun e w'=>e=.returned (.tuple #[.int .i64 0,.int .i64 0,.int .i64 (getE len at_ k)])∧w=w':=by
 unfold maxLen at hm
 unfold getE pieceE at h ⊢
 have hwb:=widthB_many k
 by_cases h0:manyI k=0
 ·rw [if_pos h0]
  rw [h0] at hwb
  have HW:=Lib.hid hwb
  clear hwb h0 h
  go_enter func39,ntmps39
  go_wp2_with (go_at_call 105;refine (width_any _ _).mono ?_;rintro e w' ⟨rfl,rfl⟩;rw [HW.out])
  go_ret3
  exact ⟨rfl,rfl⟩
 ·rw [if_neg h0] at h ⊢
  have hk:=many_w h0
  have hw:widthB k=true:=by rw [hwb];simp [h0]
  have HW:=Lib.hid hw
  clear hwb hw h0
  by_cases h1:at_ < 0
  ·rw [if_pos (.inl h1)]
   go_enter func39,ntmps39
   go_wp2_with (go_at_call 105;refine (width_any _ _).mono ?_;rintro e w' ⟨rfl,rfl⟩;rw [HW.out])
   go_ret3
   exact ⟨rfl,rfl⟩
  ·by_cases h2:(len:Int) < at_
   ·rw [if_pos (.inr h2)]
    go_enter func39,ntmps39
    go_wp2_with (go_at_call 105;refine (width_any _ _).mono ?_;rintro e w' ⟨rfl,rfl⟩;rw [HW.out])
    go_ret3
    exact ⟨rfl,rfl⟩
   ·rw [if_neg (by omega)] at h ⊢
    by_cases h3:(len:Int) - at_ < k
    ·rw [if_pos h3]
     go_enter func39,ntmps39
     go_wp2_with (go_at_call 105;refine (width_any _ _).mono ?_;rintro e w' ⟨rfl,rfl⟩;rw [HW.out])
     go_ret3
     exact ⟨rfl,rfl⟩
    ·rw [if_neg h3] at h
     exact absurd rfl h
theorem copy_any (a:Option Addr) (cap:Nat) (l:List UInt8) (w:World) (hs:SlB w a cap l) (hl:l.length≤1000000) :
  Calls Tryz.prog 10 #[.slice a l.length cap] w fun e w'=>OwnRes w.heap.size 5 1 l.length (bys l) e w'∧Below w.heap.size w w':=by
 go_enter func10,ntmps10
 have hown:=World.ownsRow_nil w w.heap.size 5 1
 have hmx:=hs.max
 unfold maxLen at hmx
 go_wp2_with (at_builtin;refine wpList_append_row rfl _ _ 37 5 elByte rfl w.heap.size _ _ _ rfl hown a l.length cap (bys l) rfl (by rw [bys_len];simp) hs.row bys_one (by omega) (by omega) (Nat.le_refl _) ?_)
 intro v' w' ho hb
 go_wp2
 go_ret
 refine ⟨⟨_,rfl,?_⟩,hb⟩
 simpa using ho
end
section
theorem rplaces_any (n:Int) (w:World):Calls Tryz.prog 183 #[.int .i64 n] w fun e w'=>e=.returned (.int .i64 (placesN n))∧w=w':=by
 by_cases h1:n=1
 ·subst h1
  go_enter func183,ntmps183
  go_wp2
  go_ret
  exact ⟨rfl,rfl⟩
 by_cases h2:n=2
 ·subst h2
  go_enter func183,ntmps183
  go_wp2
  go_ret
  exact ⟨rfl,rfl⟩
 by_cases h3:n=3
 ·subst h3
  go_enter func183,ntmps183
  go_wp2
  go_ret
  exact ⟨rfl,rfl⟩
 by_cases h4:n=4
 ·subst h4
  go_enter func183,ntmps183
  go_wp2
  go_ret
  exact ⟨rfl,rfl⟩
 by_cases h5:n=5
 ·subst h5
  go_enter func183,ntmps183
  go_wp2
  go_ret
  exact ⟨rfl,rfl⟩
 have e:placesN n=0:=by unfold placesN;rw [if_neg h1,if_neg h2,if_neg h3,if_neg h4,if_neg h5]
 rw [e]
 have i1:(n==1)=false:=by rw [beq_eq_false_iff_ne];exact h1
 have i2:(n==2)=false:=by rw [beq_eq_false_iff_ne];exact h2
 have i3:(n==3)=false:=by rw [beq_eq_false_iff_ne];exact h3
 have i4:(n==4)=false:=by rw [beq_eq_false_iff_ne];exact h4
 have i5:(n==5)=false:=by rw [beq_eq_false_iff_ne];exact h5
 clear h1 h2 h3 h4 h5 e
 go_enter func183,ntmps183
 go_wp2
 go_ret
 exact ⟨rfl,rfl⟩
theorem may_no {t:Tg} (h:t.rep < 0∨6 < t.rep∨t.reg < 1∨5 < t.reg∨t.pla < 0∨placesN t.reg≤t.pla):mayTg t=false:=by
 rw [Bool.eq_false_iff]
 intro hm
 obtain ⟨a1,a2,a3,a4,_⟩:=mayTg_parts hm
 obtain ⟨b1,b2,_⟩:=mayTg_small hm
 omega
theorem rtmay_any (t:Tg) (w:World):Calls Tryz.prog 189 #[tgV t] w fun e w'=>e=.returned (.bool (mayTg t))∧Below w.heap.size w w':=by
 by_cases a1:t.rep < 0
 case pos=>
  have z1:=decide_eq_true a1
  rw [show mayTg t=false from may_no (.inl a1)]
  go_enter func189,ntmps189
  refine seqH fun K HK=>?_
  go_wp2
  refine HK.out _ _ ?_
  clear HK
  have hbw:=blw w (Obj.cells #[.int .i64 t.rep,.int .i64 t.reg,.int .i64 t.pla,.int .i64 t.idx,.int .i64 t.inc] 39)
  have hcs:=heap_alloc_new w (Obj.cells #[.int .i64 t.rep,.int .i64 t.reg,.int .i64 t.pla,.int .i64 t.idx,.int .i64 t.inc] 39)
  have c0:=under_cell (blk_cell hcs 0 _ rfl)
  have c1:=under_cell (blk_cell hcs 1 _ rfl)
  have c2:=under_cell (blk_cell hcs 2 _ rfl)
  have c3:=under_cell (blk_cell hcs 3 _ rfl)
  have c4:=under_cell (blk_cell hcs 4 _ rfl)
  clear hcs
  have hqs:=hbw.size
  generalize w.alloc (Obj.cells #[.int .i64 t.rep,.int .i64 t.reg,.int .i64 t.pla,.int .i64 t.idx,.int .i64 t.inc] 39)=wq at *
  generalize w.heap.size=q at *
  refine seqH fun K HK=>?_
  refine wp_seq_k (fun K2 hK2=>?_)
  have HK2:=Lib.hid hK2
  clear hK2
  refine wp_region_under (by kernel_rfl) (by kernel_rfl) ?_
  repeat (first | go_big_quiet_step ((first
   | (go_at_call 183;exact under_same (rplaces_any _ _)))) | ((with_reducible refine wpQuiet_skip ?_ ?_) ;(focus rfl);(try simp only [Act.put,qa1,qa2,qa3])))
  refine wpQuiet_nil ?_
  intro _ hw'
  obtain ⟨xU,hw''⟩:=hw'
  subst hw''
  have hbU:=under_below wq xU
  refine HK2.out _ _ ?_
  clear HK2
  go_wp2
  go_ret
  exact ⟨rfl,hbw.trans (hbU.mono hqs)⟩
 have z1:=decide_eq_false a1
 by_cases a2:6 < t.rep
 case pos=>
  have z2:=decide_eq_true a2
  rw [show mayTg t=false from may_no (.inr (.inl a2))]
  go_enter func189,ntmps189
  refine seqH fun K HK=>?_
  go_wp2
  refine HK.out _ _ ?_
  clear HK
  have hbw:=blw w (Obj.cells #[.int .i64 t.rep,.int .i64 t.reg,.int .i64 t.pla,.int .i64 t.idx,.int .i64 t.inc] 39)
  have hcs:=heap_alloc_new w (Obj.cells #[.int .i64 t.rep,.int .i64 t.reg,.int .i64 t.pla,.int .i64 t.idx,.int .i64 t.inc] 39)
  have c0:=under_cell (blk_cell hcs 0 _ rfl)
  have c1:=under_cell (blk_cell hcs 1 _ rfl)
  have c2:=under_cell (blk_cell hcs 2 _ rfl)
  have c3:=under_cell (blk_cell hcs 3 _ rfl)
  have c4:=under_cell (blk_cell hcs 4 _ rfl)
  clear hcs
  have hqs:=hbw.size
  generalize w.alloc (Obj.cells #[.int .i64 t.rep,.int .i64 t.reg,.int .i64 t.pla,.int .i64 t.idx,.int .i64 t.inc] 39)=wq at *
  generalize w.heap.size=q at *
  refine seqH fun K HK=>?_
  refine wp_seq_k (fun K2 hK2=>?_)
  have HK2:=Lib.hid hK2
  clear hK2
  refine wp_region_under (by kernel_rfl) (by kernel_rfl) ?_
  repeat (first | go_big_quiet_step ((first
   | (go_at_call 183;exact under_same (rplaces_any _ _)))) | ((with_reducible refine wpQuiet_skip ?_ ?_) ;(focus rfl);(try simp only [Act.put,qa1,qa2,qa3])))
  refine wpQuiet_nil ?_
  intro _ hw'
  obtain ⟨xU,hw''⟩:=hw'
  subst hw''
  have hbU:=under_below wq xU
  refine HK2.out _ _ ?_
  clear HK2
  go_wp2
  go_ret
  exact ⟨rfl,hbw.trans (hbU.mono hqs)⟩
 have z2:=decide_eq_false a2
 by_cases a3:t.reg < 1
 case pos=>
  have z3:=decide_eq_true a3
  rw [show mayTg t=false from may_no (.inr (.inr (.inl a3)))]
  go_enter func189,ntmps189
  refine seqH fun K HK=>?_
  go_wp2
  refine HK.out _ _ ?_
  clear HK
  have hbw:=blw w (Obj.cells #[.int .i64 t.rep,.int .i64 t.reg,.int .i64 t.pla,.int .i64 t.idx,.int .i64 t.inc] 39)
  have hcs:=heap_alloc_new w (Obj.cells #[.int .i64 t.rep,.int .i64 t.reg,.int .i64 t.pla,.int .i64 t.idx,.int .i64 t.inc] 39)
  have c0:=under_cell (blk_cell hcs 0 _ rfl)
  have c1:=under_cell (blk_cell hcs 1 _ rfl)
  have c2:=under_cell (blk_cell hcs 2 _ rfl)
  have c3:=under_cell (blk_cell hcs 3 _ rfl)
  have c4:=under_cell (blk_cell hcs 4 _ rfl)
  clear hcs
  have hqs:=hbw.size
  generalize w.alloc (Obj.cells #[.int .i64 t.rep,.int .i64 t.reg,.int .i64 t.pla,.int .i64 t.idx,.int .i64 t.inc] 39)=wq at *
  generalize w.heap.size=q at *
  refine seqH fun K HK=>?_
  refine wp_seq_k (fun K2 hK2=>?_)
  have HK2:=Lib.hid hK2
  clear hK2
  refine wp_region_under (by kernel_rfl) (by kernel_rfl) ?_
  repeat (first | go_big_quiet_step ((first
   | (go_at_call 183;exact under_same (rplaces_any _ _)))) | ((with_reducible refine wpQuiet_skip ?_ ?_) ;(focus rfl);(try simp only [Act.put,qa1,qa2,qa3])))
  refine wpQuiet_nil ?_
  intro _ hw'
  obtain ⟨xU,hw''⟩:=hw'
  subst hw''
  have hbU:=under_below wq xU
  refine HK2.out _ _ ?_
  clear HK2
  go_wp2
  go_ret
  exact ⟨rfl,hbw.trans (hbU.mono hqs)⟩
 have z3:=decide_eq_false a3
 by_cases a4:5 < t.reg
 case pos=>
  have z4:=decide_eq_true a4
  rw [show mayTg t=false from may_no (.inr (.inr (.inr (.inl a4))))]
  go_enter func189,ntmps189
  refine seqH fun K HK=>?_
  go_wp2
  refine HK.out _ _ ?_
  clear HK
  have hbw:=blw w (Obj.cells #[.int .i64 t.rep,.int .i64 t.reg,.int .i64 t.pla,.int .i64 t.idx,.int .i64 t.inc] 39)
  have hcs:=heap_alloc_new w (Obj.cells #[.int .i64 t.rep,.int .i64 t.reg,.int .i64 t.pla,.int .i64 t.idx,.int .i64 t.inc] 39)
  have c0:=under_cell (blk_cell hcs 0 _ rfl)
  have c1:=under_cell (blk_cell hcs 1 _ rfl)
  have c2:=under_cell (blk_cell hcs 2 _ rfl)
  have c3:=under_cell (blk_cell hcs 3 _ rfl)
  have c4:=under_cell (blk_cell hcs 4 _ rfl)
  clear hcs
  have hqs:=hbw.size
  generalize w.alloc (Obj.cells #[.int .i64 t.rep,.int .i64 t.reg,.int .i64 t.pla,.int .i64 t.idx,.int .i64 t.inc] 39)=wq at *
  generalize w.heap.size=q at *
  refine seqH fun K HK=>?_
  refine wp_seq_k (fun K2 hK2=>?_)
  have HK2:=Lib.hid hK2
  clear hK2
  refine wp_region_under (by kernel_rfl) (by kernel_rfl) ?_
  repeat (first | go_big_quiet_step ((first
   | (go_at_call 183;exact under_same (rplaces_any _ _)))) | ((with_reducible refine wpQuiet_skip ?_ ?_) ;(focus rfl);(try simp only [Act.put,qa1,qa2,qa3])))
  refine wpQuiet_nil ?_
  intro _ hw'
  obtain ⟨xU,hw''⟩:=hw'
  subst hw''
  have hbU:=under_below wq xU
  refine HK2.out _ _ ?_
  clear HK2
  go_wp2
  go_ret
  exact ⟨rfl,hbw.trans (hbU.mono hqs)⟩
 have z4:=decide_eq_false a4
 by_cases a5:t.pla < 0
 case pos=>
  have z5:=decide_eq_true a5
  rw [show mayTg t=false from may_no (.inr (.inr (.inr (.inr (.inl a5)))))]
  go_enter func189,ntmps189
  refine seqH fun K HK=>?_
  go_wp2
  refine HK.out _ _ ?_
  clear HK
  have hbw:=blw w (Obj.cells #[.int .i64 t.rep,.int .i64 t.reg,.int .i64 t.pla,.int .i64 t.idx,.int .i64 t.inc] 39)
  have hcs:=heap_alloc_new w (Obj.cells #[.int .i64 t.rep,.int .i64 t.reg,.int .i64 t.pla,.int .i64 t.idx,.int .i64 t.inc] 39)
  have c0:=under_cell (blk_cell hcs 0 _ rfl)
  have c1:=under_cell (blk_cell hcs 1 _ rfl)
  have c2:=under_cell (blk_cell hcs 2 _ rfl)
  have c3:=under_cell (blk_cell hcs 3 _ rfl)
  have c4:=under_cell (blk_cell hcs 4 _ rfl)
  clear hcs
  have hqs:=hbw.size
  generalize w.alloc (Obj.cells #[.int .i64 t.rep,.int .i64 t.reg,.int .i64 t.pla,.int .i64 t.idx,.int .i64 t.inc] 39)=wq at *
  generalize w.heap.size=q at *
  refine seqH fun K HK=>?_
  refine wp_seq_k (fun K2 hK2=>?_)
  have HK2:=Lib.hid hK2
  clear hK2
  refine wp_region_under (by kernel_rfl) (by kernel_rfl) ?_
  repeat (first | go_big_quiet_step ((first
   | (go_at_call 183;exact under_same (rplaces_any _ _)))) | ((with_reducible refine wpQuiet_skip ?_ ?_) ;(focus rfl);(try simp only [Act.put,qa1,qa2,qa3])))
  refine wpQuiet_nil ?_
  intro _ hw'
  obtain ⟨xU,hw''⟩:=hw'
  subst hw''
  have hbU:=under_below wq xU
  refine HK2.out _ _ ?_
  clear HK2
  go_wp2
  go_ret
  exact ⟨rfl,hbw.trans (hbU.mono hqs)⟩
 have z5:=decide_eq_false a5
 by_cases a6:placesN t.reg≤t.pla
 case pos=>
  have z6:=decide_eq_true a6
  rw [show mayTg t=false from may_no (.inr (.inr (.inr (.inr (.inr a6)))))]
  go_enter func189,ntmps189
  refine seqH fun K HK=>?_
  go_wp2
  refine HK.out _ _ ?_
  clear HK
  have hbw:=blw w (Obj.cells #[.int .i64 t.rep,.int .i64 t.reg,.int .i64 t.pla,.int .i64 t.idx,.int .i64 t.inc] 39)
  have hcs:=heap_alloc_new w (Obj.cells #[.int .i64 t.rep,.int .i64 t.reg,.int .i64 t.pla,.int .i64 t.idx,.int .i64 t.inc] 39)
  have c0:=under_cell (blk_cell hcs 0 _ rfl)
  have c1:=under_cell (blk_cell hcs 1 _ rfl)
  have c2:=under_cell (blk_cell hcs 2 _ rfl)
  have c3:=under_cell (blk_cell hcs 3 _ rfl)
  have c4:=under_cell (blk_cell hcs 4 _ rfl)
  clear hcs
  have hqs:=hbw.size
  generalize w.alloc (Obj.cells #[.int .i64 t.rep,.int .i64 t.reg,.int .i64 t.pla,.int .i64 t.idx,.int .i64 t.inc] 39)=wq at *
  generalize w.heap.size=q at *
  refine seqH fun K HK=>?_
  refine wp_seq_k (fun K2 hK2=>?_)
  have HK2:=Lib.hid hK2
  clear hK2
  refine wp_region_under (by kernel_rfl) (by kernel_rfl) ?_
  repeat (first | go_big_quiet_step ((first
   | (go_at_call 183;exact under_same (rplaces_any _ _)))) | ((with_reducible refine wpQuiet_skip ?_ ?_) ;(focus rfl);(try simp only [Act.put,qa1,qa2,qa3])))
  refine wpQuiet_nil ?_
  intro _ hw'
  obtain ⟨xU,hw''⟩:=hw'
  subst hw''
  have hbU:=under_below wq xU
  refine HK2.out _ _ ?_
  clear HK2
  go_wp2
  go_ret
  exact ⟨rfl,hbw.trans (hbU.mono hqs)⟩
 have z6:=decide_eq_false a6
 have e:mayTg t=(decide (0≤t.idx) && (decide (t.idx≤1099511627776) && (decide (1≤t.inc) && decide (t.inc≤1099511627776)))):=by
  unfold mayTg
  rw [decide_eq_true (show 0≤t.rep by omega),decide_eq_true (show t.rep≤6 by omega),decide_eq_true (show 0≤t.pla by omega),decide_eq_true (show t.pla < placesN t.reg by omega)]
  simp only [Bool.true_and]
 rw [e]
 clear e
 by_cases b1:0≤t.idx
 case neg=>
  go_enter func189,ntmps189
  refine seqH fun K HK=>?_
  go_wp2
  refine HK.out _ _ ?_
  clear HK
  have hbw:=blw w (Obj.cells #[.int .i64 t.rep,.int .i64 t.reg,.int .i64 t.pla,.int .i64 t.idx,.int .i64 t.inc] 39)
  have hcs:=heap_alloc_new w (Obj.cells #[.int .i64 t.rep,.int .i64 t.reg,.int .i64 t.pla,.int .i64 t.idx,.int .i64 t.inc] 39)
  have c0:=under_cell (blk_cell hcs 0 _ rfl)
  have c1:=under_cell (blk_cell hcs 1 _ rfl)
  have c2:=under_cell (blk_cell hcs 2 _ rfl)
  have c3:=under_cell (blk_cell hcs 3 _ rfl)
  have c4:=under_cell (blk_cell hcs 4 _ rfl)
  clear hcs
  have hqs:=hbw.size
  generalize w.alloc (Obj.cells #[.int .i64 t.rep,.int .i64 t.reg,.int .i64 t.pla,.int .i64 t.idx,.int .i64 t.inc] 39)=wq at *
  generalize w.heap.size=q at *
  refine seqH fun K HK=>?_
  refine wp_seq_k (fun K2 hK2=>?_)
  have HK2:=Lib.hid hK2
  clear hK2
  refine wp_region_under (by kernel_rfl) (by kernel_rfl) ?_
  repeat (first | go_big_quiet_step ((first
   | (go_at_call 183;exact under_same (rplaces_any _ _)))) | ((with_reducible refine wpQuiet_skip ?_ ?_) ;(focus rfl);(try simp only [Act.put,qa1,qa2,qa3])))
  refine wpQuiet_nil ?_
  intro _ hw'
  obtain ⟨xU,hw''⟩:=hw'
  subst hw''
  have hbU:=under_below wq xU
  refine HK2.out _ _ ?_
  clear HK2
  have d3:=c3 xU
  have d4:=c4 xU
  clear c0 c1 c2 c3 c4
  go_wp2
  refine HK.out _ _ ?_
  clear HK
  go_wp2
  go_ret
  exact ⟨by first | rfl | (refine ret_bool ?_;simp;omega) | (refine ret_bool ?_;simp [b1,b2,b3]),hbw.trans (hbU.mono hqs)⟩
 by_cases b2:t.idx≤1099511627776
 case neg=>
  go_enter func189,ntmps189
  refine seqH fun K HK=>?_
  go_wp2
  refine HK.out _ _ ?_
  clear HK
  have hbw:=blw w (Obj.cells #[.int .i64 t.rep,.int .i64 t.reg,.int .i64 t.pla,.int .i64 t.idx,.int .i64 t.inc] 39)
  have hcs:=heap_alloc_new w (Obj.cells #[.int .i64 t.rep,.int .i64 t.reg,.int .i64 t.pla,.int .i64 t.idx,.int .i64 t.inc] 39)
  have c0:=under_cell (blk_cell hcs 0 _ rfl)
  have c1:=under_cell (blk_cell hcs 1 _ rfl)
  have c2:=under_cell (blk_cell hcs 2 _ rfl)
  have c3:=under_cell (blk_cell hcs 3 _ rfl)
  have c4:=under_cell (blk_cell hcs 4 _ rfl)
  clear hcs
  have hqs:=hbw.size
  generalize w.alloc (Obj.cells #[.int .i64 t.rep,.int .i64 t.reg,.int .i64 t.pla,.int .i64 t.idx,.int .i64 t.inc] 39)=wq at *
  generalize w.heap.size=q at *
  refine seqH fun K HK=>?_
  refine wp_seq_k (fun K2 hK2=>?_)
  have HK2:=Lib.hid hK2
  clear hK2
  refine wp_region_under (by kernel_rfl) (by kernel_rfl) ?_
  repeat (first | go_big_quiet_step ((first
   | (go_at_call 183;exact under_same (rplaces_any _ _)))) | ((with_reducible refine wpQuiet_skip ?_ ?_) ;(focus rfl);(try simp only [Act.put,qa1,qa2,qa3])))
  refine wpQuiet_nil ?_
  intro _ hw'
  obtain ⟨xU,hw''⟩:=hw'
  subst hw''
  have hbU:=under_below wq xU
  refine HK2.out _ _ ?_
  clear HK2
  have d3:=c3 xU
  have d4:=c4 xU
  clear c0 c1 c2 c3 c4
  go_wp2
  refine HK.out _ _ ?_
  clear HK
  go_wp2
  go_ret
  exact ⟨by first | rfl | (refine ret_bool ?_;simp;omega) | (refine ret_bool ?_;simp [b1,b2,b3]),hbw.trans (hbU.mono hqs)⟩
 by_cases b3:1≤t.inc
 case neg=>
  go_enter func189,ntmps189
  refine seqH fun K HK=>?_
  go_wp2
  refine HK.out _ _ ?_
  clear HK
  have hbw:=blw w (Obj.cells #[.int .i64 t.rep,.int .i64 t.reg,.int .i64 t.pla,.int .i64 t.idx,.int .i64 t.inc] 39)
  have hcs:=heap_alloc_new w (Obj.cells #[.int .i64 t.rep,.int .i64 t.reg,.int .i64 t.pla,.int .i64 t.idx,.int .i64 t.inc] 39)
  have c0:=under_cell (blk_cell hcs 0 _ rfl)
  have c1:=under_cell (blk_cell hcs 1 _ rfl)
  have c2:=under_cell (blk_cell hcs 2 _ rfl)
  have c3:=under_cell (blk_cell hcs 3 _ rfl)
  have c4:=under_cell (blk_cell hcs 4 _ rfl)
  clear hcs
  have hqs:=hbw.size
  generalize w.alloc (Obj.cells #[.int .i64 t.rep,.int .i64 t.reg,.int .i64 t.pla,.int .i64 t.idx,.int .i64 t.inc] 39)=wq at *
  generalize w.heap.size=q at *
  refine seqH fun K HK=>?_
  refine wp_seq_k (fun K2 hK2=>?_)
  have HK2:=Lib.hid hK2
  clear hK2
  refine wp_region_under (by kernel_rfl) (by kernel_rfl) ?_
  repeat (first | go_big_quiet_step ((first
   | (go_at_call 183;exact under_same (rplaces_any _ _)))) | ((with_reducible refine wpQuiet_skip ?_ ?_) ;(focus rfl);(try simp only [Act.put,qa1,qa2,qa3])))
  refine wpQuiet_nil ?_
  intro _ hw'
  obtain ⟨xU,hw''⟩:=hw'
  subst hw''
  have hbU:=under_below wq xU
  refine HK2.out _ _ ?_
  clear HK2
  have d3:=c3 xU
  have d4:=c4 xU
  clear c0 c1 c2 c3 c4
  go_wp2
  refine HK.out _ _ ?_
  clear HK
  go_wp2
  go_ret
  exact ⟨by first | rfl | (refine ret_bool ?_;simp;omega) | (refine ret_bool ?_;simp [b1,b2,b3]),hbw.trans (hbU.mono hqs)⟩
 by_cases b4:t.inc≤1099511627776
 case neg=>
  go_enter func189,ntmps189
  refine seqH fun K HK=>?_
  go_wp2
  refine HK.out _ _ ?_
  clear HK
  have hbw:=blw w (Obj.cells #[.int .i64 t.rep,.int .i64 t.reg,.int .i64 t.pla,.int .i64 t.idx,.int .i64 t.inc] 39)
  have hcs:=heap_alloc_new w (Obj.cells #[.int .i64 t.rep,.int .i64 t.reg,.int .i64 t.pla,.int .i64 t.idx,.int .i64 t.inc] 39)
  have c0:=under_cell (blk_cell hcs 0 _ rfl)
  have c1:=under_cell (blk_cell hcs 1 _ rfl)
  have c2:=under_cell (blk_cell hcs 2 _ rfl)
  have c3:=under_cell (blk_cell hcs 3 _ rfl)
  have c4:=under_cell (blk_cell hcs 4 _ rfl)
  clear hcs
  have hqs:=hbw.size
  generalize w.alloc (Obj.cells #[.int .i64 t.rep,.int .i64 t.reg,.int .i64 t.pla,.int .i64 t.idx,.int .i64 t.inc] 39)=wq at *
  generalize w.heap.size=q at *
  refine seqH fun K HK=>?_
  refine wp_seq_k (fun K2 hK2=>?_)
  have HK2:=Lib.hid hK2
  clear hK2
  refine wp_region_under (by kernel_rfl) (by kernel_rfl) ?_
  repeat (first | go_big_quiet_step ((first
   | (go_at_call 183;exact under_same (rplaces_any _ _)))) | ((with_reducible refine wpQuiet_skip ?_ ?_) ;(focus rfl);(try simp only [Act.put,qa1,qa2,qa3])))
  refine wpQuiet_nil ?_
  intro _ hw'
  obtain ⟨xU,hw''⟩:=hw'
  subst hw''
  have hbU:=under_below wq xU
  refine HK2.out _ _ ?_
  clear HK2
  have d3:=c3 xU
  have d4:=c4 xU
  clear c0 c1 c2 c3 c4
  go_wp2
  refine HK.out _ _ ?_
  clear HK
  go_wp2
  go_ret
  exact ⟨by first | rfl | (refine ret_bool ?_;simp;omega) | (refine ret_bool ?_;simp [b1,b2,b3]),hbw.trans (hbU.mono hqs)⟩
 go_enter func189,ntmps189
 refine seqH fun K HK=>?_
 go_wp2
 refine HK.out _ _ ?_
 clear HK
 have hbw:=blw w (Obj.cells #[.int .i64 t.rep,.int .i64 t.reg,.int .i64 t.pla,.int .i64 t.idx,.int .i64 t.inc] 39)
 have hcs:=heap_alloc_new w (Obj.cells #[.int .i64 t.rep,.int .i64 t.reg,.int .i64 t.pla,.int .i64 t.idx,.int .i64 t.inc] 39)
 have c0:=under_cell (blk_cell hcs 0 _ rfl)
 have c1:=under_cell (blk_cell hcs 1 _ rfl)
 have c2:=under_cell (blk_cell hcs 2 _ rfl)
 have c3:=under_cell (blk_cell hcs 3 _ rfl)
 have c4:=under_cell (blk_cell hcs 4 _ rfl)
 clear hcs
 have hqs:=hbw.size
 generalize w.alloc (Obj.cells #[.int .i64 t.rep,.int .i64 t.reg,.int .i64 t.pla,.int .i64 t.idx,.int .i64 t.inc] 39)=wq at *
 generalize w.heap.size=q at *
 refine seqH fun K HK=>?_
 refine wp_seq_k (fun K2 hK2=>?_)
 have HK2:=Lib.hid hK2
 clear hK2
 refine wp_region_under (by kernel_rfl) (by kernel_rfl) ?_
 repeat (first | go_big_quiet_step ((first
  | (go_at_call 183;exact under_same (rplaces_any _ _)))) | ((with_reducible refine wpQuiet_skip ?_ ?_) ;(focus rfl);(try simp only [Act.put,qa1,qa2,qa3])))
 refine wpQuiet_nil ?_
 intro _ hw'
 obtain ⟨xU,hw''⟩:=hw'
 subst hw''
 have hbU:=under_below wq xU
 refine HK2.out _ _ ?_
 clear HK2
 have d3:=c3 xU
 have d4:=c4 xU
 clear c0 c1 c2 c3 c4
 go_wp2
 refine HK.out _ _ ?_
 clear HK
 go_wp2
 go_ret
 exact ⟨by first | rfl | (refine ret_bool ?_;simp;omega) | (refine ret_bool ?_;simp [b1,b2,b3]),hbw.trans (hbU.mono hqs)⟩
end
end Go.Proofs.YtbdonjenekhmdaaGreatDoor
