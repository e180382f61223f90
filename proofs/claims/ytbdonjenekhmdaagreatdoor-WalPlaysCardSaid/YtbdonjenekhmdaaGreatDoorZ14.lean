/- Texts that the claim leans on, part 14: X7, X8, X9, D42, D43, X10, X11, V1. -/
import Derived.Test.YtbdonjenekhmdaaGreatDoorZ1
import Derived.Test.YtbdonjenekhmdaaGreatDoorZ2
import Derived.Test.YtbdonjenekhmdaaGreatDoorZ3
import Derived.Test.YtbdonjenekhmdaaGreatDoorZ4
import Derived.Test.YtbdonjenekhmdaaGreatDoorZ5
import Derived.Test.YtbdonjenekhmdaaGreatDoorZ6
import Derived.Test.YtbdonjenekhmdaaGreatDoorZ7
import Derived.Test.YtbdonjenekhmdaaGreatDoorZ8
import Derived.Test.YtbdonjenekhmdaaGreatDoorZ9
import Derived.Test.YtbdonjenekhmdaaGreatDoorZ10
import Derived.Test.YtbdonjenekhmdaaGreatDoorZ11
import Derived.Test.YtbdonjenekhmdaaGreatDoorZ12
import Derived.Test.YtbdonjenekhmdaaGreatDoorZ13
namespace Go.Proofs.YtbdonjenekhmdaaGreatDoor
open Go.RowKit Go.Proofs.Tryz
set_option maxRecDepth 100000
set_option maxHeartbeats 32000000
section
def rdP (pl:List Pl) (j:Nat):List UInt8×Int:=match pl[j]? with | none=>([],2) | some p=>if p.lost=true then ([],50) else (p.rest,0)
def anew (d:Dk) (keep:List Bool):Dk:=⟨thruD d.pl d.waits 0 (keepB keep),[],false,false,-1⟩
theorem thru_len:∀ (l:List (List UInt8×Nat)) (pl:List Pl) (k:Nat) (is:Nat→Bool),(thruD pl l k is).length=pl.length
 | [],_,_,_=>rfl
 | (b,s) :: l,pl,k,is=>by
  simp only [thruD]
  rw [thru_len l]
  split
  ·rw [List.length_set]
  ·rfl
section
variable {d:Dk} {rep reg inc v:Int} {body:List UInt8}
def fraC (rep reg v inc:Int) (body:List UInt8) (i:Nat):List UInt8:=sealF ⟨rep,reg,i,v,inc⟩ body 64
def twoP (d:Dk) (rep reg v inc:Int) (body:List UInt8) (f:Nat):Dk×Int:=
 if (putC d ⟨rep,reg,(f:Nat),v,inc⟩ body).2≠0 then putC d ⟨rep,reg,(f:Nat),v,inc⟩ body else putC (putC d ⟨rep,reg,(f:Nat),v,inc⟩ body).1 ⟨rep,reg,((1 - f:Nat):Int),v,inc⟩ body
end
end
section
def coR (rep reg:Int) (i:Nat):Vo→Cp
 | none=>⟨0,zeroTg,[]⟩
 | some (v,c,b)=>⟨1,⟨rep,reg,i,v,c⟩,b⟩
def badCp:Cp:=⟨2,zeroTg,[]⟩
/-! What counts of two copies. -/
section
variable {rep reg:Int} {o p:Vo}
theorem loaded_same (o:Vo):loadedC (coR rep reg 0 o) (coR rep reg 1 o)=(0,o.isSome,0)∧pickC (coR rep reg 0 o) (coR rep reg 1 o)=coR rep reg 0 o∧firstP (coR rep reg 0 o) (coR rep reg 1 o)=(if o.isSome=true then 1 else 0):=by
 match o with
 | none=>exact ⟨rfl,rfl,rfl⟩
 | some (v,c,b)=>
  have h1:loadedC (coR rep reg 0 (some (v,c,b))) (coR rep reg 1 (some (v,c,b)))=(0,true,0):=by simp [loadedC,overC,coR]
  refine ⟨h1,?_,?_⟩
  ·unfold pickC
   rw [h1]
   simp
  ·unfold firstP
   rw [h1]
   simp
end
structure Both (d:Dk) (rep reg:Int) (o:Vo):Prop where
 ok:okO o
 c0:cop d rep reg 0=coR rep reg 0 o
 c1:cop d rep reg 1=coR rep reg 1 o
theorem both_load {d:Dk} {rep reg:Int} {o:Vo} (h:Live d) (hp:0≤rep∧rep≤6) (hr:reg=1∨reg=2) (hB:Both d rep reg o):loadC d rep reg=(verO o,bodO o,0):=by
 obtain ⟨e1,e2,_⟩:=loaded_same (rep:=rep) (reg:=reg) o
 rw [load_live h hp hr,hB.c0,hB.c1,e1,e2]
 match o with
 | none=>rfl
 | some (v,c,b)=>rfl
section
variable {d:Dk} {rep reg inc:Int} {body:List UInt8} {o:Vo}
def nextO (o:Vo) (inc:Int) (body:List UInt8):Vo:=some (verO o+1,inc,body)
theorem cop_fra {d:Dk} {v:Int} {i:Nat} {e:Int} (hp:0≤rep∧rep≤6) (hr:reg=1∨reg=2) (hi2:i < 2) (h0:0≤v) (h1:v≤1099511627776) (hi:1≤inc∧inc≤1099511627776) (hb:body.length≤43) (h:readD d (secC reg i)=(fraC rep reg v inc body i,e)):cop d rep reg i=coR rep reg i (some (v,inc,body)):=
 cop_frame h (may_cell2 hp hr hi2 h0 h1 hi.1 hi.2) hb
end
end
section
def frR (rep reg:Int) (i:Nat):Vo→List UInt8
 | none=>zeros64
 | some (v,c,b)=>fraC rep reg v c b i
structure Fr (d:Dk) (rep reg:Int) (o:Vo):Prop where
 ok:okO o
 r0:readD d (secC reg 0)=(frR rep reg 0 o,0)
 r1:readD d (secC reg 1)=(frR rep reg 1 o,0)
section
variable {d d':Dk} {rep reg inc:Int} {body:List UInt8} {o o':Vo}
theorem cop_fr {i:Nat} {e:Int} (hp:0≤rep∧rep≤6) (hr:reg=1∨reg=2) (hi:i < 2) (ho:okO o) (h:readD d (secC reg i)=(frR rep reg i o,e)):cop d rep reg i=coR rep reg i o:=by
 match o,ho,h with
 | none,_,h=>exact cop_zero h
 | some (v,c,b),⟨h1,h2,h3,h4,h5⟩,h=>exact cop_fra hp hr hi (by omega) h2 ⟨h3,h4⟩ h5 h
theorem Fr.both (h:Fr d rep reg o) (hp:0≤rep∧rep≤6) (hr:reg=1∨reg=2):Both d rep reg o:=⟨h.ok,cop_fr hp hr (by omega) h.ok h.r0,cop_fr hp hr (by omega) h.ok h.r1⟩
theorem Fr.same (h:Fr d rep reg o) (h0:readD d' (secC reg 0)=readD d (secC reg 0)) (h1:readD d' (secC reg 1)=readD d (secC reg 1)):Fr d' rep reg o:=⟨h.ok,h0.trans h.r0,h1.trans h.r1⟩
theorem Fr.load (h:Fr d rep reg o) (hL:Live d) (hp:0≤rep∧rep≤6) (hr:reg=1∨reg=2):loadC d rep reg=(verO o,bodO o,0):=both_load hL hp hr (h.both hp hr)
end
end
section
section
variable {B g gp:Nat} {wv:Value} {d:Dk} {w:World}
end
end
section
def ceZ (g:Nat) (rep reg:Int):Array Value:=ceA g rep reg 0 zeroTg (.slice none 0 0) 0 zeroTg (.slice none 0 0)
theorem lastW_mem:∀ {l:List (List UInt8×Nat)} {s:Nat} {b:List UInt8},lastW l s=some b→∃ x ∈ l,x.1=b
 | [],_,_,h=>by cases h
 | (c,k) :: l,s,b,h=>by
  unfold lastW at h
  cases hl:lastW l s with
  | some x=>
   rw [hl] at h
   simp only [Option.some.injEq] at h
   subst h
   obtain ⟨y,hy,e⟩:=lastW_mem hl
   exact ⟨y,List.mem_cons_of_mem _ hy,e⟩
  | none=>
   rw [hl] at h
   simp only at h
   split at h
   ·injection h with h
    exact ⟨(c,k),List.mem_cons_self,h⟩
   ·cases h
theorem read_len {B g gp:Nat} {wv:Value} {d:Dk} {w:World} (h:DiskB B g gp wv d w) (s:Int):((readD d s).2=0→(readD d s).1.length=64)∧((readD d s).2≠0→(readD d s).1=[]):=by
 unfold readD
 by_cases h0:liveD d s=0
 ·rw [if_neg (by simpa using h0)]
  cases hl:lastW d.waits s.toNat with
  | some b=>
   obtain ⟨x,hx,e⟩:=lastW_mem hl
   simp only
   exact ⟨fun _=>by rw [← e];exact (h.wk x hx).1,fun hh=>absurd rfl hh⟩
  | none=>
   simp only
   cases hp:d.pl[s.toNat]? with
   | none=>exact ⟨(fun hh=>by cases hh),fun _=>rfl⟩
   | some p=>
    simp only
    by_cases hlo:p.lost=true
    ·rw [if_pos hlo]
     exact ⟨(fun hh=>by cases hh),fun _=>rfl⟩
    ·rw [if_neg hlo]
     exact ⟨fun _=>(h.ok p (List.mem_of_getElem? hp)).1,fun hh=>absurd rfl hh⟩
 ·rw [if_pos (by simpa using h0)]
  exact ⟨fun hh=>absurd hh h0,fun _=>rfl⟩
theorem read_slb {B g gp:Nat} {wv:Value} {d:Dk} {w:World} (h:DiskB B g gp wv d w) (s:Int):Calls Tryz.prog 170 #[.pointer (some ⟨g,0,none⟩),.int .i64 s] w fun e w'=>(∃ a c,e=.returned (.tuple #[.slice a (readD d s).1.length c,.int .i64 (readD d s).2])∧SlB w' a c (readD d s).1)∧Below w.heap.size w w':=by
 obtain ⟨h1,h2⟩:=read_len h s
 refine (read_any h s).mono ?_
 rintro e w' ⟨hr,hb⟩
 refine ⟨?_,hb⟩
 unfold ReadRes at hr
 by_cases h0:(readD d s).2=0
 ·rw [if_pos h0] at hr
  obtain ⟨a,c,rfl,ho⟩:=hr
  rw [h1 h0,h0]
  obtain ⟨_,_,e,hs⟩:=SlB.of_owns (l:=(readD d s).1) (by rw [h1 h0];exact ho)
  rw [h1 h0] at e
  cases e
  exact ⟨a,c,rfl,hs⟩
 ·rw [if_neg h0] at hr
  rw [h2 h0]
  exact ⟨none,0,hr,⟨.inl rfl,Nat.le_refl _,by simp,fun _=>rfl⟩⟩
end
section
section
variable {d:Dk} {k:Nat}
end
section
variable {d:Dk} {rep reg v c:Int} {b:List UInt8} {i:Nat} {x:Cp}
end
end
section
section
variable {d:Dk} {rep reg inc:Int} {body:List UInt8} {o:Vo}
end
end
section
structure Lg where
 rep:Int
 inc:Int
 snap:Int
def lgA (g:Nat) (s:Lg):Array Value:=#[.pointer (some ⟨g,0,none⟩),.int .i64 s.rep,.int .i64 s.inc,.int .i64 s.snap]
def LgB (w:World) (q g:Nat) (s:Lg):Prop:=w.heap[q]?=some (.cells (lgA g s) 144 (0,0))
def plW (i:Int):Int:=(i - 1) % 24
def preW (d:Dk) (f:Int):Nat→List UInt8
 | 0=>[]
 | 1=>(readD d f).1
 | _=>(readD d f).1++(readD d (f+1)).1
def fr1 (d:Dk) (rep reg pla:Int):Nat×Tg×List UInt8:=if (readD d (firstN reg pla)).2≠0 then (2,zeroTg,[]) else mineF (preW d (firstN reg pla) 1) rep reg pla
def fr2 (d:Dk) (rep reg pla:Int):Nat×Tg×List UInt8:=if (readD d (firstN reg pla)).2≠0∨(readD d (firstN reg pla+1)).2≠0 then (2,zeroTg,[]) else mineF (preW d (firstN reg pla) 2) rep reg pla
def fitW (n:Int):Bool:=decide (0≤n) && decide (n≤1099511627752)
def liveW (d:Dk) (s:Lg) (i:Int):Int:=if i≤s.snap∨s.snap+24 < i then 2 else if upD d=false then 5 else 0
theorem first3 {p:Int} (h:0≤p∧p < 24):firstN 3 p=4+p:=by
 unfold firstN
 rw [if_neg (by simp [placesN];omega)]
 simp [startN,wideN]
theorem first4 {p:Int} (h:0≤p∧p < 48):firstN 4 p=28+2 * p:=by
 unfold firstN
 rw [if_neg (by simp [placesN];omega)]
 simp [startN,wideN]
 omega
theorem plW_in {i:Int}:0≤plW i∧plW i < 24:=by unfold plW;omega
theorem mine_len3 (b:List UInt8) (rep reg pla:Int):(mineF b rep reg pla).2.2.length≤b.length:=by
 unfold mineF openF
 (repeat' split) <;> simp <;> omega
section
variable {B g gp q:Nat} {wv:Value} {d:Dk} {w w':World} {s:Lg}
theorem LgB.c0 (h:LgB w q g s):w.cell? ⟨q,0,none⟩=some (.pointer (some ⟨g,0,none⟩)):=blk_cell h 0 _ rfl
theorem LgB.c1 (h:LgB w q g s):w.cell? ⟨q,1,none⟩=some (.int .i64 s.rep):=blk_cell h 1 _ rfl
theorem LgB.c2 (h:LgB w q g s):w.cell? ⟨q,2,none⟩=some (.int .i64 s.inc):=blk_cell h 2 _ rfl
theorem LgB.c3 (h:LgB w q g s):w.cell? ⟨q,3,none⟩=some (.int .i64 s.snap):=blk_cell h 3 _ rfl
theorem LgB.below (h:LgB w q g s) (hb:Below w.heap.size w w'):LgB w' q g s:=tr_bl hb h
theorem LgB.kt (h:LgB w q g s) (hk:Kt B w w'):LgB w' q g s:=hk.ty _ _ _ h (by decide) (by decide) (by decide)
theorem lnone_any2 (h:LgB w q g s):Calls Tryz.prog 90 #[.pointer (some ⟨q,0,none⟩)] w fun e w'=>e=.returned (.bool false)∧w=w':=by
 have c0:=h.c0
 go_enter func90,ntmps90
 go_wp2
 go_ret
 exact ⟨rfl,rfl⟩
theorem lsnap_any2 (h:LgB w q g s):Calls Tryz.prog 27 #[.pointer (some ⟨q,0,none⟩)] w fun e w'=>e=.returned (.int .i64 s.snap)∧w=w':=by
 have c3:=h.c3
 go_enter func27,ntmps27
 go_wp2_with (go_at_call 90;refine (lnone_any2 h).mono ?_;rintro e w1 ⟨rfl,rfl⟩)
 go_ret
 exact ⟨rfl,rfl⟩
theorem lfits_any (n:Int) (w:World):Calls Tryz.prog 75 #[.int .i64 n] w fun e w'=>e=.returned (.bool (fitW n))∧w=w':=by
 unfold fitW
 by_cases h:0≤n
 ·rw [decide_eq_true h]
  go_enter func75,ntmps75
  go_wp2
  go_ret
  exact ⟨ret_bool (by simp),rfl⟩
 ·rw [decide_eq_false h]
  go_enter func75,ntmps75
  go_wp2
  go_ret
  exact ⟨ret_bool (by simp),rfl⟩
theorem wplace_any (i:Int) (h1:1≤i) (h2:i≤1099511627776) (w:World):Calls Tryz.prog 82 #[.int .i64 i] w fun e w'=>e=.returned (.int .i64 (plW i))∧w=w':=by
 go_enter func82,ntmps82
 go_wp2
 go_ret
 refine ⟨?_,rfl⟩
 unfold plW
 first
  | rfl
  | (simp only [Int.tmod_eq_emod_of_nonneg (show (0:Int)≤i - 1 by omega)];done)
  | (rw [Int.tmod_eq_emod_of_nonneg (show (0:Int)≤i - 1 by omega)])
theorem llive_any2 (h:LgB w q g s) (hd:DiskB B g gp wv d w) (hs:0≤s.snap∧s.snap≤1099511627752) (i:Int):Calls Tryz.prog 77 #[.pointer (some ⟨q,0,none⟩),.int .i64 i] w fun e w'=>e=.returned (.int .i64 (liveW d s i))∧w=w':=by
 obtain ⟨r,hr⟩:∃ r,liveW d s i=r:=⟨_,rfl⟩
 rw [hr]
 unfold liveW at hr
 have c0:=h.c0
 have c3:=h.c3
 have hup:=up_any hd
 rcases (show i≤s.snap∨(¬ i≤s.snap∧s.snap+24 < i)∨(¬ i≤s.snap∧¬ s.snap+24 < i) by omega) with h1 | ⟨h1,h2⟩ | ⟨h1,h2⟩
 ·obtain rfl:r=2:=by rw [← hr,if_pos (.inl h1)]
  clear hr
  go_enter func77,ntmps77
  go_wp2_with (go_at_call 90;refine (lnone_any2 h).mono ?_;rintro e w1 ⟨rfl,rfl⟩)
  go_ret
  exact ⟨rfl,rfl⟩
 ·obtain rfl:r=2:=by rw [← hr,if_pos (.inr h2)]
  clear hr
  go_enter func77,ntmps77
  go_wp2_with (go_at_call 90;refine (lnone_any2 h).mono ?_;rintro e w1 ⟨rfl,rfl⟩)
  go_ret
  exact ⟨rfl,rfl⟩
 ·rw [if_neg (by omega)] at hr
  cases hu:upD d
  all_goals
   rw [hu] at hr hup
   simp only [if_true,Bool.true_eq_false,if_false] at hr
   subst hr
   go_enter func77,ntmps77
   go_wp2_with (first
    | (go_at_call 90;refine (lnone_any2 h).mono ?_;rintro e w1 ⟨rfl,rfl⟩)
    | (go_at_call 43;refine hup.mono ?_;rintro e w1 ⟨rfl,rfl⟩))
   go_ret
   exact ⟨rfl,rfl⟩
end
end
end Go.Proofs.YtbdonjenekhmdaaGreatDoor
