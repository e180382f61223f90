/- Texts that the claim leans on, part 2: Own, Under, K1, K2, K5, X1, X2, Flat. -/
import Derived.Test.YtbdonjenekhmdaaGreatDoorZ1
namespace Go.Proofs.YtbdonjenekhmdaaGreatDoor
open Go.RowKit Go.Proofs.Tryz
set_option maxRecDepth 100000
set_option maxHeartbeats 32000000
section
theorem owns_after {w w':World} {base n size:Nat} {e:TypeId} {v:Value} {xs:List Value} (h:w.ownsRow base e size v n xs) (hb:Below w.heap.size w w'):w'.ownsRow base e size v n xs:=by
 obtain ⟨hl,h | ⟨g,cap,cur,hv,hg,hc,r⟩⟩:=h
 ·exact ⟨hl,.inl h⟩
 ·exact ⟨hl,.inr ⟨g,cap,cur,hv,hg,(hb.block g (Array.getElem?_eq_some_iff.1 hc).1).trans hc,r⟩⟩
end
section
open Classical in
noncomputable def Under (w x:World):World:=if Below w.heap.size w x then x else w
theorem under_below (w x:World):Below w.heap.size w (Under w x):=by
 unfold Under
 split
 ·assumption
 ·exact Below.refl _ _
theorem under_of {w y:World} (h:Below w.heap.size w y):y=Under w y:=by
 unfold Under
 rw [if_pos h]
theorem under_cell {w:World} {p:Addr} {v:Value} (h:w.cell? p=some v):∀ x,(Under w x).cell? p=some v:=fun x=>by
 have h2:=World.block_lt_of_cell? _ _ h
 rw [(under_below w x).cell h2]
 exact h
theorem under_call {P:Program} {f:FuncId} {args:Array Value} {w x:World} {v:Value}
  (h:Calls P f args (Under w x) fun e w'=>e=.returned v∧Below (Under w x).heap.size (Under w x) w'):Calls P f args (Under w x) fun e w''=>e=.returned v∧∃ y,w''=Under w y:=
 h.mono fun _ w' ⟨he,hb⟩=>⟨he,w',under_of ((under_below w x).trans (hb.mono (under_below w x).size))⟩
theorem under_same {P:Program} {f:FuncId} {args:Array Value} {w x:World} {v:Value}
  (h:Calls P f args (Under w x) fun e w'=>e=.returned v∧Under w x=w'):Calls P f args (Under w x) fun e w''=>e=.returned v∧∃ y,w''=Under w y:=
 h.mono fun _ _ ⟨he,hm⟩=>⟨he,x,hm.symm⟩
theorem wp_region_under {P:Program} {id:Nat} {Q:Exit→Act→World→Prop} {a:Act} {w:World} {l:List Oper} (hm:P.follows .mixedOrders=true) (hB:Region.lexB .any l.toArray=true)
  (h:wpQuiet P l.toArray (fun w'=>∃ x,w'=Under w x) (fun a'=>∀ w',(∃ x,w'=Under w x)→Q .normal a' w') l a):(Code.region id l.toArray true).wp P Q a w:=
 wp_region_quiet (C:=fun w'=>∃ x,w'=Under w x) hm hB ⟨_,under_of ((Below.refl _ _).drew)⟩ (by simpa using h)
end
section
def prs (l:List Pr):List Value:=l.flatMap fun p=>[.string p.1,.string p.2]
theorem prs_len:∀ (l:List Pr),(prs l).length=2 * l.length
 | []=>rfl
 | p :: l=>by
  have:=prs_len l
  simp only [prs,List.flatMap_cons,List.length_append,List.length_cons,List.length_nil] at this ⊢
  omega
theorem prs_at:∀ {l:List Pr} {i:Nat} {p:Pr},l[i]?=some p→(prs l)[i * 2]?=some (.string p.1)∧(prs l)[i * 2+1]?=some (.string p.2)
 | [],i,p,h=>by simp at h
 | q :: l,0,p,h=>by
  simp at h
  subst h
  exact ⟨rfl,rfl⟩
 | q :: l,i+1,p,h=>by
  simp only [List.getElem?_cons_succ] at h
  have:=prs_at h
  have e1:(i+1) * 2=i * 2+1+1:=by omega
  rw [e1]
  simp only [prs,List.flatMap_cons,List.cons_append,List.nil_append,List.getElem?_cons_succ] at this ⊢
  exact this
theorem Row.pair {w:World} {a:Option Addr} {l:List Pr} (h:Row w a (prs l)) {i:Nat} {p:Pr} (hp:l[i]?=some p) :
  ∃ b off,a=some ⟨b,off,none⟩∧b < w.heap.size∧(∀ j q,l[j]?=some q→w.cell? ⟨b,off+j * 2,none⟩=some (.string q.1)∧w.cell? ⟨b,off+j * 2+1,none⟩=some (.string q.2)):=by
 have hi:=(List.getElem?_eq_some_iff.1 hp).1
 obtain ⟨b,off,ha,hc⟩:=h.at (k:=i) (by rw [prs_len];omega)
 refine ⟨b,off,ha,World.block_lt_of_cell? _ _ (hc _ _ (prs_at hp).1),fun j q hq=>?_⟩
 obtain ⟨h1,h2⟩:=prs_at hq
 exact ⟨hc _ _ h1,by rw [Nat.add_assoc];exact hc _ _ h2⟩
end
section
structure SlP (w:World) (a:Option Addr) (cap:Nat) (l:List Pr):Prop where
 row:Row w a (prs l)
 le:l.length≤cap
 max:cap≤maxLen
 nil:a=none→cap=0
theorem SlP.below {w w':World} {a:Option Addr} {cap:Nat} {l:List Pr} (h:SlP w a cap l) (hb:Below w.heap.size w w'):SlP w' a cap l:=⟨h.row.below0 hb,h.le,h.max,h.nil⟩
theorem SlP.of_owns {w:World} {base:Nat} {e:TypeId} {v:Value} {l:List Pr} (h:w.ownsRow base e 2 v l.length (prs l)):∃ a cap,v=.slice a l.length cap∧SlP w a cap l:=by
 have h0:=h
 obtain ⟨a,cap,hv,hr,hn,hm⟩:=Row.of_owns h
 refine ⟨a,cap,hv,hr,hn,hm,fun ha=>?_⟩
 subst ha
 obtain ⟨_,⟨h1,_⟩ | ⟨g,cap',cur,h1,_⟩⟩:=h0
 ·rw [hv] at h1
  injection h1
 ·rw [hv] at h1
  injection h1 with h1
  cases h1
def cmpI (a b:Tx):Int:=if kl a b then -1 else if a=b then 0 else 1
def hasK (l:List Pr) (k:Tx):Bool:=(look l k).isSome
def BsK (l:List Pr) (k:Tx) (a b:Nat):Prop:=(∀ j q,l[j]?=some q→j < a→kl q.1 k=true)∧(∀ j q,l[j]?=some q→b≤j→kl q.1 k=false)
end
section
theorem tx_len (a:Tx):a.toList.length=a.size:=by rw [ByteArray.toList_eq];rfl
def Agree (a b:Tx) (i:Nat):Prop:=a.toList.take i=b.toList.take i
end
section
def half:Nat→Nat
 | 0=>0x00000000 | 1=>0x105ec76f | 2=>0x20bd8ede | 3=>0x30e349b1 | 4=>0x417b1dbc | 5=>0x5125dad3 | 6=>0x61c69362 | 7=>0x7198540d
 | 8=>0x82f63b78 | 9=>0x92a8fc17 | 10=>0xa24bb5a6 | 11=>0xb21572c9 | 12=>0xc38d26c4 | 13=>0xd3d3e1ab | 14=>0xe330a81a | _=>0xf36e6f75
def nib (r:Nat):Nat:=(r / 16) ^^^ half (r % 16)
def stepC (r:Nat) (x:UInt8):Nat:=nib (nib (r ^^^ x.toNat))
def runC (r:Nat) (l:List UInt8):Nat:=l.foldl stepC r
def ones:Nat:=4294967295
def crcE (s:Nat) (l:List UInt8):Nat:=runC (s ^^^ ones) l ^^^ ones
def crcS (l:List UInt8):Nat:=crcE 0 l
theorem half_lt:∀ k,k < 16→half k < 4294967296:=by decide
theorem nib_lt {r:Nat} (h:r < 4294967296):nib r < 4294967296:=by
 unfold nib
 exact Nat.xor_lt_two_pow (n:=32) (by omega) (half_lt _ (Nat.mod_lt _ (by decide)))
theorem stepC_lt {r:Nat} (h:r < 4294967296) (x:UInt8):stepC r x < 4294967296:=by
 have hx:x.toNat < 2 ^ 32:=Nat.lt_trans x.toNat_lt (by decide)
 exact nib_lt (nib_lt (Nat.xor_lt_two_pow (n:=32) h hx))
theorem runC_lt:∀ (l:List UInt8) {r:Nat},r < 4294967296→runC r l < 4294967296
 | [],_,h=>h
 | x :: l,_,h=>runC_lt l (stepC_lt h x)
theorem runC_app (r:Nat) (l m:List UInt8):runC r (l++m)=runC (runC r l) m:=List.foldl_append
theorem crcS_lt (l:List UInt8):crcS l < 4294967296:=Nat.xor_lt_two_pow (n:=32) (runC_lt l (by decide)) (by decide)
end
section
structure Tg where
 rep:Int
 reg:Int
 pla:Int
 idx:Int
 inc:Int
 deriving DecidableEq
def zeroTg:Tg:=⟨0,0,0,0,0⟩
def placesN (r:Int):Int:=if r=1 then 2 else if r=2 then 2 else if r=3 then 24 else if r=4 then 48 else if r=5 then 16 else 0
def wideN (r:Int):Int:=if r=1 then 1 else if r=2 then 1 else if r=3 then 1 else if r=4 then 2 else if r=5 then 2 else 0
def startN (r:Int):Int:=if r=1 then 0 else if r=2 then 2 else if r=3 then 4 else if r=4 then 28 else if r=5 then 124 else 156
def firstN (r p:Int):Int:=if placesN r=0∨p < 0∨placesN r≤p then -1 else startN r+p * wideN r
def mayTg (t:Tg):Bool:=decide (0≤t.rep) && (decide (t.rep≤6) && (decide (0≤t.pla) && (decide (t.pla < placesN t.reg) && (decide (0≤t.idx) && (decide (t.idx≤1099511627776) && (decide (1≤t.inc) && decide (t.inc≤1099511627776)))))))
theorem placesN_reg {r:Int} (h:0 < placesN r):1≤r∧r≤5∧placesN r≤48:=by
 unfold placesN at h ⊢
 split at h
 ·rename_i h1;subst h1;simp
 ·split at h
  ·rename_i h1;subst h1;simp
  ·split at h
   ·rename_i h1;subst h1;simp
   ·split at h
    ·rename_i h1;subst h1;simp
    ·split at h
     ·rename_i h1;subst h1;simp
     ·omega
theorem mayTg_parts {t:Tg} (h:mayTg t=true):0≤t.rep∧t.rep≤6∧0≤t.pla∧t.pla < placesN t.reg∧0≤t.idx∧t.idx≤1099511627776∧1≤t.inc∧t.inc≤1099511627776:=by
 simpa [mayTg,Bool.and_eq_true,decide_eq_true_eq] using h
theorem mayTg_small {t:Tg} (h:mayTg t=true):1≤t.reg∧t.reg≤5∧t.pla < 48:=by
 obtain ⟨_,_,h3,h4,_⟩:=mayTg_parts h
 obtain ⟨a,b,c⟩:=placesN_reg (r:=t.reg) (by omega)
 exact ⟨a,b,by omega⟩
def tagB (t:Tg):List UInt8:=le 1 t.rep.toNat++(le 1 t.reg.toNat++(le 1 t.pla.toNat++(le 6 t.idx.toNat++le 6 t.inc.toNat)))
theorem tagB_len (t:Tg):(tagB t).length=15:=by simp [tagB,le_len]
def tagAt (b:List UInt8) (k:Nat):Tg:=⟨getN b k 1,getN b (k+1) 1,getN b (k+2) 1,getN b (k+3) 6,getN b (k+9) 6⟩
theorem getN_of {l pre post:List UInt8} {k n p:Nat} (hl:l=pre++(le k n++post)) (hp:pre.length=p) (hn:n < 256 ^ k):getN l p k=n:=by
 subst hl hp
 unfold getN
 rw [List.drop_left]
 have:(le k n++post).take k=le k n:=by
  have:=List.take_left (l₁:=le k n) (l₂:=post)
  rwa [le_len] at this
 rw [this]
 exact ofLe_le k n hn
theorem tagAt_of {l pre post:List UInt8} {t:Tg} {p:Nat} (hl:l=pre++(tagB t++post)) (hp:pre.length=p) (h:mayTg t=true):tagAt l p=t:=by
 obtain ⟨h1,h2,h3,h4,h5,h6,h7,h8⟩:=mayTg_parts h
 obtain ⟨g1,g2,g3⟩:=mayTg_small h
 unfold tagB at hl
 simp only [List.append_assoc] at hl
 have e1:=getN_of (p:=p) hl hp (by omega)
 have e2:=getN_of (l:=l) (p:=p+1) (pre:=pre++le 1 t.rep.toNat) (k:=1) (n:=t.reg.toNat) (post:=le 1 t.pla.toNat++(le 6 t.idx.toNat++(le 6 t.inc.toNat++post))) (by rw [hl];simp only [List.append_assoc]) (by simp [le_len,hp]) (by omega)
 have e3:=getN_of (l:=l) (p:=p+2) (pre:=pre++(le 1 t.rep.toNat++le 1 t.reg.toNat)) (k:=1) (n:=t.pla.toNat) (post:=le 6 t.idx.toNat++(le 6 t.inc.toNat++post)) (by rw [hl];simp only [List.append_assoc]) (by simp [le_len,hp]) (by omega)
 have e4:=getN_of (l:=l) (p:=p+3) (pre:=pre++(le 1 t.rep.toNat++(le 1 t.reg.toNat++le 1 t.pla.toNat))) (k:=6) (n:=t.idx.toNat) (post:=le 6 t.inc.toNat++post) (by rw [hl];simp only [List.append_assoc]) (by simp [le_len,hp]) (by omega)
 have e5:=getN_of (l:=l) (p:=p+9) (pre:=pre++(le 1 t.rep.toNat++(le 1 t.reg.toNat++(le 1 t.pla.toNat++le 6 t.idx.toNat)))) (k:=6) (n:=t.inc.toNat) (post:=post) (by rw [hl];simp only [List.append_assoc]) (by simp [le_len,hp]) (by omega)
 unfold tagAt
 rw [e1,e2,e3,e4,e5]
 obtain ⟨a,b,c,d,e⟩:=t
 simp only at h1 h2 h3 h4 h5 h6 h7 h8 g1 g2 g3
 simp only [Tg.mk.injEq]
 exact ⟨by omega,by omega,by omega,by omega,by omega⟩
def noughtsB (l:List UInt8):Bool:=l.all (·==0)
def roomN (n:Nat):Nat:=if n=64 then 43 else if n=128 then 88 else 0
def headF (t:Tg) (body:List UInt8) (n:Nat):List UInt8:=le 2 body.length++(tagB t++(body++List.replicate (n - 21 - body.length) 0))
def sealF (t:Tg) (body:List UInt8) (n:Nat):List UInt8:=headF t body n++le 4 (crcS (headF t body n))
def openF (b:List UInt8):Nat×Tg×List UInt8:=
 if roomN b.length=0 then (2,zeroTg,[]) else
 if noughtsB b=true then (0,zeroTg,[]) else
 if mayTg (tagAt b 2)=true∧getN b 0 2≤roomN b.length∧getN b (b.length - 4) 4=crcS (b.take (b.length - 4))∧noughtsB ((b.drop (17+getN b 0 2)).take (b.length - 21 - getN b 0 2))=true
 then (1,tagAt b 2,(b.drop 17).take (getN b 0 2)) else (2,zeroTg,[])
def mineF (b:List UInt8) (rep reg pla:Int):Nat×Tg×List UInt8:=
 if (openF b).1=1∧((openF b).2.1.rep≠rep∨(openF b).2.1.reg≠reg∨(openF b).2.1.pla≠pla) then (2,zeroTg,[]) else openF b
theorem roomN_of {n:Nat} (h:0 < roomN n):(n=64∨n=128)∧roomN n+21≤n:=by
 unfold roomN at h ⊢
 split at h
 ·rename_i h1;subst h1;simp
 ·split at h
  ·rename_i h1;subst h1;simp
  ·omega
theorem headF_len {t:Tg} {body:List UInt8} {n:Nat} (hn:0 < roomN n) (hb:body.length≤roomN n):(headF t body n).length=n - 4:=by
 obtain ⟨_,h⟩:=roomN_of hn
 simp only [headF,List.length_append,le_len,tagB_len,List.length_replicate]
 omega
theorem sealF_len {t:Tg} {body:List UInt8} {n:Nat} (hn:0 < roomN n) (hb:body.length≤roomN n):(sealF t body n).length=n:=by
 obtain ⟨_,h⟩:=roomN_of hn
 rw [sealF,List.length_append,headF_len hn hb,le_len]
 omega
theorem noughts_rep (n:Nat):noughtsB (List.replicate n 0)=true:=by simp [noughtsB]
theorem ofLe_noughts:∀ {l:List UInt8},noughtsB l=true→ofLe l=0
 | [],_=>rfl
 | x :: l,h=>by
  simp only [noughtsB,List.all_cons,Bool.and_eq_true] at h
  have h1:x=0:=by simpa using h.1
  subst h1
  simp only [ofLe]
  rw [ofLe_noughts (l:=l) h.2]
  rfl
theorem getN_noughts {l:List UInt8} (h:noughtsB l=true) (p k:Nat):getN l p k=0:=by
 unfold getN
 refine ofLe_noughts ?_
 unfold noughtsB at h ⊢
 rw [List.all_eq_true] at h ⊢
 exact fun x hx=>h x (List.mem_of_mem_drop (List.mem_of_mem_take hx))
theorem open_seal {t:Tg} {body:List UInt8} {n:Nat} (ht:mayTg t=true) (hn:0 < roomN n) (hb:body.length≤roomN n):openF (sealF t body n)=(1,t,body):=by
 obtain ⟨hn2,hr⟩:=roomN_of hn
 have hlen:=sealF_len (t:=t) hn hb
 have hh:=headF_len (t:=t) hn hb
 have e0:getN (sealF t body n) 0 2=body.length:=getN_of (pre:=[]) (k:=2) (post:=tagB t++(body++List.replicate (n - 21 - body.length) 0)++le 4 (crcS (headF t body n))) (by simp only [sealF,headF,List.append_assoc,List.nil_append]) rfl (by rcases hn2 with rfl | rfl <;> simp [roomN] at hb <;> omega)
 have e1:tagAt (sealF t body n) 2=t:=tagAt_of (pre:=le 2 body.length) (post:=body++List.replicate (n - 21 - body.length) 0++le 4 (crcS (headF t body n))) (by simp only [sealF,headF,List.append_assoc]) (le_len _ _) ht
 have e2:getN (sealF t body n) (n - 4) 4=crcS (headF t body n):=getN_of (pre:=headF t body n) (post:=[]) (by simp [sealF]) hh (crcS_lt _)
 have e3:(sealF t body n).take (n - 4)=headF t body n:=by rw [sealF,← hh,List.take_left]
 have e4:(sealF t body n).drop 17=body++(List.replicate (n - 21 - body.length) 0++le 4 (crcS (headF t body n))):=by
  have h17:(le 2 body.length++tagB t).length=17:=by simp [le_len,tagB_len]
  have:sealF t body n=(le 2 body.length++tagB t)++(body++(List.replicate (n - 21 - body.length) 0++le 4 (crcS (headF t body n)))):=by simp only [sealF,headF,List.append_assoc]
  rw [this,← h17,List.drop_left]
 have e5:(sealF t body n).drop (17+body.length)=List.replicate (n - 21 - body.length) 0++le 4 (crcS (headF t body n)):=by rw [← List.drop_drop,e4,List.drop_left]
 have hnz:noughtsB (sealF t body n)=false:=by
  cases h:noughtsB (sealF t body n) with
  | false=>rfl
  | true=>
   have h1:=congrArg Tg.inc e1
   have h2:=getN_noughts h (2+9) 6
   unfold tagAt at h1
   simp only at h1
   rw [h2] at h1
   have:=(mayTg_parts ht).2.2.2.2.2.2.1
   omega
 unfold openF
 rw [hlen,if_neg (by omega),hnz,e0,e1,e2,e3,e4,e5]
 simp only [Bool.false_eq_true,if_false]
 refine (if_pos ⟨ht,hb,trivial,?_⟩).trans (by rw [List.take_left])
 have:(List.replicate (n - 21 - body.length) (0:UInt8)++le 4 (crcS (headF t body n))).take (n - 21 - body.length)=List.replicate (n - 21 - body.length) 0:=by
  have h:=List.take_left (l₁:=List.replicate (n - 21 - body.length) (0:UInt8)) (l₂:=le 4 (crcS (headF t body n)))
  rwa [List.length_replicate] at h
 rw [this]
 exact noughts_rep _
theorem mine_seal {t:Tg} {body:List UInt8} {n:Nat} (ht:mayTg t=true) (hn:0 < roomN n) (hb:body.length≤roomN n):mineF (sealF t body n) t.rep t.reg t.pla=(1,t,body):=by
 unfold mineF
 rw [open_seal ht hn hb]
 simp
end
section
theorem flat_len {α:Type} {f:α→List Value} {n:Nat} (hf:∀ x,(f x).length=n):∀ (l:List α),(l.flatMap f).length=n * l.length
 | []=>by simp
 | x :: l=>by
  have:=flat_len hf l
  rw [List.flatMap_cons,List.length_append,this,hf,List.length_cons,Nat.mul_succ]
  omega
theorem flat_at {α:Type} {f:α→List Value} {n:Nat} (hf:∀ x,(f x).length=n):∀ {l:List α} {i:Nat} {c:α},l[i]?=some c→∀ j u,(f c)[j]?=some u→(l.flatMap f)[i * n+j]?=some u
 | [],i,c,h=>by simp at h
 | q :: l,0,c,h=>by
  simp at h
  subst h
  intro j u hj
  have hlt:=(List.getElem?_eq_some_iff.1 hj).1
  simp only [List.flatMap_cons,Nat.zero_mul,Nat.zero_add]
  rw [List.getElem?_append_left hlt]
  exact hj
 | q :: l,i+1,c,h=>by
  simp only [List.getElem?_cons_succ] at h
  intro j u hj
  have:=flat_at hf h j u hj
  simp only [List.flatMap_cons]
  rw [List.getElem?_append_right (by rw [hf,Nat.succ_mul];omega),hf]
  rw [show (i+1) * n+j - n=i * n+j by rw [Nat.succ_mul];omega]
  exact this
theorem Row.flat {α:Type} {f:α→List Value} {n:Nat} (hf:∀ x,(f x).length=n) (hn:0 < n) {w:World} {a:Option Addr} {l:List α} (h:Row w a (l.flatMap f)) {i:Nat} {c:α} (hp:l[i]?=some c) :
  ∃ b off,a=some ⟨b,off,none⟩∧b < w.heap.size∧∀ j u,(f c)[j]?=some u→w.cell? ⟨b,off+i * n+j,none⟩=some u:=by
 have hi:=(List.getElem?_eq_some_iff.1 hp).1
 have hpos:0 < (l.flatMap f).length:=by rw [flat_len hf];exact Nat.mul_pos hn (by omega)
 obtain ⟨b,off,ha,hc⟩:=h.at hpos
 have hat:=flat_at hf hp
 have H:∀ j u,(f c)[j]?=some u→w.cell? ⟨b,off+i * n+j,none⟩=some u:=fun j u hj=>by
  rw [Nat.add_assoc]
  exact hc _ _ (hat j u hj)
 refine ⟨b,off,ha,?_,H⟩
 have h0:(f c)[0]?=some ((f c)[0]'(by rw [hf];exact hn)):=List.getElem?_eq_getElem _
 exact World.block_lt_of_cell? _ _ (H 0 _ h0)
theorem Row.flat0 {α:Type} {f:α→List Value} {n:Nat} (hf:∀ x,(f x).length=n) (hn:0 < n) {w:World} {a:Option Addr} {l:List α} (h:Row w a (l.flatMap f)) {i:Nat} {c:α} (hp:l[i]?=some c) :
  ∃ b off,a=some ⟨b,off,none⟩∧b < w.heap.size∧(∀ u,(f c)[0]?=some u→w.cell? ⟨b,off+i * n,none⟩=some u)∧∀ j u,(f c)[j]?=some u→w.cell? ⟨b,off+i * n+j,none⟩=some u:=by
 obtain ⟨b,off,ha,hb,hc⟩:=h.flat hf hn hp
 exact ⟨b,off,ha,hb,fun u hu=>hc 0 u hu,hc⟩
theorem Row.of_block {w:World} {g:Nat} {cs:List Value} {T:TypeId} {xs:List Value} (h:w.heap[g]?=some (.cells cs.toArray T (0,0))) (off:Nat) (hx:∀ i u,xs[i]?=some u→cs[off+i]?=some u):Row w (some ⟨g,off,none⟩) xs:=by
 refine .inr ⟨g,off,rfl,fun i u hu=>?_⟩
 simp only [World.cell?,h]
 simpa using hx i u hu
theorem blk_cell {w:World} {g:Nat} {cs:Array Value} {T:TypeId} (h:w.heap[g]?=some (.cells cs T (0,0))) (j:Nat) (v:Value) (hj:cs[j]?=some v):w.cell? ⟨g,j,none⟩=some v:=by
 simp only [World.cell?,h]
 simpa using hj
theorem blw (w:World) (o:Obj):Below w.heap.size w (w.alloc o):=(Below.refl _ _).alloc (Nat.le_refl _) o
end
end Go.Proofs.YtbdonjenekhmdaaGreatDoor
