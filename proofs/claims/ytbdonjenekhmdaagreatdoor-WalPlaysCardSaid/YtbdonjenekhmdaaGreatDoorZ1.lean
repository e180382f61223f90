/- Texts that the claim leans on, part 1: Kit, K0, IE, Y1, O0, Mem, O1, O2. -/
import Derived.WalkKit
import Derived.WalkSpells
import Derived.WalkLawsBesides
import Derived.Handy
import Derived.Lib.Hide
import Derived.ProofKit
import Derived.Deep.QuietTactic
import Derived.OpenShut
import Derived.Deep.RegionHeld
import Derived.Laws.Strings
import Derived.Laws.CopyOwn
import Derived.Laws.CopyRow
import Derived.Laws.NewBlocks
import Derived.Deep.RegionLaw
import Derived.Test.YtbdonjenekhmdaaGreatDoorRows
import Derived.BigQuiet
import Derived.Deep.DeepCutAuto
import Derived.RegionTactic
import Derived.ChangeAlike
namespace Go.Proofs.YtbdonjenekhmdaaGreatDoor
open Go.RowKit Go.Proofs.Tryz
set_option maxRecDepth 100000
set_option maxHeartbeats 32000000
section
open Go.ChangeShapes Go.WideShapes Go.ChangeAt Go.RowKit
/-! Short forms of steps that the texts repeat. -/
section
variable {P:Program} {md:Region.Mode} {ops:Array Oper} {Q:Exit→Act→World→Prop} {S:World→Prop}
theorem tkT (i:Nat) {dst:Option Tmp} {op:Op} {ty:TypeId} {ps:String} {af:Array Edge} {gd:Option (Nat×Bool)} {v:Value} {fuel:Nat} {listed l2:Array Bool} {a a2:Act} {w:World} (hi:ops[i]?=some ⟨dst,op,ty,ps,af,gd⟩)
  (hv:∀ wS,S wS→(execOp a.eval ⟨dst,op,ty,ps,af,gd⟩).run P wS=.ok (.value v) wS)
  (h:wpAnyH P md ops Q S fuel l2 a2 w)
  (hs:Region.noSelect ops=true:=by kernel_rfl) (hf:Region.free md ops listed i=true:=by kernel_rfl) (hr:(Region.ready md ops listed).contains i=true:=by kernel_rfl)
  (hQ:∀ c a w,Q (.panic c) (a.put dst v) w→Q (.panic c) a w:=by exact fun _ _ _ h=>h)
  (hw:Region.wanted ⟨dst,op,ty,ps,af,gd⟩ (yielded ops a.tmps)=true:=by rfl) (hS:S w:=by assumption)
  (hl:listed.setIfInBounds i true=l2:=by (try simp only [List.setIfInBounds_toArray]);(try simp only [List.set_cons_succ]);(try simp only [List.set_cons_zero]);(try rfl))
  (ha:a.put dst v=a2:=by (try simp only [Act.put,qa1,qa2,qa3]);(try rfl)):wpAnyH P md ops Q S (fuel+1) listed a w:=
 wpAnyH_take hi hs hf hr hQ (Or.inl ⟨hw,hv⟩) hS (by rw [hl,ha];exact h)
end
section
variable {P:Program} {md:Region.Mode} {ops:Array Oper} {Q:Exit→Act→World→Prop} {S:World→Prop}
theorem rdy1 (i:Nat) {fuel:Nat} {listed:Array Bool} {a:Act} {w:World} {dst:Option Tmp} {op:Op} {ty:TypeId} {ps:String} {af:Array Edge} {gd:Option (Nat×Bool)} (ho:ops[i]?=some ⟨dst,op,ty,ps,af,gd⟩)
  (h:∀ K':Act→World→Prop,Shut (∀ a w,S w→(S w→wpAnyH P md ops Q S fuel (listed.setIfInBounds i true) a w)→K' a w)→Oper.wp P ⟨dst,op,ty,ps,af,gd⟩ a w K' Q)
  (hr:Region.ready md ops listed=[i]:=by kernel_rfl) (hw:Region.wanted ⟨dst,op,ty,ps,af,gd⟩ (yielded ops a.tmps)=true:=by rfl):wpAnyH P md ops Q S (fuel+1) listed a w:=
 wpAnyH_ready hr (by simp) (AllReadyH.cons ho (fun K' hK'=>(if_pos hw).mpr (h K' hK')) AllReadyH.nil)
theorem seqH {x y:Code} {Q:Exit→Act→World→Prop} {a:Act} {w:World} (h:∀ K:Act→World→Prop,RowKit.Hid (∀ a w,y.wp P Q a w→K a w)→x.wp P (Exit.then K Q) a w) :
  (Code.seq x y).wp P Q a w:=wp_seq_k fun K hK=>h K (Lib.hid hK)
end
section
variable {α:Type}
theorem qa1 (l:List α) (i:Nat) (a:α):l.toArray.setIfInBounds i a=(l.set i a).toArray:=List.setIfInBounds_toArray l i a
theorem qa2 (a b:α) (l:List α) (n:Nat):(a :: l).set (n+1) b=a :: l.set n b:=List.set_cons_succ
theorem qa3 (a b:α) (l:List α):(a :: l).set 0 b=b :: l:=List.set_cons_zero
end
section
variable {P:Program} {md:Region.Mode} {ops:Array Oper} {Q:Exit→Act→World→Prop} {S:World→Prop}
theorem tkP (i:Nat) {dst:Option Tmp} {op:Op} {ty:TypeId} {ps:String} {af:Array Edge} {gd:Option (Nat×Bool)} {v:Value} {fuel:Nat} {listed l2:Array Bool} {a a2:Act} {w:World} (hi:ops[i]?=some ⟨dst,op,ty,ps,af,gd⟩)
  (h:wpAnyH P md ops Q S fuel l2 a2 w)
  (hv:∀ wS,S wS→(execOp a.eval ⟨dst,op,ty,ps,af,gd⟩).run P wS=.ok (.value v) wS:=by intro wS hSw;go_simp;(try with_reducible rfl))
  (hs:Region.noSelect ops=true:=by kernel_rfl) (hf:Region.free md ops listed i=true:=by kernel_rfl) (hr:(Region.ready md ops listed).contains i=true:=by kernel_rfl)
  (hQ:∀ c a w,Q (.panic c) (a.put dst v) w→Q (.panic c) a w:=by exact fun _ _ _ h=>h)
  (hw:Region.wanted ⟨dst,op,ty,ps,af,gd⟩ (yielded ops a.tmps)=true:=by rfl) (hS:S w:=by assumption)
  (hl:listed.setIfInBounds i true=l2:=by (try simp only [List.setIfInBounds_toArray]);(try simp only [List.set_cons_succ]);(try simp only [List.set_cons_zero]);(try rfl))
  (ha:a.put dst v=a2:=by (try simp only [Act.put,qa1,qa2,qa3]);(try rfl)):wpAnyH P md ops Q S (fuel+1) listed a w:=
 tkT i hi hv h hs hf hr hQ hw hS hl ha
end
theorem ret_int {k:IntKind} {a b:Int} (h:a=b):Ending.returned (.int k a)=.returned (.int k b):=by rw [h]
theorem bool_eq {a b:Bool} (h:a=b):Value.bool a=.bool b:=by rw [h]
theorem int_eq {k:IntKind} {a b:Int} (h:a=b):Value.int k a=.int k b:=by rw [h]
theorem ret_bool {a b:Bool} (h:a=b):Ending.returned (.bool a)=.returned (.bool b):=by rw [h]
section
variable {H:Type} {enc:TypeId×Value→H} {P:Program}
theorem trodAll_below (hl:laidOutB P=true) {W W':World} (hb:Below W.heap.size W W') {sp:Nat→Bool} :
  ∀ (ts:List TypeId) (vs:List Value) (ds:List (DataW H)) (ps:List MemPlace),
   (ts.all fun t=>P.readableRec t && decide (t < P.types.size))=true →
   DataW.TrodAll enc P W 0 (fun _=>true) true ts vs ds ps→(∀ x ∈ ps,x.block < W.heap.size)→(∀ x ∈ ps,sp x.block=true)→DataW.TrodAll enc P W' 0 sp true ts vs ds ps
 | [],vs,ds,ps,_,h,_,_=>by
  cases vs <;> cases ds <;> simp [DataW.TrodAll] at h ⊢
  exact h
 | t :: ts,vs,ds,ps,hr,h,hlt,hs=>by
  obtain ⟨v,vs',d,ds',p,q,rfl,rfl,rfl,h1,h2⟩:=trodAll_cons h
  simp only [List.all_cons,Bool.and_eq_true,decide_eq_true_eq] at hr
  refine trodAll_cons_mk ?_ (trodAll_below hl hb ts vs' ds' q hr.2 h2 (fun x hx=>hlt x (by simp [hx])) (fun x hx=>hs x (by simp [hx])))
  exact WideElems.Trod_stays hl hr.1.1 hr.1.2 h1 (fun x hx=>hb.same (hlt x (by simp [hx]))) (fun x hx=>hs x (by simp [hx]))
theorem law_post {f:Func} {s:ChangeSpec} {W W':World} {args:Array Value} {tb:TypeId} {ds gs:List (DataW H)} {before:List MemPlace}
  (hl:laidOutB P=true) (hp:(f.params.toList.all fun t=>P.readableRec t && decide (t < P.types.size))=true)
  (hr:f.resultTypes=#[tb]) (hub:P.underlying tb=some .bool) (hvars:s.vars=[])
  (hspec:(s.fn H (ds++[])).results=[.lit (.bool true)]∧(s.fn H (ds++[])).args=ds∧(s.fn H (ds++[])).vars=[])
  (hW:DataW.Whole enc P f.params.toList s.vars false W args.toList ds gs before) (hb:Below W.heap.size W W') :
  s.post enc P f false true false false W args (.bool true) W':=by
 have hW0:=hW
 have hlt:=hW.lt
 obtain ⟨p,q,hA,hV,rfl,hfz,hnd⟩:=hW
 rw [hvars] at hV
 obtain ⟨rfl,rfl⟩:=trodVars_none hV
 obtain ⟨e1,e2,e3⟩:=hspec
 have hold:∀ x ∈ p++[],(fun b=>decide (b < W.heap.size)) x.block=true:=fun x hx=>by simpa using hlt x hx
 refine ⟨ds,[],p++[],[],p,[],hW0,?_,?_,?_,hb.frame _,fun h=>by cases h⟩
 ·rw [e1,hr]
  exact trodAll_mk1 (shut_bool hub _)
 ·rw [e2]
  exact trodAll_below hl hb _ _ _ _ hp hA (fun x hx=>hlt x (by simp [hx])) (fun x hx=>hold x (by simp [hx]))
 ·rw [e3,hvars]
  rfl
end
/-! ### Rows of cells that are read -/
def Row (w:World) (a:Option Addr) (xs:List Value):Prop:=
 xs=[]∨∃ b off,a=some ⟨b,off,none⟩∧∀ i u,xs[i]?=some u→w.cell? ⟨b,off+i,none⟩=some u
theorem Row.below {w w':World} {a:Option Addr} {xs:List Value} (h:Row w a xs) {B:Nat} (hB:w.heap.size≤B) (hb:Below B w w'):Row w' a xs:=by
 rcases h with h | ⟨b,off,ha,h⟩
 ·exact .inl h
 ·refine .inr ⟨b,off,ha,fun i u hu=>?_⟩
  have h1:=h i u hu
  have h2:=World.block_lt_of_cell? _ _ h1
  rw [hb.cell (p:=⟨b,off+i,none⟩) (by simp only at h2 ⊢;omega)]
  exact h1
theorem Row.below0 {w w':World} {a:Option Addr} {xs:List Value} (h:Row w a xs) (hb:Below w.heap.size w w'):Row w' a xs:=h.below (Nat.le_refl _) hb
theorem Row.at {w:World} {a:Option Addr} {xs:List Value} (h:Row w a xs) {k:Nat} (hk:k < xs.length):∃ b off,a=some ⟨b,off,none⟩∧∀ i u,xs[i]?=some u→w.cell? ⟨b,off+i,none⟩=some u:=by
 rcases h with h | h
 ·subst h;simp at hk
 ·exact h
theorem Row.int {w:World} {a:Option Addr} {k:IntKind} {l:List Int} (h:Row w a (l.map (Value.int k))) {i:Nat} (hi:i < l.length) :
  ∃ b off x,a=some ⟨b,off,none⟩∧l[i]?=some x∧w.cell? ⟨b,off+i,none⟩=some (.int k x):=by
 obtain ⟨b,off,ha,hc⟩:=h.at (k:=i) (by simpa using hi)
 exact ⟨b,off,l[i],ha,by simp [hi],hc i _ (by simp [hi])⟩
theorem addr_add (b o j:Nat):(⟨b,o,none⟩:Addr).add j=⟨b,o+j,none⟩:=by
 unfold Addr.add
 by_cases h:j=0 <;> simp [h]
theorem cell_new (w:World) (cs:Array Value) (e:TypeId) (j:Nat):(w.alloc (.cells cs e)).cell? ⟨w.heap.size,j,none⟩=cs[j]?:=by simp [go_sem]
theorem Row.of_owns {w:World} {base n size:Nat} {e:TypeId} {v:Value} {xs:List Value} (h:w.ownsRow base e size v n xs):∃ a cap,v=.slice a n cap∧Row w a xs∧n≤cap∧cap≤maxLen:=by
 have h0:=h
 obtain ⟨hl,⟨rfl,rfl⟩ | ⟨g,cap,cur,rfl,hg,hc,hn,hm,hs,ht⟩⟩:=h
 ·refine ⟨none,0,rfl,.inl ?_,Nat.le_refl _,by simp⟩
  simpa using hl
 ·refine ⟨some ⟨g,0,none⟩,cap,rfl,.inr ⟨g,0,rfl,fun i u hu=>?_⟩,hn,hm⟩
  have:=h0.cells (g:=g) rfl i u hu
  rw [addr_add] at this
  exact this
theorem owns_mono {w:World} {base base' n size:Nat} {e:TypeId} {v:Value} {xs:List Value} (h:w.ownsRow base e size v n xs) (hb:base'≤base):w.ownsRow base' e size v n xs:=by
 obtain ⟨hl,h | ⟨g,cap,cur,hv,hg,r⟩⟩:=h
 ·exact ⟨hl,.inl h⟩
 ·exact ⟨hl,.inr ⟨g,cap,cur,hv,Nat.le_trans hb hg,r⟩⟩
structure ElemT (P:Program) (t e:TypeId) (size bytes:Nat):Prop where
 ex:∃ i z,P.underlying t=some (.slice e)∧P.info? e=some i∧i.zero=some z∧i.size=size∧i.bytes=bytes∧z.cells.size=size∧0 < size
theorem ElemT.of {P:Program} {t e:TypeId} {size bytes:Nat} (z:Value) (ht:P.underlying t=some (.slice e)) (hi:(P.info? e).map (fun i=>(i.zero,i.size,i.bytes))=some (some z,size,bytes)) (hz:z.cells.size=size) (hp:0 < size):ElemT P t e size bytes:=by
 obtain ⟨i,h1,h2,h3,h4⟩:=info_parts hi
 exact ⟨⟨i,z,ht,h1,h2,h3,h4,hz,hp⟩⟩
theorem wpList_append1 {P:Program} {w:World} {ops:Array Oper} {rest:List Oper} {o:Oper} {a:Act} {Q:Exit→Act→World→Prop} (hgd:o.guard=none) (s x:Operand) (t e:TypeId) {size bytes:Nat} (hT:ElemT P t e size bytes)
  (ho:o.op=.call { callee:=.builtin .append,args:=#[s,x],argTypes:=#[t,t] })
  (base:Nat) (v:Value) (n:Nat) (xs:List Value) (hs:a.eval s=v) (hown:w.ownsRow base e size v n xs)
  (cs:Array Value) (hcs:cs.size=size) (h1:∀ u ∈ cs.toList,u.oneCell'=true) (e':TypeId) (hx:a.eval x=.slice (some ⟨w.heap.size,0,none⟩) 1 1)
  (hn:n < 4294967296) (hby:bytes≤4096) (hbase:base≤w.heap.size)
  (h:∀ v' w',w'.ownsRow base e size v' (n+1) (xs++cs.toList)→Below base w w'→(v'=.slice none 0 0→False)→wpList P ops Q rest (a.put o.dst v') w') :
  wpList P ops Q (o :: rest) a (w.alloc (.cells cs e')):=by
 obtain ⟨i,z,ht,hi,hz,hsize,hbytes,hzs,hsz⟩:=hT.ex
 refine wpList_append_own _ hgd s x t ho base e i z size bytes ht hi hz hsize hbytes hzs hsz v n xs hs (hown.alloc _) ⟨w.heap.size,0,none⟩ 1 1 cs.toList hx (by simp [hcs]) ?_ h1 (by unfold maxLen;omega) ?_ ?_ ?_
 ·intro j u hj
  rw [addr_add,Nat.zero_add,cell_new]
  simpa using hj
 ·have:(n+1) * bytes≤4294967296 * 4096:=Nat.mul_le_mul (by omega) hby
  omega
 ·have:(w.alloc (.cells cs e')).heap.size=w.heap.size+1:=by simp
  omega
 ·intro v' w' h2 h3 h4
  refine h v' w' h2 ?_ (fun hv=>?_)
  ·have hb:Below base w (w.alloc (.cells cs e')):=(Below.refl _ _).alloc hbase _
   refine hb.grown h3 (by simp;omega) (fun k hk=>?_)
   exact (hown.lt k hk).1
  ·have:=(h4.1 hv).2
   omega
def isums (l:List Int):List Value:=l.map (Value.int .i64)
end
section
abbrev Tx:=ByteArray
abbrev Pr:=Tx×Tx
def kl (a b:Tx):Bool:=Op.bytesLess a.toList b.toList
theorem tx_ext {a b:Tx} (h:a.toList=b.toList):a=b:=by
 rw [ByteArray.toList_eq,ByteArray.toList_eq] at h
 exact ByteArray.ext (Array.toList_inj.mp h)
def keyOk (k:Tx):Bool:=decide (1≤k.size) && decide (k.size≤8)
def valOk (v:Tx):Bool:=decide (v.size≤16)
def goodAt (l:List Pr) (i:Nat):Bool:=
 match l[i]? with
 | none=>true
 | some p=>keyOk p.1 && valOk p.2 && (decide (i=0) || match l[i - 1]? with | none=>true | some q=>kl q.1 p.1)
def goods (l:List Pr) (k:Nat):Bool:=(List.range k).all (goodAt l)
def mayS (l:List Pr):Bool:=decide (l.length≤8) && goods l l.length
def Rises (l:List Pr):Prop:=l.Pairwise (fun p q=>kl p.1 q.1=true)
/-! ### Ahead of a key,at it,behind it -/
def lo (l:List Pr) (k:Tx):List Pr:=l.filter (fun p=>kl p.1 k)
def mid (l:List Pr) (k:Tx):List Pr:=l.filter (fun p=>decide (p.1=k))
def hi (l:List Pr) (k:Tx):List Pr:=l.filter (fun p=>kl k p.1)
def look (l:List Pr) (k:Tx):Option Tx:=(mid l k).head?.map (·.2)
def putL (l:List Pr) (k v:Tx):List Pr:=lo l k++(k,v) :: hi l k
def delL (l:List Pr) (k:Tx):List Pr:=lo l k++hi l k
def Pos (l:List Pr) (k:Tx) (i:Nat):Prop:=
 i≤l.length∧(∀ j q,l[j]?=some q→j < i→kl q.1 k=true)∧(∀ j q,l[j]?=some q→i≤j→kl q.1 k=false)
/-! ### Operations -/
structure Opn where
 kind:Int
 key:Tx
 old:Tx
 val:Tx
structure Rp where
 err:Int
 found:Bool
 val:Tx
def mayO (o:Opn):Bool:=
 keyOk o.key && valOk o.old && valOk o.val &&
  (if o.kind=1∨o.kind=3 then decide (o.old.size=0) && decide (o.val.size=0) else if o.kind=2 then decide (o.old.size=0) else decide (o.kind=4))
def wasR (l:List Pr) (k:Tx):Rp:=match look l k with | none=>⟨0,false,⟨#[]⟩⟩ | some v=>⟨0,true,v⟩
def doP (l:List Pr) (o:Opn):List Pr×Rp:=
 if mayS l=false then ([],⟨2,false,⟨#[]⟩⟩)
 else if mayO o=false then (l,⟨210,false,⟨#[]⟩⟩)
 else if o.kind=1 then (l,wasR l o.key)
 else if o.kind=2 then (if look l o.key=none∧l.length=8 then (l,⟨211,false,⟨#[]⟩⟩) else (putL l o.key o.val,wasR l o.key))
 else if o.kind=3 then (delL l o.key,wasR l o.key)
 else if look l o.key=some o.old then (putL l o.key o.val,wasR l o.key) else (l,{ wasR l o.key with found:=false })
end
section
structure En where
 kind:Int
 cli:Int
 seq:Int
 op:Opn
def big40:Int:=1099511627776
def nilO (o:Opn):Bool:=o.kind==0 && o.key.toList==[] && o.old.toList==[] && o.val.toList==[]
def mayE (e:En):Bool:=
 if e.kind=1 then e.cli==0 && e.seq==0 && nilO e.op
 else e.kind==2 && decide (0≤e.cli) && decide (e.cli < 4) && decide (1≤e.seq) && decide (e.seq≤big40) && mayO e.op && e.op.kind != 1
def enA (e:En):Array Value:=#[.int .u8 e.kind,.int .i64 e.cli,.int .i64 e.seq,.int .u8 e.op.kind,.string e.op.key,.string e.op.old,.string e.op.val]
def enC (e:En):List Value:=(enA e).toList
end
section
structure Bal where
 rnd:Int
 rep:Int
structure SRec where
 st:Nat
 idx:Int
 bal:Bal
 wh:Int
structure SCp where
 st:Nat
 idx:Int
 bal:Bal
 e:En
def lessB (a b:Bal):Bool:=decide (a.rnd < b.rnd) || (a.rnd==b.rnd && decide (a.rep < b.rep))
def ofS (c:SCp) (i:Int):Bool:=c.st==1 && c.idx==i
def stepS (f:Nat→SCp) (i:Int) (least:Bal) (out:Option Nat) (k:Nat):Option Nat:=
 if ofS (f k) i && (!lessB (f k).bal least && (match out with | none=>true | some o=>lessB (f o).bal (f k).bal)) then some k else out
def bestS (f:Nat→SCp) (i:Int) (first:Nat) (least:Bal):Option Nat:=stepS f i least (stepS f i least none first) (1 - first)
def badS (f:Nat→SCp):Bool:=(f 0).st==2 || (f 1).st==2
def beyondS (p:SRec) (f:Nat→SCp) (i:Int):Bool:=(p.st==1 && decide (i < p.idx)) || (((f 0).st==1 && decide (i < (f 0).idx)) || ((f 1).st==1 && decide (i < (f 1).idx)))
def minBal:Bal:=⟨-9223372036854775808,-9223372036854775808⟩
def intactS (p:SRec) (f:Nat→SCp) (i:Int):Option Nat:=
 if p.st=1∧p.idx=i then bestS f i (p.wh % 2).toNat p.bal
 else if beyondS p f i=true∨(p.st=2∧badS f=true) then none
 else bestS f i 0 minBal
def nextS (p:SRec) (f:Nat→SCp) (i:Int):Nat:=
 match intactS p f i with
 | some k=>1 - k
 | none=>if p.st=1 then 1 - (p.wh % 2).toNat else 0
section
variable {p:SRec} {f:Nat→SCp} {i:Int} {least:Bal} {first:Nat}
end
end
section
def byv (b:UInt8):Value:=.int .u8 (b.toNat:Int)
def bys (l:List UInt8):List Value:=l.map byv
theorem bys_len (l:List UInt8):(bys l).length=l.length:=by simp [bys]
theorem bys_app (l m:List UInt8):bys (l++m)=bys l++bys m:=by simp [bys]
theorem bys_one {l:List UInt8}:∀ u ∈ bys l,u.oneCell'=true:=by
 intro u hu
 simp only [bys,List.mem_map] at hu
 obtain ⟨z,_,rfl⟩:=hu
 rfl
theorem Row.byte {w:World} {a:Option Addr} {l:List UInt8} (h:Row w a (bys l)) {i:Nat} (hi:i < l.length) :
  ∃ b off,a=some ⟨b,off,none⟩∧w.cell? ⟨b,off+i,none⟩=some (.int .u8 (l[i].toNat:Int)):=by
 obtain ⟨b,off,ha,hc⟩:=h.at (k:=i) (by rw [bys_len];exact hi)
 exact ⟨b,off,ha,hc i _ (by simp [bys,hi,byv])⟩
theorem Row.byteAt {w:World} {b off:Nat} {l:List UInt8} (h:Row w (some ⟨b,off,none⟩) (bys l)) {i:Nat} (hi:i < l.length):w.cell? ⟨b,off+i,none⟩=some (.int .u8 (l[i].toNat:Int)):=by
 obtain ⟨b',off',e,hc⟩:=h.byte hi
 cases e
 exact hc
def manyI (w:Int):Int:=if w=1 then 256 else if w=2 then 65536 else if w=4 then 4294967296 else if w=6 then 281474976710656 else 0
theorem manyI_bd (w:Int):0≤manyI w∧manyI w≤281474976710656:=by unfold manyI;split;omega;split;omega;split;omega;split <;> omega
def fitsB (w n:Int):Bool:=decide (0≤n) && decide (n < manyI w)
theorem fits_w {w n:Int} (h:fitsB w n=true):(w=1∨w=2∨w=4∨w=6)∧0≤n∧n < manyI w:=by
 simp only [fitsB,Bool.and_eq_true,decide_eq_true_eq] at h
 refine ⟨?_,h.1,h.2⟩
 have:=h.2
 unfold manyI at this
 split at this;· omega
 split at this;· omega
 split at this;· omega
 split at this <;> omega
def le:Nat→Nat→List UInt8
 | 0,_=>[]
 | k+1,n=>UInt8.ofNat (n % 256) :: le k (n / 256)
theorem le_len (k n:Nat):(le k n).length=k:=by
 induction k generalizing n with
 | zero=>rfl
 | succ k ih=>simp [le,ih]
theorem le_snoc (k n:Nat):le (k+1) n=le k n++[UInt8.ofNat (n / 256 ^ k % 256)]:=by
 induction k generalizing n with
 | zero=>simp [le]
 | succ k ih=>
  rw [le,ih (n / 256)]
  simp only [le,List.cons_append,List.cons.injEq,true_and,List.append_cancel_left_eq,and_true]
  rw [Nat.div_div_eq_div_mul,Nat.pow_succ']
theorem byv_shift (n j:Nat):byv (UInt8.ofNat (n / 256 ^ j % 256))=.int .u8 ((n:Int) / 2 ^ (8 * j) % 256):=by
 unfold byv
 congr 1
 have e:(2:Int) ^ (8 * j)=((256 ^ j:Nat):Int):=by
  rw [Int.pow_mul];norm_cast
 rw [e,← Int.natCast_ediv,show (256:Int)=((256:Nat):Int) from rfl,← Int.natCast_emod]
 congr 1
 simp
theorem byv_low (n:Nat):byv (UInt8.ofNat (n % 256))=.int .u8 ((n:Int) % 256):=by
 have:=byv_shift n 0
 simpa using this
def ofLe:List UInt8→Nat
 | []=>0
 | b :: l=>b.toNat+256 * ofLe l
theorem ofLe_lt:∀ l:List UInt8,ofLe l < 256 ^ l.length
 | []=>by simp [ofLe]
 | b :: l=>by
  have h1:=ofLe_lt l
  have h2:b.toNat < 256:=b.toNat_lt
  simp only [ofLe,List.length_cons,Nat.pow_succ]
  omega
theorem ofLe_le (k n:Nat) (h:n < 256 ^ k):ofLe (le k n)=n:=by
 induction k generalizing n with
 | zero=>simp at h;subst h;rfl
 | succ k ih=>
  simp only [le,ofLe]
  rw [ih (n / 256) (by rw [Nat.pow_succ] at h;omega)]
  have:(UInt8.ofNat (n % 256)).toNat=n % 256:=by simp
  rw [this];omega
theorem le_ofLe:∀ l:List UInt8,le l.length (ofLe l)=l
 | []=>rfl
 | b :: l=>by
  have h2:b.toNat < 256:=b.toNat_lt
  simp only [List.length_cons,le,ofLe]
  rw [show (b.toNat+256 * ofLe l) / 256=ofLe l by omega,show (b.toNat+256 * ofLe l) % 256=b.toNat by omega,le_ofLe l]
  simp
theorem ofLe_app (l m:List UInt8):ofLe (l++m)=ofLe l+256 ^ l.length * ofLe m:=by
 induction l with
 | nil=>simp [ofLe]
 | cons b l ih=>
  simp only [List.cons_append,ofLe,ih,List.length_cons,Nat.pow_succ]
  rw [Nat.mul_add,Nat.mul_comm (256 ^ l.length) 256,Nat.mul_assoc]
  omega
end
section
variable {P:Program}
theorem wpList_run {w w':World} {v:Value} {ops:Array Oper} {rest:List Oper} {o:Oper} {a:Act} {Q:Exit→Act→World→Prop} (hgd:o.guard=none)
  (hr:(execOp a.eval o).run P w=.ok (.value v) w') (h:wpList P ops Q rest (a.put o.dst v) w'):wpList P ops Q (o :: rest) a w:=
 wpList_plain hgd fun K hK=>by
  unfold Oper.wp
  rw [hr]
  exact hK _ _ h
theorem exec_copy {w w':World} {o:Oper} {a:Act} {v':Value} (d s:Operand) (dT sT:TypeId) (ho:o.op=.call { callee:=.builtin .copy,args:=#[d,s],argTypes:=#[dT,sT] })
  (vd vs:Value) (hd:a.eval d=vd) (hs:a.eval s=vs) (hr:(Builtin.copy_ #[dT,sT] o.type #[vd,vs]).run P w=.ok v' w'):(execOp a.eval o).run P w=.ok (.value v') w':=by
 simp [execOp,ho,resolve,invoke,builtin,hd,hs,hr,Result.andThen]
theorem exec_append {w w':World} {o:Oper} {a:Act} {v':Value} (d s:Operand) (dT sT:TypeId) (ho:o.op=.call { callee:=.builtin .append,args:=#[d,s],argTypes:=#[dT,sT] })
  (vd vs:Value) (hd:a.eval d=vd) (hs:a.eval s=vs) (hr:(Builtin.append_ #[dT,sT] o.type #[vd,vs]).run P w=.ok v' w'):(execOp a.eval o).run P w=.ok (.value v') w':=by
 simp [execOp,ho,resolve,invoke,builtin,hd,hs,hr,Result.andThen]
theorem run_copyK (w:World) (dT sT ty elem:TypeId) (size:Nat) (hu:P.underlying dT=some (.slice elem)) (hsz:(P.info? elem).map (·.size)=some size)
  (g o dLen dCap:Nat) (a:Addr) (sLen sCap:Nat) (cur:List Value) (t:TypeId) (cs:List Value)
  (hg:w.heap[g]?=some (.cells cur.toArray t (0,0))) (hn:cs.length=Nat.min sLen dLen * size)
  (hsrc:∀ j v,cs[j]?=some v→w.cell? (a.add j)=some v) (hfit:o+cs.length≤cur.length) (h1:∀ v ∈ cs,v.oneCell'=true) :
  (Builtin.copy_ #[dT,sT] ty #[.slice (some ⟨g,o,none⟩) dLen dCap,.slice (some a) sLen sCap]).run P w =
   .ok (goInt (Nat.min sLen dLen)) (w.setRow g (splice cur o cs).toArray):=by
 have hl:=run_firstCells_some (P:=P) w size (Nat.min sLen dLen) a sLen sCap cs hn hsrc
 have hst:=run_storeCells_at P g o t cs 0 cur.toArray w hg (by simpa using hfit) h1
 cases hq:P.info? elem with
 | none=>simp [hq] at hsz
 | some i=>
  have hi:i.size=size:=by simpa [hq] using hsz
  simp only [Nat.add_zero,List.append_assoc] at hst
  simp [Builtin.copy_,run_underlying hu,Builtin.lenOf,sizeOf,typeInfo,hq,hi,hl,hst,splice]
def OwnRes (base:Nat) (e:TypeId) (size n:Nat) (xs:List Value) (en:Ending) (w':World):Prop:=∃ v,en=.returned v∧w'.ownsRow base e size v n xs
theorem exec_append_own {w:World} {o:Oper} {a:Act} (s x:Operand) (t e:TypeId) {size bytes:Nat} (hT:ElemT P t e size bytes) (ho:o.op=.call { callee:=.builtin .append,args:=#[s,x],argTypes:=#[t,t] })
  (base:Nat) (v:Value) (n:Nat) (xs:List Value) (hs:a.eval s=v) (hown:w.ownsRow base e size v n xs)
  (ad:Addr) (m c:Nat) (news:List Value) (hx:a.eval x=.slice (some ad) m c) (hl:news.length=m * size) (hnews:∀ j u,news[j]?=some u→w.cell? (ad.add j)=some u) (h1:∀ u ∈ news,u.oneCell'=true)
  (hn:n+m≤4294967296) (hby:bytes≤4096) (hbase:base≤w.heap.size) :
  ∃ v' w',(execOp a.eval o).run P w=.ok (.value v') w'∧w'.ownsRow base e size v' (n+m) (xs++news)∧Below base w w'∧(0 < m→v'≠.slice none 0 0):=by
 obtain ⟨i,z,ht,hi,hz,hsize,hbytes,hzs,hsz⟩:=hT.ex
 have hb1:(n+m) * bytes≤4294967296 * 4096:=Nat.mul_le_mul hn hby
 obtain ⟨v',w',hr,h2,h3,h4⟩:=run_append_own (P:=P) (w:=w) base t o.type e i z size bytes ht hi hz hsize hbytes hzs hsz v n xs hown ad m c news hl hnews h1 (by unfold maxLen;omega) (by omega) hbase
 refine ⟨v',w',exec_append s x t t ho _ _ hs hx hr,h2,?_,fun hm hv=>?_⟩
 ·exact (Below.refl _ _).grown h3 hbase (fun k hk=>(hown.lt k hk).1)
 ·have:=(h4.1 hv).2
  omega
theorem wpList_appendN {w:World} {ops:Array Oper} {rest:List Oper} {o:Oper} {a:Act} {Q:Exit→Act→World→Prop} (hgd:o.guard=none) (s x:Operand) (t e:TypeId) {size bytes:Nat} (hT:ElemT P t e size bytes)
  (ho:o.op=.call { callee:=.builtin .append,args:=#[s,x],argTypes:=#[t,t] })
  (base:Nat) (v:Value) (n:Nat) (xs:List Value) (hs:a.eval s=v) (hown:w.ownsRow base e size v n xs)
  (ad:Addr) (m c:Nat) (news:List Value) (hx:a.eval x=.slice (some ad) m c) (hl:news.length=m * size) (hnews:∀ j u,news[j]?=some u→w.cell? (ad.add j)=some u) (h1:∀ u ∈ news,u.oneCell'=true)
  (hn:n+m≤4294967296) (hby:bytes≤4096) (hbase:base≤w.heap.size)
  (h:∀ v' w',w'.ownsRow base e size v' (n+m) (xs++news)→Below base w w'→wpList P ops Q rest (a.put o.dst v') w'):wpList P ops Q (o :: rest) a w:=by
 obtain ⟨v',w',hr,h2,h3,_⟩:=exec_append_own (P:=P) s x t e hT ho base v n xs hs hown ad m c news hx hl hnews h1 hn hby hbase
 exact wpList_run hgd hr (h v' w' h2 h3)
theorem grownBy_setRow (w:World) (g:Nat) (cs:Array Value):w.grownBy (w.setRow g cs) (some g):=
 ⟨rfl,rfl,rfl,by simp [World.setRow],fun k _ hk=>setRow_other w g k cs (fun e=>hk (by simp [e]))⟩
theorem exec_copyK (w:World) {o:Oper} {a:Act} (d s:Operand) (dT sT elem:TypeId) (size:Nat) (hu:P.underlying dT=some (.slice elem)) (hsz:(P.info? elem).map (·.size)=some size)
  (ho:o.op=.call { callee:=.builtin .copy,args:=#[d,s],argTypes:=#[dT,sT] })
  (g off dLen dCap:Nat) (ad:Addr) (sLen sCap:Nat) (hd:a.eval d=.slice (some ⟨g,off,none⟩) dLen dCap) (hs:a.eval s=.slice (some ad) sLen sCap)
  (cur:List Value) (t:TypeId) (cs:List Value)
  (hg:w.heap[g]?=some (.cells cur.toArray t (0,0))) (hn:cs.length=Nat.min sLen dLen * size)
  (hsrc:∀ j v,cs[j]?=some v→w.cell? (ad.add j)=some v) (hfit:off+cs.length≤cur.length) (h1:∀ v ∈ cs,v.oneCell'=true) :
  ∃ w',(execOp a.eval o).run P w=.ok (.value (goInt (Nat.min sLen dLen))) w'∧w'.heap[g]?=some (.cells (splice cur off cs).toArray t (0,0))∧w.grownBy w' (some g):=
 ⟨_,exec_copy d s dT sT ho _ _ hd hs (run_copyK (P:=P) w dT sT o.type elem size hu hsz g off dLen dCap ad sLen sCap cur t cs hg hn hsrc hfit h1),
  setRow_heap w g _ _ t _ hg,grownBy_setRow w g _⟩
theorem wpList_copyK {w:World} {ops:Array Oper} {rest:List Oper} {o:Oper} {a:Act} {Q:Exit→Act→World→Prop} (hgd:o.guard=none) (d s:Operand) (dT sT elem:TypeId) (size:Nat) (hu:P.underlying dT=some (.slice elem)) (hsz:(P.info? elem).map (·.size)=some size)
  (ho:o.op=.call { callee:=.builtin .copy,args:=#[d,s],argTypes:=#[dT,sT] })
  (g off dLen dCap:Nat) (ad:Addr) (sLen sCap:Nat) (hd:a.eval d=.slice (some ⟨g,off,none⟩) dLen dCap) (hs:a.eval s=.slice (some ad) sLen sCap)
  (cur:List Value) (t:TypeId) (cs:List Value)
  (hg:w.heap[g]?=some (.cells cur.toArray t (0,0))) (hn:cs.length=Nat.min sLen dLen * size)
  (hsrc:∀ j v,cs[j]?=some v→w.cell? (ad.add j)=some v) (hfit:off+cs.length≤cur.length) (h1:∀ v ∈ cs,v.oneCell'=true)
  (h:∀ w',Hid (w'.heap[g]?=some (.cells (splice cur off cs).toArray t (0,0)))→w.grownBy w' (some g)→wpList P ops Q rest (a.put o.dst (goInt (Nat.min sLen dLen))) w'):wpList P ops Q (o :: rest) a w:=by
 obtain ⟨w',hr,h2,h3⟩:=exec_copyK (P:=P) w d s dT sT elem size hu hsz ho g off dLen dCap ad sLen sCap hd hs cur t cs hg hn hsrc hfit h1
 exact wpList_run hgd hr (h w' h2 h3)
theorem grown_below {w w':World} {row:Option Nat} (h:w.grownBy w' row) {B:Nat} (hB:B≤w.heap.size) (hr:∀ k,row=some k→B≤k):Below B w w':=(Below.refl _ _).grown h hB hr
theorem owns_of_cur {w:World} {base g n cap size:Nat} {e:TypeId} {cur ys:List Value} (hc:w.heap[g]?=some (.cells cur.toArray e (0,0))) (hb:base≤g) (hn:n≤cap) (hm:cap≤maxLen) (hl:cur.length=cap * size)
  (hy:cur.take (n * size)=ys):w.ownsRow base e size (.slice (some ⟨g,0,none⟩) n cap) n ys:=by
 refine ⟨?_,.inr ⟨g,cap,cur.toArray,rfl,hb,hc,hn,hm,by simpa using hl,by simpa using hy⟩⟩
 rw [← hy,List.length_take,hl]
 exact Nat.min_eq_left (Nat.mul_le_mul_right _ hn)
theorem cells_row {w:World} {g off:Nat} {A B C:List Value} {e:TypeId} {fr:Nat×Nat} (hc:w.heap[g]?=some (.cells (A++B++C).toArray e fr)) (ho:off=A.length):∀ j u,B[j]?=some u→w.cell? ((⟨g,off,none⟩:Addr).add j)=some u:=by
 intro j u hj
 have hj2:=(List.getElem?_eq_some_iff.1 hj).1
 subst ho
 rw [addr_add]
 simp only [World.cell?,hc]
 simp only [List.getElem?_toArray]
 rw [List.append_assoc,List.getElem?_append_right (by omega),List.getElem?_append_left (by omega)]
 simpa using hj
theorem run_append_nothing (w:World) (t ty e:TypeId) {size bytes:Nat} (hT:ElemT P t e size bytes) (ba:Option Addr) (n cap:Nat) (hn:n≤cap) (ad:Option Addr) (c:Nat) :
  (Builtin.append_ #[t,t] ty #[.slice ba n cap,.slice ad 0 c]).run P w=.ok (.slice ba n cap) w:=by
 obtain ⟨i,z,ht,hi,hz,hsize,hbytes,hzs,hsz⟩:=hT.ex
 cases ba <;> cases ad <;> simp [Builtin.append_,run_underlying ht,sizeOf,typeInfo,hi,Builtin.lenOf,Builtin.firstCells,loadCells,loadCellsFrom,hn,storeCells]
theorem wpList_append_row {w:World} {ops:Array Oper} {rest:List Oper} {o:Oper} {a:Act} {Q:Exit→Act→World→Prop} (hgd:o.guard=none) (s x:Operand) (t e:TypeId) {size bytes:Nat} (hT:ElemT P t e size bytes)
  (ho:o.op=.call { callee:=.builtin .append,args:=#[s,x],argTypes:=#[t,t] })
  (base:Nat) (v:Value) (n:Nat) (xs:List Value) (hs:a.eval s=v) (hown:w.ownsRow base e size v n xs)
  (ad:Option Addr) (m c:Nat) (news:List Value) (hx:a.eval x=.slice ad m c) (hl:news.length=m * size) (hrow:Row w ad news) (h1:∀ u ∈ news,u.oneCell'=true)
  (hn:n+m≤4294967296) (hby:bytes≤4096) (hbase:base≤w.heap.size)
  (h:∀ v' w',w'.ownsRow base e size v' (n+m) (xs++news)→Below base w w'→wpList P ops Q rest (a.put o.dst v') w'):wpList P ops Q (o :: rest) a w:=by
 by_cases hm:m=0
 ·subst hm
  have hnil:news=[]:=List.eq_nil_of_length_eq_zero (by simpa using hl)
  subst hnil
  obtain ⟨ba,cap,hv,_,hnc,_⟩:=Row.of_owns hown
  subst hv
  refine wpList_run hgd (exec_append s x t t ho _ _ hs hx (run_append_nothing (P:=P) w t o.type e hT ba n cap hnc ad c)) (h _ _ ?_ (Below.refl _ _))
  simpa using hown
 ·obtain ⟨i,z,ht,hi,hz,hsize,hbytes,hzs,hsz⟩:=hT.ex
  have hpos:0 < news.length:=by rw [hl];exact Nat.mul_pos (by omega) hsz
  obtain ⟨b,off,rfl,hc⟩:=hrow.at hpos
  refine wpList_appendN hgd s x t e hT ho base v n xs hs hown ⟨b,off,none⟩ m c news hx hl (fun j u hj=>?_) h1 hn hby hbase h
  rw [addr_add]
  exact hc j u hj
theorem owns_some {w:World} {base n size:Nat} {e:TypeId} {v:Value} {xs:List Value} (h:w.ownsRow base e size v n xs) (hn:0 < n):∃ g cap,v=.slice (some ⟨g,0,none⟩) n cap∧base≤g:=by
 obtain ⟨_,⟨_,h⟩ | ⟨g,cap,cur,hv,hg,_⟩⟩:=h
 ·omega
 ·exact ⟨g,cap,hv,hg⟩
theorem owns_empty (w:World) (e:TypeId) (size:Nat):(w.alloc (.cells #[] e)).ownsRow w.heap.size e size (.slice (some ⟨w.heap.size,0,none⟩) 0 0) 0 []:=
 owns_of_cur (cur:=[]) (heap_alloc_new w _) (Nat.le_refl _) (Nat.le_refl _) (by simp) (by simp) (by simp)
end
section
theorem many_any (n:Int) (w:World):Calls Tryz.prog 174 #[.int .i64 n] w fun e w'=>e=.returned (.int .i64 (manyI n))∧Below w.heap.size w w':=by
 by_cases h0:n < 0
 ·go_enter func174,ntmps174
  go_wp2
  go_ret
  exact ⟨ret_int (by unfold manyI;split;omega;split;omega;split;omega;split <;> omega),(Below.refl _ _).alloc (Nat.le_refl _) _⟩
 ·by_cases h7:7≤n
  ·go_enter func174,ntmps174
   go_wp2
   go_ret
   exact ⟨ret_int (by unfold manyI;split;omega;split;omega;split;omega;split <;> omega),(Below.refl _ _).alloc (Nat.le_refl _) _⟩
  ·have h:n=0∨n=1∨n=2∨n=3∨n=4∨n=5∨n=6:=by omega
   rcases h with rfl | rfl | rfl | rfl | rfl | rfl | rfl
   all_goals
    go_enter func174,ntmps174
    go_wp2
    go_ret
    exact ⟨rfl,(Below.refl _ _).alloc (Nat.le_refl _) _⟩
theorem fits_any (k n:Int) (w:World):Calls Tryz.prog 182 #[.int .i64 k,.int .i64 n] w fun e w'=>e=.returned (.bool (fitsB k n))∧Below w.heap.size w w':=by
 by_cases h0:0≤n
 ·go_enter func182,ntmps182
  go_wp2_with (go_at_call 174;refine (many_any _ _).mono ?_;rintro e w1 ⟨rfl,hb1⟩)
  go_ret
  exact ⟨ret_bool (by simp [fitsB,h0]),hb1⟩
 ·go_enter func182,ntmps182
  go_wp2
  go_ret
  exact ⟨ret_bool (by unfold fitsB;rw [decide_eq_false (by omega)];rfl),Below.refl _ _⟩
theorem elByte:ElemT Tryz.prog 37 5 1 1:=ElemT.of (.int .u8 0) underlying37 (by kernel_rfl) rfl (by decide)
theorem wpList_makeN {P:Program} {w:World} {ops:Array Oper} {rest:List Oper} {o:Oper} {a:Act} {Q:Exit→Act→World→Prop} (hgd:o.guard=none) (l c:Operand) (t:TypeId) (hop:o.op=Op.makeSlice t l c) {e:TypeId} {size bytes:Nat} (hT:ElemT P t e size bytes)
  (base:Nat) (kl kc:IntKind) (L C:Int) (n:Nat) (hl:a.eval l=.int kl L) (hc:a.eval c=.int kc C) (hL:L=(n:Int)) (hC:C=(n:Int)) (hn:n≤4294967296) (hby:bytes≤4096) (b4:base≤w.heap.size)
  (hK:∀ w' zs,zs.length=n * size→w'.ownsRow base e size (.slice (some ⟨w.heap.size,0,none⟩) n n) n zs→w.grownBy w' none→wpList P ops Q rest (a.put o.dst (.slice (some ⟨w.heap.size,0,none⟩) n n)) w') :
  wpList P ops Q (o :: rest) a w:=by
 obtain ⟨i,z,ht,hi,hz,hsize,hbytes,hzs,hsz⟩:=hT.ex
 have hb1:bytes * n≤4096 * 4294967296:=Nat.mul_le_mul hby hn
 exact wpList_make_full w hgd l c t hop base e i z size ht hi hz hsize kl kc L C n hl hc hL hC (by rw [hbytes];omega) (by unfold maxLen;omega) b4 (fun w' h1 h2=>hK w' _ h1.1 h1 h2)
def OwnBytes (base:Nat) (l:List UInt8) (err:Int) (e:Ending) (w':World):Prop:=∃ v,e=.returned (.tuple #[v,.int .i64 err])∧w'.ownsRow base 5 1 v l.length (bys l)
def oputL (k n:Int):List UInt8:=if fitsB k n=true then le k.toNat n.toNat else []
def oputE (k n:Int):Int:=if fitsB k n=true then 0 else 2
theorem put_any (k n:Int) (w:World):Calls Tryz.prog 117 #[.int .i64 k,.int .i64 n] w fun e w'=>OwnBytes w.heap.size (oputL k n) (oputE k n) e w'∧Below w.heap.size w w':=by
 unfold oputL oputE
 cases hf:fitsB k n
 ·rw [if_neg (by simp),if_neg (by simp)]
  have HF:=Lib.hid hf
  clear hf
  go_enter func117,ntmps117
  go_wp2_with (go_at_call 182;refine (fits_any _ _ _).mono ?_;rintro e w1 ⟨rfl,hb1⟩;rw [HF.out])
  go_ret2
  exact ⟨⟨.slice none 0 0,rfl,World.ownsRow_nil _ _ _ _⟩,hb1⟩
 ·rw [if_pos rfl,if_pos rfl]
  obtain ⟨hk,h0,hn⟩:=fits_w hf
  have HF:=Lib.hid hf
  clear hf
  go_enter func117,ntmps117
  refine seqH fun K HK=>?_
  go_wp2
  refine HK.out _ _ ?_
  clear HK
  refine seqH fun K HK=>?_
  go_wp2_with (go_at_call 182;refine (fits_any _ _ _).mono ?_;rintro e w1 ⟨rfl,hb1⟩;rw [HF.out])
  refine HK.out _ _ ?_
  clear HK
  obtain ⟨kk,rfl⟩:∃ kk:Nat,k=kk:=⟨k.toNat,by omega⟩
  obtain ⟨nn,rfl⟩:∃ nn:Nat,n=nn:=⟨n.toNat,by omega⟩
  simp only [Int.toNat_natCast]
  have hk6:kk≤6:=by omega
  have hn48:=(manyI_bd kk).2
  have hz1:=hb1.size
  refine seqH fun K HK=>?_
  go_wp2_with (at_make;refine wpList_makeN rfl _ _ _ rfl elByte w1.heap.size .i64 .i64 _ _ kk rfl rfl rfl rfl (by omega) (by omega) (Nat.le_refl _) ?_)
  intro w2 zs hzl hown hgr
  have hb2:=hb1.trans (grown_below hgr hz1 (by simp))
  go_wp2
  refine HK.out _ _ ?_
  clear HK
  refine wp_seq_k (fun K hK=>?_)
  go_cut [] (fun wx=>wx.ownsRow w1.heap.size 5 1 (.slice (some ⟨w1.heap.size,0,none⟩) kk kk) kk (bys (le kk nn))∧Below w.heap.size w wx)
  case first=>
   go_wp2_with fail
   go_loopw [15] (fun i wr=>∃ j:Nat,j≤kk∧i=.int .i64 j∧Below w.heap.size w wr∧∃ zs,zs.length+j=kk∧wr.ownsRow w1.heap.size 5 1 (.slice (some ⟨w1.heap.size,0,none⟩) kk kk) kk (bys (le j nn)++zs)) (fun i _=>kk - (intOf i).toNat)
   case atStart=>exact ⟨0,by omega,rfl,hb2,zs,by omega,by simpa [le,bys] using hown⟩
   case round=>
    obtain ⟨j,hj,rfl,hbr,zt,hzt,hor⟩:=hrel
    by_cases hlt:j < kk
    ·cases zt with
     | nil=>simp at hzt;omega
     | cons z0 zt=>
      have hst:=hor.stored j (byv (UInt8.ofNat (nn / 256 ^ j % 256)))
      have hc0:=hor.cellAt j (by omega)
      rw [List.getElem?_append_right (by simp [bys_len,le_len]),bys_len,le_len,Nat.sub_self] at hc0
      simp only [List.getElem?_cons_zero] at hc0
      have hf0:=hor.frozenAt j
      have HST:=Lib.hid hst
      clear hst
      go_wp2
      have hst:=HST.out
      rw [byv_shift] at hst
      refine ⟨⟨j+1,by omega,by go_num,hbr.trans (grown_below hst.2 hbr.size (fun g hg=>by cases hg;exact hz1)),zt,by simp at hzt;omega,?_⟩,by simp [intOf];omega⟩
      have h5:=hst.1
      rw [List.set_append_right _ _ (by simp [bys_len,le_len]),bys_len,le_len,Nat.sub_self,List.set_cons_zero] at h5
      rw [le_snoc,bys_app,List.append_assoc]
      have e1:bys [UInt8.ofNat (nn / 256 ^ j % 256)]=[.int .u8 ((nn:Int) / 2 ^ (8 * j) % 256)]:=by simp only [bys,List.map_cons,List.map_nil,byv_shift]
      rw [e1]
      exact h5
    ·go_wp2
     go_meet
     obtain rfl:j=kk:=by omega
     obtain rfl:zt=[]:=List.eq_nil_of_length_eq_zero (by omega)
     exact ⟨by simpa using hor,hbr⟩
  obtain ⟨hown2,hb3⟩:=hcut
  refine hK _ _ ?_;clear hK
  go_wp2
  go_ret2
  refine ⟨⟨.slice (some ⟨w1.heap.size,0,none⟩) kk kk,rfl,?_⟩,hb3⟩
  rw [le_len]
  exact owns_mono hown2 hz1
end
section
def pieceA (a:Option Addr) (cap at_:Nat):Option Addr:=if cap=at_ then a else a.map (fun x=>x.add at_)
theorem Row.drop {w:World} {a:Option Addr} {xs:List Value} (h:Row w a xs) {cap:Nat} (hc:xs.length≤cap) (k:Nat) (hk:k≤xs.length):Row w (pieceA a cap k) (xs.drop k):=by
 by_cases he:xs.length=k
 ·left;rw [List.drop_of_length_le (by omega)]
 ·obtain ⟨b,off,rfl,hcell⟩:=h.at (k:=k) (by omega)
  right
  refine ⟨b,off+k,?_,fun i u hu=>?_⟩
  ·unfold pieceA
   rw [if_neg (by omega)]
   simp [addr_add]
  ·rw [Nat.add_assoc]
   exact hcell (k+i) u (by rw [List.getElem?_drop] at hu;exact hu)
theorem Row.take {w:World} {a:Option Addr} {xs:List Value} (h:Row w a xs) (n:Nat):Row w a (xs.take n):=by
 rcases h with h | ⟨b,off,ha,hc⟩
 ·left;simp [h]
 ·refine .inr ⟨b,off,ha,fun i u hu=>hc i u ?_⟩
  have hi:=(List.getElem?_eq_some_iff.1 hu).1
  rw [List.length_take] at hi
  rwa [List.getElem?_take_of_lt (by omega)] at hu
def pieceE (len:Nat) (at_ n:Int):Int:=if at_ < 0∨len < at_ then 2 else if len - at_ < n then 10 else 0
theorem piece_bad (a:Option Addr) (len cap:Nat) (at_ n:Int) (w:World) (hm:len≤maxLen) (h:pieceE len at_ n≠0) :
  Calls Tryz.prog 175 #[.slice a len cap,.int .i64 at_,.int .i64 n] w fun e w'=>e=.returned (.tuple #[.slice none 0 0,.int .i64 (pieceE len at_ n)])∧w=w':=by
 unfold maxLen at hm
 unfold pieceE at h ⊢
 by_cases h1:at_ < 0
 ·rw [if_pos (.inl h1)]
  go_enter func175,ntmps175
  go_wp2
  go_ret2
  exact ⟨rfl,rfl⟩
 ·by_cases h2:(len:Int) < at_
  ·rw [if_pos (.inr h2)]
   go_enter func175,ntmps175
   go_wp2
   go_ret2
   exact ⟨rfl,rfl⟩
  ·rw [if_neg (by omega)] at h ⊢
   by_cases h3:(len:Int) - at_ < n
   ·rw [if_pos h3]
    go_enter func175,ntmps175
    go_wp2
    go_ret2
    exact ⟨rfl,rfl⟩
   ·rw [if_neg h3] at h
    exact absurd rfl h
theorem piece_ok (a:Option Addr) (len cap at_ n:Nat) (w:World) (hm:cap≤maxLen) (hlc:len≤cap) (h:at_+n≤len) (ha:a=none→cap=0) :
  Calls Tryz.prog 175 #[.slice a len cap,.int .i64 at_,.int .i64 n] w fun e w'=>e=.returned (.tuple #[.slice (pieceA a cap at_) n (cap - at_),.int .i64 0])∧w=w':=by
 unfold maxLen at hm
 have hs:at_+n - at_=n:=by omega
 by_cases hc:cap=at_
 ·subst hc
  go_enter func175,ntmps175
  go_wp2
  go_ret2
  refine ⟨?_,rfl⟩
  unfold pieceA
  rw [if_pos rfl,hs,Nat.sub_self]
  rfl
 ·cases a with
  | none=>
   have:=ha rfl
   omega
  | some ad=>
   have hw1:¬ cap=at_:=hc
   go_enter func175,ntmps175
   go_wp2
   go_ret2
   refine ⟨?_,rfl⟩
   unfold pieceA
   rw [if_neg hc,hs]
   rfl
structure SlB (w:World) (a:Option Addr) (cap:Nat) (l:List UInt8):Prop where
 row:Row w a (bys l)
 le:l.length≤cap
 max:cap≤maxLen
 nil:a=none→cap=0
theorem SlB.below {w w':World} {a:Option Addr} {cap:Nat} {l:List UInt8} (h:SlB w a cap l) (hb:Below w.heap.size w w'):SlB w' a cap l:=⟨h.row.below0 hb,h.le,h.max,h.nil⟩
theorem SlB.of_owns {w:World} {base:Nat} {e:TypeId} {v:Value} {l:List UInt8} (h:w.ownsRow base e 1 v l.length (bys l)):∃ a cap,v=.slice a l.length cap∧SlB w a cap l:=by
 obtain ⟨a,cap,hv,hr,hn,hm⟩:=Row.of_owns h
 refine ⟨a,cap,hv,hr,hn,hm,fun ha=>?_⟩
 obtain ⟨_,⟨hv',_⟩ | ⟨g,cap',cur,hv',_⟩⟩:=h
 ·rw [hv] at hv'
  simp only [Value.slice.injEq] at hv'
  exact hv'.2.2
 ·rw [hv] at hv'
  simp only [Value.slice.injEq] at hv'
  rw [ha] at hv'
  cases hv'.1
def getE (len:Nat) (at_ k:Int):Int:=if manyI k=0 then 2 else pieceE len at_ k
def getN (l:List UInt8) (at_ k:Nat):Nat:=ofLe ((l.drop at_).take k)
theorem many_w {k:Int} (h:manyI k≠0):k=1∨k=2∨k=4∨k=6:=by
 unfold manyI at h
 split at h;· omega
 split at h;· omega
 split at h;· omega
 split at h
 ·omega
 ·exact absurd rfl h
theorem get_bad (a:Option Addr) (len cap:Nat) (at_ k:Int) (w:World) (hm:len≤maxLen) (h:getE len at_ k≠0) :
  Calls Tryz.prog 99 #[.slice a len cap,.int .i64 at_,.int .i64 k] w fun e w'=>e=.returned (.tuple #[.int .i64 0,.int .i64 0,.int .i64 (getE len at_ k)])∧Below w.heap.size w w':=by
 unfold getE at h ⊢
 by_cases h0:manyI k=0
 ·rw [if_pos h0]
  have HM:=Lib.hid h0
  clear h0 h
  go_enter func99,ntmps99
  go_wp2_with (go_at_call 174;refine (many_any _ _).mono ?_;rintro e w1 ⟨rfl,hb1⟩;rw [HM.out])
  go_ret3
  exact ⟨rfl,hb1⟩
 ·rw [if_neg h0] at h ⊢
  have hme:(manyI k==0)=false:=by rw [beq_eq_false_iff_ne];exact h0
  clear h0
  have hne:((pieceE len at_ k) != 0)=true:=by rw [bne_iff_ne];exact h
  have HP:=Lib.hid h
  clear h
  go_enter func99,ntmps99
  go_wp2_with (first | (go_at_call 174;refine (many_any _ _).mono ?_;rintro e w1 ⟨rfl,hb1⟩) | (go_at_call 175;refine (piece_bad a len cap at_ k _ hm HP.out).mono ?_;rintro e w1 ⟨rfl,rfl⟩))
  go_ret3
  exact ⟨rfl,hb1⟩
theorem or_byte (n x:Nat) (hn:n < 256 ^ 5) (hx:x < 256):bits .or .i64 ((n:Int) * 256) (x:Int)=((x+256 * n:Nat):Int):=by
 have e:(n:Int) * 256=((2 ^ 8 * n:Nat):Int):=by omega
 have h1:2 ^ 8 * n+x=2 ^ 8 * n ||| x:=Nat.two_pow_add_eq_or_of_lt (by omega) n
 rw [e]
 show IntKind.i64.wrap ((BitVec.ofInt 64 ((2 ^ 8 * n:Nat):Int) ||| BitVec.ofInt 64 (x:Int)).toNat:Int)=_
 rw [BitVec.toNat_or,ofInt_u64 _ (by omega),ofInt_u64 _ (by omega),← h1,IntWalk.i64_in _ (by omega)]
 omega
theorem get_ok (a:Option Addr) (cap:Nat) (l:List UInt8) (at_ k:Nat) (w:World) (hs:SlB w a cap l) (hk:k=1∨k=2∨k=4∨k=6) (h:at_+k≤l.length) :
  Calls Tryz.prog 99 #[.slice a l.length cap,.int .i64 at_,.int .i64 k] w fun e w'=>e=.returned (.tuple #[.int .i64 (getN l at_ k),.int .i64 ((at_:Int)+k),.int .i64 0])∧Below w.heap.size w w':=by
 have hmn:manyI k≠0:=by unfold manyI;rcases hk with rfl | rfl | rfl | rfl <;> simp
 have hme:(manyI k==0)=false:=by rw [beq_eq_false_iff_ne];exact hmn
 clear hmn
 have hrow:Row w (pieceA a cap at_) (bys ((l.drop at_).take k)):=by
  have h1:=(hs.row.drop (cap:=cap) (by rw [bys_len];exact hs.le) at_ (by rw [bys_len];omega)).take k
  have e:bys ((l.drop at_).take k)=((bys l).drop at_).take k:=by simp [bys,List.map_take,List.map_drop]
  rw [e];exact h1
 have hpl:((l.drop at_).take k).length=k:=by rw [List.length_take,List.length_drop];omega
 have hmx:=hs.max
 unfold maxLen at hmx
 have hle:=hs.le
 have hnil:=hs.nil
 unfold getN
 generalize (l.drop at_).take k=p at *
 go_enter func99,ntmps99
 refine seqH fun K HK=>?_
 go_wp2
 refine HK.out _ _ ?_
 clear HK
 refine seqH fun K HK=>?_
 go_wp2_with (go_at_call 174;refine (many_any _ _).mono ?_;rintro e w1 ⟨rfl,hb1⟩)
 refine HK.out _ _ ?_
 clear HK
 have hrow1:=hrow.below0 hb1
 refine seqH fun K HK=>?_
 go_wp2_with (go_at_call 175;refine (piece_ok a l.length cap at_ k _ (by unfold maxLen;omega) hle h hnil).mono ?_;rintro e w2 ⟨rfl,rfl⟩)
 refine HK.out _ _ ?_
 clear HK
 generalize pieceA a cap at_=pa at *
 refine seqH fun K HK=>?_
 go_wp2
 refine HK.out _ _ ?_
 clear HK
 refine seqH fun K HK=>?_
 go_wp2
 refine HK.out _ _ ?_
 clear HK
 refine wp_seq_k (fun K hK=>?_)
 go_cut [11] (fun n wx=>n=.int .i64 (ofLe p:Nat)∧wx=w1)
 case first=>
  go_wp2_with fail
  go_loopw [11,12,27] (fun n _ i wr=>∃ j:Nat,j≤k∧i=.int .i64 j∧n=.int .i64 (ofLe (p.drop (k - j)):Nat)∧wr=w1) (fun _ _ i _=>k - (intOf i).toNat)
  case atStart=>exact ⟨0,by omega,rfl,by rw [Nat.sub_zero,List.drop_of_length_le (by omega)];rfl,rfl⟩
  case round=>
   obtain ⟨j,hj,rfl,rfl,rfl⟩:=hrel
   by_cases hlt:j < k
   ·obtain ⟨b,off,hpa,hc⟩:=hrow1.byte (i:=k - 1 - j) (by omega)
    have hst:ofLe (p.drop (k - (j+1)))=(p[k - 1 - j]'(by omega)).toNat+256 * ofLe (p.drop (k - j)):=by
     rw [show k - (j+1)=k - 1 - j by omega,List.drop_eq_getElem_cons (by omega),ofLe,show k - 1 - j+1=k - j by omega]
    have hlt2:ofLe (p.drop (k - j)) < 256 ^ 5:=by
     refine Nat.lt_of_lt_of_le (ofLe_lt _) ?_
     rw [List.length_drop]
     exact Nat.pow_le_pow_right (by omega) (by omega)
    have hb:=(p[k - 1 - j]'(by omega)).toNat_lt
    generalize (p[k - 1 - j]'(by omega)).toNat=x at *
    have HST:=Lib.hid hst
    clear hst
    generalize ofLe (p.drop (k - j))=n at *
    have HPA:=Lib.hid hpa
    clear hpa
    rw [HPA.out]
    go_wp2
    refine ⟨⟨j+1,by omega,by go_num,?_,by first | trivial | rfl⟩,by simp [intOf];omega⟩
    rw [HST.out,or_byte n x hlt2 hb]
   ·obtain rfl:j=k:=by omega
    rw [Nat.sub_self,List.drop_zero]
    go_wp2
    go_meet
    exact ⟨rfl,by first | trivial | rfl⟩
 obtain ⟨rfl,rfl⟩:=hcut
 refine hK _ _ ?_;clear hK
 go_wp2
 go_ret3
 exact ⟨rfl,hb1⟩
end
end Go.Proofs.YtbdonjenekhmdaaGreatDoor
