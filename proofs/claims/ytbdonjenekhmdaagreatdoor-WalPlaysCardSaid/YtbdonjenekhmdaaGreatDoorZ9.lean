/- Texts that the claim leans on, part 9: D32, D33, D34, D35, E5, E6, E7, E8. -/
import Derived.Test.YtbdonjenekhmdaaGreatDoorZ1
import Derived.Test.YtbdonjenekhmdaaGreatDoorZ2
import Derived.Test.YtbdonjenekhmdaaGreatDoorZ3
import Derived.Test.YtbdonjenekhmdaaGreatDoorZ4
import Derived.Test.YtbdonjenekhmdaaGreatDoorZ5
import Derived.Test.YtbdonjenekhmdaaGreatDoorZ6
import Derived.Test.YtbdonjenekhmdaaGreatDoorZ7
import Derived.Test.YtbdonjenekhmdaaGreatDoorZ8
import Derived.Lib.SliceRun
namespace Go.Proofs.YtbdonjenekhmdaaGreatDoor
open Go.RowKit Go.Proofs.Tryz
set_option maxRecDepth 100000
set_option maxHeartbeats 32000000
section
def tlA (t:Tg):Nat→Array Value
 | 0=>#[.int .i64 0,.int .i64 0,.int .i64 0,.int .i64 0,.int .i64 0]
 | 1=>#[.int .i64 t.rep,.int .i64 0,.int .i64 0,.int .i64 0,.int .i64 0]
 | 2=>#[.int .i64 t.rep,.int .i64 t.reg,.int .i64 0,.int .i64 0,.int .i64 0]
 | 3=>#[.int .i64 t.rep,.int .i64 t.reg,.int .i64 t.pla,.int .i64 0,.int .i64 0]
 | 4=>#[.int .i64 t.rep,.int .i64 t.reg,.int .i64 t.pla,.int .i64 t.idx,.int .i64 0]
 | _=>#[.int .i64 t.rep,.int .i64 t.reg,.int .i64 t.pla,.int .i64 t.idx,.int .i64 t.inc]
def posT:Nat→Int
 | 0=>0 | 1=>1 | 2=>2 | 3=>3 | 4=>9 | _=>15
def parseT (l:List UInt8):Tg×Int:=if mayTg (tagAt l 0)=true then (tagAt l 0,0) else (zeroTg,30)
theorem st5 (x:Array Value) (hx:x.size=5) (a b c d e:Int):0+5≤x.size∧(tgV ⟨a,b,c,d,e⟩).cells.size=5∧(∀ u ∈ (tgV ⟨a,b,c,d,e⟩).cells.toList,u.oneCell'=true)∧(x.toList.take 0++(tgV ⟨a,b,c,d,e⟩).cells.toList++x.toList.drop (0+5)).toArray=#[.int .i64 a,.int .i64 b,.int .i64 c,.int .i64 d,.int .i64 e]:=by
 refine ⟨by omega,rfl,by simp [Value.cells,Value.oneCell'],?_⟩
 rw [List.drop_of_length_le (by rw [Array.length_toList];omega)]
 rfl
theorem ld5 (a b c d e:Int):0+5≤(#[Value.int .i64 a,.int .i64 b,.int .i64 c,.int .i64 d,.int .i64 e]).size∧(#[Value.int .i64 a,.int .i64 b,.int .i64 c,.int .i64 d,.int .i64 e]).extract 0 (0+5)=#[Value.int .i64 a,.int .i64 b,.int .i64 c,.int .i64 d,.int .i64 e]:=⟨Nat.le_refl 5,rfl⟩
theorem oneI (x:Int):∀ u ∈ (Value.int .i64 x).cells.toList,u.oneCell'=true:=by simp [Value.cells,Value.oneCell']
theorem tparse_any (a:Option Addr) (cap:Nat) (l:List UInt8) (w:World) (hs:SlB w a cap l) (hl:l.length=15):Calls Tryz.prog 226 #[.slice a 15 cap] w fun e w'=>e=.returned (.tuple #[tgV (parseT l).1,.int .i64 (parseT l).2])∧Below w.heap.size w w':=by
 have gk0:∀ w,SlB w a cap l→Calls Tryz.prog 99 #[.slice a 15 cap,.int .i64 0,.int .i64 1] w fun e w'=>e=.returned (.tuple #[.int .i64 (tagAt l 0).rep,.int .i64 1,.int .i64 0])∧Below w.heap.size w w':=fun w h=>by
  have:=get_ok a cap l 0 1 w h (by omega) (by omega)
  rw [hl] at this
  exact this
 have gk1:∀ w,SlB w a cap l→Calls Tryz.prog 99 #[.slice a 15 cap,.int .i64 1,.int .i64 1] w fun e w'=>e=.returned (.tuple #[.int .i64 (tagAt l 0).reg,.int .i64 2,.int .i64 0])∧Below w.heap.size w w':=fun w h=>by
  have:=get_ok a cap l 1 1 w h (by omega) (by omega)
  rw [hl] at this
  exact this
 have gk2:∀ w,SlB w a cap l→Calls Tryz.prog 99 #[.slice a 15 cap,.int .i64 2,.int .i64 1] w fun e w'=>e=.returned (.tuple #[.int .i64 (tagAt l 0).pla,.int .i64 3,.int .i64 0])∧Below w.heap.size w w':=fun w h=>by
  have:=get_ok a cap l 2 1 w h (by omega) (by omega)
  rw [hl] at this
  exact this
 have gk3:∀ w,SlB w a cap l→Calls Tryz.prog 99 #[.slice a 15 cap,.int .i64 3,.int .i64 6] w fun e w'=>e=.returned (.tuple #[.int .i64 (tagAt l 0).idx,.int .i64 9,.int .i64 0])∧Below w.heap.size w w':=fun w h=>by
  have:=get_ok a cap l 3 6 w h (by omega) (by omega)
  rw [hl] at this
  exact this
 have gk4:∀ w,SlB w a cap l→Calls Tryz.prog 99 #[.slice a 15 cap,.int .i64 9,.int .i64 6] w fun e w'=>e=.returned (.tuple #[.int .i64 (tagAt l 0).inc,.int .i64 15,.int .i64 0])∧Below w.heap.size w w':=fun w h=>by
  have:=get_ok a cap l 9 6 w h (by omega) (by omega)
  rw [hl] at this
  exact this
 have HL:=Lib.hid hl
 clear hl
 have i0:∀ (w:World),(Instr.index 282 widV (.int .i64 0)).run Tryz.prog w=.ok (.int .i64 1) w:=fun _=>by kernel_rfl
 have i1:∀ (w:World),(Instr.index 282 widV (.int .i64 1)).run Tryz.prog w=.ok (.int .i64 1) w:=fun _=>by kernel_rfl
 have i2:∀ (w:World),(Instr.index 282 widV (.int .i64 2)).run Tryz.prog w=.ok (.int .i64 1) w:=fun _=>by kernel_rfl
 have i3:∀ (w:World),(Instr.index 282 widV (.int .i64 3)).run Tryz.prog w=.ok (.int .i64 6) w:=fun _=>by kernel_rfl
 have i4:∀ (w:World),(Instr.index 282 widV (.int .i64 4)).run Tryz.prog w=.ok (.int .i64 6) w:=fun _=>by kernel_rfl
 go_enter func226,ntmps226
 refine seqH fun K HK=>?_
 go_wp2
 refine HK.out _ _ ?_
 clear HK
 refine seqH fun K HK=>?_
 go_wp2
 refine HK.out _ _ ?_
 clear HK
 have B2:=tr_al (Obj.cells (tlA (tagAt l 0) 0) 282) (heap_alloc_new w (Obj.cells #[.int .i64 0,.int .i64 0,.int .i64 0,.int .i64 0,.int .i64 0] 39))
 have B4:=heap_alloc_new (w.alloc (Obj.cells #[.int .i64 0,.int .i64 0,.int .i64 0,.int .i64 0,.int .i64 0] 39)) (Obj.cells (tlA (tagAt l 0) 0) 282)
 have hb0:=(blw w (Obj.cells #[.int .i64 0,.int .i64 0,.int .i64 0,.int .i64 0,.int .i64 0] 39)).alloc (by simp) (Obj.cells (tlA (tagAt l 0) 0) 282)
 rw [show (w.alloc (Obj.cells #[.int .i64 0,.int .i64 0,.int .i64 0,.int .i64 0,.int .i64 0] 39)).heap.size=w.heap.size+1 by simp] at B4
 change Code.wp _ _ _ _ ((w.alloc (Obj.cells #[.int .i64 0,.int .i64 0,.int .i64 0,.int .i64 0,.int .i64 0] 39)).alloc (Obj.cells (tlA (tagAt l 0) 0) 282))
 generalize (w.alloc (Obj.cells #[.int .i64 0,.int .i64 0,.int .i64 0,.int .i64 0,.int .i64 0] 39)).alloc (Obj.cells (tlA (tagAt l 0) 0) 282)=w0 at *
 refine seqH fun K HK=>?_
 go_wp2
 refine HK.out _ _ ?_
 clear HK
 refine seqH fun K HK=>?_
 go_wp2_with (go_at_call 212;refine (widths_any _).mono ?_;rintro e w1 ⟨rfl,hb1⟩;have hb01:=hb0.trans (hb1.mono hb0.size);have A2:=tr_bl hb1 B2;have A4:=tr_bl hb1 B4)
 go_loopw [13,5,6,7,8,9,10] (fun i p _ _ _ _ _ wr=>∃ (j:Nat),j≤5∧i=.int .i64 (j:Nat)∧p=.int .i64 (posT j)∧wr.heap[w.heap.size+1]?=some (.cells (tlA (tagAt l 0) j) 282 (0,0))∧wr.heap[w.heap.size]?=some (.cells #[.int .i64 0,.int .i64 0,.int .i64 0,.int .i64 0,.int .i64 0] 39 (0,0))∧Below w.heap.size w wr) (fun i _ _ _ _ _ _ _=>5 - (intOf i).toNat)
 case atStart=>exact ⟨0,by omega,rfl,rfl,A4,A2,hb01⟩
 case round=>
  clear B2 B4 A2 A4 hb0 hb1 hb01
  obtain ⟨j,hj,rfl,rfl,B4,B2,hbr⟩:=hrel
  have hsr:=hs.below hbr
  have h5:j=0∨j=1∨j=2∨j=3∨j=4∨j=5:=by omega
  rcases h5 with rfl | rfl | rfl | rfl | rfl | rfl
  ·have hpos:posT 0=0:=rfl
   rw [hpos]
   clear hpos
   go_wp2_with (first
    | (go_at_call 99;refine (gk0 _ hsr).mono ?_;rintro e w2 ⟨rfl,hb2⟩;have C4:=tr_bl hb2 B4;have C2:=tr_bl hb2 B2;have hb3:=hbr.trans (hb2.mono hbr.size))
    | ((with_reducible refine wpList_stB 3 _ _ ?_);refine ⟨_,_,_,⟨_,_,_,sizeOf3,rfl,C4,(⟨(by show _≤5;omega),rfl,oneI (tagAt l 0).rep,(show _=tlA (tagAt l 0) (0+1) from rfl)⟩)⟩,?_⟩;intro w5 B5 g5))
   go_roundw
   case rel=>exact ⟨0+1,by omega,by rfl,by rfl,B5,tr_st g5 C2 (by omega),bl_st hb3 g5 hb3.size (by omega)⟩
   case measure=>simp [intOf]
  ·have hpos:posT 1=1:=rfl
   rw [hpos]
   clear hpos
   go_wp2_with (first
    | (go_at_call 99;refine (gk1 _ hsr).mono ?_;rintro e w2 ⟨rfl,hb2⟩;have C4:=tr_bl hb2 B4;have C2:=tr_bl hb2 B2;have hb3:=hbr.trans (hb2.mono hbr.size))
    | ((with_reducible refine wpList_stB 3 _ _ ?_);refine ⟨_,_,_,⟨_,_,_,sizeOf3,rfl,C4,(⟨(by show _≤5;omega),rfl,oneI (tagAt l 0).reg,(show _=tlA (tagAt l 0) (1+1) from rfl)⟩)⟩,?_⟩;intro w5 B5 g5))
   go_roundw
   case rel=>exact ⟨1+1,by omega,by rfl,by rfl,B5,tr_st g5 C2 (by omega),bl_st hb3 g5 hb3.size (by omega)⟩
   case measure=>simp [intOf]
  ·have hpos:posT 2=2:=rfl
   rw [hpos]
   clear hpos
   go_wp2_with (first
    | (go_at_call 99;refine (gk2 _ hsr).mono ?_;rintro e w2 ⟨rfl,hb2⟩;have C4:=tr_bl hb2 B4;have C2:=tr_bl hb2 B2;have hb3:=hbr.trans (hb2.mono hbr.size))
    | ((with_reducible refine wpList_stB 3 _ _ ?_);refine ⟨_,_,_,⟨_,_,_,sizeOf3,rfl,C4,(⟨(by show _≤5;omega),rfl,oneI (tagAt l 0).pla,(show _=tlA (tagAt l 0) (2+1) from rfl)⟩)⟩,?_⟩;intro w5 B5 g5))
   go_roundw
   case rel=>exact ⟨2+1,by omega,by rfl,by rfl,B5,tr_st g5 C2 (by omega),bl_st hb3 g5 hb3.size (by omega)⟩
   case measure=>simp [intOf]
  ·have hpos:posT 3=3:=rfl
   rw [hpos]
   clear hpos
   go_wp2_with (first
    | (go_at_call 99;refine (gk3 _ hsr).mono ?_;rintro e w2 ⟨rfl,hb2⟩;have C4:=tr_bl hb2 B4;have C2:=tr_bl hb2 B2;have hb3:=hbr.trans (hb2.mono hbr.size))
    | ((with_reducible refine wpList_stB 3 _ _ ?_);refine ⟨_,_,_,⟨_,_,_,sizeOf3,rfl,C4,(⟨(by show _≤5;omega),rfl,oneI (tagAt l 0).idx,(show _=tlA (tagAt l 0) (3+1) from rfl)⟩)⟩,?_⟩;intro w5 B5 g5))
   go_roundw
   case rel=>exact ⟨3+1,by omega,by rfl,by rfl,B5,tr_st g5 C2 (by omega),bl_st hb3 g5 hb3.size (by omega)⟩
   case measure=>simp [intOf]
  ·have hpos:posT 4=9:=rfl
   rw [hpos]
   clear hpos
   go_wp2_with (first
    | (go_at_call 99;refine (gk4 _ hsr).mono ?_;rintro e w2 ⟨rfl,hb2⟩;have C4:=tr_bl hb2 B4;have C2:=tr_bl hb2 B2;have hb3:=hbr.trans (hb2.mono hbr.size))
    | ((with_reducible refine wpList_stB 3 _ _ ?_);refine ⟨_,_,_,⟨_,_,_,sizeOf3,rfl,C4,(⟨(by show _≤5;omega),rfl,oneI (tagAt l 0).inc,(show _=tlA (tagAt l 0) (4+1) from rfl)⟩)⟩,?_⟩;intro w5 B5 g5))
   go_roundw
   case rel=>exact ⟨4+1,by omega,by rfl,by rfl,B5,tr_st g5 C2 (by omega),bl_st hb3 g5 hb3.size (by omega)⟩
   case measure=>simp [intOf]
  ·have hpos:posT 5=15:=rfl
   rw [hpos]
   unfold parseT at HK
   have hsz:=hbr.size
   have hlt4:=lt_blk B4
   generalize tagAt l 0=t at *
   replace B4:wr.heap[w.heap.size+1]?=some (.cells #[.int .i64 t.rep,.int .i64 t.reg,.int .i64 t.pla,.int .i64 t.idx,.int .i64 t.inc] 282 (0,0)):=B4
   have c0:=blk_cell B4 0 _ rfl
   have c1:=blk_cell B4 1 _ rfl
   have c2:=blk_cell B4 2 _ rfl
   have c3:=blk_cell B4 3 _ rfl
   have c4:=blk_cell B4 4 _ rfl
   obtain ⟨r,hr⟩:∃ r,mayTg t=r:=⟨_,rfl⟩
   have hmay:=tmay_any t
   rw [hr] at hmay HK
   clear hr B4
   go_wp2
   refine HK.out _ _ ?_
   clear HK
   cases r
   case false=>
    rw [if_neg (by simp)]
    go_wp2_with (first
     | (go_at_call 139;refine (hmay _).mono ?_;rintro e w2 ⟨rfl,hb2⟩;have C2:=tr_bl hb2 (tr_al _ B2);have hb3:=(hbr.alloc hsz _).trans (hb2.mono (by simp;omega)))
     | ((with_reducible refine wpList_stB 39 _ _ ?_);refine ⟨_,_,_,⟨_,_,_,sizeOf39,rfl,C2,st5 _ rfl 0 0 0 0 0⟩,?_⟩;intro w5 B5 g5))
    refine bodyPost_ret (results_c1t1 rfl rfl (run_loadVar_all isAgg39 sizeOf39 B5 rfl)) rfl ⟨rfl,bl_st hb3 g5 hb3.size (Nat.le_refl _)⟩
   case true=>
    rw [if_pos rfl]
    go_wp2_with (first
     | (go_at_call 139;refine (hmay _).mono ?_;rintro e w2 ⟨rfl,hb2⟩;have C2:=tr_bl hb2 (tr_al _ B2);have A5:=tr_bl hb2 (heap_alloc_new wr (Obj.cells #[.int .i64 t.rep,.int .i64 t.reg,.int .i64 t.pla,.int .i64 t.idx,.int .i64 t.inc] 39));have hb3:=(hbr.alloc hsz _).trans (hb2.mono (by simp;omega)))
     | ((with_reducible refine wpList_ldB 39 _ ?_);refine ⟨rfl,_,⟨_,_,_,_,_,isAgg39,sizeOf39,rfl,‹_›,ld5 _ _ _ _ _⟩,?_⟩)
     | ((with_reducible refine wpList_stB 39 _ _ ?_);refine ⟨_,_,_,⟨_,_,_,sizeOf39,rfl,C2,st5 _ rfl t.rep t.reg t.pla t.idx t.inc⟩,?_⟩;intro w5 B5 g5))
    refine bodyPost_ret (results_c1t1 rfl rfl (run_loadVar_all isAgg39 sizeOf39 B5 rfl)) rfl ⟨rfl,bl_st hb3 g5 hb3.size (Nat.le_refl _)⟩
end
section
theorem infoB:(Tryz.prog.info? 5).map (fun i=>(i.zero.map (·.cells),i.size,i.bytes))=some (some #[.int .u8 0],1,1):=by kernel_rfl
theorem made_bys (n:Nat):madeCells #[.int .u8 0] (n * 1)=(bys (List.replicate n 0)).toArray:=by
 apply Array.ext_getElem?
 intro k
 by_cases hk:k < n
 ·unfold madeCells
  rw [Array.getElem?_map,Array.getElem?_range,if_pos (by omega)]
  show some ((#[Value.int .u8 0]:Array Value)[k % 1]!)=_
  rw [Nat.mod_one]
  simp [bys,byv,hk]
 ·rw [Array.getElem?_eq_none (by rw [size_madeCells];omega),Array.getElem?_eq_none (by rw [List.size_toArray,bys_len,List.length_replicate];omega)]
theorem make_bys (n:Nat) (hn:n≤1000000) (w:World):(Instr.makeSlice 37 (.int .i64 n) (.int .i64 n)).run Tryz.prog w=.ok (.slice (some ⟨w.heap.size,0,none⟩) n n) (w.alloc (.cells (bys (List.replicate n 0)).toArray 5)):=by
 obtain ⟨i,hi,h2⟩:=Option.map_eq_some_iff.1 infoB
 simp only [Prod.mk.injEq] at h2
 obtain ⟨hz,hsz,hb⟩:=h2
 obtain ⟨z,hz,hzc⟩:=Option.map_eq_some_iff.1 hz
 have:=run_make (P:=Tryz.prog) w 37 5 i z underlying37 hi hz .i64 .i64 n n (by omega) (by omega) (by rw [hb];omega) (by omega)
 rw [hsz,hzc] at this
 simp only [Int.toNat_natCast] at this
 rw [made_bys] at this
 exact this
theorem sizeByte:(Tryz.prog.info? 5).map (·.size)=some 1:=by kernel_rfl
/-! The frame's bytes in three steps. -/
section
variable {t:Tg} {body:List UInt8} {n:Nat}
def jnF (t:Tg) (body:List UInt8):List UInt8:=le 2 body.length++(tagB t++body)
theorem jnF_len (t:Tg) (body:List UInt8):(jnF t body).length=17+body.length:=by
 unfold jnF
 rw [List.length_append,List.length_append,le_len,tagB_len]
 omega
theorem rep_split (a b:Nat):List.replicate (a+b) (0:UInt8)=List.replicate a 0++List.replicate b 0:=by rw [List.replicate_append_replicate]
theorem seal_1 (hn:0 < roomN n) (hb:body.length≤roomN n):splice (bys (List.replicate n 0)) 0 (bys (jnF t body))=bys (headF t body n++List.replicate 4 0):=by
 obtain ⟨_,hr⟩:=roomN_of hn
 unfold splice
 rw [List.take_zero,List.nil_append,bys_len,jnF_len,Nat.zero_add]
 have e1:(bys (List.replicate n 0)).drop (17+body.length)=bys (List.replicate (n - 21 - body.length) 0++List.replicate 4 0):=by
  unfold bys
  rw [← List.map_drop,List.drop_replicate,show n - (17+body.length)=(n - 21 - body.length)+4 by omega,rep_split]
 rw [e1,← bys_app]
 congr 1
 unfold jnF headF
 simp only [List.append_assoc]
theorem seal_2 (hn:0 < roomN n) (hb:body.length≤roomN n) (s:List UInt8) (hs:s.length=4):splice (bys (headF t body n++List.replicate 4 0)) (n - 4) (bys s)=bys (headF t body n++s):=by
 have hl:=headF_len (t:=t) hn hb
 unfold splice
 have e1:(bys (headF t body n++List.replicate 4 0)).take (n - 4)=bys (headF t body n):=by
  rw [bys_app,← hl,← bys_len (headF t body n),List.take_left]
 have e2:(bys (headF t body n++List.replicate 4 0)).drop (n - 4+(bys s).length)=[]:=by
  rw [List.drop_of_length_le]
  rw [bys_len,bys_len,List.length_append,hl,hs,List.length_replicate]
  omega
 rw [e1,e2,List.append_nil,← bys_app]
end
end
section
def zrA (n:Nat):Array Value:=(bys (List.replicate n 0)).toArray
theorem row_pre {w:World} {g:Nat} {xs ys:List UInt8} (h:w.heap[g]?=some (.cells (bys (xs++ys)).toArray 5 (0,0))):Row w (some ⟨g,0,none⟩) (bys xs):=
 Row.of_block h 0 (fun i u hu=>by
  rw [Nat.zero_add,bys_app,List.getElem?_append_left (List.getElem?_eq_some_iff.1 hu).1]
  exact hu)
theorem oput_len {n:Nat} (h:n≤1000):oputL 2 (n:Int)=le 2 n:=oput_one (k:=2) (by omega) (by show _ < 65536;omega)
theorem oput4 {z:Nat} (h:z < 4294967296):oputL 4 (z:Int)=le 4 z:=oput_one (k:=4) (by omega) (by show _ < 4294967296;omega)
theorem seal1 (t:Tg) (a:Option Addr) (cap:Nat) (body:List UInt8) (w:World) (hs:SlB w a cap body) (ht:mayTg t=true) (hb:body.length≤43):Calls Tryz.prog 110 #[tgV t,.slice a body.length cap,.int .i64 1] w fun e w'=>(∃ g,e=.returned (.tuple #[.slice (some ⟨g,0,none⟩) 64 64,.int .i64 0])∧w.heap.size≤g∧w'.heap[g]?=some (.cells (bys (sealF t body 64)).toArray 5 (0,0)))∧Below w.heap.size w w':=by
 have hroom:∀ w,Calls Tryz.prog 116 #[.int .i64 1] w fun e w'=>e=.returned (.int .i64 43)∧w=w':=fun w=>room_any 1 w
 have hb1000:body.length≤1000:=by omega
 have HT:=Lib.hid ht
 clear ht
 go_enter func110,ntmps110
 refine seqH fun K HK=>?_
 go_wp2
 refine HK.out _ _ ?_
 clear HK
 refine seqH fun K HK=>?_
 go_wp2_with (go_at_call 178;refine (tprint_ok t _ HT.out).mono ?_;rintro e w1 ⟨⟨a1,c1,rfl,o1⟩,hb1⟩)
 refine HK.out _ _ ?_
 clear HK
 have hbB:=blw w (Obj.cells #[.int .i64 t.rep,.int .i64 t.reg,.int .i64 t.pla,.int .i64 t.idx,.int .i64 t.inc] 39)
 have hb01:=hbB.trans (hb1.mono hbB.size)
 have hs1:=hs.below hb01
 have o1':=owns_mono o1 hbB.size
 clear hb1 o1 hbB
 refine seqH fun K HK=>?_
 go_wp2_with (go_at_call 116;refine (hroom _).mono ?_;rintro e w2 ⟨rfl,rfl⟩)
 refine HK.out _ _ ?_
 clear HK
 refine seqH fun K HK=>?_
 go_wp2_with (go_at_call 117;refine (put_any 2 (body.length:Int) _).mono ?_;rintro e w2 ⟨⟨v2,rfl,o2⟩,hb2⟩;rw [oput_len hb1000,le_len] at o2;obtain ⟨a2,c2,rfl,r2,n2,m2⟩:=Row.of_owns o2)
 refine HK.out _ _ ?_
 clear HK
 have hmk:(Instr.makeSlice 37 (.int .i64 64) (.int .i64 64)).run Tryz.prog w2=.ok (.slice (some ⟨w2.heap.size,0,none⟩) 64 64) (w2.alloc (.cells (zrA 64) 5)):=make_bys 64 (by decide) w2
 refine seqH fun K HK=>?_
 go_wp2
 refine HK.out _ _ ?_
 clear HK
 have hb02:=hb01.trans (hb2.mono hb01.size)
 have hG:=hb02.size
 have hbz:=blw w2 (Obj.cells (zrA 64) 5)
 have Z:=heap_alloc_new w2 (Obj.cells (zrA 64) 5)
 have ho1:=owns_bl (owns_bl o1' hb2) hbz
 have ho2:=owns_bl o2 hbz
 have hsz:=(hs1.below hb2).below hbz
 have hb0z:=hb02.trans (hbz.mono hG)
 clear hmk hb2 o2 r2 n2 m2 o1' hs1 hb01 hbz
 generalize w2.alloc (Obj.cells (zrA 64) 5)=wz at *
 generalize w2.heap.size=G at *
 have hGz:=lt_blk Z
 have hb8:=blw wz (Obj.cells #[.slice a2 2 c2,.slice a1 15 c1,.slice a body.length cap] 37)
 have P8:Parts (wz.alloc (Obj.cells #[.slice a2 2 c2,.slice a1 15 c1,.slice a body.length cap] 37)) (some ⟨wz.heap.size,0,none⟩) [(a2,c2,le 2 body.length),(a1,c1,tagB t),(a,cap,body)]:=by
  constructor
  ·exact Row.of_block (cs:=[.slice a2 2 c2,.slice a1 15 c1,.slice a body.length cap]) (heap_alloc_new wz _) 0 (fun i u hu=>by rw [Nat.zero_add];exact hu)
  ·intro x hx
   simp only [List.mem_cons,List.not_mem_nil,or_false] at hx
   rcases hx with rfl | rfl | rfl
   ·obtain ⟨_,_,e,h⟩:=SlB.of_owns (l:=le 2 body.length) (by rw [le_len];exact ho2)
    rw [le_len] at e
    cases e
    exact h.below hb8
   ·obtain ⟨_,_,e,h⟩:=SlB.of_owns (l:=tagB t) (by rw [tagB_len];exact ho1)
    rw [tagB_len] at e
    cases e
    exact h.below hb8
   ·exact hsz.below hb8
 have hJ:joinP [(a2,c2,le 2 body.length),(a1,c1,tagB t),(a,cap,body)]=jnF t body:=by simp [joinP,jnF]
 have hj:=join_any (some ⟨wz.heap.size,0,none⟩) 3 _ _ P8 (by simp) (by rw [hJ,jnF_len];omega)
 rw [hJ,jnF_len] at hj
 have Z8:=tr_al (Obj.cells #[.slice a2 2 c2,.slice a1 15 c1,.slice a body.length cap] 37) Z
 have hb08:=hb0z.trans (hb8.mono hb0z.size)
 have hbl:=Lib.hid (jnF_len t body)
 clear P8 hJ ho1 ho2 hsz hb0z hb8 Z
 refine seqH fun K HK=>?_
 go_wp2_with (first
   | (go_at_call 179;refine hj.mono ?_;rintro e w9 ⟨⟨a9,c9,rfl,o9⟩,hb9⟩;clear hj;have Z9:=tr_bl hb9 Z8;have hb09:=hb08.trans (hb9.mono hb08.size);obtain ⟨_,_,e9,r9,n9,m9⟩:=Row.of_owns o9;cases e9;obtain ⟨b9,f9,rfl,hc9⟩:=r9.at (k:=0) (by rw [bys_len,hbl.out];omega);clear r9 o9)
   | (refine wpList_copyK rfl _ _ 37 37 5 1 underlying37 sizeByte rfl G 0 64 64 ⟨b9,f9,none⟩ (17+body.length) c9 rfl rfl (bys (List.replicate 64 0)) 5 (bys (jnF t body)) Z9 ?_ (fun j v hv=>by rw [addr_add];exact hc9 j v hv) ?_ bys_one ?_;(rw [bys_len,hbl.out];exact (Nat.mul_one _).symm ▸ (Nat.min_eq_left (by omega)).symm);(rw [bys_len,bys_len,hbl.out,List.length_replicate];omega);intro w10 Z10 g10))
 refine HK.out _ _ ?_
 clear HK
 (try simp only [Act.put,qa1,qa2,qa3])
 have Z10':w10.heap[G]?=some (.cells (bys (headF t body 64++List.replicate 4 0)).toArray 5 (0,0)):=by
  have h:=Z10.out
  rw [seal_1 (n:=64) (by decide) hb] at h
  exact h
 have hb10:=bl_st hb09 g10 hb09.size hG
 have hlen:(headF t body 64).length=60:=headF_len (n:=64) (by decide) hb
 have hsum:=sum_any (some ⟨G,0,none⟩) 64 (headF t body 64) w10 ⟨row_pre Z10',by rw [hlen];omega,by unfold maxLen;omega,fun e=>by cases e⟩
 rw [hlen] at hsum
 have hcr:=crcS_lt (headF t body 64)
 obtain ⟨z,hz⟩:∃ z,crcS (headF t body 64)=z:=⟨_,rfl⟩
 rw [hz] at hsum hcr
 have HZ:=Lib.hid hz
 have HL:=Lib.hid hlen
 clear hz hlen Z10 g10 hb09 hb08 Z9 hc9
 refine seqH fun K HK=>?_
 go_wp2
 refine HK.out _ _ ?_
 clear HK
 refine seqH fun K HK=>?_
 go_wp2_with (first
   | (go_at_call 180;refine hsum.mono ?_;rintro e w11 ⟨rfl,hb11⟩;clear hsum;have Z11:=tr_bl hb11 Z10';have hb1:=hb10.trans (hb11.mono hb10.size))
   | (go_at_call 117;refine (put_any 4 (z:Int) _).mono ?_;rintro e w12 ⟨⟨v12,rfl,o12⟩,hb12⟩;rw [oput4 hcr,le_len] at o12;have Z12:=tr_bl hb12 Z11;have hb3:=hb1.trans (hb12.mono hb1.size);obtain ⟨a12,c12,rfl,r12,n12,m12⟩:=Row.of_owns o12;obtain ⟨b12,f12,rfl,hc12⟩:=r12.at (k:=0) (by rw [bys_len,le_len];omega);clear r12 o12))
 refine HK.out _ _ ?_
 clear HK
 refine seqH fun K HK=>?_
 go_wp2_with (refine wpList_copyK rfl _ _ 37 37 5 1 underlying37 sizeByte rfl G 60 4 4 ⟨b12,f12,none⟩ 4 c12 rfl rfl (bys (headF t body 64++List.replicate 4 0)) 5 (bys (le 4 z)) Z12 ?_ (fun j v hv=>by rw [addr_add];exact hc12 j v hv) ?_ bys_one ?_;(rw [bys_len,le_len];rfl);(rw [bys_len,bys_len,le_len,List.length_append,HL.out,List.length_replicate];omega);intro w13 Z13 g13)
 refine HK.out _ _ ?_
 clear HK
 (try simp only [Act.put,qa1,qa2,qa3])
 have Z14:w13.heap[G]?=some (.cells (bys (sealF t body 64)).toArray 5 (0,0)):=by
  have h:=Z13.out
  rw [seal_2 (n:=64) (by decide) hb _ (le_len 4 z)] at h
  unfold sealF
  rw [HZ.out]
  exact h
 have hb4:=bl_st hb3 g13 hb3.size hG
 clear Z13 Z12 Z11 Z10'
 go_wp2
 go_ret2
 exact ⟨⟨G,rfl,hG,Z14⟩,hb4⟩
theorem seal2 (t:Tg) (a:Option Addr) (cap:Nat) (body:List UInt8) (w:World) (hs:SlB w a cap body) (ht:mayTg t=true) (hb:body.length≤88):Calls Tryz.prog 110 #[tgV t,.slice a body.length cap,.int .i64 2] w fun e w'=>(∃ g,e=.returned (.tuple #[.slice (some ⟨g,0,none⟩) 128 128,.int .i64 0])∧w.heap.size≤g∧w'.heap[g]?=some (.cells (bys (sealF t body 128)).toArray 5 (0,0)))∧Below w.heap.size w w':=by
 have hroom:∀ w,Calls Tryz.prog 116 #[.int .i64 2] w fun e w'=>e=.returned (.int .i64 88)∧w=w':=fun w=>room_any 2 w
 have hb1000:body.length≤1000:=by omega
 have HT:=Lib.hid ht
 clear ht
 go_enter func110,ntmps110
 refine seqH fun K HK=>?_
 go_wp2
 refine HK.out _ _ ?_
 clear HK
 refine seqH fun K HK=>?_
 go_wp2_with (go_at_call 178;refine (tprint_ok t _ HT.out).mono ?_;rintro e w1 ⟨⟨a1,c1,rfl,o1⟩,hb1⟩)
 refine HK.out _ _ ?_
 clear HK
 have hbB:=blw w (Obj.cells #[.int .i64 t.rep,.int .i64 t.reg,.int .i64 t.pla,.int .i64 t.idx,.int .i64 t.inc] 39)
 have hb01:=hbB.trans (hb1.mono hbB.size)
 have hs1:=hs.below hb01
 have o1':=owns_mono o1 hbB.size
 clear hb1 o1 hbB
 refine seqH fun K HK=>?_
 go_wp2_with (go_at_call 116;refine (hroom _).mono ?_;rintro e w2 ⟨rfl,rfl⟩)
 refine HK.out _ _ ?_
 clear HK
 refine seqH fun K HK=>?_
 go_wp2_with (go_at_call 117;refine (put_any 2 (body.length:Int) _).mono ?_;rintro e w2 ⟨⟨v2,rfl,o2⟩,hb2⟩;rw [oput_len hb1000,le_len] at o2;obtain ⟨a2,c2,rfl,r2,n2,m2⟩:=Row.of_owns o2)
 refine HK.out _ _ ?_
 clear HK
 have hmk:(Instr.makeSlice 37 (.int .i64 128) (.int .i64 128)).run Tryz.prog w2=.ok (.slice (some ⟨w2.heap.size,0,none⟩) 128 128) (w2.alloc (.cells (zrA 128) 5)):=make_bys 128 (by decide) w2
 refine seqH fun K HK=>?_
 go_wp2
 refine HK.out _ _ ?_
 clear HK
 have hb02:=hb01.trans (hb2.mono hb01.size)
 have hG:=hb02.size
 have hbz:=blw w2 (Obj.cells (zrA 128) 5)
 have Z:=heap_alloc_new w2 (Obj.cells (zrA 128) 5)
 have ho1:=owns_bl (owns_bl o1' hb2) hbz
 have ho2:=owns_bl o2 hbz
 have hsz:=(hs1.below hb2).below hbz
 have hb0z:=hb02.trans (hbz.mono hG)
 clear hmk hb2 o2 r2 n2 m2 o1' hs1 hb01 hbz
 generalize w2.alloc (Obj.cells (zrA 128) 5)=wz at *
 generalize w2.heap.size=G at *
 have hGz:=lt_blk Z
 have hb8:=blw wz (Obj.cells #[.slice a2 2 c2,.slice a1 15 c1,.slice a body.length cap] 37)
 have P8:Parts (wz.alloc (Obj.cells #[.slice a2 2 c2,.slice a1 15 c1,.slice a body.length cap] 37)) (some ⟨wz.heap.size,0,none⟩) [(a2,c2,le 2 body.length),(a1,c1,tagB t),(a,cap,body)]:=by
  constructor
  ·exact Row.of_block (cs:=[.slice a2 2 c2,.slice a1 15 c1,.slice a body.length cap]) (heap_alloc_new wz _) 0 (fun i u hu=>by rw [Nat.zero_add];exact hu)
  ·intro x hx
   simp only [List.mem_cons,List.not_mem_nil,or_false] at hx
   rcases hx with rfl | rfl | rfl
   ·obtain ⟨_,_,e,h⟩:=SlB.of_owns (l:=le 2 body.length) (by rw [le_len];exact ho2)
    rw [le_len] at e
    cases e
    exact h.below hb8
   ·obtain ⟨_,_,e,h⟩:=SlB.of_owns (l:=tagB t) (by rw [tagB_len];exact ho1)
    rw [tagB_len] at e
    cases e
    exact h.below hb8
   ·exact hsz.below hb8
 have hJ:joinP [(a2,c2,le 2 body.length),(a1,c1,tagB t),(a,cap,body)]=jnF t body:=by simp [joinP,jnF]
 have hj:=join_any (some ⟨wz.heap.size,0,none⟩) 3 _ _ P8 (by simp) (by rw [hJ,jnF_len];omega)
 rw [hJ,jnF_len] at hj
 have Z8:=tr_al (Obj.cells #[.slice a2 2 c2,.slice a1 15 c1,.slice a body.length cap] 37) Z
 have hb08:=hb0z.trans (hb8.mono hb0z.size)
 have hbl:=Lib.hid (jnF_len t body)
 clear P8 hJ ho1 ho2 hsz hb0z hb8 Z
 refine seqH fun K HK=>?_
 go_wp2_with (first
   | (go_at_call 179;refine hj.mono ?_;rintro e w9 ⟨⟨a9,c9,rfl,o9⟩,hb9⟩;clear hj;have Z9:=tr_bl hb9 Z8;have hb09:=hb08.trans (hb9.mono hb08.size);obtain ⟨_,_,e9,r9,n9,m9⟩:=Row.of_owns o9;cases e9;obtain ⟨b9,f9,rfl,hc9⟩:=r9.at (k:=0) (by rw [bys_len,hbl.out];omega);clear r9 o9)
   | (refine wpList_copyK rfl _ _ 37 37 5 1 underlying37 sizeByte rfl G 0 128 128 ⟨b9,f9,none⟩ (17+body.length) c9 rfl rfl (bys (List.replicate 128 0)) 5 (bys (jnF t body)) Z9 ?_ (fun j v hv=>by rw [addr_add];exact hc9 j v hv) ?_ bys_one ?_;(rw [bys_len,hbl.out];exact (Nat.mul_one _).symm ▸ (Nat.min_eq_left (by omega)).symm);(rw [bys_len,bys_len,hbl.out,List.length_replicate];omega);intro w10 Z10 g10))
 refine HK.out _ _ ?_
 clear HK
 (try simp only [Act.put,qa1,qa2,qa3])
 have Z10':w10.heap[G]?=some (.cells (bys (headF t body 128++List.replicate 4 0)).toArray 5 (0,0)):=by
  have h:=Z10.out
  rw [seal_1 (n:=128) (by decide) hb] at h
  exact h
 have hb10:=bl_st hb09 g10 hb09.size hG
 have hlen:(headF t body 128).length=124:=headF_len (n:=128) (by decide) hb
 have hsum:=sum_any (some ⟨G,0,none⟩) 128 (headF t body 128) w10 ⟨row_pre Z10',by rw [hlen];omega,by unfold maxLen;omega,fun e=>by cases e⟩
 rw [hlen] at hsum
 have hcr:=crcS_lt (headF t body 128)
 obtain ⟨z,hz⟩:∃ z,crcS (headF t body 128)=z:=⟨_,rfl⟩
 rw [hz] at hsum hcr
 have HZ:=Lib.hid hz
 have HL:=Lib.hid hlen
 clear hz hlen Z10 g10 hb09 hb08 Z9 hc9
 refine seqH fun K HK=>?_
 go_wp2
 refine HK.out _ _ ?_
 clear HK
 refine seqH fun K HK=>?_
 go_wp2_with (first
   | (go_at_call 180;refine hsum.mono ?_;rintro e w11 ⟨rfl,hb11⟩;clear hsum;have Z11:=tr_bl hb11 Z10';have hb1:=hb10.trans (hb11.mono hb10.size))
   | (go_at_call 117;refine (put_any 4 (z:Int) _).mono ?_;rintro e w12 ⟨⟨v12,rfl,o12⟩,hb12⟩;rw [oput4 hcr,le_len] at o12;have Z12:=tr_bl hb12 Z11;have hb3:=hb1.trans (hb12.mono hb1.size);obtain ⟨a12,c12,rfl,r12,n12,m12⟩:=Row.of_owns o12;obtain ⟨b12,f12,rfl,hc12⟩:=r12.at (k:=0) (by rw [bys_len,le_len];omega);clear r12 o12))
 refine HK.out _ _ ?_
 clear HK
 refine seqH fun K HK=>?_
 go_wp2_with (refine wpList_copyK rfl _ _ 37 37 5 1 underlying37 sizeByte rfl G 124 4 4 ⟨b12,f12,none⟩ 4 c12 rfl rfl (bys (headF t body 128++List.replicate 4 0)) 5 (bys (le 4 z)) Z12 ?_ (fun j v hv=>by rw [addr_add];exact hc12 j v hv) ?_ bys_one ?_;(rw [bys_len,le_len];rfl);(rw [bys_len,bys_len,le_len,List.length_append,HL.out,List.length_replicate];omega);intro w13 Z13 g13)
 refine HK.out _ _ ?_
 clear HK
 (try simp only [Act.put,qa1,qa2,qa3])
 have Z14:w13.heap[G]?=some (.cells (bys (sealF t body 128)).toArray 5 (0,0)):=by
  have h:=Z13.out
  rw [seal_2 (n:=128) (by decide) hb _ (le_len 4 z)] at h
  unfold sealF
  rw [HZ.out]
  exact h
 have hb4:=bl_st hb3 g13 hb3.size hG
 clear Z13 Z12 Z11 Z10'
 go_wp2
 go_ret2
 exact ⟨⟨G,rfl,hG,Z14⟩,hb4⟩
end
section
def OwnB (w:World) (base:Nat) (a:Option Addr) (c:Nat) (l:List UInt8):Prop:=
 (a=none∧c=0∧l=[])∨∃ g ys,a=some ⟨g,0,none⟩∧base≤g∧l.length≤c∧c≤maxLen∧w.heap[g]?=some (.cells (bys l++ys).toArray 5 (0,0))
section
variable {w w':World} {base c:Nat} {a:Option Addr} {l:List UInt8}
theorem OwnB.none (w:World) (base:Nat):OwnB w base none 0 []:=.inl ⟨rfl,rfl,rfl⟩
theorem OwnB.below (h:OwnB w base a c l) (hb:Below w.heap.size w w'):OwnB w' base a c l:=by
 rcases h with h | ⟨g,ys,h1,h2,h3,h4,h5⟩
 ·exact .inl h
 ·exact .inr ⟨g,ys,h1,h2,h3,h4,tr_bl hb h5⟩
theorem OwnB.kt {B:Nat} (h:OwnB w base a c l) (hk:Kt B w w'):OwnB w' base a c l:=by
 rcases h with h | ⟨g,ys,h1,h2,h3,h4,h5⟩
 ·exact .inl h
 ·exact .inr ⟨g,ys,h1,h2,h3,h4,hk.ty _ _ _ h5 (by decide) (by decide) (by decide)⟩
theorem OwnB.st {j:Nat} {cs:Array Value} {T:TypeId} (h:OwnB w base a c l) (hg:w.grownBy w' (some j)) (hc:w.heap[j]?=some (.cells cs T (0,0))) (hT:T≠5):OwnB w' base a c l:=by
 rcases h with h | ⟨g,ys,h1,h2,h3,h4,h5⟩
 ·exact .inl h
 ·refine .inr ⟨g,ys,h1,h2,h3,h4,tr_st hg h5 ?_⟩
  rintro rfl
  rw [hc] at h5
  injection h5 with h5
  injection h5 with _ e
  exact hT e
theorem OwnB.mono {base':Nat} (h:OwnB w base a c l) (hb:base'≤base):OwnB w base' a c l:=by
 rcases h with h | ⟨g,ys,h1,h2,h⟩
 ·exact .inl h
 ·exact .inr ⟨g,ys,h1,Nat.le_trans hb h2,h⟩
theorem OwnB.slb (h:OwnB w base a c l):SlB w a c l:=by
 rcases h with ⟨rfl,rfl,rfl⟩ | ⟨g,ys,rfl,h2,h3,h4,h5⟩
 ·exact ⟨.inl rfl,Nat.le_refl _,by simp,fun _=>rfl⟩
 ·refine ⟨Row.of_block h5 0 (fun i u hu=>?_),h3,h4,fun e=>by cases e⟩
  rw [Nat.zero_add,List.getElem?_append_left (List.getElem?_eq_some_iff.1 hu).1]
  exact hu
theorem OwnB.of_owns {v:Value} (h:w.ownsRow base 5 1 v l.length (bys l)) (hv:v≠.slice .none 0 0):∃ g cap,v=.slice (some ⟨g,0,.none⟩) l.length cap∧l.length≤cap∧cap≤maxLen∧OwnB w base (some ⟨g,0,.none⟩) l.length l:=by
 rcases h.2 with ⟨h1,h2⟩ | ⟨g,cap,cur,h1,h2,h3,h4,h5,h6,h7⟩
 ·exact absurd (by rw [h1]) hv
 ·refine ⟨g,cap,h1,h4,h5,.inr ⟨g,cur.toList.drop (bys l).length,rfl,h2,Nat.le_refl _,Nat.le_trans h4 h5,?_⟩⟩
  rw [Nat.mul_one] at h7
  have e:bys l++cur.toList.drop (bys l).length=cur.toList:=by
   rw [bys_len,← h7,List.take_append_drop]
  rw [e,Array.toArray_toList]
  exact h3
end
theorem drop_take_getN (l:List UInt8) (k n p q:Nat) (h:p+q≤n):getN ((l.drop k).take n) p q=getN l (k+p) q:=by
 unfold getN
 rw [List.drop_take,List.take_take,List.drop_drop,Nat.min_eq_left (by omega)]
theorem tagAt_sub (l:List UInt8) (k:Nat):tagAt ((l.drop k).take 15) 0=tagAt l k:=by
 unfold tagAt
 rw [drop_take_getN l k 15 0 1 (by omega),drop_take_getN l k 15 (0+1) 1 (by omega),drop_take_getN l k 15 (0+2) 1 (by omega),drop_take_getN l k 15 (0+3) 6 (by omega),drop_take_getN l k 15 (0+9) 6 (by omega)]
 simp only [Nat.zero_add,Nat.add_zero]
theorem SlB.sub {w:World} {b off cap:Nat} {l:List UInt8} (h:SlB w (some ⟨b,off,none⟩) cap l) (k n:Nat) (hk:k≤l.length):SlB w (some ⟨b,off+k,none⟩) (cap - k) ((l.drop k).take n):=by
 have h1:=h.le
 have h2:=h.max
 refine ⟨?_,by rw [List.length_take,List.length_drop];omega,by omega,fun e=>by cases e⟩
 rcases h.row with h0 | ⟨b',off',e,hc⟩
 ·have:l=[]:=by cases l with | nil=>rfl | cons x l=>simp [bys] at h0
  subst this
  exact .inl (by simp [bys])
 ·cases e
  refine .inr ⟨b,off+k,rfl,fun i u hu=>?_⟩
  rw [Nat.add_assoc]
  refine hc (k+i) u ?_
  have hi:=(List.getElem?_eq_some_iff.1 hu).1
  rw [bys_len,List.length_take] at hi
  have e:bys ((l.drop k).take n)=((bys l).drop k).take n:=by simp [bys,List.map_take,List.map_drop]
  rw [e,List.getElem?_take_of_lt (by omega),List.getElem?_drop] at hu
  exact hu
theorem SlB.some_of {w:World} {a:Option Addr} {cap:Nat} {l:List UInt8} (h:SlB w a cap l) (hl:0 < l.length):∃ b off,a=some ⟨b,off,none⟩:=by
 obtain ⟨b,off,e,_⟩:=h.row.at (k:=0) (by rw [bys_len];exact hl)
 exact ⟨b,off,e⟩
theorem clone_any (ad:Addr) (cap:Nat) (l:List UInt8) (w:World) (hs:SlB w (some ad) cap l) (hl:l.length≤1000):Calls Tryz.prog 214 #[.slice (some ad) l.length cap] w fun e w'=>(∃ g c,e=.returned (.slice (some ⟨g,0,none⟩) l.length c)∧l.length≤c∧c≤maxLen∧OwnB w' w.heap.size (some ⟨g,0,none⟩) l.length l)∧Below w.heap.size w w':=by
 have hq:(binOp .eql 37 (.slice (some ad) l.length cap) (.slice none 0 0)).run Tryz.prog w=.ok (.bool false) w:=by
  have:=Lib.run_eql_slice_nil (P:=Tryz.prog) w 37 5 (some ad) l.length cap 0 0 underlying37
  exact this
 go_enter func214,ntmps214
 refine seqH fun K HK=>?_
 go_wp2
 refine HK.out _ _ ?_
 clear HK
 refine seqH fun K HK=>?_
 go_wp2
 refine HK.out _ _ ?_
 clear HK
 clear hq
 have hbe:=blw w (Obj.cells #[] 5)
 have ho:=owns_empty w 5 1
 have hse:=hs.below hbe
 cases l with
 | nil=>
  go_wp2_with (at_builtin;refine wpList_run rfl (exec_append _ _ _ _ rfl _ _ rfl rfl (run_append_nothing (P:=Tryz.prog) _ 37 _ 5 elByte (some ⟨w.heap.size,0,none⟩) 0 0 (Nat.le_refl _) (some ad) cap)) ?_)
  go_ret
  exact ⟨⟨w.heap.size,0,rfl,Nat.le_refl _,by simp,.inr ⟨w.heap.size,[],rfl,Nat.le_refl _,Nat.le_refl _,by simp,heap_alloc_new w _⟩⟩,hbe⟩
 | cons x r=>
  have hpos:0 < (x :: r).length:=by simp
  generalize x :: r=l at *
  go_wp2_with (at_builtin;refine wpList_append_row rfl _ _ 37 5 elByte rfl w.heap.size _ 0 [] rfl ho (some ad) l.length cap (bys l) rfl (by rw [bys_len];omega) hse.row bys_one (by omega) (by decide) hbe.size ?_;intro v4 w4 ho4 hb4)
  rw [Nat.zero_add,List.nil_append] at ho4
  obtain ⟨g,c,rfl,h1,h2,h3⟩:=OwnB.of_owns ho4 (by
   rintro rfl
   obtain ⟨g,cap,e,_⟩:=owns_some ho4 hpos
   cases e)
  go_ret
  exact ⟨⟨g,c,rfl,h1,h2,h3⟩,hbe.trans hb4⟩
end
section
def PwB (w:World) (base g:Nat) (L:List UInt8):Prop:=∃ v,w.heap[g]?=some (.cells #[v,.int .i64 0,.bool false] 228 (0,0))∧w.ownsRow base 5 1 v L.length (bys L)
def Kp (w w':World):Prop:=∀ (j:Nat) (cs:Array Value) (T:TypeId),w.heap[j]?=some (.cells cs T (0,0))→T≠5→T≠228→w'.heap[j]?=some (.cells cs T (0,0))
section
variable {base g:Nat} {w w' w'':World} {L:List UInt8}
theorem Kp.refl (w:World):Kp w w:=fun _ _ _ h _ _=>h
theorem Kp.trans (h:Kp w w') (h2:Kp w' w''):Kp w w'':=fun j cs T a b c=>h2 j cs T (h j cs T a b c) b c
theorem Kp.of (h:Below w.heap.size w w'):Kp w w':=fun _ _ _ a _ _=>tr_bl h a
theorem Kp.st {cs:Array Value} (hg:w.grownBy w' (some g)) (hc:w.heap[g]?=some (.cells cs 228 (0,0))):Kp w w':=fun j cs' T a b c=>tr_st hg a (by
 rintro rfl
 have:=hc.symm.trans a
 injection this with this
 injection this with _ e
 exact c e.symm)
theorem Kp.gb {v:Value} {n:Nat} {xs:List Value} (ho:w.ownsRow base 5 1 v n xs) (hg:w.grownBy w' v.ownBlock):Kp w w':=fun _ _ _ a b _=>tr_gb hg a (own_ne ho a (Ne.symm b))
theorem PwB.below (h:PwB w base g L) (hb:Below w.heap.size w w'):PwB w' base g L:=by
 obtain ⟨v,h1,h2⟩:=h
 exact ⟨v,tr_bl hb h1,owns_bl h2 hb⟩
theorem pw_b (v:Value) (a:Option Addr) (n c:Nat) (x:Value):0+1≤(#[v,x,.bool false]:Array Value).size∧(Value.slice a n c).cells.size=1∧(∀ u ∈ (Value.slice a n c).cells.toList,u.oneCell'=true)∧((#[v,x,.bool false]:Array Value).toList.take 0++(Value.slice a n c).cells.toList++(#[v,x,.bool false]:Array Value).toList.drop (0+1)).toArray=#[.slice a n c,x,.bool false]:=
 ⟨by show _≤3;omega,rfl,by simp [Value.cells,Value.oneCell'],rfl⟩
theorem pw_bad (v x:Value):2+1≤(#[v,x,.bool false]:Array Value).size∧(Value.bool false).cells.size=1∧(∀ u ∈ (Value.bool false).cells.toList,u.oneCell'=true)∧((#[v,x,.bool false]:Array Value).toList.take 2++(Value.bool false).cells.toList++(#[v,x,.bool false]:Array Value).toList.drop (2+1)).toArray=#[v,x,.bool false]:=
 ⟨by show _≤3;omega,rfl,by simp [Value.cells,Value.oneCell'],rfl⟩
theorem nw_not_own {v:Value} {n:Nat} {xs:List Value} {ys:Array Value} (ho:w.ownsRow base 5 1 v n xs) (hc:w.heap[g]?=some (.cells ys 228 (0,0))):v.ownBlock≠some g:=own_ne ho hc (by decide)
theorem SlB.cellsAt {w:World} {a:Option Addr} {cap:Nat} {l:List UInt8} (h:SlB w a cap l) (hl:0 < l.length):∃ ad:Addr,a=some ad∧∀ w',Below w.heap.size w w'→∀ (j:Nat) (u:Value),(bys l)[j]?=some u→w'.cell? (ad.add j)=some u:=by
 obtain ⟨b,off,rfl⟩:=h.some_of hl
 refine ⟨_,rfl,fun w' hb j u hu=>?_⟩
 have h2:=h.below hb
 have hj:j < (bys l).length:=(List.getElem?_eq_some_iff.1 hu).1
 obtain ⟨b',off',ha,hc⟩:=h2.row.at (k:=j) hj
 injection ha with ha
 injection ha with h3 h4 h5
 subst h3 h4
 rw [addr_add]
 exact hc j u hu
theorem pput_any (h:PwB w base g L) (k n:Nat) (hf:fitsB k n=true) (hb:base≤w.heap.size) (hg:base≤g) (hl:L.length≤1000000) :
  Calls Tryz.prog 151 #[.pointer (some ⟨g,0,none⟩),.int .i64 k,.int .i64 n] w fun e w'=>e=.returned (.tuple #[])∧PwB w' base g (L++le k n)∧Below base w w'∧Kp w w':=by
 have hk:=(fits_w hf).1
 have hput:=fun w=>put_any k n w
 have e1:oputL k n=le k n:=by unfold oputL;rw [if_pos hf];rfl
 have e2:oputE k n=0:=by unfold oputE;rw [if_pos hf]
 rw [e1,e2] at hput
 have hml:0 < (le k n).length∧(le k n).length≤6:=by rw [le_len];omega
 clear e1 e2 hf hk
 generalize (k:Int)=kk at *
 generalize (n:Int)=nn at *
 generalize le k n=m at *
 obtain ⟨v,P0,O0⟩:=h
 go_enter func151,ntmps151
 refine seqH fun K HK=>?_
 go_wp2_with (go_at_call 117;refine (hput _).mono ?_;rintro e wr ⟨⟨vm,rfl,om⟩,hbr⟩)
 refine HK.out _ _ ?_
 clear HK
 obtain ⟨am,cm,rfl,sm⟩:=SlB.of_owns om
 obtain ⟨ad,rfl,hma⟩:=sm.cellsAt hml.1
 have hbd:=(Below.refl wr.heap.size wr).drew
 have hm:=hma _ hbd
 have P1:=tr_bl hbd (tr_bl hbr P0)
 have O1:=owns_bl (owns_bl O0 hbr) hbd
 have hbr:=(hbr.trans (hbd.mono hbr.size))
 have k1:Kp w wr.drew:=Kp.of hbr
 have hbs:=Nat.le_trans hb hbr.size
 have hbr:=hbr.mono hb
 clear P0 O0 sm om hma hput
 refine wp_region_held_drew (S:=fun w'=>∃ v',w'.heap[g]?=some (.cells #[v',.int .i64 0,.bool false] 228 (0,0))) (by kernel_rfl) ⟨v,P1⟩ (fun hS0=>?_)
 generalize wr.drew=x0 at *
 refine tkP 0 rfl ?_
 refine tkP 1 rfl ?_
 refine tkP 2 rfl ?_
 refine tkP 3 rfl ?_
 refine tkP 4 rfl ?_
 refine tkP 6 rfl ?_
 refine tkP 8 rfl ?_
 refine tkP 9 rfl ?_
 refine tkP 10 rfl ?_
 refine tkT 11 rfl (by intro wS hSw;obtain ⟨v',hv'⟩:=hSw;have c:=blk_cell hv' 2 _ rfl;go_simp;(try with_reducible rfl)) ?_
 refine rdy1 5 rfl (fun K' hK'=>?_)
 have c0:=blk_cell P1 0 _ rfl
 go_simp
 refine hK'.out _ _ ⟨v,P1⟩ (fun _=>?_)
 clear hK' c0
 (try simp only [Act.put,qa1,qa2,qa3])
 refine rdy1 7 rfl (fun K' hK'=>?_)
 refine wp_appN _ _ 37 37 5 5 elByte underlying37 rfl base v L.length (bys L) rfl O1 ad m.length cm (bys m) rfl (by rw [bys_len,Nat.mul_one]) hm bys_one (by omega) (by decide) hbs (fun v7 w7 O7 g7=>?_)
 have P7:=tr_gb g7 P1 (nw_not_own O1 P1)
 have k7:Kp x0 w7:=Kp.gb O1 g7
 have b7:Below base w w7:=hbr.grown g7 hbs (fun k e=>(O1.lt k e).1)
 have hb7:=b7.size
 refine hK'.out _ _ ⟨v,P7⟩ (fun _=>?_)
 clear hK' hS0
 (try simp only [Act.put,qa1,qa2,qa3])
 refine tkP 12 rfl ?_
 refine tkP 13 rfl ?_
 refine tkP 14 rfl ?_
 refine tkP 15 rfl ?_
 refine tkP 16 rfl ?_
 refine tkP 17 rfl ?_
 have O8:w7.ownsRow base 5 1 v7 (L++m).length (bys (L++m)):=by rw [List.length_append,bys_app];exact O7
 clear O7
 obtain ⟨a8,c8,rfl,_⟩:=SlB.of_owns O8
 refine rdy1 18 rfl (fun K' hK'=>?_)
 refine wp_stB 37 _ _ ?_
 refine ⟨_,_,_,⟨_,_,_,sizeOf37,rfl,P7,pw_b _ _ _ _ _⟩,?_⟩
 intro w8 P8 g8
 refine hK'.out _ _ ⟨_,P8⟩ (fun _=>?_)
 clear hK'
 (try simp only [Act.put,qa1,qa2,qa3])
 refine tkP 19 rfl ?_
 refine tkP 20 rfl ?_
 refine rdy1 21 rfl (fun K' hK'=>?_)
 refine wp_stB 4 _ _ ?_
 refine ⟨_,_,_,⟨_,_,_,sizeOf4,rfl,P8,pw_bad _ _⟩,?_⟩
 intro w9 P9 g9
 refine hK'.out _ _ ⟨_,P9⟩ (fun _=>?_)
 clear hK'
 refine wpAnyH_done (by kernel_rfl) ?_ _
 go_end0
 exact ⟨rfl,⟨_,P9,owns_ne (owns_ne O8 g8 P7 (by decide)) g9 P8 (by decide)⟩,bls (bls b7 hb g8 hg) hb g9 hg,(k1.trans k7).trans ((Kp.st g8 P7).trans (Kp.st g9 P8))⟩
theorem pwrite_any (h:PwB w base g L) {ge off:Nat} (s:Tx) (hc:w.cell? ⟨ge,off,none⟩=some (.string s)) (hs:s.size≤255) (hb:base≤w.heap.size) (hg:base≤g) (hl:L.length≤1000000) :
  Calls Tryz.prog 195 #[.pointer (some ⟨g,0,none⟩),.pointer (some ⟨ge,off,none⟩)] w fun e w'=>e=.returned (.tuple #[])∧PwB w' base g (L++txt s)∧Below base w w'∧Kp w w':=by
 have hput:=fun w=>text_any s w hs
 have hml:0 < (txt s).length∧(txt s).length≤256:=by rw [txt_len];omega
 generalize txt s=m at *
 obtain ⟨v,P0,O0⟩:=h
 go_enter func195,ntmps195
 refine seqH fun K HK=>?_
 go_wp2_with (go_at_call 218;refine (hput _).mono ?_;rintro e wr ⟨⟨vm,rfl,om⟩,hbr⟩)
 refine HK.out _ _ ?_
 clear HK
 obtain ⟨am,cm,rfl,sm⟩:=SlB.of_owns om
 obtain ⟨ad,rfl,hma⟩:=sm.cellsAt hml.1
 have hbd:=(Below.refl wr.heap.size wr).drew
 have hm:=hma _ hbd
 have P1:=tr_bl hbd (tr_bl hbr P0)
 have O1:=owns_bl (owns_bl O0 hbr) hbd
 have hbr:=(hbr.trans (hbd.mono hbr.size))
 have k1:Kp w wr.drew:=Kp.of hbr
 have hbs:=Nat.le_trans hb hbr.size
 have hbr:=hbr.mono hb
 clear P0 O0 sm om hma hput
 refine wp_region_held_drew (S:=fun w'=>∃ v',w'.heap[g]?=some (.cells #[v',.int .i64 0,.bool false] 228 (0,0))) (by kernel_rfl) ⟨v,P1⟩ (fun hS0=>?_)
 generalize wr.drew=x0 at *
 refine tkP 0 rfl ?_
 refine tkP 1 rfl ?_
 refine tkP 2 rfl ?_
 refine tkP 3 rfl ?_
 refine tkP 4 rfl ?_
 refine tkP 6 rfl ?_
 refine tkP 8 rfl ?_
 refine tkP 9 rfl ?_
 refine tkP 10 rfl ?_
 refine tkT 11 rfl (by intro wS hSw;obtain ⟨v',hv'⟩:=hSw;have c:=blk_cell hv' 2 _ rfl;go_simp;(try with_reducible rfl)) ?_
 refine rdy1 5 rfl (fun K' hK'=>?_)
 have c0:=blk_cell P1 0 _ rfl
 go_simp
 refine hK'.out _ _ ⟨v,P1⟩ (fun _=>?_)
 clear hK' c0
 (try simp only [Act.put,qa1,qa2,qa3])
 refine rdy1 7 rfl (fun K' hK'=>?_)
 refine wp_appN _ _ 37 37 5 5 elByte underlying37 rfl base v L.length (bys L) rfl O1 ad m.length cm (bys m) rfl (by rw [bys_len,Nat.mul_one]) hm bys_one (by omega) (by decide) hbs (fun v7 w7 O7 g7=>?_)
 have P7:=tr_gb g7 P1 (nw_not_own O1 P1)
 have k7:Kp x0 w7:=Kp.gb O1 g7
 have b7:Below base w w7:=hbr.grown g7 hbs (fun k e=>(O1.lt k e).1)
 have hb7:=b7.size
 refine hK'.out _ _ ⟨v,P7⟩ (fun _=>?_)
 clear hK' hS0
 (try simp only [Act.put,qa1,qa2,qa3])
 refine tkP 12 rfl ?_
 refine tkP 13 rfl ?_
 refine tkP 14 rfl ?_
 refine tkP 15 rfl ?_
 refine tkP 16 rfl ?_
 refine tkP 17 rfl ?_
 have O8:w7.ownsRow base 5 1 v7 (L++m).length (bys (L++m)):=by rw [List.length_append,bys_app];exact O7
 clear O7
 obtain ⟨a8,c8,rfl,_⟩:=SlB.of_owns O8
 refine rdy1 18 rfl (fun K' hK'=>?_)
 refine wp_stB 37 _ _ ?_
 refine ⟨_,_,_,⟨_,_,_,sizeOf37,rfl,P7,pw_b _ _ _ _ _⟩,?_⟩
 intro w8 P8 g8
 refine hK'.out _ _ ⟨_,P8⟩ (fun _=>?_)
 clear hK'
 (try simp only [Act.put,qa1,qa2,qa3])
 refine tkP 19 rfl ?_
 refine tkP 20 rfl ?_
 refine rdy1 21 rfl (fun K' hK'=>?_)
 refine wp_stB 4 _ _ ?_
 refine ⟨_,_,_,⟨_,_,_,sizeOf4,rfl,P8,pw_bad _ _⟩,?_⟩
 intro w9 P9 g9
 refine hK'.out _ _ ⟨_,P9⟩ (fun _=>?_)
 clear hK'
 refine wpAnyH_done (by kernel_rfl) ?_ _
 go_end0
 exact ⟨rfl,⟨_,P9,owns_ne (owns_ne O8 g8 P7 (by decide)) g9 P8 (by decide)⟩,bls (bls b7 hb g8 hg) hb g9 hg,(k1.trans k7).trans ((Kp.st g8 P7).trans (Kp.st g9 P8))⟩
end
end
section
section
variable {base g ge:Nat} {w w' w'':World} {L:List UInt8} {e:En} {b:Bal}
def txE (e:En):Nat→List UInt8
 | 0=>[]
 | 1=>txt e.op.key
 | 2=>txt e.op.key++txt e.op.old
 | _=>txt e.op.key++(txt e.op.old++txt e.op.val)
theorem txE_len (e:En) (h:e.op.key.size≤255∧e.op.old.size≤255∧e.op.val.size≤255):∀ k,(txE e k).length≤768
 | 0=>by simp [txE]
 | 1=>by simp only [txE,txt_len];omega
 | 2=>by simp only [txE,List.length_append,txt_len];omega
 | _+3=>by simp only [txE,List.length_append,txt_len];omega
theorem ptexts_w (h:PwB w base g L) (he:EntB w ge e) (hb:base≤w.heap.size) (hg:base≤g) (hl:L.length≤1000) (hsz:e.op.key.size≤255∧e.op.old.size≤255∧e.op.val.size≤255) :
  Calls Tryz.prog 194 #[.pointer (some ⟨g,0,none⟩),.pointer (some ⟨ge,3,none⟩),.func (.func 195) #[] #[]] w fun en w'=>en=.returned (.tuple #[])∧PwB w' base g (L++(txt e.op.key++(txt e.op.old++txt e.op.val)))∧Below base w w'∧Kp w w':=by
 go_enter func194,ntmps194
 refine seqH fun K HK=>?_
 refine wp_region_under (by kernel_rfl) (by kernel_rfl) ?_
 repeat (go_big_quiet_step (fail))
 refine wpQuiet_nil ?_
 intro _ hw'
 obtain ⟨xU,hw''⟩:=hw'
 subst hw''
 have hbU:=under_below w xU
 have hp0:PwB (Under w xU) base g L:=h.below hbU
 have he0:(Under w xU).heap[ge]?=some (.cells (enA e) 73 (0,0)):=tr_bl hbU he
 have hk0:Kp w (Under w xU):=Kp.of hbU
 refine HK.out _ _ ?_
 clear HK
 have hbd:=hbU
 clear hbU
 generalize Under w xU=w0 at *
 rw [show Value.agg #[.pointer (some ⟨ge,4,none⟩),.pointer (some ⟨ge,5,none⟩),.pointer (some ⟨ge,6,none⟩)]=txV ge from rfl]
 obtain ⟨i0,i1,i2⟩:=txV_at ge
 go_wp2
 go_loopw [18,7] (fun i _ wr=>∃ j:Nat,j≤3∧i=.int .i64 (j:Nat)∧PwB wr base g (L++txE e j)∧wr.heap[ge]?=some (.cells (enA e) 73 (0,0))∧Below base w wr∧Kp w wr∧(txE e j).length≤768) (fun i _ _=>3 - (intOf i).toNat)
 case atStart=>exact ⟨0,by omega,rfl,by simpa [txE] using hp0,he0,hbd.mono hb,hk0,by simp [txE]⟩
 case round=>
  clear hp0 he0 hbd hk0
  obtain ⟨j,hj,rfl,hpn,hen,hbw,hkp,htl⟩:=hrel
  rcases (show j=0∨j=1∨j=2∨j=3 by omega) with rfl | rfl | rfl | rfl
  ·skip
   generalize hst:txE e 0=st at *
   have h9:L++txE e (0+1)=L++st++txt e.op.key:=by rw [← hst];simp [txE]
   have HST:=Lib.hid h9
   have hstl:(L++st).length≤1000000:=by rw [List.length_append];omega
   clear hst h9
   have hbr:=Nat.le_trans hb hbw.size
   go_wp2_with (go_at_call 195;refine (pwrite_any hpn (off:=4) e.op.key (blk_cell hen 4 _ rfl) hsz.1 hbr hg hstl).mono ?_;rintro en w1 ⟨rfl,hp1,hb1,kp1⟩)
   go_roundw
   case rel=>exact ⟨0+1,by omega,by rfl,by rw [HST.out];exact hp1,kp1 _ _ _ hen (by decide) (by decide),hbw.trans hb1,hkp.trans kp1,txE_len e hsz _⟩
   case measure=>simp [intOf]
  ·skip
   generalize hst:txE e 1=st at *
   have h9:L++txE e (1+1)=L++st++txt e.op.old:=by rw [← hst];simp [txE]
   have HST:=Lib.hid h9
   have hstl:(L++st).length≤1000000:=by rw [List.length_append];omega
   clear hst h9
   have hbr:=Nat.le_trans hb hbw.size
   go_wp2_with (go_at_call 195;refine (pwrite_any hpn (off:=5) e.op.old (blk_cell hen 5 _ rfl) hsz.2.1 hbr hg hstl).mono ?_;rintro en w1 ⟨rfl,hp1,hb1,kp1⟩)
   go_roundw
   case rel=>exact ⟨1+1,by omega,by rfl,by rw [HST.out];exact hp1,kp1 _ _ _ hen (by decide) (by decide),hbw.trans hb1,hkp.trans kp1,txE_len e hsz _⟩
   case measure=>simp [intOf]
  ·skip
   generalize hst:txE e 2=st at *
   have h9:L++txE e (2+1)=L++st++txt e.op.val:=by rw [← hst];simp [txE]
   have HST:=Lib.hid h9
   have hstl:(L++st).length≤1000000:=by rw [List.length_append];omega
   clear hst h9
   have hbr:=Nat.le_trans hb hbw.size
   go_wp2_with (go_at_call 195;refine (pwrite_any hpn (off:=6) e.op.val (blk_cell hen 6 _ rfl) hsz.2.2 hbr hg hstl).mono ?_;rintro en w1 ⟨rfl,hp1,hb1,kp1⟩)
   go_roundw
   case rel=>exact ⟨2+1,by omega,by rfl,by rw [HST.out];exact hp1,kp1 _ _ _ hen (by decide) (by decide),hbw.trans hb1,hkp.trans kp1,txE_len e hsz _⟩
   case measure=>simp [intOf]
  ·go_wp2
   go_end0
   exact ⟨rfl,hpn,hbw,hkp⟩
theorem wfits1 {n:Nat} (h:n≤255):fitsB ((1:Nat):Int) n=true:=by unfold fitsB manyI;simp;omega
theorem fits6 {n:Nat} (h:n≤1099511627776):fitsB ((6:Nat):Int) n=true:=by unfold fitsB manyI;simp;omega
theorem pentry_any (h:PwB w base g L) (hm:mayE e=true) (hb:base≤w.heap.size) (hg:base≤g) (hl:L.length≤100) :
  Calls Tryz.prog 152 #[.pointer (some ⟨g,0,none⟩),.agg (enA e)] w fun en w'=>en=.returned (.tuple #[])∧PwB w' base g (L++entB e)∧Below base w w'∧Kp w w':=by
 go_enter func152,ntmps152
 refine seqH fun K HK=>?_
 go_wp2
 refine HK.out _ _ ?_
 clear HK
 have hbx:=blw w (Obj.cells (enA e) 73)
 have E1:=heap_alloc_new w (Obj.cells (enA e) 73)
 have P1:=h.below hbx
 have k1:Kp w (w.alloc (Obj.cells (enA e) 73)):=Kp.of hbx
 have hb1:=hbx.mono hb
 have hbs:=Nat.le_trans hb hbx.size
 clear hbx
 generalize w.alloc (Obj.cells (enA e) 73)=w1 at *
 generalize w.heap.size=ge at *
 have c0:w1.cell? ⟨ge,0,none⟩=some (.int .u8 e.kind):=blk_cell E1 0 _ rfl
 rcases may_kind hm with hk | hk
 ·rw [hk] at c0
  have hbe:L++entB e=L++le 1 1:=by unfold entB;rw [if_neg (by omega),hk];simp
  rw [hbe]
  clear hbe
  refine seqH fun K HK=>?_
  go_wp2_with (go_at_call 151;refine (pput_any P1 1 1 (by decide) hbs hg (by omega)).mono ?_;rintro en w2 ⟨rfl,P2,hb2,k2⟩)
  refine HK.out _ _ ?_
  clear HK
  have c2:=blk_cell (k2 _ _ _ E1 (by decide) (by decide)) 0 _ (show (enA e)[0]?=some (.int .u8 1) by show some (Value.int .u8 e.kind)=_;rw [hk])
  go_wp2
  go_end0
  exact ⟨rfl,P2,hb1.trans hb2,k1.trans k2⟩
 ·rw [hk] at c0
  obtain ⟨_,q1,q2,q3,q4,ho,_⟩:=mayE_two hm (by omega)
  obtain ⟨o1,o2,o3,o4,o5,o6⟩:=mayO_parts ho
  have hbe:L++entB e=L++le 1 2++le 1 e.cli.toNat++le 6 e.seq.toNat++le 1 e.op.kind.toNat++(txt e.op.key++(txt e.op.old++txt e.op.val)):=by unfold entB opB;rw [if_pos hk,hk];simp
  rw [hbe]
  clear hbe
  have f1:fitsB ((1:Nat):Int) (e.cli.toNat:Nat)=true:=wfits1 (by omega)
  have f2:fitsB ((6:Nat):Int) (e.seq.toNat:Nat)=true:=fits6 (by omega)
  have f3:fitsB ((1:Nat):Int) (e.op.kind.toNat:Nat)=true:=wfits1 (by omega)
  have c0':=blk_cell E1 0 _ (show (enA e)[0]?=some (.int .u8 2) by show some (Value.int .u8 e.kind)=_;rw [hk])
  have hcl:((e.cli.toNat:Nat):Int)=e.cli:=by omega
  have hsq:((e.seq.toNat:Nat):Int)=e.seq:=by omega
  have hok:((e.op.kind.toNat:Nat):Int)=e.op.kind:=by omega
  refine seqH fun K HK=>?_
  go_wp2_with (go_at_call 151;refine (pput_any P1 1 2 (by decide) hbs hg (by omega)).mono ?_;rintro en w2 ⟨rfl,P2,hb2,k2⟩)
  refine HK.out _ _ ?_
  clear HK
  have E2:=k2 _ _ _ E1 (by decide) (by decide)
  have c2:w2.cell? ⟨ge,0,none⟩=some (.int .u8 2):=blk_cell E2 0 _ (show (enA e)[0]?=some (.int .u8 2) by show some (Value.int .u8 e.kind)=_;rw [hk])
  have c2a:w2.cell? ⟨ge,1,none⟩=some (.int .i64 (e.cli.toNat:Nat)):=blk_cell E2 1 _ (show (enA e)[1]?=some (.int .i64 (e.cli.toNat:Nat)) by rw [hcl];rfl)
  have hbs2:=Nat.le_trans hbs hb2.size
  generalize e.cli.toNat=cl at *
  generalize e.seq.toNat=sq at *
  generalize e.op.kind.toNat=ok at *
  have hokb:(ok:Int)≤4:=by omega
  have HCL:=Lib.hid hcl
  have HSQ:=Lib.hid hsq
  have HOK:=Lib.hid hok
  clear hcl hsq hok c0 c0' E1 P1
  have hlm:∀ m:List UInt8,m.length≤10→(L++m).length≤200:=fun m hm=>by rw [List.length_append];omega
  go_wp2_with fail
  refine (pput_any P2 1 cl f1 hbs2 hg (by simp only [List.length_append,le_len];omega)).mono ?_
  rintro en w3 ⟨rfl,P3,hb3,k3⟩
  have E3:=k3 _ _ _ E2 (by decide) (by decide)
  have c3a:w3.cell? ⟨ge,2,none⟩=some (.int .i64 (sq:Nat)):=blk_cell E3 2 _ (show (enA e)[2]?=some (.int .i64 (sq:Nat)) by rw [HSQ.out];rfl)
  have hbs3:=Nat.le_trans hbs2 hb3.size
  clear c2 c2a P2 E2
  go_wp2_with fail
  refine (pput_any P3 6 sq f2 hbs3 hg (by simp only [List.length_append,le_len];omega)).mono ?_
  rintro en w4 ⟨rfl,P4,hb4,k4⟩
  have E4:=k4 _ _ _ E3 (by decide) (by decide)
  have c4a:w4.cell? ⟨ge,3,none⟩=some (.int .u8 (ok:Nat)):=blk_cell E4 3 _ (show (enA e)[3]?=some (.int .u8 (ok:Nat)) by rw [HOK.out];rfl)
  have hbs4:=Nat.le_trans hbs3 hb4.size
  clear c3a P3 E3
  go_wp2_with fail
  refine (pput_any P4 1 ok f3 hbs4 hg (by simp only [List.length_append,le_len];omega)).mono ?_
  rintro en w5 ⟨rfl,P5,hb5,k5⟩
  have E5:=k5 _ _ _ E4 (by decide) (by decide)
  have hbs5:=Nat.le_trans hbs4 hb5.size
  clear c4a P4 E4
  go_wp2_with fail
  refine (ptexts_w P5 E5 hbs5 hg (by simp only [List.length_append,le_len];omega) (by omega)).mono ?_
  rintro en w6 ⟨rfl,P6,hb6,k6⟩
  go_wp2
  go_end0
  exact ⟨rfl,P6,(((hb1.trans hb2).trans (hb3.trans hb4)).trans (hb5.trans hb6)),(((k1.trans k2).trans (k3.trans k4)).trans (k5.trans k6))⟩
end
end
section
theorem OwnB.of_row {w:World} {base:Nat} {v:Value} {l:List UInt8} (h:w.ownsRow base 5 1 v l.length (bys l)) (hl:0 < l.length):∃ a c,v=.slice a l.length c∧OwnB w base a c l:=by
 obtain ⟨a0,c0,rfl,hs⟩:=SlB.of_owns h
 obtain ⟨b,off,rfl⟩:=hs.some_of hl
 obtain ⟨g,cap,e,h1,h2,h3⟩:=OwnB.of_owns h (by simp)
 injection e with e1 e2 e3
 subst e3
 refine ⟨_,_,rfl,?_⟩
 rw [e1]
 rcases h3 with ⟨h,_⟩ | ⟨g',ys,h4,h5,h6,h7,h8⟩
 ·cases h
 ·exact .inr ⟨g',ys,h4,h5,h1,h2,h8⟩
section
variable {w:World} {e:En} {b:Bal}
theorem eprint_bad (h:(mayBl b && mayE e)=false):Calls Tryz.prog 78 #[.agg (blA b),.agg (enA e)] w fun en w'=>en=.returned (.tuple #[.slice none 0 0,.int .i64 2])∧Below w.heap.size w w':=by
 have hbal:=fun w=>ballot_any b w _ rfl
 have hmy:=fun w=>emay_any e w _ rfl
 go_enter func78,ntmps78
 refine seqH fun K HK=>?_
 go_wp2
 refine HK.out _ _ ?_
 clear HK
 have hbB:=blw w (Obj.cells (blA b) 69)
 have hbx:=hbB.trans ((blw (w.alloc (Obj.cells (blA b) 69)) (Obj.cells (enA e) 73)).mono hbB.size)
 have B1:((w.alloc (Obj.cells (blA b) 69)).alloc (Obj.cells (enA e) 73)).heap[w.heap.size]?=some (.cells (blA b) 69 (0,0)):=tr_al (Obj.cells (enA e) 73) (heap_alloc_new w (Obj.cells (blA b) 69))
 have E1:((w.alloc (Obj.cells (blA b) 69)).alloc (Obj.cells (enA e) 73)).heap[w.heap.size+1]?=some (.cells (enA e) 73 (0,0)):=by
  have:=heap_alloc_new (w.alloc (Obj.cells (blA b) 69)) (Obj.cells (enA e) 73)
  rwa [show (w.alloc (Obj.cells (blA b) 69)).heap.size=w.heap.size+1 by simp] at this
 clear hbB
 generalize (w.alloc (Obj.cells (blA b) 69)).alloc (Obj.cells (enA e) 73)=w1 at *
 cases hb:mayBl b
 case false=>
  rw [hb] at hbal
  clear hmy h hb
  go_wp2_with (first
   | ((with_reducible refine wpList_ldB 69 _ ?_);refine ⟨rfl,_,⟨_,_,_,_,_,isAgg69,sizeOf69,rfl,‹_›,arr_all rfl⟩,?_⟩)
   | (go_at_call 149;refine (hbal _).mono ?_;rintro en w2 ⟨rfl,hb2⟩))
  go_ret2
  exact ⟨rfl,hbx.trans (hb2.mono hbx.size)⟩
 case true=>
  rw [hb,Bool.true_and] at h
  rw [hb] at hbal
  rw [h] at hmy
  clear h hb
  go_wp2_with (first
   | ((with_reducible refine wpList_ldB 69 _ ?_);refine ⟨rfl,_,⟨_,_,_,_,_,isAgg69,sizeOf69,rfl,‹_›,arr_all rfl⟩,?_⟩)
   | ((with_reducible refine wpList_ldB 73 _ ?_);refine ⟨rfl,_,⟨_,_,_,_,_,isAgg73,sizeOf73,rfl,‹_›,arr_all rfl⟩,?_⟩)
   | (go_at_call 149;refine (hbal _).mono ?_;rintro en w2 ⟨rfl,hb2⟩;have E2:=tr_bl hb2 E1)
   | (go_at_call 150;refine (hmy _).mono ?_;rintro en w3 ⟨rfl,hb3⟩))
  go_ret2
  have hb4:=hbx.trans (hb2.mono hbx.size)
  exact ⟨rfl,hb4.trans (hb3.mono hb4.size)⟩
theorem eprint_ok (hb:mayBl b=true) (hm:mayE e=true):Calls Tryz.prog 78 #[.agg (blA b),.agg (enA e)] w fun en w'=>(∃ a c,en=.returned (.tuple #[.slice a (bodyE b e).length c,.int .i64 0])∧OwnB w' w.heap.size a c (bodyE b e))∧Below w.heap.size w w':=by
 have hbal:=fun w=>ballot_any b w _ hb
 have hmy:=fun w=>emay_any e w _ hm
 obtain ⟨q1,q2,q3,q4⟩:=mayBl_parts hb
 have hbl:=bodyE_len b hm
 go_enter func78,ntmps78
 refine seqH fun K HK=>?_
 go_wp2
 refine HK.out _ _ ?_
 clear HK
 have hbB:=blw w (Obj.cells (blA b) 69)
 have hbx:=hbB.trans ((blw (w.alloc (Obj.cells (blA b) 69)) (Obj.cells (enA e) 73)).mono hbB.size)
 have B1:((w.alloc (Obj.cells (blA b) 69)).alloc (Obj.cells (enA e) 73)).heap[w.heap.size]?=some (.cells (blA b) 69 (0,0)):=tr_al (Obj.cells (enA e) 73) (heap_alloc_new w (Obj.cells (blA b) 69))
 have E1:((w.alloc (Obj.cells (blA b) 69)).alloc (Obj.cells (enA e) 73)).heap[w.heap.size+1]?=some (.cells (enA e) 73 (0,0)):=by
  have:=heap_alloc_new (w.alloc (Obj.cells (blA b) 69)) (Obj.cells (enA e) 73)
  rwa [show (w.alloc (Obj.cells (blA b) 69)).heap.size=w.heap.size+1 by simp] at this
 clear hbB
 generalize (w.alloc (Obj.cells (blA b) 69)).alloc (Obj.cells (enA e) 73)=w1 at *
 generalize w.heap.size+1=ge at *
 refine seqH fun K HK=>?_
 go_wp2_with (first
    | ((with_reducible refine wpList_ldB 69 _ ?_);refine ⟨rfl,_,⟨_,_,_,_,_,isAgg69,sizeOf69,rfl,‹_›,arr_all rfl⟩,?_⟩)
    | ((with_reducible refine wpList_ldB 73 _ ?_);refine ⟨rfl,_,⟨_,_,_,_,_,isAgg73,sizeOf73,rfl,‹_›,arr_all rfl⟩,?_⟩)
    | (go_at_call 149;refine (hbal _).mono ?_;rintro en w2 ⟨rfl,hb2⟩;have E2:=tr_bl hb2 E1)
    | (go_at_call 150;refine (hmy _).mono ?_;rintro en w3 ⟨rfl,hb3⟩))
 refine HK.out _ _ ?_
 clear HK
 have E3:=tr_bl hb3 E2
 have B3:=tr_bl hb3 (tr_bl hb2 B1)
 have hx2:=hbx.trans (hb2.mono hbx.size)
 have hx3:=hx2.trans (hb3.mono hx2.size)
 clear E1 B1 E2 hb2 hb3 hx2 hbx
 refine seqH fun K HK=>?_
 go_wp2
 refine HK.out _ _ ?_
 clear HK
 have hbp:=blw w3 (Obj.cells #[.slice none 0 0,.int .i64 0,.bool false] 228)
 have E4:=tr_al (Obj.cells #[.slice none 0 0,.int .i64 0,.bool false] 228) E3
 have B4:=tr_al (Obj.cells #[.slice none 0 0,.int .i64 0,.bool false] 228) B3
 have P4:PwB (w3.alloc (Obj.cells #[.slice none 0 0,.int .i64 0,.bool false] 228)) w.heap.size w3.heap.size []:=⟨_,heap_alloc_new w3 (Obj.cells #[.slice none 0 0,.int .i64 0,.bool false] 228),World.ownsRow_nil _ _ _ _⟩
 have hx4:=hx3.trans (hbp.mono hx3.size)
 have hg:=hx3.size
 have hbs:=Nat.le_trans hg hbp.size
 clear E3 B3 hx3 hbp
 generalize w3.alloc (Obj.cells #[.slice none 0 0,.int .i64 0,.bool false] 228)=w4 at *
 generalize w3.heap.size=g at *
 have f1:fitsB ((6:Nat):Int) (b.rnd.toNat:Nat)=true:=fits6 (by omega)
 have f2:fitsB ((1:Nat):Int) (b.rep.toNat:Nat)=true:=wfits1 (by omega)
 have hr:((b.rnd.toNat:Nat):Int)=b.rnd:=by omega
 have hp:((b.rep.toNat:Nat):Int)=b.rep:=by omega
 have hB:bodyE b e=[]++le 6 b.rnd.toNat++le 1 b.rep.toNat++entB e:=by simp [bodyE]
 generalize b.rnd.toNat=rn at *
 generalize b.rep.toNat=rp at *
 have c4:w4.cell? ⟨w.heap.size,0,none⟩=some (.int .i64 (rn:Nat)):=blk_cell B4 0 _ (show (blA b)[0]?=some (.int .i64 (rn:Nat)) by rw [hr];rfl)
 have HP:=Lib.hid hp
 have HB:=Lib.hid hB
 have HL:=Lib.hid hbl
 clear hr hp hB hbl q1 q2 q3 q4 hbal hmy
 go_wp2_with fail
 refine (pput_any P4 6 rn f1 hbs hg (by simp)).mono ?_
 rintro en w5 ⟨rfl,P5,hb5,k5⟩
 have B5:=k5 _ _ _ B4 (by decide) (by decide)
 have E5:=k5 _ _ _ E4 (by decide) (by decide)
 have hbs5:=Nat.le_trans hbs hb5.size
 have hx5:=hx4.trans hb5
 have c5:w5.cell? ⟨w.heap.size,1,none⟩=some (.int .i64 (rp:Nat)):=blk_cell B5 1 _ (show (blA b)[1]?=some (.int .i64 (rp:Nat)) by rw [HP.out];rfl)
 clear P4 B4 E4 c4 hx4 hb5 k5
 go_wp2_with fail
 refine (pput_any P5 1 rp f2 hbs5 hg (by simp only [List.length_append,le_len,List.length_nil];omega)).mono ?_
 rintro en w6 ⟨rfl,P6,hb6,k6⟩
 have E6:=k6 _ _ _ E5 (by decide) (by decide)
 have hbs6:=Nat.le_trans hbs5 hb6.size
 have hx6:=hx5.trans hb6
 clear P5 B5 E5 c5 hx5 hb6 k6
 go_wp2_with ((with_reducible refine wpList_ldB 73 _ ?_);refine ⟨rfl,_,⟨_,_,_,_,_,isAgg73,sizeOf73,rfl,‹_›,arr_all rfl⟩,?_⟩)
 refine (pentry_any P6 hm hbs6 hg (by simp only [List.length_append,le_len,List.length_nil];omega)).mono ?_
 rintro en w7 ⟨rfl,⟨v,P7,O7⟩,hb7,k7⟩
 have c7:=blk_cell P7 0 _ rfl
 have O8:w7.ownsRow w.heap.size 5 1 v (bodyE b e).length (bys (bodyE b e)):=by rw [HB.out];exact O7
 obtain ⟨a,c,rfl,hO⟩:=OwnB.of_row O8 (by have:=HL.out;omega)
 go_wp2
 go_ret2
 exact ⟨⟨a,c,rfl,hO⟩,hx6.trans hb7⟩
theorem sprint_bad (wh:Int) (h:mayBl b=false∨(wh≠0∧wh≠1)):Calls Tryz.prog 83 #[.agg (blA b),.int .i64 wh] w fun en w'=>en=.returned (.tuple #[.slice none 0 0,.int .i64 2])∧Below w.heap.size w w':=by
 obtain ⟨x,y⟩:=b
 rw [mayBl_eq] at h
 simp only at h
 have hbB:=blw w (Obj.cells #[.int .i64 x,.int .i64 y] 69)
 have hcs:x < 1∨(1≤x∧1099511627776 < x)∨(1≤x∧x≤1099511627776∧y < 0)∨(1≤x∧x≤1099511627776∧0≤y∧7≤y)∨(1≤x∧x≤1099511627776∧0≤y∧y < 7∧wh≠0∧wh≠1):=by
  by_cases h1:1≤x <;> by_cases h2:x≤1099511627776 <;> by_cases h3:0≤y <;> by_cases h4:y < 7 <;> simp_all <;> omega
 clear h
 unfold blA
 simp only
 rcases hcs with h | ⟨h,h2⟩ | ⟨h,h2,h3⟩ | ⟨h,h2,h3,h4⟩ | ⟨h,h2,h3,h4,h5,h6⟩
 ·go_enter func83,ntmps83
  go_wp2
  go_ret2
  exact ⟨rfl,hbB⟩
 ·go_enter func83,ntmps83
  go_wp2
  go_ret2
  exact ⟨rfl,hbB⟩
 ·go_enter func83,ntmps83
  go_wp2
  go_ret2
  exact ⟨rfl,hbB⟩
 ·go_enter func83,ntmps83
  go_wp2
  go_ret2
  exact ⟨rfl,hbB⟩
 ·have e1:(wh != 0)=true:=by rw [bne_iff_ne];exact h5
  have e2:(wh != 1)=true:=by rw [bne_iff_ne];exact h6
  clear h5 h6
  go_enter func83,ntmps83
  go_wp2
  go_ret2
  exact ⟨rfl,hbB⟩
end
end
section
theorem le1_bys {n:Nat} (h:n < 256):bys (le 1 n)=[.int .u8 (n:Int)]:=by
 show [byv (UInt8.ofNat (n % 256))]=_
 rw [byv_low]
 congr 2
 omega
theorem new_row2 (w:World) (x y:Value):∀ (j:Nat) (u:Value),[x,y][j]?=some u→(w.alloc (Obj.cells #[x,y] 5)).cell? ((⟨w.heap.size,0,none⟩:Addr).add j)=some u:=
 cells_row (A:=[]) (B:=[x,y]) (C:=[]) (e:=5) (fr:=(0,0)) (heap_alloc_new w _) rfl
section
variable {w:World} {b:Bal}
theorem sprint_ok (hb:mayBl b=true) (wh:Nat) (hw:wh < 2):Calls Tryz.prog 83 #[.agg (blA b),.int .i64 wh] w fun en w'=>(∃ a c,en=.returned (.tuple #[.slice a (recB b wh).length c,.int .i64 0])∧OwnB w' w.heap.size a c (recB b wh))∧Below w.heap.size w w':=by
 obtain ⟨q1,q2,q3,q4⟩:=mayBl_parts hb
 have hput:=fun w=>put_any 6 b.rnd w
 have f6:fitsB 6 b.rnd=true:=by unfold fitsB manyI;simp;omega
 have e1:oputL 6 b.rnd=le 6 b.rnd.toNat:=by unfold oputL;rw [if_pos f6];rfl
 have e2:oputE 6 b.rnd=0:=by unfold oputE;rw [if_pos f6]
 rw [e1,e2] at hput
 clear e1 e2 f6
 have hrec:recB b wh=le 6 b.rnd.toNat++(le 1 b.rep.toNat++le 1 wh):=rfl
 rw [hrec]
 clear hrec
 have hm6:(le 6 b.rnd.toNat).length=6:=le_len _ _
 have hn:bys (le 1 b.rep.toNat++le 1 wh)=[.int .u8 b.rep,.int .u8 wh]:=by
  rw [bys_app,le1_bys (by omega),le1_bys (by omega)]
  have:((b.rep.toNat:Nat):Int)=b.rep:=by omega
  rw [this]
  rfl
 have hn2:(le 1 b.rep.toNat++le 1 wh).length=2:=by simp [le_len]
 generalize le 6 b.rnd.toNat=m at *
 generalize le 1 b.rep.toNat++le 1 wh=n at *
 obtain ⟨x,y⟩:=b
 simp only at q1 q2 q3 q4 hput hn
 have HN:=Lib.hid hn
 have HM:=Lib.hid hm6
 have HN2:=Lib.hid hn2
 have hwc:(wh:Int)=0∨(wh:Int)=1:=by omega
 clear hn hm6 hn2 hb
 generalize (wh:Int)=wi at *
 clear hw
 unfold blA
 simp only
 go_enter func83,ntmps83
 refine seqH fun K HK=>?_
 go_wp2
 refine HK.out _ _ ?_
 clear HK
 have hbB:=blw w (Obj.cells #[.int .i64 x,.int .i64 y] 69)
 have B1:=heap_alloc_new w (Obj.cells #[.int .i64 x,.int .i64 y] 69)
 generalize w.alloc (Obj.cells #[.int .i64 x,.int .i64 y] 69)=w1 at *
 have c0:=blk_cell B1 0 _ rfl
 have c1:=blk_cell B1 1 _ rfl
 have hq:w.heap.size < w1.heap.size:=lt_blk B1
 have hwn:((wi != 0) && (wi != 1))=false:=by rcases hwc with rfl | rfl <;> rfl
 rcases hwc with rfl | rfl
 all_goals
  refine seqH fun K HK=>?_
  go_wp2
  refine HK.out _ _ ?_
  clear HK
  refine seqH fun K HK=>?_
  go_wp2_with (go_at_call 117;refine (hput _).mono ?_;rintro en w2 ⟨⟨v,rfl,O2⟩,hb2⟩)
  refine HK.out _ _ ?_
  clear HK
  have c21:=blk_cell (tr_bl hb2 B1) 1 _ rfl
  obtain ⟨a2,k2,rfl,s2⟩:=SlB.of_owns O2
  refine wp_seq_k (fun K hK=>?_)
  have HK2:=Lib.hid hK
  clear hK s2 hput
  go_wp2_with (at_builtin;refine wpList_appendN' rfl _ _ 37 37 5 5 elByte underlying37 rfl w1.heap.size _ m.length (bys m) rfl (owns_bl O2 (blw w2 _)) ⟨w2.heap.size,0,none⟩ 2 2 _ rfl rfl (new_row2 w2 _ _) (by simp [Value.oneCell']) (by have:=HM.out;omega) (by decide) (Nat.le_trans hb2.size (blw w2 _).size) ?_;intro v7 w7 O7 g7)
  refine HK2.out _ _ ?_
  clear HK2
  have O8:w7.ownsRow w1.heap.size 5 1 v7 (m++n).length (bys (m++n)):=by
   rw [List.length_append,HN2.out,bys_app,HN.out]
   exact O7
  obtain ⟨a,c,rfl,hO⟩:=OwnB.of_row O8 (by rw [List.length_append,HM.out];omega)
  have hb3:=hbB.trans (hb2.mono hbB.size)
  have hb7:Below w.heap.size w w7:=(hb3.trans ((blw w2 _).mono hb3.size)).grown g7 (Nat.le_trans hb3.size (blw w2 _).size) (fun k e=>Nat.le_trans (Nat.le_of_lt hq) (O2.lt k e).1)
  go_wp2
  go_ret2
  exact ⟨⟨a,c,rfl,hO.mono (Nat.le_of_lt hq)⟩,hb7⟩
end
end
end Go.Proofs.YtbdonjenekhmdaaGreatDoor
