/- Texts that the claim leans on, part 8: D24, D25, D26, D27, D28, D29, D30, D31. -/
import Derived.Test.YtbdonjenekhmdaaGreatDoorZ1
import Derived.Test.YtbdonjenekhmdaaGreatDoorZ2
import Derived.Test.YtbdonjenekhmdaaGreatDoorZ3
import Derived.Test.YtbdonjenekhmdaaGreatDoorZ4
import Derived.Test.YtbdonjenekhmdaaGreatDoorZ5
import Derived.Test.YtbdonjenekhmdaaGreatDoorZ6
import Derived.Test.YtbdonjenekhmdaaGreatDoorZ7
namespace Go.Proofs.YtbdonjenekhmdaaGreatDoor
open Go.RowKit Go.Proofs.Tryz
set_option maxRecDepth 100000
set_option maxHeartbeats 32000000
section
theorem runC_snoc (r:Nat) (l:List UInt8) (j:Nat) (h:j < l.length):runC r (l.take (j+1))=stepC (runC r (l.take j)) l[j]:=by
 rw [List.take_succ_eq_append_getElem h,runC_app]
 rfl
theorem nib_bits (r k:Nat) (h:r < 4294967296) (hk:r % 16=k):bits .xor .u32 ((r:Int) / 16) (half k:Nat)=((nib r:Nat):Int)∧bits .and .u32 (r:Int) 15=(k:Int):=by
 constructor
 ·have h2:half k < 4294967296:=half_lt _ (by omega)
  have:=u32_xor_nat (r / 16) (half k) (by omega) h2
  rw [show ((r / 16:Nat):Int)=(r:Int) / 16 by omega] at this
  rw [this,← hk]
  rfl
 ·have:=u32_and_nat r 15 h (by decide)
  rw [nat_mask4,hk] at this
  exact this
theorem extend_any (a:Option Addr) (cap:Nat) (l:List UInt8) (w:World) (hs:SlB w a cap l):Calls Tryz.prog 213 #[.int .u32 0,.slice a l.length cap] w fun e w'=>e=.returned (.int .u32 (crcS l:Nat))∧Below w.heap.size w w':=by
 have hmx:=hs.max
 have hle:=hs.le
 unfold maxLen at hmx
 go_enter func213,ntmps213
 refine seqH fun K HK=>?_
 go_wp2
 refine HK.out _ _ ?_
 clear HK
 refine seqH fun K HK=>?_
 go_wp2_with (go_at_call 227;refine (halves_any _).mono ?_;rintro e w1 ⟨rfl,hb1⟩)
 refine HK.out _ _ ?_
 clear HK
 have hcell:∀ k,k < 16→(w1.alloc (.cells halL.toArray 304)).cell? ⟨w1.heap.size,k,none⟩=some (.int .u32 (half k:Nat)):=fun k hk=>by
  rw [cell_new,List.getElem?_toArray]
  exact hal_c k hk
 have hb2:Below w.heap.size w (w1.alloc (.cells halL.toArray 304)):=hb1.trans ((blw w1 _).mono hb1.size)
 change Code.wp _ _ _ _ (w1.alloc (.cells halL.toArray 304))
 generalize w1.alloc (.cells halL.toArray 304)=w2 at *
 generalize w1.heap.size=tb at *
 have HC:=Lib.hid hcell
 clear hcell
 have hsg:IntKind.u32.signed=false:=rfl
 have hn0:bits .xor .u32 IntKind.u32.max 0=((4294967295:Nat):Int):=by decide
 refine seqH fun K HK=>?_
 go_wp2
 refine HK.out _ _ ?_
 clear HK
 clear hn0
 refine seqH fun K HK=>?_
 go_wp2_with fail
 go_loopw [14,6,8] (fun i r _ wr=>∃ j:Nat,j≤l.length∧i=.int .i64 (j:Nat)∧r=.int .u32 (runC ones (l.take j):Nat)∧wr=w2) (fun i _ _ _=>l.length - (intOf i).toNat)
 case atStart=>exact ⟨0,by omega,rfl,rfl,rfl⟩
 case round=>
  obtain ⟨j,hj,rfl,rfl,rfl⟩:=hrel
  have hlt0:=runC_lt (l.take j) (r:=ones) (by decide)
  by_cases hlt:j < l.length
  case pos=>
   obtain ⟨b,off,rfl,hc⟩:=(hs.row.below0 hb2).byte hlt
   have hsn:=Lib.hid (runC_snoc ones l j hlt)
   generalize l[j]=x at *
   have hx:=x.toNat_lt
   generalize runC ones (l.take j)=r at *
   obtain ⟨r1,hr1⟩:∃ r1,r ^^^ x.toNat=r1:=⟨_,rfl⟩
   have hl1:r1 < 4294967296:=by rw [← hr1];exact Nat.xor_lt_two_pow (n:=32) hlt0 (by omega)
   have hx1:bits .xor .u32 (r:Int) (x.toNat:Int)=(r1:Int):=by rw [u32_xor_nat r x.toNat hlt0 (by omega),hr1]
   obtain ⟨k1,hk1,hk1l⟩:∃ k,r1 % 16=k∧k < 16:=⟨_,rfl,by omega⟩
   obtain ⟨hx2,ha1⟩:=nib_bits r1 k1 hl1 hk1
   have hl2:=nib_lt hl1
   obtain ⟨r2,hr2⟩:∃ r2,nib r1=r2:=⟨_,rfl⟩
   rw [hr2] at hx2 hl2
   obtain ⟨k2,hk2,hk2l⟩:∃ k,r2 % 16=k∧k < 16:=⟨_,rfl,by omega⟩
   obtain ⟨hx3,ha2⟩:=nib_bits r2 k2 hl2 hk2
   obtain ⟨r3,hr3⟩:∃ r3,nib r2=r3:=⟨_,rfl⟩
   rw [hr3] at hx3
   have hst:stepC r x=r3:=by unfold stepC;rw [hr1,hr2,hr3]
   have HS:=Lib.hid (hsn.out.trans hst)
   have hc1:=HC.out k1 hk1l
   have hc2:=HC.out k2 hk2l
   clear hr1 hk1 hr2 hk2 hr3 hst hsn
   go_wp2
   go_roundw
   case rel=>exact ⟨j+1,by omega,by go_num,by rw [HS.out],trivial⟩
   case measure=>simp [intOf];omega
  case neg=>
   obtain rfl:j=l.length:=by omega
   have hcr:bits .xor .u32 IntKind.u32.max (runC ones l:Nat)=((crcS l:Nat):Int):=by
    have h1:=runC_lt l (r:=ones) (by decide)
    have h2:=u32_xor_nat 4294967295 (runC ones l) (by decide) h1
    rw [show IntKind.u32.max=((4294967295:Nat):Int) by decide,h2,Nat.xor_comm]
    rfl
   rw [List.take_length]
   generalize runC ones l=r at *
   generalize crcS l=z at *
   go_wp2
   refine HK.out _ _ ?_
   clear HK
   go_wp2
   go_ret
   exact ⟨rfl,hb2⟩
theorem sum_any (a:Option Addr) (cap:Nat) (l:List UInt8) (w:World) (hs:SlB w a cap l):Calls Tryz.prog 180 #[.slice a l.length cap] w fun e w'=>e=.returned (.int .u32 (crcS l:Nat))∧Below w.heap.size w w':=by
 go_enter func180,ntmps180
 go_wp2_with (go_at_call 213;refine (extend_any a cap l _ hs).mono ?_;rintro e w1 ⟨rfl,hb1⟩)
 go_ret
 exact ⟨rfl,hb1⟩
end
section
def ofV (n:Int):Value:=.agg #[.int .i64 (placesN n),.int .i64 (wideN n)]
theorem ofV_out {n:Int} (h:n < 1∨5 < n):ofV n=.agg #[.int .i64 0,.int .i64 0]:=by
 unfold ofV placesN wideN
 rw [if_neg (by omega),if_neg (by omega),if_neg (by omega),if_neg (by omega),if_neg (by omega),if_neg (by omega),if_neg (by omega),if_neg (by omega),if_neg (by omega),if_neg (by omega)]
theorem st2 (x y a b:Int):0+2≤(#[Value.int .i64 x,.int .i64 y]).size∧(Value.agg #[.int .i64 a,.int .i64 b]).cells.size=2∧(∀ u ∈ (Value.agg #[.int .i64 a,.int .i64 b]).cells.toList,u.oneCell'=true)∧((#[Value.int .i64 x,.int .i64 y]).toList.take 0++(Value.agg #[.int .i64 a,.int .i64 b]).cells.toList++(#[Value.int .i64 x,.int .i64 y]).toList.drop (0+2)).toArray=#[.int .i64 a,.int .i64 b]:=
 ⟨Nat.le_refl 2,rfl,by simp [Value.cells,Value.oneCell'],rfl⟩
theorem of_any (n:Int) (w:World):Calls Tryz.prog 140 #[.int .i64 n] w fun e w'=>e=.returned (ofV n)∧Below w.heap.size w w':=by
 by_cases h0:n < 0
 ·rw [ofV_out (by omega)]
  go_enter func140,ntmps140
  refine seqH fun K HK=>?_
  go_wp2
  refine HK.out _ _ ?_
  clear HK
  refine seqH fun K HK=>?_
  go_wp2_with (go_at_call 169;refine (regions_any _).mono ?_;rintro e w1 ⟨rfl,hb1⟩)
  refine HK.out _ _ ?_
  clear HK
  have hB1:=tr_bl hb1 (heap_alloc_new w (Obj.cells #[.int .i64 0,.int .i64 0] 221))
  have hb2:Below w.heap.size w w1:=(blw w _).trans (hb1.mono (blw w _).size)
  have hs1:=hb2.size
  go_wp2_with ((with_reducible refine wpList_stB 221 _ _ ?_);refine ⟨_,_,_,⟨_,_,_,sizeOf221,rfl,tr_al _ hB1,st2 0 0 0 0⟩,?_⟩;intro w5 B5 g5)
  refine bodyPost_ret (results_c1 rfl rfl (run_loadVar_all isAgg221 sizeOf221 B5 rfl)) rfl ⟨rfl,?_⟩
  exact bl_st (hb2.alloc hs1 _) g5 (by simp;omega) (Nat.le_refl _)
 ·by_cases h6:6≤n
  ·rw [ofV_out (by omega)]
   go_enter func140,ntmps140
   refine seqH fun K HK=>?_
   go_wp2
   refine HK.out _ _ ?_
   clear HK
   refine seqH fun K HK=>?_
   go_wp2_with (go_at_call 169;refine (regions_any _).mono ?_;rintro e w1 ⟨rfl,hb1⟩)
   refine HK.out _ _ ?_
   clear HK
   have hB1:=tr_bl hb1 (heap_alloc_new w (Obj.cells #[.int .i64 0,.int .i64 0] 221))
   have hb2:Below w.heap.size w w1:=(blw w _).trans (hb1.mono (blw w _).size)
   have hs1:=hb2.size
   go_wp2_with ((with_reducible refine wpList_stB 221 _ _ ?_);refine ⟨_,_,_,⟨_,_,_,sizeOf221,rfl,tr_al _ hB1,st2 0 0 0 0⟩,?_⟩;intro w5 B5 g5)
   refine bodyPost_ret (results_c1 rfl rfl (run_loadVar_all isAgg221 sizeOf221 B5 rfl)) rfl ⟨rfl,?_⟩
   exact bl_st (hb2.alloc hs1 _) g5 (by simp;omega) (Nat.le_refl _)
  ·have h:n=0∨n=1∨n=2∨n=3∨n=4∨n=5:=by omega
   rcases h with rfl | rfl | rfl | rfl | rfl | rfl
   ·rw [show ofV 0=.agg #[.int .i64 0,.int .i64 0] from rfl]
    go_enter func140,ntmps140
    refine seqH fun K HK=>?_
    go_wp2
    refine HK.out _ _ ?_
    clear HK
    refine seqH fun K HK=>?_
    go_wp2_with (go_at_call 169;refine (regions_any _).mono ?_;rintro e w1 ⟨rfl,hb1⟩)
    refine HK.out _ _ ?_
    clear HK
    have hB1:=tr_bl hb1 (heap_alloc_new w (Obj.cells #[.int .i64 0,.int .i64 0] 221))
    have hb2:Below w.heap.size w w1:=(blw w _).trans (hb1.mono (blw w _).size)
    have hs1:=hb2.size
    go_wp2_with ((with_reducible refine wpList_stB 221 _ _ ?_);refine ⟨_,_,_,⟨_,_,_,sizeOf221,rfl,tr_al _ hB1,st2 0 0 0 0⟩,?_⟩;intro w5 B5 g5)
    refine bodyPost_ret (results_c1 rfl rfl (run_loadVar_all isAgg221 sizeOf221 B5 rfl)) rfl ⟨rfl,?_⟩
    exact bl_st (hb2.alloc hs1 _) g5 (by simp;omega) (Nat.le_refl _)
   ·rw [show ofV 1=.agg #[.int .i64 2,.int .i64 1] from rfl]
    go_enter func140,ntmps140
    refine seqH fun K HK=>?_
    go_wp2
    refine HK.out _ _ ?_
    clear HK
    refine seqH fun K HK=>?_
    go_wp2_with (go_at_call 169;refine (regions_any _).mono ?_;rintro e w1 ⟨rfl,hb1⟩)
    refine HK.out _ _ ?_
    clear HK
    have hB1:=tr_bl hb1 (heap_alloc_new w (Obj.cells #[.int .i64 0,.int .i64 0] 221))
    have hb2:Below w.heap.size w w1:=(blw w _).trans (hb1.mono (blw w _).size)
    have hs1:=hb2.size
    go_wp2_with ((with_reducible refine wpList_stB 221 _ _ ?_);refine ⟨_,_,_,⟨_,_,_,sizeOf221,rfl,tr_al _ hB1,st2 0 0 2 1⟩,?_⟩;intro w5 B5 g5)
    refine bodyPost_ret (results_c1 rfl rfl (run_loadVar_all isAgg221 sizeOf221 B5 rfl)) rfl ⟨rfl,?_⟩
    exact bl_st (hb2.alloc hs1 _) g5 (by simp;omega) (Nat.le_refl _)
   ·rw [show ofV 2=.agg #[.int .i64 2,.int .i64 1] from rfl]
    go_enter func140,ntmps140
    refine seqH fun K HK=>?_
    go_wp2
    refine HK.out _ _ ?_
    clear HK
    refine seqH fun K HK=>?_
    go_wp2_with (go_at_call 169;refine (regions_any _).mono ?_;rintro e w1 ⟨rfl,hb1⟩)
    refine HK.out _ _ ?_
    clear HK
    have hB1:=tr_bl hb1 (heap_alloc_new w (Obj.cells #[.int .i64 0,.int .i64 0] 221))
    have hb2:Below w.heap.size w w1:=(blw w _).trans (hb1.mono (blw w _).size)
    have hs1:=hb2.size
    go_wp2_with ((with_reducible refine wpList_stB 221 _ _ ?_);refine ⟨_,_,_,⟨_,_,_,sizeOf221,rfl,tr_al _ hB1,st2 0 0 2 1⟩,?_⟩;intro w5 B5 g5)
    refine bodyPost_ret (results_c1 rfl rfl (run_loadVar_all isAgg221 sizeOf221 B5 rfl)) rfl ⟨rfl,?_⟩
    exact bl_st (hb2.alloc hs1 _) g5 (by simp;omega) (Nat.le_refl _)
   ·rw [show ofV 3=.agg #[.int .i64 24,.int .i64 1] from rfl]
    go_enter func140,ntmps140
    refine seqH fun K HK=>?_
    go_wp2
    refine HK.out _ _ ?_
    clear HK
    refine seqH fun K HK=>?_
    go_wp2_with (go_at_call 169;refine (regions_any _).mono ?_;rintro e w1 ⟨rfl,hb1⟩)
    refine HK.out _ _ ?_
    clear HK
    have hB1:=tr_bl hb1 (heap_alloc_new w (Obj.cells #[.int .i64 0,.int .i64 0] 221))
    have hb2:Below w.heap.size w w1:=(blw w _).trans (hb1.mono (blw w _).size)
    have hs1:=hb2.size
    go_wp2_with ((with_reducible refine wpList_stB 221 _ _ ?_);refine ⟨_,_,_,⟨_,_,_,sizeOf221,rfl,tr_al _ hB1,st2 0 0 24 1⟩,?_⟩;intro w5 B5 g5)
    refine bodyPost_ret (results_c1 rfl rfl (run_loadVar_all isAgg221 sizeOf221 B5 rfl)) rfl ⟨rfl,?_⟩
    exact bl_st (hb2.alloc hs1 _) g5 (by simp;omega) (Nat.le_refl _)
   ·rw [show ofV 4=.agg #[.int .i64 48,.int .i64 2] from rfl]
    go_enter func140,ntmps140
    refine seqH fun K HK=>?_
    go_wp2
    refine HK.out _ _ ?_
    clear HK
    refine seqH fun K HK=>?_
    go_wp2_with (go_at_call 169;refine (regions_any _).mono ?_;rintro e w1 ⟨rfl,hb1⟩)
    refine HK.out _ _ ?_
    clear HK
    have hB1:=tr_bl hb1 (heap_alloc_new w (Obj.cells #[.int .i64 0,.int .i64 0] 221))
    have hb2:Below w.heap.size w w1:=(blw w _).trans (hb1.mono (blw w _).size)
    have hs1:=hb2.size
    go_wp2_with ((with_reducible refine wpList_stB 221 _ _ ?_);refine ⟨_,_,_,⟨_,_,_,sizeOf221,rfl,tr_al _ hB1,st2 0 0 48 2⟩,?_⟩;intro w5 B5 g5)
    refine bodyPost_ret (results_c1 rfl rfl (run_loadVar_all isAgg221 sizeOf221 B5 rfl)) rfl ⟨rfl,?_⟩
    exact bl_st (hb2.alloc hs1 _) g5 (by simp;omega) (Nat.le_refl _)
   ·rw [show ofV 5=.agg #[.int .i64 16,.int .i64 2] from rfl]
    go_enter func140,ntmps140
    refine seqH fun K HK=>?_
    go_wp2
    refine HK.out _ _ ?_
    clear HK
    refine seqH fun K HK=>?_
    go_wp2_with (go_at_call 169;refine (regions_any _).mono ?_;rintro e w1 ⟨rfl,hb1⟩)
    refine HK.out _ _ ?_
    clear HK
    have hB1:=tr_bl hb1 (heap_alloc_new w (Obj.cells #[.int .i64 0,.int .i64 0] 221))
    have hb2:Below w.heap.size w w1:=(blw w _).trans (hb1.mono (blw w _).size)
    have hs1:=hb2.size
    go_wp2_with ((with_reducible refine wpList_stB 221 _ _ ?_);refine ⟨_,_,_,⟨_,_,_,sizeOf221,rfl,tr_al _ hB1,st2 0 0 16 2⟩,?_⟩;intro w5 B5 g5)
    refine bodyPost_ret (results_c1 rfl rfl (run_loadVar_all isAgg221 sizeOf221 B5 rfl)) rfl ⟨rfl,?_⟩
    exact bl_st (hb2.alloc hs1 _) g5 (by simp;omega) (Nat.le_refl _)
theorem places_any (n:Int) (w:World):Calls Tryz.prog 192 #[.int .i64 n] w fun e w'=>e=.returned (.int .i64 (placesN n))∧Below w.heap.size w w':=by
 have ho:=of_any n
 unfold ofV at ho
 have hf:∀ (x y:Int) (w:World),(Instr.field 221 (.agg #[.int .i64 x,.int .i64 y]) 0).run Tryz.prog w=.ok (.int .i64 x) w:=fun x y w=>by kernel_rfl
 go_enter func192,ntmps192
 go_wp2_with (go_at_call 140;refine (ho _).mono ?_;rintro e w1 ⟨rfl,hb1⟩)
 go_ret
 exact ⟨rfl,hb1⟩
theorem wide_any (n:Int) (w:World):Calls Tryz.prog 111 #[.int .i64 n] w fun e w'=>e=.returned (.int .i64 (wideN n))∧Below w.heap.size w w':=by
 have ho:=of_any n
 unfold ofV at ho
 have hf:∀ (x y:Int) (w:World),(Instr.field 221 (.agg #[.int .i64 x,.int .i64 y]) 1).run Tryz.prog w=.ok (.int .i64 y) w:=fun x y w=>by kernel_rfl
 go_enter func111,ntmps111
 go_wp2_with (go_at_call 140;refine (ho _).mono ?_;rintro e w1 ⟨rfl,hb1⟩)
 go_ret
 exact ⟨rfl,hb1⟩
end
section
theorem start_in (c:Nat) (h1:1≤c) (h5:c≤5) (w:World):Calls Tryz.prog 96 #[.int .i64 (c:Int)] w fun e w'=>e=.returned (.int .i64 (startN c))∧Below w.heap.size w w':=by
  have i0:∀ w,(Instr.index 246 regV (.int .i64 0)).run Tryz.prog w=.ok (.agg #[.int .i64 0,.int .i64 0]) w:=fun _=>by kernel_rfl
  have i1:∀ w,(Instr.index 246 regV (.int .i64 1)).run Tryz.prog w=.ok (.agg #[.int .i64 2,.int .i64 1]) w:=fun _=>by kernel_rfl
  have i2:∀ w,(Instr.index 246 regV (.int .i64 2)).run Tryz.prog w=.ok (.agg #[.int .i64 2,.int .i64 1]) w:=fun _=>by kernel_rfl
  have i3:∀ w,(Instr.index 246 regV (.int .i64 3)).run Tryz.prog w=.ok (.agg #[.int .i64 24,.int .i64 1]) w:=fun _=>by kernel_rfl
  have i4:∀ w,(Instr.index 246 regV (.int .i64 4)).run Tryz.prog w=.ok (.agg #[.int .i64 48,.int .i64 2]) w:=fun _=>by kernel_rfl
  have i5:∀ w,(Instr.index 246 regV (.int .i64 5)).run Tryz.prog w=.ok (.agg #[.int .i64 16,.int .i64 2]) w:=fun _=>by kernel_rfl
  go_enter func96,ntmps96
  refine seqH fun K HK=>?_
  go_wp2
  refine HK.out _ _ ?_
  clear HK
  refine seqH fun K HK=>?_
  go_wp2
  refine HK.out _ _ ?_
  clear HK
  go_wp2_with (go_at_call 169;refine (regions_any _).mono ?_;rintro e w1 ⟨rfl,hb1⟩)
  go_loopw [3,7] (fun t i wr=>∃ k:Nat,k≤c∧i=.int .i64 k∧t=.int .i64 (atP k)∧Below w.heap.size w wr) (fun _ i _=>6 - (intOf i).toNat)
  case atStart=>exact ⟨0,by omega,rfl,rfl,hb1⟩
  case round=>
    obtain ⟨k,hk,rfl,rfl,hbr⟩:=hrel
    have hbs:=hbr.size
    have h7:k=0∨k=1∨k=2∨k=3∨k=4∨k=5:=by omega
    rcases h7 with rfl | rfl | rfl | rfl | rfl | rfl
    · have ha:atP 0=0:=rfl
      rw [ha]
      by_cases hkc:c=0
      · first
        | (exfalso;omega)
        | (subst hkc
           go_wp2
           go_ret
           exact ⟨rfl,by (repeat' (first | (with_reducible exact Below.refl _ _) | (with_reducible assumption) | (with_reducible refine Below.alloc ?_ ?_ _) | (with_reducible refine Below.drew ?_) | (with_reducible refine below_drewN ?_ _) | (with_reducible refine Below.setCell ?_ ?_ _) | (with_reducible refine Below.trans ?_ (by assumption)) | go_size))⟩)
      · have hne:((0:Int)==(c:Int))=false:=by rw [beq_eq_false_iff_ne];omega
        have hk1:0+1≤c:=by omega
        go_wp2
        go_roundw
        case rel=>exact ⟨0+1,hk1,by rfl,by rfl,by (repeat' (first | (with_reducible exact Below.refl _ _) | (with_reducible assumption) | (with_reducible refine Below.alloc ?_ ?_ _) | (with_reducible refine Below.drew ?_) | (with_reducible refine below_drewN ?_ _) | (with_reducible refine Below.setCell ?_ ?_ _) | (with_reducible refine Below.trans ?_ (by assumption)) | go_size))⟩
        case measure=>simp [intOf]
    · have ha:atP 1=0:=rfl
      rw [ha]
      by_cases hkc:c=1
      · first
        | (exfalso;omega)
        | (subst hkc
           go_wp2
           go_ret
           exact ⟨rfl,by (repeat' (first | (with_reducible exact Below.refl _ _) | (with_reducible assumption) | (with_reducible refine Below.alloc ?_ ?_ _) | (with_reducible refine Below.drew ?_) | (with_reducible refine below_drewN ?_ _) | (with_reducible refine Below.setCell ?_ ?_ _) | (with_reducible refine Below.trans ?_ (by assumption)) | go_size))⟩)
      · have hne:((1:Int)==(c:Int))=false:=by rw [beq_eq_false_iff_ne];omega
        have hk1:1+1≤c:=by omega
        go_wp2
        go_roundw
        case rel=>exact ⟨1+1,hk1,by rfl,by rfl,by (repeat' (first | (with_reducible exact Below.refl _ _) | (with_reducible assumption) | (with_reducible refine Below.alloc ?_ ?_ _) | (with_reducible refine Below.drew ?_) | (with_reducible refine below_drewN ?_ _) | (with_reducible refine Below.setCell ?_ ?_ _) | (with_reducible refine Below.trans ?_ (by assumption)) | go_size))⟩
        case measure=>simp [intOf]
    · have ha:atP 2=2:=rfl
      rw [ha]
      by_cases hkc:c=2
      · first
        | (exfalso;omega)
        | (subst hkc
           go_wp2
           go_ret
           exact ⟨rfl,by (repeat' (first | (with_reducible exact Below.refl _ _) | (with_reducible assumption) | (with_reducible refine Below.alloc ?_ ?_ _) | (with_reducible refine Below.drew ?_) | (with_reducible refine below_drewN ?_ _) | (with_reducible refine Below.setCell ?_ ?_ _) | (with_reducible refine Below.trans ?_ (by assumption)) | go_size))⟩)
      · have hne:((2:Int)==(c:Int))=false:=by rw [beq_eq_false_iff_ne];omega
        have hk1:2+1≤c:=by omega
        go_wp2
        go_roundw
        case rel=>exact ⟨2+1,hk1,by rfl,by rfl,by (repeat' (first | (with_reducible exact Below.refl _ _) | (with_reducible assumption) | (with_reducible refine Below.alloc ?_ ?_ _) | (with_reducible refine Below.drew ?_) | (with_reducible refine below_drewN ?_ _) | (with_reducible refine Below.setCell ?_ ?_ _) | (with_reducible refine Below.trans ?_ (by assumption)) | go_size))⟩
        case measure=>simp [intOf]
    · have ha:atP 3=4:=rfl
      rw [ha]
      by_cases hkc:c=3
      · first
        | (exfalso;omega)
        | (subst hkc
           go_wp2
           go_ret
           exact ⟨rfl,by (repeat' (first | (with_reducible exact Below.refl _ _) | (with_reducible assumption) | (with_reducible refine Below.alloc ?_ ?_ _) | (with_reducible refine Below.drew ?_) | (with_reducible refine below_drewN ?_ _) | (with_reducible refine Below.setCell ?_ ?_ _) | (with_reducible refine Below.trans ?_ (by assumption)) | go_size))⟩)
      · have hne:((3:Int)==(c:Int))=false:=by rw [beq_eq_false_iff_ne];omega
        have hk1:3+1≤c:=by omega
        go_wp2
        go_roundw
        case rel=>exact ⟨3+1,hk1,by rfl,by rfl,by (repeat' (first | (with_reducible exact Below.refl _ _) | (with_reducible assumption) | (with_reducible refine Below.alloc ?_ ?_ _) | (with_reducible refine Below.drew ?_) | (with_reducible refine below_drewN ?_ _) | (with_reducible refine Below.setCell ?_ ?_ _) | (with_reducible refine Below.trans ?_ (by assumption)) | go_size))⟩
        case measure=>simp [intOf]
    · have ha:atP 4=28:=rfl
      rw [ha]
      by_cases hkc:c=4
      · first
        | (exfalso;omega)
        | (subst hkc
           go_wp2
           go_ret
           exact ⟨rfl,by (repeat' (first | (with_reducible exact Below.refl _ _) | (with_reducible assumption) | (with_reducible refine Below.alloc ?_ ?_ _) | (with_reducible refine Below.drew ?_) | (with_reducible refine below_drewN ?_ _) | (with_reducible refine Below.setCell ?_ ?_ _) | (with_reducible refine Below.trans ?_ (by assumption)) | go_size))⟩)
      · have hne:((4:Int)==(c:Int))=false:=by rw [beq_eq_false_iff_ne];omega
        have hk1:4+1≤c:=by omega
        go_wp2
        go_roundw
        case rel=>exact ⟨4+1,hk1,by rfl,by rfl,by (repeat' (first | (with_reducible exact Below.refl _ _) | (with_reducible assumption) | (with_reducible refine Below.alloc ?_ ?_ _) | (with_reducible refine Below.drew ?_) | (with_reducible refine below_drewN ?_ _) | (with_reducible refine Below.setCell ?_ ?_ _) | (with_reducible refine Below.trans ?_ (by assumption)) | go_size))⟩
        case measure=>simp [intOf]
    · have ha:atP 5=124:=rfl
      rw [ha]
      obtain rfl:c=5:=by omega
      go_wp2
      go_ret
      exact ⟨rfl,by (repeat' (first | (with_reducible exact Below.refl _ _) | (with_reducible assumption) | (with_reducible refine Below.alloc ?_ ?_ _) | (with_reducible refine Below.drew ?_) | (with_reducible refine below_drewN ?_ _) | (with_reducible refine Below.setCell ?_ ?_ _) | (with_reducible refine Below.trans ?_ (by assumption)) | go_size))⟩
theorem firstN_out {n p:Int} (h:n < 1∨5 < n):firstN n p = -1:=by
  have h0:placesN n=0:=by
    unfold placesN
    rw [if_neg (by omega),if_neg (by omega),if_neg (by omega),if_neg (by omega),if_neg (by omega)]
  unfold firstN
  rw [if_pos (.inl h0)]
theorem first_any (n p:Int) (w:World):Calls Tryz.prog 63 #[.int .i64 n,.int .i64 p] w fun e w'=>e=.returned (.int .i64 (firstN n p))∧Below w.heap.size w w':=by
  by_cases ho:n < 1∨5 < n
  · rw [firstN_out ho]
    have ho:=of_any n
    rw [ofV_out (by assumption)] at ho
    go_enter func63,ntmps63
    go_wp2_with (go_at_call 140;refine (ho _).mono ?_;rintro e w1 ⟨rfl,hb1⟩;have hs1:=hb1.size)
    go_ret
    exact ⟨rfl,by (repeat' (first | (with_reducible exact Below.refl _ _) | (with_reducible assumption) | (with_reducible refine Below.alloc ?_ ?_ _) | (with_reducible refine Below.drew ?_) | (with_reducible refine below_drewN ?_ _) | (with_reducible refine Below.setCell ?_ ?_ _) | (with_reducible refine Below.trans ?_ (by assumption)) | go_size))⟩
  · have h:n=1∨n=2∨n=3∨n=4∨n=5:=by omega
    rcases h with rfl | rfl | rfl | rfl | rfl
    · skip
      have ho:=of_any 1
      rw [show ofV 1=.agg #[.int .i64 2,.int .i64 1] from rfl] at ho
      have hw:=wide_any 1
      rw [show wideN 1=1 from rfl] at hw
      have hst:=start_in 1 (by omega) (by omega)
      rw [show startN ((1:Nat):Int)=0 from rfl] at hst
      by_cases hp0:p < 0
      · rw [show firstN 1 p = -1 by unfold firstN;rw [if_pos (.inr (.inl hp0))]]
        go_enter func63,ntmps63
        go_wp2_with (go_at_call 140;refine (ho _).mono ?_;rintro e w1 ⟨rfl,hb1⟩;have hs1:=hb1.size)
        go_ret
        exact ⟨rfl,by (repeat' (first | (with_reducible exact Below.refl _ _) | (with_reducible assumption) | (with_reducible refine Below.alloc ?_ ?_ _) | (with_reducible refine Below.drew ?_) | (with_reducible refine below_drewN ?_ _) | (with_reducible refine Below.setCell ?_ ?_ _) | (with_reducible refine Below.trans ?_ (by assumption)) | go_size))⟩
      · by_cases hp1:2≤p
        · rw [show firstN 1 p = -1 by unfold firstN;rw [if_pos (.inr (.inr (by rw [show placesN 1=2 from rfl];exact hp1)))]]
          go_enter func63,ntmps63
          go_wp2_with (go_at_call 140;refine (ho _).mono ?_;rintro e w1 ⟨rfl,hb1⟩;have hs1:=hb1.size)
          go_ret
          exact ⟨rfl,by (repeat' (first | (with_reducible exact Below.refl _ _) | (with_reducible assumption) | (with_reducible refine Below.alloc ?_ ?_ _) | (with_reducible refine Below.drew ?_) | (with_reducible refine below_drewN ?_ _) | (with_reducible refine Below.setCell ?_ ?_ _) | (with_reducible refine Below.trans ?_ (by assumption)) | go_size))⟩
        · rw [show firstN 1 p=0+p * 1 by unfold firstN;rw [if_neg (by rw [show placesN 1=2 from rfl];omega)];rfl]
          go_enter func63,ntmps63
          go_wp2_with (first
            | (go_at_call 140;refine (ho _).mono ?_;rintro e w1 ⟨rfl,hb1⟩;have hs1:=hb1.size)
            | (go_at_call 96;refine (hst _).mono ?_;rintro e w2 ⟨rfl,hb2⟩;have hs2:=hb2.size)
            | (go_at_call 111;refine (hw _).mono ?_;rintro e w3 ⟨rfl,hb3⟩;have hs3:=hb3.size))
          go_ret
          exact ⟨ret_int (by omega),((hb1.trans ((blw w1 _).mono hs1)).trans (hb2.mono (by simp;omega))).trans (hb3.mono (by simp at hs2;omega))⟩
    · skip
      have ho:=of_any 2
      rw [show ofV 2=.agg #[.int .i64 2,.int .i64 1] from rfl] at ho
      have hw:=wide_any 2
      rw [show wideN 2=1 from rfl] at hw
      have hst:=start_in 2 (by omega) (by omega)
      rw [show startN ((2:Nat):Int)=2 from rfl] at hst
      by_cases hp0:p < 0
      · rw [show firstN 2 p = -1 by unfold firstN;rw [if_pos (.inr (.inl hp0))]]
        go_enter func63,ntmps63
        go_wp2_with (go_at_call 140;refine (ho _).mono ?_;rintro e w1 ⟨rfl,hb1⟩;have hs1:=hb1.size)
        go_ret
        exact ⟨rfl,by (repeat' (first | (with_reducible exact Below.refl _ _) | (with_reducible assumption) | (with_reducible refine Below.alloc ?_ ?_ _) | (with_reducible refine Below.drew ?_) | (with_reducible refine below_drewN ?_ _) | (with_reducible refine Below.setCell ?_ ?_ _) | (with_reducible refine Below.trans ?_ (by assumption)) | go_size))⟩
      · by_cases hp1:2≤p
        · rw [show firstN 2 p = -1 by unfold firstN;rw [if_pos (.inr (.inr (by rw [show placesN 2=2 from rfl];exact hp1)))]]
          go_enter func63,ntmps63
          go_wp2_with (go_at_call 140;refine (ho _).mono ?_;rintro e w1 ⟨rfl,hb1⟩;have hs1:=hb1.size)
          go_ret
          exact ⟨rfl,by (repeat' (first | (with_reducible exact Below.refl _ _) | (with_reducible assumption) | (with_reducible refine Below.alloc ?_ ?_ _) | (with_reducible refine Below.drew ?_) | (with_reducible refine below_drewN ?_ _) | (with_reducible refine Below.setCell ?_ ?_ _) | (with_reducible refine Below.trans ?_ (by assumption)) | go_size))⟩
        · rw [show firstN 2 p=2+p * 1 by unfold firstN;rw [if_neg (by rw [show placesN 2=2 from rfl];omega)];rfl]
          go_enter func63,ntmps63
          go_wp2_with (first
            | (go_at_call 140;refine (ho _).mono ?_;rintro e w1 ⟨rfl,hb1⟩;have hs1:=hb1.size)
            | (go_at_call 96;refine (hst _).mono ?_;rintro e w2 ⟨rfl,hb2⟩;have hs2:=hb2.size)
            | (go_at_call 111;refine (hw _).mono ?_;rintro e w3 ⟨rfl,hb3⟩;have hs3:=hb3.size))
          go_ret
          exact ⟨ret_int (by omega),((hb1.trans ((blw w1 _).mono hs1)).trans (hb2.mono (by simp;omega))).trans (hb3.mono (by simp at hs2;omega))⟩
    · skip
      have ho:=of_any 3
      rw [show ofV 3=.agg #[.int .i64 24,.int .i64 1] from rfl] at ho
      have hw:=wide_any 3
      rw [show wideN 3=1 from rfl] at hw
      have hst:=start_in 3 (by omega) (by omega)
      rw [show startN ((3:Nat):Int)=4 from rfl] at hst
      by_cases hp0:p < 0
      · rw [show firstN 3 p = -1 by unfold firstN;rw [if_pos (.inr (.inl hp0))]]
        go_enter func63,ntmps63
        go_wp2_with (go_at_call 140;refine (ho _).mono ?_;rintro e w1 ⟨rfl,hb1⟩;have hs1:=hb1.size)
        go_ret
        exact ⟨rfl,by (repeat' (first | (with_reducible exact Below.refl _ _) | (with_reducible assumption) | (with_reducible refine Below.alloc ?_ ?_ _) | (with_reducible refine Below.drew ?_) | (with_reducible refine below_drewN ?_ _) | (with_reducible refine Below.setCell ?_ ?_ _) | (with_reducible refine Below.trans ?_ (by assumption)) | go_size))⟩
      · by_cases hp1:24≤p
        · rw [show firstN 3 p = -1 by unfold firstN;rw [if_pos (.inr (.inr (by rw [show placesN 3=24 from rfl];exact hp1)))]]
          go_enter func63,ntmps63
          go_wp2_with (go_at_call 140;refine (ho _).mono ?_;rintro e w1 ⟨rfl,hb1⟩;have hs1:=hb1.size)
          go_ret
          exact ⟨rfl,by (repeat' (first | (with_reducible exact Below.refl _ _) | (with_reducible assumption) | (with_reducible refine Below.alloc ?_ ?_ _) | (with_reducible refine Below.drew ?_) | (with_reducible refine below_drewN ?_ _) | (with_reducible refine Below.setCell ?_ ?_ _) | (with_reducible refine Below.trans ?_ (by assumption)) | go_size))⟩
        · rw [show firstN 3 p=4+p * 1 by unfold firstN;rw [if_neg (by rw [show placesN 3=24 from rfl];omega)];rfl]
          go_enter func63,ntmps63
          go_wp2_with (first
            | (go_at_call 140;refine (ho _).mono ?_;rintro e w1 ⟨rfl,hb1⟩;have hs1:=hb1.size)
            | (go_at_call 96;refine (hst _).mono ?_;rintro e w2 ⟨rfl,hb2⟩;have hs2:=hb2.size)
            | (go_at_call 111;refine (hw _).mono ?_;rintro e w3 ⟨rfl,hb3⟩;have hs3:=hb3.size))
          go_ret
          exact ⟨ret_int (by omega),((hb1.trans ((blw w1 _).mono hs1)).trans (hb2.mono (by simp;omega))).trans (hb3.mono (by simp at hs2;omega))⟩
    · skip
      have ho:=of_any 4
      rw [show ofV 4=.agg #[.int .i64 48,.int .i64 2] from rfl] at ho
      have hw:=wide_any 4
      rw [show wideN 4=2 from rfl] at hw
      have hst:=start_in 4 (by omega) (by omega)
      rw [show startN ((4:Nat):Int)=28 from rfl] at hst
      by_cases hp0:p < 0
      · rw [show firstN 4 p = -1 by unfold firstN;rw [if_pos (.inr (.inl hp0))]]
        go_enter func63,ntmps63
        go_wp2_with (go_at_call 140;refine (ho _).mono ?_;rintro e w1 ⟨rfl,hb1⟩;have hs1:=hb1.size)
        go_ret
        exact ⟨rfl,by (repeat' (first | (with_reducible exact Below.refl _ _) | (with_reducible assumption) | (with_reducible refine Below.alloc ?_ ?_ _) | (with_reducible refine Below.drew ?_) | (with_reducible refine below_drewN ?_ _) | (with_reducible refine Below.setCell ?_ ?_ _) | (with_reducible refine Below.trans ?_ (by assumption)) | go_size))⟩
      · by_cases hp1:48≤p
        · rw [show firstN 4 p = -1 by unfold firstN;rw [if_pos (.inr (.inr (by rw [show placesN 4=48 from rfl];exact hp1)))]]
          go_enter func63,ntmps63
          go_wp2_with (go_at_call 140;refine (ho _).mono ?_;rintro e w1 ⟨rfl,hb1⟩;have hs1:=hb1.size)
          go_ret
          exact ⟨rfl,by (repeat' (first | (with_reducible exact Below.refl _ _) | (with_reducible assumption) | (with_reducible refine Below.alloc ?_ ?_ _) | (with_reducible refine Below.drew ?_) | (with_reducible refine below_drewN ?_ _) | (with_reducible refine Below.setCell ?_ ?_ _) | (with_reducible refine Below.trans ?_ (by assumption)) | go_size))⟩
        · rw [show firstN 4 p=28+p * 2 by unfold firstN;rw [if_neg (by rw [show placesN 4=48 from rfl];omega)];rfl]
          go_enter func63,ntmps63
          go_wp2_with (first
            | (go_at_call 140;refine (ho _).mono ?_;rintro e w1 ⟨rfl,hb1⟩;have hs1:=hb1.size)
            | (go_at_call 96;refine (hst _).mono ?_;rintro e w2 ⟨rfl,hb2⟩;have hs2:=hb2.size)
            | (go_at_call 111;refine (hw _).mono ?_;rintro e w3 ⟨rfl,hb3⟩;have hs3:=hb3.size))
          go_ret
          exact ⟨ret_int (by omega),((hb1.trans ((blw w1 _).mono hs1)).trans (hb2.mono (by simp;omega))).trans (hb3.mono (by simp at hs2;omega))⟩
    · skip
      have ho:=of_any 5
      rw [show ofV 5=.agg #[.int .i64 16,.int .i64 2] from rfl] at ho
      have hw:=wide_any 5
      rw [show wideN 5=2 from rfl] at hw
      have hst:=start_in 5 (by omega) (by omega)
      rw [show startN ((5:Nat):Int)=124 from rfl] at hst
      by_cases hp0:p < 0
      · rw [show firstN 5 p = -1 by unfold firstN;rw [if_pos (.inr (.inl hp0))]]
        go_enter func63,ntmps63
        go_wp2_with (go_at_call 140;refine (ho _).mono ?_;rintro e w1 ⟨rfl,hb1⟩;have hs1:=hb1.size)
        go_ret
        exact ⟨rfl,by (repeat' (first | (with_reducible exact Below.refl _ _) | (with_reducible assumption) | (with_reducible refine Below.alloc ?_ ?_ _) | (with_reducible refine Below.drew ?_) | (with_reducible refine below_drewN ?_ _) | (with_reducible refine Below.setCell ?_ ?_ _) | (with_reducible refine Below.trans ?_ (by assumption)) | go_size))⟩
      · by_cases hp1:16≤p
        · rw [show firstN 5 p = -1 by unfold firstN;rw [if_pos (.inr (.inr (by rw [show placesN 5=16 from rfl];exact hp1)))]]
          go_enter func63,ntmps63
          go_wp2_with (go_at_call 140;refine (ho _).mono ?_;rintro e w1 ⟨rfl,hb1⟩;have hs1:=hb1.size)
          go_ret
          exact ⟨rfl,by (repeat' (first | (with_reducible exact Below.refl _ _) | (with_reducible assumption) | (with_reducible refine Below.alloc ?_ ?_ _) | (with_reducible refine Below.drew ?_) | (with_reducible refine below_drewN ?_ _) | (with_reducible refine Below.setCell ?_ ?_ _) | (with_reducible refine Below.trans ?_ (by assumption)) | go_size))⟩
        · rw [show firstN 5 p=124+p * 2 by unfold firstN;rw [if_neg (by rw [show placesN 5=16 from rfl];omega)];rfl]
          go_enter func63,ntmps63
          go_wp2_with (first
            | (go_at_call 140;refine (ho _).mono ?_;rintro e w1 ⟨rfl,hb1⟩;have hs1:=hb1.size)
            | (go_at_call 96;refine (hst _).mono ?_;rintro e w2 ⟨rfl,hb2⟩;have hs2:=hb2.size)
            | (go_at_call 111;refine (hw _).mono ?_;rintro e w3 ⟨rfl,hb3⟩;have hs3:=hb3.size))
          go_ret
          exact ⟨ret_int (by omega),((hb1.trans ((blw w1 _).mono hs1)).trans (hb2.mono (by simp;omega))).trans (hb3.mono (by simp at hs2;omega))⟩
end
section
abbrev tgV (t:Tg):Value:=.agg #[.int .i64 t.rep,.int .i64 t.reg,.int .i64 t.pla,.int .i64 t.idx,.int .i64 t.inc]
def inB (n lo hi:Int):Bool:=decide (lo≤n) && decide (n≤hi)
theorem in_any (n lo hi:Int) (w:World):Calls Tryz.prog 191 #[.int .i64 n,.int .i64 lo,.int .i64 hi] w fun e w'=>e=.returned (.bool (inB n lo hi))∧w=w':=by
 unfold inB
 by_cases h:lo≤n
 ·go_enter func191,ntmps191
  go_wp2
  go_ret
  exact ⟨ret_bool (by simp [h]),rfl⟩
 ·go_enter func191,ntmps191
  go_wp2
  go_ret
  exact ⟨ret_bool (by rw [decide_eq_false (show ¬ lo≤n by omega),Bool.false_and]),rfl⟩
theorem mayTg_in (t:Tg):mayTg t=(inB t.rep 0 6 && (inB t.pla 0 (placesN t.reg - 1) && (inB t.idx 0 1099511627776 && inB t.inc 1 1099511627776))):=by
 unfold mayTg inB
 have:decide (t.pla < placesN t.reg)=decide (t.pla≤placesN t.reg - 1):=by
  apply decide_eq_decide.2
  omega
 rw [this]
 simp only [Bool.and_assoc]
theorem places_bd (n:Int):0≤placesN n∧placesN n≤48:=by
 by_cases h:0 < placesN n
 ·have:=placesN_reg h
  omega
 ·unfold placesN at h ⊢
  split at h
  ·omega
  ·split at h
   ·omega
   ·split at h
    ·omega
    ·split at h
     ·omega
     ·split at h
      ·omega
      ·rename_i h1 h2 h3 h4 h5
       rw [if_neg h1,if_neg h2,if_neg h3,if_neg h4,if_neg h5]
       omega
theorem tmay_any (t:Tg) (w:World):Calls Tryz.prog 139 #[tgV t] w fun e w'=>e=.returned (.bool (mayTg t))∧Below w.heap.size w w':=by
 obtain ⟨rep,reg,pla,idx,inc⟩:=t
 rw [mayTg_in]
 simp only
 have hpl:=(places_bd reg).1
 have hpl2:=(places_bd reg).2
 cases h1:inB rep 0 6
 case false=>
  rw [Bool.false_and]
  have c1:=fun w=>in_any rep 0 6 w
  have c2:=fun w=>in_any pla 0 (placesN reg - 1) w
  have c3:=fun w=>in_any idx 0 1099511627776 w
  have c4:=fun w=>in_any inc 1 1099511627776 w
  (try simp only [h1] at c1)
  (try simp only [h2] at c2)
  (try simp only [h3] at c3)
  replace c1:=Lib.hid c1
  replace c2:=Lib.hid c2
  replace c3:=Lib.hid c3
  replace c4:=Lib.hid c4
  go_enter func139,ntmps139
  refine seqH fun K HK=>?_
  go_wp2
  refine HK.out _ _ ?_
  clear HK
  refine seqH fun K HK=>?_
  go_wp2
  refine HK.out _ _ ?_
  clear HK
  have q0:=under_cell (blk_cell (heap_alloc_new w (Obj.cells #[.int .i64 rep,.int .i64 reg,.int .i64 pla,.int .i64 idx,.int .i64 inc] 39)) 0 _ rfl)
  have q1:=under_cell (blk_cell (heap_alloc_new w (Obj.cells #[.int .i64 rep,.int .i64 reg,.int .i64 pla,.int .i64 idx,.int .i64 inc] 39)) 1 _ rfl)
  have q2:=under_cell (blk_cell (heap_alloc_new w (Obj.cells #[.int .i64 rep,.int .i64 reg,.int .i64 pla,.int .i64 idx,.int .i64 inc] 39)) 2 _ rfl)
  have q3:=under_cell (blk_cell (heap_alloc_new w (Obj.cells #[.int .i64 rep,.int .i64 reg,.int .i64 pla,.int .i64 idx,.int .i64 inc] 39)) 3 _ rfl)
  have q4:=under_cell (blk_cell (heap_alloc_new w (Obj.cells #[.int .i64 rep,.int .i64 reg,.int .i64 pla,.int .i64 idx,.int .i64 inc] 39)) 4 _ rfl)
  have hbw:=blw w (Obj.cells #[.int .i64 rep,.int .i64 reg,.int .i64 pla,.int .i64 idx,.int .i64 inc] 39)
  generalize w.alloc (Obj.cells #[.int .i64 rep,.int .i64 reg,.int .i64 pla,.int .i64 idx,.int .i64 inc] 39)=wq at *
  refine seqH fun K HK=>?_
  refine wp_region_under (by kernel_rfl) (by kernel_rfl) ?_
  repeat (first | go_big_quiet_step ((first
   | (go_at_call 191;first | (with_reducible exact under_same (c1.out _)) | (with_reducible exact under_same (c2.out _)) | (with_reducible exact under_same (c3.out _)) | (with_reducible exact under_same (c4.out _)))
   | (go_at_call 192;exact under_call (places_any _ _)))) | ((with_reducible refine wpQuiet_skip ?_ ?_) ;(focus rfl);(try simp only [Act.put,qa1,qa2,qa3])))
  refine wpQuiet_nil ?_
  intro _ hw'
  obtain ⟨xU,hw''⟩:=hw'
  subst hw''
  have hbU:=under_below wq xU
  refine HK.out _ _ ?_
  clear HK
  go_wp2
  go_ret
  exact ⟨by rfl,hbw.trans (hbU.mono hbw.size)⟩
 case true=>
  rw [Bool.true_and]
  cases h2:inB pla 0 (placesN reg - 1)
  case false=>
   rw [Bool.false_and]
   have c1:=fun w=>in_any rep 0 6 w
   have c2:=fun w=>in_any pla 0 (placesN reg - 1) w
   have c3:=fun w=>in_any idx 0 1099511627776 w
   have c4:=fun w=>in_any inc 1 1099511627776 w
   (try simp only [h1] at c1)
   (try simp only [h2] at c2)
   (try simp only [h3] at c3)
   replace c1:=Lib.hid c1
   replace c2:=Lib.hid c2
   replace c3:=Lib.hid c3
   replace c4:=Lib.hid c4
   go_enter func139,ntmps139
   refine seqH fun K HK=>?_
   go_wp2
   refine HK.out _ _ ?_
   clear HK
   refine seqH fun K HK=>?_
   go_wp2
   refine HK.out _ _ ?_
   clear HK
   have q0:=under_cell (blk_cell (heap_alloc_new w (Obj.cells #[.int .i64 rep,.int .i64 reg,.int .i64 pla,.int .i64 idx,.int .i64 inc] 39)) 0 _ rfl)
   have q1:=under_cell (blk_cell (heap_alloc_new w (Obj.cells #[.int .i64 rep,.int .i64 reg,.int .i64 pla,.int .i64 idx,.int .i64 inc] 39)) 1 _ rfl)
   have q2:=under_cell (blk_cell (heap_alloc_new w (Obj.cells #[.int .i64 rep,.int .i64 reg,.int .i64 pla,.int .i64 idx,.int .i64 inc] 39)) 2 _ rfl)
   have q3:=under_cell (blk_cell (heap_alloc_new w (Obj.cells #[.int .i64 rep,.int .i64 reg,.int .i64 pla,.int .i64 idx,.int .i64 inc] 39)) 3 _ rfl)
   have q4:=under_cell (blk_cell (heap_alloc_new w (Obj.cells #[.int .i64 rep,.int .i64 reg,.int .i64 pla,.int .i64 idx,.int .i64 inc] 39)) 4 _ rfl)
   have hbw:=blw w (Obj.cells #[.int .i64 rep,.int .i64 reg,.int .i64 pla,.int .i64 idx,.int .i64 inc] 39)
   generalize w.alloc (Obj.cells #[.int .i64 rep,.int .i64 reg,.int .i64 pla,.int .i64 idx,.int .i64 inc] 39)=wq at *
   refine seqH fun K HK=>?_
   refine wp_region_under (by kernel_rfl) (by kernel_rfl) ?_
   repeat (first | go_big_quiet_step ((first
    | (go_at_call 191;first | (with_reducible exact under_same (c1.out _)) | (with_reducible exact under_same (c2.out _)) | (with_reducible exact under_same (c3.out _)) | (with_reducible exact under_same (c4.out _)))
    | (go_at_call 192;exact under_call (places_any _ _)))) | ((with_reducible refine wpQuiet_skip ?_ ?_) ;(focus rfl);(try simp only [Act.put,qa1,qa2,qa3])))
   refine wpQuiet_nil ?_
   intro _ hw'
   obtain ⟨xU,hw''⟩:=hw'
   subst hw''
   have hbU:=under_below wq xU
   refine HK.out _ _ ?_
   clear HK
   go_wp2
   go_ret
   exact ⟨by rfl,hbw.trans (hbU.mono hbw.size)⟩
  case true=>
   rw [Bool.true_and]
   cases h3:inB idx 0 1099511627776
   case false=>
    rw [Bool.false_and]
    have c1:=fun w=>in_any rep 0 6 w
    have c2:=fun w=>in_any pla 0 (placesN reg - 1) w
    have c3:=fun w=>in_any idx 0 1099511627776 w
    have c4:=fun w=>in_any inc 1 1099511627776 w
    (try simp only [h1] at c1)
    (try simp only [h2] at c2)
    (try simp only [h3] at c3)
    replace c1:=Lib.hid c1
    replace c2:=Lib.hid c2
    replace c3:=Lib.hid c3
    replace c4:=Lib.hid c4
    go_enter func139,ntmps139
    refine seqH fun K HK=>?_
    go_wp2
    refine HK.out _ _ ?_
    clear HK
    refine seqH fun K HK=>?_
    go_wp2
    refine HK.out _ _ ?_
    clear HK
    have q0:=under_cell (blk_cell (heap_alloc_new w (Obj.cells #[.int .i64 rep,.int .i64 reg,.int .i64 pla,.int .i64 idx,.int .i64 inc] 39)) 0 _ rfl)
    have q1:=under_cell (blk_cell (heap_alloc_new w (Obj.cells #[.int .i64 rep,.int .i64 reg,.int .i64 pla,.int .i64 idx,.int .i64 inc] 39)) 1 _ rfl)
    have q2:=under_cell (blk_cell (heap_alloc_new w (Obj.cells #[.int .i64 rep,.int .i64 reg,.int .i64 pla,.int .i64 idx,.int .i64 inc] 39)) 2 _ rfl)
    have q3:=under_cell (blk_cell (heap_alloc_new w (Obj.cells #[.int .i64 rep,.int .i64 reg,.int .i64 pla,.int .i64 idx,.int .i64 inc] 39)) 3 _ rfl)
    have q4:=under_cell (blk_cell (heap_alloc_new w (Obj.cells #[.int .i64 rep,.int .i64 reg,.int .i64 pla,.int .i64 idx,.int .i64 inc] 39)) 4 _ rfl)
    have hbw:=blw w (Obj.cells #[.int .i64 rep,.int .i64 reg,.int .i64 pla,.int .i64 idx,.int .i64 inc] 39)
    generalize w.alloc (Obj.cells #[.int .i64 rep,.int .i64 reg,.int .i64 pla,.int .i64 idx,.int .i64 inc] 39)=wq at *
    refine seqH fun K HK=>?_
    refine wp_region_under (by kernel_rfl) (by kernel_rfl) ?_
    repeat (first | go_big_quiet_step ((first
     | (go_at_call 191;first | (with_reducible exact under_same (c1.out _)) | (with_reducible exact under_same (c2.out _)) | (with_reducible exact under_same (c3.out _)) | (with_reducible exact under_same (c4.out _)))
     | (go_at_call 192;exact under_call (places_any _ _)))) | ((with_reducible refine wpQuiet_skip ?_ ?_) ;(focus rfl);(try simp only [Act.put,qa1,qa2,qa3])))
    refine wpQuiet_nil ?_
    intro _ hw'
    obtain ⟨xU,hw''⟩:=hw'
    subst hw''
    have hbU:=under_below wq xU
    refine HK.out _ _ ?_
    clear HK
    go_wp2
    go_ret
    exact ⟨by rfl,hbw.trans (hbU.mono hbw.size)⟩
   case true=>
    rw [Bool.true_and]
    have c1:=fun w=>in_any rep 0 6 w
    have c2:=fun w=>in_any pla 0 (placesN reg - 1) w
    have c3:=fun w=>in_any idx 0 1099511627776 w
    have c4:=fun w=>in_any inc 1 1099511627776 w
    (try simp only [h1] at c1)
    (try simp only [h2] at c2)
    (try simp only [h3] at c3)
    replace c1:=Lib.hid c1
    replace c2:=Lib.hid c2
    replace c3:=Lib.hid c3
    replace c4:=Lib.hid c4
    go_enter func139,ntmps139
    refine seqH fun K HK=>?_
    go_wp2
    refine HK.out _ _ ?_
    clear HK
    refine seqH fun K HK=>?_
    go_wp2
    refine HK.out _ _ ?_
    clear HK
    have q0:=under_cell (blk_cell (heap_alloc_new w (Obj.cells #[.int .i64 rep,.int .i64 reg,.int .i64 pla,.int .i64 idx,.int .i64 inc] 39)) 0 _ rfl)
    have q1:=under_cell (blk_cell (heap_alloc_new w (Obj.cells #[.int .i64 rep,.int .i64 reg,.int .i64 pla,.int .i64 idx,.int .i64 inc] 39)) 1 _ rfl)
    have q2:=under_cell (blk_cell (heap_alloc_new w (Obj.cells #[.int .i64 rep,.int .i64 reg,.int .i64 pla,.int .i64 idx,.int .i64 inc] 39)) 2 _ rfl)
    have q3:=under_cell (blk_cell (heap_alloc_new w (Obj.cells #[.int .i64 rep,.int .i64 reg,.int .i64 pla,.int .i64 idx,.int .i64 inc] 39)) 3 _ rfl)
    have q4:=under_cell (blk_cell (heap_alloc_new w (Obj.cells #[.int .i64 rep,.int .i64 reg,.int .i64 pla,.int .i64 idx,.int .i64 inc] 39)) 4 _ rfl)
    have hbw:=blw w (Obj.cells #[.int .i64 rep,.int .i64 reg,.int .i64 pla,.int .i64 idx,.int .i64 inc] 39)
    generalize w.alloc (Obj.cells #[.int .i64 rep,.int .i64 reg,.int .i64 pla,.int .i64 idx,.int .i64 inc] 39)=wq at *
    refine seqH fun K HK=>?_
    refine wp_region_under (by kernel_rfl) (by kernel_rfl) ?_
    repeat (first | go_big_quiet_step ((first
     | (go_at_call 191;first | (with_reducible exact under_same (c1.out _)) | (with_reducible exact under_same (c2.out _)) | (with_reducible exact under_same (c3.out _)) | (with_reducible exact under_same (c4.out _)))
     | (go_at_call 192;exact under_call (places_any _ _)))) | ((with_reducible refine wpQuiet_skip ?_ ?_) ;(focus rfl);(try simp only [Act.put,qa1,qa2,qa3])))
    refine wpQuiet_nil ?_
    intro _ hw'
    obtain ⟨xU,hw''⟩:=hw'
    subst hw''
    have hbU:=under_below wq xU
    refine HK.out _ _ ?_
    clear HK
    go_wp2
    go_ret
    exact ⟨by rfl,hbw.trans (hbU.mono hbw.size)⟩
end
section
abbrev Part:=Option Addr×Nat×List UInt8
def partV (x:Part):Value:=.slice x.1 x.2.2.length x.2.1
structure Parts (w:World) (a:Option Addr) (ls:List Part):Prop where
 row:Row w a (ls.map partV)
 each:∀ x ∈ ls,SlB w x.1 x.2.1 x.2.2
def joinP (ls:List Part):List UInt8:=ls.flatMap (·.2.2)
theorem joinP_snoc (ls:List Part) (j:Nat) (h:j < ls.length):joinP (ls.take (j+1))=joinP (ls.take j)++ls[j].2.2:=by
 rw [List.take_succ_eq_append_getElem h]
 unfold joinP
 rw [List.flatMap_append,List.flatMap_singleton]
theorem joinP_le (ls:List Part) (j:Nat):(joinP (ls.take j)).length≤(joinP ls).length:=by
 have:joinP ls=joinP (ls.take j)++joinP (ls.drop j):=by
  have h:=congrArg joinP (List.take_append_drop j ls)
  refine h.symm.trans ?_
  unfold joinP
  rw [List.flatMap_append]
 rw [this,List.length_append]
 omega
theorem join_any (a:Option Addr) (cap:Nat) (ls:List Part) (w:World) (hp:Parts w a ls) (hn:ls.length≤1000) (ht:(joinP ls).length≤1000000):Calls Tryz.prog 179 #[.slice a ls.length cap] w fun e w'=>(∃ a' c',e=.returned (.slice a' (joinP ls).length c')∧w'.ownsRow w.heap.size 5 1 (.slice a' (joinP ls).length c') (joinP ls).length (bys (joinP ls)))∧Below w.heap.size w w':=by
 go_enter func179,ntmps179
 refine seqH fun K HK=>?_
 go_wp2
 refine HK.out _ _ ?_
 clear HK
 refine seqH fun K HK=>?_
 go_wp2
 refine HK.out _ _ ?_
 clear HK
 refine seqH fun K HK=>?_
 go_wp2_with fail
 go_loopw [8,3,5] (fun i o _ wr=>∃ (j:Nat) (v:Value),j≤ls.length∧i=.int .i64 (j:Nat)∧o=v∧wr.ownsRow w.heap.size 5 1 v (joinP (ls.take j)).length (bys (joinP (ls.take j)))∧Below w.heap.size w wr) (fun i _ _ _=>ls.length - (intOf i).toNat)
 case atStart=>exact ⟨0,_,by omega,rfl,rfl,World.ownsRow_nil _ _ _ _,Below.refl _ _⟩
 case round=>
  obtain ⟨j,v,hj,rfl,rfl,hown,hbr⟩:=hrel
  by_cases hlt:j < ls.length
  case pos=>
   have hx:=hp.each _ (List.getElem_mem hlt)
   have hsn:=joinP_snoc ls j hlt
   have hle:=joinP_le ls (j+1)
   rw [hsn,List.length_append] at hle
   have HSN:=Lib.hid hsn
   clear hsn
   obtain ⟨b,off,rfl,hc⟩:=(hp.row.below0 hbr).at (k:=j) (by simpa using hlt)
   have hcj:=hc j (partV ls[j]) (by simp [hlt])
   clear hc
   generalize ls[j]=x at *
   obtain ⟨xa,xc,xl⟩:=x
   simp only at hx hle HSN
   unfold partV at hcj
   simp only at hcj
   have hxr:=hx.row.below0 hbr
   have hxl:xl.length≤xc:=hx.le
   generalize joinP (ls.take j)=t at *
   go_wp2_with (at_builtin;refine wpList_append_row rfl _ _ 37 5 elByte rfl w.heap.size _ t.length (bys t) rfl hown xa xl.length xc (bys xl) rfl (by rw [bys_len];omega) hxr bys_one (by omega) (by decide) hbr.size ?_;intro v4 w4 ho4 hb4)
   rw [← bys_app] at ho4
   go_roundw
   case rel=>exact ⟨j+1,_,by omega,by go_num,rfl,by rw [HSN.out,List.length_append];exact ho4,hbr.trans hb4⟩
   case measure=>simp [intOf];omega
  case neg=>
   obtain rfl:j=ls.length:=by omega
   rw [List.take_length] at hown
   obtain ⟨a',c',rfl,_⟩:=Row.of_owns hown
   go_wp2
   refine HK.out _ _ ?_
   clear HK
   go_wp2
   go_ret
   exact ⟨⟨a',c',rfl,hown⟩,hbr⟩
end
section
abbrev widV:Value:=.agg #[.int .i64 1,.int .i64 1,.int .i64 1,.int .i64 6,.int .i64 6]
theorem widths_any (w:World):Calls Tryz.prog 212 #[] w fun e w'=>e=.returned widV∧Below w.heap.size w w':=by
 go_enter func212,ntmps212
 go_wp2
 (try simp only [Exit.inBlock,Exit.then])
 refine bodyPost_ret (v:=widV) ?hr rfl ⟨rfl,?_⟩
 case hr=>
  simp only [results,Tryz.results212]
  go_simp
  try rfl
 (repeat' (first | (with_reducible exact Below.refl _ _) | (with_reducible assumption) | (with_reducible refine Below.alloc ?_ ?_ _) | (with_reducible refine Below.drew ?_) | (with_reducible refine below_drewN ?_ _) | (with_reducible refine Below.setCell ?_ ?_ _) | (with_reducible refine Below.trans ?_ (by assumption)) | go_size))
theorem oput_one {n:Int} {k:Nat} (h0:0≤n) (h1:n < manyI k):oputL k n=le k n.toNat:=by
 unfold oputL
 rw [if_pos (by unfold fitsB;simp [h0,h1]),Int.toNat_natCast]
def tagPre (t:Tg):Nat→List UInt8
 | 0=>[]
 | 1=>le 1 t.rep.toNat
 | 2=>le 1 t.rep.toNat++le 1 t.reg.toNat
 | 3=>(le 1 t.rep.toNat++le 1 t.reg.toNat)++le 1 t.pla.toNat
 | 4=>((le 1 t.rep.toNat++le 1 t.reg.toNat)++le 1 t.pla.toNat)++le 6 t.idx.toNat
 | _=>(((le 1 t.rep.toNat++le 1 t.reg.toNat)++le 1 t.pla.toNat)++le 6 t.idx.toNat)++le 6 t.inc.toNat
theorem tagPre_all (t:Tg):tagPre t 5=tagB t:=by simp [tagPre,tagB]
theorem tprint_ok (t:Tg) (w:World) (ht:mayTg t=true):Calls Tryz.prog 178 #[tgV t] w fun e w'=>(∃ a' c',e=.returned (.tuple #[.slice a' 15 c',.int .i64 0])∧w'.ownsRow w.heap.size 5 1 (.slice a' 15 c') 15 (bys (tagB t)))∧Below w.heap.size w w':=by
 obtain ⟨h1,h2,h3,h4,h5,h6,h7,h8⟩:=mayTg_parts ht
 obtain ⟨g1,g2,g3⟩:=mayTg_small ht
 have i0:∀ (a b c d e:Int) (w:World),(Instr.index 282 (.agg #[.int .i64 a,.int .i64 b,.int .i64 c,.int .i64 d,.int .i64 e]) (.int .i64 0)).run Tryz.prog w=.ok (.int .i64 a) w:=fun _ _ _ _ _ _=>by kernel_rfl
 have i1:∀ (a b c d e:Int) (w:World),(Instr.index 282 (.agg #[.int .i64 a,.int .i64 b,.int .i64 c,.int .i64 d,.int .i64 e]) (.int .i64 1)).run Tryz.prog w=.ok (.int .i64 b) w:=fun _ _ _ _ _ _=>by kernel_rfl
 have i2:∀ (a b c d e:Int) (w:World),(Instr.index 282 (.agg #[.int .i64 a,.int .i64 b,.int .i64 c,.int .i64 d,.int .i64 e]) (.int .i64 2)).run Tryz.prog w=.ok (.int .i64 c) w:=fun _ _ _ _ _ _=>by kernel_rfl
 have i3:∀ (a b c d e:Int) (w:World),(Instr.index 282 (.agg #[.int .i64 a,.int .i64 b,.int .i64 c,.int .i64 d,.int .i64 e]) (.int .i64 3)).run Tryz.prog w=.ok (.int .i64 d) w:=fun _ _ _ _ _ _=>by kernel_rfl
 have i4:∀ (a b c d e:Int) (w:World),(Instr.index 282 (.agg #[.int .i64 a,.int .i64 b,.int .i64 c,.int .i64 d,.int .i64 e]) (.int .i64 4)).run Tryz.prog w=.ok (.int .i64 e) w:=fun _ _ _ _ _ _=>by kernel_rfl
 have HT:=Lib.hid ht
 clear ht
 go_enter func178,ntmps178
 refine seqH fun K HK=>?_
 go_wp2
 refine HK.out _ _ ?_
 clear HK
 refine seqH fun K HK=>?_
 go_wp2_with (go_at_call 139;refine (tmay_any t _).mono ?_;rintro e w1 ⟨rfl,hb1⟩;rw [HT.out])
 refine HK.out _ _ ?_
 clear HK
 have q:=tr_bl hb1 (heap_alloc_new w (Obj.cells #[.int .i64 t.rep,.int .i64 t.reg,.int .i64 t.pla,.int .i64 t.idx,.int .i64 t.inc] 39))
 have hb:=(blw w (Obj.cells #[.int .i64 t.rep,.int .i64 t.reg,.int .i64 t.pla,.int .i64 t.idx,.int .i64 t.inc] 39)).trans (hb1.mono (blw w _).size)
 have q0:=blk_cell q 0 _ rfl
 have q1:=blk_cell q 1 _ rfl
 have q2:=blk_cell q 2 _ rfl
 have q3:=blk_cell q 3 _ rfl
 have q4:=blk_cell q 4 _ rfl
 clear q hb1
 refine seqH fun K HK=>?_
 go_wp2
 refine HK.out _ _ ?_
 clear HK
 refine seqH fun K HK=>?_
 go_wp2_with fail
 go_loopw [23,4,5,6,7,8] (fun i o _ _ _ _ wr=>∃ (j:Nat) (v:Value),j≤5∧i=.int .i64 (j:Nat)∧o=v∧wr.ownsRow w.heap.size 5 1 v (tagPre t j).length (bys (tagPre t j))∧Below w.heap.size w wr) (fun i _ _ _ _ _ _=>5 - (intOf i).toNat)
 case atStart=>exact ⟨0,_,by omega,rfl,rfl,World.ownsRow_nil _ _ _ _,hb⟩
 case round=>
  clear q0 q1 q2 q3 q4
  obtain ⟨j,v,hj,rfl,rfl,hown,hbr⟩:=hrel
  have h5:j=0∨j=1∨j=2∨j=3∨j=4∨j=5:=by omega
  rcases h5 with rfl | rfl | rfl | rfl | rfl | rfl
  ·have HL:=Lib.hid (show oputL 1 t.rep=le 1 t.rep.toNat from oput_one (k:=1) (by omega) (by show _ < 256;omega))
   have HE:=Lib.hid (show tagPre t (0+1)=tagPre t 0++le 1 t.rep.toNat from rfl)
   have hpl:(tagPre t 0).length=0:=rfl
   have HPL:=Lib.hid hpl
   have hpl2:(tagPre t 0).length≤15:=by omega
   clear hpl
   generalize tagPre t 0=pr at *
   go_wp2_with (first
    | (go_at_call 212;refine (widths_any _).mono ?_;rintro e w1 ⟨rfl,hb1⟩;have o1:=owns_bl hown hb1)
    | (go_at_call 117;refine (put_any 1 t.rep _).mono ?_;rintro e w2 ⟨⟨v2,rfl,ho2⟩,hb2⟩;have o2:=owns_bl o1 hb2;have hb3:=hbr.trans ((hb1.trans (hb2.mono hb1.size)).mono hbr.size);rw [HL.out,le_len] at ho2;obtain ⟨a2,c2,rfl,hr2,hn2,hm2⟩:=Row.of_owns ho2)
    | (at_builtin;refine wpList_append_row rfl _ _ 37 5 elByte rfl w.heap.size _ pr.length (bys pr) rfl o2 a2 1 c2 (bys (le 1 t.rep.toNat)) rfl (by rw [bys_len,le_len]) hr2 bys_one (by omega) (by decide) hb3.size ?_;intro v4 w4 ho4 hb4))
   rw [← bys_app] at ho4
   go_roundw
   case rel=>exact ⟨0+1,_,by omega,by rfl,rfl,by rw [HE.out,List.length_append,le_len];exact ho4,hb3.trans hb4⟩
   case measure=>simp [intOf]
  ·have HL:=Lib.hid (show oputL 1 t.reg=le 1 t.reg.toNat from oput_one (k:=1) (by omega) (by show _ < 256;omega))
   have HE:=Lib.hid (show tagPre t (1+1)=tagPre t 1++le 1 t.reg.toNat from rfl)
   have hpl:(tagPre t 1).length=1:=rfl
   have HPL:=Lib.hid hpl
   have hpl2:(tagPre t 1).length≤15:=by omega
   clear hpl
   generalize tagPre t 1=pr at *
   go_wp2_with (first
    | (go_at_call 212;refine (widths_any _).mono ?_;rintro e w1 ⟨rfl,hb1⟩;have o1:=owns_bl hown hb1)
    | (go_at_call 117;refine (put_any 1 t.reg _).mono ?_;rintro e w2 ⟨⟨v2,rfl,ho2⟩,hb2⟩;have o2:=owns_bl o1 hb2;have hb3:=hbr.trans ((hb1.trans (hb2.mono hb1.size)).mono hbr.size);rw [HL.out,le_len] at ho2;obtain ⟨a2,c2,rfl,hr2,hn2,hm2⟩:=Row.of_owns ho2)
    | (at_builtin;refine wpList_append_row rfl _ _ 37 5 elByte rfl w.heap.size _ pr.length (bys pr) rfl o2 a2 1 c2 (bys (le 1 t.reg.toNat)) rfl (by rw [bys_len,le_len]) hr2 bys_one (by omega) (by decide) hb3.size ?_;intro v4 w4 ho4 hb4))
   rw [← bys_app] at ho4
   go_roundw
   case rel=>exact ⟨1+1,_,by omega,by rfl,rfl,by rw [HE.out,List.length_append,le_len];exact ho4,hb3.trans hb4⟩
   case measure=>simp [intOf]
  ·have HL:=Lib.hid (show oputL 1 t.pla=le 1 t.pla.toNat from oput_one (k:=1) (by omega) (by show _ < 256;omega))
   have HE:=Lib.hid (show tagPre t (2+1)=tagPre t 2++le 1 t.pla.toNat from rfl)
   have hpl:(tagPre t 2).length=2:=rfl
   have HPL:=Lib.hid hpl
   have hpl2:(tagPre t 2).length≤15:=by omega
   clear hpl
   generalize tagPre t 2=pr at *
   go_wp2_with (first
    | (go_at_call 212;refine (widths_any _).mono ?_;rintro e w1 ⟨rfl,hb1⟩;have o1:=owns_bl hown hb1)
    | (go_at_call 117;refine (put_any 1 t.pla _).mono ?_;rintro e w2 ⟨⟨v2,rfl,ho2⟩,hb2⟩;have o2:=owns_bl o1 hb2;have hb3:=hbr.trans ((hb1.trans (hb2.mono hb1.size)).mono hbr.size);rw [HL.out,le_len] at ho2;obtain ⟨a2,c2,rfl,hr2,hn2,hm2⟩:=Row.of_owns ho2)
    | (at_builtin;refine wpList_append_row rfl _ _ 37 5 elByte rfl w.heap.size _ pr.length (bys pr) rfl o2 a2 1 c2 (bys (le 1 t.pla.toNat)) rfl (by rw [bys_len,le_len]) hr2 bys_one (by omega) (by decide) hb3.size ?_;intro v4 w4 ho4 hb4))
   rw [← bys_app] at ho4
   go_roundw
   case rel=>exact ⟨2+1,_,by omega,by rfl,rfl,by rw [HE.out,List.length_append,le_len];exact ho4,hb3.trans hb4⟩
   case measure=>simp [intOf]
  ·have HL:=Lib.hid (show oputL 6 t.idx=le 6 t.idx.toNat from oput_one (k:=6) (by omega) (by show _ < 281474976710656;omega))
   have HE:=Lib.hid (show tagPre t (3+1)=tagPre t 3++le 6 t.idx.toNat from rfl)
   have hpl:(tagPre t 3).length=3:=rfl
   have HPL:=Lib.hid hpl
   have hpl2:(tagPre t 3).length≤15:=by omega
   clear hpl
   generalize tagPre t 3=pr at *
   go_wp2_with (first
    | (go_at_call 212;refine (widths_any _).mono ?_;rintro e w1 ⟨rfl,hb1⟩;have o1:=owns_bl hown hb1)
    | (go_at_call 117;refine (put_any 6 t.idx _).mono ?_;rintro e w2 ⟨⟨v2,rfl,ho2⟩,hb2⟩;have o2:=owns_bl o1 hb2;have hb3:=hbr.trans ((hb1.trans (hb2.mono hb1.size)).mono hbr.size);rw [HL.out,le_len] at ho2;obtain ⟨a2,c2,rfl,hr2,hn2,hm2⟩:=Row.of_owns ho2)
    | (at_builtin;refine wpList_append_row rfl _ _ 37 5 elByte rfl w.heap.size _ pr.length (bys pr) rfl o2 a2 6 c2 (bys (le 6 t.idx.toNat)) rfl (by rw [bys_len,le_len]) hr2 bys_one (by omega) (by decide) hb3.size ?_;intro v4 w4 ho4 hb4))
   rw [← bys_app] at ho4
   go_roundw
   case rel=>exact ⟨3+1,_,by omega,by rfl,rfl,by rw [HE.out,List.length_append,le_len];exact ho4,hb3.trans hb4⟩
   case measure=>simp [intOf]
  ·have HL:=Lib.hid (show oputL 6 t.inc=le 6 t.inc.toNat from oput_one (k:=6) (by omega) (by show _ < 281474976710656;omega))
   have HE:=Lib.hid (show tagPre t (4+1)=tagPre t 4++le 6 t.inc.toNat from rfl)
   have hpl:(tagPre t 4).length=9:=rfl
   have HPL:=Lib.hid hpl
   have hpl2:(tagPre t 4).length≤15:=by omega
   clear hpl
   generalize tagPre t 4=pr at *
   go_wp2_with (first
    | (go_at_call 212;refine (widths_any _).mono ?_;rintro e w1 ⟨rfl,hb1⟩;have o1:=owns_bl hown hb1)
    | (go_at_call 117;refine (put_any 6 t.inc _).mono ?_;rintro e w2 ⟨⟨v2,rfl,ho2⟩,hb2⟩;have o2:=owns_bl o1 hb2;have hb3:=hbr.trans ((hb1.trans (hb2.mono hb1.size)).mono hbr.size);rw [HL.out,le_len] at ho2;obtain ⟨a2,c2,rfl,hr2,hn2,hm2⟩:=Row.of_owns ho2)
    | (at_builtin;refine wpList_append_row rfl _ _ 37 5 elByte rfl w.heap.size _ pr.length (bys pr) rfl o2 a2 6 c2 (bys (le 6 t.inc.toNat)) rfl (by rw [bys_len,le_len]) hr2 bys_one (by omega) (by decide) hb3.size ?_;intro v4 w4 ho4 hb4))
   rw [← bys_app] at ho4
   go_roundw
   case rel=>exact ⟨4+1,_,by omega,by rfl,rfl,by rw [HE.out,List.length_append,le_len];exact ho4,hb3.trans hb4⟩
   case measure=>simp [intOf]
  ·obtain ⟨a',c',rfl,_⟩:=Row.of_owns hown
   rw [tagPre_all,tagB_len] at hown
   have hl:(tagPre t 5).length=15:=by rw [tagPre_all,tagB_len]
   rw [hl]
   go_wp2
   refine HK.out _ _ ?_
   clear HK
   go_wp2
   go_ret2
   exact ⟨⟨a',c',rfl,hown⟩,hbr⟩
end
section
def lenV:Value→Nat
 | .slice _ n _=>n
 | _=>0
theorem SlB.take {w:World} {a:Option Addr} {cap:Nat} {l:List UInt8} (h:SlB w a cap l) (k:Nat):SlB w a cap (l.take k):=by
 refine ⟨?_,?_,h.max,h.nil⟩
 ·have:=h.row.take k
  simpa [bys,List.map_take] using this
 ·have:=h.le
  rw [List.length_take]
  omega
theorem noughts_app (l m:List UInt8):noughtsB (l++m)=(noughtsB l && noughtsB m):=by simp [noughtsB]
theorem noughts_cons (x:UInt8) (l:List UInt8):noughtsB (x :: l)=(x==0 && noughtsB l):=rfl
theorem byte0 {x:UInt8}:((x.toNat:Int)==0)=(x==0):=by
 by_cases h:x=0
 ·subst h;rfl
 ·have:x.toNat≠0:=fun e=>h (by apply UInt8.toNat_inj.1;exact e)
  rw [beq_eq_false_iff_ne.2 (by omega),beq_eq_false_iff_ne.2 h]
theorem trimR_any (a:Option Addr) (cap:Nat) (l:List UInt8) (w:World) (hs:SlB w a cap l):Calls Tryz.prog 239 #[.slice a l.length cap,.int .u8 0] w fun e w'=>(∃ k:Nat,k≤l.length∧e=.returned (.slice a k cap)∧noughtsB (l.take k)=noughtsB l)∧w=w':=by
 have hle:=hs.le
 have hmx:=hs.max
 unfold maxLen at hmx
 go_enter func239,ntmps239
 refine seqH fun K HK=>?_
 go_wp2
 refine HK.out _ _ ?_
 clear HK
 refine seqH fun K HK=>?_
 go_wp2_with fail
 go_loop [0] (fun s=>∃ k:Nat,k≤l.length∧s=.slice a k cap∧Hid (noughtsB (l.take k)=noughtsB l)) (fun s=>lenV s)
 case atStart=>exact ⟨l.length,Nat.le_refl _,rfl,Lib.hid (by rw [List.take_length])⟩
 case round=>
  obtain ⟨k,hk,rfl,hn⟩:=hrel
  cases k with
  | zero=>
   go_wp2
   refine HK.out _ _ ?_
   clear HK
   go_wp2
   go_ret
   exact ⟨⟨0,Nat.zero_le _,rfl,hn.out⟩,rfl⟩
  | succ m=>
   obtain ⟨b,off,rfl,hc⟩:=hs.row.byte (i:=m) (by omega)
   have htk:=List.take_succ_eq_append_getElem (show m < l.length by omega)
   generalize l[m]=x at *
   have hm0:(0:Int)≤m:=by omega
   cases hx:x==0
   ·have hx2:((x.toNat:Int)==0)=false:=by rw [byte0,hx]
    have HN:=Lib.hid hn.out
    clear htk hx
    go_wp2
    refine HK.out _ _ ?_
    clear HK
    go_wp2
    go_ret
    exact ⟨⟨m+1,hk,rfl,HN.out⟩,rfl⟩
   ·have hx2:((x.toNat:Int)==0)=true:=by rw [byte0,hx]
    have HN:=Lib.hid (show noughtsB (l.take m)=noughtsB l by rw [← hn.out,htk,noughts_app,noughts_cons,hx];simp [noughtsB])
    clear htk hx hn
    go_wp2
    go_round
    case rel=>exact ⟨m,by omega,by rfl,HN⟩
    case measure=>simp [lenV]
theorem SlB.tail {w:World} {b off c:Nat} {x:UInt8} {r:List UInt8} (h:SlB w (some ⟨b,off,none⟩) c (x :: r)):SlB w (some ⟨b,off+1,none⟩) (c - 1) r:=by
 have h1:=h.le
 have h2:=h.max
 simp only [List.length_cons] at h1
 refine ⟨?_,by omega,by omega,fun e=>by cases e⟩
 rcases h.row with h0 | ⟨b',off',e,hc⟩
 ·simp [bys] at h0
 ·cases e
  refine .inr ⟨b,off+1,rfl,fun i u hu=>?_⟩
  rw [Nat.add_assoc,Nat.add_comm 1 i]
  exact hc (i+1) u (by simpa [bys] using hu)
theorem trimL_any (a:Option Addr) (cap:Nat) (l:List UInt8) (w:World) (hs:SlB w a cap l):Calls Tryz.prog 238 #[.slice a l.length cap,.int .u8 0] w fun e w'=>(∃ p n c,e=.returned (.slice p n c)∧((n:Int)==0)=noughtsB l)∧w=w':=by
 go_enter func238,ntmps238
 refine seqH fun K HK=>?_
 go_wp2
 refine HK.out _ _ ?_
 clear HK
 refine seqH fun K HK=>?_
 go_wp2_with fail
 go_loop [0] (fun s=>∃ (p:Option Addr) (c:Nat) (r:List UInt8),s=.slice p r.length c∧SlB w p c r∧Hid (noughtsB r=noughtsB l)) (fun s=>lenV s)
 case atStart=>exact ⟨a,cap,l,rfl,hs,Lib.hid rfl⟩
 case round=>
  obtain ⟨p,c,r,rfl,hr,hn⟩:=hrel
  have hle:=hr.le
  have hmx:=hr.max
  unfold maxLen at hmx
  cases r with
  | nil=>
   have HN:=Lib.hid (show noughtsB l=true from hn.out.symm)
   clear hn
   go_wp2
   refine HK.out _ _ ?_
   clear HK
   go_wp2
   go_ret
   exact ⟨⟨none,0,0,rfl,by rw [HN.out];rfl⟩,rfl⟩
  | cons x r=>
   obtain ⟨b,off,rfl,hc⟩:=hr.row.byte (i:=0) (by simp)
   simp only [List.getElem_cons_zero,Nat.add_zero] at hc
   simp only [List.length_cons] at hle ⊢
   have hl0:((r.length:Int)+1==0)=false:=by rw [beq_eq_false_iff_ne];omega
   cases hx:x==0
   ·have hx2:((x.toNat:Int)==0)=false:=by rw [byte0,hx]
    have HN:=Lib.hid (show noughtsB l=false by rw [← hn.out,noughts_cons,hx];rfl)
    clear hx hn
    go_wp2
    refine HK.out _ _ ?_
    clear HK
    go_wp2
    go_ret
    exact ⟨⟨some ⟨b,off,none⟩,r.length+1,c,rfl,by rw [HN.out,beq_eq_false_iff_ne];omega⟩,rfl⟩
   ·have hx2:((x.toNat:Int)==0)=true:=by rw [byte0,hx]
    have HN:=Lib.hid (show noughtsB r=noughtsB l by rw [← hn.out,noughts_cons,hx];rfl)
    have ht:=hr.tail
    clear hx hn
    by_cases h1:c=1
    ·subst h1
     obtain rfl:r=[]:=List.eq_nil_of_length_eq_zero (by omega)
     go_wp2
     go_round
     case rel=>exact ⟨some ⟨b,off,none⟩,0,[],by rfl,⟨.inl rfl,by simp,by simp,fun e=>by cases e⟩,HN⟩
     case measure=>simp [lenV]
    ·have h1':¬ c=1:=h1
     go_wp2
     go_round
     case rel=>exact ⟨_,c - 1,r,by rfl,ht,HN⟩
     case measure=>simp [lenV]
end
section
theorem trim_any (a:Option Addr) (cap:Nat) (l:List UInt8) (w:World) (hs:SlB w a cap l):Calls Tryz.prog 236 #[.slice a l.length cap,.string ⟨#[0]⟩] w fun e w'=>(∃ p n c,e=.returned (.slice p n c)∧((n:Int)==0)=noughtsB l)∧Below w.heap.size w w':=by
 cases l with
 | nil=>
  go_enter func236,ntmps236
  go_wp2
  go_ret
  exact ⟨⟨none,0,0,rfl,rfl⟩,Below.refl _ _⟩
 | cons x r=>
  have hl0:((((x :: r).length:Nat):Int)==0)=false:=by rw [beq_eq_false_iff_ne];simp;omega
  have hlp:0 < (x :: r).length:=by simp
  generalize x :: r=l at *
  go_enter func236,ntmps236
  refine seqH fun K HK=>?_
  go_wp2
  refine HK.out _ _ ?_
  clear HK
  refine seqH fun K HK=>?_
  go_wp2
  refine HK.out _ _ ?_
  clear HK
  refine seqH fun K HK=>?_
  go_wp2
  refine HK.out _ _ ?_
  clear HK
  refine seqH fun K HK=>?_
  go_wp2_with fail
  refine wp_region_held_drew (S:=fun _=>True) (by kernel_rfl) trivial (fun hS0=>?_)
  refine tkP 0 rfl ?_
  refine tkP 1 rfl ?_
  refine tkP 2 rfl ?_
  refine tkP 4 rfl ?_
  refine tkP 5 rfl ?_
  refine rdy1 3 rfl (fun K' hK'=>?_)
  go_simp
  have hb0:=(Below.refl w.heap.size w).drew
  generalize w.drew=w0 at *
  have hs0:=hs.below hb0
  refine (trimR_any _ _ _ _ hs0).mono ?_
  rintro e w1 ⟨⟨k,hk,rfl,hn⟩,rfl⟩
  refine hK'.out _ _ trivial (fun _=>?_)
  clear hK'
  (try simp only [Act.put,qa1,qa2,qa3])
  refine rdy1 6 rfl (fun K' hK'=>?_)
  go_simp
  have hs1:=hs0.take k
  have hc:=trimL_any a cap (l.take k) w0 hs1
  rw [List.length_take,Nat.min_eq_left hk] at hc
  refine hc.mono ?_
  rintro e w1 ⟨⟨p,n,c,rfl,hn2⟩,rfl⟩
  have HN:=Lib.hid (hn2.trans hn)
  clear hn hn2
  refine hK'.out _ _ trivial (fun _=>?_)
  clear hK'
  (try simp only [Act.put,qa1,qa2,qa3])
  refine tkP 7 rfl ?_
  refine wpAnyH_done (by kernel_rfl) ?_ _
  go_wp2
  go_ret
  exact ⟨⟨p,n,c,rfl,HN.out⟩,hb0⟩
theorem noughts_any (a:Option Addr) (cap:Nat) (l:List UInt8) (w:World) (hs:SlB w a cap l):Calls Tryz.prog 225 #[.slice a l.length cap] w fun e w'=>e=.returned (.bool (noughtsB l))∧Below w.heap.size w w':=by
 go_enter func225,ntmps225
 go_wp2_with (go_at_call 236;refine (trim_any a cap l _ hs).mono ?_;rintro e w1 ⟨⟨p,n,c,rfl,hn⟩,hb1⟩;have HN:=Lib.hid hn;clear hn)
 go_ret
 exact ⟨ret_bool HN.out,hb1⟩
theorem room_any (n:Nat) (w:World):Calls Tryz.prog 116 #[.int .i64 (n:Int)] w fun e w'=>e=.returned (.int .i64 (roomN (64 * n):Nat))∧w=w':=by
 by_cases h1:n=1
 ·subst h1
  go_enter func116,ntmps116
  go_wp2
  go_ret
  exact ⟨rfl,rfl⟩
 ·by_cases h2:n=2
  ·subst h2
   go_enter func116,ntmps116
   go_wp2
   go_ret
   exact ⟨rfl,rfl⟩
  ·have hr:roomN (64 * n)=0:=by unfold roomN;rw [if_neg (by omega),if_neg (by omega)]
   rw [hr]
   have a1:((n:Int) != 1)=true:=by rw [bne_iff_ne];omega
   have a2:((n:Int) != 2)=true:=by rw [bne_iff_ne];omega
   clear hr
   go_enter func116,ntmps116
   go_wp2
   go_ret
   exact ⟨rfl,rfl⟩
end
end Go.Proofs.YtbdonjenekhmdaaGreatDoor
