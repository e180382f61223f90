/- Texts that the claim leans on, part 11: T3, T4, T5. -/
import Derived.Test.YtbdonjenekhmdaaGreatDoorZ1
import Derived.Test.YtbdonjenekhmdaaGreatDoorZ2
import Derived.Test.YtbdonjenekhmdaaGreatDoorZ3
import Derived.Test.YtbdonjenekhmdaaGreatDoorZ4
import Derived.Test.YtbdonjenekhmdaaGreatDoorZ5
import Derived.Test.YtbdonjenekhmdaaGreatDoorZ6
import Derived.Test.YtbdonjenekhmdaaGreatDoorZ7
import Derived.Test.YtbdonjenekhmdaaGreatDoorZ8
import Derived.Test.YtbdonjenekhmdaaGreatDoorZ9
import Derived.Test.YtbdonjenekhmdaaGreatDoorZ10
namespace Go.Proofs.YtbdonjenekhmdaaGreatDoor
open Go.RowKit Go.Proofs.Tryz
set_option maxRecDepth 100000
set_option maxHeartbeats 32000000
section
theorem step_b3 {w w1 w2:World} (h:Below w.heap.size w w1) (h2:Below w1.heap.size w1 w2):Below w.heap.size w w2:=h.trans (h2.mono h.size)
def outV:Option Nat→Value
 | none=>.int .i64 (-1)
 | some k=>.int .i64 (k:Int)
def fsV (a b:Int):Value:=.agg #[.int .i64 a,.int .i64 b]
theorem fs_at (a b:Int):(∀ w,(Instr.index 292 (fsV a b) (.int .i64 0)).run Tryz.prog w=.ok (.int .i64 a) w)∧∀ w,(Instr.index 292 (fsV a b) (.int .i64 1)).run Tryz.prog w=.ok (.int .i64 b) w:=
 ⟨fun _=>by kernel_rfl,fun _=>by kernel_rfl⟩
def bstS (f:Nat→SCp) (i:Int) (first:Nat) (least:Bal):Nat→Option Nat
 | 0=>none
 | 1=>stepS f i least none first
 | _=>bestS f i first least
section
variable {w:World} {p:SRec} {f:Nat→SCp} {i:Int} {least:Bal} {first k:Nat} {out:Option Nat}
theorem step_a (h:ofS (f k) i=false):stepS f i least out k=out:=by unfold stepS;rw [h];rfl
theorem step_bb (h2:lessB (f k).bal least=true):stepS f i least out k=out:=by unfold stepS;rw [h2];simp
theorem step_n (h1:ofS (f k) i=true) (h2:lessB (f k).bal least=false):stepS f i least none k=some k:=by unfold stepS;rw [h1,h2];rfl
theorem step_y {o:Nat} (h1:ofS (f k) i=true) (h2:lessB (f k).bal least=false) (h3:lessB (f o).bal (f k).bal=true):stepS f i least (some o) k=some k:=by unfold stepS;simp [h1,h2,h3]
theorem step_c {o:Nat} (h3:lessB (f o).bal (f k).bal=false):stepS f i least (some o) k=some o:=by unfold stepS;simp [h3]
theorem step_or (k:Nat):stepS f i least none k=none∨stepS f i least none k=some k:=by
 unfold stepS
 by_cases h:(ofS (f k) i && (!lessB (f k).bal least && true))=true
 ·exact .inr (if_pos h)
 ·exact .inl (if_neg h)
theorem best_f0 (r:Option Nat) (hr:bestS f i 0 least=r) (w:World):Calls Tryz.prog 199 #[.agg (prA p f i),.int .i64 0,.agg (blA least)] w fun e w'=>e=.returned (outV r)∧Below w.heap.size w w':=by
 have hr2:bstS f i 0 least 2=r:=hr
 have HR:=Lib.hid hr2
 clear hr hr2
 have hbp:=blw w (Obj.cells (prA p f i) 234)
 have hb0:=hbp.trans ((blw (w.alloc (Obj.cells (prA p f i) 234)) (Obj.cells (blA least) 69)).mono hbp.size)
 have X:((w.alloc (Obj.cells (prA p f i) 234)).alloc (Obj.cells (blA least) 69)).heap[w.heap.size]?=some (.cells (prA p f i) 234 (0,0)):=tr_al (Obj.cells (blA least) 69) (heap_alloc_new w (Obj.cells (prA p f i) 234))
 have Y:((w.alloc (Obj.cells (prA p f i) 234)).alloc (Obj.cells (blA least) 69)).heap[w.heap.size+1]?=some (.cells (blA least) 69 (0,0)):=by
  have:=heap_alloc_new (w.alloc (Obj.cells (prA p f i) 234)) (Obj.cells (blA least) 69)
  rwa [show (w.alloc (Obj.cells (prA p f i) 234)).heap.size=w.heap.size+1 by simp] at this
 go_enter func199,ntmps199
 refine seqH fun K HK=>?_
 go_wp2
 refine HK.out _ _ ?_
 clear HK
 generalize (w.alloc (Obj.cells (prA p f i) 234)).alloc (Obj.cells (blA least) 69)=w1 at *
 generalize w.heap.size+1=y at *
 clear hbp
 refine seqH fun K HK=>?_
 go_wp2
 refine HK.out _ _ ?_
 clear HK
 refine seqH fun K HK=>?_
 obtain ⟨i0,i1⟩:=fs_at 0 1
 refine seqH fun K HK=>?_
 go_wp2
 refine HK.out _ _ ?_
 clear HK
 rw [show Value.agg #[.int .i64 0,.int .i64 1]=fsV 0 1 from rfl]
 go_wp2
 go_loopw [14,9,7] (fun i' _ o wr=>∃ j:Nat,j≤2∧i'=.int .i64 (j:Nat)∧o=outV (bstS f i 0 least j)∧wr.heap[w.heap.size]?=some (.cells (prA p f i) 234 (0,0))∧wr.heap[y]?=some (.cells (blA least) 69 (0,0))∧Below w.heap.size w wr) (fun i' _ _ _=>2 - (intOf i').toNat)
 case atStart=>exact ⟨0,by omega,rfl,rfl,X,Y,hb0⟩
 case round=>
  clear X Y hb0
  obtain ⟨j,hj,rfl,rfl,X1,Y1,hbw⟩:=hrel
  rcases (show j=0∨j=1∨j=2 by omega) with rfl | rfl | rfl
  ·have HST:Hid (bstS f i 0 least 1=stepS f i least none 0):=Lib.hid rfl
   rw [show bstS f i 0 least 0=none from rfl]
   unfold outV
   simp only
   cases h1:ofS (f 0) i
   case false=>
    have hof:=fun w=>of_any2 (p:=p) 0 (by omega) _ h1 w
    have hres:=step_a (least:=least) (out:=none) h1
    have HRS:=Lib.hid hres
    clear hres h1
    refine seqH fun K HK=>?_
    go_wp2
    refine HK.out _ _ ?_
    clear HK
    refine seqH fun K HK=>?_
    go_wp2
    refine HK.out _ _ ?_
    clear HK
    refine seqH fun K HKB=>?_
    refine wp_block ?_
    refine seqH fun K HK=>?_
    go_wp2
    refine HK.out _ _ ?_
    clear HK
    refine seqH fun K HK2=>?_
    go_wp2_with fail
    refine wp_region_cls (C:=fun w'=>Below wr.heap.size wr w') (by kernel_rfl) (by kernel_rfl) (Below.refl _ _).drew ?_
    refine wpQuiet_val (by rfl) (.agg (prA p f i)) (fun wS hSw=>exec_ldB 234 _ ⟨_,_,_,_,_,isAgg234,sizeOf234,rfl,tr_bl hSw X1,arr_all rfl⟩) ?_
    (try simp only [Act.put,qa1,qa2,qa3])
    refine qvP ?_
    refine wpQuiet_gen (by rfl) (.bool false) (fun wS hSw=>?_) ?_
    ·unfold Oper.quietAt
     go_simp
     (try refine ⟨rfl,?_⟩)
     exact (hof _).mono fun _ _ h=>⟨h.1,step_b3 hSw h.2⟩
    (try simp only [Act.put,qa1,qa2,qa3])
    refine qvP ?_
    iterate 8
     (try simp only [Act.put,qa1,qa2,qa3])
     with_reducible refine wpQuiet_skip ?_ ?_
     ·rfl
    iterate 2
     (try simp only [Act.put,qa1,qa2,qa3])
     refine qvP ?_
    iterate 15
     (try simp only [Act.put,qa1,qa2,qa3])
     with_reducible refine wpQuiet_skip ?_ ?_
     ·rfl
    (try simp only [Act.put,qa1,qa2,qa3])
    refine qvP ?_
    refine wpQuiet_nil ?_
    intro wE hE
    refine HK2.out _ _ ?_
    clear HK2
    have X2:=tr_bl hE X1
    have Y2:=tr_bl hE Y1
    have hbe:=hbw.trans (hE.mono hbw.size)
    go_wp2
    (try simp only [Exit.inBlock,Exit.then])
    refine HKB.out _ _ ?_
    clear HKB
    go_wp2
    go_roundw
    case rel=>exact ⟨1,by omega,by rfl,by first | (rw [HST.out,HRS.out];done) | (rw [HST.out,HRS.out];rfl),X2,Y2,hbe⟩
    case measure=>simp [intOf]
   case true=>
    have hof:=fun w=>of_any2 (p:=p) 0 (by omega) _ h1 w
    cases h2:lessB (f 0).bal least
    case true=>
     have hl1:=fun w=>less_any (f 0).bal least _ h2 w
     have hres:=step_bb (f:=f) (i:=i) (out:=none) h2
     have HRS:=Lib.hid hres
     clear hres h1 h2
     refine seqH fun K HK=>?_
     go_wp2
     refine HK.out _ _ ?_
     clear HK
     refine seqH fun K HK=>?_
     go_wp2
     refine HK.out _ _ ?_
     clear HK
     refine seqH fun K HKB=>?_
     refine wp_block ?_
     refine seqH fun K HK=>?_
     go_wp2
     refine HK.out _ _ ?_
     clear HK
     refine seqH fun K HK2=>?_
     go_wp2_with fail
     refine wp_region_cls (C:=fun w'=>Below wr.heap.size wr w') (by kernel_rfl) (by kernel_rfl) (Below.refl _ _).drew ?_
     refine wpQuiet_val (by rfl) (.agg (prA p f i)) (fun wS hSw=>exec_ldB 234 _ ⟨_,_,_,_,_,isAgg234,sizeOf234,rfl,tr_bl hSw X1,arr_all rfl⟩) ?_
     (try simp only [Act.put,qa1,qa2,qa3])
     refine qvP ?_
     refine wpQuiet_gen (by rfl) (.bool true) (fun wS hSw=>?_) ?_
     ·unfold Oper.quietAt
      go_simp
      (try refine ⟨rfl,?_⟩)
      exact (hof _).mono fun _ _ h=>⟨h.1,step_b3 hSw h.2⟩
     iterate 5
      (try simp only [Act.put,qa1,qa2,qa3])
      refine qvP ?_
     (try simp only [Act.put,qa1,qa2,qa3])
     refine wpQuiet_val (by rfl) (.agg (blA (f 0).bal)) (fun wS hSw=>exec_ldB 69 _ ⟨_,_,_,_,_,isAgg69,sizeOf69,rfl,tr_bl hSw X1,pr_balA⟩) ?_
     (try simp only [Act.put,qa1,qa2,qa3])
     refine wpQuiet_val (by rfl) (.agg (blA least)) (fun wS hSw=>exec_ldB 69 _ ⟨_,_,_,_,_,isAgg69,sizeOf69,rfl,tr_bl hSw Y1,arr_all rfl⟩) ?_
     (try simp only [Act.put,qa1,qa2,qa3])
     refine wpQuiet_gen (by rfl) (.bool true) (fun wS hSw=>?_) ?_
     ·unfold Oper.quietAt
      go_simp
      (try refine ⟨rfl,?_⟩)
      exact (hl1 _).mono fun _ _ h=>⟨h.1,step_b3 hSw h.2⟩
     iterate 3
      (try simp only [Act.put,qa1,qa2,qa3])
      refine qvP ?_
     iterate 15
      (try simp only [Act.put,qa1,qa2,qa3])
      with_reducible refine wpQuiet_skip ?_ ?_
      ·rfl
     (try simp only [Act.put,qa1,qa2,qa3])
     refine qvP ?_
     refine wpQuiet_nil ?_
     intro wE hE
     refine HK2.out _ _ ?_
     clear HK2
     have X2:=tr_bl hE X1
     have Y2:=tr_bl hE Y1
     have hbe:=hbw.trans (hE.mono hbw.size)
     go_wp2
     (try simp only [Exit.inBlock,Exit.then])
     refine HKB.out _ _ ?_
     clear HKB
     go_wp2
     go_roundw
     case rel=>exact ⟨1,by omega,by rfl,by first | (rw [HST.out,HRS.out];done) | (rw [HST.out,HRS.out];rfl),X2,Y2,hbe⟩
     case measure=>simp [intOf]
    case false=>
     have hl1:=fun w=>less_any (f 0).bal least _ h2 w
     have hres:=step_n h1 h2
     have HRS:=Lib.hid hres
     clear hres h1 h2
     refine seqH fun K HK=>?_
     go_wp2
     refine HK.out _ _ ?_
     clear HK
     refine seqH fun K HK=>?_
     go_wp2
     refine HK.out _ _ ?_
     clear HK
     refine seqH fun K HKB=>?_
     refine wp_block ?_
     refine seqH fun K HK=>?_
     go_wp2
     refine HK.out _ _ ?_
     clear HK
     refine seqH fun K HK2=>?_
     go_wp2_with fail
     refine wp_region_cls (C:=fun w'=>Below wr.heap.size wr w') (by kernel_rfl) (by kernel_rfl) (Below.refl _ _).drew ?_
     refine wpQuiet_val (by rfl) (.agg (prA p f i)) (fun wS hSw=>exec_ldB 234 _ ⟨_,_,_,_,_,isAgg234,sizeOf234,rfl,tr_bl hSw X1,arr_all rfl⟩) ?_
     (try simp only [Act.put,qa1,qa2,qa3])
     refine qvP ?_
     refine wpQuiet_gen (by rfl) (.bool true) (fun wS hSw=>?_) ?_
     ·unfold Oper.quietAt
      go_simp
      (try refine ⟨rfl,?_⟩)
      exact (hof _).mono fun _ _ h=>⟨h.1,step_b3 hSw h.2⟩
     iterate 5
      (try simp only [Act.put,qa1,qa2,qa3])
      refine qvP ?_
     (try simp only [Act.put,qa1,qa2,qa3])
     refine wpQuiet_val (by rfl) (.agg (blA (f 0).bal)) (fun wS hSw=>exec_ldB 69 _ ⟨_,_,_,_,_,isAgg69,sizeOf69,rfl,tr_bl hSw X1,pr_balA⟩) ?_
     (try simp only [Act.put,qa1,qa2,qa3])
     refine wpQuiet_val (by rfl) (.agg (blA least)) (fun wS hSw=>exec_ldB 69 _ ⟨_,_,_,_,_,isAgg69,sizeOf69,rfl,tr_bl hSw Y1,arr_all rfl⟩) ?_
     (try simp only [Act.put,qa1,qa2,qa3])
     refine wpQuiet_gen (by rfl) (.bool false) (fun wS hSw=>?_) ?_
     ·unfold Oper.quietAt
      go_simp
      (try refine ⟨rfl,?_⟩)
      exact (hl1 _).mono fun _ _ h=>⟨h.1,step_b3 hSw h.2⟩
     iterate 6
      (try simp only [Act.put,qa1,qa2,qa3])
      refine qvP ?_
     iterate 11
      (try simp only [Act.put,qa1,qa2,qa3])
      with_reducible refine wpQuiet_skip ?_ ?_
      ·rfl
     iterate 2
      (try simp only [Act.put,qa1,qa2,qa3])
      refine qvP ?_
     (try simp only [Act.put,qa1,qa2,qa3])
     refine wpQuiet_nil ?_
     intro wE hE
     refine HK2.out _ _ ?_
     clear HK2
     have X2:=tr_bl hE X1
     have Y2:=tr_bl hE Y1
     have hbe:=hbw.trans (hE.mono hbw.size)
     go_wp2
     (try simp only [Exit.inBlock,Exit.then])
     refine HKB.out _ _ ?_
     clear HKB
     go_wp2
     go_roundw
     case rel=>exact ⟨1,by omega,by rfl,by first | (rw [HST.out,HRS.out];done) | (rw [HST.out,HRS.out];rfl),X2,Y2,hbe⟩
     case measure=>simp [intOf]
  ·have HST:Hid (bstS f i 0 least 2=stepS f i least (bstS f i 0 least 1) 1):=Lib.hid rfl
   rcases (show bstS f i 0 least 1=none∨bstS f i 0 least 1=some 0 from step_or 0) with ho | ho
   ·rw [ho] at HST ⊢
    clear ho
    unfold outV
    simp only
    cases h1:ofS (f 1) i
    case false=>
     have hof:=fun w=>of_any2 (p:=p) 1 (by omega) _ h1 w
     have hres:=step_a (least:=least) (out:=none) h1
     have HRS:=Lib.hid hres
     clear hres h1
     refine seqH fun K HK=>?_
     go_wp2
     refine HK.out _ _ ?_
     clear HK
     refine seqH fun K HK=>?_
     go_wp2
     refine HK.out _ _ ?_
     clear HK
     refine seqH fun K HKB=>?_
     refine wp_block ?_
     refine seqH fun K HK=>?_
     go_wp2
     refine HK.out _ _ ?_
     clear HK
     refine seqH fun K HK2=>?_
     go_wp2_with fail
     refine wp_region_cls (C:=fun w'=>Below wr.heap.size wr w') (by kernel_rfl) (by kernel_rfl) (Below.refl _ _).drew ?_
     refine wpQuiet_val (by rfl) (.agg (prA p f i)) (fun wS hSw=>exec_ldB 234 _ ⟨_,_,_,_,_,isAgg234,sizeOf234,rfl,tr_bl hSw X1,arr_all rfl⟩) ?_
     (try simp only [Act.put,qa1,qa2,qa3])
     refine qvP ?_
     refine wpQuiet_gen (by rfl) (.bool false) (fun wS hSw=>?_) ?_
     ·unfold Oper.quietAt
      go_simp
      (try refine ⟨rfl,?_⟩)
      exact (hof _).mono fun _ _ h=>⟨h.1,step_b3 hSw h.2⟩
     (try simp only [Act.put,qa1,qa2,qa3])
     refine qvP ?_
     iterate 8
      (try simp only [Act.put,qa1,qa2,qa3])
      with_reducible refine wpQuiet_skip ?_ ?_
      ·rfl
     iterate 2
      (try simp only [Act.put,qa1,qa2,qa3])
      refine qvP ?_
     iterate 15
      (try simp only [Act.put,qa1,qa2,qa3])
      with_reducible refine wpQuiet_skip ?_ ?_
      ·rfl
     (try simp only [Act.put,qa1,qa2,qa3])
     refine qvP ?_
     refine wpQuiet_nil ?_
     intro wE hE
     refine HK2.out _ _ ?_
     clear HK2
     have X2:=tr_bl hE X1
     have Y2:=tr_bl hE Y1
     have hbe:=hbw.trans (hE.mono hbw.size)
     go_wp2
     (try simp only [Exit.inBlock,Exit.then])
     refine HKB.out _ _ ?_
     clear HKB
     go_wp2
     go_roundw
     case rel=>exact ⟨2,by omega,by rfl,by first | (rw [HST.out,HRS.out];done) | (rw [HST.out,HRS.out];rfl),X2,Y2,hbe⟩
     case measure=>simp [intOf]
    case true=>
     have hof:=fun w=>of_any2 (p:=p) 1 (by omega) _ h1 w
     cases h2:lessB (f 1).bal least
     case true=>
      have hl1:=fun w=>less_any (f 1).bal least _ h2 w
      have hres:=step_bb (f:=f) (i:=i) (out:=none) h2
      have HRS:=Lib.hid hres
      clear hres h1 h2
      refine seqH fun K HK=>?_
      go_wp2
      refine HK.out _ _ ?_
      clear HK
      refine seqH fun K HK=>?_
      go_wp2
      refine HK.out _ _ ?_
      clear HK
      refine seqH fun K HKB=>?_
      refine wp_block ?_
      refine seqH fun K HK=>?_
      go_wp2
      refine HK.out _ _ ?_
      clear HK
      refine seqH fun K HK2=>?_
      go_wp2_with fail
      refine wp_region_cls (C:=fun w'=>Below wr.heap.size wr w') (by kernel_rfl) (by kernel_rfl) (Below.refl _ _).drew ?_
      refine wpQuiet_val (by rfl) (.agg (prA p f i)) (fun wS hSw=>exec_ldB 234 _ ⟨_,_,_,_,_,isAgg234,sizeOf234,rfl,tr_bl hSw X1,arr_all rfl⟩) ?_
      (try simp only [Act.put,qa1,qa2,qa3])
      refine qvP ?_
      refine wpQuiet_gen (by rfl) (.bool true) (fun wS hSw=>?_) ?_
      ·unfold Oper.quietAt
       go_simp
       (try refine ⟨rfl,?_⟩)
       exact (hof _).mono fun _ _ h=>⟨h.1,step_b3 hSw h.2⟩
      iterate 5
       (try simp only [Act.put,qa1,qa2,qa3])
       refine qvP ?_
      (try simp only [Act.put,qa1,qa2,qa3])
      refine wpQuiet_val (by rfl) (.agg (blA (f 1).bal)) (fun wS hSw=>exec_ldB 69 _ ⟨_,_,_,_,_,isAgg69,sizeOf69,rfl,tr_bl hSw X1,pr_balB⟩) ?_
      (try simp only [Act.put,qa1,qa2,qa3])
      refine wpQuiet_val (by rfl) (.agg (blA least)) (fun wS hSw=>exec_ldB 69 _ ⟨_,_,_,_,_,isAgg69,sizeOf69,rfl,tr_bl hSw Y1,arr_all rfl⟩) ?_
      (try simp only [Act.put,qa1,qa2,qa3])
      refine wpQuiet_gen (by rfl) (.bool true) (fun wS hSw=>?_) ?_
      ·unfold Oper.quietAt
       go_simp
       (try refine ⟨rfl,?_⟩)
       exact (hl1 _).mono fun _ _ h=>⟨h.1,step_b3 hSw h.2⟩
      iterate 3
       (try simp only [Act.put,qa1,qa2,qa3])
       refine qvP ?_
      iterate 15
       (try simp only [Act.put,qa1,qa2,qa3])
       with_reducible refine wpQuiet_skip ?_ ?_
       ·rfl
      (try simp only [Act.put,qa1,qa2,qa3])
      refine qvP ?_
      refine wpQuiet_nil ?_
      intro wE hE
      refine HK2.out _ _ ?_
      clear HK2
      have X2:=tr_bl hE X1
      have Y2:=tr_bl hE Y1
      have hbe:=hbw.trans (hE.mono hbw.size)
      go_wp2
      (try simp only [Exit.inBlock,Exit.then])
      refine HKB.out _ _ ?_
      clear HKB
      go_wp2
      go_roundw
      case rel=>exact ⟨2,by omega,by rfl,by first | (rw [HST.out,HRS.out];done) | (rw [HST.out,HRS.out];rfl),X2,Y2,hbe⟩
      case measure=>simp [intOf]
     case false=>
      have hl1:=fun w=>less_any (f 1).bal least _ h2 w
      have hres:=step_n h1 h2
      have HRS:=Lib.hid hres
      clear hres h1 h2
      refine seqH fun K HK=>?_
      go_wp2
      refine HK.out _ _ ?_
      clear HK
      refine seqH fun K HK=>?_
      go_wp2
      refine HK.out _ _ ?_
      clear HK
      refine seqH fun K HKB=>?_
      refine wp_block ?_
      refine seqH fun K HK=>?_
      go_wp2
      refine HK.out _ _ ?_
      clear HK
      refine seqH fun K HK2=>?_
      go_wp2_with fail
      refine wp_region_cls (C:=fun w'=>Below wr.heap.size wr w') (by kernel_rfl) (by kernel_rfl) (Below.refl _ _).drew ?_
      refine wpQuiet_val (by rfl) (.agg (prA p f i)) (fun wS hSw=>exec_ldB 234 _ ⟨_,_,_,_,_,isAgg234,sizeOf234,rfl,tr_bl hSw X1,arr_all rfl⟩) ?_
      (try simp only [Act.put,qa1,qa2,qa3])
      refine qvP ?_
      refine wpQuiet_gen (by rfl) (.bool true) (fun wS hSw=>?_) ?_
      ·unfold Oper.quietAt
       go_simp
       (try refine ⟨rfl,?_⟩)
       exact (hof _).mono fun _ _ h=>⟨h.1,step_b3 hSw h.2⟩
      iterate 5
       (try simp only [Act.put,qa1,qa2,qa3])
       refine qvP ?_
      (try simp only [Act.put,qa1,qa2,qa3])
      refine wpQuiet_val (by rfl) (.agg (blA (f 1).bal)) (fun wS hSw=>exec_ldB 69 _ ⟨_,_,_,_,_,isAgg69,sizeOf69,rfl,tr_bl hSw X1,pr_balB⟩) ?_
      (try simp only [Act.put,qa1,qa2,qa3])
      refine wpQuiet_val (by rfl) (.agg (blA least)) (fun wS hSw=>exec_ldB 69 _ ⟨_,_,_,_,_,isAgg69,sizeOf69,rfl,tr_bl hSw Y1,arr_all rfl⟩) ?_
      (try simp only [Act.put,qa1,qa2,qa3])
      refine wpQuiet_gen (by rfl) (.bool false) (fun wS hSw=>?_) ?_
      ·unfold Oper.quietAt
       go_simp
       (try refine ⟨rfl,?_⟩)
       exact (hl1 _).mono fun _ _ h=>⟨h.1,step_b3 hSw h.2⟩
      iterate 6
       (try simp only [Act.put,qa1,qa2,qa3])
       refine qvP ?_
      iterate 11
       (try simp only [Act.put,qa1,qa2,qa3])
       with_reducible refine wpQuiet_skip ?_ ?_
       ·rfl
      iterate 2
       (try simp only [Act.put,qa1,qa2,qa3])
       refine qvP ?_
      (try simp only [Act.put,qa1,qa2,qa3])
      refine wpQuiet_nil ?_
      intro wE hE
      refine HK2.out _ _ ?_
      clear HK2
      have X2:=tr_bl hE X1
      have Y2:=tr_bl hE Y1
      have hbe:=hbw.trans (hE.mono hbw.size)
      go_wp2
      (try simp only [Exit.inBlock,Exit.then])
      refine HKB.out _ _ ?_
      clear HKB
      go_wp2
      go_roundw
      case rel=>exact ⟨2,by omega,by rfl,by first | (rw [HST.out,HRS.out];done) | (rw [HST.out,HRS.out];rfl),X2,Y2,hbe⟩
      case measure=>simp [intOf]
   ·rw [ho] at HST ⊢
    clear ho
    unfold outV
    simp only
    cases h1:ofS (f 1) i
    case false=>
     have hof:=fun w=>of_any2 (p:=p) 1 (by omega) _ h1 w
     have hres:=step_a (least:=least) (out:=some 0) h1
     have HRS:=Lib.hid hres
     clear hres h1
     refine seqH fun K HK=>?_
     go_wp2
     refine HK.out _ _ ?_
     clear HK
     refine seqH fun K HK=>?_
     go_wp2
     refine HK.out _ _ ?_
     clear HK
     refine seqH fun K HKB=>?_
     refine wp_block ?_
     refine seqH fun K HK=>?_
     go_wp2
     refine HK.out _ _ ?_
     clear HK
     refine seqH fun K HK2=>?_
     go_wp2_with fail
     refine wp_region_cls (C:=fun w'=>Below wr.heap.size wr w') (by kernel_rfl) (by kernel_rfl) (Below.refl _ _).drew ?_
     refine wpQuiet_val (by rfl) (.agg (prA p f i)) (fun wS hSw=>exec_ldB 234 _ ⟨_,_,_,_,_,isAgg234,sizeOf234,rfl,tr_bl hSw X1,arr_all rfl⟩) ?_
     (try simp only [Act.put,qa1,qa2,qa3])
     refine qvP ?_
     refine wpQuiet_gen (by rfl) (.bool false) (fun wS hSw=>?_) ?_
     ·unfold Oper.quietAt
      go_simp
      (try refine ⟨rfl,?_⟩)
      exact (hof _).mono fun _ _ h=>⟨h.1,step_b3 hSw h.2⟩
     (try simp only [Act.put,qa1,qa2,qa3])
     refine qvP ?_
     iterate 8
      (try simp only [Act.put,qa1,qa2,qa3])
      with_reducible refine wpQuiet_skip ?_ ?_
      ·rfl
     iterate 2
      (try simp only [Act.put,qa1,qa2,qa3])
      refine qvP ?_
     iterate 15
      (try simp only [Act.put,qa1,qa2,qa3])
      with_reducible refine wpQuiet_skip ?_ ?_
      ·rfl
     (try simp only [Act.put,qa1,qa2,qa3])
     refine qvP ?_
     refine wpQuiet_nil ?_
     intro wE hE
     refine HK2.out _ _ ?_
     clear HK2
     have X2:=tr_bl hE X1
     have Y2:=tr_bl hE Y1
     have hbe:=hbw.trans (hE.mono hbw.size)
     go_wp2
     (try simp only [Exit.inBlock,Exit.then])
     refine HKB.out _ _ ?_
     clear HKB
     go_wp2
     go_roundw
     case rel=>exact ⟨2,by omega,by rfl,by first | (rw [HST.out,HRS.out];done) | (rw [HST.out,HRS.out];rfl),X2,Y2,hbe⟩
     case measure=>simp [intOf]
    case true=>
     have hof:=fun w=>of_any2 (p:=p) 1 (by omega) _ h1 w
     cases h2:lessB (f 1).bal least
     case true=>
      have hl1:=fun w=>less_any (f 1).bal least _ h2 w
      have hres:=step_bb (f:=f) (i:=i) (out:=some 0) h2
      have HRS:=Lib.hid hres
      clear hres h1 h2
      refine seqH fun K HK=>?_
      go_wp2
      refine HK.out _ _ ?_
      clear HK
      refine seqH fun K HK=>?_
      go_wp2
      refine HK.out _ _ ?_
      clear HK
      refine seqH fun K HKB=>?_
      refine wp_block ?_
      refine seqH fun K HK=>?_
      go_wp2
      refine HK.out _ _ ?_
      clear HK
      refine seqH fun K HK2=>?_
      go_wp2_with fail
      refine wp_region_cls (C:=fun w'=>Below wr.heap.size wr w') (by kernel_rfl) (by kernel_rfl) (Below.refl _ _).drew ?_
      refine wpQuiet_val (by rfl) (.agg (prA p f i)) (fun wS hSw=>exec_ldB 234 _ ⟨_,_,_,_,_,isAgg234,sizeOf234,rfl,tr_bl hSw X1,arr_all rfl⟩) ?_
      (try simp only [Act.put,qa1,qa2,qa3])
      refine qvP ?_
      refine wpQuiet_gen (by rfl) (.bool true) (fun wS hSw=>?_) ?_
      ·unfold Oper.quietAt
       go_simp
       (try refine ⟨rfl,?_⟩)
       exact (hof _).mono fun _ _ h=>⟨h.1,step_b3 hSw h.2⟩
      iterate 5
       (try simp only [Act.put,qa1,qa2,qa3])
       refine qvP ?_
      (try simp only [Act.put,qa1,qa2,qa3])
      refine wpQuiet_val (by rfl) (.agg (blA (f 1).bal)) (fun wS hSw=>exec_ldB 69 _ ⟨_,_,_,_,_,isAgg69,sizeOf69,rfl,tr_bl hSw X1,pr_balB⟩) ?_
      (try simp only [Act.put,qa1,qa2,qa3])
      refine wpQuiet_val (by rfl) (.agg (blA least)) (fun wS hSw=>exec_ldB 69 _ ⟨_,_,_,_,_,isAgg69,sizeOf69,rfl,tr_bl hSw Y1,arr_all rfl⟩) ?_
      (try simp only [Act.put,qa1,qa2,qa3])
      refine wpQuiet_gen (by rfl) (.bool true) (fun wS hSw=>?_) ?_
      ·unfold Oper.quietAt
       go_simp
       (try refine ⟨rfl,?_⟩)
       exact (hl1 _).mono fun _ _ h=>⟨h.1,step_b3 hSw h.2⟩
      iterate 3
       (try simp only [Act.put,qa1,qa2,qa3])
       refine qvP ?_
      iterate 15
       (try simp only [Act.put,qa1,qa2,qa3])
       with_reducible refine wpQuiet_skip ?_ ?_
       ·rfl
      (try simp only [Act.put,qa1,qa2,qa3])
      refine qvP ?_
      refine wpQuiet_nil ?_
      intro wE hE
      refine HK2.out _ _ ?_
      clear HK2
      have X2:=tr_bl hE X1
      have Y2:=tr_bl hE Y1
      have hbe:=hbw.trans (hE.mono hbw.size)
      go_wp2
      (try simp only [Exit.inBlock,Exit.then])
      refine HKB.out _ _ ?_
      clear HKB
      go_wp2
      go_roundw
      case rel=>exact ⟨2,by omega,by rfl,by first | (rw [HST.out,HRS.out];done) | (rw [HST.out,HRS.out];rfl),X2,Y2,hbe⟩
      case measure=>simp [intOf]
     case false=>
      have hl1:=fun w=>less_any (f 1).bal least _ h2 w
      cases h3:lessB (f 0).bal (f 1).bal
      case true=>
       have hl2:=fun w=>less_any (f 0).bal (f 1).bal _ h3 w
       have hres:=step_y h1 h2 h3
       have HRS:=Lib.hid hres
       clear hres h1 h2 h3
       refine seqH fun K HK=>?_
       go_wp2
       refine HK.out _ _ ?_
       clear HK
       refine seqH fun K HK=>?_
       go_wp2
       refine HK.out _ _ ?_
       clear HK
       refine seqH fun K HKB=>?_
       refine wp_block ?_
       refine seqH fun K HK=>?_
       go_wp2
       refine HK.out _ _ ?_
       clear HK
       refine seqH fun K HK2=>?_
       go_wp2_with fail
       refine wp_region_cls (C:=fun w'=>Below wr.heap.size wr w') (by kernel_rfl) (by kernel_rfl) (Below.refl _ _).drew ?_
       refine wpQuiet_val (by rfl) (.agg (prA p f i)) (fun wS hSw=>exec_ldB 234 _ ⟨_,_,_,_,_,isAgg234,sizeOf234,rfl,tr_bl hSw X1,arr_all rfl⟩) ?_
       (try simp only [Act.put,qa1,qa2,qa3])
       refine qvP ?_
       refine wpQuiet_gen (by rfl) (.bool true) (fun wS hSw=>?_) ?_
       ·unfold Oper.quietAt
        go_simp
        (try refine ⟨rfl,?_⟩)
        exact (hof _).mono fun _ _ h=>⟨h.1,step_b3 hSw h.2⟩
       iterate 5
        (try simp only [Act.put,qa1,qa2,qa3])
        refine qvP ?_
       (try simp only [Act.put,qa1,qa2,qa3])
       refine wpQuiet_val (by rfl) (.agg (blA (f 1).bal)) (fun wS hSw=>exec_ldB 69 _ ⟨_,_,_,_,_,isAgg69,sizeOf69,rfl,tr_bl hSw X1,pr_balB⟩) ?_
       (try simp only [Act.put,qa1,qa2,qa3])
       refine wpQuiet_val (by rfl) (.agg (blA least)) (fun wS hSw=>exec_ldB 69 _ ⟨_,_,_,_,_,isAgg69,sizeOf69,rfl,tr_bl hSw Y1,arr_all rfl⟩) ?_
       (try simp only [Act.put,qa1,qa2,qa3])
       refine wpQuiet_gen (by rfl) (.bool false) (fun wS hSw=>?_) ?_
       ·unfold Oper.quietAt
        go_simp
        (try refine ⟨rfl,?_⟩)
        exact (hl1 _).mono fun _ _ h=>⟨h.1,step_b3 hSw h.2⟩
       iterate 10
        (try simp only [Act.put,qa1,qa2,qa3])
        refine qvP ?_
       (try simp only [Act.put,qa1,qa2,qa3])
       refine wpQuiet_val (by rfl) (.agg (blA (f 0).bal)) (fun wS hSw=>exec_ldB 69 _ ⟨_,_,_,_,_,isAgg69,sizeOf69,rfl,tr_bl hSw X1,pr_balA⟩) ?_
       iterate 4
        (try simp only [Act.put,qa1,qa2,qa3])
        refine qvP ?_
       (try simp only [Act.put,qa1,qa2,qa3])
       refine wpQuiet_val (by rfl) (.agg (blA (f 1).bal)) (fun wS hSw=>exec_ldB 69 _ ⟨_,_,_,_,_,isAgg69,sizeOf69,rfl,tr_bl hSw X1,pr_balB⟩) ?_
       (try simp only [Act.put,qa1,qa2,qa3])
       refine wpQuiet_gen (by rfl) (.bool true) (fun wS hSw=>?_) ?_
       ·unfold Oper.quietAt
        go_simp
        (try refine ⟨rfl,?_⟩)
        exact (hl2 _).mono fun _ _ h=>⟨h.1,step_b3 hSw h.2⟩
       iterate 2
        (try simp only [Act.put,qa1,qa2,qa3])
        refine qvP ?_
       (try simp only [Act.put,qa1,qa2,qa3])
       refine wpQuiet_nil ?_
       intro wE hE
       refine HK2.out _ _ ?_
       clear HK2
       have X2:=tr_bl hE X1
       have Y2:=tr_bl hE Y1
       have hbe:=hbw.trans (hE.mono hbw.size)
       go_wp2
       (try simp only [Exit.inBlock,Exit.then])
       refine HKB.out _ _ ?_
       clear HKB
       go_wp2
       go_roundw
       case rel=>exact ⟨2,by omega,by rfl,by first | (rw [HST.out,HRS.out];done) | (rw [HST.out,HRS.out];rfl),X2,Y2,hbe⟩
       case measure=>simp [intOf]
      case false=>
       have hl2:=fun w=>less_any (f 0).bal (f 1).bal _ h3 w
       have hres:=step_c (i:=i) (least:=least) h3
       have HRS:=Lib.hid hres
       clear hres h1 h2 h3
       refine seqH fun K HK=>?_
       go_wp2
       refine HK.out _ _ ?_
       clear HK
       refine seqH fun K HK=>?_
       go_wp2
       refine HK.out _ _ ?_
       clear HK
       refine seqH fun K HKB=>?_
       refine wp_block ?_
       refine seqH fun K HK=>?_
       go_wp2
       refine HK.out _ _ ?_
       clear HK
       refine seqH fun K HK2=>?_
       go_wp2_with fail
       refine wp_region_cls (C:=fun w'=>Below wr.heap.size wr w') (by kernel_rfl) (by kernel_rfl) (Below.refl _ _).drew ?_
       refine wpQuiet_val (by rfl) (.agg (prA p f i)) (fun wS hSw=>exec_ldB 234 _ ⟨_,_,_,_,_,isAgg234,sizeOf234,rfl,tr_bl hSw X1,arr_all rfl⟩) ?_
       (try simp only [Act.put,qa1,qa2,qa3])
       refine qvP ?_
       refine wpQuiet_gen (by rfl) (.bool true) (fun wS hSw=>?_) ?_
       ·unfold Oper.quietAt
        go_simp
        (try refine ⟨rfl,?_⟩)
        exact (hof _).mono fun _ _ h=>⟨h.1,step_b3 hSw h.2⟩
       iterate 5
        (try simp only [Act.put,qa1,qa2,qa3])
        refine qvP ?_
       (try simp only [Act.put,qa1,qa2,qa3])
       refine wpQuiet_val (by rfl) (.agg (blA (f 1).bal)) (fun wS hSw=>exec_ldB 69 _ ⟨_,_,_,_,_,isAgg69,sizeOf69,rfl,tr_bl hSw X1,pr_balB⟩) ?_
       (try simp only [Act.put,qa1,qa2,qa3])
       refine wpQuiet_val (by rfl) (.agg (blA least)) (fun wS hSw=>exec_ldB 69 _ ⟨_,_,_,_,_,isAgg69,sizeOf69,rfl,tr_bl hSw Y1,arr_all rfl⟩) ?_
       (try simp only [Act.put,qa1,qa2,qa3])
       refine wpQuiet_gen (by rfl) (.bool false) (fun wS hSw=>?_) ?_
       ·unfold Oper.quietAt
        go_simp
        (try refine ⟨rfl,?_⟩)
        exact (hl1 _).mono fun _ _ h=>⟨h.1,step_b3 hSw h.2⟩
       iterate 10
        (try simp only [Act.put,qa1,qa2,qa3])
        refine qvP ?_
       (try simp only [Act.put,qa1,qa2,qa3])
       refine wpQuiet_val (by rfl) (.agg (blA (f 0).bal)) (fun wS hSw=>exec_ldB 69 _ ⟨_,_,_,_,_,isAgg69,sizeOf69,rfl,tr_bl hSw X1,pr_balA⟩) ?_
       iterate 4
        (try simp only [Act.put,qa1,qa2,qa3])
        refine qvP ?_
       (try simp only [Act.put,qa1,qa2,qa3])
       refine wpQuiet_val (by rfl) (.agg (blA (f 1).bal)) (fun wS hSw=>exec_ldB 69 _ ⟨_,_,_,_,_,isAgg69,sizeOf69,rfl,tr_bl hSw X1,pr_balB⟩) ?_
       (try simp only [Act.put,qa1,qa2,qa3])
       refine wpQuiet_gen (by rfl) (.bool false) (fun wS hSw=>?_) ?_
       ·unfold Oper.quietAt
        go_simp
        (try refine ⟨rfl,?_⟩)
        exact (hl2 _).mono fun _ _ h=>⟨h.1,step_b3 hSw h.2⟩
       iterate 2
        (try simp only [Act.put,qa1,qa2,qa3])
        refine qvP ?_
       (try simp only [Act.put,qa1,qa2,qa3])
       refine wpQuiet_nil ?_
       intro wE hE
       refine HK2.out _ _ ?_
       clear HK2
       have X2:=tr_bl hE X1
       have Y2:=tr_bl hE Y1
       have hbe:=hbw.trans (hE.mono hbw.size)
       go_wp2
       (try simp only [Exit.inBlock,Exit.then])
       refine HKB.out _ _ ?_
       clear HKB
       go_wp2
       go_roundw
       case rel=>exact ⟨2,by omega,by rfl,by first | (rw [HST.out,HRS.out];done) | (rw [HST.out,HRS.out];rfl),X2,Y2,hbe⟩
       case measure=>simp [intOf]
  ·rw [HR.out]
   go_wp2
   refine HK.out _ _ ?_
   clear HK
   go_wp2
   go_ret
   exact ⟨rfl,hbw⟩
theorem best_f1 (r:Option Nat) (hr:bestS f i 1 least=r) (w:World):Calls Tryz.prog 199 #[.agg (prA p f i),.int .i64 1,.agg (blA least)] w fun e w'=>e=.returned (outV r)∧Below w.heap.size w w':=by
 have hr2:bstS f i 1 least 2=r:=hr
 have HR:=Lib.hid hr2
 clear hr hr2
 have hbp:=blw w (Obj.cells (prA p f i) 234)
 have hb0:=hbp.trans ((blw (w.alloc (Obj.cells (prA p f i) 234)) (Obj.cells (blA least) 69)).mono hbp.size)
 have X:((w.alloc (Obj.cells (prA p f i) 234)).alloc (Obj.cells (blA least) 69)).heap[w.heap.size]?=some (.cells (prA p f i) 234 (0,0)):=tr_al (Obj.cells (blA least) 69) (heap_alloc_new w (Obj.cells (prA p f i) 234))
 have Y:((w.alloc (Obj.cells (prA p f i) 234)).alloc (Obj.cells (blA least) 69)).heap[w.heap.size+1]?=some (.cells (blA least) 69 (0,0)):=by
  have:=heap_alloc_new (w.alloc (Obj.cells (prA p f i) 234)) (Obj.cells (blA least) 69)
  rwa [show (w.alloc (Obj.cells (prA p f i) 234)).heap.size=w.heap.size+1 by simp] at this
 go_enter func199,ntmps199
 refine seqH fun K HK=>?_
 go_wp2
 refine HK.out _ _ ?_
 clear HK
 generalize (w.alloc (Obj.cells (prA p f i) 234)).alloc (Obj.cells (blA least) 69)=w1 at *
 generalize w.heap.size+1=y at *
 clear hbp
 refine seqH fun K HK=>?_
 go_wp2
 refine HK.out _ _ ?_
 clear HK
 refine seqH fun K HK=>?_
 obtain ⟨i0,i1⟩:=fs_at 1 0
 refine seqH fun K HK=>?_
 go_wp2
 refine HK.out _ _ ?_
 clear HK
 rw [show Value.agg #[.int .i64 1,.int .i64 0]=fsV 1 0 from rfl]
 go_wp2
 go_loopw [14,9,7] (fun i' _ o wr=>∃ j:Nat,j≤2∧i'=.int .i64 (j:Nat)∧o=outV (bstS f i 1 least j)∧wr.heap[w.heap.size]?=some (.cells (prA p f i) 234 (0,0))∧wr.heap[y]?=some (.cells (blA least) 69 (0,0))∧Below w.heap.size w wr) (fun i' _ _ _=>2 - (intOf i').toNat)
 case atStart=>exact ⟨0,by omega,rfl,rfl,X,Y,hb0⟩
 case round=>
  clear X Y hb0
  obtain ⟨j,hj,rfl,rfl,X1,Y1,hbw⟩:=hrel
  rcases (show j=0∨j=1∨j=2 by omega) with rfl | rfl | rfl
  ·have HST:Hid (bstS f i 1 least 1=stepS f i least none 1):=Lib.hid rfl
   rw [show bstS f i 1 least 0=none from rfl]
   unfold outV
   simp only
   cases h1:ofS (f 1) i
   case false=>
    have hof:=fun w=>of_any2 (p:=p) 1 (by omega) _ h1 w
    have hres:=step_a (least:=least) (out:=none) h1
    have HRS:=Lib.hid hres
    clear hres h1
    refine seqH fun K HK=>?_
    go_wp2
    refine HK.out _ _ ?_
    clear HK
    refine seqH fun K HK=>?_
    go_wp2
    refine HK.out _ _ ?_
    clear HK
    refine seqH fun K HKB=>?_
    refine wp_block ?_
    refine seqH fun K HK=>?_
    go_wp2
    refine HK.out _ _ ?_
    clear HK
    refine seqH fun K HK2=>?_
    go_wp2_with fail
    refine wp_region_cls (C:=fun w'=>Below wr.heap.size wr w') (by kernel_rfl) (by kernel_rfl) (Below.refl _ _).drew ?_
    refine wpQuiet_val (by rfl) (.agg (prA p f i)) (fun wS hSw=>exec_ldB 234 _ ⟨_,_,_,_,_,isAgg234,sizeOf234,rfl,tr_bl hSw X1,arr_all rfl⟩) ?_
    (try simp only [Act.put,qa1,qa2,qa3])
    refine qvP ?_
    refine wpQuiet_gen (by rfl) (.bool false) (fun wS hSw=>?_) ?_
    ·unfold Oper.quietAt
     go_simp
     (try refine ⟨rfl,?_⟩)
     exact (hof _).mono fun _ _ h=>⟨h.1,step_b3 hSw h.2⟩
    (try simp only [Act.put,qa1,qa2,qa3])
    refine qvP ?_
    iterate 8
     (try simp only [Act.put,qa1,qa2,qa3])
     with_reducible refine wpQuiet_skip ?_ ?_
     ·rfl
    iterate 2
     (try simp only [Act.put,qa1,qa2,qa3])
     refine qvP ?_
    iterate 15
     (try simp only [Act.put,qa1,qa2,qa3])
     with_reducible refine wpQuiet_skip ?_ ?_
     ·rfl
    (try simp only [Act.put,qa1,qa2,qa3])
    refine qvP ?_
    refine wpQuiet_nil ?_
    intro wE hE
    refine HK2.out _ _ ?_
    clear HK2
    have X2:=tr_bl hE X1
    have Y2:=tr_bl hE Y1
    have hbe:=hbw.trans (hE.mono hbw.size)
    go_wp2
    (try simp only [Exit.inBlock,Exit.then])
    refine HKB.out _ _ ?_
    clear HKB
    go_wp2
    go_roundw
    case rel=>exact ⟨1,by omega,by rfl,by first | (rw [HST.out,HRS.out];done) | (rw [HST.out,HRS.out];rfl),X2,Y2,hbe⟩
    case measure=>simp [intOf]
   case true=>
    have hof:=fun w=>of_any2 (p:=p) 1 (by omega) _ h1 w
    cases h2:lessB (f 1).bal least
    case true=>
     have hl1:=fun w=>less_any (f 1).bal least _ h2 w
     have hres:=step_bb (f:=f) (i:=i) (out:=none) h2
     have HRS:=Lib.hid hres
     clear hres h1 h2
     refine seqH fun K HK=>?_
     go_wp2
     refine HK.out _ _ ?_
     clear HK
     refine seqH fun K HK=>?_
     go_wp2
     refine HK.out _ _ ?_
     clear HK
     refine seqH fun K HKB=>?_
     refine wp_block ?_
     refine seqH fun K HK=>?_
     go_wp2
     refine HK.out _ _ ?_
     clear HK
     refine seqH fun K HK2=>?_
     go_wp2_with fail
     refine wp_region_cls (C:=fun w'=>Below wr.heap.size wr w') (by kernel_rfl) (by kernel_rfl) (Below.refl _ _).drew ?_
     refine wpQuiet_val (by rfl) (.agg (prA p f i)) (fun wS hSw=>exec_ldB 234 _ ⟨_,_,_,_,_,isAgg234,sizeOf234,rfl,tr_bl hSw X1,arr_all rfl⟩) ?_
     (try simp only [Act.put,qa1,qa2,qa3])
     refine qvP ?_
     refine wpQuiet_gen (by rfl) (.bool true) (fun wS hSw=>?_) ?_
     ·unfold Oper.quietAt
      go_simp
      (try refine ⟨rfl,?_⟩)
      exact (hof _).mono fun _ _ h=>⟨h.1,step_b3 hSw h.2⟩
     iterate 5
      (try simp only [Act.put,qa1,qa2,qa3])
      refine qvP ?_
     (try simp only [Act.put,qa1,qa2,qa3])
     refine wpQuiet_val (by rfl) (.agg (blA (f 1).bal)) (fun wS hSw=>exec_ldB 69 _ ⟨_,_,_,_,_,isAgg69,sizeOf69,rfl,tr_bl hSw X1,pr_balB⟩) ?_
     (try simp only [Act.put,qa1,qa2,qa3])
     refine wpQuiet_val (by rfl) (.agg (blA least)) (fun wS hSw=>exec_ldB 69 _ ⟨_,_,_,_,_,isAgg69,sizeOf69,rfl,tr_bl hSw Y1,arr_all rfl⟩) ?_
     (try simp only [Act.put,qa1,qa2,qa3])
     refine wpQuiet_gen (by rfl) (.bool true) (fun wS hSw=>?_) ?_
     ·unfold Oper.quietAt
      go_simp
      (try refine ⟨rfl,?_⟩)
      exact (hl1 _).mono fun _ _ h=>⟨h.1,step_b3 hSw h.2⟩
     iterate 3
      (try simp only [Act.put,qa1,qa2,qa3])
      refine qvP ?_
     iterate 15
      (try simp only [Act.put,qa1,qa2,qa3])
      with_reducible refine wpQuiet_skip ?_ ?_
      ·rfl
     (try simp only [Act.put,qa1,qa2,qa3])
     refine qvP ?_
     refine wpQuiet_nil ?_
     intro wE hE
     refine HK2.out _ _ ?_
     clear HK2
     have X2:=tr_bl hE X1
     have Y2:=tr_bl hE Y1
     have hbe:=hbw.trans (hE.mono hbw.size)
     go_wp2
     (try simp only [Exit.inBlock,Exit.then])
     refine HKB.out _ _ ?_
     clear HKB
     go_wp2
     go_roundw
     case rel=>exact ⟨1,by omega,by rfl,by first | (rw [HST.out,HRS.out];done) | (rw [HST.out,HRS.out];rfl),X2,Y2,hbe⟩
     case measure=>simp [intOf]
    case false=>
     have hl1:=fun w=>less_any (f 1).bal least _ h2 w
     have hres:=step_n h1 h2
     have HRS:=Lib.hid hres
     clear hres h1 h2
     refine seqH fun K HK=>?_
     go_wp2
     refine HK.out _ _ ?_
     clear HK
     refine seqH fun K HK=>?_
     go_wp2
     refine HK.out _ _ ?_
     clear HK
     refine seqH fun K HKB=>?_
     refine wp_block ?_
     refine seqH fun K HK=>?_
     go_wp2
     refine HK.out _ _ ?_
     clear HK
     refine seqH fun K HK2=>?_
     go_wp2_with fail
     refine wp_region_cls (C:=fun w'=>Below wr.heap.size wr w') (by kernel_rfl) (by kernel_rfl) (Below.refl _ _).drew ?_
     refine wpQuiet_val (by rfl) (.agg (prA p f i)) (fun wS hSw=>exec_ldB 234 _ ⟨_,_,_,_,_,isAgg234,sizeOf234,rfl,tr_bl hSw X1,arr_all rfl⟩) ?_
     (try simp only [Act.put,qa1,qa2,qa3])
     refine qvP ?_
     refine wpQuiet_gen (by rfl) (.bool true) (fun wS hSw=>?_) ?_
     ·unfold Oper.quietAt
      go_simp
      (try refine ⟨rfl,?_⟩)
      exact (hof _).mono fun _ _ h=>⟨h.1,step_b3 hSw h.2⟩
     iterate 5
      (try simp only [Act.put,qa1,qa2,qa3])
      refine qvP ?_
     (try simp only [Act.put,qa1,qa2,qa3])
     refine wpQuiet_val (by rfl) (.agg (blA (f 1).bal)) (fun wS hSw=>exec_ldB 69 _ ⟨_,_,_,_,_,isAgg69,sizeOf69,rfl,tr_bl hSw X1,pr_balB⟩) ?_
     (try simp only [Act.put,qa1,qa2,qa3])
     refine wpQuiet_val (by rfl) (.agg (blA least)) (fun wS hSw=>exec_ldB 69 _ ⟨_,_,_,_,_,isAgg69,sizeOf69,rfl,tr_bl hSw Y1,arr_all rfl⟩) ?_
     (try simp only [Act.put,qa1,qa2,qa3])
     refine wpQuiet_gen (by rfl) (.bool false) (fun wS hSw=>?_) ?_
     ·unfold Oper.quietAt
      go_simp
      (try refine ⟨rfl,?_⟩)
      exact (hl1 _).mono fun _ _ h=>⟨h.1,step_b3 hSw h.2⟩
     iterate 6
      (try simp only [Act.put,qa1,qa2,qa3])
      refine qvP ?_
     iterate 11
      (try simp only [Act.put,qa1,qa2,qa3])
      with_reducible refine wpQuiet_skip ?_ ?_
      ·rfl
     iterate 2
      (try simp only [Act.put,qa1,qa2,qa3])
      refine qvP ?_
     (try simp only [Act.put,qa1,qa2,qa3])
     refine wpQuiet_nil ?_
     intro wE hE
     refine HK2.out _ _ ?_
     clear HK2
     have X2:=tr_bl hE X1
     have Y2:=tr_bl hE Y1
     have hbe:=hbw.trans (hE.mono hbw.size)
     go_wp2
     (try simp only [Exit.inBlock,Exit.then])
     refine HKB.out _ _ ?_
     clear HKB
     go_wp2
     go_roundw
     case rel=>exact ⟨1,by omega,by rfl,by first | (rw [HST.out,HRS.out];done) | (rw [HST.out,HRS.out];rfl),X2,Y2,hbe⟩
     case measure=>simp [intOf]
  ·have HST:Hid (bstS f i 1 least 2=stepS f i least (bstS f i 1 least 1) 0):=Lib.hid rfl
   rcases (show bstS f i 1 least 1=none∨bstS f i 1 least 1=some 1 from step_or 1) with ho | ho
   ·rw [ho] at HST ⊢
    clear ho
    unfold outV
    simp only
    cases h1:ofS (f 0) i
    case false=>
     have hof:=fun w=>of_any2 (p:=p) 0 (by omega) _ h1 w
     have hres:=step_a (least:=least) (out:=none) h1
     have HRS:=Lib.hid hres
     clear hres h1
     refine seqH fun K HK=>?_
     go_wp2
     refine HK.out _ _ ?_
     clear HK
     refine seqH fun K HK=>?_
     go_wp2
     refine HK.out _ _ ?_
     clear HK
     refine seqH fun K HKB=>?_
     refine wp_block ?_
     refine seqH fun K HK=>?_
     go_wp2
     refine HK.out _ _ ?_
     clear HK
     refine seqH fun K HK2=>?_
     go_wp2_with fail
     refine wp_region_cls (C:=fun w'=>Below wr.heap.size wr w') (by kernel_rfl) (by kernel_rfl) (Below.refl _ _).drew ?_
     refine wpQuiet_val (by rfl) (.agg (prA p f i)) (fun wS hSw=>exec_ldB 234 _ ⟨_,_,_,_,_,isAgg234,sizeOf234,rfl,tr_bl hSw X1,arr_all rfl⟩) ?_
     (try simp only [Act.put,qa1,qa2,qa3])
     refine qvP ?_
     refine wpQuiet_gen (by rfl) (.bool false) (fun wS hSw=>?_) ?_
     ·unfold Oper.quietAt
      go_simp
      (try refine ⟨rfl,?_⟩)
      exact (hof _).mono fun _ _ h=>⟨h.1,step_b3 hSw h.2⟩
     (try simp only [Act.put,qa1,qa2,qa3])
     refine qvP ?_
     iterate 8
      (try simp only [Act.put,qa1,qa2,qa3])
      with_reducible refine wpQuiet_skip ?_ ?_
      ·rfl
     iterate 2
      (try simp only [Act.put,qa1,qa2,qa3])
      refine qvP ?_
     iterate 15
      (try simp only [Act.put,qa1,qa2,qa3])
      with_reducible refine wpQuiet_skip ?_ ?_
      ·rfl
     (try simp only [Act.put,qa1,qa2,qa3])
     refine qvP ?_
     refine wpQuiet_nil ?_
     intro wE hE
     refine HK2.out _ _ ?_
     clear HK2
     have X2:=tr_bl hE X1
     have Y2:=tr_bl hE Y1
     have hbe:=hbw.trans (hE.mono hbw.size)
     go_wp2
     (try simp only [Exit.inBlock,Exit.then])
     refine HKB.out _ _ ?_
     clear HKB
     go_wp2
     go_roundw
     case rel=>exact ⟨2,by omega,by rfl,by first | (rw [HST.out,HRS.out];done) | (rw [HST.out,HRS.out];rfl),X2,Y2,hbe⟩
     case measure=>simp [intOf]
    case true=>
     have hof:=fun w=>of_any2 (p:=p) 0 (by omega) _ h1 w
     cases h2:lessB (f 0).bal least
     case true=>
      have hl1:=fun w=>less_any (f 0).bal least _ h2 w
      have hres:=step_bb (f:=f) (i:=i) (out:=none) h2
      have HRS:=Lib.hid hres
      clear hres h1 h2
      refine seqH fun K HK=>?_
      go_wp2
      refine HK.out _ _ ?_
      clear HK
      refine seqH fun K HK=>?_
      go_wp2
      refine HK.out _ _ ?_
      clear HK
      refine seqH fun K HKB=>?_
      refine wp_block ?_
      refine seqH fun K HK=>?_
      go_wp2
      refine HK.out _ _ ?_
      clear HK
      refine seqH fun K HK2=>?_
      go_wp2_with fail
      refine wp_region_cls (C:=fun w'=>Below wr.heap.size wr w') (by kernel_rfl) (by kernel_rfl) (Below.refl _ _).drew ?_
      refine wpQuiet_val (by rfl) (.agg (prA p f i)) (fun wS hSw=>exec_ldB 234 _ ⟨_,_,_,_,_,isAgg234,sizeOf234,rfl,tr_bl hSw X1,arr_all rfl⟩) ?_
      (try simp only [Act.put,qa1,qa2,qa3])
      refine qvP ?_
      refine wpQuiet_gen (by rfl) (.bool true) (fun wS hSw=>?_) ?_
      ·unfold Oper.quietAt
       go_simp
       (try refine ⟨rfl,?_⟩)
       exact (hof _).mono fun _ _ h=>⟨h.1,step_b3 hSw h.2⟩
      iterate 5
       (try simp only [Act.put,qa1,qa2,qa3])
       refine qvP ?_
      (try simp only [Act.put,qa1,qa2,qa3])
      refine wpQuiet_val (by rfl) (.agg (blA (f 0).bal)) (fun wS hSw=>exec_ldB 69 _ ⟨_,_,_,_,_,isAgg69,sizeOf69,rfl,tr_bl hSw X1,pr_balA⟩) ?_
      (try simp only [Act.put,qa1,qa2,qa3])
      refine wpQuiet_val (by rfl) (.agg (blA least)) (fun wS hSw=>exec_ldB 69 _ ⟨_,_,_,_,_,isAgg69,sizeOf69,rfl,tr_bl hSw Y1,arr_all rfl⟩) ?_
      (try simp only [Act.put,qa1,qa2,qa3])
      refine wpQuiet_gen (by rfl) (.bool true) (fun wS hSw=>?_) ?_
      ·unfold Oper.quietAt
       go_simp
       (try refine ⟨rfl,?_⟩)
       exact (hl1 _).mono fun _ _ h=>⟨h.1,step_b3 hSw h.2⟩
      iterate 3
       (try simp only [Act.put,qa1,qa2,qa3])
       refine qvP ?_
      iterate 15
       (try simp only [Act.put,qa1,qa2,qa3])
       with_reducible refine wpQuiet_skip ?_ ?_
       ·rfl
      (try simp only [Act.put,qa1,qa2,qa3])
      refine qvP ?_
      refine wpQuiet_nil ?_
      intro wE hE
      refine HK2.out _ _ ?_
      clear HK2
      have X2:=tr_bl hE X1
      have Y2:=tr_bl hE Y1
      have hbe:=hbw.trans (hE.mono hbw.size)
      go_wp2
      (try simp only [Exit.inBlock,Exit.then])
      refine HKB.out _ _ ?_
      clear HKB
      go_wp2
      go_roundw
      case rel=>exact ⟨2,by omega,by rfl,by first | (rw [HST.out,HRS.out];done) | (rw [HST.out,HRS.out];rfl),X2,Y2,hbe⟩
      case measure=>simp [intOf]
     case false=>
      have hl1:=fun w=>less_any (f 0).bal least _ h2 w
      have hres:=step_n h1 h2
      have HRS:=Lib.hid hres
      clear hres h1 h2
      refine seqH fun K HK=>?_
      go_wp2
      refine HK.out _ _ ?_
      clear HK
      refine seqH fun K HK=>?_
      go_wp2
      refine HK.out _ _ ?_
      clear HK
      refine seqH fun K HKB=>?_
      refine wp_block ?_
      refine seqH fun K HK=>?_
      go_wp2
      refine HK.out _ _ ?_
      clear HK
      refine seqH fun K HK2=>?_
      go_wp2_with fail
      refine wp_region_cls (C:=fun w'=>Below wr.heap.size wr w') (by kernel_rfl) (by kernel_rfl) (Below.refl _ _).drew ?_
      refine wpQuiet_val (by rfl) (.agg (prA p f i)) (fun wS hSw=>exec_ldB 234 _ ⟨_,_,_,_,_,isAgg234,sizeOf234,rfl,tr_bl hSw X1,arr_all rfl⟩) ?_
      (try simp only [Act.put,qa1,qa2,qa3])
      refine qvP ?_
      refine wpQuiet_gen (by rfl) (.bool true) (fun wS hSw=>?_) ?_
      ·unfold Oper.quietAt
       go_simp
       (try refine ⟨rfl,?_⟩)
       exact (hof _).mono fun _ _ h=>⟨h.1,step_b3 hSw h.2⟩
      iterate 5
       (try simp only [Act.put,qa1,qa2,qa3])
       refine qvP ?_
      (try simp only [Act.put,qa1,qa2,qa3])
      refine wpQuiet_val (by rfl) (.agg (blA (f 0).bal)) (fun wS hSw=>exec_ldB 69 _ ⟨_,_,_,_,_,isAgg69,sizeOf69,rfl,tr_bl hSw X1,pr_balA⟩) ?_
      (try simp only [Act.put,qa1,qa2,qa3])
      refine wpQuiet_val (by rfl) (.agg (blA least)) (fun wS hSw=>exec_ldB 69 _ ⟨_,_,_,_,_,isAgg69,sizeOf69,rfl,tr_bl hSw Y1,arr_all rfl⟩) ?_
      (try simp only [Act.put,qa1,qa2,qa3])
      refine wpQuiet_gen (by rfl) (.bool false) (fun wS hSw=>?_) ?_
      ·unfold Oper.quietAt
       go_simp
       (try refine ⟨rfl,?_⟩)
       exact (hl1 _).mono fun _ _ h=>⟨h.1,step_b3 hSw h.2⟩
      iterate 6
       (try simp only [Act.put,qa1,qa2,qa3])
       refine qvP ?_
      iterate 11
       (try simp only [Act.put,qa1,qa2,qa3])
       with_reducible refine wpQuiet_skip ?_ ?_
       ·rfl
      iterate 2
       (try simp only [Act.put,qa1,qa2,qa3])
       refine qvP ?_
      (try simp only [Act.put,qa1,qa2,qa3])
      refine wpQuiet_nil ?_
      intro wE hE
      refine HK2.out _ _ ?_
      clear HK2
      have X2:=tr_bl hE X1
      have Y2:=tr_bl hE Y1
      have hbe:=hbw.trans (hE.mono hbw.size)
      go_wp2
      (try simp only [Exit.inBlock,Exit.then])
      refine HKB.out _ _ ?_
      clear HKB
      go_wp2
      go_roundw
      case rel=>exact ⟨2,by omega,by rfl,by first | (rw [HST.out,HRS.out];done) | (rw [HST.out,HRS.out];rfl),X2,Y2,hbe⟩
      case measure=>simp [intOf]
   ·rw [ho] at HST ⊢
    clear ho
    unfold outV
    simp only
    cases h1:ofS (f 0) i
    case false=>
     have hof:=fun w=>of_any2 (p:=p) 0 (by omega) _ h1 w
     have hres:=step_a (least:=least) (out:=some 1) h1
     have HRS:=Lib.hid hres
     clear hres h1
     refine seqH fun K HK=>?_
     go_wp2
     refine HK.out _ _ ?_
     clear HK
     refine seqH fun K HK=>?_
     go_wp2
     refine HK.out _ _ ?_
     clear HK
     refine seqH fun K HKB=>?_
     refine wp_block ?_
     refine seqH fun K HK=>?_
     go_wp2
     refine HK.out _ _ ?_
     clear HK
     refine seqH fun K HK2=>?_
     go_wp2_with fail
     refine wp_region_cls (C:=fun w'=>Below wr.heap.size wr w') (by kernel_rfl) (by kernel_rfl) (Below.refl _ _).drew ?_
     refine wpQuiet_val (by rfl) (.agg (prA p f i)) (fun wS hSw=>exec_ldB 234 _ ⟨_,_,_,_,_,isAgg234,sizeOf234,rfl,tr_bl hSw X1,arr_all rfl⟩) ?_
     (try simp only [Act.put,qa1,qa2,qa3])
     refine qvP ?_
     refine wpQuiet_gen (by rfl) (.bool false) (fun wS hSw=>?_) ?_
     ·unfold Oper.quietAt
      go_simp
      (try refine ⟨rfl,?_⟩)
      exact (hof _).mono fun _ _ h=>⟨h.1,step_b3 hSw h.2⟩
     (try simp only [Act.put,qa1,qa2,qa3])
     refine qvP ?_
     iterate 8
      (try simp only [Act.put,qa1,qa2,qa3])
      with_reducible refine wpQuiet_skip ?_ ?_
      ·rfl
     iterate 2
      (try simp only [Act.put,qa1,qa2,qa3])
      refine qvP ?_
     iterate 15
      (try simp only [Act.put,qa1,qa2,qa3])
      with_reducible refine wpQuiet_skip ?_ ?_
      ·rfl
     (try simp only [Act.put,qa1,qa2,qa3])
     refine qvP ?_
     refine wpQuiet_nil ?_
     intro wE hE
     refine HK2.out _ _ ?_
     clear HK2
     have X2:=tr_bl hE X1
     have Y2:=tr_bl hE Y1
     have hbe:=hbw.trans (hE.mono hbw.size)
     go_wp2
     (try simp only [Exit.inBlock,Exit.then])
     refine HKB.out _ _ ?_
     clear HKB
     go_wp2
     go_roundw
     case rel=>exact ⟨2,by omega,by rfl,by first | (rw [HST.out,HRS.out];done) | (rw [HST.out,HRS.out];rfl),X2,Y2,hbe⟩
     case measure=>simp [intOf]
    case true=>
     have hof:=fun w=>of_any2 (p:=p) 0 (by omega) _ h1 w
     cases h2:lessB (f 0).bal least
     case true=>
      have hl1:=fun w=>less_any (f 0).bal least _ h2 w
      have hres:=step_bb (f:=f) (i:=i) (out:=some 1) h2
      have HRS:=Lib.hid hres
      clear hres h1 h2
      refine seqH fun K HK=>?_
      go_wp2
      refine HK.out _ _ ?_
      clear HK
      refine seqH fun K HK=>?_
      go_wp2
      refine HK.out _ _ ?_
      clear HK
      refine seqH fun K HKB=>?_
      refine wp_block ?_
      refine seqH fun K HK=>?_
      go_wp2
      refine HK.out _ _ ?_
      clear HK
      refine seqH fun K HK2=>?_
      go_wp2_with fail
      refine wp_region_cls (C:=fun w'=>Below wr.heap.size wr w') (by kernel_rfl) (by kernel_rfl) (Below.refl _ _).drew ?_
      refine wpQuiet_val (by rfl) (.agg (prA p f i)) (fun wS hSw=>exec_ldB 234 _ ⟨_,_,_,_,_,isAgg234,sizeOf234,rfl,tr_bl hSw X1,arr_all rfl⟩) ?_
      (try simp only [Act.put,qa1,qa2,qa3])
      refine qvP ?_
      refine wpQuiet_gen (by rfl) (.bool true) (fun wS hSw=>?_) ?_
      ·unfold Oper.quietAt
       go_simp
       (try refine ⟨rfl,?_⟩)
       exact (hof _).mono fun _ _ h=>⟨h.1,step_b3 hSw h.2⟩
      iterate 5
       (try simp only [Act.put,qa1,qa2,qa3])
       refine qvP ?_
      (try simp only [Act.put,qa1,qa2,qa3])
      refine wpQuiet_val (by rfl) (.agg (blA (f 0).bal)) (fun wS hSw=>exec_ldB 69 _ ⟨_,_,_,_,_,isAgg69,sizeOf69,rfl,tr_bl hSw X1,pr_balA⟩) ?_
      (try simp only [Act.put,qa1,qa2,qa3])
      refine wpQuiet_val (by rfl) (.agg (blA least)) (fun wS hSw=>exec_ldB 69 _ ⟨_,_,_,_,_,isAgg69,sizeOf69,rfl,tr_bl hSw Y1,arr_all rfl⟩) ?_
      (try simp only [Act.put,qa1,qa2,qa3])
      refine wpQuiet_gen (by rfl) (.bool true) (fun wS hSw=>?_) ?_
      ·unfold Oper.quietAt
       go_simp
       (try refine ⟨rfl,?_⟩)
       exact (hl1 _).mono fun _ _ h=>⟨h.1,step_b3 hSw h.2⟩
      iterate 3
       (try simp only [Act.put,qa1,qa2,qa3])
       refine qvP ?_
      iterate 15
       (try simp only [Act.put,qa1,qa2,qa3])
       with_reducible refine wpQuiet_skip ?_ ?_
       ·rfl
      (try simp only [Act.put,qa1,qa2,qa3])
      refine qvP ?_
      refine wpQuiet_nil ?_
      intro wE hE
      refine HK2.out _ _ ?_
      clear HK2
      have X2:=tr_bl hE X1
      have Y2:=tr_bl hE Y1
      have hbe:=hbw.trans (hE.mono hbw.size)
      go_wp2
      (try simp only [Exit.inBlock,Exit.then])
      refine HKB.out _ _ ?_
      clear HKB
      go_wp2
      go_roundw
      case rel=>exact ⟨2,by omega,by rfl,by first | (rw [HST.out,HRS.out];done) | (rw [HST.out,HRS.out];rfl),X2,Y2,hbe⟩
      case measure=>simp [intOf]
     case false=>
      have hl1:=fun w=>less_any (f 0).bal least _ h2 w
      cases h3:lessB (f 1).bal (f 0).bal
      case true=>
       have hl2:=fun w=>less_any (f 1).bal (f 0).bal _ h3 w
       have hres:=step_y h1 h2 h3
       have HRS:=Lib.hid hres
       clear hres h1 h2 h3
       refine seqH fun K HK=>?_
       go_wp2
       refine HK.out _ _ ?_
       clear HK
       refine seqH fun K HK=>?_
       go_wp2
       refine HK.out _ _ ?_
       clear HK
       refine seqH fun K HKB=>?_
       refine wp_block ?_
       refine seqH fun K HK=>?_
       go_wp2
       refine HK.out _ _ ?_
       clear HK
       refine seqH fun K HK2=>?_
       go_wp2_with fail
       refine wp_region_cls (C:=fun w'=>Below wr.heap.size wr w') (by kernel_rfl) (by kernel_rfl) (Below.refl _ _).drew ?_
       refine wpQuiet_val (by rfl) (.agg (prA p f i)) (fun wS hSw=>exec_ldB 234 _ ⟨_,_,_,_,_,isAgg234,sizeOf234,rfl,tr_bl hSw X1,arr_all rfl⟩) ?_
       (try simp only [Act.put,qa1,qa2,qa3])
       refine qvP ?_
       refine wpQuiet_gen (by rfl) (.bool true) (fun wS hSw=>?_) ?_
       ·unfold Oper.quietAt
        go_simp
        (try refine ⟨rfl,?_⟩)
        exact (hof _).mono fun _ _ h=>⟨h.1,step_b3 hSw h.2⟩
       iterate 5
        (try simp only [Act.put,qa1,qa2,qa3])
        refine qvP ?_
       (try simp only [Act.put,qa1,qa2,qa3])
       refine wpQuiet_val (by rfl) (.agg (blA (f 0).bal)) (fun wS hSw=>exec_ldB 69 _ ⟨_,_,_,_,_,isAgg69,sizeOf69,rfl,tr_bl hSw X1,pr_balA⟩) ?_
       (try simp only [Act.put,qa1,qa2,qa3])
       refine wpQuiet_val (by rfl) (.agg (blA least)) (fun wS hSw=>exec_ldB 69 _ ⟨_,_,_,_,_,isAgg69,sizeOf69,rfl,tr_bl hSw Y1,arr_all rfl⟩) ?_
       (try simp only [Act.put,qa1,qa2,qa3])
       refine wpQuiet_gen (by rfl) (.bool false) (fun wS hSw=>?_) ?_
       ·unfold Oper.quietAt
        go_simp
        (try refine ⟨rfl,?_⟩)
        exact (hl1 _).mono fun _ _ h=>⟨h.1,step_b3 hSw h.2⟩
       iterate 10
        (try simp only [Act.put,qa1,qa2,qa3])
        refine qvP ?_
       (try simp only [Act.put,qa1,qa2,qa3])
       refine wpQuiet_val (by rfl) (.agg (blA (f 1).bal)) (fun wS hSw=>exec_ldB 69 _ ⟨_,_,_,_,_,isAgg69,sizeOf69,rfl,tr_bl hSw X1,pr_balB⟩) ?_
       iterate 4
        (try simp only [Act.put,qa1,qa2,qa3])
        refine qvP ?_
       (try simp only [Act.put,qa1,qa2,qa3])
       refine wpQuiet_val (by rfl) (.agg (blA (f 0).bal)) (fun wS hSw=>exec_ldB 69 _ ⟨_,_,_,_,_,isAgg69,sizeOf69,rfl,tr_bl hSw X1,pr_balA⟩) ?_
       (try simp only [Act.put,qa1,qa2,qa3])
       refine wpQuiet_gen (by rfl) (.bool true) (fun wS hSw=>?_) ?_
       ·unfold Oper.quietAt
        go_simp
        (try refine ⟨rfl,?_⟩)
        exact (hl2 _).mono fun _ _ h=>⟨h.1,step_b3 hSw h.2⟩
       iterate 2
        (try simp only [Act.put,qa1,qa2,qa3])
        refine qvP ?_
       (try simp only [Act.put,qa1,qa2,qa3])
       refine wpQuiet_nil ?_
       intro wE hE
       refine HK2.out _ _ ?_
       clear HK2
       have X2:=tr_bl hE X1
       have Y2:=tr_bl hE Y1
       have hbe:=hbw.trans (hE.mono hbw.size)
       go_wp2
       (try simp only [Exit.inBlock,Exit.then])
       refine HKB.out _ _ ?_
       clear HKB
       go_wp2
       go_roundw
       case rel=>exact ⟨2,by omega,by rfl,by first | (rw [HST.out,HRS.out];done) | (rw [HST.out,HRS.out];rfl),X2,Y2,hbe⟩
       case measure=>simp [intOf]
      case false=>
       have hl2:=fun w=>less_any (f 1).bal (f 0).bal _ h3 w
       have hres:=step_c (i:=i) (least:=least) h3
       have HRS:=Lib.hid hres
       clear hres h1 h2 h3
       refine seqH fun K HK=>?_
       go_wp2
       refine HK.out _ _ ?_
       clear HK
       refine seqH fun K HK=>?_
       go_wp2
       refine HK.out _ _ ?_
       clear HK
       refine seqH fun K HKB=>?_
       refine wp_block ?_
       refine seqH fun K HK=>?_
       go_wp2
       refine HK.out _ _ ?_
       clear HK
       refine seqH fun K HK2=>?_
       go_wp2_with fail
       refine wp_region_cls (C:=fun w'=>Below wr.heap.size wr w') (by kernel_rfl) (by kernel_rfl) (Below.refl _ _).drew ?_
       refine wpQuiet_val (by rfl) (.agg (prA p f i)) (fun wS hSw=>exec_ldB 234 _ ⟨_,_,_,_,_,isAgg234,sizeOf234,rfl,tr_bl hSw X1,arr_all rfl⟩) ?_
       (try simp only [Act.put,qa1,qa2,qa3])
       refine qvP ?_
       refine wpQuiet_gen (by rfl) (.bool true) (fun wS hSw=>?_) ?_
       ·unfold Oper.quietAt
        go_simp
        (try refine ⟨rfl,?_⟩)
        exact (hof _).mono fun _ _ h=>⟨h.1,step_b3 hSw h.2⟩
       iterate 5
        (try simp only [Act.put,qa1,qa2,qa3])
        refine qvP ?_
       (try simp only [Act.put,qa1,qa2,qa3])
       refine wpQuiet_val (by rfl) (.agg (blA (f 0).bal)) (fun wS hSw=>exec_ldB 69 _ ⟨_,_,_,_,_,isAgg69,sizeOf69,rfl,tr_bl hSw X1,pr_balA⟩) ?_
       (try simp only [Act.put,qa1,qa2,qa3])
       refine wpQuiet_val (by rfl) (.agg (blA least)) (fun wS hSw=>exec_ldB 69 _ ⟨_,_,_,_,_,isAgg69,sizeOf69,rfl,tr_bl hSw Y1,arr_all rfl⟩) ?_
       (try simp only [Act.put,qa1,qa2,qa3])
       refine wpQuiet_gen (by rfl) (.bool false) (fun wS hSw=>?_) ?_
       ·unfold Oper.quietAt
        go_simp
        (try refine ⟨rfl,?_⟩)
        exact (hl1 _).mono fun _ _ h=>⟨h.1,step_b3 hSw h.2⟩
       iterate 10
        (try simp only [Act.put,qa1,qa2,qa3])
        refine qvP ?_
       (try simp only [Act.put,qa1,qa2,qa3])
       refine wpQuiet_val (by rfl) (.agg (blA (f 1).bal)) (fun wS hSw=>exec_ldB 69 _ ⟨_,_,_,_,_,isAgg69,sizeOf69,rfl,tr_bl hSw X1,pr_balB⟩) ?_
       iterate 4
        (try simp only [Act.put,qa1,qa2,qa3])
        refine qvP ?_
       (try simp only [Act.put,qa1,qa2,qa3])
       refine wpQuiet_val (by rfl) (.agg (blA (f 0).bal)) (fun wS hSw=>exec_ldB 69 _ ⟨_,_,_,_,_,isAgg69,sizeOf69,rfl,tr_bl hSw X1,pr_balA⟩) ?_
       (try simp only [Act.put,qa1,qa2,qa3])
       refine wpQuiet_gen (by rfl) (.bool false) (fun wS hSw=>?_) ?_
       ·unfold Oper.quietAt
        go_simp
        (try refine ⟨rfl,?_⟩)
        exact (hl2 _).mono fun _ _ h=>⟨h.1,step_b3 hSw h.2⟩
       iterate 2
        (try simp only [Act.put,qa1,qa2,qa3])
        refine qvP ?_
       (try simp only [Act.put,qa1,qa2,qa3])
       refine wpQuiet_nil ?_
       intro wE hE
       refine HK2.out _ _ ?_
       clear HK2
       have X2:=tr_bl hE X1
       have Y2:=tr_bl hE Y1
       have hbe:=hbw.trans (hE.mono hbw.size)
       go_wp2
       (try simp only [Exit.inBlock,Exit.then])
       refine HKB.out _ _ ?_
       clear HKB
       go_wp2
       go_roundw
       case rel=>exact ⟨2,by omega,by rfl,by first | (rw [HST.out,HRS.out];done) | (rw [HST.out,HRS.out];rfl),X2,Y2,hbe⟩
       case measure=>simp [intOf]
  ·rw [HR.out]
   go_wp2
   refine HK.out _ _ ?_
   clear HK
   go_wp2
   go_ret
   exact ⟨rfl,hbw⟩
theorem best_any2 (first:Nat) (hf:first < 2) (r:Option Nat) (hr:bestS f i first least=r) (w:World):Calls Tryz.prog 199 #[.agg (prA p f i),.int .i64 first,.agg (blA least)] w fun e w'=>e=.returned (outV r)∧Below w.heap.size w w':=by
 rcases (show first=0∨first=1 by omega) with rfl | rfl
 ·exact best_f0 r hr w
 ·exact best_f1 r hr w
end
end
section
section
variable {w:World} {p:SRec} {f:Nat→SCp} {i:Int}
theorem pr_p0' {w w2:World} {g:Nat} {v:Value} {T:TypeId} {cs:Array Value} {o:Nat} (h:w2.heap[g]?=some (.cells cs T (0,0))) (h0:w.cell? ⟨g,o,none⟩=some v) (hw:w.heap[g]?=some (.cells cs T (0,0))):w2.cell? ⟨g,o,none⟩=some v:=by
 rw [← h0]
 simp only [World.cell?,h,hw]
theorem intact_any2 (hw:p.wh=0∨p.wh=1) (r:Option Nat) (hr:intactS p f i=r) (w:World):Calls Tryz.prog 155 #[.agg (prA p f i)] w fun e w'=>e=.returned (outV r)∧Below w.heap.size w w':=by
 unfold intactS at hr
 have hb0:=blw w (Obj.cells (prA p f i) 234)
 have X:=heap_alloc_new w (Obj.cells (prA p f i) 234)
 have u0:=pr_p0 X
 have u1:=pr_p1 X
 have u4:=pr_p4 X
 have u2:=pr_i X
 by_cases h1:p.st=1∧p.idx=i
 case pos=>
  rw [if_pos h1] at hr
  have e1:(p.idx==i)=true:=by rw [beq_iff_eq];exact h1.2
  rw [h1.1] at u0
  clear h1
  rcases hw with hw | hw
  ·rw [hw] at hr u4
   have hbest:=fun w=>best_any2 (p:=p) (f:=f) (i:=i) (least:=p.bal) 0 (by omega) r hr w
   clear hr hw
   go_enter func155,ntmps155
   refine seqH fun K HK=>?_
   go_wp2
   refine HK.out _ _ ?_
   clear HK
   generalize w.alloc (Obj.cells (prA p f i) 234)=w1 at *
   go_wp2_with (first
    | ((with_reducible refine wpList_ldB 234 _ ?_);refine ⟨rfl,_,⟨_,_,_,_,_,isAgg234,sizeOf234,rfl,‹_›,arr_all rfl⟩,?_⟩)
    | ((with_reducible refine wpList_ldB 69 _ ?_);refine ⟨rfl,_,⟨_,_,_,_,_,isAgg69,sizeOf69,rfl,‹_›,pr_balP⟩,?_⟩)
    | (go_at_call 199;refine (hbest _).mono ?_;rintro e w2 ⟨rfl,hb2⟩))
   go_ret
   exact ⟨rfl,hb0.trans (hb2.mono hb0.size)⟩
  ·rw [hw] at hr u4
   have hbest:=fun w=>best_any2 (p:=p) (f:=f) (i:=i) (least:=p.bal) 1 (by omega) r hr w
   clear hr hw
   go_enter func155,ntmps155
   refine seqH fun K HK=>?_
   go_wp2
   refine HK.out _ _ ?_
   clear HK
   generalize w.alloc (Obj.cells (prA p f i) 234)=w1 at *
   go_wp2_with (first
    | ((with_reducible refine wpList_ldB 234 _ ?_);refine ⟨rfl,_,⟨_,_,_,_,_,isAgg234,sizeOf234,rfl,‹_›,arr_all rfl⟩,?_⟩)
    | ((with_reducible refine wpList_ldB 69 _ ?_);refine ⟨rfl,_,⟨_,_,_,_,_,isAgg69,sizeOf69,rfl,‹_›,pr_balP⟩,?_⟩)
    | (go_at_call 199;refine (hbest _).mono ?_;rintro e w2 ⟨rfl,hb2⟩))
   go_ret
   exact ⟨rfl,hb0.trans (hb2.mono hb0.size)⟩
 case neg=>
  rw [if_neg h1] at hr
  have hc1:(((p.st:Int)==1) && (p.idx==i))=false:=by
   rw [Bool.and_eq_false_iff,beq_eq_false_iff_ne,beq_eq_false_iff_ne]
   by_cases h:p.st=1
   ·exact .inr (fun h2=>h1 ⟨h,h2⟩)
   ·exact .inl (by omega)
  clear h1
  have hbest:∀ x,bestS f i 0 minBal=x→∀ w,Calls Tryz.prog 199 #[.agg (prA p f i),.int .i64 0,.agg #[.int .i64 (-9223372036854775808),.int .i64 (-9223372036854775808)]] w fun e w'=>e=.returned (outV x)∧Below w.heap.size w w':=fun x hx w=>best_any2 (p:=p) (f:=f) (i:=i) (least:=minBal) 0 (by omega) x hx w
  cases hby:beyondS p f i
  case true=>
   have hbe:=fun w=>beyond_any2 (p:=p) (f:=f) (i:=i) _ hby w
   obtain rfl:none=r:=by rw [← hr,if_pos (Or.inl hby)]
   clear hr hby hbest
   cases h1:((p.st:Int)==1)
   all_goals
    rw [h1] at hc1
    (try simp only [Bool.true_and] at hc1)
    go_enter func155,ntmps155
    refine seqH fun K HK=>?_
    go_wp2
    refine HK.out _ _ ?_
    clear HK
    generalize w.alloc (Obj.cells (prA p f i) 234)=w1 at *
    go_wp2_with (first
     | ((with_reducible refine wpList_ldB 234 _ ?_);refine ⟨rfl,_,⟨_,_,_,_,_,isAgg234,sizeOf234,rfl,‹_›,arr_all rfl⟩,?_⟩)
     | (go_at_call 200;refine (hbe _).mono ?_;rintro e w2 ⟨rfl,hb2⟩;have hb0:=hb0.trans (hb2.mono hb0.size);have X2:=tr_bl hb2 X;have u0:=pr_p0' X2 u0 X)
     | (go_at_call 201;refine (hba _).mono ?_;rintro e w3 ⟨rfl,hb3⟩;have hb0:=hb0.trans (hb3.mono hb0.size);have X3:=tr_bl hb3 X2)
     | (go_at_call 199;refine (hb9 _).mono ?_;rintro e w4 ⟨rfl,hb4⟩;have hb0:=hb0.trans (hb4.mono hb0.size)))
    go_ret
    exact ⟨rfl,hb0⟩
  case false=>
   have hbe:=fun w=>beyond_any2 (p:=p) (f:=f) (i:=i) _ hby w
   cases hs2:((p.st:Int)==2)
   case false=>
    have hsn:p.st≠2:=fun h=>by rw [h] at hs2;exact absurd hs2 (by decide)
    have hb9:=hbest r (by rw [← hr,if_neg (by simp [hby,hsn])])
    clear hr hby hbest hsn
    cases h1:((p.st:Int)==1)
    all_goals
     rw [h1] at hc1
     (try simp only [Bool.true_and] at hc1)
     go_enter func155,ntmps155
     refine seqH fun K HK=>?_
     go_wp2
     refine HK.out _ _ ?_
     clear HK
     generalize w.alloc (Obj.cells (prA p f i) 234)=w1 at *
     go_wp2_with (first
      | ((with_reducible refine wpList_ldB 234 _ ?_);refine ⟨rfl,_,⟨_,_,_,_,_,isAgg234,sizeOf234,rfl,‹_›,arr_all rfl⟩,?_⟩)
      | (go_at_call 200;refine (hbe _).mono ?_;rintro e w2 ⟨rfl,hb2⟩;have hb0:=hb0.trans (hb2.mono hb0.size);have X2:=tr_bl hb2 X;have u0:=pr_p0' X2 u0 X)
      | (go_at_call 201;refine (hba _).mono ?_;rintro e w3 ⟨rfl,hb3⟩;have hb0:=hb0.trans (hb3.mono hb0.size);have X3:=tr_bl hb3 X2)
      | (go_at_call 199;refine (hb9 _).mono ?_;rintro e w4 ⟨rfl,hb4⟩;have hb0:=hb0.trans (hb4.mono hb0.size)))
     go_ret
     exact ⟨rfl,hb0⟩
   case true=>
    have hsn:p.st=2:=by rw [beq_iff_eq] at hs2;omega
    cases hbd:badS f
    case true=>
     have hba:=fun w=>bad_any2 (p:=p) (f:=f) (i:=i) _ hbd w
     obtain rfl:none=r:=by rw [← hr,if_pos (Or.inr ⟨hsn,hbd⟩)]
     rw [hsn] at u0
     clear hr hby hbest hsn hbd hs2 hc1
     go_enter func155,ntmps155
     refine seqH fun K HK=>?_
     go_wp2
     refine HK.out _ _ ?_
     clear HK
     generalize w.alloc (Obj.cells (prA p f i) 234)=w1 at *
     go_wp2_with (first
      | ((with_reducible refine wpList_ldB 234 _ ?_);refine ⟨rfl,_,⟨_,_,_,_,_,isAgg234,sizeOf234,rfl,‹_›,arr_all rfl⟩,?_⟩)
      | (go_at_call 200;refine (hbe _).mono ?_;rintro e w2 ⟨rfl,hb2⟩;have hb0:=hb0.trans (hb2.mono hb0.size);have X2:=tr_bl hb2 X;have u0:=pr_p0' X2 u0 X)
      | (go_at_call 201;refine (hba _).mono ?_;rintro e w3 ⟨rfl,hb3⟩;have hb0:=hb0.trans (hb3.mono hb0.size);have X3:=tr_bl hb3 X2)
      | (go_at_call 199;refine (hb9 _).mono ?_;rintro e w4 ⟨rfl,hb4⟩;have hb0:=hb0.trans (hb4.mono hb0.size)))
     go_ret
     exact ⟨rfl,hb0⟩
    case false=>
     have hba:=fun w=>bad_any2 (p:=p) (f:=f) (i:=i) _ hbd w
     have hb9:=hbest r (by rw [← hr,if_neg (by simp [hby,hbd])])
     rw [hsn] at u0
     clear hr hby hbest hsn hbd hs2 hc1
     go_enter func155,ntmps155
     refine seqH fun K HK=>?_
     go_wp2
     refine HK.out _ _ ?_
     clear HK
     generalize w.alloc (Obj.cells (prA p f i) 234)=w1 at *
     go_wp2_with (first
      | ((with_reducible refine wpList_ldB 234 _ ?_);refine ⟨rfl,_,⟨_,_,_,_,_,isAgg234,sizeOf234,rfl,‹_›,arr_all rfl⟩,?_⟩)
      | (go_at_call 200;refine (hbe _).mono ?_;rintro e w2 ⟨rfl,hb2⟩;have hb0:=hb0.trans (hb2.mono hb0.size);have X2:=tr_bl hb2 X;have u0:=pr_p0' X2 u0 X)
      | (go_at_call 201;refine (hba _).mono ?_;rintro e w3 ⟨rfl,hb3⟩;have hb0:=hb0.trans (hb3.mono hb0.size);have X3:=tr_bl hb3 X2)
      | (go_at_call 199;refine (hb9 _).mono ?_;rintro e w4 ⟨rfl,hb4⟩;have hb0:=hb0.trans (hb4.mono hb0.size)))
     go_ret
     exact ⟨rfl,hb0⟩
end
end
section
theorem build_pr (p:SRec) (f:Nat→SCp) (i:Int) (w:World):(Instr.build 234 #[(0,.agg (recA p)),(1,.agg (ffA f)),(2,.int .i64 i)]).run Tryz.prog w=.ok (.agg (prA p f i)) w:=by kernel_rfl
theorem wpList_bpr {a:Act} {w:World} {ops:Array Oper} {rest:List Oper} {Q:Exit→Act→World→Prop} {dst:Option Tmp} {ty':TypeId} {pos:String} {af:Array Edge} {p:SRec} {f:Nat→SCp} {i:Int} (x y z:Operand) (hx:a.eval x=.agg (recA p)) (hy:a.eval y=.agg (ffA f)) (hz:a.eval z=.int .i64 i)
  (h:wpList Tryz.prog ops Q rest (a.put dst (.agg (prA p f i))) w):wpList Tryz.prog ops Q (Oper.mk dst (.build 234 #[(0,x),(1,y),(2,z)]) ty' pos af none :: rest) a w:=
 wpList_run rfl (by
  have hb:=build_pr p f i w
  unfold execOp
  simp [hx,hy,hz,hb]) h
section
variable {w:World} {p:SRec} {f:Nat→SCp} {i:Int} {g:Nat} {T:TypeId}
theorem rc_0 (h:w.heap[g]?=some (.cells (recA p) T (0,0))):w.cell? ⟨g,0,none⟩=some (.int .u8 (p.st:Int)):=blk_cell h 0 _ rfl
theorem rc_4 (h:w.heap[g]?=some (.cells (recA p) T (0,0))):w.cell? ⟨g,4,none⟩=some (.int .i64 p.wh):=blk_cell h 4 _ rfl
theorem bst_lt {first k:Nat} {least:Bal} (hf:first < 2) (h:bestS f i first least=some k):k < 2:=by
 have hs:∀ (out:Option Nat) (j:Nat),j < 2→(∀ o,out=some o→o < 2)→∀ o,stepS f i least out j=some o→o < 2:=fun out j hj ho o h=>by
  rcases (show stepS f i least out j=some j∨stepS f i least out j=out from by unfold stepS;exact (Decidable.em _).imp (fun h=>if_pos h) (fun h=>if_neg h)) with e | e
  ·rw [e] at h
   injection h with h
   omega
  ·exact ho o (e ▸ h)
 exact hs _ _ (by omega) (hs none first hf (fun _ h=>by cases h)) k h
theorem intact_lt {k:Nat} (h:intactS p f i=some k):k < 2:=by
 unfold intactS at h
 split at h
 ·exact bst_lt (by omega) h
 ·split at h
  ·cases h
  ·exact bst_lt (by omega) h
theorem next_any2 (hw:p.wh=0∨p.wh=1) (w:World):Calls Tryz.prog 80 #[.agg (recA p),.agg (ffA f),.int .i64 i] w fun e w'=>e=.returned (.int .i64 (nextS p f i))∧Below w.heap.size w w':=by
 obtain ⟨r,hr⟩:∃ r,nextS p f i=r:=⟨_,rfl⟩
 rw [hr]
 obtain ⟨k,hk⟩:∃ k,intactS p f i=k:=⟨_,rfl⟩
 unfold nextS at hr
 rw [hk] at hr
 have hin:=fun w=>intact_any2 hw k hk w
 have HKK:=Lib.hid hk
 have HRR:=Lib.hid hr
 have HW:=Lib.hid hw
 clear hk hr hw
 generalize hv:outV k=v at hin
 have HV:=Lib.hid hv
 clear hv
 have hbp:=blw w (Obj.cells (recA p) 147)
 have hb0:=hbp.trans ((blw (w.alloc (Obj.cells (recA p) 147)) (Obj.cells (ffA f) 150)).mono hbp.size)
 have X:((w.alloc (Obj.cells (recA p) 147)).alloc (Obj.cells (ffA f) 150)).heap[w.heap.size]?=some (.cells (recA p) 147 (0,0)):=tr_al (Obj.cells (ffA f) 150) (heap_alloc_new w (Obj.cells (recA p) 147))
 have Y:((w.alloc (Obj.cells (recA p) 147)).alloc (Obj.cells (ffA f) 150)).heap[w.heap.size+1]?=some (.cells (ffA f) 150 (0,0)):=by
  have:=heap_alloc_new (w.alloc (Obj.cells (recA p) 147)) (Obj.cells (ffA f) 150)
  rwa [show (w.alloc (Obj.cells (recA p) 147)).heap.size=w.heap.size+1 by simp] at this
 go_enter func80,ntmps80
 refine seqH fun K HK=>?_
 go_wp2
 refine HK.out _ _ ?_
 clear HK
 generalize (w.alloc (Obj.cells (recA p) 147)).alloc (Obj.cells (ffA f) 150)=w1 at *
 generalize w.heap.size+1=y at *
 refine seqH fun K HK=>?_
 refine seqH fun K HK=>?_
 go_wp2_with (first
   | ((with_reducible refine wpList_ldB 147 _ ?_);refine ⟨rfl,_,⟨_,_,_,_,_,isAgg147,sizeOf147,rfl,‹_›,arr_all rfl⟩,?_⟩)
   | ((with_reducible refine wpList_ldB 150 _ ?_);refine ⟨rfl,_,⟨_,_,_,_,_,isAgg150,sizeOf150,rfl,‹_›,arr_all rfl⟩,?_⟩)
   | (with_reducible refine wpList_bpr (p:=p) (f:=f) (i:=i) _ _ _ (by simp [Act.eval]) (by simp [Act.eval]) (by simp [Act.eval]) ?_)
   | (go_at_call 155;refine (hin _).mono ?_;rintro e w2 ⟨rfl,hb2⟩))
 refine HK.out _ _ ?_
 clear HK
 have X2:=tr_bl hb2 X
 have hb3:=hb0.trans (hb2.mono hb0.size)
 have c0:=rc_0 X2
 have c4:=rc_4 X2
 clear hin X Y hb0 hb2 hbp
 have hk:=HKK.out
 have hr:=HRR.out
 have hw:=HW.out
 clear HKK HRR HW
 rw [← HV.out]
 clear HV
 cases k with
 | some k=>
  have hk2:k < 2:=intact_lt hk
  obtain rfl:1 - k=r:=hr
  clear hk hw
  rw [show outV (some k)=.int .i64 (k:Int) from rfl]
  rcases (show k=0∨k=1 by omega) with rfl | rfl
  all_goals
   go_wp2
   go_ret
   exact ⟨rfl,hb3⟩
 | none=>
  rw [show outV none=.int .i64 (-1) from rfl]
  simp only at hr
  clear hk
  cases h1:((p.st:Int)==1)
  case false=>
   have h1n:p.st≠1:=fun h=>by rw [h] at h1;exact absurd h1 (by decide)
   obtain rfl:0=r:=by rw [← hr,if_neg h1n]
   clear hr h1n hw
   go_wp2
   refine HK.out _ _ ?_
   clear HK
   go_wp2
   go_ret
   exact ⟨rfl,hb3⟩
  case true=>
   have h1n:p.st=1:=by rw [beq_iff_eq] at h1;omega
   rw [if_pos h1n] at hr
   rw [h1n] at c0
   clear h1n h1
   rcases hw with hw | hw
   all_goals
    rw [hw] at hr c4
    subst hr
    clear hw
    go_wp2
    refine HK.out _ _ ?_
    clear HK
    go_wp2
    go_ret
    exact ⟨by kernel_rfl,hb3⟩
end
end
end Go.Proofs.YtbdonjenekhmdaaGreatDoor
