/- Texts that the claim leans on, part 4: K1b, K5b, I0, K2b, K8, K9, I4, I4b. -/
import Derived.Test.YtbdonjenekhmdaaGreatDoorZ1
import Derived.Test.YtbdonjenekhmdaaGreatDoorZ2
import Derived.Test.YtbdonjenekhmdaaGreatDoorZ3
namespace Go.Proofs.YtbdonjenekhmdaaGreatDoor
open Go.RowKit Go.Proofs.Tryz
set_option maxRecDepth 100000
set_option maxHeartbeats 32000000
section
end
section
end
section
structure Rw where
 seq:Int
 rep:Rp
structure Tb where
 r0:Rw
 r1:Rw
 r2:Rw
 r3:Rw
structure Im where
 idx:Int
 st:List Pr
 tb:Tb
def zeroR:Rp:=⟨0,false,⟨#[]⟩⟩
def zeroB (r:Rp):Bool:=r.err==0 && r.found==false && r.val.toList==[]
def badR (r:Rp):Bool:=decide (r.err < 0) || decide (999 < r.err) || decide (16 < r.val.size)
def oddR (r:Rw):Bool:=if r.seq=0 then !zeroB r.rep else decide (r.seq < 0) || decide (big40 < r.seq) || badR r.rep
def mayT (t:Tb):Bool:=!oddR t.r0 && !oddR t.r1 && !oddR t.r2 && !oddR t.r3
def Tb.at (t:Tb) (c:Int):Rw:=if c=0 then t.r0 else if c=1 then t.r1 else if c=2 then t.r2 else t.r3
def Tb.put (t:Tb) (c:Int) (r:Rw):Tb:=if c=0 then { t with r0:=r } else if c=1 then { t with r1:=r } else if c=2 then { t with r2:=r } else { t with r3:=r }
def mayI (m:Im):Bool:=decide (0≤m.idx) && decide (m.idx≤big40) && mayS m.st && mayT m.tb
def zeroT:Tb:=⟨⟨0,zeroR⟩,⟨0,zeroR⟩,⟨0,zeroR⟩,⟨0,zeroR⟩⟩
def zeroI:Im:=⟨0,[],zeroT⟩
def applyP (m:Im) (index:Int) (e:En):Im×Rp×Int:=
 if mayI m=false∨mayE e=false∨m.idx=big40∨index≠m.idx+1 then (zeroI,zeroR,2)
 else if e.kind=1 then ({ m with idx:=index },zeroR,0)
 else
  let last:=m.tb.at e.cli
  if e.seq < last.seq then ({ m with idx:=index },⟨220,false,⟨#[]⟩⟩,0)
  else if e.seq=last.seq then ({ m with idx:=index },last.rep,0)
  else
   let d:=doP m.st e.op
   (⟨index,d.1,m.tb.put e.cli ⟨e.seq,d.2⟩⟩,d.2,0)
def oddRef (r:Rw):Bool:=decide (r.seq < 0) || decide (big40 < r.seq) || badR r.rep || (r.seq==0 && !zeroB r.rep)
end
section
def rpV (r:Rp):Value:=.agg #[.int .i64 r.err,.bool r.found,.string r.val]
end
section
@[go_sem] theorem eqOp (k k':Int) (a b c a' b' c':Tx) (w:World):(Op.equalIn 10000 71 (.agg #[.int .u8 k,.string a,.string b,.string c]) (.agg #[.int .u8 k',.string a',.string b',.string c'])).run Tryz.prog w=.ok (k==k' && a.toList==a'.toList && b.toList==b'.toList && c.toList==c'.toList) w:=by
 have u3:=underlying9
 have a3:=isAgg9
 have z3:=sizeOf9
 have u5:=underlying5
 have a5:=isAgg5
 have z5:=sizeOf5
 have hS:Tryz.prog.underlying 71=some (.struct (Tryz.prog.fieldsOf 71)):=by kernel_rfl
 rw [show (10000:Nat)=9999+1 from rfl,run_equalIn_agg w 9999 71 _ _ hS (by kernel_rfl)]
 simp only [Program.fieldsOf,underlying71]
 go_simp
 cases h1:(k==k') <;> cases h2:(a.toList==a'.toList) <;> cases h3:(b.toList==b'.toList) <;> cases h4:(c.toList==c'.toList) <;> simp_all
def sameUp (l m:List Pr) (k:Nat):Prop:=∀ i x y,i < k→l[i]?=some x→m[i]?=some y→x=y
end
section
def opV (o:Opn):Value:=.agg #[.int .u8 o.kind,.string o.key,.string o.old,.string o.val]
theorem tx_nil {s:Tx} (h:s.size=0):s=⟨#[]⟩:=by
 apply tx_ext
 have:=tx_len s
 rw [h] at this
 rw [List.eq_nil_of_length_eq_zero this,ByteArray.toList_eq]
theorem tx_some {s:Tx} (h:¬ s.size=0):s.toList.isEmpty=false∧(s.toList==[])=false:=by
 have:=tx_len s
 cases hl:s.toList with
 | nil=>rw [hl] at this;exact absurd this.symm h
 | cons a l=>exact ⟨rfl,rfl⟩
def mayV (k:Int) (old val:Tx):Bool:=if k=1∨k=3 then decide (old.size=0) && decide (val.size=0) else if k=2 then decide (old.size=0) else decide (k=4)
theorem mayO_eq (k:Int) (key old val:Tx):mayO ⟨k,key,old,val⟩=(keyOk key && valOk old && valOk val && mayV k old val):=rfl
end
section
theorem mv1_ok {k:Int} (hk:k=1∨k=3):mayV k ⟨#[]⟩ ⟨#[]⟩=true:=by unfold mayV;rw [if_pos hk];rfl
theorem mv1_old {k:Int} {old val:Tx} (hk:k=1∨k=3) (h:¬ old.size=0):mayV k old val=false:=by unfold mayV;rw [if_pos hk,decide_eq_false h];rfl
theorem mv1_val {k:Int} {old val:Tx} (hk:k=1∨k=3) (h:¬ val.size=0):mayV k old val=false:=by unfold mayV;rw [if_pos hk,decide_eq_false h,Bool.and_false]
theorem mv2_ok (val:Tx):mayV 2 ⟨#[]⟩ val=true:=by unfold mayV;rw [if_neg (by decide),if_pos rfl];rfl
theorem mv2_no {old val:Tx} (h:¬ old.size=0):mayV 2 old val=false:=by unfold mayV;rw [if_neg (by decide),if_pos rfl,decide_eq_false h]
theorem mv4 (old val:Tx):mayV 4 old val=true:=by unfold mayV;rw [if_neg (by decide),if_neg (by decide)];rfl
theorem mv_no {k:Int} {old val:Tx} (h1:(k==1)=false) (h3:(k==3)=false) (h2:(k==2)=false) (h4:(k==4)=false):mayV k old val=false:=by
 simp only [beq_eq_false_iff_ne] at h1 h2 h3 h4
 unfold mayV
 rw [if_neg (by omega),if_neg h2,decide_eq_false h4]
theorem keyOk_no {key:Tx} (h:key.size < 1∨8 < key.size):keyOk key=false:=by
 unfold keyOk
 rcases h with h | h
 ·rw [decide_eq_false (by omega)];rfl
 ·rw [decide_eq_false (show ¬ key.size≤8 by omega),Bool.and_false]
theorem keyOk_yes {key:Tx} (h:1≤key.size) (h2:key.size≤8):keyOk key=true:=by unfold keyOk;rw [decide_eq_true h,decide_eq_true h2];rfl
theorem mo_key {a b c d r:Bool} (hr:(a && b && c && d)=r) (h:a=false):r=false:=by rw [← hr,h];rfl
theorem mo_old {a b c d r:Bool} (hr:(a && b && c && d)=r) (h:b=false):r=false:=by rw [← hr,h];simp
theorem mo_val {a b c d r:Bool} (hr:(a && b && c && d)=r) (h:c=false):r=false:=by rw [← hr,h];simp
theorem mo_v {a b c d r:Bool} (hr:(a && b && c && d)=r) (h:d=false):r=false:=by rw [← hr,h];simp
theorem mo_yes {a b c d r:Bool} (hr:(a && b && c && d)=r) (h1:a=true) (h2:b=true) (h3:c=true) (h4:d=true):r=true:=by rw [← hr,h1,h2,h3,h4];rfl
theorem vo_yes {v:Tx} (h:v.size≤16):valOk v=true:=decide_eq_true h
theorem vo_no {v:Tx} (h:¬ v.size≤16):valOk v=false:=decide_eq_false h
theorem emayO_any (k:Int) (key old val:Tx) (w:World) (r:Bool) (hr:mayO ⟨k,key,old,val⟩=r) :
  Calls Tryz.prog 193 #[.agg #[.int .u8 k,.string key,.string old,.string val]] w fun e w'=>e=.returned (.bool r)∧Below w.heap.size w w':=by
 rw [mayO_eq] at hr
 have HR:=Lib.hid hr
 clear hr
 have hb0:Below w.heap.size w (w.alloc (Obj.cells #[.int .u8 k,.string key,.string old,.string val] 71)):=(Below.refl _ _).alloc (Nat.le_refl _) _
 have hkd:k=1∨k=3∨k=2∨k=4∨((k==1)=false∧(k==3)=false∧(k==2)=false∧(k==4)=false):=by
  simp only [beq_eq_false_iff_ne]
  omega
 have HKD:=Lib.hid hkd
 clear hkd
 have hk:key.size < 1∨(1≤key.size∧8 < key.size)∨(1≤key.size∧key.size≤8):=by omega
 rcases hk with hk | ⟨hk,hk2⟩ | ⟨hk,hk2⟩
 ·obtain rfl:=mo_key HR.out (keyOk_no (.inl hk))
  rcases HKD.out with rfl | rfl | rfl | rfl | ⟨k1,k2,k3,k4⟩
  all_goals
   go_enter func193,ntmps193
   go_wp2
   go_ret
   exact ⟨ret_bool (by first | rfl | (exact decide_eq_false (by omega))),hb0⟩
 ·obtain rfl:=mo_key HR.out (keyOk_no (.inr hk2))
  rcases HKD.out with rfl | rfl | rfl | rfl | ⟨k1,k2,k3,k4⟩
  all_goals
   go_enter func193,ntmps193
   go_wp2
   go_ret
   exact ⟨ret_bool (by first | rfl | (exact decide_eq_false (by omega))),hb0⟩
 ·rcases HKD.out with rfl | rfl | rfl | rfl | ⟨k1,k2,k3,k4⟩
  ·by_cases hv:val.size=0
   ·obtain rfl:=tx_nil hv
    by_cases ho:old.size=0
    ·obtain rfl:=tx_nil ho
     obtain rfl:=mo_yes HR.out (keyOk_yes hk hk2) rfl rfl (mv1_ok (.inl rfl))
     clear hv ho
     go_enter func193,ntmps193
     go_wp2
     go_ret
     exact ⟨ret_bool (by first | rfl | (exact decide_eq_true (by omega)) | (exact decide_eq_false (by omega))),hb0⟩
    ·obtain ⟨n1,n2⟩:=tx_some ho
     obtain rfl:=mo_v HR.out (mv1_old (.inl rfl) ho)
     clear hv
     go_enter func193,ntmps193
     go_wp2
     go_ret
     exact ⟨ret_bool (by first | rfl | (exact decide_eq_true (by omega)) | (exact decide_eq_false (by omega))),hb0⟩
   ·obtain ⟨n1,n2⟩:=tx_some hv
    obtain rfl:=mo_v HR.out (mv1_val (.inl rfl) hv)
    go_enter func193,ntmps193
    go_wp2
    go_ret
    exact ⟨ret_bool (by first | rfl | (exact decide_eq_true (by omega)) | (exact decide_eq_false (by omega))),hb0⟩
  ·by_cases hv:val.size=0
   ·obtain rfl:=tx_nil hv
    by_cases ho:old.size=0
    ·obtain rfl:=tx_nil ho
     obtain rfl:=mo_yes HR.out (keyOk_yes hk hk2) rfl rfl (mv1_ok (.inr rfl))
     clear hv ho
     go_enter func193,ntmps193
     go_wp2
     go_ret
     exact ⟨ret_bool (by first | rfl | (exact decide_eq_true (by omega)) | (exact decide_eq_false (by omega))),hb0⟩
    ·obtain ⟨n1,n2⟩:=tx_some ho
     obtain rfl:=mo_v HR.out (mv1_old (.inr rfl) ho)
     clear hv
     go_enter func193,ntmps193
     go_wp2
     go_ret
     exact ⟨ret_bool (by first | rfl | (exact decide_eq_true (by omega)) | (exact decide_eq_false (by omega))),hb0⟩
   ·obtain ⟨n1,n2⟩:=tx_some hv
    obtain rfl:=mo_v HR.out (mv1_val (.inr rfl) hv)
    go_enter func193,ntmps193
    go_wp2
    go_ret
    exact ⟨ret_bool (by first | rfl | (exact decide_eq_true (by omega)) | (exact decide_eq_false (by omega))),hb0⟩
  ·by_cases ho:old.size=0
   ·obtain rfl:=tx_nil ho
    clear ho
    by_cases hv:val.size≤16
    ·obtain rfl:=mo_yes HR.out (keyOk_yes hk hk2) rfl (vo_yes hv) (mv2_ok _)
     go_enter func193,ntmps193
     go_wp2
     go_ret
     exact ⟨ret_bool (by first | rfl | (exact decide_eq_true (by omega)) | (exact decide_eq_false (by omega))),hb0⟩
    ·obtain rfl:=mo_val HR.out (vo_no hv)
     go_enter func193,ntmps193
     go_wp2
     go_ret
     exact ⟨ret_bool (by first | rfl | (exact decide_eq_true (by omega)) | (exact decide_eq_false (by omega))),hb0⟩
   ·obtain ⟨n1,n2⟩:=tx_some ho
    obtain rfl:=mo_v HR.out (mv2_no ho)
    go_enter func193,ntmps193
    go_wp2
    go_ret
    exact ⟨ret_bool (by first | rfl | (exact decide_eq_true (by omega)) | (exact decide_eq_false (by omega))),hb0⟩
  ·by_cases ho:old.size≤16
   ·by_cases hv:val.size≤16
    ·obtain rfl:=mo_yes HR.out (keyOk_yes hk hk2) (vo_yes ho) (vo_yes hv) (mv4 _ _)
     go_enter func193,ntmps193
     go_wp2
     go_ret
     exact ⟨ret_bool (by first | rfl | (exact decide_eq_true (by omega)) | (exact decide_eq_false (by omega))),hb0⟩
    ·obtain rfl:=mo_val HR.out (vo_no hv)
     go_enter func193,ntmps193
     go_wp2
     go_ret
     exact ⟨ret_bool (by first | rfl | (exact decide_eq_true (by omega)) | (exact decide_eq_false (by omega))),hb0⟩
   ·obtain rfl:=mo_old HR.out (vo_no ho)
    go_enter func193,ntmps193
    go_wp2
    go_ret
    exact ⟨ret_bool (by first | rfl | (exact decide_eq_true (by omega)) | (exact decide_eq_false (by omega))),hb0⟩
  ·obtain rfl:=mo_v HR.out (mv_no k1 k2 k3 k4)
   go_enter func193,ntmps193
   go_wp2
   go_ret
   exact ⟨ret_bool (by first | rfl | (exact decide_eq_true (by omega)) | (exact decide_eq_false (by omega))),hb0⟩
theorem fmayO_any (k:Int) (key old val:Tx) (w:World) (r:Bool) (hr:mayO ⟨k,key,old,val⟩=r) :
  Calls Tryz.prog 202 #[.agg #[.int .u8 k,.string key,.string old,.string val]] w fun e w'=>e=.returned (.bool r)∧Below w.heap.size w w':=by
 rw [mayO_eq] at hr
 have HR:=Lib.hid hr
 clear hr
 have hb0:Below w.heap.size w (w.alloc (Obj.cells #[.int .u8 k,.string key,.string old,.string val] 71)):=(Below.refl _ _).alloc (Nat.le_refl _) _
 have hkd:k=1∨k=3∨k=2∨k=4∨((k==1)=false∧(k==3)=false∧(k==2)=false∧(k==4)=false):=by
  simp only [beq_eq_false_iff_ne]
  omega
 have HKD:=Lib.hid hkd
 clear hkd
 have hk:key.size < 1∨(1≤key.size∧8 < key.size)∨(1≤key.size∧key.size≤8∧¬ old.size≤16)∨(1≤key.size∧key.size≤8∧old.size≤16∧¬ val.size≤16)∨(1≤key.size∧key.size≤8∧old.size≤16∧val.size≤16):=by omega
 rcases hk with hk | ⟨hk,hk2⟩ | ⟨hk,hk2,hk3⟩ | ⟨hk,hk2,hk3,hk4⟩ | ⟨hk,hk2,hk3,hk4⟩
 ·obtain rfl:=mo_key HR.out (keyOk_no (.inl hk))
  go_enter func202,ntmps202
  go_wp2
  go_ret
  exact ⟨ret_bool (by first | rfl | (exact decide_eq_true (by omega)) | (exact decide_eq_false (by omega))),hb0⟩
 ·obtain rfl:=mo_key HR.out (keyOk_no (.inr hk2))
  go_enter func202,ntmps202
  go_wp2
  go_ret
  exact ⟨ret_bool (by first | rfl | (exact decide_eq_true (by omega)) | (exact decide_eq_false (by omega))),hb0⟩
 ·obtain rfl:=mo_old HR.out (vo_no hk3)
  go_enter func202,ntmps202
  go_wp2
  go_ret
  exact ⟨ret_bool (by first | rfl | (exact decide_eq_true (by omega)) | (exact decide_eq_false (by omega))),hb0⟩
 ·obtain rfl:=mo_val HR.out (vo_no hk4)
  go_enter func202,ntmps202
  go_wp2
  go_ret
  exact ⟨ret_bool (by first | rfl | (exact decide_eq_true (by omega)) | (exact decide_eq_false (by omega))),hb0⟩
 ·rcases HKD.out with rfl | rfl | rfl | rfl | ⟨k1,k2,k3,k4⟩
  ·by_cases hv:val.size=0
   ·obtain rfl:=tx_nil hv
    by_cases ho:old.size=0
    ·obtain rfl:=tx_nil ho
     obtain rfl:=mo_yes HR.out (keyOk_yes hk hk2) rfl rfl (mv1_ok (.inl rfl))
     clear hv ho
     go_enter func202,ntmps202
     go_wp2
     go_ret
     exact ⟨ret_bool (by first | rfl | (exact decide_eq_true (by omega)) | (exact decide_eq_false (by omega))),hb0⟩
    ·obtain ⟨n1,n2⟩:=tx_some ho
     obtain rfl:=mo_v HR.out (mv1_old (.inl rfl) ho)
     clear hv
     go_enter func202,ntmps202
     go_wp2
     go_ret
     exact ⟨ret_bool (by first | rfl | (exact decide_eq_true (by omega)) | (exact decide_eq_false (by omega))),hb0⟩
   ·obtain ⟨n1,n2⟩:=tx_some hv
    by_cases ho:old.size=0
    ·obtain rfl:=tx_nil ho
     obtain rfl:=mo_v HR.out (mv1_val (.inl rfl) hv)
     clear ho
     go_enter func202,ntmps202
     go_wp2
     go_ret
     exact ⟨ret_bool (by first | rfl | (exact decide_eq_true (by omega)) | (exact decide_eq_false (by omega))),hb0⟩
    ·obtain ⟨m1,m2⟩:=tx_some ho
     obtain rfl:=mo_v HR.out (mv1_val (.inl rfl) hv)
     go_enter func202,ntmps202
     go_wp2
     go_ret
     exact ⟨ret_bool (by first | rfl | (exact decide_eq_true (by omega)) | (exact decide_eq_false (by omega))),hb0⟩
  ·by_cases hv:val.size=0
   ·obtain rfl:=tx_nil hv
    by_cases ho:old.size=0
    ·obtain rfl:=tx_nil ho
     obtain rfl:=mo_yes HR.out (keyOk_yes hk hk2) rfl rfl (mv1_ok (.inr rfl))
     clear hv ho
     go_enter func202,ntmps202
     go_wp2
     go_ret
     exact ⟨ret_bool (by first | rfl | (exact decide_eq_true (by omega)) | (exact decide_eq_false (by omega))),hb0⟩
    ·obtain ⟨n1,n2⟩:=tx_some ho
     obtain rfl:=mo_v HR.out (mv1_old (.inr rfl) ho)
     clear hv
     go_enter func202,ntmps202
     go_wp2
     go_ret
     exact ⟨ret_bool (by first | rfl | (exact decide_eq_true (by omega)) | (exact decide_eq_false (by omega))),hb0⟩
   ·obtain ⟨n1,n2⟩:=tx_some hv
    by_cases ho:old.size=0
    ·obtain rfl:=tx_nil ho
     obtain rfl:=mo_v HR.out (mv1_val (.inr rfl) hv)
     clear ho
     go_enter func202,ntmps202
     go_wp2
     go_ret
     exact ⟨ret_bool (by first | rfl | (exact decide_eq_true (by omega)) | (exact decide_eq_false (by omega))),hb0⟩
    ·obtain ⟨m1,m2⟩:=tx_some ho
     obtain rfl:=mo_v HR.out (mv1_val (.inr rfl) hv)
     go_enter func202,ntmps202
     go_wp2
     go_ret
     exact ⟨ret_bool (by first | rfl | (exact decide_eq_true (by omega)) | (exact decide_eq_false (by omega))),hb0⟩
  ·by_cases ho:old.size=0
   ·obtain rfl:=tx_nil ho
    obtain rfl:=mo_yes HR.out (keyOk_yes hk hk2) rfl (vo_yes hk4) (mv2_ok _)
    clear ho
    go_enter func202,ntmps202
    go_wp2
    go_ret
    exact ⟨ret_bool (by first | rfl | (exact decide_eq_true (by omega)) | (exact decide_eq_false (by omega))),hb0⟩
   ·obtain ⟨n1,n2⟩:=tx_some ho
    obtain rfl:=mo_v HR.out (mv2_no ho)
    go_enter func202,ntmps202
    go_wp2
    go_ret
    exact ⟨ret_bool (by first | rfl | (exact decide_eq_true (by omega)) | (exact decide_eq_false (by omega))),hb0⟩
  ·obtain rfl:=mo_yes HR.out (keyOk_yes hk hk2) (vo_yes hk3) (vo_yes hk4) (mv4 _ _)
   go_enter func202,ntmps202
   go_wp2
   go_ret
   exact ⟨ret_bool (by first | rfl | (exact decide_eq_true (by omega)) | (exact decide_eq_false (by omega))),hb0⟩
  ·obtain rfl:=mo_v HR.out (mv_no k1 k2 k3 k4)
   go_enter func202,ntmps202
   go_wp2
   go_ret
   exact ⟨ret_bool (by first | rfl | (exact decide_eq_true (by omega)) | (exact decide_eq_false (by omega))),hb0⟩
end
section
@[go_sem] theorem eqOp9 (k k':Int) (a b c a' b' c':Tx) (w:World):(Op.equalIn 9999 71 (.agg #[.int .u8 k,.string a,.string b,.string c]) (.agg #[.int .u8 k',.string a',.string b',.string c'])).run Tryz.prog w=.ok (k==k' && a.toList==a'.toList && b.toList==b'.toList && c.toList==c'.toList) w:=by
 have u3:=underlying9
 have a3:=isAgg9
 have z3:=sizeOf9
 have u5:=underlying5
 have a5:=isAgg5
 have z5:=sizeOf5
 have hS:Tryz.prog.underlying 71=some (.struct (Tryz.prog.fieldsOf 71)):=by kernel_rfl
 rw [show (9999:Nat)=9998+1 from rfl,run_equalIn_agg w 9998 71 _ _ hS (by kernel_rfl)]
 simp only [Program.fieldsOf,underlying71]
 go_simp
 cases h1:(k==k') <;> cases h2:(a.toList==a'.toList) <;> cases h3:(b.toList==b'.toList) <;> cases h4:(c.toList==c'.toList) <;> simp_all
@[go_sem] theorem eqEntry (q q' c1 c1' s s' k k':Int) (a b c a' b' c':Tx) (w:World):(Op.equalIn 10000 73 (.agg #[.int .u8 q,.int .i64 c1,.int .i64 s,.int .u8 k,.string a,.string b,.string c]) (.agg #[.int .u8 q',.int .i64 c1',.int .i64 s',.int .u8 k',.string a',.string b',.string c'])).run Tryz.prog w=.ok (q==q' && c1==c1' && s==s' && (k==k' && a.toList==a'.toList && b.toList==b'.toList && c.toList==c'.toList)) w:=by
 have u3:=underlying3
 have a3:=isAgg3
 have z3:=sizeOf3
 have u5:=underlying5
 have a5:=isAgg5
 have z5:=sizeOf5
 have a4:=isAgg71
 have z4:=sizeOf71
 have hS:Tryz.prog.underlying 73=some (.struct (Tryz.prog.fieldsOf 73)):=by kernel_rfl
 rw [show (10000:Nat)=9999+1 from rfl,run_equalIn_agg w 9999 73 _ _ hS (by kernel_rfl)]
 simp only [Program.fieldsOf,underlying73]
 go_simp
 cases h1:(q==q') <;> cases h2:(c1==c1') <;> cases h3:(s==s') <;> cases h4:(k==k') <;> cases h5:(a.toList==a'.toList) <;> cases h6:(b.toList==b'.toList) <;> cases h7:(c.toList==c'.toList) <;> simp_all
theorem mayE_noop {e:En} (h:e.kind=1):mayE e=(e.cli==0 && e.seq==0 && nilO e.op):=by unfold mayE;rw [if_pos h]
theorem mayE_op {e:En} (h:e.kind=2):mayE e=(decide (0≤e.cli) && decide (e.cli < 4) && decide (1≤e.seq) && decide (e.seq≤1099511627776) && mayO e.op && e.op.kind != 1):=by
 unfold mayE
 rw [if_neg (by omega)]
 simp [h,big40]
 rfl
theorem mayE_else {e:En} (h:e.kind≠1) (h2:e.kind≠2):mayE e=false:=by
 unfold mayE
 rw [if_neg h]
 have:(e.kind==2)=false:=by simpa using h2
 simp [this]
theorem emay_any (e:En) (w:World) (r:Bool) (hr:mayE e=r):Calls Tryz.prog 150 #[.agg (enA e)] w fun en w'=>en=.returned (.bool r)∧Below w.heap.size w w':=by
 obtain ⟨kd,cl,sq,⟨ok,key,old,val⟩⟩:=e
 unfold enA
 simp only
 have hb0:Below w.heap.size w (w.alloc (Obj.cells #[.int .u8 kd,.int .i64 cl,.int .i64 sq,.int .u8 ok,.string key,.string old,.string val] 73)):=(Below.refl _ _).alloc (Nat.le_refl _) _
 have HR:=Lib.hid hr
 clear hr
 by_cases k1:kd=1
 ·subst k1
  have hz:(1==(1:Int) && cl==0 && sq==0 && (ok==0 && key.toList==[] && old.toList==[] && val.toList==[]))=r:=by
   rw [← HR.out,mayE_noop rfl]
   rfl
  have HZ:=Lib.hid hz
  clear hz
  go_enter func150,ntmps150
  go_wp2
  all_goals
   go_ret
   exact ⟨ret_bool (by rw [← HZ.out];simp [*]),by (repeat' (first | (with_reducible exact Below.refl _ _) | (with_reducible assumption) | (with_reducible refine Below.alloc ?_ ?_ _) | (with_reducible refine Below.drew ?_) | (with_reducible refine below_drewN ?_ _) | (with_reducible refine Below.setCell ?_ ?_ _) | (with_reducible refine Below.trans ?_ (by assumption)) | go_size))⟩
 ·have k1b:(kd==1)=false:=beq_eq_false_iff_ne.2 k1
  by_cases k2:kd=2
  ·subst k2
   have hm:=(mayE_op (e:=⟨2,cl,sq,⟨ok,key,old,val⟩⟩) rfl).symm.trans HR.out
   have HM:=Lib.hid hm
   have hcs:cl < 0∨(0≤cl∧4≤cl)∨(0≤cl∧cl < 4∧sq < 1)∨(0≤cl∧cl < 4∧1≤sq∧1099511627776 < sq)∨(0≤cl∧cl < 4∧1≤sq∧sq≤1099511627776):=by omega
   obtain ⟨mo,hmo⟩:∃ mo,mayO ⟨ok,key,old,val⟩=mo:=⟨_,rfl⟩
   have HMO:=Lib.hid hmo
   clear hm k1 k1b hmo
   rcases hcs with h | ⟨h,h2⟩ | ⟨h,h2,h3⟩ | ⟨h,h2,h3,h4⟩ | ⟨h,h2,h3,h4⟩
   ·obtain rfl:r=false:=by rw [← HM.out,decide_eq_false (show ¬ 0≤cl by omega)];simp
    go_enter func150,ntmps150
    go_wp2
    go_ret
    exact ⟨rfl,hb0⟩
   ·obtain rfl:r=false:=by rw [← HM.out,decide_eq_false (show ¬ cl < 4 by omega)];simp
    go_enter func150,ntmps150
    go_wp2
    go_ret
    exact ⟨rfl,hb0⟩
   ·obtain rfl:r=false:=by rw [← HM.out,decide_eq_false (show ¬ 1≤sq by omega)];simp
    go_enter func150,ntmps150
    go_wp2
    go_ret
    exact ⟨rfl,hb0⟩
   ·obtain rfl:r=false:=by rw [← HM.out,decide_eq_false (show ¬ sq≤1099511627776 by omega)];simp
    go_enter func150,ntmps150
    go_wp2
    go_ret
    exact ⟨rfl,hb0⟩
   ·have hr2:(mo && ok != 1)=r:=by rw [← HM.out,HMO.out,decide_eq_true h,decide_eq_true (show cl < 4 by omega),decide_eq_true h3,decide_eq_true h4];simp
    have HR2:=Lib.hid hr2
    clear hr2
    cases mo
    all_goals
     go_enter func150,ntmps150
     go_wp2_with (go_at_call 193;refine (emayO_any _ _ _ _ _ _ HMO.out).mono ?_;rintro en w1 ⟨rfl,hb1⟩;have d3:=blk_cell ((hb1.block w.heap.size (by simp)).trans (heap_alloc_new w (Obj.cells #[.int .u8 2,.int .i64 cl,.int .i64 sq,.int .u8 ok,.string key,.string old,.string val] 73))) 3 _ rfl)
     all_goals
      go_ret
      exact ⟨ret_bool (by rw [← HR2.out];first | rfl | simp [*]),hb0.trans (hb1.mono hb0.size)⟩
  ·have k2b:(kd==2)=false:=beq_eq_false_iff_ne.2 k2
   have hrf:r=false:=by rw [← HR.out];exact mayE_else k1 k2
   subst hrf
   clear k1 k2
   go_enter func150,ntmps150
   go_wp2
   go_ret
   exact ⟨rfl,hb0⟩
theorem fmay_any (e:En) (w:World) (r:Bool) (hr:mayE e=r):Calls Tryz.prog 159 #[.agg (enA e)] w fun en w'=>en=.returned (.bool r)∧Below w.heap.size w w':=by
 obtain ⟨kd,cl,sq,⟨ok,key,old,val⟩⟩:=e
 unfold enA
 simp only
 have hb0:Below w.heap.size w (w.alloc (Obj.cells #[.int .u8 kd,.int .i64 cl,.int .i64 sq,.int .u8 ok,.string key,.string old,.string val] 73)):=(Below.refl _ _).alloc (Nat.le_refl _) _
 have HR:=Lib.hid hr
 clear hr
 go_enter func159,ntmps159
 refine seqH fun K HK=>?_
 go_wp2
 refine HK.out _ _ ?_
 clear HK
 have d0:=blk_cell (heap_alloc_new w (Obj.cells #[.int .u8 kd,.int .i64 cl,.int .i64 sq,.int .u8 ok,.string key,.string old,.string val] 73)) 0 _ rfl
 refine wp_seq_k (fun K hK=>?_)
 go_cut [3] (fun z wx=>z=.bool (cl==0 && sq==0 && (ok==0 && key.toList==[] && old.toList==[] && val.toList==[]))∧wx=w.alloc (Obj.cells #[.int .u8 kd,.int .i64 cl,.int .i64 sq,.int .u8 ok,.string key,.string old,.string val] 73))
 case first=>
  cases h1:(cl==0)
  ·go_wp2
   go_meet
   exact ⟨bool_eq (by rw [h1];rfl),rfl⟩
  ·cases h2:(sq==0)
   ·go_wp2
    go_meet
    exact ⟨bool_eq (by rw [h1,h2];rfl),rfl⟩
   ·cases h3:(ok==0) <;> cases h4:(key.toList==[]) <;> cases h5:(old.toList==[]) <;> cases h6:(val.toList==[])
    all_goals
     go_wp2
     go_meet
     exact ⟨bool_eq (by rw [h1,h2,h3,h4,h5,h6];rfl),rfl⟩
 obtain ⟨rfl,rfl⟩:=hcut
 refine hK _ _ ?_;clear hK
 by_cases k1:kd=1
 ·subst k1
  have hz:(cl==0 && sq==0 && (ok==0 && key.toList==[] && old.toList==[] && val.toList==[]))=r:=by
   rw [← HR.out,mayE_noop rfl]
   rfl
  rw [hz]
  clear hz
  go_wp2
  go_ret
  exact ⟨rfl,hb0⟩
 ·have k1b:(kd==1)=false:=beq_eq_false_iff_ne.2 k1
  by_cases k2:kd=2
  ·subst k2
   have hm:=(mayE_op (e:=⟨2,cl,sq,⟨ok,key,old,val⟩⟩) rfl).symm.trans HR.out
   have HM:=Lib.hid hm
   have hcs:cl < 0∨(0≤cl∧3 < cl)∨(0≤cl∧cl≤3∧sq < 1)∨(0≤cl∧cl≤3∧1≤sq∧1099511627776 < sq)∨(0≤cl∧cl≤3∧1≤sq∧sq≤1099511627776):=by omega
   obtain ⟨mo,hmo⟩:∃ mo,mayO ⟨ok,key,old,val⟩=mo:=⟨_,rfl⟩
   have HMO:=Lib.hid hmo
   clear hm k1 k1b hmo
   generalize (cl==0 && sq==0 && (ok==0 && key.toList==[] && old.toList==[] && val.toList==[]))=zz
   rcases hcs with h | ⟨h,h2⟩ | ⟨h,h2,h3⟩ | ⟨h,h2,h3,h4⟩ | ⟨h,h2,h3,h4⟩
   ·obtain rfl:r=false:=by rw [← HM.out,decide_eq_false (show ¬ 0≤cl by omega)];simp
    go_wp2
    go_ret
    exact ⟨rfl,hb0⟩
   ·obtain rfl:r=false:=by rw [← HM.out,decide_eq_false (show ¬ cl < 4 by omega)];simp
    go_wp2
    go_ret
    exact ⟨rfl,hb0⟩
   ·obtain rfl:r=false:=by rw [← HM.out,decide_eq_false (show ¬ 1≤sq by omega)];simp
    go_wp2
    go_ret
    exact ⟨rfl,hb0⟩
   ·obtain rfl:r=false:=by rw [← HM.out,decide_eq_false (show ¬ sq≤1099511627776 by omega)];simp
    go_wp2
    go_ret
    exact ⟨rfl,hb0⟩
   ·have hr2:(mo && ok != 1)=r:=by rw [← HM.out,HMO.out,decide_eq_true h,decide_eq_true (show cl < 4 by omega),decide_eq_true h3,decide_eq_true h4];simp
    have HR2:=Lib.hid hr2
    clear hr2
    cases mo
    all_goals
     go_wp2_with (go_at_call 202;refine (fmayO_any _ _ _ _ _ _ HMO.out).mono ?_;rintro en w1 ⟨rfl,hb1⟩;have d3:=blk_cell ((hb1.block w.heap.size (by simp)).trans (heap_alloc_new w (Obj.cells #[.int .u8 2,.int .i64 cl,.int .i64 sq,.int .u8 ok,.string key,.string old,.string val] 73))) 3 _ rfl)
     all_goals
      go_ret
      exact ⟨ret_bool (by rw [← HR2.out];first | rfl | simp [*]),hb0.trans (hb1.mono hb0.size)⟩
  ·have k2b:(kd==2)=false:=beq_eq_false_iff_ne.2 k2
   have hrf:r=false:=by rw [← HR.out];exact mayE_else k1 k2
   subst hrf
   clear k1 k2
   generalize (cl==0 && sq==0 && (ok==0 && key.toList==[] && old.toList==[] && val.toList==[]))=zz
   go_wp2
   go_ret
   exact ⟨rfl,hb0⟩
end
end Go.Proofs.YtbdonjenekhmdaaGreatDoor
