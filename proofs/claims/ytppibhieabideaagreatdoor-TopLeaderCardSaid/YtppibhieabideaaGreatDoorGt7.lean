/- A part of the walk of the program, and of its plain law. -/
import Derived.Test.YtppibhieabideaaGreatDoorGt6
namespace Go.Proofs.YtppibhieabideaaGreatDoor
open Go Go.RowKit
set_option maxRecDepth 100000
namespace vd
theorem Ki (M:Files) (n:Name) (f g:File):put (put M n f) n g=put M n g:=by
 induction M with
 | nil=>simp [put]
 | cons x r ih=>
  obtain ⟨m,h⟩:=x
  by_cases hm:m=n
  ·simp [put,hm]
  ·simp [put,hm,ih]
theorem del_none (M:Files) (n:Name) (h:has M n=false):del M n=M:=by
 induction M with
 | nil=>rfl
 | cons x r ih=>
  obtain ⟨m,g⟩:=x;unfold has at h
  by_cases hm:m=n
  ·rw [if_pos hm] at h;cases h
  ·rw [if_neg hm] at h;unfold del;rw [if_neg hm,ih h]
theorem KC (M:Files) (n:Name) (f:File) (h:has M n=false):del (put M n f) n=M:=by
 induction M with
 | nil=>simp [put,del]
 | cons x r ih=>
  obtain ⟨m,g⟩:=x;unfold has at h
  by_cases hm:m=n
  ·rw [if_pos hm] at h;cases h
  ·rw [if_neg hm] at h;unfold put;rw [if_neg hm];unfold del;rw [if_neg hm,ih h]
theorem has_del (M:Files) (n:Name) (hd:(M.map (·.1)).Nodup):has (del M n) n=false:=by
 cases h:has (del M n) n with
 | false=>rfl
 | true=>
  have h1:=(kD _ _).1 h;clear h
  induction M with
  | nil=>simp [del] at h1
  | cons x r ih=>
   obtain ⟨m,g⟩:=x;rw [List.map_cons,List.nodup_cons] at hd;unfold del at h1
   by_cases hm:m=n
   ·rw [if_pos hm] at h1;rw [← hm] at h1;exact absurd h1 hd.1
   ·rw [if_neg hm,List.map_cons] at h1
    rcases List.mem_cons.1 h1 with e | e
    ·exact absurd e.symm hm
    ·exact ih hd.2 e
theorem put_len (M:Files) (n:Name) (f:File):(put M n f).length=if has M n then M.length else M.length + 1:=by
 induction M with
 | nil=>rfl
 | cons x r ih=>
  obtain ⟨m,g⟩:=x;unfold put has
  by_cases hm:m=n
  ·rw [if_pos hm,if_pos hm];rfl
  ·rw [if_neg hm,if_neg hm,List.length_cons,ih]
   cases has r n <;> rfl
theorem del_len (M:Files) (n:Name):(del M n).length≤M.length:=(yT M n).length_le
theorem kZ (M:Files) (n:Name):total (del M n)≤total M:=by have:=total_del M n;omega
def Quiet (d:Disk):Prop:=d.off=false∧d.left=0
theorem YI {d:Disk} (h:Quiet d) (f2:Files) (a:Bool):done d f2 a={ d with files:=f2 }∧doneE d=0:=by
 obtain ⟨h1,h2⟩:=h
 have h3:less d=d:=by unfold less;rw [h2];cases d;simp_all
 have h4:goes d a=true:=by unfold goes;rw [h2];rfl
 refine ⟨?_,?_⟩
 ·unfold done;rw [h4,h3]
  show (if d.left=1 then _ else _)=_
  rw [if_neg (by omega)];rfl
 ·unfold doneE;rw [h2];rfl
theorem zY {d:Disk} (h:Quiet d) {n:Name} (hn:good n=true):nameErr d.off [n]=0:=by
 unfold nameErr;rw [h.1];simp [hn]
theorem qY {d:Disk} (h:Quiet d) {n:Name} (hn:good n=true) (hh:has d.files n=true) (f2:Files) (a:Bool):there d n f2 a=({ d with files:=f2 },0):=by
 obtain ⟨h1,h2⟩:=YI h f2 a;unfold there;rw [zY h hn,hh,h1,h2];rfl
theorem Jl {d:Disk} (h:Quiet d) {n:Name} (hn:good n=true) (hh:has d.files n=false) (f2:Files) (a:Bool):there d n f2 a=(d,3):=by
 unfold there;rw [zY h hn,hh];rfl
end vd
namespace wl
open vd
theorem yS {n:Name} (h:openE n=true):good n=true∧good (n ++ [43])=true∧n ≠ n ++ [43]:=by
 unfold openE at h;rw [Bool.and_eq_true,decide_eq_true_iff,decide_eq_true_iff] at h;refine ⟨?_,?_,?_⟩
 ·unfold good;rw [Bool.and_eq_true,decide_eq_true_iff,decide_eq_true_iff];exact ⟨h.1,by omega⟩
 ·unfold good;rw [Bool.and_eq_true,decide_eq_true_iff,decide_eq_true_iff,List.length_append];exact ⟨by simp,by simp;omega⟩
 ·intro e;have:=congrArg List.length e;rw [List.length_append] at this
  simp at this
theorem Zk {f:Op1} {r:List Op1} {d d':Disk} (h:f d=(d',0)):run (f :: r) d=run r d':=by
 show (if (f d).2 ≠ 0 then f d else run r (f d).1)=_
 rw [h];rfl
theorem xv {d:Disk} {n:Name} {S:List UInt8} {e:Nat} (hr:vd.read d n=(S,e)):mend d n=if e=3∨(crcm.allOf S).2 < S.length then write d n (S.take (crcm.allOf S).2) else vd.sync d n:=by
 unfold mend;rw [hr]
theorem xp {d:Disk} {n:Name} {S:List UInt8} {e:Nat} (hn:openE n=true) (hr:vd.read d n=(S,e)):open_ d n=if e ≠ 0∧e ≠ 3 then (d,[],e) else if (mend d n).2 ≠ 0 then ((mend d n).1,[],(mend d n).2) else ((mend d n).1,(crcm.allOf S).1,0):=by
 unfold open_;rw [hn,hr];rfl
theorem kM {d d2:Disk} {l:L} {ls:List (List UInt8)} {many:Nat} {op:List UInt8→Op1} (hl:l.off=false) (hb:bytes ls=(crcm.flat ls,0)) (h:op (crcm.flat ls) d=(d2,0)):change d l ls many op=(d2,{ l with many:=many },0):=by
 unfold change
 rw [if_neg (by rw [hl];simp),hb]
 show (if (0:Nat) ≠ 0 then _ else ((op (crcm.flat ls) d).1,told l (op (crcm.flat ls) d).2 many,(op (crcm.flat ls) d).2))=_
 rw [if_neg (by simp),h]
 rfl
theorem vu {d:Disk} (h:Quiet d) {o:Name} (ho:good o=true):del d o=({ d with files:=vd.del d.files o },0):=by
 unfold del vd.delete
 cases hh:has d.files o with
 | true=>rw [qY h ho hh];rfl
 | false=>rw [Jl h ho hh,del_none _ _ hh];rfl
theorem yp {d:Disk} (h:Quiet d) (hok:Ok d) {n:Name} (hn:openE n=true) (s:List UInt8) (hl:d.files.length < 200) (hr:total (vd.del d.files (n ++ [43])) + s.length≤d.cap) :
  write d n s=({ d with files:=vd.put (vd.del d.files (n ++ [43])) n (s,s.length) },0):=by
 obtain ⟨g1,g2,g3⟩:=yS hn;obtain ⟨o,ho⟩:∃ o,n ++ [43]=o:=⟨_,rfl⟩;rw [ho] at g2 g3 hr;unfold write;rw [ho];have a1:=vu h g2;obtain ⟨M,hM⟩:∃ M,vd.del d.files o=M:=⟨_,rfl⟩
 have hno:has M o=false:=by rw [← hM];exact has_del _ _ hok.nod
 have hML:M.length < 200:=by rw [← hM];have:=del_len d.files o;omega
 rw [hM] at a1 hr ⊢;have q1:Quiet { d with files:=M }:=h
 have a2:vd.create { d with files:=M } o=({ d with files:=vd.put M o ([],0) },0):=by
  obtain ⟨h1,h2⟩:=YI q1 (vd.put M o ([],0)) false;unfold vd.create;rw [zY q1 g2]
  show (if (0:Nat) ≠ 0 then _ else if has M o=true then _ else if 200≤M.length then _ else _)=_
  rw [if_neg (by simp),hno,if_neg (by simp),if_neg (by omega),h1,h2]
 have e2:at_ (vd.put M o ([],0)) o=([],0):=by rw [at_put,if_pos rfl]
 have e3:has (vd.put M o ([],0)) o=true:=by rw [has_put];simp
 have e4:total (vd.put M o ([],0))=total M:=by
  have:=total_put M o ([],0)
  have k:(at_ M o).1.length=0:=by
   have h2:=total_del M o;rw [del_none M o hno] at h2;omega
  simp at this;omega
 have q2:Quiet { d with files:=vd.put M o ([],0) }:=h
 have a3:vd.append { d with files:=vd.put M o ([],0) } o s=({ d with files:=vd.put M o (s,0) },0):=by
  unfold vd.append;rw [if_neg]
  ·rw [qY q2 g2 e3]
   show (({ d with files:=vd.put (vd.put M o ([],0)) o ((at_ (vd.put M o ([],0)) o).1 ++ s,(at_ (vd.put M o ([],0)) o).2) }:Disk),0)=_
   rw [e2,Ki];rfl
  ·show ¬ (_∧_∧d.cap < total (vd.put M o ([],0)) + s.length)
   rw [e4];omega
 have q3:Quiet { d with files:=vd.put M o (s,0) }:=h
 have e5:has (vd.put M o (s,0)) o=true:=by rw [has_put];simp
 have a4:vd.sync { d with files:=vd.put M o (s,0) } o=({ d with files:=vd.put M o (s,s.length) },0):=by
  unfold vd.sync;rw [qY q3 g2 e5]
  show (({ d with files:=vd.put (vd.put M o (s,0)) o ((at_ (vd.put M o (s,0)) o).1,(at_ (vd.put M o (s,0)) o).1.length) }:Disk),0)=_
  rw [at_put,if_pos rfl,Ki]
 have q4:Quiet { d with files:=vd.put M o (s,s.length) }:=h
 have e6:has (vd.put M o (s,s.length)) o=true:=by rw [has_put];simp
 have a5:vd.rename { d with files:=vd.put M o (s,s.length) } o n=({ d with files:=vd.put M n (s,s.length) },0):=by
  unfold vd.rename
  have:nameErr d.off [o,n]=0:=by unfold nameErr;rw [h.1];simp [g1,g2]
  show (if nameErr d.off [o,n] ≠ 0 then _ else there _ _ _ _)=_
  rw [this,if_neg (by simp),qY q4 g2 e6]
  show (({ d with files:=vd.put (vd.del (vd.put M o (s,s.length)) o) n (at_ (vd.put M o (s,s.length)) o) }:Disk),0)=_
  rw [at_put,if_pos rfl,KC _ _ _ hno]
 exact (Zk a1).trans ((Zk a2).trans ((Zk a3).trans ((Zk a4).trans (Zk a5))))
theorem KI {d:Disk} (h:Quiet d) {n:Name} (hn:good n=true) (hh:has d.files n=true) (s:List UInt8) (hr:total d.files + s.length≤d.cap) :
  run (appendOps n s) d=({ d with files:=vd.put d.files n ((at_ d.files n).1 ++ s,((at_ d.files n).1 ++ s).length) },0):=by
 have a1:vd.append d n s=({ d with files:=vd.put d.files n ((at_ d.files n).1 ++ s,(at_ d.files n).2) },0):=by
  unfold vd.append
  rw [if_neg (by omega),qY h hn hh]
 have q1:Quiet { d with files:=vd.put d.files n ((at_ d.files n).1 ++ s,(at_ d.files n).2) }:=h
 have e1:has (vd.put d.files n ((at_ d.files n).1 ++ s,(at_ d.files n).2)) n=true:=by rw [has_put];simp
 have a2:vd.sync { d with files:=vd.put d.files n ((at_ d.files n).1 ++ s,(at_ d.files n).2) } n=({ d with files:=vd.put d.files n ((at_ d.files n).1 ++ s,((at_ d.files n).1 ++ s).length) },0):=by
  unfold vd.sync;rw [qY q1 hn e1]
  show (({ d with files:=vd.put (vd.put d.files n ((at_ d.files n).1 ++ s,(at_ d.files n).2)) n ((at_ (vd.put d.files n ((at_ d.files n).1 ++ s,(at_ d.files n).2)) n).1,(at_ (vd.put d.files n ((at_ d.files n).1 ++ s,(at_ d.files n).2)) n).1.length) }:Disk),0)=_
  rw [at_put,if_pos rfl,Ki]
 exact (Zk a1).trans (Zk a2)
theorem Yn {d:Disk} (h:Quiet d) {n:Name} (hn:good n=true):vd.read d n=if has d.files n then ((at_ d.files n).1,0) else ([],3):=by
 unfold vd.read
 rw [zY h hn,if_neg (by simp)]
theorem open_new {d:Disk} (h:Quiet d) (hok:Ok d) {n:Name} (hn:openE n=true) (hh:has d.files n=false) (hl:d.files.length < 200) :
  open_ d n=({ d with files:=vd.put (vd.del d.files (n ++ [43])) n ([],0) },[],0):=by
 have hr:=Yn h (yS hn).1;rw [hh] at hr;simp only [Bool.false_eq_true,if_false] at hr
 have hw:=yp h hok hn [] hl (by have:=kZ d.files (n ++ [43]);have:=hok.tot;simp;omega)
 have hm:mend d n=({ d with files:=vd.put (vd.del d.files (n ++ [43])) n ([],0) },0):=by
  rw [xv hr,if_pos (.inl rfl)];exact hw
 rw [xp hn hr,if_neg (by simp),hm]
 rfl
theorem JC {d:Disk} (h:Quiet d) {n:Name} (hn:openE n=true) (hh:has d.files n=true) (ts:List (List UInt8)) (ha:crcm.allOf (at_ d.files n).1=(ts,(at_ d.files n).1.length)) :
  open_ d n=({ d with files:=vd.put d.files n ((at_ d.files n).1,(at_ d.files n).1.length) },ts,0):=by
 have hr:=Yn h (yS hn).1;rw [hh] at hr;simp only [if_true] at hr
 have hm:mend d n=({ d with files:=vd.put d.files n ((at_ d.files n).1,(at_ d.files n).1.length) },0):=by
  rw [xv hr,ha,if_neg (by simp)]
  unfold vd.sync;rw [qY h (yS hn).1 hh]
 rw [xp hn hr,if_neg (by simp),hm,ha]
 rfl
theorem kP (ls:List (List UInt8)) (h:∀ t ∈ ls,t.length≤65535):bytes ls=(crcm.flat ls,0):=by
 unfold bytes;rw [if_pos];rw [List.all_eq_true];intro t ht;exact decide_eq_true (h t ht)
theorem jR (ls:List (List UInt8)) (h:∀ t ∈ ls,t.length≤65535):crcm.allOf (crcm.flat ls)=(ls,(crcm.flat ls).length):=by
 have:=crcm.allOf_flat ls [] h (crcm.flat ls).length (Nat.le_refl _);rw [List.append_nil,List.take_length,Nat.sub_self] at this;rw [this]
 simp [crcm.flat,crcm.allOf,crcm.all]
theorem append_log {d:Disk} (h:Quiet d) {l:L} (hl:l.off=false) (hn:good l.name=true) (hh:has d.files l.name=true) (ls:List (List UInt8)) (hf:∀ t ∈ ls,t.length≤65535) (hr:total d.files + (crcm.flat ls).length≤d.cap) :
  append d l ls=({ d with files:=vd.put d.files l.name ((at_ d.files l.name).1 ++ crcm.flat ls,((at_ d.files l.name).1 ++ crcm.flat ls).length) },{ l with many:=l.many + ls.length },0):=by
 exact kM hl (kP ls hf) (KI h hn hh _ hr)
theorem XB {d:Disk} (h:Quiet d) (hok:Ok d) {l:L} (hl:l.off=false) (hn:openE l.name=true) (ls:List (List UInt8)) (hf:∀ t ∈ ls,t.length≤65535) (hL:d.files.length < 200) (hr:total (vd.del d.files (l.name ++ [43])) + (crcm.flat ls).length≤d.cap) :
  reset d l ls=({ d with files:=vd.put (vd.del d.files (l.name ++ [43])) l.name (crcm.flat ls,(crcm.flat ls).length) },{ l with many:=ls.length },0):=by
 exact kM hl (kP ls hf) (yp h hok hn _ hL hr)
end wl
namespace wl
open vd
def st (c:Nat) (n:Name) (S:List UInt8) (k:Int):Disk:=⟨c,[(n,(S,S.length))],false,0,k⟩
variable {c:Nat} {n:Name} {S:List UInt8} {k:Int}
end wl
namespace wl
open vd
theorem ue {fs:List Op1} (h:∀ f ∈ fs,∀ d,Ok d→Ok (f d).1) {d:Disk} (hd:Ok d):Ok (run fs d).1:=by
 induction fs generalizing d with
 | nil=>exact hd
 | cons f r ih=>
  show Ok (if (f d).2 ≠ 0 then f d else run r (f d).1).1
  by_cases h0:(f d).2=0
  ·rw [if_neg (by simp [h0])];exact ih (λg hg=>h g (by simp [hg])) (h f (by simp) d hd)
  ·rw [if_pos h0];exact h f (by simp) d hd
theorem ud {d:Disk} (h:Ok d) (n:Name) (s:List UInt8):Ok (write d n s).1:=by
 unfold write writeOps
 refine ue (λf hf=>?_) h
 rcases List.mem_cons.1 hf with rfl | hf
 ·exact λd h=>ok_delete h _
 rcases List.mem_cons.1 hf with rfl | hf
 ·exact λd h=>ok_create h _
 rcases List.mem_cons.1 hf with rfl | hf
 ·exact λd h=>vd.ok_append h _ s
 rcases List.mem_cons.1 hf with rfl | hf
 ·exact λd h=>ok_sync h _
 rcases List.mem_cons.1 hf with rfl | hf
 ·exact λd h=>ok_rename h _ _
 cases hf
theorem kx {d:Disk} (h:Ok d) (l:L) (ls:List (List UInt8)) (m:Nat) (op:List UInt8→Op1) (ho:∀ s,Ok (op s d).1):Ok (change d l ls m op).1:=by
 unfold change
 split
 ·exact h
 ·split
  ·exact h
  ·exact ho _
theorem ok_append {d:Disk} (h:Ok d) (l:L) (ls:List (List UInt8)):Ok (append d l ls).1:=by
 refine kx h _ _ _ _ (λs=>?_)
 unfold appendOps
 refine ue (λf hf=>?_) h
 rcases List.mem_cons.1 hf with rfl | hf
 ·exact λd h=>vd.ok_append h _ s
 rcases List.mem_cons.1 hf with rfl | hf
 ·exact λd h=>ok_sync h _
 cases hf
theorem ok_reset {d:Disk} (h:Ok d) (l:L) (ls:List (List UInt8)):Ok (reset d l ls).1:=kx h _ _ _ _ (λs=>ud h _ s)
theorem jM (d:Disk) (f2:Files) (a:Bool):(done d f2 a).cap=d.cap:=by
 unfold done
 cases goes d a <;> by_cases h:d.left=1 <;> simp [h,crash,less]
theorem QS (d:Disk) (n:Name) (f2:Files) (a:Bool):(there d n f2 a).1.cap=d.cap:=by
 unfold there
 split
 ·rfl
 ·split
  ·exact jM _ _ _
  ·rfl
theorem YQ (d:Disk) (n:Name) (s:List UInt8):(vd.append d n s).1.cap=d.cap:=by
 unfold vd.append
 split
 ·rfl
 ·exact QS _ _ _ _
theorem J6 (d:Disk) (n m:Name):(vd.rename d n m).1.cap=d.cap:=by
 unfold vd.rename
 split
 ·rfl
 ·exact QS _ _ _ _
theorem J7 (d:Disk) (n:Name):(vd.create d n).1.cap=d.cap:=by
 unfold vd.create
 split
 ·rfl
 ·split
  ·rfl
  ·split
   ·rfl
   ·exact jM _ _ _
theorem xH {fs:List Op1} (h:∀ f ∈ fs,∀ d,(f d).1.cap=d.cap) (d:Disk):(run fs d).1.cap=d.cap:=by
 induction fs generalizing d with
 | nil=>rfl
 | cons f r ih=>
  show (if (f d).2 ≠ 0 then f d else run r (f d).1).1.cap=_
  by_cases h0:(f d).2=0
  ·rw [if_neg (by simp [h0]),ih (λg hg=>h g (by simp [hg])) (f d).1,h f (by simp) d]
  ·rw [if_pos h0];exact h f (by simp) d
theorem kN (d:Disk) (n:Name) (s:List UInt8):(write d n s).1.cap=d.cap:=by
 unfold write writeOps
 refine xH (λf hf=>?_) d
 rcases List.mem_cons.1 hf with rfl | hf
 ·exact λd=>QS _ _ _ _
 rcases List.mem_cons.1 hf with rfl | hf
 ·exact λd=>J7 _ _
 rcases List.mem_cons.1 hf with rfl | hf
 ·exact λd=>YQ _ _ _
 rcases List.mem_cons.1 hf with rfl | hf
 ·exact λd=>QS _ _ _ _
 rcases List.mem_cons.1 hf with rfl | hf
 ·exact λd=>J6 _ _ _
 cases hf
theorem cap_open (d:Disk) (n:Name):(open_ d n).1.cap=d.cap:=by
 have hm:(mend d n).1.cap=d.cap:=by
  unfold mend
  split
  ·exact kN _ _ _
  ·exact QS _ _ _ _
 unfold open_
 split
 ·rfl
 ·split
  ·rfl
  ·split
   ·exact hm
   ·exact hm
theorem YP {d:Disk} {l:L} {ls:List (List UInt8)} {m:Nat} {op:List UInt8→Op1} (ho:∀ s,(op s d).1.cap=d.cap):(change d l ls m op).1.cap=d.cap:=by
 unfold change
 split
 ·rfl
 ·split
  ·rfl
  ·exact ho _
theorem cap_lappend (d:Disk) (l:L) (ls:List (List UInt8)):(append d l ls).1.cap=d.cap:=by
 refine YP (λs=>?_)
 unfold appendOps
 refine xH (λf hf=>?_) d
 rcases List.mem_cons.1 hf with rfl | hf
 ·exact λd=>YQ _ _ _
 rcases List.mem_cons.1 hf with rfl | hf
 ·exact λd=>QS _ _ _ _
 cases hf
theorem cap_reset (d:Disk) (l:L) (ls:List (List UInt8)):(reset d l ls).1.cap=d.cap:=YP (λ_=>kN _ _ _)
end wl
structure Ldk (w0 w:World) (p b:Nat) (d:vd.Disk):Prop where
 bel:Below w0.heap.size w0 w
 dk:Dk w p b d
 hp:w0.heap.size≤p
 hb:w0.heap.size≤b
 ok:vd.Ok d
 cap:d.cap≤10000000
theorem Ldk.next {w0 w w':World} {p b:Nat} {d d2:vd.Disk} {S:List Nat} (h:Ldk w0 w p b d) (hA:Apart S w w') (hS:∀ x ∈ S,w0.heap.size≤x) (hd:Dk w' p b d2) (ho:vd.Ok d2) (hc:d2.cap=d.cap):Ldk w0 w' p b d2:=
 ⟨h.bel.trans (hA.below _ h.bel.size hS),hd,h.hp,h.hb,ho,by rw [hc];exact h.cap⟩
theorem Ldk.later {w0 w w':World} {p b:Nat} {d:vd.Disk} (h:Ldk w0 w p b d) (hb:Below w.heap.size w w'):Ldk w0 w' p b d:=
 ⟨h.bel.trans (hb.mono h.bel.size),⟨(hb.block _ h.dk.blk.lt).trans h.dk.blk,h.dk.map.below hb⟩,h.hp,h.hb,h.ok,h.cap⟩
theorem zG (c:Nat) (h:c≤10000000) (k:Int):vd.Ok ⟨c,[],false,0,k⟩:=⟨by show c≤_;omega,Nat.zero_le _,List.nodup_nil,λx hx=>(by cases hx),λx hx=>(by cases hx),by show 0≤_;omega⟩
def LOpened (w0 w:World) (p b:Nat) (d:vd.Disk) (n:vd.Name) (e:Ending) (w':World):Prop:=
 ∃ lv A c g,e=.returned (.tuple #[lv,.slice A (wl.open_ d n).2.1.length c,.int .i64 ((wl.open_ d n).2.2:Nat)])∧Ldk w0 w' p b (wl.open_ d n).1∧Apart [p,b] w w'∧w.heap.size≤g∧(∀ w'',Apart [p,b,g] w' w''→Strs w'' (.slice A (wl.open_ d n).2.1.length c) (wl.open_ d n).2.1) ∧
  ((wl.open_ d n).2.2=0→lv=.pointer (some ⟨g,0,none⟩)∧Lg w' g p ⟨n,(wl.open_ d n).2.1.length,false⟩)∧((wl.open_ d n).2.2 ≠ 0→lv=.pointer none)∧w'.ownsRow w.heap.size 9 1 (.slice A (wl.open_ d n).2.1.length c) (wl.open_ d n).2.1.length ((wl.open_ d n).2.1.map strV)
theorem xz {w0 w:World} {p b:Nat} {d:vd.Disk} (n:vd.Name) (h:Ldk w0 w p b d) (hn:n.length≤200) (ht:TabAt w0) :
  Calls Tryz.prog 158 #[.pointer (some ⟨p,0,none⟩),.string (crcm.mk n)] w (LOpened w0 w p b d n):=by
 have ht1:=ht.below h.bel ht.1;refine (Ve n h.dk h.ok h.cap hn ht1 ht1.1).mono ?_;rintro e w' ⟨lv,tv,g,h1,h2,h3,h4,h5,h6,h7,h8,h10⟩;obtain ⟨A,c,h9,_⟩:=h6 w' (.refl _ _);subst h9
 exact ⟨lv,A,c,g,h1,h.next h3 (by have:=h.hp;have:=h.hb;simp;omega) h2 h4 (wl.cap_open d n),h3,h5,h6,h7,h8,h10⟩
theorem LOpened.ok {w0 w:World} {p b:Nat} {d d2:vd.Disk} {n:vd.Name} {e:Ending} {w':World} {ts:List (List UInt8)} (h:LOpened w0 w p b d n e w') (he:wl.open_ d n=(d2,ts,0)) :
  ∃ A c g,e=.returned (.tuple #[.pointer (some ⟨g,0,none⟩),.slice A ts.length c,.int .i64 0])∧Ldk w0 w' p b d2∧Apart [p,b] w w'∧w.heap.size≤g∧(∀ w'',Apart [p,b,g] w' w''→Strs w'' (.slice A ts.length c) ts)∧Lg w' g p ⟨n,ts.length,false⟩:=by
 unfold LOpened at h;rw [he] at h;obtain ⟨lv,A,c,g,h1,h2,h3,h4,h5,h6,_⟩:=h;obtain ⟨rfl,h7⟩:=h6 rfl;exact ⟨A,c,g,h1,h2,h3,h4,h5,h7⟩
theorem LOpened.own {w0 w:World} {p b:Nat} {d d2:vd.Disk} {n:vd.Name} {e:Ending} {w':World} {ts:List (List UInt8)} (h:LOpened w0 w p b d n e w') (he:wl.open_ d n=(d2,ts,0)) :
  ∃ A c g,e=.returned (.tuple #[.pointer (some ⟨g,0,none⟩),.slice A ts.length c,.int .i64 0])∧Ldk w0 w' p b d2∧Apart [p,b] w w'∧w.heap.size≤g∧Lg w' g p ⟨n,ts.length,false⟩∧w'.ownsRow w.heap.size 9 1 (.slice A ts.length c) ts.length (ts.map strV):=by
 unfold LOpened at h;rw [he] at h;obtain ⟨lv,A,c,g,h1,h2,h3,h4,h5,h6,_,h8⟩:=h;obtain ⟨rfl,h7⟩:=h6 rfl;exact ⟨A,c,g,h1,h2,h3,h4,h7,h8⟩
section
variable {w0 w:World} {p b g:Nat} {d:vd.Disk} {l:wl.L}
theorem XR (v:Value) (ls:List (List UInt8)) (h:Ldk w0 w p b d) (hg:Lg w g p l) (hgb:w0.heap.size≤g) (hv:Strs w v ls) (hf:(crcm.flat ls).length≤1000000000) (hl:ls.length≤1000000000) (hm:l.name.length≤200) (hmn:l.many≤1000000000) (ht:TabAt w0) :
  Calls Tryz.prog 97 #[.pointer (some ⟨g,0,none⟩),v] w (λe w'=>e=.returned (.int .i64 ((wl.append d l ls).2.2:Nat))∧Ldk w0 w' p b (wl.append d l ls).1∧Lg w' g p (wl.append d l ls).2.1∧Apart [p,b,g] w w'):=
 (j6 v ls hg h.dk h.ok hv hf hl (ht.below h.bel ht.1) hm hmn).mono (by
  rintro e w' ⟨h1,h2,h3,h4⟩
  exact ⟨h1,h.next h4 (by have:=h.hp;have:=h.hb;simp;omega) h2 (wl.ok_append h.ok l ls) (wl.cap_lappend d l ls),h3,h4⟩)
theorem uo (v:Value) (ls:List (List UInt8)) (h:Ldk w0 w p b d) (hg:Lg w g p l) (hgb:w0.heap.size≤g) (hv:Strs w v ls) (hf:(crcm.flat ls).length≤1000000000) (hl:ls.length≤1000000000) (hm:l.name.length≤200) (ht:TabAt w0) :
  Calls Tryz.prog 108 #[.pointer (some ⟨g,0,none⟩),v] w (λe w'=>e=.returned (.int .i64 ((wl.reset d l ls).2.2:Nat))∧Ldk w0 w' p b (wl.reset d l ls).1∧Lg w' g p (wl.reset d l ls).2.1∧Apart [p,b,g] w w'):=
 (xX v ls hg h.dk h.ok hv hf hl (ht.below h.bel ht.1) hm).mono (by
  rintro e w' ⟨h1,h2,h3,h4⟩
  exact ⟨h1,h.next h4 (by have:=h.hp;have:=h.hb;simp;omega) h2 (wl.ok_reset h.ok l ls) (wl.cap_reset d l ls),h3,h4⟩)
end
namespace vd
theorem trim_whole (k:Int) (S:List UInt8):trim k (S,S.length)=(S,S.length):=by
 have h:=stay_le k (S,S.length)
 have h2:stay k (S,S.length)=0:=by simp at h;exact h
 unfold trim;rw [h2]
 simp
theorem at_mapF (φ:Name→File→File) (M:Files) (n:Name) (h:has M n=true):at_ (mapF φ M) n=φ n (at_ M n):=by
 induction M with
 | nil=>simp [has] at h
 | cons x r ih=>
  obtain ⟨m,g⟩:=x;unfold has at h
  show at_ ((m,φ m g) :: mapF φ r) n=_
  unfold at_
  by_cases hm:m=n
  ·rw [if_pos hm,if_pos hm,hm]
  ·rw [if_neg hm] at h;rw [if_neg hm,if_neg hm,ih h]
theorem has_mapF (φ:Name→File→File) (M:Files) (n:Name):has (mapF φ M) n=has M n:=by
 induction M with
 | nil=>rfl
 | cons x r ih=>
  obtain ⟨m,g⟩:=x
  show has ((m,φ m g) :: mapF φ r) n=_
  unfold has;rw [ih]
end vd
namespace wl
open vd
structure Cut (c:Nat) (k:Int) (n:Name) (good:List UInt8) (P:List UInt8→Prop) (r:Disk × Nat):Prop where
 here:∃ M j,r.1=⟨c,M,decide (r.2 ≠ 0),j,k⟩∧has M n=true∧((r.2=0∧at_ M n=(good,good.length))∨(r.2=6∧∃ S,P S∧at_ M n=(S,S.length)))
end wl
namespace wl
open vd
def Two (n:Name) (S:List UInt8) (B:Nat) (M:Files):Prop:=M=[(n,(S,S.length))]∨∃ g:File,M=[(n,(S,S.length)),(n ++ [43],g)]∧g.1.length≤B
end wl
end Go.Proofs.YtppibhieabideaaGreatDoor
