/- A part of the walk of the program, and of its plain law. -/
import Derived.Test.YtppibhieabideaaGreatDoorGt19
import Derived.KernelRfl
namespace Go.Proofs.YtppibhieabideaaGreatDoor
set_option maxRecDepth 100000
namespace tl
open rl (Ent e0)
structure Pm where
 pre:List Ent
 f:List UInt8→List UInt8
def Pm.tau (P:Pm):Nat:=rl.lastTerm P.pre
def Pm.lam (P:Pm):Nat:=P.pre.length - 1
structure Pm.Ok (P:Pm):Prop where
 ne:P.pre ≠ []
 le:∀ e ∈ P.pre,e.1≤P.tau
 nil:P.f []=[]
 big:P.tau + 1000 < 18446744073709551616
section
variable (P:Pm)
def mE (l:List Ent):List Ent:=l.map λe=>(e.1 + P.tau,P.f e.2)
def mL (l:List Ent):List Ent:=P.pre ++ mE P (l.drop 1)
def sh (i:Nat):Nat:=if i=0 then 0 else i + P.lam
def mM (m:rf.Msg):rf.Msg:={ m with term:=m.term + P.tau,index:=sh P m.index,at_:=if m.kind=1∨m.kind=3 then m.at_ + P.tau else m.at_,commit:=sh P m.commit,ents:=mE P m.ents }
end
def Base (l:List Ent):Prop:=∃ t r,l=(0,t) :: r
structure Sim (P:Pm) (x a:rf.Node):Prop where
 id:x.id=a.id
 many:x.many=a.many
 m3:a.many=3
 term:x.term=a.term + P.tau
 vote:x.vote=a.vote
 base:Base a.log
 log:x.log=mL P a.log
 role:x.role=a.role
 lead:x.lead=a.lead
 commit:x.commit=sh P a.commit
 idle:x.idle=a.idle
 votes:a.role=1→x.votes=a.votes
 lens:x.next.length=7∧a.next.length=7∧x.mat.length=7∧a.mat.length=7
 next:a.role=2→∀ k,k < 3→x.next.getD k 0=sh P (a.next.getD k 0)
 mat:a.role=2→∀ k,k < 3→x.mat.getD k 0=sh P (a.mat.getD k 0)
def okM (m:rf.Msg):Bool:=
 if m.kind=1∨m.kind=3 then decide (1≤m.index) else if m.kind=2 then decide (1≤m.term) else m.ok && decide (1≤m.index)
def okN (a:rf.Node):Bool:=decide (a.term < 900) && (decide (a.role ≠ 2) || decide (1≤a.commit) || decide (1≤a.term))
section
variable {P:Pm} (h:P.Ok)
include h
theorem ZH:P.pre.length=P.lam + 1:=by
 unfold Pm.lam;have:=List.length_pos_iff.2 h.ne;omega
omit h in
theorem ul (l:List Ent):(mE P l).length=l.length:=List.length_map _
theorem QI {l:List Ent} (hb:Base l):(mL P l).length=l.length + P.lam:=by
 obtain ⟨t,r,rfl⟩:=hb;unfold mL;rw [List.length_append,ul,ZH h]
 simp
 omega
theorem mL_at {l:List Ent} (hb:Base l) {j:Nat} (hj:j < l.length):((mL P l).getD (j + P.lam) e0).1=(l.getD j e0).1 + P.tau:=by
 obtain ⟨t,r,rfl⟩:=hb;have hl:=ZH h;unfold mL;rw [List.getD_eq_getElem?_getD,List.getD_eq_getElem?_getD]
 cases j with
 | zero=>
  rw [Nat.zero_add,List.getElem?_append_left (by omega)]
  show (P.pre[P.lam]?.getD e0).1=0 + P.tau
  unfold Pm.tau rl.lastTerm
  rw [Nat.zero_add,if_neg (by omega),List.getD_eq_getElem?_getD,show P.pre.length - 1=P.lam by omega]
 | succ j=>
  have hj':j < r.length:=by simpa using hj
  rw [List.getElem?_append_right (by omega),show j + 1 + P.lam - P.pre.length=j by omega]
  show ((mE P r)[j]?.getD e0).1=(r[j]?.getD e0).1 + P.tau
  unfold mE;rw [List.getElem?_map,List.getElem?_eq_getElem hj']
  rfl
theorem ZZ {l:List Ent} (hb:Base l) {i:Nat} (hi:1≤i):rl.termAt (mL P l) (i + P.lam)=if l.length < i then (0,false) else ((l.getD (i - 1) e0).1 + P.tau,true):=by
 unfold rl.termAt
 rw [if_neg (by omega),QI h hb]
 by_cases h1:l.length < i
 ·rw [if_pos (by omega),if_pos h1]
 ·rw [if_neg (by omega),if_neg h1,show i + P.lam - 1=(i - 1) + P.lam by omega,mL_at h hb (by omega)]
omit h in
theorem zU {l:List Ent} {i:Nat} (hi:1≤i):rl.termAt l i=if l.length < i then (0,false) else ((l.getD (i - 1) e0).1,true):=by
 unfold rl.termAt
 rw [if_neg (by omega)]
theorem zb {l:List Ent} (hb:Base l):rl.lastTerm (mL P l)=rl.lastTerm l + P.tau:=by
 have h0:0 < l.length:=by obtain ⟨t,r,rfl⟩:=hb;simp
 unfold rl.lastTerm
 rw [QI h hb,if_neg (by omega),if_neg (by omega),show l.length + P.lam - 1=(l.length - 1) + P.lam by omega,mL_at h hb (by omega)]
theorem ui {l:List Ent} (hb:Base l) (t i:Nat):rl.newer (mL P l) (t + P.tau) (i + P.lam)=rl.newer l t i:=by
 unfold rl.newer;rw [zb h hb,QI h hb]
 congr 1
 ·exact decide_eq_decide.2 (by omega)
 ·congr 1
  ·exact decide_eq_decide.2 (by omega)
  ·exact decide_eq_decide.2 (by omega)
omit h in
theorem kL:∀ a b:List Ent,rl.common (mE P a) (mE P b)=rl.common a b
 | [],_=>by simp [mE,rl.common]
 | _ :: _,[]=>by simp [mE,rl.common]
 | x :: r,y :: q=>by
  have ih:=kL r q
  show (if x.1 + P.tau=y.1 + P.tau then rl.common (mE P r) (mE P q) + 1 else 0)=(if x.1=y.1 then rl.common r q + 1 else 0)
  rw [ih]
  by_cases e:x.1=y.1
  ·rw [if_pos e,if_pos (by omega)]
  ·rw [if_neg e,if_neg (by omega)]
omit h in
theorem xx (l:List Ent) (k:Nat):mE P (l.drop k)=(mE P l).drop k:=List.map_drop
omit h in
theorem xw (l:List Ent) (k:Nat):mE P (l.take k)=(mE P l).take k:=List.map_take
omit h in
theorem mE_app (a b:List Ent):mE P (a ++ b)=mE P a ++ mE P b:=List.map_append
theorem xE {l:List Ent} (hb:Base l) {p:Nat} (hp:1≤p):(mL P l).drop (p + P.lam)=mE P (l.drop p):=by
 obtain ⟨t,r,rfl⟩:=hb
 obtain ⟨q,rfl⟩:∃ q,p=q + 1:=⟨p - 1,by omega⟩
 have hl:=ZH h;unfold mL
 rw [List.drop_append,List.drop_of_length_le (by omega),List.nil_append,hl,show q + 1 + P.lam - (P.lam + 1)=q by omega,← xx]
 rfl
theorem take_sh {l:List Ent} (hb:Base l) {p:Nat} (hp:1≤p):(mL P l).take (p + P.lam)=mL P (l.take p):=by
 obtain ⟨t,r,rfl⟩:=hb
 obtain ⟨q,rfl⟩:∃ q,p=q + 1:=⟨p - 1,by omega⟩
 have hl:=ZH h;unfold mL
 rw [List.take_append,List.take_of_length_le (by omega),hl,show q + 1 + P.lam - (P.lam + 1)=q by omega,← xw]
 rfl
omit h in
theorem Kt {l:List Ent} (hb:Base l) (r:List Ent):mL P (l ++ r)=mL P l ++ mE P r:=by
 obtain ⟨t,q,rfl⟩:=hb;unfold mL;rw [List.append_assoc,← mE_app]
 rfl
omit h in
theorem zm {l:List Ent} (hb:Base l) {p:Nat} (hp:1≤p):Base (l.take p):=by
 obtain ⟨t,r,rfl⟩:=hb
 obtain ⟨q,rfl⟩:∃ q,p=q + 1:=⟨p - 1,by omega⟩
 exact ⟨t,r.take q,rfl⟩
omit h in
theorem jN {l:List Ent} (hb:Base l) (r:List Ent):Base (l ++ r):=by
 obtain ⟨t,q,rfl⟩:=hb;exact ⟨t,q ++ r,rfl⟩
omit h in
theorem zR {l:List Ent} (hb:Base l):1≤l.length:=by
 obtain ⟨t,q,rfl⟩:=hb
 simp
theorem uj {l:List Ent} (hb:Base l) {p:Nat} (hp:1≤p) (t:Nat) (e:List Ent) :
  (∃ l',rl.match_ l p t e=(l',p + e.length,0)∧Base l'∧rl.match_ (mL P l) (p + P.lam) (t + P.tau) (mE P e)=(mL P l',p + e.length + P.lam,0)) ∨
  (rl.match_ l p t e=(l,0,3)∧rl.match_ (mL P l) (p + P.lam) (t + P.tau) (mE P e)=(mL P l,0,3)):=by
 have e1:(rl.termAt (mL P l) (p + P.lam)=(t + P.tau,true)) ↔ (rl.termAt l p=(t,true)):=by
  rw [ZZ h hb hp,zU hp]
  by_cases h1:l.length < p
  ·rw [if_pos h1,if_pos h1]
   constructor <;> intro h2 <;> (injection h2 with _ h2;cases h2)
  ·rw [if_neg h1,if_neg h1]
   constructor
   ·intro h2
    injection h2 with h2 _
    rw [show (l.getD (p - 1) e0).1=t by omega]
   ·intro h2
    injection h2 with h2 _
    rw [h2]
 unfold rl.match_
 by_cases h1:rl.termAt l p=(t,true)
 ·left
  rw [if_pos h1,if_pos (e1.2 h1),xE h hb hp,kL,ul]
  by_cases h2:rl.common (l.drop p) e < e.length
  ·rw [if_pos h2,if_pos h2]
   refine ⟨_,rfl,jN (zm hb (by omega)) _,?_⟩
   rw [Kt (zm hb (by omega)),xx,show p + P.lam + rl.common (l.drop p) e=(p + rl.common (l.drop p) e) + P.lam by omega,take_sh h hb (by omega),show p + P.lam + e.length=p + e.length + P.lam by omega]
  ·rw [if_neg h2,if_neg h2]
   exact ⟨l,rfl,hb,by rw [show p + P.lam + e.length=p + e.length + P.lam by omega]⟩
 ·right
  rw [if_neg h1,if_neg (λh2=>h1 (e1.1 h2))]
  exact ⟨rfl,rfl⟩
omit h in
theorem QA {i:Nat} (hi:1≤i):sh P i=i + P.lam:=if_neg (by omega)
omit h in
theorem sh_le (i j:Nat):sh P i≤sh P j ↔ i≤j:=by
 unfold sh
 split <;> split <;> omega
omit h in
theorem VI (i j:Nat):max (sh P i) (sh P j)=sh P (max i j):=by
 unfold sh
 split <;> split <;> split <;> omega
omit h in
theorem VH (i j:Nat):min (sh P i) (sh P j)=sh P (min i j):=by
 unfold sh
 split <;> split <;> split <;> omega
theorem Ku {l:List Ent} (hb:Base l):(mL P l).length=sh P l.length:=by rw [QI h hb,QA (zR hb)]
omit h in
theorem kv {x a:rf.Node} (hs:Sim P x a):rf.others x=rf.others a:=by
 unfold rf.others rf.size;rw [hs.many,hs.id]
omit h in
theorem Jw {a:rf.Node} (hm:a.many=3):rf.size a=3:=by
 unfold rf.size;rw [hm]
 rfl
omit h in
theorem XF {a:rf.Node} (hm:a.many=3) {j:Nat} (hj:j ∈ rf.others a):j < 3:=by
 have h1:=List.mem_range.1 (List.mem_filter.1 hj).1;rw [Jw hm] at h1;exact h1
theorem ko {x a:rf.Node} (hs:Sim P x a) (h2:a.role=2) {j:Nat} (hj:j < 3) (hm:1≤(rf.putMsg a j).index):rf.stamp x (rf.putMsg x j)=mM P (rf.stamp a (rf.putMsg a j)):=by
 have hb:=hs.base;have hl:=zR hb;have e0':(rf.putMsg a j).index=rf.nextOf a j - 1:=rfl;rw [e0'] at hm
 have hn:rf.nextOf x j=rf.nextOf a j + P.lam:=by
  have e1:rf.nextOf a j=min (max (a.next.getD j 0) 1) (a.log.length + 1):=rfl;have e2:rf.nextOf x j=min (max (x.next.getD j 0) 1) (x.log.length + 1):=rfl;rw [e1] at hm ⊢
  rw [e2,hs.next h2 j hj,hs.log,QI h hb,QA (by omega)]
  omega
 have hle:rf.nextOf a j≤a.log.length + 1:=by
  have e1:rf.nextOf a j=min (max (a.next.getD j 0) 1) (a.log.length + 1):=rfl;omega
 obtain ⟨n,hnn⟩:∃ n,rf.nextOf a j=n + 1:=⟨rf.nextOf a j - 1,by omega⟩
 have e3:¬ a.log.length < n:=by omega
 unfold rf.putMsg rf.stamp mM;rw [hn,hnn];dsimp only
 rw [show n + 1 - 1=n from rfl,show n + 1 + P.lam - 1=n + P.lam by omega,hs.log,ZZ h hb (by omega),zU (l:=a.log) (by omega:1≤n),if_neg e3,if_neg e3,xE h hb (by omega),← xw,hs.id,hs.term,hs.commit,QA (by omega:1≤n),if_pos (Or.inr rfl:(3:Int)=1∨(3:Int)=3)]
theorem xl {x a:rf.Node} (hs:Sim P x a) (h2:a.role=2) (hm:∀ m ∈ rf.puts a,okM m=true):rf.puts x=(rf.puts a).map (mM P):=by
 unfold rf.puts at hm ⊢;rw [kv hs,List.map_map]
 refine List.map_congr_left λj hj=>?_
 have h1:=hm _ (List.mem_map.2 ⟨j,hj,rfl⟩);exact ko h hs h2 (XF hs.m3 hj) (of_decide_eq_true h1)
omit h in
theorem yH {x a:rf.Node} (hs:Sim P x a) {p q:Nat→Bool} (hpq:∀ k,k < 3→p k=q k):rf.majority x p=rf.majority a q:=by
 have e:rf.count x p=rf.count a q:=by
  unfold rf.count;rw [Jw hs.m3,Jw (hs.many.trans hs.m3)]
  congr 1
  exact List.filter_congr λk hk=>hpq k (List.mem_range.1 hk)
 unfold rf.majority;rw [e,hs.many]
omit h in
theorem Sim.setCommit {x a:rf.Node} (hs:Sim P x a) (c:Nat):Sim P { x with commit:=sh P c } { a with commit:=c }:=
 ⟨hs.id,hs.many,hs.m3,hs.term,hs.vote,hs.base,hs.log,hs.role,hs.lead,rfl,hs.idle,hs.votes,hs.lens,hs.next,hs.mat⟩
theorem pre_at {j:Nat} (hj:j < P.pre.length) (r:List Ent):((P.pre ++ r).getD j e0).1≤P.tau:=by
 rw [List.getD_eq_getElem?_getD,List.getElem?_append_left hj,List.getElem?_eq_getElem hj];exact h.le _ (List.getElem_mem hj)
theorem Yd {x a:rf.Node} (hs:Sim P x a) (hk:1≤a.commit∨1≤a.term):∀ j,j≤P.lam→rf.tallyAt x j=x
 | 0,_=>rfl
 | j + 1,hj=>by
  have ih:=Yd hs hk j (by omega)
  unfold rf.tallyAt
  by_cases h1:x.commit < j + 1
  ·rw [if_pos h1,ih]
   have h3:(rl.termAt x.log (j + 1)).1≤P.tau:=by
    rw [hs.log,zU (by omega)]
    have hl:=ZH h
    split
    ·exact Nat.zero_le _
    ·exact pre_at h (by omega) _
   have h4:((rl.termAt x.log (j + 1)).1 == x.term)=false:=by
    rw [beq_eq_false_iff_ne,hs.term]
    rcases hk with hk | hk
    ·rw [hs.commit,QA hk] at h1;omega
    ·omega
   rw [h4]
   rfl
  ·rw [if_neg h1]
theorem Ye {x a:rf.Node} (hs:Sim P x a) (h2:a.role=2) (hk:1≤a.commit∨1≤a.term):∀ i,i≤a.log.length→Sim P (rf.tallyAt x (i + P.lam)) (rf.tallyAt a i)
 | 0,_=>by
  rw [Nat.zero_add,Yd h hs hk _ (Nat.le_refl _)];exact hs
 | i + 1,hi=>by
  have ih:=Ye hs h2 hk i (by omega)
  rw [show i + 1 + P.lam=(i + P.lam) + 1 by omega]
  unfold rf.tallyAt
  have h3:(x.commit < i + P.lam + 1) ↔ (a.commit < i + 1):=by
   rw [hs.commit];unfold sh
   split <;> omega
  have h4:((rl.termAt x.log (i + P.lam + 1)).1 == x.term)=((rl.termAt a.log (i + 1)).1 == a.term):=by
   rw [hs.log,show i + P.lam + 1=(i + 1) + P.lam by omega,ZZ h hs.base (by omega),zU (l:=a.log) (by omega:1≤i + 1),if_neg (by omega),if_neg (by omega),hs.term,Bool.eq_iff_iff,beq_iff_eq,beq_iff_eq]
   omega
  have h5:rf.majority x (λk=>decide (i + P.lam + 1≤x.mat.getD k 0))=rf.majority a (λk=>decide (i + 1≤a.mat.getD k 0)):=yH hs λk hk=>by
   rw [hs.mat h2 k hk];refine decide_eq_decide.2 ?_;unfold sh
   split <;> omega
  by_cases h1:a.commit < i + 1
  ·rw [if_pos h1,if_pos (h3.2 h1),h4,h5]
   split
   ·have:=hs.setCommit (i + 1)
    rw [QA (by omega)] at this
    rw [show i + P.lam + 1=i + 1 + P.lam by omega]
    exact this
   ·exact ih
  ·rw [if_neg h1,if_neg (λh=>h1 (h3.1 h))]
   exact hs
omit h in
theorem QM (a:rf.Node):∀ i,(rf.tallyAt a i).role=a.role∧(rf.tallyAt a i).log=a.log∧(rf.tallyAt a i).term=a.term∧(rf.tallyAt a i).next=a.next
 | 0=>⟨rfl,rfl,rfl,rfl⟩
 | i + 1=>by
  unfold rf.tallyAt
  split
  ·split
   ·exact ⟨rfl,rfl,rfl,rfl⟩
   ·exact QM a i
  ·exact ⟨rfl,rfl,rfl,rfl⟩
theorem KU {x a:rf.Node} (hs:Sim P x a) (h2:a.role=2) (hk:1≤a.commit∨1≤a.term):Sim P (rf.tally x) (rf.tally a):=by
 have:=Ye h hs h2 hk a.log.length (Nat.le_refl _);unfold rf.tally;rw [hs.log,QI h hs.base];exact this
omit h in
theorem Kg {u v:List Nat} (hu:u.length=7) (hv:v.length=7) (huv:∀ k,k < 3→u.getD k 0=sh P (v.getD k 0)) (i p q:Nat) (hpq:p=sh P q):∀ k,k < 3→(u.set i p).getD k 0=sh P ((v.set i q).getD k 0):=by
 intro k hk
 by_cases e:i=k
 ·subst e
  rw [List.getD_eq_getElem?_getD,List.getD_eq_getElem?_getD,List.getElem?_set_self (by omega),List.getElem?_set_self (by omega)]
  exact hpq
 ·have:=huv k hk;rw [List.getD_eq_getElem?_getD,List.getD_eq_getElem?_getD] at this ⊢;rw [List.getElem?_set_ne e,List.getElem?_set_ne e];exact this
theorem uz {x a:rf.Node} (hs:Sim P x a) (h2:a.role=2) (t:List UInt8):Sim P (rf.grown x (P.f t)) (rf.grown a t):=by
 have hb:=hs.base;have hl:=zR hb;obtain ⟨l1,l2,l3,l4⟩:=hs.lens
 have e:(x.log).length=a.log.length + P.lam:=by rw [hs.log,QI h hb]
 refine ⟨hs.id,hs.many,hs.m3,hs.term,hs.vote,jN hb _,?_,hs.role,hs.lead,hs.commit,hs.idle,hs.votes,⟨?_,?_,?_,?_⟩,λ_=>?_,λ_=>?_⟩
 ·show x.log ++ [(x.term,P.f t)]=mL P (a.log ++ [(a.term,t)])
  rw [Kt hb,hs.log,hs.term]
  rfl
 ·show (x.next.set _ _).length=7
  rw [List.length_set];exact l1
 ·show (a.next.set _ _).length=7
  rw [List.length_set];exact l2
 ·show (x.mat.set _ _).length=7
  rw [List.length_set];exact l3
 ·show (a.mat.set _ _).length=7
  rw [List.length_set];exact l4
 ·show ∀ k,k < 3→(x.next.set x.id.toNat (x.log.length + 1 + 1)).getD k 0=sh P ((a.next.set a.id.toNat (a.log.length + 1 + 1)).getD k 0)
  rw [hs.id]
  exact Kg l1 l2 (hs.next h2) _ _ _ (by rw [QA (by omega),e];omega)
 ·show ∀ k,k < 3→(x.mat.set x.id.toNat (x.log.length + 1)).getD k 0=sh P ((a.mat.set a.id.toNat (a.log.length + 1)).getD k 0)
  rw [hs.id]
  exact Kg l3 l4 (hs.mat h2) _ _ _ (by rw [QA (by omega),e];omega)
def Out (P:Pm) (r s:rf.Node × List rf.Msg):Prop:=Sim P r.1 s.1∧r.2=s.2.map (mM P)
def Fine (s:rf.Node × List rf.Msg):Prop:=∀ m ∈ s.2,okM m=true
theorem Uo {x a:rf.Node} (hs:Sim P x a) (h2:a.role=2) (hk:1≤a.commit∨1≤a.term) (t:List UInt8) (hf:Fine (rf.add a t)):Out P (rf.add x (P.f t)) (rf.add a t):=by
 have h3:=KU h (uz h hs h2 t) h2 hk;have h4:(rf.tally (rf.grown a t)).role=2:=(QM _ _).1.trans h2;exact ⟨h3,xl h h3 h4 hf⟩
theorem led_sh {x a:rf.Node} (hs:Sim P x a):Sim P (rf.led x) (rf.led a):=by
 have hb:=hs.base;have hl:=zR hb
 have e:(x.log).length=a.log.length + P.lam:=by rw [hs.log,QI h hb]
 refine ⟨hs.id,hs.many,hs.m3,hs.term,hs.vote,hb,hs.log,rfl,hs.id,hs.commit,rfl,λh=>absurd (show (2:Int)=1 from h) (by decide),⟨rfl,rfl,rfl,rfl⟩,λ_ k hk=>?_,λ_ k hk=>?_⟩
 ·show (List.replicate 7 (x.log.length + 1)).getD k 0=sh P ((List.replicate 7 (a.log.length + 1)).getD k 0)
  rw [List.getD_eq_getElem?_getD,List.getD_eq_getElem?_getD,List.getElem?_replicate,List.getElem?_replicate,if_pos (by omega),if_pos (by omega)]
  show x.log.length + 1=sh P (a.log.length + 1)
  rw [QA (by omega),e];omega
 ·show (List.replicate 7 0).getD k 0=sh P ((List.replicate 7 0).getD k 0)
  rw [List.getD_eq_getElem?_getD,List.getElem?_replicate,if_pos (by omega)]
  rfl
theorem lead_sh {x a:rf.Node} (hs:Sim P x a) (hk:1≤a.term) (hf:Fine (rf.lead a)):Out P (rf.lead x) (rf.lead a):=by
 have:=Uo h (led_sh h hs) rfl (.inr hk) [] hf;rw [h.nil] at this;exact this
theorem KO {x a:rf.Node} (hs:Sim P x a) (h1:a.role=1) (hk:1≤a.term) (i:Int) (hf:Fine (rf.voted a i)):Out P (rf.voted x i) (rf.voted a i):=by
 have hv:=hs.votes h1
 have hs2:Sim P { x with votes:=x.votes.set i.toNat true } { a with votes:=a.votes.set i.toNat true }:=
  ⟨hs.id,hs.many,hs.m3,hs.term,hs.vote,hs.base,hs.log,hs.role,hs.lead,hs.commit,hs.idle,λ_=>(by rw [hv]),hs.lens,hs.next,hs.mat⟩
 have he:rf.elected { x with votes:=x.votes.set i.toNat true }=rf.elected { a with votes:=a.votes.set i.toNat true }:=by
  unfold rf.elected
  refine yH hs2 λk _=>?_
  show (x.votes.set i.toNat true).getD k false=(a.votes.set i.toNat true).getD k false
  rw [hv]
 unfold rf.voted at hf ⊢;rw [he]
 split at hf
 ·rename_i hi
  rw [if_pos hi,if_pos hi]
  split at hf
  ·rename_i hel
   rw [if_pos hel,if_pos hel];exact lead_sh h hs2 hk hf
  ·rename_i hel
   rw [if_neg hel,if_neg hel];exact ⟨hs2,rfl⟩
 ·rename_i hi
  rw [if_neg hi,if_neg hi];exact ⟨hs,rfl⟩
theorem Vz {x a:rf.Node} (hs:Sim P x a) (ht:a.term < 900):Sim P (rf.stood x) (rf.stood a)∧(rf.stood a).term=a.term + 1:=by
 have hb:=h.big
 have e1:(a.term + 1) % 18446744073709551616=a.term + 1:=Nat.mod_eq_of_lt (by omega)
 have e2:(x.term + 1) % 18446744073709551616=a.term + 1 + P.tau:=by rw [hs.term,Nat.mod_eq_of_lt (by omega)];omega
 exact ⟨⟨hs.id,hs.many,hs.m3,by show (x.term + 1) % _=(a.term + 1) % _ + _;rw [e1,e2],hs.id,hs.base,hs.log,rfl,rfl,hs.commit,rfl,λ_=>rfl,hs.lens,λh=>absurd (show (1:Int)=2 from h) (by decide),λh=>absurd (show (1:Int)=2 from h) (by decide)⟩,e1⟩
theorem asks_sh {x a:rf.Node} (hs:Sim P x a):rf.asks x=(rf.asks a).map (mM P):=by
 unfold rf.asks;rw [kv hs,List.map_map]
 refine List.map_congr_left λj _=>?_
 unfold rf.stamp mM;dsimp only [Function.comp];rw [hs.id,hs.term,hs.log,zb h hs.base,Ku h hs.base,if_pos (.inl rfl)]
 rfl
theorem VE {x a:rf.Node} (hs:Sim P x a) (ht:a.term < 900) (hf:Fine (rf.stand a)):Out P (rf.stand x) (rf.stand a):=by
 obtain ⟨h1,h2⟩:=Vz h hs ht;have hid:x.id=a.id:=hs.id
 have hf2:Fine (rf.voted (rf.stood a) a.id):=by
  unfold rf.stand at hf
  split at hf
  ·exact hf
  ·exact λm hm=>hf m (List.mem_append_left _ hm)
 have hv:=KO h h1 rfl (by omega) a.id hf2
 unfold rf.stand;rw [hid,hv.1.role]
 split
 ·exact hv
 ·refine ⟨hv.1,?_⟩
  show _ ++ rf.asks _=List.map _ (_ ++ rf.asks _)
  rw [hv.2,asks_sh h hv.1,List.map_append]
theorem tick_sh {x a:rf.Node} (hs:Sim P x a) (hn:okN a=true) (hf:Fine (rf.tick a)):Out P (rf.tick x) (rf.tick a):=by
 unfold okN at hn;simp only [Bool.and_eq_true,decide_eq_true_eq] at hn;have s0:Sim P { x with idle:=0 } { a with idle:=0 }:=⟨hs.id,hs.many,hs.m3,hs.term,hs.vote,hs.base,hs.log,hs.role,hs.lead,hs.commit,rfl,hs.votes,hs.lens,hs.next,hs.mat⟩
 have s1:Sim P { x with idle:=x.idle + 1 } { a with idle:=a.idle + 1 }:=⟨hs.id,hs.many,hs.m3,hs.term,hs.vote,hs.base,hs.log,hs.role,hs.lead,hs.commit,by show x.idle + 1=a.idle + 1;rw [hs.idle],hs.votes,hs.lens,hs.next,hs.mat⟩
 have e1:x.role=2 ↔ a.role=2:=by rw [hs.role]
 have e2:3≤x.idle + 1 ↔ 3≤a.idle + 1:=by rw [hs.idle]
 have e3:10 + 3 * x.id≤x.idle + 1 ↔ 10 + 3 * a.id≤a.idle + 1:=by rw [hs.idle,hs.id]
 unfold rf.tick at hf ⊢
 by_cases h2:a.role=2
 ·rw [if_pos h2] at hf;rw [if_pos h2,if_pos (e1.2 h2)]
  by_cases h3:3≤a.idle + 1
  ·rw [if_pos h3] at hf;rw [if_pos h3,if_pos (e2.2 h3)];exact ⟨s0,xl h s0 h2 hf⟩
  ·rw [if_neg h3,if_neg (λh=>h3 (e2.1 h))]
   exact ⟨s1,rfl⟩
 ·rw [if_neg h2] at hf
  rw [if_neg h2,if_neg (λh=>h2 (e1.1 h))]
  by_cases h3:10 + 3 * a.id≤a.idle + 1
  ·rw [if_pos h3] at hf;rw [if_pos h3,if_pos (e3.2 h3)];exact VE h s1 hn.1 hf
  ·rw [if_neg h3,if_neg (λh=>h3 (e3.1 h))]
   exact ⟨s1,rfl⟩
omit h in
theorem xN {x a:rf.Node} (hs:Sim P x a) (t:Nat):Sim P (rf.back x (t + P.tau)) (rf.back a t):=by
 have e:=hs.term;unfold rf.back
 by_cases h1:a.term < t
 ·rw [if_pos h1,if_pos (by omega)]
  exact ⟨hs.id,hs.many,hs.m3,rfl,rfl,hs.base,hs.log,rfl,rfl,hs.commit,hs.idle,λh=>absurd (show (0:Int)=1 from h) (by decide),hs.lens,λh=>absurd (show (0:Int)=2 from h) (by decide),λh=>absurd (show (0:Int)=2 from h) (by decide)⟩
 ·rw [if_neg h1,if_neg (by omega)]
  exact ⟨hs.id,hs.many,hs.m3,e,hs.vote,hs.base,hs.log,rfl,rfl,hs.commit,hs.idle,λh=>absurd (show (0:Int)=1 from h) (by decide),hs.lens,λh=>absurd (show (0:Int)=2 from h) (by decide),λh=>absurd (show (0:Int)=2 from h) (by decide)⟩
omit h in
theorem yo (a:rf.Node) (t:Nat):(rf.back a t).role=0:=by
 unfold rf.back
 split <;> rfl
omit h in
theorem zD {y b:rf.Node} (hs:Sim P y b) {k:Int} (hk:¬ (k=1∨k=3)) (d:Int) (o:Bool) (i:Nat):[rf.stamp y { rf.msg0 with kind:=k,dst:=d,ok:=o,index:=sh P i }]=[rf.stamp b { rf.msg0 with kind:=k,dst:=d,ok:=o,index:=i }].map (mM P):=by
 unfold rf.stamp mM;dsimp only [List.map];rw [hs.id,hs.term,if_neg hk]
 rfl
theorem ask_sh {x a:rf.Node} (hs:Sim P x a) {m:rf.Msg} (hm:okM m=true) (hk:m.kind=1):Out P (rf.ask x (mM P m)) (rf.ask a m):=by
 unfold okM at hm;rw [if_pos (.inl hk)] at hm;have hi:=of_decide_eq_true hm
 have e:rf.askOk x (mM P m)=rf.askOk a m:=by
  unfold rf.askOk mM;dsimp only
  rw [if_pos (.inl hk),hs.term,hs.vote,hs.log,QA hi,ui h hs.base,show decide (m.term + P.tau=a.term + P.tau)=decide (m.term=a.term) from decide_eq_decide.2 (by omega)]
 unfold rf.ask;rw [e]
 split
 ·refine ⟨⟨hs.id,hs.many,hs.m3,hs.term,rfl,hs.base,hs.log,hs.role,hs.lead,hs.commit,rfl,hs.votes,hs.lens,hs.next,hs.mat⟩,?_⟩
  exact zD hs (by decide) m.frm true 0
 ·refine ⟨hs,?_⟩
  exact zD hs (by decide) m.frm false 0
theorem vote_sh {x a:rf.Node} (hs:Sim P x a) {m:rf.Msg} (hk:1≤a.term) (hf:Fine (rf.vote a m)):Out P (rf.vote x (mM P m)) (rf.vote a m):=by
 unfold rf.vote at hf ⊢
 have e:(x.role=1∧(mM P m).term=x.term∧(mM P m).ok=true) ↔ (a.role=1∧m.term=a.term∧m.ok=true):=by
  rw [hs.role,hs.term]
  show (a.role=1∧m.term + P.tau=a.term + P.tau∧m.ok=true) ↔ _
  constructor
  ·rintro ⟨h1,h2,h3⟩;exact ⟨h1,by omega,h3⟩
  ·rintro ⟨h1,h2,h3⟩;exact ⟨h1,by omega,h3⟩
 split at hf
 ·rename_i h1
  rw [if_pos h1,if_pos (e.2 h1)];exact KO h hs h1.1 hk m.frm hf
 ·rename_i h1
  rw [if_neg h1,if_neg (λh=>h1 (e.1 h))]
  exact ⟨hs,rfl⟩
theorem put_sh {x a:rf.Node} (hs:Sim P x a) {m:rf.Msg} (hm:okM m=true) (hk:m.kind=3):Out P (rf.put x (mM P m)) (rf.put a m):=by
 unfold okM at hm;rw [if_pos (.inr hk)] at hm;have hi:=of_decide_eq_true hm
 have ht:Sim P (rf.taken x (mM P m)) (rf.taken a m):=by
  have hb:=xN hs m.term;have h0:=yo a m.term;unfold rf.taken;exact ⟨hb.id,hb.many,hb.m3,hb.term,hb.vote,hb.base,hb.log,hb.role,rfl,hb.commit,rfl,hb.votes,hb.lens,hb.next,hb.mat⟩
 have h0:(rf.taken a m).role=0:=yo a m.term
 have e1:(mM P m).term < x.term ↔ m.term < a.term:=by
  rw [hs.term]
  show m.term + P.tau < a.term + P.tau ↔ _
  omega
 have e2:rl.match_ (rf.taken x (mM P m)).log (mM P m).index (mM P m).at_ (mM P m).ents=rl.match_ (mL P (rf.taken a m).log) (m.index + P.lam) (m.at_ + P.tau) (mE P m.ents):=by
  rw [ht.log];unfold mM;dsimp only;rw [if_pos (.inr hk),QA hi]
 obtain ⟨y,hy⟩:∃ y,rf.taken x (mM P m)=y:=⟨_,rfl⟩;obtain ⟨b,hb⟩:∃ b,rf.taken a m=b:=⟨_,rfl⟩;rw [hy,hb] at ht;rw [hy,hb] at e2;rw [hb] at h0;unfold rf.put;rw [hy,hb,e2]
 by_cases h1:m.term < a.term
 ·rw [if_pos h1,if_pos (e1.2 h1)]
  exact ⟨hs,zD hs (by decide) m.frm false 0⟩
 ·rw [if_neg h1,if_neg (λh=>h1 (e1.1 h))]
  rcases uj h ht.base hi m.at_ m.ents with ⟨l',g1,g2,g3⟩ | ⟨g1,g3⟩
  ·rw [g1,g3]
   have hp:=QA (P:=P) (by omega:1≤m.index + m.ents.length)
   refine ⟨⟨ht.id,ht.many,ht.m3,ht.term,ht.vote,g2,rfl,ht.role,ht.lead,?_,ht.idle,λh=>absurd (h0.symm.trans h) (by decide),ht.lens,λh=>absurd (h0.symm.trans h) (by decide),λh=>absurd (h0.symm.trans h) (by decide)⟩,?_⟩
   ·show max x.commit (min (sh P m.commit) (m.index + m.ents.length + P.lam))=sh P (max a.commit (min m.commit (m.index + m.ents.length)))
    rw [hs.commit,← hp,VH,VI]
   ·have:=zD ht (k:=4) (by decide) m.frm true (m.index + m.ents.length)
    rw [hp] at this;exact this
  ·rw [g1,g3];refine ⟨ht,?_⟩
   have:=zD ht (k:=4) (by decide) m.frm false b.log.length
   rw [← Ku h ht.base,← ht.log] at this;exact this
theorem uy {x a:rf.Node} (hs:Sim P x a) {m:rf.Msg} (hm:okM m=true) (hk:¬ (m.kind=1∨m.kind=3)∧m.kind ≠ 2) (hc:1≤a.commit∨1≤a.term∨a.role ≠ 2) (hfr:m.frm.toNat < 3) (hf:Fine (rf.heard a m)):Out P (rf.heard x (mM P m)) (rf.heard a m):=by
 unfold okM at hm;rw [if_neg hk.1,if_neg hk.2,Bool.and_eq_true] at hm;obtain ⟨hok,hi⟩:=hm;have hi:=of_decide_eq_true hi;have hb:=hs.base;have hl:=zR hb;obtain ⟨l1,l2,l3,l4⟩:=hs.lens
 have e1:(x.role=2∧(mM P m).term=x.term) ↔ (a.role=2∧m.term=a.term):=by
  rw [hs.role,hs.term]
  show (a.role=2∧m.term + P.tau=a.term + P.tau) ↔ _
  constructor
  ·rintro ⟨h1,h2⟩;exact ⟨h1,by omega⟩
  ·rintro ⟨h1,h2⟩;exact ⟨h1,by omega⟩
 unfold rf.heard at hf ⊢
 by_cases h1:a.role=2∧m.term=a.term
 ·have h2:=h1.1
  have hc:1≤a.commit∨1≤a.term:=by
   rcases hc with h | h | h
   ·exact .inl h
   ·exact .inr h
   ·exact absurd h2 h
  rw [if_pos h1,if_pos hok] at hf
  rw [if_pos h1,if_pos (e1.2 h1),if_pos hok,if_pos (show (mM P m).ok=true from hok)]
  have ey:Sim P (rf.heardYes x m.frm.toNat (mM P m).index) (rf.heardYes a m.frm.toNat m.index):=by
   have em:max (x.mat.getD m.frm.toNat 0) (min (sh P m.index) x.log.length)=sh P (max (a.mat.getD m.frm.toNat 0) (min m.index a.log.length)):=by
    rw [hs.mat h2 _ hfr,hs.log,Ku h hb,VH,VI]
   refine ⟨hs.id,hs.many,hs.m3,hs.term,hs.vote,hb,hs.log,hs.role,hs.lead,hs.commit,hs.idle,hs.votes,⟨?_,?_,?_,?_⟩,λ_=>?_,λ_=>?_⟩
   ·show (x.next.set _ _).length=7
    rw [List.length_set];exact l1
   ·show (a.next.set _ _).length=7
    rw [List.length_set];exact l2
   ·show (x.mat.set _ _).length=7
    rw [List.length_set];exact l3
   ·show (a.mat.set _ _).length=7
    rw [List.length_set];exact l4
   ·show ∀ k,k < 3→(x.next.set m.frm.toNat (max (x.mat.getD m.frm.toNat 0) (min (sh P m.index) x.log.length) + 1)).getD k 0=sh P ((a.next.set m.frm.toNat (max (a.mat.getD m.frm.toNat 0) (min m.index a.log.length) + 1)).getD k 0)
    rw [em];refine Kg l1 l2 (hs.next h2) _ _ _ ?_
    rw [QA (by omega),QA (by omega)]
    omega
   ·show ∀ k,k < 3→(x.mat.set m.frm.toNat (max (x.mat.getD m.frm.toNat 0) (min (sh P m.index) x.log.length))).getD k 0=sh P ((a.mat.set m.frm.toNat (max (a.mat.getD m.frm.toNat 0) (min m.index a.log.length))).getD k 0)
    rw [em];exact Kg l3 l4 (hs.mat h2) _ _ _ rfl
  have et:=KU h ey h2 hc;have er:(rf.tally (rf.heardYes a m.frm.toNat m.index)).role=2:=(QM _ _).1.trans h2
  have e3:((rf.tally (rf.heardYes x m.frm.toNat (mM P m).index)).next.getD m.frm.toNat 0≤x.log.length) ↔ ((rf.tally (rf.heardYes a m.frm.toNat m.index)).next.getD m.frm.toNat 0≤a.log.length):=by
   rw [et.next er _ hfr,hs.log,Ku h hb,sh_le]
  show Out P (if (rf.tally (rf.heardYes x m.frm.toNat (mM P m).index)).next.getD m.frm.toNat 0≤x.log.length then (rf.tally (rf.heardYes x m.frm.toNat (mM P m).index),[rf.stamp x (rf.putMsg (rf.tally (rf.heardYes x m.frm.toNat (mM P m).index)) m.frm.toNat)]) else (rf.tally (rf.heardYes x m.frm.toNat (mM P m).index),[])) _
  by_cases h3:(rf.tally (rf.heardYes a m.frm.toNat m.index)).next.getD m.frm.toNat 0≤a.log.length
  ·rw [if_pos h3] at hf;rw [if_pos h3,if_pos (e3.2 h3)];refine ⟨et,?_⟩;have h5:=ko h et er hfr (of_decide_eq_true (hf _ (List.mem_singleton.2 rfl)))
   have st:∀ (y b:rf.Node) (q:rf.Msg),y.id=b.id→y.term=b.term→rf.stamp y q=rf.stamp b q:=λy b q u v=>by unfold rf.stamp;rw [u,v]
   have it:∀ (y:rf.Node) (j:Nat),(rf.tallyAt y j).id=y.id:=λy j=>by
    induction j with
    | zero=>rfl
    | succ j ih=>unfold rf.tallyAt;split;(split;rfl;exact ih);rfl
   have k1:∀ (y:rf.Node) (k ix:Nat),(rf.tally (rf.heardYes y k ix)).id=y.id∧(rf.tally (rf.heardYes y k ix)).term=y.term:=λy k ix=>⟨it (rf.heardYes y k ix) _,(QM (rf.heardYes y k ix) _).2.2.1⟩
   show [_]=[_]
   rw [st x (rf.tally (rf.heardYes x m.frm.toNat (mM P m).index)) _ (k1 _ _ _).1.symm (k1 _ _ _).2.symm,h5,st a (rf.tally (rf.heardYes a m.frm.toNat m.index)) _ (k1 _ _ _).1.symm (k1 _ _ _).2.symm]
  ·rw [if_neg h3,if_neg (λh=>h3 (e3.1 h))]
   exact ⟨et,rfl⟩
 ·rw [if_neg h1,if_neg (λh=>h1 (e1.1 h))]
  exact ⟨hs,rfl⟩
theorem step_sh {x a:rf.Node} (hs:Sim P x a) (hn:okN a=true) {m:rf.Msg} (hm:okM m=true) (hf:Fine (rf.step a m)):Out P (rf.step x (mM P m)) (rf.step a m):=by
 unfold okN at hn;simp only [Bool.and_eq_true,Bool.or_eq_true,decide_eq_true_eq] at hn
 have e1:rf.meant x (mM P m)=rf.meant a m:=by
  unfold rf.meant;rw [hs.id,hs.many]
  rfl
 have e2:Sim P (rf.fresh x (mM P m)) (rf.fresh a m):=by
  unfold rf.fresh;rw [hs.term]
  show Sim P (if a.term + P.tau < m.term + P.tau then rf.back x (m.term + P.tau) else x) _
  by_cases h2:a.term < m.term
  ·rw [if_pos h2,if_pos (by omega)]
   exact xN hs _
  ·rw [if_neg h2,if_neg (by omega)]
   exact hs
 have e3:a.term≤(rf.fresh a m).term∧m.term≤(rf.fresh a m).term∧(1≤(rf.fresh a m).commit∨1≤(rf.fresh a m).term∨(rf.fresh a m).role ≠ 2):=by
  unfold rf.fresh
  by_cases h2:a.term < m.term
  ·rw [if_pos h2];refine ⟨?_,?_,.inr (.inr ?_)⟩
   ·unfold rf.back;rw [if_pos h2];exact Nat.le_of_lt h2
   ·unfold rf.back;rw [if_pos h2];exact Nat.le_refl _
   ·rw [yo];decide
  ·rw [if_neg h2]
   refine ⟨Nat.le_refl _,by omega,?_⟩
   rcases hn.2 with (h | h) | h
   ·exact .inr (.inr h)
   ·exact .inl h
   ·exact .inr (.inl h)
 unfold rf.step at hf ⊢;rw [e1]
 split at hf
 ·rename_i h2
  rw [if_pos h2,if_pos h2]
  show Out P (if m.kind=1 then _ else if m.kind=2 then _ else if m.kind=3 then _ else _) _
  by_cases k1:m.kind=1
  ·rw [if_pos k1,if_pos k1];exact ask_sh h e2 hm k1
  rw [if_neg k1] at hf;rw [if_neg k1,if_neg k1]
  by_cases k2:m.kind=2
  ·rw [if_pos k2] at hf;rw [if_pos k2,if_pos k2]
   have h1:1≤m.term:=by
    unfold okM at hm
    rw [if_neg (by omega),if_pos k2] at hm
    exact of_decide_eq_true hm
   exact vote_sh h e2 (by omega) hf
  rw [if_neg k2] at hf;rw [if_neg k2,if_neg k2]
  by_cases k3:m.kind=3
  ·rw [if_pos k3,if_pos k3];exact put_sh h e2 hm k3
  rw [if_neg k3] at hf;rw [if_neg k3,if_neg k3]
  have hfr:m.frm.toNat < 3:=by
   unfold rf.meant at h2;simp only [Bool.and_eq_true,decide_eq_true_eq] at h2;have:=hs.m3;omega
  exact uy h e2 hm ⟨λh=>by rcases h with h | h;exact k1 h;exact k3 h,k2⟩ e3.2.2 hfr hf
 ·rename_i h2
  rw [if_neg h2,if_neg h2];exact ⟨hs,rfl⟩
theorem Jz {x a:rf.Node} (hs:Sim P x a) (hn:okN a=true) (h2:a.role=2) {t:List UInt8} (h1:t.length≤60000) (h1':(P.f t).length≤60000) (hid:0≤a.id∧a.id < 7) (hf:Fine ((rf.propose a t).1,(rf.propose a t).2.1)):Out P ((rf.propose x (P.f t)).1,(rf.propose x (P.f t)).2.1) ((rf.propose a t).1,(rf.propose a t).2.1):=by
 unfold okN at hn;simp only [Bool.and_eq_true,Bool.or_eq_true,decide_eq_true_eq] at hn
 have hc:1≤a.commit∨1≤a.term:=by
  rcases hn.2 with (h | h) | h
  ·exact absurd h2 h
  ·exact .inl h
  ·exact .inr h
 have e1:rf.propose a t=((rf.add a t).1,(rf.add a t).2,a.log.length + 1,0):=by
  unfold rf.propose
  rw [if_neg (by rintro (h | h | h) <;> omega),if_neg (by omega)]
 have e2:rf.propose x (P.f t)=((rf.add x (P.f t)).1,(rf.add x (P.f t)).2,x.log.length + 1,0):=by
  unfold rf.propose
  rw [hs.role,hs.id,if_neg (by rintro (h | h | h) <;> omega),if_neg (by omega)]
 rw [e1] at hf;rw [e1,e2];exact Uo h hs h2 hc t hf
omit h in
theorem new_sh {x a:rf.Node} (hs:Sim P x a):Sim P (rf.new x.id x.many x.term x.vote x.log) (rf.new a.id a.many a.term a.vote a.log):=
 ⟨hs.id,hs.many,hs.m3,hs.term,hs.vote,hs.base,hs.log,rfl,rfl,rfl,rfl,λ_=>rfl,⟨rfl,rfl,rfl,rfl⟩,λh=>absurd (show (0:Int)=2 from h) (by decide),λh=>absurd (show (0:Int)=2 from h) (by decide)⟩
end
end tl
namespace tl
open rl (Ent e0)
abbrev DS:=List (Bool × rf.Node) × List rf.Msg
def tickS (i:Nat) (s:DS):DS:=match s.1[i]? with
 | some (true,x)=>(s.1.set i (true,(rf.tick x).1),cl.last (s.2 ++ (rf.tick x).2))
 | _=>s
def delS (s:DS):DS:=match s.2 with
 | []=>s
 | m :: r=>match s.1[m.dst.toNat]? with
  | some (true,x)=>(s.1.set m.dst.toNat (true,(rf.step x m).1),cl.last (r ++ (rf.step x m).2))
  | _=>(s.1,r)
def ticksS:Nat→DS→DS
 | 0,s=>s
 | j + 1,s=>tickS j (ticksS j s)
def delNS:Nat→DS→DS
 | 0,s=>s
 | j + 1,s=>delS (delNS j s)
def roundS (s:DS):DS:=delNS 500 (ticksS 3 s)
def roundsS:Nat→DS→DS
 | 0,s=>s
 | j + 1,s=>roundS (roundsS j s)
def crashS (i:Nat) (s:DS):DS:=match s.1[i]? with
 | some (true,x)=>(s.1.set i (false,x),s.2)
 | _=>s
def startS (i:Nat) (s:DS):DS:=match s.1[i]? with
 | some (false,x)=>(s.1.set i (true,rf.new (i:Int) 3 x.term x.vote x.log),s.2)
 | _=>s
def propS (i:Nat) (t:List UInt8) (s:DS):DS:=match s.1[i]? with
 | some (true,x)=>(s.1.set i (true,(rf.propose x t).1),cl.last (s.2 ++ (rf.propose x t).2.1))
 | _=>s
def okS (s:DS):Bool:=s.1.all (λp=>okN p.2) && s.2.all okM && decide (s.2.length≤200)
def chk (s:DS):Option DS:=if okS s=true then some s else none
def xg (i:Nat) (s:DS):DS:=match s.1[i]? with
 | some (true,x)=>(s.1.set i (true,(rf.tick x).1),s.2 ++ (rf.tick x).2)
 | _=>s
def delR (s:DS):DS:=match s.2 with
 | []=>s
 | m :: r=>match s.1[m.dst.toNat]? with
  | some (true,x)=>(s.1.set m.dst.toNat (true,(rf.step x m).1),r ++ (rf.step x m).2)
  | _=>(s.1,r)
def xo (i:Nat) (t:List UInt8) (s:DS):DS:=match s.1[i]? with
 | some (true,x)=>(s.1.set i (true,(rf.propose x t).1),s.2 ++ (rf.propose x t).2.1)
 | _=>s
def ZY:Nat→DS→Option DS
 | 0,s=>some s
 | j + 1,s=>(ZY j s).bind λt=>chk (xg j t)
def runO:Nat→DS→Option DS
 | 0,s=>match s.2 with
  | []=>some s
  | _=>none
 | j + 1,s=>match s.2 with
  | []=>some s
  | _=>(chk (delR s)).bind (runO j)
def Jy (s:DS):Option DS:=(ZY 3 s).bind (runO 500)
def Qq:Nat→DS→Option DS
 | 0,s=>some s
 | j + 1,s=>(Qq j s).bind Jy
theorem jF:∀ j (s:DS),delNS j (delS s)=delS (delNS j s)
 | 0,_=>rfl
 | j + 1,s=>by
  show delS (delNS j (delS s))=delS (delS (delNS j s))
  rw [jF j s]
theorem ym:∀ j (s:DS),s.2=[]→delNS j s=s
 | 0,_,_=>rfl
 | j + 1,s,h=>by
  show delS (delNS j s)=s
  rw [ym j s h];unfold delS;rw [h]
theorem ur {l:List rf.Msg} (h:l.length≤200):cl.last l=l:=by
 unfold cl.last
 rw [show l.length - 200=0 by omega]
 rfl
theorem zr {l r:List rf.Msg} {g:rf.Msg→rf.Msg} (h:r.length≤200) (e:l=r.map g):cl.last l=r.map g:=by
 rw [ur (by rw [e,List.length_map];exact h),e]
structure SimS (P:Pm) (s t:DS):Prop where
 len:s.1.length=t.1.length
 p:∀ i,i < t.1.length→∃ u x a,s.1[i]?=some (u,x)∧t.1[i]?=some (u,a)∧Sim P x a∧(i < 3→a.id=(i:Int)∧a.many=3)
 way:s.2=t.2.map (mM P)
section
variable {P:Pm} (h:P.Ok)
include h
omit h in
theorem ZF {s t:DS} (hs:SimS P s t) {i:Nat} {u:Bool} {x a:rf.Node} {v w:List rf.Msg} (hx:Sim P x a) (hid:i < 3→a.id=(i:Int)∧a.many=3) (hw:v=w.map (mM P)):SimS P (s.1.set i (u,x),v) (t.1.set i (u,a),w):=by
 refine ⟨by rw [List.length_set,List.length_set];exact hs.len,λj hj=>?_,hw⟩
 have hj:j < t.1.length:=by rw [List.length_set] at hj;exact hj
 by_cases e:i=j
 ·subst e
  exact ⟨u,x,a,List.getElem?_set_self (by rw [hs.len];exact hj),List.getElem?_set_self hj,hx,hid⟩
 ·obtain ⟨u',x',a',h1,h2,h3,h4⟩:=hs.p j hj
  exact ⟨u',x',a',by rw [List.getElem?_set_ne e];exact h1,by rw [List.getElem?_set_ne e];exact h2,h3,h4⟩
omit h in
theorem xj {s t:DS} (hs:SimS P s t) {v w:List rf.Msg} (hw:v=w.map (mM P)):SimS P (s.1,v) (t.1,w):=⟨hs.len,hs.p,hw⟩
omit h in
theorem ZG {s t:DS} (hs:SimS P s t) {i:Nat} (hi:¬ i < t.1.length):s.1[i]?=none∧t.1[i]?=none:=
 ⟨List.getElem?_eq_none (by have:=hs.len;omega),List.getElem?_eq_none (by omega)⟩
omit h in
theorem YM {s t:DS} (e:chk s=some t):t=s∧okS s=true:=by
 unfold chk at e
 split at e
 ·rename_i h
  injection e with e
  exact ⟨e.symm,h⟩
 ·cases e
omit h in
theorem ZJ {s:DS} (e:okS s=true) {i:Nat} {u:Bool} {x:rf.Node} (hx:s.1[i]?=some (u,x)):okN x=true:=by
 unfold okS at e;simp only [Bool.and_eq_true,List.all_eq_true] at e;exact e.1.1 _ (List.mem_of_getElem? hx)
omit h in
theorem Kn {s:DS} (e:okS s=true):(∀ m ∈ s.2,okM m=true)∧s.2.length≤200:=by
 unfold okS at e;simp only [Bool.and_eq_true,List.all_eq_true,decide_eq_true_eq] at e;exact ⟨e.1.2,e.2⟩
omit h in
theorem Jk (a:rf.Node):(rf.tick a).1.id=a.id∧(rf.tick a).1.many=a.many:=by
 have it:∀ (y:rf.Node) (j:Nat),(rf.tallyAt y j).id=y.id∧(rf.tallyAt y j).many=y.many:=λy j=>by
  induction j with
  | zero=>exact ⟨rfl,rfl⟩
  | succ j ih=>unfold rf.tallyAt;split;(split;exact ⟨rfl,rfl⟩;exact ih);exact ⟨rfl,rfl⟩
 have iv:∀ (y:rf.Node) (i:Int),(rf.voted y i).1.id=y.id∧(rf.voted y i).1.many=y.many:=λy i=>by
  unfold rf.voted
  split
  ·split
   ·exact it _ _
   ·exact ⟨rfl,rfl⟩
  ·exact ⟨rfl,rfl⟩
 unfold rf.tick
 split
 ·split <;> exact ⟨rfl,rfl⟩
 ·split
  ·unfold rf.stand
   split
   ·exact iv _ _
   ·exact iv _ _
  ·exact ⟨rfl,rfl⟩
theorem Vq {s t t':DS} (hs:SimS P s t) (ho:okS t=true) {i:Nat} (e:chk (xg i t)=some t'):SimS P (tickS i s) t'∧okS t'=true:=by
 obtain ⟨rfl,h2⟩:=YM e;refine ⟨?_,h2⟩
 by_cases hi:i < t.1.length
 ·obtain ⟨u,x,a,g1,g2,g3,g4⟩:=hs.p i hi;have hn:=ZJ ho g2;unfold tickS xg at *;rw [g1];rw [g2] at h2 ⊢
  cases u with
  | false=>exact hs
  | true=>
   obtain ⟨k1,k2⟩:=Kn h2
   have o:=tick_sh h g3 hn (λm hm=>k1 m (List.mem_append_right _ hm))
   refine ZF hs o.1 (λh3=>?_) (zr k2 ?_)
   ·have:=Jk a;exact ⟨this.1.trans (g4 h3).1,this.2.trans (g4 h3).2⟩
   ·rw [hs.way,o.2,List.map_append]
 ·obtain ⟨g1,g2⟩:=ZG hs hi;unfold tickS xg;rw [g1,g2];exact hs
omit h in
theorem Js (a:rf.Node) (m:rf.Msg):(rf.step a m).1.id=a.id∧(rf.step a m).1.many=a.many:=by
 have it:∀ (y:rf.Node) (j:Nat),(rf.tallyAt y j).id=y.id∧(rf.tallyAt y j).many=y.many:=λy j=>by
  induction j with
  | zero=>exact ⟨rfl,rfl⟩
  | succ j ih=>unfold rf.tallyAt;split;(split;exact ⟨rfl,rfl⟩;exact ih);exact ⟨rfl,rfl⟩
 have iv:∀ (y:rf.Node) (i:Int),(rf.voted y i).1.id=y.id∧(rf.voted y i).1.many=y.many:=λy i=>by
  unfold rf.voted
  split
  ·split
   ·exact it _ _
   ·exact ⟨rfl,rfl⟩
  ·exact ⟨rfl,rfl⟩
 have ib:∀ (y:rf.Node) (t:Nat),(rf.back y t).id=y.id∧(rf.back y t).many=y.many:=λy t=>by
  unfold rf.back
  split <;> exact ⟨rfl,rfl⟩
 have hf:(rf.fresh a m).id=a.id∧(rf.fresh a m).many=a.many:=by
  unfold rf.fresh
  split
  ·exact ib _ _
  ·exact ⟨rfl,rfl⟩
 have hg:∀ r:rf.Node × List rf.Msg,(r.1.id=(rf.fresh a m).id∧r.1.many=(rf.fresh a m).many)→(r.1.id=a.id∧r.1.many=a.many):=λr hr=>⟨hr.1.trans hf.1,hr.2.trans hf.2⟩
 unfold rf.step
 split
 ·split
  ·refine hg _ ?_;unfold rf.ask
   split <;> exact ⟨rfl,rfl⟩
  ·split
   ·refine hg _ ?_;unfold rf.vote
    split
    ·exact iv _ _
    ·exact ⟨rfl,rfl⟩
   ·split
    ·refine hg _ ?_;unfold rf.put
     split
     ·exact ⟨rfl,rfl⟩
     ·split
      ·exact ib _ _
      ·exact ib _ _
    ·refine hg _ ?_;unfold rf.heard
     split
     ·split
      ·split
       ·exact it _ _
       ·exact it _ _
      ·exact ⟨rfl,rfl⟩
     ·exact ⟨rfl,rfl⟩
 ·exact ⟨rfl,rfl⟩
theorem delS_sh {s t t':DS} (hs:SimS P s t) (ho:okS t=true) (e:chk (delR t)=some t'):SimS P (delS s) t'∧okS t'=true:=by
 obtain ⟨rfl,h2⟩:=YM e;refine ⟨?_,h2⟩;have hw:=hs.way;unfold delS delR at *
 cases ht:t.2 with
 | nil=>
  rw [ht] at hw h2;rw [hw];exact hs
 | cons m r=>
  rw [ht] at hw h2;rw [hw];dsimp only [List.map] at h2 ⊢
  have hm:okM m=true:=(Kn ho).1 m (by rw [ht];exact List.mem_cons_self)
  show SimS P (match s.1[m.dst.toNat]? with | some (true,x)=>_ | _=>_) _
  by_cases hi:m.dst.toNat < t.1.length
  ·obtain ⟨u,x,a,g1,g2,g3,g4⟩:=hs.p _ hi;have hn:=ZJ ho g2;rw [g1];rw [g2] at h2 ⊢
   cases u with
   | false=>exact xj hs rfl
   | true=>
    obtain ⟨k1,k2⟩:=Kn h2
    have o:=step_sh h g3 hn hm (λq hq=>k1 q (List.mem_append_right _ hq))
    refine ZF hs o.1 (λh3=>?_) (zr k2 ?_)
    ·have:=Js a m;exact ⟨this.1.trans (g4 h3).1,this.2.trans (g4 h3).2⟩
    ·rw [o.2,List.map_append]
  ·obtain ⟨g1,g2⟩:=ZG hs hi;rw [g1,g2];exact xj hs rfl
theorem KS {s t:DS} (hs:SimS P s t) (ho:okS t=true):∀ j {t':DS},ZY j t=some t'→SimS P (ticksS j s) t'∧okS t'=true
 | 0,t',e=>by injection e with e;subst e;exact ⟨hs,ho⟩
 | j + 1,t',e=>by
  unfold ZY at e
  cases h1:ZY j t with
  | none=>rw [h1] at e;cases e
  | some u=>
   rw [h1] at e;obtain ⟨k1,k2⟩:=KS hs ho j h1;exact Vq h k1 k2 e
theorem VP:∀ j {s t t':DS},SimS P s t→okS t=true→runO j t=some t'→SimS P (delNS j s) t'∧okS t'=true
 | 0,s,t,t',hs,ho,e=>by
  unfold runO at e
  split at e
  ·injection e with e;subst e;exact ⟨hs,ho⟩
  ·cases e
 | j + 1,s,t,t',hs,ho,e=>by
  unfold runO at e
  split at e
  ·rename_i hn
   injection e with e;subst e
   refine ⟨?_,ho⟩
   rw [ym _ _ (by rw [hs.way,hn];rfl)]
   exact hs
  ·cases h1:chk (delR t) with
   | none=>rw [h1] at e;cases e
   | some u=>
    rw [h1] at e;obtain ⟨k1,k2⟩:=delS_sh h hs ho h1;have:=VP j k1 k2 e;rw [jF] at this;exact this
theorem VT {s t t':DS} (hs:SimS P s t) (ho:okS t=true) (e:Jy t=some t'):SimS P (roundS s) t'∧okS t'=true:=by
 unfold Jy at e
 cases h1:ZY 3 t with
 | none=>rw [h1] at e;cases e
 | some u=>
  rw [h1] at e;obtain ⟨k1,k2⟩:=KS h hs ho 3 h1;exact VP h 500 k1 k2 e
theorem zW {s t:DS} (hs:SimS P s t) (ho:okS t=true):∀ j {t':DS},Qq j t=some t'→SimS P (roundsS j s) t'∧okS t'=true
 | 0,t',e=>by injection e with e;subst e;exact ⟨hs,ho⟩
 | j + 1,t',e=>by
  unfold Qq at e
  cases h1:Qq j t with
  | none=>rw [h1] at e;cases e
  | some u=>
   rw [h1] at e;obtain ⟨k1,k2⟩:=zW hs ho j h1;exact VT h k1 k2 e
omit h in
theorem jI {s t:DS} (hs:SimS P s t) (i:Nat):SimS P (crashS i s) (crashS i t):=by
 by_cases hi:i < t.1.length
 ·obtain ⟨u,x,a,g1,g2,g3,g4⟩:=hs.p i hi;unfold crashS;rw [g1,g2]
  cases u with
  | false=>exact hs
  | true=>exact ZF hs g3 g4 hs.way
 ·obtain ⟨g1,g2⟩:=ZG hs hi;unfold crashS;rw [g1,g2];exact hs
omit h in
theorem jJ {t:DS} (ho:okS t=true) (i:Nat):okS (crashS i t)=true:=by
 unfold crashS
 split
 ·rename_i x hx
  have hn:=ZJ ho hx;unfold okS at ho ⊢;simp only [Bool.and_eq_true,List.all_eq_true,decide_eq_true_eq] at ho ⊢
  refine ⟨⟨λp hp=>?_,ho.1.2⟩,ho.2⟩
  rcases List.mem_or_eq_of_mem_set hp with hp | rfl
  ·exact ho.1.1 p hp
  ·exact hn
 ·exact ho
omit h in
theorem Yf {s t:DS} (hs:SimS P s t) {i:Nat} (h3:i < 3):SimS P (startS i s) (startS i t):=by
 by_cases hi:i < t.1.length
 ·obtain ⟨u,x,a,g1,g2,g3,g4⟩:=hs.p i hi;unfold startS;rw [g1,g2]
  cases u with
  | true=>exact hs
  | false=>
   have hn:=new_sh g3;rw [g3.id,g3.many,(g4 h3).1,(g4 h3).2] at hn
   exact ZF hs hn (λ_=>⟨rfl,rfl⟩) hs.way
 ·obtain ⟨g1,g2⟩:=ZG hs hi;unfold startS;rw [g1,g2];exact hs
omit h in
theorem Yg {t:DS} (ho:okS t=true) (i:Nat):okS (startS i t)=true:=by
 unfold startS
 split
 ·rename_i x hx
  have hn:=ZJ ho hx;unfold okS at ho ⊢;simp only [Bool.and_eq_true,List.all_eq_true,decide_eq_true_eq] at ho ⊢
  refine ⟨⟨λp hp=>?_,ho.1.2⟩,ho.2⟩
  rcases List.mem_or_eq_of_mem_set hp with hp | rfl
  ·exact ho.1.1 p hp
  ·unfold okN at hn ⊢;simp only [Bool.and_eq_true,decide_eq_true_eq] at hn ⊢
   exact ⟨hn.1,by simp [rf.new]⟩
 ·exact ho
theorem prop_sh {s t t':DS} {tx:List UInt8} (hs:SimS P s t) (ho:okS t=true) (h1:tx.length≤60000) (h2:(P.f tx).length≤60000) {i:Nat} (h3:i < 3) {a:rf.Node} (ha:t.1[i]?=some (true,a)) (hr:a.role=2) (e:chk (xo i tx t)=some t'):SimS P (propS i (P.f tx) s) t'∧okS t'=true:=by
 obtain ⟨rfl,k⟩:=YM e;refine ⟨?_,k⟩;have hi:i < t.1.length:=(List.getElem?_eq_some_iff.1 ha).1;obtain ⟨u,x,a',g1,g2,g3,g4⟩:=hs.p i hi;rw [ha] at g2
 injection g2 with g2
 injection g2 with g5 g6
 subst g5 g6;have hn:=ZJ ho ha;unfold propS xo at *;rw [g1];rw [ha] at k ⊢;obtain ⟨k1,k2⟩:=Kn k
 have o:=Jz h g3 hn hr h1 h2 (by rw [(g4 h3).1];omega) (λq hq=>k1 q (List.mem_append_right _ hq))
 refine ZF hs o.1 (λ_=>?_) (zr k2 ?_)
 ·have it:∀ (y:rf.Node) (j:Nat),(rf.tallyAt y j).id=y.id∧(rf.tallyAt y j).many=y.many:=λy j=>by
   induction j with
   | zero=>exact ⟨rfl,rfl⟩
   | succ j ih=>unfold rf.tallyAt;split;(split;exact ⟨rfl,rfl⟩;exact ih);exact ⟨rfl,rfl⟩
  have e1:(rf.propose a tx).1.id=a.id∧(rf.propose a tx).1.many=a.many:=by
   unfold rf.propose
   split
   ·exact ⟨rfl,rfl⟩
   ·split
    ·exact ⟨rfl,rfl⟩
    ·exact it _ _
  exact ⟨e1.1.trans (g4 h3).1,e1.2.trans (g4 h3).2⟩
 ·rw [hs.way];have:=o.2;dsimp only at this ⊢;rw [this,List.map_append]
end
end tl
namespace tl
open rl (Ent e0)
def mkN (i l:Nat) (c:Int × Int × Nat):rf.Node:=
 ⟨(i:Int),3,0,c.1,[(0,[]),(0,[1])],if i=l then 2 else 0,(l:Int),c.2.2,c.2.1,List.replicate 7 false,if i=l then [3,3,3,0,0,0,0] else List.replicate 7 0,if i=l then [2,2,2,0,0,0,0] else List.replicate 7 0⟩
def dat:Nat→Nat × (Int × Int × Nat) × (Int × Int × Nat) × (Int × Int × Nat)
 | 0=>(0,(0,1,2),(0,1,1),(0,1,1))
 | 1=>(0,(0,0,2),(0,0,2),(0,0,2))
 | 2=>(1,(-1,1,1),(1,2,2),(1,1,1))
 | 3=>(0,(0,2,2),(0,1,1),(0,1,1))
 | 4=>(1,(-1,1,1),(1,1,2),(1,1,1))
 | 5=>(0,(0,2,2),(-1,1,1),(0,1,1))
 | 6=>(1,(-1,0,2),(1,0,2),(1,0,2))
 | 7=>(0,(0,1,2),(-1,1,1),(0,1,1))
 | _=>(0,(0,0,2),(-1,0,2),(0,0,2))
def mkC (d:Nat × (Int × Int × Nat) × (Int × Int × Nat) × (Int × Int × Nat)):DS:=([(true,mkN 0 d.1 d.2.1),(true,mkN 1 d.1 d.2.2.1),(true,mkN 2 d.1 d.2.2.2)],[])
def cls (k:Nat):DS:=mkC (dat k)
abbrev Fall:=Option (Nat × Bool)
def startsS (s:DS):DS:=startS 2 (startS 1 (startS 0 s))
def fallS (v:Fall) (s:DS):DS:=match v with
 | none=>s
 | some (i,false)=>startsS (crashS i s)
 | some (i,true)=>startsS (roundsS 45 (crashS i s))
def jA (v:Fall) (s:DS):Option DS:=match v with
 | none=>some s
 | some (i,false)=>some (startsS (crashS i s))
 | some (i,true)=>(Qq 45 (crashS i s)).map startsS
def ze (s:DS) (m:Int):Nat:=match s.1[m.toNat]? with
 | some p=>p.2.term
 | none=>0
def leadS (s:DS):Nat→Int
 | 0=>-1
 | k + 1=>match s.1[k]? with
  | some (true,x)=>if x.role=2∧(leadS s k = -1∨ze s (leadS s k) < x.term) then (k:Int) else leadS s k
  | _=>leadS s k
def fitN (T:Nat) (g:List Ent) (i l:Nat) (c:Int × Int × Nat) (p:Bool × rf.Node):Bool:=
 let b:=p.2
 p.1 && decide (b.id=(i:Int)) && decide (b.many=3) && decide (b.term=T) && decide (b.vote=c.1) && decide (b.log=g) && decide (b.role=if i=l then 2 else 0) && decide (b.lead=(l:Int)) && decide (b.idle=c.2.1) &&
 decide (1≤b.commit∧b.commit + 2=c.2.2 + g.length) && decide (b.next.length=7∧b.mat.length=7) &&
 (decide (i ≠ l) || (List.range 3).all λk=>decide (1≤b.next.getD k 0∧b.next.getD k 0 + 2=3 + g.length) && decide (1≤b.mat.getD k 0∧b.mat.getD k 0 + 2=2 + g.length))
def fit (k:Nat) (s:DS):Bool:=match s.1 with
 | [p,q,r]=>s.2.isEmpty && fitN p.2.term p.2.log 0 (dat k).1 (dat k).2.1 p && fitN p.2.term p.2.log 1 (dat k).1 (dat k).2.2.1 q && fitN p.2.term p.2.log 2 (dat k).1 (dat k).2.2.2 r &&
  decide (2≤p.2.log.length) && decide (p.2.log.take 1=[(0,[])]) && decide (p.2.log.drop (p.2.log.length - 1)=[(p.2.term,[2])]) && decide (rl.lastTerm (p.2.log.take (p.2.log.length - 1))=p.2.term) &&
  (p.2.log.take (p.2.log.length - 1)).all (λe=>decide (e.1≤p.2.term)) && decide (p.2.term≤20)
 | _=>false
def Ze (s:DS):List Ent:=match s.1 with
 | p :: _=>p.2.log
 | []=>[]
def TARGETS:List (List Nat):=[[1,2,1,1,0,1,1],[3,4,3,3,0,3,3],[4,4,3,4,4,5,4],[0,2,0,0,0,0,0],[6,6,3,6,6,5,6],[7,2,7,7,0,7,7],[2,2,0,2,2,7,2],[8,2,8,8,0,8,8],[5,4,5,5,0,5,5]]
def next (k:Nat) (v:Fall):Nat:=(TARGETS.getD k []).getD (match v with | none=>0 | some (i,b)=>1 + (if b then (if i=0 then 0 else if i=1 then 4 else 2) else (if i=0 then 3 else if i=1 then 1 else 5))) 0
def Vm (l:Nat) (s:DS):Option DS:=(chk (xo l [2] s)).bind (Qq 2)
def kE (k l:Nat) (s:DS):Option DS:=match s.1[l]? with
 | some (true,a)=>(match Vm l s with
  | some t=>if (decide (s.1.length=3) && decide (l < 3) && decide (a.role=2) && fit k t && decide ((Ze t).length=a.log.length + 1))=true then some t else none
  | none=>none)
 | _=>none
def good (k:Nat) (v:Fall):Bool:=match (jA v (cls k)).bind (Qq 45) with
 | some s=>match leadS s 3 with
  | .ofNat l=>(match kE (next k v) l s with
   | some t=>decide ((Ze t).take 2=[(0,[]),(0,[1])])
   | none=>false)
  | _=>false
 | none=>false
def falls:List Fall:=[none,some (0,false),some (1,false),some (2,false),some (0,true),some (1,true),some (2,true)]
theorem good0:falls.all (good 0)=true:=by kernel_rfl
theorem good1:falls.all (good 1)=true:=by kernel_rfl
theorem good2:falls.all (good 2)=true:=by kernel_rfl
theorem good3:falls.all (good 3)=true:=by kernel_rfl
theorem good4:falls.all (good 4)=true:=by kernel_rfl
theorem good5:falls.all (good 5)=true:=by kernel_rfl
theorem good6:falls.all (good 6)=true:=by kernel_rfl
theorem good7:falls.all (good 7)=true:=by kernel_rfl
theorem good8:falls.all (good 8)=true:=by kernel_rfl
end tl
end Go.Proofs.YtppibhieabideaaGreatDoor
