/- A part of the walk of the program, and of its plain law. -/
import Derived.Test.YtppibhieabideaaGreatDoorGt26
import Derived.Test.YtppibhieabideaaGreatDoorGt23
import Derived.Test.YtppibhieabideaaGreatDoorGt25
import Derived.Lib.Bytealg
namespace Go.Proofs.YtppibhieabideaaGreatDoor
set_option maxRecDepth 100000
namespace tl
open rl (Ent e0)
def ff (prev cur:List UInt8):List UInt8→List UInt8:=λt=>if t=[1] then prev else if t=[2] then cur else []
structure At (j:Nat) (s:DS) (k:Nat) (pre:List Ent) (prev:List UInt8):Prop where
 k9:k < 9
 ne:pre ≠ []
 le:∀ e ∈ pre,e.1≤rl.lastTerm pre
 big:rl.lastTerm pre≤20 * j + 1
 sim:∀ cur,SimS ⟨pre,ff prev cur⟩ s (cls k)
def hist (pre:List Ent) (prev:List UInt8):List Ent:=pre ++ [(rl.lastTerm pre,prev)]
section
variable {j:Nat} {s:DS} {k:Nat} {pre:List Ent} {prev:List UInt8}
theorem At.okP (h:At j s k pre prev) (hj:j≤100) (cur:List UInt8):(Pm.mk pre (ff prev cur)).Ok:=
 ⟨h.ne,h.le,rfl,by have:=h.big;show rl.lastTerm pre + 1000 < _;omega⟩
theorem cls_ok:∀ k,k < 9→okS (cls k)=true:=by decide
theorem next_lt:∀ k,k < 9→∀ v ∈ falls,next k v < 9:=by decide
theorem Uc:∀ k,k < 9→leadS (cls k) 3=((dat k).1:Int):=by decide
theorem Ul {k:Nat} (h:k < 9) {v:Fall} (hv:v ∈ falls):good k v=true:=by
 have e:falls.all (good k)=true:=by
  match k,h with
  | 0,_=>exact good0
  | 1,_=>exact good1
  | 2,_=>exact good2
  | 3,_=>exact good3
  | 4,_=>exact good4
  | 5,_=>exact good5
  | 6,_=>exact good6
  | 7,_=>exact good7
  | 8,_=>exact good8
 exact List.all_eq_true.1 e v hv
theorem jl (s:DS):∀ k,leadS s k = -1∨∃ m:Nat,m < k∧leadS s k=(m:Int)∧∃ x,s.1[m]?=some (true,x)∧x.role=2
 | 0=>.inl rfl
 | k + 1=>by
  have ih:=jl s k
  have hin:(leadS s k = -1∨∃ m:Nat,m < k∧leadS s k=(m:Int)∧∃ x,s.1[m]?=some (true,x)∧x.role=2)→(leadS s k = -1∨∃ m:Nat,m < k + 1∧leadS s k=(m:Int)∧∃ x,s.1[m]?=some (true,x)∧x.role=2):=λh=>by
   rcases h with h | ⟨m,h1,h2⟩
   ·exact .inl h
   ·exact .inr ⟨m,by omega,h2⟩
  show leadS s (k + 1) = -1∨∃ m:Nat,m < k + 1∧leadS s (k + 1)=(m:Int)∧_
  have e:leadS s (k + 1)=(match s.1[k]? with | some (true,x)=>if x.role=2∧(leadS s k = -1∨ze s (leadS s k) < x.term) then (k:Int) else leadS s k | _=>leadS s k):=rfl
  rw [e]
  cases hk:s.1[k]? with
  | none=>exact hin ih
  | some p=>
   obtain ⟨u,x⟩:=p
   cases u with
   | false=>exact hin ih
   | true=>
    dsimp only
    by_cases hc:x.role=2∧(leadS s k = -1∨ze s (leadS s k) < x.term)
    ·rw [if_pos hc]
     exact .inr ⟨k,by omega,rfl,x,hk,hc.1⟩
    ·rw [if_neg hc];exact hin ih
theorem Z8 {P:Pm} {s t:DS} (h:SimS P s t):∀ k,k≤t.1.length→leadS s k=leadS t k
 | 0,_=>rfl
 | k + 1,hk=>by
  have ih:=Z8 h k (by omega)
  obtain ⟨u,x,a,h1,h2,h3,h4⟩:=h.p k (by omega)
  have e1:leadS s (k + 1)=(match s.1[k]? with | some (true,x)=>if x.role=2∧(leadS s k = -1∨ze s (leadS s k) < x.term) then (k:Int) else leadS s k | _=>leadS s k):=rfl
  have e2:leadS t (k + 1)=(match t.1[k]? with | some (true,x)=>if x.role=2∧(leadS t k = -1∨ze t (leadS t k) < x.term) then (k:Int) else leadS t k | _=>leadS t k):=rfl
  rw [e1,e2,h1,h2]
  cases u with
  | false=>exact ih
  | true=>
   dsimp only;rw [ih,h3.role]
   have e:(leadS t k = -1∨ze s (leadS t k) < x.term) ↔ (leadS t k = -1∨ze t (leadS t k) < a.term):=by
    rcases jl t k with h5 | ⟨m,h5,h6,y,h7,_⟩
    ·simp [h5]
    ·obtain ⟨u',x',a',g1,g2,g3,_⟩:=h.p m (by omega)
     have k1:=g3.term;have k2:=h3.term;unfold ze;rw [h6,Int.toNat_natCast,g1,g2];dsimp only
     constructor
     ·rintro (q | q)
      ·exact .inl q
      ·exact .inr (by omega)
     ·rintro (q | q)
      ·exact .inl q
      ·exact .inr (by omega)
   by_cases hc:a.role=2∧(leadS t k = -1∨ze t (leadS t k) < a.term)
   ·rw [if_pos hc,if_pos ⟨hc.1,e.2 hc.2⟩]
   ·rw [if_neg hc,if_neg (λq=>hc ⟨q.1,e.1 q.2⟩)]
theorem fall_sh {P:Pm} (h:P.Ok) {s t t':DS} (hs:SimS P s t) (ho:okS t=true) {v:Fall} (hv:v ∈ falls) (e:jA v t=some t'):SimS P (fallS v s) t'∧okS t'=true:=by
 have st:∀ {a b:DS},SimS P a b→okS b=true→SimS P (startsS a) (startsS b)∧okS (startsS b)=true:=λ{a b} h1 h2=>
  ⟨Yf (Yf (Yf h1 (by decide)) (by decide)) (by decide),Yg (Yg (Yg h2 0) 1) 2⟩
 match v,e with
 | none,e=>injection e with e;subst e;exact ⟨hs,ho⟩
 | some (i,false),e=>injection e with e;subst e;exact st (jI hs i) (jJ ho i)
 | some (i,true),e=>
  show SimS P (startsS (roundsS 45 (crashS i s))) t'∧_
  cases h1:Qq 45 (crashS i t) with
  | none=>rw [show jA (some (i,true)) t=(Qq 45 (crashS i t)).map startsS from rfl,h1] at e;cases e
  | some u=>
   rw [show jA (some (i,true)) t=(Qq 45 (crashS i t)).map startsS from rfl,h1] at e
   injection e with e
   subst e;obtain ⟨k1,k2⟩:=zW h (jI hs i) (jJ ho i) 45 h1;exact st k1 k2
theorem jz {T:Nat} {g:List Ent} {i l:Nat} {c:Int × Int × Nat} {p:Bool × rf.Node} (h:fitN T g i l c p=true):p.1=true∧p.2.id=(i:Int)∧p.2.many=3∧p.2.term=T∧p.2.vote=c.1∧p.2.log=g∧p.2.role=(if i=l then 2 else 0)∧p.2.lead=(l:Int)∧p.2.idle=c.2.1 ∧
  (1≤p.2.commit∧p.2.commit + 2=c.2.2 + g.length)∧(p.2.next.length=7∧p.2.mat.length=7)∧(i=l→∀ k,k < 3→(1≤p.2.next.getD k 0∧p.2.next.getD k 0 + 2=3 + g.length)∧(1≤p.2.mat.getD k 0∧p.2.mat.getD k 0 + 2=2 + g.length)):=by
 unfold fitN at h;simp only [Bool.and_eq_true,decide_eq_true_eq,Bool.or_eq_true] at h;obtain ⟨⟨⟨⟨⟨⟨⟨⟨⟨⟨⟨h1,h2⟩,h3⟩,h4⟩,h5⟩,h6⟩,h7⟩,h8⟩,h9⟩,h10⟩,h11⟩,h12⟩:=h
 refine ⟨h1,h2,h3,h4,h5,h6,h7,h8,h9,h10,h11,λe k hk=>?_⟩
 rcases h12 with h12 | h12
 ·exact absurd e h12
 ·have:=List.all_eq_true.1 h12 k (List.mem_range.2 hk);simp only [Bool.and_eq_true,decide_eq_true_eq] at this;exact this
theorem xF:∀ k,k < 9→1≤(dat k).2.1.2.2∧1≤(dat k).2.2.1.2.2∧1≤(dat k).2.2.2.2.2∧(dat k).1 < 3∧((dat k).1=0→(dat k).2.1.2.2=2)∧((dat k).1=1→(dat k).2.2.1.2.2=2)∧((dat k).1=2→(dat k).2.2.2.2.2=2):=by decide
theorem fit_sim {P:Pm} (hP:P.Ok) {x:rf.Node} {p:Bool × rf.Node} (hx:Sim P x p.2) {T:Nat} {g:List Ent} {i l:Nat} {c:Int × Int × Nat} (hn:fitN T g i l c p=true) (hc:1≤c.2.2) (h2:2≤g.length) (h1:Base g) (h3:g.drop (g.length - 1)=[(T,[2])]) (h4:rl.lastTerm (g.take (g.length - 1))=T) (cur cur':List UInt8) (hcur:P.f [2]=cur) :
  Sim ⟨mL P (g.take (g.length - 1)),ff cur cur'⟩ x (mkN i l c):=by
 obtain ⟨_,n2,n3,n4,n5,n6,n7,n8,n9,n10,n11,n12⟩:=jz hn;obtain ⟨G,hG⟩:∃ G,g.take (g.length - 1)=G:=⟨_,rfl⟩
 have hb:Base G:=by rw [← hG];exact zm h1 (by omega)
 have hGl:G.length=g.length - 1:=by rw [← hG,List.length_take];omega
 have hg:g=G ++ [(T,[2])]:=by rw [← h3,← hG];exact (List.take_append_drop _ _).symm
 rw [hG] at h4 ⊢;have hlen:=QI hP hb
 have htau:(Pm.mk (mL P G) (ff cur cur')).tau=T + P.tau:=by show rl.lastTerm (mL P G)=_;rw [zb hP hb,h4]
 have hlam:(Pm.mk (mL P G) (ff cur cur')).lam=g.length - 2 + P.lam:=by show (mL P G).length - 1=_;rw [hlen,hGl];omega
 refine ⟨hx.id.trans n2,hx.many.trans n3,rfl,?_,hx.vote.trans n5,⟨[],[(0,[1])],rfl⟩,?_,hx.role.trans n7,hx.lead.trans n8,?_,hx.idle.trans n9,λhr=>?_,⟨hx.lens.1,?_,hx.lens.2.2.1,?_⟩,λhr k hk=>?_,λhr k hk=>?_⟩
 ·show x.term=0 + _
  rw [htau,hx.term,n4,Nat.zero_add]
 ·show x.log=mL P G ++ mE (Pm.mk (mL P G) (ff cur cur')) [(0,[1])]
  rw [hx.log,n6,hg,Kt hb]
  congr 1
  show [(T + P.tau,P.f [2])]=[(0 + (Pm.mk (mL P G) (ff cur cur')).tau,ff cur cur' [1])]
  rw [htau,hcur,Nat.zero_add]
  rfl
 ·show x.commit=sh _ c.2.2
  rw [hx.commit];unfold sh
  rw [if_neg (by omega),if_neg (by omega),hlam]
  omega
 ·exfalso
  have hr:(if i=l then (2:Int) else 0)=1:=hr
  split at hr
  ·exact absurd hr (by decide)
  ·exact absurd hr (by decide)
 ·show (if i=l then [3,3,3,0,0,0,0] else List.replicate 7 0:List Nat).length=7
  split <;> rfl
 ·show (if i=l then [2,2,2,0,0,0,0] else List.replicate 7 0:List Nat).length=7
  split <;> rfl
 ·have hr:(if i=l then (2:Int) else 0)=2:=hr
  have hil:i=l:=by
   by_cases e:i=l
   ·exact e
   ·rw [if_neg e] at hr;exact absurd hr (by decide)
  have hq:=(n12 hil k hk).1
  show x.next.getD k 0=sh _ ((if i=l then [3,3,3,0,0,0,0] else List.replicate 7 0:List Nat).getD k 0)
  rw [if_pos hil,hx.next (by rw [n7,if_pos hil]) k hk]
  have e3:([3,3,3,0,0,0,0]:List Nat).getD k 0=3:=by
   match k,hk with
   | 0,_=>rfl
   | 1,_=>rfl
   | 2,_=>rfl
  rw [e3];unfold sh
  rw [if_neg (by omega),if_neg (by omega),hlam]
  omega
 ·have hr:(if i=l then (2:Int) else 0)=2:=hr
  have hil:i=l:=by
   by_cases e:i=l
   ·exact e
   ·rw [if_neg e] at hr;exact absurd hr (by decide)
  have hq:=(n12 hil k hk).2
  show x.mat.getD k 0=sh _ ((if i=l then [2,2,2,0,0,0,0] else List.replicate 7 0:List Nat).getD k 0)
  rw [if_pos hil,hx.mat (by rw [n7,if_pos hil]) k hk]
  have e3:([2,2,2,0,0,0,0]:List Nat).getD k 0=2:=by
   match k,hk with
   | 0,_=>rfl
   | 1,_=>rfl
   | 2,_=>rfl
  rw [e3];unfold sh
  rw [if_neg (by omega),if_neg (by omega),hlam]
  omega
theorem fit_at {P:Pm} (hP:P.Ok) {s t:DS} (hs:SimS P s t) {k:Nat} (hk:k < 9) (hf:fit k t=true) (cur:List UInt8) (hcur:P.f [2]=cur) {j:Nat} (hb:P.tau≤20 * j + 1) :
  At (j + 1) s k (mL P ((Ze t).take ((Ze t).length - 1))) cur∧hist (mL P ((Ze t).take ((Ze t).length - 1))) cur=mL P (Ze t)∧Base (Ze t)∧2≤(Ze t).length:=by
 obtain ⟨l,way⟩:=t;unfold fit at hf
 match l,hf with
 | [p,q,r],hf=>
  show At _ _ _ (mL P (p.2.log.take (p.2.log.length - 1))) _∧hist (mL P (p.2.log.take (p.2.log.length - 1))) cur=mL P p.2.log∧Base p.2.log∧2≤p.2.log.length
  simp only [Bool.and_eq_true,decide_eq_true_eq,List.all_eq_true,List.isEmpty_iff] at hf;obtain ⟨⟨⟨⟨⟨⟨⟨⟨⟨w0,f0⟩,f1⟩,f2⟩,h2⟩,h1⟩,h3⟩,h4⟩,h5⟩,h6⟩:=hf;obtain ⟨g,hg⟩:∃ g,p.2.log=g:=⟨_,rfl⟩;obtain ⟨T,hT⟩:∃ T,p.2.term=T:=⟨_,rfl⟩;rw [hg] at f0 f1 f2 h1 h2 h3 h4 h5 ⊢;rw [hT] at f0 f1 f2 h3 h4 h5 h6
  have hB:Base g:=by
   cases g with
   | nil=>simp at h2
   | cons e r=>
    have:[e]=[((0:Nat),([]:List UInt8))]:=by simpa using h1
    injection this with e1
    subst e1;exact ⟨[],r,rfl⟩
  have hbt:Base (g.take (g.length - 1)):=zm hB (by omega)
  have hlt:rl.lastTerm (mL P (g.take (g.length - 1)))=T + P.tau:=by rw [zb hP hbt,h4]
  have hGt:g=g.take (g.length - 1) ++ [(T,[2])]:=by rw [← h3];exact (List.take_append_drop _ _).symm
  refine ⟨⟨hk,?_,?_,?_,λcur'=>?_⟩,?_,hB,h2⟩
  ·intro e;have:=QI hP hbt;rw [e,List.length_take] at this
   simp at this
   omega
  ·intro e he;rw [hlt];unfold mL at he
   rcases List.mem_append.1 he with he | he
   ·have:=hP.le e he;omega
   ·unfold mE at he;obtain ⟨d,hd,rfl⟩:=List.mem_map.1 he;have:=h5 d (List.mem_of_mem_drop hd)
    show d.1 + P.tau≤_
    omega
  ·rw [hlt];omega
  ·obtain ⟨c1,c2,c3,_⟩:=xF k hk;have s3:s.1.length=3:=hs.len
   have node:∀ i,i < 3→∀ (y:Bool × rf.Node) (c:Int × Int × Nat),([p,q,r]:List (Bool × rf.Node))[i]?=some y→fitN T g i (dat k).1 c y=true→1≤c.2.2→∃ u x a,s.1[i]?=some (u,x)∧some ((true,mkN i (dat k).1 c):Bool × rf.Node)=some (u,a)∧Sim ⟨mL P (g.take (g.length - 1)),ff cur cur'⟩ x a∧(i < 3→a.id=(i:Int)∧a.many=3):=λi hi y c hy hn hc=>by
    obtain ⟨u,x,a,g1,g2,g3,g4⟩:=hs.p i hi;have g2:([p,q,r]:List (Bool × rf.Node))[i]?=some (u,a):=g2;rw [hy] at g2
    injection g2 with g2
    subst g2;have hu:=(jz hn).1;have hu:u=true:=hu;subst hu
    exact ⟨true,x,_,g1,rfl,fit_sim hP g3 hn hc h2 hB h3 h4 cur cur' hcur,λ_=>⟨rfl,rfl⟩⟩
   refine ⟨s3,λi hi=>?_,?_⟩
   ·have hi:i < 3:=hi
    match i,hi with
    | 0,hi=>exact node 0 hi p _ rfl f0 c1
    | 1,hi=>exact node 1 hi q _ rfl f1 c2
    | 2,hi=>exact node 2 hi r _ rfl f2 c3
   ·have hw:s.2=way.map (mM P):=hs.way;rw [hw,w0]
    rfl
  ·unfold hist;rw [hlt]
   conv=>rhs;rw [hGt,Kt hbt]
   congr 1
   show [(T + P.tau,cur)]=[(T + P.tau,P.f [2])]
   rw [hcur]
theorem At.lead (h:At j s k pre prev):∃ (l:Nat) (y:rf.Node),l < 3∧leadS s 3=(l:Int)∧s.1[l]?=some (true,y)∧y.role=2∧y.log=hist pre prev∧y.commit=(hist pre prev).length:=by
 have hs:=h.sim []
 have e:=Z8 hs 3 (by show 3≤3;omega)
 rw [Uc k h.k9] at e;obtain ⟨_,_,_,d4,d5,d6,d7⟩:=xF k h.k9
 obtain ⟨u,x,a,g1,g2,g3,g4⟩:=hs.p (dat k).1 (by show _ < 3;exact d4)
 refine ⟨(dat k).1,x,d4,e,?_⟩
 have key:∃ c:Int × Int × Nat,c.2.2=2∧(cls k).1[(dat k).1]?=some (true,mkN (dat k).1 (dat k).1 c):=by
  unfold cls mkC
  generalize hl:(dat k).1=l at d4 d5 d6 d7
  match l,d4 with
  | 0,_=>exact ⟨_,d5 rfl,rfl⟩
  | 1,_=>exact ⟨_,d6 rfl,rfl⟩
  | 2,_=>exact ⟨_,d7 rfl,rfl⟩
 obtain ⟨c,hc,hk⟩:=key;rw [hk] at g2
 injection g2 with g2
 injection g2 with g5 g6
 subst g5;subst g6;have hpl:1≤pre.length:=List.length_pos_iff.2 h.ne
 refine ⟨g1,by rw [g3.role];show (if (dat k).1=(dat k).1 then (2:Int) else 0)=2;rw [if_pos rfl],?_,?_⟩
 ·rw [g3.log]
  show pre ++ [(0 + rl.lastTerm pre,prev)]=hist pre prev
  rw [Nat.zero_add]
  rfl
 ·rw [g3.commit]
  show sh _ c.2.2=_
  rw [hc];unfold sh hist
  rw [if_neg (by omega),List.length_append]
  show 2 + (pre.length - 1)=pre.length + 1
  omega
theorem sub_pre {P:Pm} {g:List Ent} (h:g.take 2=[(0,[]),(0,[1])]):∃ r,mL P g=P.pre ++ [(P.tau,P.f [1])] ++ r:=by
 have e:g=[(0,[]),(0,[1])] ++ g.drop 2:=by rw [← h];exact (List.take_append_drop _ _).symm
 refine ⟨mE P (g.drop 2),?_⟩;unfold mL
 conv=>lhs;rw [e]
 show P.pre ++ ((0 + P.tau,P.f [1]) :: mE P (g.drop 2))=_
 rw [Nat.zero_add,List.append_assoc]
 rfl
def KK (j:Nat) (s1:DS) (sure:List Ent) (cur:List UInt8):Prop:=
 ∃ (l:Nat) (x:rf.Node),l < 3∧leadS s1 3=(l:Int)∧s1.1[l]?=some (true,x)∧x.role=2 ∧
  ∃ k pre,At (j + 1) (roundsS 2 (propS l cur s1)) k pre cur∧pre.length=x.log.length∧∃ r,hist pre cur=sure ++ r
theorem xd {P:Pm} (hP:P.Ok) {s1 t1:DS} (hs:SimS P s1 t1) (ho:okS t1=true) {k l:Nat} (hk:k < 9) {t:DS} (hl:leadS t1 3=Int.ofNat l) (hg:kE k l t1=some t) (cur:List UInt8) (hcur:P.f [2]=cur) (hc:cur.length≤60000) (hb:P.tau≤20 * j + 1) (sure:List Ent) (hpre:∃ r,mL P (Ze t)=sure ++ r) :
  KK j s1 sure cur:=by
 unfold kE at hg
 cases ha:t1.1[l]? with
 | none=>rw [ha] at hg;cases hg
 | some ua=>
  obtain ⟨u,a⟩:=ua;rw [ha] at hg
  cases u with
  | false=>cases hg
  | true=>
   dsimp only at hg
   cases ht:Vm l t1 with
   | none=>rw [ht] at hg;cases hg
   | some t'=>
    rw [ht] at hg;dsimp only at hg
    split at hg
    ·rename_i hq
     injection hg with hg
     subst hg;simp only [Bool.and_eq_true,decide_eq_true_eq] at hq;obtain ⟨⟨⟨⟨h3,q1⟩,q2⟩,q3⟩,q4⟩:=hq;unfold Vm at ht
     cases hp:chk (xo l [2] t1) with
     | none=>rw [hp] at ht;cases ht
     | some t2=>
      rw [hp] at ht
      obtain ⟨k1,k2⟩:=prop_sh hP hs ho (by decide) (by rw [hcur];exact hc) q1 ha q2 hp
      rw [hcur] at k1;obtain ⟨k3,k4⟩:=zW hP k1 k2 2 ht;obtain ⟨f1,f2,f3,f4⟩:=fit_at hP k3 hk q3 cur hcur hb
      obtain ⟨u,x,a',g1,g2,g3,g4⟩:=hs.p l (by rw [h3];exact q1)
      rw [ha] at g2
      injection g2 with g2
      injection g2 with g5 g6
      subst g5;subst g6
      have e:=Z8 hs 3 (by omega)
      obtain ⟨r,hr⟩:=hpre
      refine ⟨l,x,q1,by rw [e,hl];rfl,g1,by rw [g3.role];exact q2,k,_,f1,?_,r,by rw [f2];exact hr⟩
      rw [QI hP (zm f3 (by omega)),List.length_take,g3.log,QI hP g3.base,q4]
      omega
    ·cases hg
theorem At.turn (h:At j s k pre prev) (hj:j≤99) {v:Fall} (hv:v ∈ falls) (cur:List UInt8) (hc:cur.length≤60000):KK j (roundsS 45 (fallS v s)) (hist pre prev) cur:=by
 have hP:=h.okP (by omega) cur
 have hs:=h.sim cur;have hg:=Ul h.k9 hv;unfold good at hg
 cases h1:jA v (cls k) with
 | none=>rw [h1] at hg;cases hg
 | some t0=>
  rw [h1] at hg;dsimp only [Option.bind] at hg;obtain ⟨k1,k2⟩:=fall_sh hP hs (cls_ok k h.k9) hv h1
  cases h2:Qq 45 t0 with
  | none=>rw [h2] at hg;cases hg
  | some t1=>
   rw [h2] at hg;dsimp only at hg;obtain ⟨k3,k4⟩:=zW hP k1 k2 45 h2
   cases hl:leadS t1 3 with
   | negSucc n=>rw [hl] at hg;cases hg
   | ofNat l=>
    rw [hl] at hg;dsimp only at hg
    cases hq:kE (next k v) l t1 with
    | none=>rw [hq] at hg;cases hg
    | some t=>
     rw [hq] at hg;simp only [decide_eq_true_eq] at hg;exact xd hP k3 k4 (next_lt k h.k9 v hv) hl hq cur rfl hc h.big _ (sub_pre hg)
def freshS:DS:=([(true,rf.new 0 3 0 (-1) []),(true,rf.new 1 3 0 (-1) []),(true,rf.new 2 3 0 (-1) [])],[])
def down (x:rf.Node):rf.Node:={ x with term:=0,log:=[(0,[])] }
def t0:DS:=((roundsS 45 freshS).1.map λp=>(p.1,down p.2),[])
def yj (i:Nat) (p:Bool × rf.Node):Bool:=p.1 && decide (p.2.id=(i:Int)) && decide (p.2.many=3) && decide (p.2.term=1) && decide (p.2.log=[(1,[])]) && decide (p.2.role ≠ 1) && decide (p.2.next.length=7) && decide (p.2.mat.length=7)
def first:Bool:=match (roundsS 45 freshS).1 with
 | [p,q,r]=>(roundsS 45 freshS).2.isEmpty && yj 0 p && yj 1 q && yj 2 r && okS t0 && (match leadS t0 3 with
  | .ofNat l=>(match kE 0 l t0 with
   | some _=>true
   | none=>false)
  | _=>false)
 | _=>false
theorem uK:first=true:=by kernel_rfl
def P1 (cur:List UInt8):Pm:=⟨[(1,[])],ff [] cur⟩
theorem P1_ok (cur:List UInt8):(P1 cur).Ok:=⟨by simp [P1],by intro e he;have he:e ∈ [((1:Nat),([]:List UInt8))]:=he;rw [List.mem_singleton.1 he];exact Nat.le_refl 1,rfl,by show 1 + 1000 < _;omega⟩
theorem VJ (cur:List UInt8) (i:Nat):sh (P1 cur) i=i:=by
 unfold sh
 split
 ·omega
 ·rfl
theorem Xv (cur:List UInt8) {i:Nat} {p:Bool × rf.Node} (h:yj i p=true):p.1=true∧Sim (P1 cur) p.2 (down p.2)∧p.2.id=(i:Int)∧p.2.many=3:=by
 unfold yj at h;simp only [Bool.and_eq_true,decide_eq_true_eq] at h;obtain ⟨⟨⟨⟨⟨⟨⟨h1,h2⟩,h3⟩,h4⟩,h5⟩,h6⟩,h7⟩,h8⟩:=h
 refine ⟨h1,⟨rfl,rfl,h3,by rw [h4];rfl,rfl,⟨[],[],rfl⟩,by rw [h5];rfl,rfl,rfl,(VJ cur _).symm,rfl,λe=>absurd e h6,⟨h7,h7,h8,h8⟩,λ_ k _=>(VJ cur _).symm,λ_ k _=>(VJ cur _).symm⟩,h2,h3⟩
theorem JW (cur:List UInt8) (hc:cur.length≤60000):KK 0 (roundsS 45 freshS) [] cur:=by
 have hf:=uK
 unfold first at hf
 obtain ⟨s,hs⟩:∃ s,roundsS 45 freshS=s:=⟨_,rfl⟩
 have ht0:t0=(s.1.map (λp=>(p.1,down p.2)),[]):=by unfold t0;rw [hs]
 rw [hs] at hf ⊢;obtain ⟨l,way⟩:=s
 match l,hf,ht0 with
 | [p,q,r],hf,ht0=>
  simp only [Bool.and_eq_true,List.isEmpty_iff] at hf;obtain ⟨⟨⟨⟨⟨hw,f0⟩,f1⟩,f2⟩,ho⟩,hl⟩:=hf;have hw:way=[]:=hw;subst hw
  have hsim:SimS (P1 cur) ([p,q,r],[]) t0:=by
   rw [ht0]
   refine ⟨rfl,λi hi=>?_,rfl⟩
   have hi:i < 3:=hi
   have node:∀ i (y:Bool × rf.Node),([p,q,r]:List (Bool × rf.Node))[i]?=some y→yj i y=true→∃ u x a,([p,q,r]:List (Bool × rf.Node))[i]?=some (u,x)∧([p,q,r].map (λp=>(p.1,down p.2)))[i]?=some (u,a)∧Sim (P1 cur) x a∧(i < 3→a.id=(i:Int)∧a.many=3):=λi y hy hn=>by
    obtain ⟨a1,a2,a3,a4⟩:=Xv cur hn
    exact ⟨y.1,y.2,down y.2,hy,by rw [List.getElem?_map,hy];rfl,a2,λ_=>⟨a3,a4⟩⟩
   match i,hi with
   | 0,_=>exact node 0 p rfl f0
   | 1,_=>exact node 1 q rfl f1
   | 2,_=>exact node 2 r rfl f2
  cases hq:leadS t0 3 with
  | negSucc n=>rw [hq] at hl;cases hl
  | ofNat l=>
   rw [hq] at hl;dsimp only at hl
   cases hg:kE 0 l t0 with
   | none=>rw [hg] at hl;cases hl
   | some t=>exact xd (P1_ok cur) hsim ho (by decide) hq hg cur rfl hc (Nat.le_refl 1) [] ⟨_,rfl⟩
def Stage (i:Nat) (s:DS) (sure:List Ent):Prop:=
 (i=0∧s=freshS∧sure=[])∨∃ k pre prev v s0,v ∈ falls∧At i s0 k pre prev∧s=fallS v s0∧sure=hist pre prev
theorem Stage.turn {i:Nat} {s:DS} {sure:List Ent} (h:Stage i s sure) (hi:i≤99) (cur:List UInt8) (hc:cur.length≤60000):KK i (roundsS 45 s) sure cur:=by
 rcases h with ⟨rfl,rfl,rfl⟩ | ⟨k,pre,prev,v,s0,hv,hA,rfl,rfl⟩
 ·exact JW cur hc
 ·exact hA.turn hi hv cur hc
end
end tl
end Go.Proofs.YtppibhieabideaaGreatDoor
namespace Go.Proofs.YtppibhieabideaaGreatDoor
open Go Go.RowKit Go.Deep
set_option maxRecDepth 100000
namespace tl
structure Like (C:cl.Clu) (s:DS):Prop where
 len:s.1.length=C.n
 way:C.way=s.2
 p:∀ i,i < C.n→∃ x,s.1[i]?=some ((C.p i).up,x)∧((C.p i).up=true→x=(C.p i).x)∧cl.stOf x=(C.p i).s
section
variable {C:cl.Clu} {s:DS}
theorem Like.up (h:Like C s) {i:Nat} (hi:i < C.n) (hu:(C.p i).up=true):s.1[i]?=some (true,(C.p i).x):=by
 obtain ⟨x,h1,h2,_⟩:=h.p i hi;rw [h1,hu,h2 hu]
theorem Like.down (h:Like C s) {i:Nat} (hi:i < C.n) (hu:(C.p i).up=false):∃ x,s.1[i]?=some (false,x)∧cl.stOf x=(C.p i).s:=by
 obtain ⟨x,h1,_,h3⟩:=h.p i hi
 exact ⟨x,by rw [h1,hu],h3⟩
theorem Yw {i:Nat} {nd:cl.Nd} {x:rf.Node} {w:List rf.Msg} {v:List rf.Msg} (h:Like C s) (hi:i < C.n) (h1:nd.up=true→x=nd.x) (h2:cl.stOf x=nd.s) (hw:w=v):Like { C with p:=cl.upd C.p i nd,way:=w } (s.1.set i (nd.up,x),v):=by
 refine ⟨by rw [List.length_set];exact h.len,hw,λj hj=>?_⟩
 have hj:j < C.n:=hj
 by_cases hji:j=i
 ·subst hji;refine ⟨x,?_,?_,?_⟩
  ·show (s.1.set j (nd.up,x))[j]?=some ((cl.upd C.p j nd j).up,x)
   rw [cl.upd_same]
   exact List.getElem?_set_self (by rw [h.len];exact hj)
  ·show (cl.upd C.p j nd j).up=true→x=(cl.upd C.p j nd j).x
   rw [cl.upd_same];exact h1
  ·show cl.stOf x=(cl.upd C.p j nd j).s
   rw [cl.upd_same];exact h2
 ·obtain ⟨y,k1,k2,k3⟩:=h.p j hj;refine ⟨y,?_,?_,?_⟩
  ·show (s.1.set i (nd.up,x))[j]?=some ((cl.upd C.p i nd j).up,y)
   rw [cl.upd_other _ _ hji,List.getElem?_set_ne (λe=>hji e.symm)]
   exact k1
  ·show (cl.upd C.p i nd j).up=true→y=(cl.upd C.p i nd j).x
   rw [cl.upd_other _ _ hji];exact k2
  ·show cl.stOf y=(cl.upd C.p i nd j).s
   rw [cl.upd_other _ _ hji];exact k3
theorem zq {i:Nat} {x:rf.Node} {w out:List rf.Msg} (h:Like C s) (hi:i < C.n):Like (cl.changed { C with way:=w } i x out) (s.1.set i (true,x),cl.last (w ++ out)):=
 (Yw (C:=C) (nd:=⟨cl.stOf x,true,x⟩) (w:=cl.last (w ++ out)) (v:=cl.last (w ++ out)) h hi (λ_=>rfl) rfl rfl:Like { C with p:=cl.upd C.p i ⟨cl.stOf x,true,x⟩,way:=cl.last (w ++ out) } _)
theorem like_tick {i:Nat} (h:Like C s) (hi:i < C.n) (hu:(C.p i).up=true):Like (cl.changed C i (rf.tick (C.p i).x).1 (rf.tick (C.p i).x).2) (tickS i s):=by
 have e:tickS i s=(s.1.set i (true,(rf.tick (C.p i).x).1),cl.last (C.way ++ (rf.tick (C.p i).x).2)):=by
  unfold tickS;rw [h.up hi hu,h.way]
 rw [e];exact zq (w:=C.way) h hi
theorem like_tick_no {i:Nat} (h:Like C s) (hi:i < C.n) (hu:(C.p i).up=false):tickS i s=s:=by
 obtain ⟨x,h1,_⟩:=h.down hi hu;unfold tickS;rw [h1]
theorem like_prop {i:Nat} (t:List UInt8) (h:Like C s) (hi:i < C.n) (hu:(C.p i).up=true):Like (cl.changed C i (rf.propose (C.p i).x t).1 (rf.propose (C.p i).x t).2.1) (propS i t s):=by
 have e:propS i t s=(s.1.set i (true,(rf.propose (C.p i).x t).1),cl.last (C.way ++ (rf.propose (C.p i).x t).2.1)):=by
  unfold propS;rw [h.up hi hu,h.way]
 rw [e];exact zq (w:=C.way) h hi
theorem like_del {i:Nat} {m:rf.Msg} {r:List rf.Msg} (h:Like C s) (hw:C.way=m :: r) (hd:m.dst=(i:Int)) (hi:i < C.n) (hu:(C.p i).up=true):Like (cl.changed { C with way:=r } i (rf.step (C.p i).x m).1 (rf.step (C.p i).x m).2) (delS s):=by
 have e:delS s=(s.1.set i (true,(rf.step (C.p i).x m).1),cl.last (r ++ (rf.step (C.p i).x m).2)):=by
  unfold delS;rw [← h.way,hw];dsimp only;rw [hd,Int.toNat_natCast,h.up hi hu]
 rw [e];exact zq (w:=r) h hi
theorem like_del_no {i:Nat} {m:rf.Msg} {r:List rf.Msg} (h:Like C s) (hw:C.way=m :: r) (hd:m.dst=(i:Int)) (hi:i < C.n) (hu:(C.p i).up=false):Like { C with way:=r } (delS s):=by
 obtain ⟨x,h1,_⟩:=h.down hi hu
 have e:delS s=(s.1,r):=by
  unfold delS;rw [← h.way,hw];dsimp only;rw [hd,Int.toNat_natCast,h1]
 rw [e];exact ⟨h.len,rfl,h.p⟩
theorem like_crash {i:Nat} (z:rf.Node) (h:Like C s) (hi:i < C.n) (hu:(C.p i).up=true) (hs:(C.p i).s=cl.stOf (C.p i).x):Like (cl.fallen C i (C.p i).s z) (crashS i s):=by
 have e:crashS i s=(s.1.set i (false,(C.p i).x),s.2):=by
  unfold crashS;rw [h.up hi hu]
 rw [e]
 have k:=Yw (nd:=⟨(C.p i).s,false,z⟩) (x:=(C.p i).x) (w:=C.way) (v:=s.2) h hi (λh=>by cases h) hs.symm h.way
 exact k
theorem like_crash_no {i:Nat} (h:Like C s) (hi:i < C.n) (hu:(C.p i).up=false):crashS i s=s:=by
 obtain ⟨x,h1,_⟩:=h.down hi hu;unfold crashS;rw [h1]
theorem like_start {i:Nat} (h:Like C s) (h3:C.n=3) (hi:i < C.n) (hu:(C.p i).up=false):Like (cl.started C i) (startS i s):=by
 obtain ⟨x,h1,h2⟩:=h.down hi hu
 have e:startS i s=(s.1.set i (true,rf.new (i:Int) (C.n:Int) (C.p i).s.t (C.p i).s.v (C.p i).s.l),s.2):=by
  unfold startS;rw [h1,← h2,h3]
  rfl
 rw [e]
 exact Yw (nd:=⟨(C.p i).s,true,rf.new (i:Int) (C.n:Int) (C.p i).s.t (C.p i).s.v (C.p i).s.l⟩) (w:=C.way) h hi (λ_=>rfl) rfl h.way
theorem like_start_no {i:Nat} (h:Like C s) (hi:i < C.n) (hu:(C.p i).up=true):startS i s=s:=by
 unfold startS;rw [h.up hi hu]
theorem delNS_stop {s:DS} {j:Nat} (h:(delNS j s).2=[]):∀ d,delNS (j + d) s=delNS j s
 | 0=>rfl
 | d + 1=>by
  show delS (delNS (j + d) s)=_
  rw [delNS_stop h d];exact ym 1 _ h
theorem like_lead (h:Like C s):∀ k,k≤C.n→leadS s k=cl.leadTo C k
 | 0,_=>rfl
 | k + 1,hk=>by
  have ih:=like_lead h k (by omega)
  have hk':k < C.n:=by omega
  have e1:leadS s (k + 1)=(match s.1[k]? with | some (true,x)=>if x.role=2∧(leadS s k = -1∨ze s (leadS s k) < x.term) then (k:Int) else leadS s k | _=>leadS s k):=rfl
  rw [e1]
  show _=(if _ then _ else _)
  cases hu:(C.p k).up with
  | false=>
   obtain ⟨x,h1,_⟩:=h.down hk' hu
   rw [h1,if_neg (λq=>by cases q.1)]
   exact ih
  | true=>
   rw [h.up hk' hu];dsimp only;rw [ih]
   have e:(cl.leadTo C k = -1∨ze s (cl.leadTo C k) < (C.p k).x.term) ↔ (cl.leadTo C k = -1∨(C.p (cl.leadTo C k).toNat).x.term < (C.p k).x.term):=by
    rcases cl.leadTo_or C k with h5 | ⟨m,h5,h6,h7,_⟩
    ·simp [h5]
    ·unfold ze
     rw [h6,Int.toNat_natCast,h.up (by omega) h7]
   by_cases hc:(C.p k).x.role=2∧(cl.leadTo C k = -1∨ze s (cl.leadTo C k) < (C.p k).x.term)
   ·rw [if_pos hc,if_pos ⟨rfl,hc.1,e.1 hc.2⟩]
   ·rw [if_neg hc,if_neg (λq=>hc ⟨q.2.1,e.2 q.2.2⟩)]
end
theorem last_len200 (l:List rf.Msg):(cl.last l).length≤200:=by
 unfold cl.last;rw [List.length_drop];omega
def Bd (B M:Nat):Prop:=M + 1≤9990∧206 * (M + 2)≤B
end tl
structure Tc (B:Nat) (w0:World) (c M:Nat) (C:cl.Clu) (w:World):Prop where
 cn:C.n=3
 lim:cl.Lim M M C
 inv:∃ g,cl.Inv C g
 w200:C.way.length≤200
 at_:∃ R k F wv,CluAt B w0 w c R C F k wv
def KeepE (w w':World):Prop:=∀ x vs,Vb w x vs 36→Vb w' x vs 36
theorem KeepE.refl (w:World):KeepE w w:=λ_ _ h=>h
theorem KeepE.trans {a b c:World} (h:KeepE a b) (k:KeepE b c):KeepE a c:=λx vs hv=>k x vs (h x vs hv)
theorem KeepE.of_below {w w':World} (h:Below w.heap.size w w'):KeepE w w':=λ_ _ hv=>(h.block _ hv.lt).trans hv
theorem zi {B:Nat} {w0:World} {c R:Nat} {C:cl.Clu} {F:Nat→Fp} {k:Nat} {wv:Value} {w w':World} (h:CluAt B w0 w c R C F k wv) (hs:Stay F C.n w w'):KeepE w w':=λx vs hv=>hv.stay hs (by unfold zT;decide) (h.notof hv (by decide) (by decide))
theorem ku {b n:Nat} {v:Value} {xs:List Value} {w w':World} (h:w.ownsRow b 36 2 v n xs) (k:KeepE w w'):w'.ownsRow b 36 2 v n xs:=by
 refine ⟨h.1,?_⟩
 rcases h.2 with h | ⟨g,cap,cur,rfl,hb,hh,r⟩
 ·exact .inl h
 ·refine .inr ⟨g,cap,cur,rfl,hb,?_,r⟩
  have:=k g cur.toList (by unfold Vb;rw [hh])
  unfold Vb at this;rw [this]
def Run (B:Nat) (w0:World) (c M:Nat) (s:tl.DS) (w:World):Prop:=∃ C,Tc B w0 c M C w∧tl.Like C s
section
variable {B:Nat} {w0:World} {c M:Nat} {C:cl.Clu} {w:World} {s:tl.DS}
theorem Tc.mono {M':Nat} (h:Tc B w0 c M C w) (hM:M≤M'):Tc B w0 c M' C w:=⟨h.cn,h.lim.mono hM hM,h.inv,h.w200,h.at_⟩
theorem Tc.later {w':World} (h:Tc B w0 c M C w) (hb:Below w.heap.size w w'):Tc B w0 c M C w':=by
 obtain ⟨R,k,F,wv,h1⟩:=h.at_;exact ⟨h.cn,h.lim,h.inv,h.w200,R,k,F,wv,h1.later hb⟩
theorem Run.later {w':World} (h:Run B w0 c M s w) (hb:Below w.heap.size w w'):Run B w0 c M s w':=by
 obtain ⟨C,h1,h2⟩:=h;exact ⟨C,h1.later hb,h2⟩
theorem Tc.ready (h:Tc B w0 c M C w) (hb:tl.Bd B M) {i:Nat} (hi:i < 3) (hu:(C.p i).up=true):Ready M M B C i:=by
 have hi':i < C.n:=by rw [h.cn];exact hi
 obtain ⟨g,hI⟩:=h.inv;have u:=hI.up i hi' hu
 exact ⟨hi',hu,u.st,u.id,u.many,h.lim.up i hi' hu,h.w200,hb.1,by have:=hb.1;omega,hb.2⟩
theorem ZX {C0:cl.Clu} {R k i:Nat} {F:Nat→Fp} {x:rf.Node} {ms:List rf.Msg} {z:Int} {M':Nat} {w':World} (hn:C.n=3) (hI:∃ g,cl.Inv C0 g) (hL:cl.Lim M M C) (hM:M≤M')
  (hOn:∀ C',cl.After C i x ms C'→cl.Onward C0 C') (hb:cl.BothLim M' M' (x,ms)) (h:Turned B w0 c R C F k i x ms z w w'):z=0∧Tc B w0 c M' (cl.changed C i x ms) w'∧Stay F C.n w w':=by
 obtain ⟨C',F',wv',h1,⟨hfp,hz,rfl⟩,h3⟩:=h;obtain ⟨g,hI⟩:=hI;obtain ⟨g',hI',_⟩:=(hOn _ .ok).2 g hI;exact ⟨hz,⟨hn,cl.After.lim (r:=(x,ms)) .ok hL hM hM hb,⟨g',hI'⟩,tl.last_len200 _,R,k,F',wv',h1⟩,h3⟩
theorem VM {i:Nat} (h:Run B w0 c M s w) (hb:tl.Bd B M) (ht:TabAt w0) (hi:i < 3) :
  Calls Tryz.prog 42 #[cptr c,.int .i64 (i:Int)] w λe w'=>∃ z:Int,e=.returned (.int .i64 z)∧Run B w0 c (M + 1) (tl.tickS i s) w'∧KeepE w w':=by
 obtain ⟨C,h,hs⟩:=h;obtain ⟨R,k,F,wv,h1⟩:=h.at_
 have hi':i < C.n:=by rw [h.cn];exact hi
 cases hu:(C.p i).up with
 | true=>
  have rd:=h.ready hb hi hu;refine (xf h1 rd ht).mono ?_;rintro e w' ⟨z,rfl,hT⟩;have hid:=rd.id;have h7:=h1.n7
  obtain ⟨rfl,h2,h5⟩:=ZX h.cn h.inv h.lim (Nat.le_succ M) (λC' hA=>cl.onward_tick h.lim rd.hK h7 hi' hu hA) (cl.tick_lim rd.hK rd.lim (by omega) (by omega)) hT
  exact ⟨0,rfl,⟨_,h2,tl.like_tick hs hi' hu⟩,zi h1 h5⟩
 | false=>
  refine (tick_no h1 (λfv w hw=>Km fv hw hi' hu)).mono ?_
  rintro e w' ⟨rfl,hb'⟩;rw [tl.like_tick_no hs hi' hu];exact ⟨6,rfl,⟨C,(h.mono (Nat.le_succ M)).later hb',hs⟩,KeepE.of_below hb'⟩
theorem K2 {m:rf.Msg} {r:List rf.Msg} (h:Run B w0 c M s w) (hb:tl.Bd B M) (ht:TabAt w0) (hm:s.2=m :: r) :
  Calls Tryz.prog 43 #[cptr c,.int .i64 0] w λe w'=>∃ z:Int,e=.returned (.int .i64 z)∧z ≠ 1∧Run B w0 c M (tl.delS s) w'∧KeepE w w':=by
 obtain ⟨C,h,hs⟩:=h;obtain ⟨R,k,F,wv,h1⟩:=h.at_;have hm:C.way=m :: r:=hs.way.trans hm
 have hm0:C.way[0]?=some m:=by rw [hm];rfl
 have hmem:m ∈ C.way:=List.mem_of_getElem? hm0;obtain ⟨g,hI⟩:=h.inv;obtain ⟨_,d,_,hd,_,hdn,_⟩:=(hI.way m hmem).dom
 have hoff:cl.off C.way 0=r:=by unfold cl.off;rw [hm];rfl
 have hwe:∀ y ∈ r,y ∈ C.way:=λy hy=>by rw [hm];exact List.mem_cons_of_mem _ hy
 have hdn2:d < 3:=by rw [← h.cn];exact hdn
 cases hu:(C.p d).up with
 | true=>
  have rd:=h.ready hb hdn2 hu;have hml:=h.lim.way m hmem;have hdel:=JY (j:=0) h1 hm0 hd rd ht hml;rw [hoff] at hdel;refine hdel.mono ?_;rintro e w' ⟨z,rfl,hT⟩
  obtain ⟨rfl,h2,h5⟩:=ZX (C:={ C with way:=r }) h.cn h.inv (cl.lim_way h.lim hwe) (Nat.le_refl M) (λC' hA=>cl.onward_step h1.n7 hdn hu hmem hwe hA) (cl.step_lim (by have:=hb.1;omega) rd.lim hml) hT
  exact ⟨0,rfl,by decide,⟨_,h2,tl.like_del hs hm hd hdn hu⟩,zi h1 h5⟩
 | false=>
  have hdel:=KA (j:=0) h1 hm0 hd hdn hu (by have:=h.w200;omega)
  rw [hoff] at hdel;refine hdel.mono ?_;rintro e w' ⟨rfl,wv',h2,h3⟩;obtain ⟨g',hI',_⟩:=(cl.onward_way (w:=r) hwe).2 g hI
  refine ⟨6,rfl,by decide,⟨{ C with way:=r },⟨h.cn,cl.lim_way h.lim hwe,⟨g',hI'⟩,?_,R,k,F,wv',h2⟩,tl.like_del_no hs hm hd hdn hu⟩,zi h1 h3⟩
  have:=h.w200;rw [hm,List.length_cons] at this
  show r.length≤200
  omega
theorem Yk (h:Run B w0 c M s w) (hm:s.2=[]) :
  Calls Tryz.prog 43 #[cptr c,.int .i64 0] w λe w'=>e=.returned (.int .i64 1)∧Run B w0 c M s w'∧KeepE w w':=by
 obtain ⟨C,h,hs⟩:=h;obtain ⟨R,k,F,wv,h1⟩:=h.at_
 refine (YJ (i:=0) h1 (by rw [hs.way,hm];simp)).mono ?_
 rintro e w' ⟨rfl,hb2⟩;exact ⟨rfl,⟨C,h.later hb2,hs⟩,KeepE.of_below hb2⟩
theorem Xz (h:Run B w0 c M s w) (hb:tl.Bd B (M + 3)) (ht:TabAt w0) :
  Calls Tryz.prog 10 #[cptr c] w λe w'=>e=.returned (.tuple #[])∧Run B w0 c (M + 3) (tl.roundS s) w'∧KeepE w w':=by
 obtain ⟨C,hC,hs⟩:=id h;obtain ⟨R,k,F,wv,h1⟩:=hC.at_;have c0:=h1.c0;rw [hC.cn] at c0
 have hbm:∀ j,j≤3→tl.Bd B (M + j):=λj hj=>⟨by have:=hb.1;omega,by have:=hb.2;have:206 * (M + j + 2)≤206 * (M + 3 + 2):=Nat.mul_le_mul_left _ (by omega);omega⟩
 refine kj (n:=3) (λj w'=>Run B w0 c (M + j) (tl.ticksS j s) w'∧KeepE w w') (λj w'=>Run B w0 c (M + 3) (tl.delNS j (tl.ticksS 3 s)) w'∧KeepE w w') (λw'=>Run B w0 c (M + 3) (tl.roundS s) w'∧KeepE w w') (by omega) c0 ⟨h,KeepE.refl _⟩ (λj w1 hj hT=>?_) (λ_ hT=>hT) (λj w1 hj hT=>?_) (λ_ hT=>hT)
 ·obtain ⟨hT,hk⟩:=hT
  refine (VM hT (hbm j (by omega)) ht hj).mono ?_
  rintro e w2 ⟨z,rfl,hN,hk2⟩;exact ⟨z,rfl,hN,hk.trans hk2⟩
 ·obtain ⟨t,htt⟩:∃ t,tl.delNS j (tl.ticksS 3 s)=t:=⟨_,rfl⟩;obtain ⟨hT,hk⟩:=hT;rw [htt] at hT
  cases hw:t.2 with
  | nil=>
   refine (Yk hT hw).mono ?_;rintro e w2 ⟨rfl,hN,hk2⟩
   refine ⟨1,rfl,λ_=>⟨?_,hk.trans hk2⟩,λh=>absurd rfl h⟩
   have e:=tl.delNS_stop (j:=j) (s:=tl.ticksS 3 s) (by rw [htt];exact hw) (500 - j)
   rw [show j + (500 - j)=500 by omega,htt] at e
   unfold tl.roundS;rw [e];exact hN
  | cons m r=>
   refine (K2 hT hb ht hw).mono ?_;rintro e w2 ⟨z,rfl,hz,hN,hk2⟩
   refine ⟨z,rfl,λh=>absurd h hz,λ_=>⟨?_,hk.trans hk2⟩⟩
   show Run B w0 c (M + 3) (tl.delS (tl.delNS j (tl.ticksS 3 s))) w2
   rw [htt];exact hN
theorem VR {i:Nat} {x:rf.Node} (text:List UInt8) (htx:text.length≤100) (h:Run B w0 c M s w) (hb:tl.Bd B M) (ht:TabAt w0) (hi:i < 3) (hx:s.1[i]?=some (true,x)) (hr:x.role=2) :
  Calls Tryz.prog 11 #[cptr c,.int .i64 (i:Int),.string (crcm.mk text)] w λe w'=>e=.returned (.tuple #[.int .u64 ((x.log.length + 1:Nat):Int),.int .i64 0])∧Run B w0 c (M + 1) (tl.propS i text s) w'∧KeepE w w':=by
 obtain ⟨C,h,hs⟩:=h;obtain ⟨R,k,F,wv,h1⟩:=h.at_
 have hi':i < C.n:=by rw [h.cn];exact hi
 obtain ⟨y,g1,g2,g3⟩:=hs.p i hi';rw [hx] at g1
 injection g1 with g1
 injection g1 with hu e
 subst e;have hu:(C.p i).up=true:=hu.symm;have e:=g2 hu;rw [e] at hr ⊢;have rd:=h.ready hb hi hu;refine (yw text htx h1 rd ht hr).mono ?_;rintro e w' ⟨z,rfl,hT⟩
 have hlm:=cl.propose_lim (by have:=hb.1;omega) rd.lim htx
 obtain ⟨rfl,h2,h5⟩:=ZX h.cn h.inv h.lim (Nat.le_succ M) (λC' hA=>cl.onward_propose h1.n7 hi' hu hA) ⟨hlm.1.mono (Nat.le_refl _) (Nat.le_succ _),λm hm=>(hlm.2 m hm).mono (Nat.le_refl _) (Nat.le_succ _)⟩ hT
 exact ⟨by rw [if_pos rfl],⟨_,h2,tl.like_prop text hs hi' hu⟩,zi h1 h5⟩
theorem XA {i:Nat} (keep:Int) (h:Run B w0 c M s w) (hi:i < 3) :
  Calls Tryz.prog 14 #[cptr c,.int .i64 (i:Int),.int .i64 keep] w λe w'=>∃ z:Int,e=.returned (.int .i64 z)∧Run B w0 c M (tl.crashS i s) w'∧KeepE w w':=by
 obtain ⟨C,h,hs⟩:=h;obtain ⟨R,k,F,wv,h1⟩:=h.at_
 have hi':i < C.n:=by rw [h.cn];exact hi
 obtain ⟨g,hI⟩:=h.inv
 cases hu:(C.p i).up with
 | true=>
  refine (uZ keep h1 hi' hu).mono ?_;rintro e w' ⟨rfl,hf⟩;obtain ⟨g',hI',_⟩:=(cl.onward_fall (C:=C) (i:=i) qi).2 g hI;exact ⟨0,rfl,⟨cl.fallen C i (C.p i).s qi,⟨h.cn,cl.lim_fall h.lim _,⟨g',hI'⟩,h.w200,R,k,_,wv,hf.1⟩,tl.like_crash qi hs hi' hu (hI.up i hi' hu).st⟩,zi h1 hf.2⟩
 | false=>
  refine (u9 keep h1 (λfv w hw=>Km fv hw hi' hu)).mono ?_
  rintro e w' ⟨rfl,hb'⟩;rw [tl.like_crash_no hs hi' hu];exact ⟨6,rfl,⟨C,h.later hb',hs⟩,KeepE.of_below hb'⟩
theorem Xy {i:Nat} (h:Run B w0 c M s w) (ht:TabAt w0) (hi:i < 3) :
  Calls Tryz.prog 15 #[cptr c,.int .i64 (i:Int)] w λe w'=>∃ z:Int,e=.returned (.int .i64 z)∧Run B w0 c M (tl.startS i s) w'∧KeepE w w':=by
 obtain ⟨C,h,hs⟩:=h;obtain ⟨R,k,F,wv,h1⟩:=h.at_
 have hi':i < C.n:=by rw [h.cn];exact hi
 obtain ⟨g,hI⟩:=h.inv
 cases hu:(C.p i).up with
 | true=>
  refine (VD h1 hi' hu).mono ?_;rintro e w' ⟨rfl,hb'⟩;rw [tl.like_start_no hs hi' hu];exact ⟨5,rfl,⟨C,h.later hb',hs⟩,KeepE.of_below hb'⟩
 | false=>
  refine (Xp h1 hi' hu ht).mono ?_;rintro e w' ⟨rfl,F',h2,h3,_⟩;obtain ⟨g',hI',_⟩:=(cl.onward_start (C:=C) (i:=i)).2 g hI;exact ⟨0,rfl,⟨cl.started C i,⟨h.cn,cl.lim_start h.lim hi',⟨g',hI'⟩,h.w200,R,k,F',wv,h2⟩,tl.like_start hs h.cn hi' hu⟩,zi h1 h3⟩
theorem VS (h:Run B w0 c M s w) :
  Calls Tryz.prog 12 #[cptr c] w λe w'=>e=.returned (.int .i64 (tl.leadS s 3))∧Run B w0 c M s w'∧KeepE w w':=by
 obtain ⟨C,h,hs⟩:=h;obtain ⟨R,k,F,wv,h1⟩:=h.at_;have hl:=Yy h1
 have e:=tl.like_lead hs 3 (by rw [h.cn];exact Nat.le_refl 3)
 rw [h.cn,← e] at hl;refine hl.mono ?_;rintro e w' ⟨rfl,hb⟩;exact ⟨rfl,⟨C,h.later hb,hs⟩,KeepE.of_below hb⟩
theorem YX {i:Nat} {x:rf.Node} (h:Run B w0 c M s w) (hi:i < 3) (hx:s.1[i]?=some (true,x)) (hc:x.commit=x.log.length) (hl:x.log.length≤10000) :
  Calls Tryz.prog 13 #[cptr c,.int .i64 (i:Int)] w λe w'=>∃ D e',e=.returned (.slice D x.log.length e')∧w'.ownsRow w.heap.size 36 2 (.slice D x.log.length e') x.log.length (qg x.log)∧Below w.heap.size w w'∧Run B w0 c M s w':=by
 obtain ⟨C,h,hs⟩:=h;obtain ⟨R,k,F,wv,h1⟩:=h.at_
 have hi':i < C.n:=by rw [h.cn];exact hi
 obtain ⟨y,g1,g2,g3⟩:=hs.p i hi';rw [hx] at g1
 injection g1 with g1
 injection g1 with hu e
 subst e;have hu:(C.p i).up=true:=hu.symm;have e:=g2 hu
 have hcm:=Zg h1 hi' (by rw [← e];exact λ_=>Nat.le_of_eq hc) (by rw [← e];exact λ_=>hl)
 have e2:Qp C i=x.log:=by
  unfold Qp;rw [hu,if_pos rfl,← e,hc,List.take_length]
 rw [e2] at hcm;refine hcm.mono ?_;rintro e w' ⟨D,e',rfl,h3,h4⟩;exact ⟨D,e',rfl,h3,h4,C,h.later h4,hs⟩
theorem JN:cl.Lim 0 0 (cl.fresh 3):=
 ⟨λi _=>⟨Nat.le_refl _,Nat.le_refl _,(λ_ h=>by cases h),(show (-1:Int)≤-1 by decide),(show (-1:Int)≤6 by decide)⟩,λi hi _=>⟨Nat.le_refl _,λh=>absurd (show (0:Int)=1 from h) (by decide),Nat.le_refl _,(show (0:Int)≤0 by decide),(show (0:Int)≤100 by decide),(λ_ h=>by cases h),(show (-1:Int)≤-1∧(-1:Int)≤6 by decide)⟩,λm hm=>by cases hm⟩
theorem run_new (w:World) (hB:2 * B≤10000000) (ht:TabAt w) :
  Calls Tryz.prog 9 #[.int .i64 3,.int .i64 10000000] w λe w'=>∃ c,e=.returned (.tuple #[cptr c,.int .i64 0])∧Run B w c 0 tl.freshS w':=by
 refine (yy 3 10000000 w (by decide) (by decide) (by decide) hB ht).mono ?_
 rintro e w' ⟨c,R,k,F,rfl,h2,_⟩
 refine ⟨c,rfl,cl.fresh 3,⟨rfl,JN,⟨_,cl.inv_fresh 3⟩,Nat.zero_le _,R,k,F,_,h2⟩,rfl,rfl,λi hi=>?_⟩
 have hi:i < 3:=hi
 match i,hi with
 | 0,_=>exact ⟨_,rfl,λ_=>rfl,rfl⟩
 | 1,_=>exact ⟨_,rfl,λ_=>rfl,rfl⟩
 | 2,_=>exact ⟨_,rfl,λ_=>rfl,rfl⟩
end
end Go.Proofs.YtppibhieabideaaGreatDoor
namespace Go.Proofs.YtppibhieabideaaGreatDoor
open Go Go.RowKit
set_option maxRecDepth 100000
structure Cut (w:World) (size:Nat) (v:Value) (n:Nat) (xs:List Value):Prop where
 form:∃ A c,v=.slice A n c∧(A=none→n=0∧c=0)∧n≤c∧(0 < n→∃ b o,A=some ⟨b,o,none⟩∧∀ j u,xs[j]?=some u→w.cell? ⟨b,o + j,none⟩=some u)
 len:xs.length=n * size
 one:∀ u ∈ xs,u.oneCell'=true
section
variable {w w':World} {size n:Nat} {v:Value} {xs:List Value}
theorem Cut.later (h:Cut w size v n xs) (hb:Below w.heap.size w w'):Cut w' size v n xs:=by
 obtain ⟨⟨A,c,e,h0,hn,h1⟩,h2,h3⟩:=h
 refine ⟨⟨A,c,e,h0,hn,λhp=>?_⟩,h2,h3⟩
 obtain ⟨b,o,e1,h4⟩:=h1 hp
 exact ⟨b,o,e1,λj u hj=>cell_later hb (h4 j u hj)⟩
theorem Cut.at_ {A:Option Addr} {c:Nat} (h:Cut w size (.slice A n c) n xs):0 < n→∃ ad,A=some ad∧∀ j u,xs[j]?=some u→w.cell? (ad.add j)=some u:=λhp=>by
 obtain ⟨⟨A',c',e,_,_,h1⟩,_,_⟩:=h
 injection e with e1 e2 e3
 subst e1;obtain ⟨b,o,rfl,h4⟩:=h1 hp
 exact ⟨_,rfl,λj u hj=>by rw [qn];exact h4 j u hj⟩
theorem jG {base:Nat} {e:TypeId} (h:w.ownsRow base e size v n xs) (ho:∀ u ∈ xs,u.oneCell'=true):Cut w size v n xs:=by
 refine ⟨?_,h.1,ho⟩
 rcases h.2 with ⟨rfl,rfl⟩ | ⟨g,cap,cur,rfl,hb,hh,hn,hr⟩
 ·exact ⟨none,0,rfl,λ_=>⟨rfl,rfl⟩,Nat.le_refl _,λh=>absurd h (by omega)⟩
 ·refine ⟨_,cap,rfl,λh=>(by cases h),hn,λ_=>⟨g,0,rfl,λj u hj=>?_⟩⟩
  have:=h.cells (g:=g) rfl j u hj;rw [qn] at this;exact this
theorem cut_nil (w:World) (size:Nat):Cut w size (.slice none 0 0) 0 []:=⟨⟨none,0,rfl,λ_=>⟨rfl,rfl⟩,Nat.le_refl _,λh=>absurd h (by omega)⟩,by simp,λu hu=>by cases hu⟩
end
theorem zy:∀ (l:List Nat) (k:Nat),(l.take k).sum≤l.sum
 | [],k=>by simp
 | x :: r,0=>by simp
 | x :: r,k + 1=>by
  have:=zy r k;simp only [List.take_succ_cons,List.sum_cons];omega
theorem QD {l:List Nat} {j n:Nat} (h:l[j]?=some n):(l.take (j + 1)).sum=(l.take j).sum + n:=by
 rw [List.take_add_one,h];simp only [Option.toList,List.sum_append,List.sum_cons,List.sum_nil,Nat.add_zero]
theorem zz {α:Type} {l:List (List α)} {j:Nat} {x:List α} (h:l[j]?=some x):(l.take (j + 1)).flatten=(l.take j).flatten ++ x:=by
 rw [List.take_add_one,h];simp only [Option.toList,List.flatten_append,List.flatten_cons,List.flatten_nil,List.append_nil]
theorem Yq (w:World) (_t e:TypeId) (size:Nat):(w.alloc (.cells #[] e)).ownsRow w.heap.size e size (.slice (some ⟨w.heap.size,0,none⟩) 0 0) 0 []:=
 World.ownsRow_made w #[] 0 (Nat.le_refl _) (Nat.zero_le _) (by simp)
end Go.Proofs.YtppibhieabideaaGreatDoor
namespace Go.Proofs.YtppibhieabideaaGreatDoor
set_option maxRecDepth 100000
namespace ce
structure Cell where
 row:List UInt8
 col:List UInt8
 ts:Nat
 seq:Nat
 del:Bool
 val:List UInt8
def nameOk (l:List UInt8):Bool:=decide (l ≠ []) && decide (l.length≤40)
def may (c:Cell):Bool:=nameOk c.row && nameOk c.col && decide (c.val.length≤100) && !(c.del && decide (c.val ≠ []))
def le8 (n:Nat):List UInt8:=[UInt8.ofNat n,UInt8.ofNat (n / 256),UInt8.ofNat (n / 65536),UInt8.ofNat (n / 16777216),UInt8.ofNat (n / 4294967296),UInt8.ofNat (n / 1099511627776),UInt8.ofNat (n / 281474976710656),UInt8.ofNat (n / 72057594037927936)]
theorem le8_len (n:Nat):(le8 n).length=8:=rfl
def one (b:Bool):UInt8:=if b then 1 else 0
def enc (c:Cell):List UInt8:=UInt8.ofNat c.row.length :: (c.row ++ (UInt8.ofNat c.col.length :: (c.col ++ (le8 c.ts ++ (le8 c.seq ++ (one c.del :: UInt8.ofNat c.val.length :: c.val))))))
theorem enc_len (c:Cell):(enc c).length=c.row.length + c.col.length + c.val.length + 20:=by
 unfold enc;simp only [List.length_cons,List.length_append,le8_len];omega
theorem may_len {c:Cell} (h:may c=true):c.row.length≤40∧c.col.length≤40∧c.val.length≤100∧c.row ≠ []∧c.col ≠ []∧(c.del=true→c.val=[]):=by
 unfold may nameOk at h;simp only [Bool.and_eq_true,decide_eq_true_eq,Bool.not_eq_true',Bool.and_eq_false_iff,decide_eq_false_iff_not,Decidable.not_not] at h;obtain ⟨⟨⟨⟨h1,h2⟩,h3,h4⟩,h5⟩,h6⟩:=h
 refine ⟨h2,h4,h5,h1,h3,λhd=>?_⟩
 rcases h6 with h6 | h6
 ·rw [hd] at h6;cases h6
 ·exact h6
def cmpN (x y:Nat):Int:=if x < y then -1 else if y < x then 1 else 0
def V9:List Int→Int
 | []=>0
 | x :: r=>if x ≠ 0 then x else V9 r
def cmp (a b:Cell):Int:=V9 [Go.Lib.compareBytes a.row b.row,Go.Lib.compareBytes a.col b.col,cmpN b.ts a.ts,cmpN b.seq a.seq]
def same (a b:Cell):Bool:=decide (a.row=b.row) && decide (a.col=b.col) && decide (a.ts=b.ts)
end ce
end Go.Proofs.YtppibhieabideaaGreatDoor
