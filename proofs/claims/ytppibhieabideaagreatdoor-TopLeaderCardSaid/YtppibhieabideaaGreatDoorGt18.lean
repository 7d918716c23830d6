/- A part of the walk of the program, and of its plain law. -/
import Derived.Test.YtppibhieabideaaGreatDoorGt17
namespace Go.Proofs.YtppibhieabideaaGreatDoor
namespace cl
open rl (Ent e0)
def stOf (x:rf.Node):St:=⟨x.term,x.vote,x.log⟩
structure UpOk (n:Nat) (s:Nat→St) (g:Gh) (i:Nat) (x:rf.Node):Prop where
 id:x.id=(i:Int)
 many:x.many=(n:Int)
 st:s i=stOf x
 r1:x.role=1→g.cand x.term i=x.log∧g.lead x.term ≠ some i∧x.vote=(i:Int)∧∀ j,j < n→x.votes.getD j false=true→g.gr x.term j=some i
 r2:x.role=2→g.lead x.term=some i∧g.L x.term=x.log∧x.vote=(i:Int)∧∀ j,j < n→x.mat.getD j 0≤g.ack x.term j
 com:CommitOk n g x.term x.log x.commit
 len:x.votes.length=7∧x.mat.length=7
structure MsgOk (n:Nat) (s:Nat→St) (g:Gh) (m:rf.Msg):Prop where
 dom:∃ f d:Nat,m.frm=(f:Int)∧m.dst=(d:Int)∧f < n∧d < n∧m.term≤(s f).t
 k1:∀ f:Nat,m.frm=(f:Int)→m.kind=1→m.index=(g.cand m.term f).length∧m.at_=rl.lastTerm (g.cand m.term f)∧Fits g (g.cand m.term f)
 k2:∀ f d:Nat,m.frm=(f:Int)→m.dst=(d:Int)→m.kind=2→m.ok=true→g.gr m.term f=some d
 k3:∀ f:Nat,m.frm=(f:Int)→m.kind=3→g.lead m.term=some f∧Slice (g.L m.term) m.index m.ents∧m.at_=(rl.termAt (g.L m.term) m.index).1∧CommitOk n g m.term (g.L m.term) (min m.commit (m.index + m.ents.length))
 k4:∀ f:Nat,m.frm=(f:Int)→m.kind=4→m.ok=true→m.index≤g.ack m.term f
section
variable {n:Nat} {s s':Nat→St} {g g':Gh}
theorem CommitOk.less {T c c':Nat} {l:Log} (h:CommitOk n g T l c) (hc:c'≤c):CommitOk n g T l c':=by
 rcases h with h | ⟨t,k,h1,h2,h3,h4⟩
 ·exact .inl (by omega)
 ·exact .inr ⟨t,k,h1,h2,by omega,h4.le hc⟩
theorem Slice.later {a a':Log} {p:Nat} {e:Log} (h:Slice a p e) (ha:Ag a a' a.length):Slice a' p e:=
 ⟨Nat.le_trans h.1 ha.2.1,λj hj=>(h.2 j hj).trans (ha.2.2 (p + j) (by have:=h.1;omega))⟩
theorem Ka {a a':Log} {p:Nat} (hp:p≤a.length) (ha:Ag a a' a.length):rl.termAt a' p=rl.termAt a p:=by
 by_cases h0:p=0
 ·rw [h0];rfl
 ·rw [zg h0 hp,zg h0 (Nat.le_trans hp ha.2.1),ha.tm (j:=p - 1) (by omega)]
theorem MsgOk.later {m:rf.Msg} (h:MsgOk n s g m) (hl:Le s g s' g'):MsgOk n s' g' m:=by
 obtain ⟨f,d,h1,h2,h3,h4,h5⟩:=h.dom
 refine ⟨⟨f,d,h1,h2,h3,h4,Nat.le_trans h5 (hl.t f)⟩,λb hb hk=>?_,λb c hb hc hk ho=>hl.gr (h.k2 b c hb hc hk ho),λb hb hk=>?_,λb hb hk ho=>Nat.le_trans (h.k4 b hb hk ho) (hl.ack _ _)⟩
 ·obtain rfl:b=f:=by omega
  obtain ⟨q1,q2,q3⟩:=h.k1 b hb hk;rw [hl.cand h5];exact ⟨q1,q2,q3.later hl⟩
 ·obtain ⟨q1,q2,q3,q4⟩:=h.k3 b hb hk;have hL:=hl.L m.term
  exact ⟨hl.lead q1,q2.later hL,by rw [Ka (by have:=q2.1;omega) hL];exact q3,q4.later hl (Nat.le_refl _) (hL.le (by have:=q2.1;omega))⟩
structure Goes (n:Nat) (s:Nat→St) (g:Gh) (i:Nat) (x:rf.Node) (out:List rf.Msg) (g':Gh):Prop where
 core:Core n (upd s i (stOf x)) g'
 le:Le s g (upd s i (stOf x)) g'
 up:UpOk n (upd s i (stOf x)) g' i x
 out:∀ m ∈ out,MsgOk n (upd s i (stOf x)) g' m
 L:∀ t j,j ≠ i→g.lead t=some j→g'.L t=g.L t
 lead:∀ t j,j ≠ i→g'.lead t=some j→g.lead t=some j
theorem Yb (i:Nat) (a:St) (h:s i=a):upd s i a=s:=by
 funext j
 by_cases hj:j=i
 ·subst hj;rw [upd_same,h]
 ·rw [upd_other _ _ hj]
theorem upd_upd (i:Nat) (a b:St):upd (upd s i a) i b=upd s i b:=by
 funext j
 by_cases hj:j=i
 ·subst hj;rw [upd_same,upd_same]
 ·rw [upd_other _ _ hj,upd_other _ _ hj,upd_other _ _ hj]
theorem Goes.stay (C:Core n s g) {i:Nat} {x:rf.Node} {out:List rf.Msg} (hu:UpOk n s g i x) (ho:∀ m ∈ out,MsgOk n s g m):Goes n s g i x out g:=by
 have e:=Yb i (stOf x) hu.st
 refine ⟨?_,?_,?_,?_,λ_ _ _ _=>rfl,λ_ _ _ h=>h⟩ <;> rw [e]
 ·exact C
 ·exact Le.refl _ _
 ·exact hu
 ·exact ho
theorem Goes.trans {i:Nat} {x y:rf.Node} {o o2:List rf.Msg} {g1 g2:Gh} (h:Goes n s g i x o g1) (k:Goes n (upd s i (stOf x)) g1 i y o2 g2):Goes n s g i y (o ++ o2) g2:=by
 have e:=upd_upd (s:=s) i (stOf x) (stOf y);obtain ⟨k1,k2,k3,k4,k5,k6⟩:=k;rw [e] at k1 k2 k3 k4
 refine ⟨k1,h.le.trans k2,k3,λm hm=>?_,λt j hj hl=>(k5 t j hj (h.le.lead hl)).trans (h.L t j hj hl),λt j hj hl=>h.lead t j hj (k6 t j hj hl)⟩
 rcases List.mem_append.1 hm with h1 | h1
 ·exact (h.out m h1).later k2
 ·exact k4 m h1
theorem UpOk.other {i j:Nat} {x y:rf.Node} {out:List rf.Msg} (h:UpOk n s g j y) (hj:j ≠ i) (hg:Goes n s g i x out g'):UpOk n (upd s i (stOf x)) g' j y:=by
 have ht:(s j).t=y.term:=by rw [h.st];rfl
 refine ⟨h.id,h.many,by rw [upd_other _ _ hj];exact h.st,λhr=>?_,λhr=>?_,h.com.later hg.le (Nat.le_refl _) (Ag.refl _ ?_),h.len⟩
 ·obtain ⟨h1,h2,h3,h4⟩:=h.r1 hr
  exact ⟨by rw [hg.le.cand (by rw [ht];exact Nat.le_refl _)];exact h1,λe=>h2 (hg.lead _ j hj e),h3,λk hk hv=>hg.le.gr (h4 k hk hv)⟩
 ·obtain ⟨h1,h2,h3,h4⟩:=h.r2 hr
  exact ⟨hg.le.lead h1,by rw [hg.L _ j hj h1];exact h2,h3,λk hk=>Nat.le_trans (h4 k hk) (hg.le.ack _ _)⟩
 ·rcases h.com with h1 | ⟨t,k,_,_,_,h4⟩
  ·rw [h1];exact Nat.zero_le _
  ·exact h4.2.1
theorem va (C:Core n s g) {i:Nat} (hi:i < n) {x:rf.Node} (hu:UpOk n s g i x) {T:Nat} (hT:x.term < T):Goes n s g i (rf.back x T) [] g:=by
 have e:rf.back x T={ x with role:=0,lead:=-1,term:=T,vote:=-1 }:=by unfold rf.back;rw [if_pos hT]
 have es:stOf (rf.back x T)=⟨T,-1,(s i).l⟩:=by rw [e,hu.st];rfl
 have ht:(s i).t < T:=by rw [hu.st];exact hT
 have tu:=Xh C hi ht
 refine ⟨by rw [es];exact tu.core C,by rw [es];exact tu.le,?_,λm hm=>(by cases hm),λ_ _ _ _=>rfl,λ_ _ _ h=>h⟩
 rw [es]
 refine ⟨by rw [e];exact hu.id,by rw [e];exact hu.many,by rw [upd_same,← es],λh=>?_,λh=>?_,?_,by rw [e];exact hu.len⟩
 ·rw [e] at h;exact absurd (show (0:Int)=1 from h) (by decide)
 ·rw [e] at h;exact absurd (show (0:Int)=2 from h) (by decide)
 ·rw [e];refine hu.com.later tu.le (Nat.le_of_lt hT) (Ag.refl _ ?_)
  rcases hu.com with h1 | ⟨t,k,_,_,_,h4⟩
  ·rw [h1];exact Nat.zero_le _
  ·exact h4.2.1
theorem CommitOk.len {T c:Nat} {l:Log} (h:CommitOk n g T l c):c≤l.length:=by
 rcases h with h1 | ⟨t,k,_,_,_,h4⟩
 ·rw [h1];exact Nat.zero_le _
 ·exact h4.2.1
theorem JR (C:Core n s g) {i:Nat} (hi:i < n) {x:rf.Node} (hu:UpOk n s g i x) (m:rf.Msg):Goes n s g i (rf.fresh x m) [] g:=by
 unfold rf.fresh
 split
 ·rename_i h
  exact va C hi hu h
 ·exact Goes.stay C hu (λ_ h=>by cases h)
theorem UpOk.with {i:Nat} {x y:rf.Node} (h:UpOk n s g i x) (e1:y.id=x.id) (e2:y.many=x.many) (e3:stOf y=stOf x) (e4:y.role=x.role∨y.role=0) (e5:y.votes=x.votes) (e6:y.mat=x.mat) (e7:y.commit=x.commit):UpOk n s g i y:=by
 have t1:y.term=x.term:=congrArg St.t e3;have t2:y.vote=x.vote:=congrArg St.v e3;have t3:y.log=x.log:=congrArg St.l e3
 refine ⟨e1.trans h.id,e2.trans h.many,h.st.trans e3.symm,λhr=>?_,λhr=>?_,by rw [t1,t3,e7];exact h.com,by rw [e5,e6];exact h.len⟩
 ·rw [t1,t2,t3,e5]
  exact h.r1 (by omega)
 ·rw [t1,t2,t3,e6]
  exact h.r2 (by omega)
end
end cl
namespace cl
open rl (Ent e0)
section
variable {n:Nat} {s s':Nat→St} {g g':Gh}
theorem Kf {x:rf.Node} (h:x.many=(n:Int)) (h7:n≤7):rf.size x=n:=by
 unfold rf.size;rw [h];omega
theorem uk {x:rf.Node} (h:x.many=(n:Int)) (h7:n≤7) {p:Nat→Bool} (hp:rf.majority x p=true):maj n p:=by
 unfold rf.majority rf.count at hp;rw [Kf h h7,h] at hp;simp only [decide_eq_true_eq] at hp;unfold maj;omega
theorem kd {x:rf.Node} (hm:x.many=(n:Int)) (h7:n≤7) (hc:CommitOk n g x.term x.log x.commit) (hL:g.L x.term=x.log) (hmat:∀ j,j < n→x.mat.getD j 0≤g.ack x.term j):CommitOk n g x.term x.log (rf.tally x).commit:=by
 have key:∀ i,i≤x.log.length→CommitOk n g x.term x.log (rf.tallyAt x i).commit:=by
  intro i
  induction i with
  | zero=>intro _;exact hc
  | succ i ih=>
   intro hi;unfold rf.tallyAt
   split
   ·split
    ·rename_i h
     simp only [Bool.and_eq_true,beq_iff_eq] at h;obtain ⟨h1,h2⟩:=h
     rw [zg (by omega) hi] at h1
     refine .inr ⟨x.term,i + 1,Nat.le_refl _,⟨⟨by omega,by rw [hL];exact hi,by rw [hL];exact h1⟩,Qu (uk hm h7 h2) λj hj hd=>?_⟩,Nat.le_refl _,by rw [hL];exact Ag.refl _ hi⟩
     simp only [decide_eq_true_eq] at hd ⊢;exact Nat.le_trans hd (hmat j hj)
    ·exact ih (by omega)
   ·exact hc
 exact key _ (Nat.le_refl _)
theorem Jv (a:Log) (p k:Nat) (hp:p≤a.length):Slice a p ((a.drop p).take k):=by
 refine ⟨by rw [List.length_take,List.length_drop];omega,λj hj=>?_⟩
 rw [List.length_take,List.length_drop] at hj
 rw [List.getElem?_take,if_pos (by omega),List.getElem?_drop]
theorem Z4 {i j:Nat} {x:rf.Node} (hi:i < n) (hj:j < n) (hid:x.id=(i:Int)) (hst:s i=stOf x) (hl:g.lead x.term=some i) (hL:g.L x.term=x.log) (hc:CommitOk n g x.term x.log x.commit) {y:rf.Node} (hy1:y.id=x.id) (hy2:y.term=x.term):MsgOk n s g (rf.stamp y (rf.putMsg x j)):=by
 have ht:(s i).t=x.term:=by rw [hst];rfl
 have hn:rf.nextOf x j - 1≤x.log.length:=by unfold rf.nextOf;omega
 refine ⟨⟨i,j,by show y.id=_;rw [hy1];exact hid,rfl,hi,hj,by show y.term≤_;rw [hy2,ht];exact Nat.le_refl _⟩,λf _ hk=>?_,λf d _ _ hk=>?_,λf hf _=>?_,λf _ hk=>?_⟩
 ·exact absurd (show (3:Int)=1 from hk) (by decide)
 ·exact absurd (show (3:Int)=2 from hk) (by decide)
 ·have hfi:f=i:=by
   have h1:y.id=(f:Int):=hf;rw [hy1,hid] at h1;omega
  subst hfi
  show g.lead y.term=some f∧Slice (g.L y.term) (rf.nextOf x j - 1) ((x.log.drop (rf.nextOf x j - 1)).take 20)∧(rl.termAt x.log (rf.nextOf x j - 1)).1=(rl.termAt (g.L y.term) (rf.nextOf x j - 1)).1∧CommitOk n g y.term (g.L y.term) (min x.commit _)
  rw [hy2,hL];exact ⟨hl,Jv _ _ _ hn,rfl,hc.less (Nat.min_le_left _ _)⟩
 ·exact absurd (show (3:Int)=4 from hk) (by decide)
theorem xm {i:Nat} {x:rf.Node} (hi:i < n) (h7:n≤7) (hid:x.id=(i:Int)) (hm:x.many=(n:Int)) (hst:s i=stOf x) (hl:g.lead x.term=some i) (hL:g.L x.term=x.log) (hc:CommitOk n g x.term x.log x.commit):∀ m ∈ rf.puts x,MsgOk n s g m:=by
 intro m hmm;unfold rf.puts at hmm;obtain ⟨j,hj,rfl⟩:=List.mem_map.1 hmm;unfold rf.others at hj;rw [Kf hm h7] at hj;exact Z4 hi (List.mem_range.1 (List.mem_filter.1 hj).1) hid hst hl hL hc rfl rfl
theorem jw (C:Core n s g) {i:Nat} (hi:i < n) (h7:n≤7) {x:rf.Node} (text:List UInt8) (hid:x.id=(i:Int)) (hm:x.many=(n:Int)) (hst:s i=stOf x) (hrole:x.role=2) (hv:x.vote=(i:Int))
  (hL:(g.lead x.term=none∧g.cand x.term i=x.log∧maj n (λj=>decide (g.gr x.term j=some i)))∨(g.lead x.term=some i∧g.L x.term=x.log)) (hmat:∀ j,j < n→x.mat.getD j 0≤g.ack x.term j) (h7v:x.votes.length=7) (h7m:x.mat.length=7) (hc:CommitOk n g x.term x.log x.commit) :
  ∃ g',Goes n s g i (rf.add x text).1 (rf.add x text).2 g':=by
 have e1:(s i).t=x.term:=by rw [hst];rfl
 have e2:(s i).v=x.vote:=by rw [hst];rfl
 have e3:(s i).l=x.log:=by rw [hst];rfl
 have tu:=Xg C hi text (by rw [e1,e3];exact hL)
 rw [e1,e2,e3] at tu;obtain ⟨l',hl'⟩:∃ l',x.log ++ [(x.term,text)]=l':=⟨_,rfl⟩;rw [hl'] at tu
 have hlen:l'.length=x.log.length + 1:=by rw [← hl'];simp
 obtain ⟨y,hy⟩:∃ y,rf.grown x text=y:=⟨_,rfl⟩
 have y1:y.id=(i:Int):=by rw [← hy];exact hid
 have y2:y.many=(n:Int):=by rw [← hy];exact hm
 have y3:y.term=x.term:=by rw [← hy];rfl
 have y4:y.log=l':=by rw [← hy,← hl'];rfl
 have y5:y.commit=x.commit:=by rw [← hy];rfl
 have y6:y.vote=x.vote:=by rw [← hy];rfl
 have y7:y.mat=x.mat.set i (x.log.length + 1):=by rw [← hy];show x.mat.set x.id.toNat _=_;rw [hid];rfl
 have y8:y.role=2:=by rw [← hy];exact hrole
 have es:stOf (rf.tally y)=⟨x.term,x.vote,l'⟩:=by rw [qh];show (⟨y.term,y.vote,y.log⟩:St)=_;rw [y3,y6,y4]
 have g1:(more g i x.term l').L x.term=l':=upd_same _ _ _;have g2:(more g i x.term l').lead x.term=some i:=upd_same _ _ _;have g3:(more g i x.term l').ack x.term i=l'.length:=qC _ _ _ _
 have g4:∀ t j,t ≠ x.term∨j ≠ i→(more g i x.term l').ack t j=g.ack t j:=λt j h=>Qg _ _ h
 have hmat2:∀ j,j < n→y.mat.getD j 0≤(more g i x.term l').ack x.term j:=by
  intro j hj;rw [y7,List.getD_eq_getElem?_getD,List.getElem?_set]
  by_cases hij:i=j
  ·subst hij
   rw [if_pos rfl,if_pos (by omega),g3]
   show x.log.length + 1≤_
   omega
  ·rw [if_neg hij,← List.getD_eq_getElem?_getD,g4 _ _ (.inr (λe=>hij e.symm))]
   exact hmat j hj
 have hcom0:CommitOk n (more g i x.term l') x.term l' x.commit:=hc.later tu.le (Nat.le_refl _) (by rw [← hl'];exact (kR _ _).le hc.len)
 have hcom:CommitOk n (more g i x.term l') x.term l' (rf.tally y).commit:=by
  have h:=kd (n:=n) (g:=more g i x.term l') (x:=y) y2 h7 (by rw [y3,y4,y5];exact hcom0) (by rw [y3,y4];exact g1) (by rw [y3];exact hmat2)
  rw [y3,y4] at h;exact h
 have t1:(rf.tally y).id=(i:Int):=by rw [qh];exact y1
 have t2:(rf.tally y).many=(n:Int):=by rw [qh];exact y2
 have t3:(rf.tally y).term=x.term:=by rw [qh];exact y3
 have t4:(rf.tally y).log=l':=by rw [qh];exact y4
 have t5:(rf.tally y).mat=y.mat:=by rw [qh]
 have t6:(rf.tally y).vote=x.vote:=by rw [qh];exact y6
 have t7:(rf.tally y).role=2:=by rw [qh];exact y8
 have hadd:rf.add x text=(rf.tally y,rf.puts (rf.tally y)):=by unfold rf.add;rw [hy]
 rw [hadd]
 refine ⟨more g i x.term l',?_,?_,?_,?_,λt j hj hl=>?_,λt j hj hl=>?_⟩
 ·rw [es];exact tu.core C
 ·rw [es];exact tu.le
 ·refine ⟨t1,t2,by rw [upd_same],λh=>?_,λ_=>?_,by rw [t3,t4];exact hcom,?_⟩
  ·rw [t7] at h;exact absurd h (by decide)
  ·rw [t3,t4,t6,t5];exact ⟨g2,g1,hv,hmat2⟩
  ·rw [t5,y7,qh]
   exact ⟨by show y.votes.length=7;rw [← hy];exact h7v,by rw [List.length_set];exact h7m⟩
 ·exact xm hi h7 t1 t2 (by rw [upd_same]) (by rw [t3];exact g2) (by rw [t3,t4];exact g1) (by rw [t3,t4];exact hcom)
 ·show upd g.L x.term l' t=g.L t
  refine upd_other _ _ λht=>?_
  subst ht
  rcases hL with ⟨h1,_⟩ | ⟨h1,_⟩ <;> rw [h1] at hl
  ·cases hl
  ·injection hl with hl;exact hj hl.symm
 ·have hl2:upd g.lead x.term (some i) t=some j:=hl
  by_cases ht:t=x.term
  ·subst ht;rw [upd_same] at hl2
   injection hl2 with hl2
   exact absurd hl2.symm hj
  ·rwa [upd_other _ _ ht] at hl2
theorem uC (C:Core n s g) {i:Nat} (hi:i < n) {x:rf.Node} (hu:UpOk n s g i x) {m:rf.Msg} (hm:MsgOk n s g m) (hk:m.kind=1) (hne:m.frm ≠ x.id):∃ g',Goes n s g i (rf.ask x m).1 (rf.ask x m).2 g':=by
 obtain ⟨f,d,f1,_,fn,_,ft⟩:=hm.dom
 have e1:(s i).t=x.term:=by rw [hu.st];rfl
 have e2:(s i).v=x.vote:=by rw [hu.st];rfl
 have e3:(s i).l=x.log:=by rw [hu.st];rfl
 have rep:∀ (b:Bool) (s1:Nat→St) (g1:Gh) (y:rf.Node),y.id=x.id→y.term=x.term→(x.term≤(s1 i).t)→(b=true→g1.gr x.term i=some f)→MsgOk n s1 g1 (rf.stamp y { rf.msg0 with kind:=2,dst:=m.frm,ok:=b }):=by
  intro b s1 g1 y hy1 hy2 ht hb
  refine ⟨⟨i,f,by show y.id=_;rw [hy1];exact hu.id,f1,hi,fn,by show y.term≤_;rw [hy2];exact ht⟩,λ_ _ hk=>?_,λa c ha hc _ ho=>?_,λ_ _ hk=>?_,λ_ _ hk=>?_⟩
  ·exact absurd (show (2:Int)=1 from hk) (by decide)
  ·have ha2:y.id=(a:Int):=ha;have hc2:m.frm=(c:Int):=hc;rw [hy1,hu.id] at ha2
   obtain rfl:a=i:=by omega
   obtain rfl:c=f:=by omega
   show g1.gr y.term a=some c
   rw [hy2];exact hb ho
  ·exact absurd (show (2:Int)=3 from hk) (by decide)
  ·exact absurd (show (2:Int)=4 from hk) (by decide)
 unfold rf.ask
 by_cases hok:rf.askOk x m=true
 ·rw [if_pos hok];unfold rf.askOk at hok;simp only [Bool.and_eq_true,Bool.or_eq_true,decide_eq_true_eq] at hok;obtain ⟨⟨ht,hv⟩,hn⟩:=hok;obtain ⟨q1,q2,q3⟩:=hm.k1 f f1 hk;rw [ht] at q1 q2 q3 ft;rw [q1,q2] at hn
  have tu:=Ji C hi fn (by rw [e1];exact ft) (by rw [e2];rw [f1] at hv;exact hv) (by rw [e1];exact q3) (by rw [e1,e3];exact hn)
  rw [e1,e3] at tu
  have es:stOf { x with vote:=m.frm,idle:=0 }=⟨x.term,(f:Int),x.log⟩:=by show (⟨x.term,m.frm,x.log⟩:St)=_;rw [f1]
  have hr0:x.role ≠ 1∧x.role ≠ 2:=by
   constructor
   ·intro hr;have:=(hu.r1 hr).2.2.1;have:=hu.id;omega
   ·intro hr;have:=(hu.r2 hr).2.2.1;have:=hu.id;omega
  refine ⟨{ g with gr:=upd2 g.gr x.term i (some f) },by rw [es];exact tu.core C,by rw [es];exact tu.le,?_,?_,λ_ _ _ _=>rfl,λ_ _ _ h=>h⟩
  ·rw [es]
   exact ⟨hu.id,hu.many,by rw [upd_same,← es],λh=>absurd h hr0.1,λh=>absurd h hr0.2,hu.com.later tu.le (Nat.le_refl _) (Ag.refl _ hu.com.len),hu.len⟩
  ·intro b hb;rw [List.mem_singleton.1 hb,es]
   exact rep true _ _ x rfl rfl (by rw [upd_same];exact Nat.le_refl _) (λ_=>qC _ _ _ _)
 ·rw [if_neg hok]
  exact ⟨g,Goes.stay C hu λb hb=>by
   rw [List.mem_singleton.1 hb]
   exact rep false s g x rfl rfl (by rw [e1];exact Nat.le_refl _) (λh=>by cases h)⟩
theorem X9 (C:Core n s g) {i:Nat} (hi:i < n) (h7:n≤7) {x:rf.Node} (hid:x.id=(i:Int)) (hm:x.many=(n:Int)) (hst:s i=stOf x) (hv:x.vote=(i:Int)) (hl:g.lead x.term ≠ some i) (hc:g.cand x.term i=x.log) (hmaj:maj n λj=>decide (g.gr x.term j=some i))
  (h7v:x.votes.length=7) (hcom:CommitOk n g x.term x.log x.commit):∃ g',Goes n s g i (rf.lead x).1 (rf.lead x).2 g':=by
 have hnone:g.lead x.term=none:=by
  cases e:g.lead x.term with
  | none=>rfl
  | some b=>
   exfalso
   obtain ⟨_,_,h3⟩:=C.ldd e;obtain ⟨j,_,j1,j2⟩:=jj h3 hmaj;simp only [decide_eq_true_eq] at j1 j2;rw [j1] at j2
   injection j2 with j2
   rw [e,j2] at hl;exact hl rfl
 exact jw C hi h7 (x:=rf.led x) [] hid hm hst rfl hv (.inl ⟨hnone,hc,hmaj⟩) (λj _=>by
  have e:(rf.led x).mat=List.replicate 7 0:=rfl;rw [e,List.getD_eq_getElem?_getD,List.getElem?_replicate]
  split <;> exact Nat.zero_le _) h7v (by show (List.replicate 7 0).length=7;rfl) hcom
theorem YC (C:Core n s g) {i k:Nat} (hi:i < n) (h7:n≤7) {x:rf.Node} (hu:UpOk n s g i x) (hr:x.role=1) (hk:k < n) (hg:g.gr x.term k=some i):∃ g',Goes n s g i (rf.voted x (k:Int)).1 (rf.voted x (k:Int)).2 g':=by
 obtain ⟨r1,r2,r3,r4⟩:=hu.r1 hr
 have hv:∀ j,j < n→(x.votes.set k true).getD j false=true→g.gr x.term j=some i:=by
  intro j hj h
  by_cases hjk:j=k
  ·subst hjk;exact hg
  ·rw [List.getD_eq_getElem?_getD,List.getElem?_set,if_neg (λe=>hjk e.symm),← List.getD_eq_getElem?_getD] at h
   exact r4 j hj h
 have hu2:UpOk n s g i { x with votes:=x.votes.set k true }:=⟨hu.id,hu.many,hu.st,λ_=>⟨r1,r2,r3,hv⟩,λh=>by
  have h1:x.role=2:=h
  omega,hu.com,by show (x.votes.set k true).length=7∧_;rw [List.length_set];exact hu.len⟩
 unfold rf.voted
 rw [if_pos (by omega),Int.toNat_natCast]
 by_cases he:rf.elected { x with votes:=x.votes.set k true }=true
 ·rw [if_pos he]
  exact X9 C hi h7 hu2.id hu2.many hu2.st r3 r2 r1 (Qu (uk hu2.many h7 he) λj hj h=>decide_eq_true (hv j hj h)) hu2.len.1 hu2.com
 ·rw [if_neg he]
  exact ⟨g,Goes.stay C hu2 (λ_ h=>by cases h)⟩
theorem X6 (C:Core n s g) {i:Nat} (hi:i < n) (h7:n≤7) {x:rf.Node} (hu:UpOk n s g i x) {m:rf.Msg} (hm:MsgOk n s g m) (hk:m.kind=2) (hd:m.dst=x.id):∃ g',Goes n s g i (rf.vote x m).1 (rf.vote x m).2 g':=by
 obtain ⟨f,d,f1,d1,fn,_,_⟩:=hm.dom;unfold rf.vote
 split
 ·rename_i h
  obtain ⟨h1,h2,h3⟩:=h
  have hdi:d=i:=by have:=hu.id;omega
  subst hdi;rw [f1]
  exact YC C hi h7 hu h1 fn (by rw [← h2];exact hm.k2 f d f1 d1 hk h3)
 ·exact ⟨g,Goes.stay C hu (λ_ h=>by cases h)⟩
theorem Ym {i f:Nat} {y:rf.Node} {ix:Nat} {b:Bool} {d:Int} (hi:i < n) (fn:f < n) (hid:y.id=(i:Int)) (hd:d=(f:Int)) (ht:y.term≤(s i).t) (ha:b=true→ix≤g.ack y.term i):MsgOk n s g (rf.stamp y { rf.msg0 with kind:=4,dst:=d,ok:=b,index:=ix }):=by
 refine ⟨⟨i,f,hid,hd,hi,fn,ht⟩,λ_ _ hk=>?_,λ_ _ _ _ hk=>?_,λ_ _ hk=>?_,λa h1 _ ho=>?_⟩
 ·exact absurd (show (4:Int)=1 from hk) (by decide)
 ·exact absurd (show (4:Int)=2 from hk) (by decide)
 ·exact absurd (show (4:Int)=3 from hk) (by decide)
 ·have h2:y.id=(a:Int):=h1
  obtain rfl:a=i:=by omega
  exact ha ho
theorem uB (C:Core n s g) {i:Nat} (hi:i < n) {x:rf.Node} (hu:UpOk n s g i x) {m:rf.Msg} (hm:MsgOk n s g m) (hk:m.kind=3) (hle:m.term≤x.term):∃ g',Goes n s g i (rf.put x m).1 (rf.put x m).2 g':=by
 obtain ⟨f,d,f1,_,fn,_,_⟩:=hm.dom
 have e1:(s i).t=x.term:=by rw [hu.st];rfl
 have e2:(s i).v=x.vote:=by rw [hu.st];rfl
 have e3:(s i).l=x.log:=by rw [hu.st];rfl
 unfold rf.put
 by_cases hlt:m.term < x.term
 ·rw [if_pos hlt]
  refine ⟨g,Goes.stay C hu λb hb=>?_⟩
  rw [List.mem_singleton.1 hb]
  exact Ym (y:=x) (ix:=0) (b:=false) hi fn hu.id f1 (by rw [e1];exact Nat.le_refl _) (λh=>by cases h)
 ·rw [if_neg hlt]
  have hT:m.term=x.term:=by omega
  obtain ⟨q1,q2,q3,q4⟩:=hm.k3 f f1 hk;rw [hT] at q1 q2 q3 q4;obtain ⟨z,hz⟩:∃ z,rf.taken x m=z:=⟨_,rfl⟩
  have hzt:z={ x with role:=0,lead:=m.frm,idle:=0 }:=by
   rw [← hz];unfold rf.taken rf.back
   rw [if_neg (by omega)]
  have zu:UpOk n s g i z:=by
   rw [hzt];exact hu.with rfl rfl rfl (.inr rfl) rfl rfl rfl
  have zlog:z.log=x.log:=by rw [hzt]
  have zterm:z.term=x.term:=by rw [hzt]
  have zrole:z.role=0:=by rw [hzt]
  rw [hz]
  by_cases hta:rl.termAt x.log m.index=(m.at_,true)
  ·have hfx:Fits g x.log:=by rw [← e3];exact C.fitS hi
   obtain ⟨tk,hsnd⟩:=JH hfx (C.fitL x.term) q2 hta q3;obtain ⟨l',hl'⟩:∃ l',(rl.match_ x.log m.index m.at_ m.ents).1=l':=⟨_,rfl⟩
   have hmatch:rl.match_ z.log m.index m.at_ m.ents=(l',m.index + m.ents.length,0):=by
    rw [zlog,← hl',← hsnd]
   rw [hmatch]
   show ∃ g',Goes n s g i { z with log:=l',commit:=max x.commit (min m.commit (m.index + m.ents.length)) } [rf.stamp z { rf.msg0 with kind:=4,dst:=m.frm,ok:=true,index:=m.index + m.ents.length }] g'
   rw [hl'] at tk
   have tu:=Vl C (l':=l') hi (by rw [e1];exact q1) (by rw [e1];exact q2) (by rw [e1,e3];exact tk)
   rw [e1,e2] at tu
   have es:∀ c,stOf { z with log:=l',commit:=c }=⟨x.term,x.vote,l'⟩:=λc=>by rw [hzt];rfl
   have ga:m.index + m.ents.length≤(took g i x.term (m.index + m.ents.length)).ack x.term i:=by
    have:(took g i x.term (m.index + m.ents.length)).ack x.term i=_:=qC _ _ _ _;rw [this];omega
   have hcom:CommitOk n (took g i x.term (m.index + m.ents.length)) x.term l' (max x.commit (min m.commit (m.index + m.ents.length))):=by
    have hold:CommitOk n (took g i x.term (m.index + m.ents.length)) x.term l' x.commit:=by
     rcases hu.com with h | ⟨t,k,h1,h2,h3,h4⟩
     ·exact .inl h
     ·refine .inr ⟨t,k,h1,h2.later tu.le,h3,?_⟩
      by_cases htT:t=x.term
      ·subst htT;exact tk.keep _ _ h4 (Ag.refl _ h4.1)
      ·rcases C.safe (t:=t) (t':=x.term) (by omega) (by rw [q1];simp) h2.1 with h5 | h5
       ·exact tk.keep _ _ h4 (h5.le h3)
       ·exact (uf h2 h5).elim
    have hnew:CommitOk n (took g i x.term (m.index + m.ents.length)) x.term l' (min m.commit (m.index + m.ents.length)):=
     q4.later tu.le (Nat.le_refl _) (tk.ag.symm.le (Nat.min_le_right _ _))
    rcases Nat.le_total x.commit (min m.commit (m.index + m.ents.length)) with h | h
    ·rw [Nat.max_eq_right h];exact hnew
    ·rw [Nat.max_eq_left h];exact hold
   refine ⟨took g i x.term (m.index + m.ents.length),by rw [es];exact tu.core C,by rw [es];exact tu.le,?_,?_,λ_ _ _ _=>rfl,λ_ _ _ h=>h⟩
   ·rw [es]
    refine ⟨zu.id,zu.many,by rw [upd_same,es],λh=>?_,λh=>?_,?_,zu.len⟩
    ·have h1:z.role=1:=h;omega
    ·have h1:z.role=2:=h;omega
    ·show CommitOk n _ z.term l' _
     rw [zterm];exact hcom
   ·intro b hb;rw [List.mem_singleton.1 hb,es]
    exact Ym hi fn zu.id f1 (by rw [upd_same,zterm];exact Nat.le_refl _) (λ_=>by rw [zterm];exact ga)
  ·have hmatch:rl.match_ z.log m.index m.at_ m.ents=(z.log,0,3):=by
    unfold rl.match_;rw [zlog,if_neg hta]
   rw [hmatch]
   show ∃ g',Goes n s g i z [rf.stamp z { rf.msg0 with kind:=4,dst:=m.frm,index:=z.log.length }] g'
   refine ⟨g,Goes.stay C zu λb hb=>?_⟩
   rw [List.mem_singleton.1 hb]
   exact Ym (y:=z) (b:=false) hi fn zu.id f1 (by rw [e1,zterm];exact Nat.le_refl _) (λh=>by cases h)
theorem JQ (C:Core n s g) {i:Nat} (hi:i < n) (h7:n≤7) {x:rf.Node} (hu:UpOk n s g i x) {m:rf.Msg} (hm:MsgOk n s g m) (hk:m.kind=4):∃ g',Goes n s g i (rf.heard x m).1 (rf.heard x m).2 g':=by
 obtain ⟨f,d,f1,_,fn,_,_⟩:=hm.dom;unfold rf.heard
 split
 ·rename_i h
  obtain ⟨h1,h2⟩:=h;obtain ⟨r1,r2,r3,r4⟩:=hu.r2 h1
  have hf:m.frm.toNat=f:=by rw [f1];rfl
  rw [hf]
  split
  ·rename_i hok
   have ha:=hm.k4 f f1 hk hok;rw [h2] at ha;obtain ⟨y,hy⟩:∃ y,rf.heardYes x f m.index=y:=⟨_,rfl⟩;rw [hy]
   have y7:y.mat=x.mat.set f (max (x.mat.getD f 0) (min m.index x.log.length)):=by rw [← hy];rfl
   have hmat:∀ j,j < n→y.mat.getD j 0≤g.ack x.term j:=by
    intro j hj;rw [y7,List.getD_eq_getElem?_getD,List.getElem?_set]
    by_cases hfj:f=j
    ·subst hfj;rw [if_pos rfl];have:=r4 f fn
     split
     ·show max _ _≤_
      omega
     ·exact Nat.zero_le _
    ·rw [if_neg hfj,← List.getD_eq_getElem?_getD];exact r4 j hj
   have y1:y.id=x.id:=by rw [← hy];rfl
   have y2:y.many=x.many:=by rw [← hy];rfl
   have y3:y.term=x.term:=by rw [← hy];rfl
   have y4:y.log=x.log:=by rw [← hy];rfl
   have y5:y.commit=x.commit:=by rw [← hy];rfl
   have y6:y.vote=x.vote:=by rw [← hy];rfl
   have y8:y.role=x.role:=by rw [← hy];rfl
   have y9:y.votes=x.votes:=by rw [← hy];rfl
   have hcom:CommitOk n g x.term x.log (rf.tally y).commit:=by
    have h:=kd (n:=n) (g:=g) (x:=y) (by rw [y2];exact hu.many) h7 (by rw [y3,y4,y5];exact hu.com) (by rw [y3,y4];exact r2) (by rw [y3];exact hmat)
    rw [y3,y4] at h;exact h
   have t1:(rf.tally y).id=x.id:=by rw [qh];exact y1
   have t2:(rf.tally y).many=x.many:=by rw [qh];exact y2
   have t3:(rf.tally y).term=x.term:=by rw [qh];exact y3
   have t4:(rf.tally y).log=x.log:=by rw [qh];exact y4
   have t5:(rf.tally y).mat=y.mat:=by rw [qh]
   have t6:(rf.tally y).vote=x.vote:=by rw [qh];exact y6
   have t7:(rf.tally y).role=x.role:=by rw [qh];exact y8
   have t8:(rf.tally y).votes=x.votes:=by rw [qh];exact y9
   have es:stOf (rf.tally y)=stOf x:=by unfold stOf;rw [t3,t6,t4]
   have hu2:UpOk n s g i (rf.tally y):=by
    refine ⟨by rw [t1];exact hu.id,by rw [t2];exact hu.many,by rw [es];exact hu.st,λhr=>?_,λ_=>?_,by rw [t3,t4];exact hcom,?_⟩
    ·rw [t7,h1] at hr;exact absurd hr (by decide)
    ·rw [t3,t4,t5,t6];exact ⟨r1,r2,r3,hmat⟩
    ·rw [t8,t5,y7,List.length_set];exact hu.len
   split
   ·refine ⟨g,Goes.stay C hu2 λb hb=>?_⟩
    rw [List.mem_singleton.1 hb]
    exact Z4 hi fn (by rw [t1];exact hu.id) (by rw [es];exact hu.st) (by rw [t3];exact r1) (by rw [t3,t4];exact r2) (by rw [t3,t4];exact hcom) t1.symm t3.symm
   ·exact ⟨g,Goes.stay C hu2 (λ_ h=>by cases h)⟩
  ·have hu2:UpOk n s g i (rf.heardNo x f m.index):=hu.with rfl rfl rfl (.inl rfl) rfl rfl rfl
   refine ⟨g,Goes.stay C hu2 λb hb=>?_⟩
   rw [List.mem_singleton.1 hb];exact Z4 (x:=rf.heardNo x f m.index) hi fn hu.id hu.st r1 r2 hu.com rfl rfl
 ·exact ⟨g,Goes.stay C hu (λ_ h=>by cases h)⟩
end
end cl
namespace cl
open rl (Ent e0)
section
variable {n:Nat} {s s':Nat→St} {g g':Gh}
theorem asks_ok (C:Core n s g) {i:Nat} (hi:i < n) (h7:n≤7) {y:rf.Node} (hu:UpOk n s g i y) (hr:y.role=1):∀ m ∈ rf.asks y,MsgOk n s g m:=by
 intro m hm;unfold rf.asks at hm;obtain ⟨j,hj,rfl⟩:=List.mem_map.1 hm;unfold rf.others at hj;rw [Kf hu.many h7] at hj;have hj2:=List.mem_range.1 (List.mem_filter.1 hj).1;obtain ⟨r1,_,_,_⟩:=hu.r1 hr
 have e1:(s i).t=y.term:=by rw [hu.st];rfl
 have e3:(s i).l=y.log:=by rw [hu.st];rfl
 refine ⟨⟨i,j,hu.id,rfl,hi,hj2,by show y.term≤_;rw [e1];exact Nat.le_refl _⟩,λf hf _=>?_,λ_ _ _ _ hk=>?_,λ_ _ hk=>?_,λ_ _ hk=>?_⟩
 ·have hfi:f=i:=by
   have h1:y.id=(f:Int):=hf;have:=hu.id;omega
  subst hfi
  show y.log.length=(g.cand y.term f).length∧rl.lastTerm y.log=rl.lastTerm (g.cand y.term f)∧Fits g (g.cand y.term f)
  rw [r1]
  exact ⟨rfl,rfl,by rw [← e3];exact C.fitS hi⟩
 ·exact absurd (show (1:Int)=2 from hk) (by decide)
 ·exact absurd (show (1:Int)=3 from hk) (by decide)
 ·exact absurd (show (1:Int)=4 from hk) (by decide)
theorem JP (C:Core n s g) {i:Nat} (hi:i < n) (h7:n≤7) {x:rf.Node} (hu:UpOk n s g i x) (ht:x.term + 1 < 18446744073709551616):∃ g',Goes n s g i (rf.stand x).1 (rf.stand x).2 g':=by
 have e1:(s i).t=x.term:=by rw [hu.st];rfl
 have e3:(s i).l=x.log:=by rw [hu.st];rfl
 have tu:=Jh C hi;rw [e1,e3] at tu
 have es:stOf (rf.stood x)=⟨x.term + 1,(i:Int),x.log⟩:=by
  unfold rf.stood stOf;dsimp only;rw [Nat.mod_eq_of_lt ht,hu.id]
 have et:(rf.stood x).term=x.term + 1:=congrArg St.t es;have ev:(rf.stood x).vote=(i:Int):=congrArg St.v es
 have h1:Goes n s g i (rf.stood x) [] { g with gr:=upd2 g.gr (x.term + 1) i (some i),cand:=upd2 g.cand (x.term + 1) i x.log }:=by
  refine ⟨by rw [es];exact tu.core C,by rw [es];exact tu.le,?_,λm hm=>(by cases hm),λ_ _ _ _=>rfl,λ_ _ _ h=>h⟩
  rw [es]
  refine ⟨hu.id,hu.many,by rw [upd_same,es],λ_=>?_,λh=>absurd (show (1:Int)=2 from h) (by decide),?_,by show (List.replicate 7 false).length=7∧_;exact ⟨rfl,hu.len.2⟩⟩
  ·rw [et]
   refine ⟨qC _ _ _ _,λhl=>?_,ev,λj hj hv=>?_⟩
   ·have:=(C.ldd hl).2.1;omega
   ·have e:(rf.stood x).votes=List.replicate 7 false:=rfl;rw [e,List.getD_eq_getElem?_getD,List.getElem?_replicate] at hv
    split at hv <;> cases hv
  ·rw [et];exact hu.com.later tu.le (Nat.le_succ _) (Ag.refl _ hu.com.len)
 obtain ⟨g2,h2⟩:=YC h1.core hi h7 h1.up rfl hi (by rw [et];exact qC _ _ _ _)
 have h3:=h1.trans h2;rw [List.nil_append] at h3;have hid:x.id=(i:Int):=hu.id;unfold rf.stand;rw [hid]
 by_cases hr:(rf.voted (rf.stood x) (i:Int)).1.role=2
 ·rw [if_pos hr];exact ⟨g2,h3⟩
 ·rw [if_neg hr]
  have hr1:(rf.voted (rf.stood x) (i:Int)).1.role=1:=by
   rcases qX (rf.stood x) i (by omega) with e | e
   ·rw [e];rfl
   ·exfalso
    apply hr
    rw [e];exact (ZT _ _).2.2.1
  refine ⟨g2,h3.core,h3.le,h3.up,λm hm=>?_,h3.L,h3.lead⟩
  rcases List.mem_append.1 hm with hm | hm
  ·exact h3.out m hm
  ·exact asks_ok h3.core hi h7 h3.up hr1 m hm
theorem X7 (C:Core n s g) {i:Nat} (hi:i < n) (h7:n≤7) {x:rf.Node} (hu:UpOk n s g i x) (ht:x.term + 1 < 18446744073709551616):∃ g',Goes n s g i (rf.tick x).1 (rf.tick x).2 g':=by
 unfold rf.tick
 split
 ·rename_i hr
  have hr2:=hu.r2 hr
  split
  ·have hu2:UpOk n s g i { x with idle:=0 }:=hu.with rfl rfl rfl (.inl rfl) rfl rfl rfl;exact ⟨g,Goes.stay C hu2 (xm (x:={ x with idle:=0 }) hi h7 hu.id hu.many hu.st hr2.1 hr2.2.1 hu.com)⟩
  ·exact ⟨g,Goes.stay C (hu.with rfl rfl rfl (.inl rfl) rfl rfl rfl) (λ_ h=>by cases h)⟩
 ·split
  ·exact JP C hi h7 (x:={ x with idle:=x.idle + 1 }) (hu.with rfl rfl rfl (.inl rfl) rfl rfl rfl) ht
  ·exact ⟨g,Goes.stay C (hu.with rfl rfl rfl (.inl rfl) rfl rfl rfl) (λ_ h=>by cases h)⟩
theorem Ky (C:Core n s g) {i:Nat} (hi:i < n) (h7:n≤7) {x:rf.Node} (hu:UpOk n s g i x) (text:List UInt8):∃ g',Goes n s g i (rf.propose x text).1 (rf.propose x text).2.1 g':=by
 unfold rf.propose
 split
 ·exact ⟨g,Goes.stay C hu (λ_ h=>by cases h)⟩
 ·rename_i hr
  split
  ·exact ⟨g,Goes.stay C hu (λ_ h=>by cases h)⟩
  ·have hr2:x.role=2:=by omega
   obtain ⟨q1,q2,q3,q4⟩:=hu.r2 hr2;exact jw C hi h7 text hu.id hu.many hu.st hr2 q3 (.inr ⟨q1,q2⟩) q4 hu.len.1 hu.len.2 hu.com
theorem X8 (C:Core n s g) {i:Nat} (hi:i < n) (h7:n≤7) {x:rf.Node} (hu:UpOk n s g i x) {m:rf.Msg} (hm:MsgOk n s g m):∃ g',Goes n s g i (rf.step x m).1 (rf.step x m).2 g':=by
 unfold rf.step
 split
 ·rename_i hmeant
  unfold rf.meant at hmeant;simp only [Bool.and_eq_true,decide_eq_true_eq] at hmeant;obtain ⟨⟨⟨⟨⟨m1,m2⟩,m3⟩,m4⟩,m5⟩,m6⟩:=hmeant;have h1:=JR C hi hu m;have hm2:=hm.later h1.le
  have hid:(rf.fresh x m).id=x.id:=by rw [h1.up.id,hu.id]
  have hterm:m.term≤(rf.fresh x m).term:=by
   unfold rf.fresh
   split
   ·rename_i h
    unfold rf.back;rw [if_pos h];exact Nat.le_refl _
   ·omega
  split
  ·rename_i hk
   obtain ⟨g2,h2⟩:=uC h1.core hi h1.up hm2 hk (by rw [hid];exact m4)
   exact ⟨g2,by have h:=h1.trans h2;rwa [List.nil_append] at h⟩
  ·split
   ·rename_i hk
    obtain ⟨g2,h2⟩:=X6 h1.core hi h7 h1.up hm2 hk (by rw [hid];exact m1)
    exact ⟨g2,by have h:=h1.trans h2;rwa [List.nil_append] at h⟩
   ·split
    ·rename_i hk
     obtain ⟨g2,h2⟩:=uB h1.core hi h1.up hm2 hk hterm
     exact ⟨g2,by have h:=h1.trans h2;rwa [List.nil_append] at h⟩
    ·have hk4:m.kind=4:=by omega
     obtain ⟨g2,h2⟩:=JQ h1.core hi h7 h1.up hm2 hk4
     exact ⟨g2,by have h:=h1.trans h2;rwa [List.nil_append] at h⟩
 ·exact ⟨g,Goes.stay C hu (λ_ h=>by cases h)⟩
end
end cl
namespace cl
open rl (Ent e0)
def Short (l:Log):Prop:=∀ e ∈ l,e.2.length≤100∧e.1 < 18446744073709551616
theorem Short.append {a b:Log} (h:Short a) (k:Short b):Short (a ++ b):=λe he=>by
 rcases List.mem_append.1 he with h1 | h1
 ·exact h e h1
 ·exact k e h1
theorem Short.take {a:Log} (h:Short a) (k:Nat):Short (a.take k):=λe he=>h e (List.mem_of_mem_take he)
theorem Short.drop {a:Log} (h:Short a) (k:Nat):Short (a.drop k):=λe he=>h e (List.mem_of_mem_drop he)
structure NdLim (M K:Nat) (x:rf.Node):Prop where
 len:x.log.length≤M
 cand:x.role=1→x.log.length + 1≤M
 term:x.term≤K
 i0:0≤x.idle
 i1:x.idle≤100
 text:Short x.log
 vote:-1≤x.vote∧x.vote≤6
structure MsgLim (M K:Nat) (m:rf.Msg):Prop where
 ix:m.index≤M
 end_:m.index + m.ents.length≤M
 term:m.term≤K
 text:Short m.ents
theorem NdLim.mono {M K M' K':Nat} {x:rf.Node} (h:NdLim M K x) (hM:M≤M') (hK:K≤K'):NdLim M' K' x:=⟨Nat.le_trans h.len hM,λhr=>Nat.le_trans (h.cand hr) hM,Nat.le_trans h.term hK,h.i0,h.i1,h.text,h.vote⟩
theorem MsgLim.mono {M K M' K':Nat} {m:rf.Msg} (h:MsgLim M K m) (hM:M≤M') (hK:K≤K'):MsgLim M' K' m:=⟨Nat.le_trans h.ix hM,Nat.le_trans h.end_ hM,Nat.le_trans h.term hK,h.text⟩
def BothLim (M K:Nat) (r:rf.Node × List rf.Msg):Prop:=NdLim M K r.1∧∀ m ∈ r.2,MsgLim M K m
section
variable {M K:Nat}
theorem Zm {x y:rf.Node} (h1:x.log.length≤M) (h2:Short x.log) (ht:y.term≤K) (j:Nat):MsgLim M K (rf.stamp y (rf.putMsg x j)):=by
 have hn:rf.nextOf x j - 1≤x.log.length:=by unfold rf.nextOf;omega
 refine ⟨Nat.le_trans hn h1,?_,ht,(h2.drop _).take _⟩
 show rf.nextOf x j - 1 + ((x.log.drop (rf.nextOf x j - 1)).take 20).length≤M
 rw [List.length_take,List.length_drop];omega
theorem K4 {x:rf.Node} (h1:x.log.length≤M) (h2:Short x.log) (ht:x.term≤K):∀ m ∈ rf.puts x,MsgLim M K m:=by
 intro m hm;unfold rf.puts at hm;obtain ⟨j,_,rfl⟩:=List.mem_map.1 hm;exact Zm h1 h2 ht j
theorem xR {x:rf.Node} {text:List UInt8} (hK:K < 18446744073709551616) (hv:-1≤x.vote∧x.vote≤6) (h1:x.log.length + 1≤M) (h2:Short x.log) (h3:text.length≤100) (ht:x.term≤K) (hr:x.role=2) (i0:0≤x.idle) (i1:x.idle≤100):BothLim M K (rf.add x text):=by
 have hs:Short (x.log ++ [(x.term,text)]):=h2.append λe he=>by rw [List.mem_singleton.1 he];exact ⟨h3,Nat.lt_of_le_of_lt ht hK⟩
 have e:rf.add x text=(rf.tally (rf.grown x text),rf.puts (rf.tally (rf.grown x text))):=rfl;have t:rf.tally (rf.grown x text)={ rf.grown x text with commit:=(rf.tally (rf.grown x text)).commit }:=qh _;rw [e];refine ⟨?_,?_⟩
 ·dsimp only;rw [t]
  exact ⟨by show (x.log ++ [(x.term,text)]).length≤M;simp;exact h1,λh=>absurd (show x.role=1 from h) (by omega),ht,i0,i1,hs,hv⟩
 ·dsimp only;rw [t]
  exact K4 (by show (x.log ++ [(x.term,text)]).length≤M;simp;exact h1) hs ht
theorem Y6 {x:rf.Node} {k:Nat} (hK:K < 18446744073709551616) (h:NdLim M K x) (hr:x.role=1) (hk:k < 7):BothLim M K (rf.voted x (k:Int)):=by
 unfold rf.voted
 rw [if_pos (by omega)]
 split
 ·unfold rf.lead
  exact xR (x:=rf.led { x with votes:=x.votes.set (k:Int).toNat true }) hK h.vote (h.cand hr) h.text (Nat.zero_le _) h.term rfl (Int.le_refl _) (show (0:Int)≤100 by decide)
 ·exact ⟨⟨h.len,h.cand,h.term,h.i0,h.i1,h.text,h.vote⟩,λ_ hm=>by cases hm⟩
theorem Ui {x:rf.Node} (h1:x.log.length≤M) (ht:x.term≤K):∀ m ∈ rf.asks x,MsgLim M K m:=by
 intro m hm;unfold rf.asks at hm;obtain ⟨j,_,rfl⟩:=List.mem_map.1 hm
 exact ⟨h1,h1,ht,λ_ he=>by cases he⟩
theorem Xq {x:rf.Node} (hK:K + 1 < 18446744073709551616) (h:NdLim M K x) (h0:0≤x.id) (h7:x.id < 7):BothLim (M + 1) (K + 1) (rf.stand x):=by
 obtain ⟨k,hk⟩:∃ k:Nat,x.id=(k:Int):=⟨x.id.toNat,by omega⟩
 have hs:NdLim (M + 1) (K + 1) (rf.stood x):=⟨Nat.le_succ_of_le h.len,λ_=>Nat.succ_le_succ h.len,by
  have e:(rf.stood x).term=(x.term + 1) % 18446744073709551616:=rfl;have:=Nat.mod_le (x.term + 1) 18446744073709551616;have:=h.term
  omega,Int.le_refl _,(by decide:(0:Int)≤100),h.text,by show -1≤x.id∧x.id≤6;omega⟩
 have hv:=Y6 hK hs rfl (k:=k) (by omega)
 unfold rf.stand;rw [hk]
 split
 ·exact hv
 ·refine ⟨hv.1,λm hm=>?_⟩
  rcases List.mem_append.1 hm with h1 | h1
  ·exact hv.2 m h1
  ·exact Ui hv.1.len hv.1.term m h1
theorem tick_lim {x:rf.Node} (hK:K + 1 < 18446744073709551616) (h:NdLim M K x) (h0:0≤x.id) (h7:x.id < 7):BothLim (M + 1) (K + 1) (rf.tick x):=by
 have hm:=h.mono (Nat.le_succ M) (Nat.le_succ K);have a:=h.i0;have b:=h.i1;unfold rf.tick
 split
 ·split
  ·exact ⟨⟨hm.len,hm.cand,hm.term,Int.le_refl _,(by decide:(0:Int)≤100),hm.text,hm.vote⟩,K4 (x:={ x with idle:=0 }) hm.len hm.text hm.term⟩
  ·exact ⟨⟨hm.len,hm.cand,hm.term,by dsimp only;omega,by dsimp only;omega,hm.text,hm.vote⟩,λ_ hx=>by cases hx⟩
 ·split
  ·have hg:=Xq (x:={ x with idle:=0 }) hK ⟨h.len,h.cand,h.term,Int.le_refl _,(by decide:(0:Int)≤100),h.text,h.vote⟩ h0 h7
   have e:rf.stand { x with idle:=x.idle + 1 }=rf.stand { x with idle:=0 }:=rfl;rw [e];exact hg
  ·rename_i hlt
   exact ⟨⟨hm.len,hm.cand,hm.term,by dsimp only;omega,by dsimp only;omega,hm.text,hm.vote⟩,λ_ hx=>by cases hx⟩
theorem propose_lim {x:rf.Node} (hK:K < 18446744073709551616) (h:NdLim M K x) {text:List UInt8} (ht:text.length≤100):NdLim (M + 1) K (rf.propose x text).1∧∀ m ∈ (rf.propose x text).2.1,MsgLim (M + 1) K m:=by
 have hm:=h.mono (Nat.le_succ M) (Nat.le_refl K);unfold rf.propose
 split
 ·exact ⟨hm,λ_ hx=>by cases hx⟩
 ·split
  ·exact ⟨hm,λ_ hx=>by cases hx⟩
  ·exact xR hK h.vote (Nat.succ_le_succ h.len) h.text ht h.term (by omega) h.i0 h.i1
theorem jO {x:rf.Node} (h:NdLim M K x) {T:Nat} (hT:T≤K):NdLim M K (rf.back x T):=by
 unfold rf.back
 split
 ·exact ⟨h.len,λh1=>absurd (show (0:Int)=1 from h1) (by decide),hT,h.i0,h.i1,h.text,(by decide:(-1:Int)≤-1∧(-1:Int)≤6)⟩
 ·exact ⟨h.len,λh1=>absurd (show (0:Int)=1 from h1) (by decide),h.term,h.i0,h.i1,h.text,h.vote⟩
theorem ji {l e:Log} (h:Short l) (k:Short e) (p pt:Nat):Short (rl.match_ l p pt e).1:=by
 unfold rl.match_
 split
 ·dsimp only
  split
  ·exact (h.take _).append (k.drop _)
  ·exact h
 ·exact h
theorem XM {l e:Log} {p pt:Nat} (h:l.length≤M) (k:p + e.length≤M):(rl.match_ l p pt e).1.length≤M:=by
 have c:=rl.common_le2 (l.drop p) e;unfold rl.match_
 split
 ·dsimp only
  split
  ·rw [List.length_append,List.length_take,List.length_drop];omega
  ·exact h
 ·exact h
theorem Z3 {y:rf.Node} {ix:Nat} {b:Bool} {d:Int} {k:Int} (h:ix≤M) (ht:y.term≤K):MsgLim M K (rf.stamp y { rf.msg0 with kind:=k,dst:=d,ok:=b,index:=ix }):=⟨h,h,ht,λ_ he=>by cases he⟩
theorem put_lim {x:rf.Node} {m:rf.Msg} (h:NdLim M K x) (hm:MsgLim M K m):BothLim M K (rf.put x m):=by
 unfold rf.put
 split
 ·exact ⟨h,λb hb=>by rw [List.mem_singleton.1 hb];exact Z3 (Nat.zero_le _) h.term⟩
 ·have hz:NdLim M K (rf.taken x m):=by
   have hb:=jO h hm.term
   exact ⟨hb.len,hb.cand,hb.term,Int.le_refl _,(by decide:(0:Int)≤100),hb.text,hb.vote⟩
  have hr:(rf.taken x m).role=0:=by
   unfold rf.taken rf.back
   split <;> rfl
  have hl:=XM (l:=(rf.taken x m).log) (pt:=m.at_) hz.len hm.end_;have hs:=ji hz.text hm.text m.index m.at_;have ha:rl.match_ (rf.taken x m).log m.index m.at_ m.ents=rl.match_ (rf.taken x m).log m.index m.at_ m.ents:=rfl
  split
  ·rename_i l at_ e
   rw [e] at hl hs
   have hat:at_≤M:=by
    unfold rl.match_ at e
    split at e
    ·injection e with _ e
     injection e with e _
     rw [← e];exact hm.end_
    ·injection e with _ e
     injection e with _ e
     cases e
   exact ⟨⟨hl,λh1=>absurd (show (rf.taken x m).role=1 from h1) (by rw [hr];decide),hz.term,hz.i0,hz.i1,hs,hz.vote⟩,λb hb=>by rw [List.mem_singleton.1 hb];exact Z3 hat hz.term⟩
  ·exact ⟨hz,λb hb=>by rw [List.mem_singleton.1 hb];exact Z3 hz.len hz.term⟩
theorem XZ {x:rf.Node} {m:rf.Msg} (h:NdLim M K x):BothLim M K (rf.heard x m):=by
 have ht:∀ y:rf.Node,y.log=x.log→y.role=x.role→y.term=x.term→y.idle=x.idle→y.vote=x.vote→NdLim M K y:=λy a b c d ev=>⟨by rw [a];exact h.len,λhr=>by rw [a];exact h.cand (by rw [← b];exact hr),by rw [c];exact h.term,by rw [d];exact h.i0,by rw [d];exact h.i1,by rw [a];exact h.text,by rw [ev];exact h.vote⟩
 have e:∀ k ix,(rf.tally (rf.heardYes x k ix)).log=x.log∧(rf.tally (rf.heardYes x k ix)).role=x.role∧(rf.tally (rf.heardYes x k ix)).term=x.term∧(rf.tally (rf.heardYes x k ix)).idle=x.idle∧(rf.tally (rf.heardYes x k ix)).vote=x.vote:=λk ix=>by
  rw [qh];exact ⟨rfl,rfl,rfl,rfl,rfl⟩
 unfold rf.heard
 split
 ·split
  ·obtain ⟨e1,e2,e3,e4,e5⟩:=e m.frm.toNat m.index
   split
   ·exact ⟨ht _ e1 e2 e3 e4 e5,λb hb=>by rw [List.mem_singleton.1 hb];exact Zm (by rw [e1];exact h.len) (by rw [e1];exact h.text) h.term _⟩
   ·exact ⟨ht _ e1 e2 e3 e4 e5,λ_ hx=>by cases hx⟩
  ·exact ⟨ht _ rfl rfl rfl rfl rfl,λb hb=>by rw [List.mem_singleton.1 hb];exact Zm (x:=rf.heardNo x m.frm.toNat m.index) h.len h.text h.term _⟩
 ·exact ⟨h,λ_ hx=>by cases hx⟩
theorem step_lim {x:rf.Node} {m:rf.Msg} (hK:K < 18446744073709551616) (h:NdLim M K x) (hm:MsgLim M K m):BothLim M K (rf.step x m):=by
 have hf:NdLim M K (rf.fresh x m):=by
  unfold rf.fresh
  split
  ·exact jO h hm.term
  ·exact h
 unfold rf.step
 split
 ·rename_i hmeant
  obtain ⟨f0,f7⟩:=ky hmeant
  split
  ·unfold rf.ask
   split
   ·exact ⟨⟨hf.len,hf.cand,hf.term,Int.le_refl _,(by decide:(0:Int)≤100),hf.text,by show -1≤m.frm∧m.frm≤6;omega⟩,λb hb=>by rw [List.mem_singleton.1 hb];exact ⟨Nat.zero_le _,Nat.zero_le _,hf.term,λ_ he=>by cases he⟩⟩
   ·exact ⟨hf,λb hb=>by rw [List.mem_singleton.1 hb];exact ⟨Nat.zero_le _,Nat.zero_le _,hf.term,λ_ he=>by cases he⟩⟩
  ·split
   ·unfold rf.vote
    split
    ·rename_i hv
     obtain ⟨k,hk⟩:∃ k:Nat,m.frm=(k:Int):=⟨m.frm.toNat,by omega⟩
     rw [hk]
     exact Y6 hK hf hv.1 (by omega)
    ·exact ⟨hf,λ_ hx=>by cases hx⟩
   ·split
    ·exact put_lim hf hm
    ·exact XZ hf
 ·exact ⟨h,λ_ hx=>by cases hx⟩
end
end cl
end Go.Proofs.YtppibhieabideaaGreatDoor
