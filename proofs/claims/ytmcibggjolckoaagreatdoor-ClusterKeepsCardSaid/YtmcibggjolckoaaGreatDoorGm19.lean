/- ClHand, ClNode, ClLim, ClClu: one behind the other. -/
import Derived.Test.YtmcibggjolckoaaGreatDoorGm18
namespace Go.Proofs.YtmcibggjolckoaaGreatDoor
namespace cl
open rl (Ent e0)
section
variable {n:Nat} {s s':Nat→St} {g g':Gh}
theorem size_eq {x:rf.Node} (h:x.many=(n:Int)) (h7:n≤7):rf.size x=n:=by
 unfold rf.size
 rw [h]
 omega
theorem maj_of {x:rf.Node} (h:x.many=(n:Int)) (h7:n≤7) {p:Nat→Bool} (hp:rf.majority x p=true):maj n p:=by
 unfold rf.majority rf.count at hp
 rw [size_eq h h7,h] at hp
 simp only [decide_eq_true_eq] at hp
 unfold maj
 omega
theorem tally_com {x:rf.Node} (hm:x.many=(n:Int)) (h7:n≤7) (hc:CommitOk n g x.term x.log x.commit) (hL:g.L x.term=x.log) (hmat:∀ j,j < n→x.mat.getD j 0≤g.ack x.term j):CommitOk n g x.term x.log (rf.tally x).commit:=by
 have key:∀ i,i≤x.log.length→CommitOk n g x.term x.log (rf.tallyAt x i).commit:=by
  intro i
  induction i with
  | zero=>intro _;exact hc
  | succ i ih=>
   intro hi
   unfold rf.tallyAt
   split
   ·split
    ·rename_i h
     simp only [Bool.and_eq_true,beq_iff_eq] at h
     obtain ⟨h1,h2⟩:=h
     rw [termAt_tm (by omega) hi] at h1
     refine .inr ⟨x.term,i + 1,Nat.le_refl _,⟨⟨by omega,by rw [hL];exact hi,by rw [hL];exact h1⟩,maj_mono (maj_of hm h7 h2) fun j hj hd=>?_⟩,Nat.le_refl _,by rw [hL];exact Ag.refl _ hi⟩
     simp only [decide_eq_true_eq] at hd ⊢
     exact Nat.le_trans hd (hmat j hj)
    ·exact ih (by omega)
   ·exact hc
 exact key _ (Nat.le_refl _)
theorem slice_drop (a:Log) (p k:Nat) (hp:p≤a.length):Slice a p ((a.drop p).take k):=by
 refine ⟨by rw [List.length_take,List.length_drop];omega,fun j hj=>?_⟩
 rw [List.length_take,List.length_drop] at hj
 rw [List.getElem?_take,if_pos (by omega),List.getElem?_drop]
theorem putMsg_ok {i j:Nat} {x:rf.Node} (hi:i < n) (hj:j < n) (hid:x.id=(i:Int)) (hst:s i=stOf x) (hl:g.lead x.term=some i) (hL:g.L x.term=x.log) (hc:CommitOk n g x.term x.log x.commit) {y:rf.Node} (hy1:y.id=x.id) (hy2:y.term=x.term):MsgOk n s g (rf.stamp y (rf.putMsg x j)):=by
 have ht:(s i).t=x.term:=by rw [hst];rfl
 have hn:rf.nextOf x j - 1≤x.log.length:=by unfold rf.nextOf;omega
 refine ⟨⟨i,j,by show y.id=_;rw [hy1];exact hid,rfl,hi,hj,by show y.term≤_;rw [hy2,ht];exact Nat.le_refl _⟩,fun f _ hk=>?_,fun f d _ _ hk=>?_,fun f hf _=>?_,fun f _ hk=>?_⟩
 ·exact absurd (show (3:Int)=1 from hk) (by decide)
 ·exact absurd (show (3:Int)=2 from hk) (by decide)
 ·have hfi:f=i:=by
   have h1:y.id=(f:Int):=hf
   rw [hy1,hid] at h1
   omega
  subst hfi
  show g.lead y.term=some f∧Slice (g.L y.term) (rf.nextOf x j - 1) ((x.log.drop (rf.nextOf x j - 1)).take 20)∧(rl.termAt x.log (rf.nextOf x j - 1)).1=(rl.termAt (g.L y.term) (rf.nextOf x j - 1)).1∧CommitOk n g y.term (g.L y.term) (min x.commit _)
  rw [hy2,hL]
  exact ⟨hl,slice_drop _ _ _ hn,rfl,hc.less (Nat.min_le_left _ _)⟩
 ·exact absurd (show (3:Int)=4 from hk) (by decide)
theorem puts_ok {i:Nat} {x:rf.Node} (hi:i < n) (h7:n≤7) (hid:x.id=(i:Int)) (hm:x.many=(n:Int)) (hst:s i=stOf x) (hl:g.lead x.term=some i) (hL:g.L x.term=x.log) (hc:CommitOk n g x.term x.log x.commit):∀ m ∈ rf.puts x,MsgOk n s g m:=by
 intro m hmm
 unfold rf.puts at hmm
 obtain ⟨j,hj,rfl⟩:=List.mem_map.1 hmm
 unfold rf.others at hj
 rw [size_eq hm h7] at hj
 exact putMsg_ok hi (List.mem_range.1 (List.mem_filter.1 hj).1) hid hst hl hL hc rfl rfl
theorem goes_add (C:Core n s g) {i:Nat} (hi:i < n) (h7:n≤7) {x:rf.Node} (text:List UInt8) (hid:x.id=(i:Int)) (hm:x.many=(n:Int)) (hst:s i=stOf x) (hrole:x.role=2) (hv:x.vote=(i:Int))
  (hL:(g.lead x.term=none∧g.cand x.term i=x.log∧maj n (fun j=>decide (g.gr x.term j=some i)))∨(g.lead x.term=some i∧g.L x.term=x.log)) (hmat:∀ j,j < n→x.mat.getD j 0≤g.ack x.term j) (h7v:x.votes.length=7) (h7m:x.mat.length=7) (hc:CommitOk n g x.term x.log x.commit) :
  ∃ g',Goes n s g i (rf.add x text).1 (rf.add x text).2 g':=by
 have e1:(s i).t=x.term:=by rw [hst];rfl
 have e2:(s i).v=x.vote:=by rw [hst];rfl
 have e3:(s i).l=x.log:=by rw [hst];rfl
 have tu:=turn_more C hi text (by rw [e1,e3];exact hL)
 rw [e1,e2,e3] at tu
 obtain ⟨l',hl'⟩:∃ l',x.log ++ [(x.term,text)]=l':=⟨_,rfl⟩
 rw [hl'] at tu
 have hlen:l'.length=x.log.length + 1:=by rw [← hl'];simp
 obtain ⟨y,hy⟩:∃ y,rf.grown x text=y:=⟨_,rfl⟩
 have y1:y.id=(i:Int):=by rw [← hy];exact hid
 have y2:y.many=(n:Int):=by rw [← hy];exact hm
 have y3:y.term=x.term:=by rw [← hy];rfl
 have y4:y.log=l':=by rw [← hy,← hl'];rfl
 have y5:y.commit=x.commit:=by rw [← hy];rfl
 have y6:y.vote=x.vote:=by rw [← hy];rfl
 have y7:y.mat=x.mat.set i (x.log.length + 1):=by rw [← hy];show x.mat.set x.id.toNat _=_;rw [hid];rfl
 have y8:y.role=2:=by rw [← hy];exact hrole
 have es:stOf (rf.tally y)=⟨x.term,x.vote,l'⟩:=by rw [tally_with];show (⟨y.term,y.vote,y.log⟩:St)=_;rw [y3,y6,y4]
 have g1:(more g i x.term l').L x.term=l':=upd_same _ _ _
 have g2:(more g i x.term l').lead x.term=some i:=upd_same _ _ _
 have g3:(more g i x.term l').ack x.term i=l'.length:=upd2_same _ _ _ _
 have g4:∀ t j,t ≠ x.term∨j ≠ i→(more g i x.term l').ack t j=g.ack t j:=fun t j h=>upd2_other _ _ h
 have hmat2:∀ j,j < n→y.mat.getD j 0≤(more g i x.term l').ack x.term j:=by
  intro j hj
  rw [y7,List.getD_eq_getElem?_getD,List.getElem?_set]
  by_cases hij:i=j
  ·subst hij
   rw [if_pos rfl,if_pos (by omega),g3]
   show x.log.length + 1≤_
   omega
  ·rw [if_neg hij,← List.getD_eq_getElem?_getD,g4 _ _ (.inr (fun e=>hij e.symm))]
   exact hmat j hj
 have hcom0:CommitOk n (more g i x.term l') x.term l' x.commit:=hc.later tu.le (Nat.le_refl _) (by rw [← hl'];exact (ag_append _ _).le hc.len)
 have hcom:CommitOk n (more g i x.term l') x.term l' (rf.tally y).commit:=by
  have h:=tally_com (n:=n) (g:=more g i x.term l') (x:=y) y2 h7 (by rw [y3,y4,y5];exact hcom0) (by rw [y3,y4];exact g1) (by rw [y3];exact hmat2)
  rw [y3,y4] at h
  exact h
 have t1:(rf.tally y).id=(i:Int):=by rw [tally_with];exact y1
 have t2:(rf.tally y).many=(n:Int):=by rw [tally_with];exact y2
 have t3:(rf.tally y).term=x.term:=by rw [tally_with];exact y3
 have t4:(rf.tally y).log=l':=by rw [tally_with];exact y4
 have t5:(rf.tally y).mat=y.mat:=by rw [tally_with]
 have t6:(rf.tally y).vote=x.vote:=by rw [tally_with];exact y6
 have t7:(rf.tally y).role=2:=by rw [tally_with];exact y8
 have hadd:rf.add x text=(rf.tally y,rf.puts (rf.tally y)):=by unfold rf.add;rw [hy]
 rw [hadd]
 refine ⟨more g i x.term l',?_,?_,?_,?_,fun t j hj hl=>?_,fun t j hj hl=>?_⟩
 ·rw [es];exact tu.core C
 ·rw [es];exact tu.le
 ·refine ⟨t1,t2,by rw [upd_same],fun h=>?_,fun _=>?_,by rw [t3,t4];exact hcom,?_⟩
  ·rw [t7] at h;exact absurd h (by decide)
  ·rw [t3,t4,t6,t5]
   exact ⟨g2,g1,hv,hmat2⟩
  ·rw [t5,y7,tally_with]
   exact ⟨by show y.votes.length=7;rw [← hy];exact h7v,by rw [List.length_set];exact h7m⟩
 ·exact puts_ok hi h7 t1 t2 (by rw [upd_same]) (by rw [t3];exact g2) (by rw [t3,t4];exact g1) (by rw [t3,t4];exact hcom)
 ·show upd g.L x.term l' t=g.L t
  refine upd_other _ _ fun ht=>?_
  subst ht
  rcases hL with ⟨h1,_⟩ | ⟨h1,_⟩ <;> rw [h1] at hl
  ·cases hl
  ·injection hl with hl;exact hj hl.symm
 ·have hl2:upd g.lead x.term (some i) t=some j:=hl
  by_cases ht:t=x.term
  ·subst ht
   rw [upd_same] at hl2
   injection hl2 with hl2
   exact absurd hl2.symm hj
  ·rwa [upd_other _ _ ht] at hl2
theorem goes_ask (C:Core n s g) {i:Nat} (hi:i < n) {x:rf.Node} (hu:UpOk n s g i x) {m:rf.Msg} (hm:MsgOk n s g m) (hk:m.kind=1) (hne:m.frm ≠ x.id):∃ g',Goes n s g i (rf.ask x m).1 (rf.ask x m).2 g':=by
 obtain ⟨f,d,f1,_,fn,_,ft⟩:=hm.dom
 have e1:(s i).t=x.term:=by rw [hu.st];rfl
 have e2:(s i).v=x.vote:=by rw [hu.st];rfl
 have e3:(s i).l=x.log:=by rw [hu.st];rfl
 have rep:∀ (b:Bool) (s1:Nat→St) (g1:Gh) (y:rf.Node),y.id=x.id→y.term=x.term→(x.term≤(s1 i).t)→(b=true→g1.gr x.term i=some f)→MsgOk n s1 g1 (rf.stamp y { rf.msg0 with kind:=2,dst:=m.frm,ok:=b }):=by
  intro b s1 g1 y hy1 hy2 ht hb
  refine ⟨⟨i,f,by show y.id=_;rw [hy1];exact hu.id,f1,hi,fn,by show y.term≤_;rw [hy2];exact ht⟩,fun _ _ hk=>?_,fun a c ha hc _ ho=>?_,fun _ _ hk=>?_,fun _ _ hk=>?_⟩
  ·exact absurd (show (2:Int)=1 from hk) (by decide)
  ·have ha2:y.id=(a:Int):=ha
   have hc2:m.frm=(c:Int):=hc
   rw [hy1,hu.id] at ha2
   obtain rfl:a=i:=by omega
   obtain rfl:c=f:=by omega
   show g1.gr y.term a=some c
   rw [hy2]
   exact hb ho
  ·exact absurd (show (2:Int)=3 from hk) (by decide)
  ·exact absurd (show (2:Int)=4 from hk) (by decide)
 unfold rf.ask
 by_cases hok:rf.askOk x m=true
 ·rw [if_pos hok]
  unfold rf.askOk at hok
  simp only [Bool.and_eq_true,Bool.or_eq_true,decide_eq_true_eq] at hok
  obtain ⟨⟨ht,hv⟩,hn⟩:=hok
  obtain ⟨q1,q2,q3⟩:=hm.k1 f f1 hk
  rw [ht] at q1 q2 q3 ft
  rw [q1,q2] at hn
  have tu:=turn_grant C hi fn (by rw [e1];exact ft) (by rw [e2];rw [f1] at hv;exact hv) (by rw [e1];exact q3) (by rw [e1,e3];exact hn)
  rw [e1,e3] at tu
  have es:stOf { x with vote:=m.frm,idle:=0 }=⟨x.term,(f:Int),x.log⟩:=by show (⟨x.term,m.frm,x.log⟩:St)=_;rw [f1]
  have hr0:x.role ≠ 1∧x.role ≠ 2:=by
   constructor
   ·intro hr
    have:=(hu.r1 hr).2.2.1
    have:=hu.id
    omega
   ·intro hr
    have:=(hu.r2 hr).2.2.1
    have:=hu.id
    omega
  refine ⟨{ g with gr:=upd2 g.gr x.term i (some f) },by rw [es];exact tu.core C,by rw [es];exact tu.le,?_,?_,fun _ _ _ _=>rfl,fun _ _ _ h=>h⟩
  ·rw [es]
   exact ⟨hu.id,hu.many,by rw [upd_same,← es],fun h=>absurd h hr0.1,fun h=>absurd h hr0.2,hu.com.later tu.le (Nat.le_refl _) (Ag.refl _ hu.com.len),hu.len⟩
  ·intro b hb
   rw [List.mem_singleton.1 hb,es]
   exact rep true _ _ x rfl rfl (by rw [upd_same];exact Nat.le_refl _) (fun _=>upd2_same _ _ _ _)
 ·rw [if_neg hok]
  exact ⟨g,Goes.stay C hu fun b hb=>by
   rw [List.mem_singleton.1 hb]
   exact rep false s g x rfl rfl (by rw [e1];exact Nat.le_refl _) (fun h=>by cases h)⟩
theorem goes_lead (C:Core n s g) {i:Nat} (hi:i < n) (h7:n≤7) {x:rf.Node} (hid:x.id=(i:Int)) (hm:x.many=(n:Int)) (hst:s i=stOf x) (hv:x.vote=(i:Int)) (hl:g.lead x.term ≠ some i) (hc:g.cand x.term i=x.log) (hmaj:maj n fun j=>decide (g.gr x.term j=some i))
  (h7v:x.votes.length=7) (hcom:CommitOk n g x.term x.log x.commit):∃ g',Goes n s g i (rf.lead x).1 (rf.lead x).2 g':=by
 have hnone:g.lead x.term=none:=by
  cases e:g.lead x.term with
  | none=>rfl
  | some b=>
   exfalso
   obtain ⟨_,_,h3⟩:=C.ldd e
   obtain ⟨j,_,j1,j2⟩:=maj_meet h3 hmaj
   simp only [decide_eq_true_eq] at j1 j2
   rw [j1] at j2
   injection j2 with j2
   rw [e,j2] at hl
   exact hl rfl
 exact goes_add C hi h7 (x:=rf.led x) [] hid hm hst rfl hv (.inl ⟨hnone,hc,hmaj⟩) (fun j _=>by
  have e:(rf.led x).mat=List.replicate 7 0:=rfl
  rw [e,List.getD_eq_getElem?_getD,List.getElem?_replicate]
  split <;> exact Nat.zero_le _) h7v (by show (List.replicate 7 0).length=7;rfl) hcom
theorem goes_voted (C:Core n s g) {i k:Nat} (hi:i < n) (h7:n≤7) {x:rf.Node} (hu:UpOk n s g i x) (hr:x.role=1) (hk:k < n) (hg:g.gr x.term k=some i):∃ g',Goes n s g i (rf.voted x (k:Int)).1 (rf.voted x (k:Int)).2 g':=by
 obtain ⟨r1,r2,r3,r4⟩:=hu.r1 hr
 have hv:∀ j,j < n→(x.votes.set k true).getD j false=true→g.gr x.term j=some i:=by
  intro j hj h
  by_cases hjk:j=k
  ·subst hjk;exact hg
  ·rw [List.getD_eq_getElem?_getD,List.getElem?_set,if_neg (fun e=>hjk e.symm),← List.getD_eq_getElem?_getD] at h
   exact r4 j hj h
 have hu2:UpOk n s g i { x with votes:=x.votes.set k true }:=⟨hu.id,hu.many,hu.st,fun _=>⟨r1,r2,r3,hv⟩,fun h=>by
  have h1:x.role=2:=h
  omega,hu.com,by show (x.votes.set k true).length=7∧_;rw [List.length_set];exact hu.len⟩
 unfold rf.voted
 rw [if_pos (by omega),Int.toNat_natCast]
 by_cases he:rf.elected { x with votes:=x.votes.set k true }=true
 ·rw [if_pos he]
  exact goes_lead C hi h7 hu2.id hu2.many hu2.st r3 r2 r1 (maj_mono (maj_of hu2.many h7 he) fun j hj h=>decide_eq_true (hv j hj h)) hu2.len.1 hu2.com
 ·rw [if_neg he]
  exact ⟨g,Goes.stay C hu2 (fun _ h=>by cases h)⟩
theorem goes_vote (C:Core n s g) {i:Nat} (hi:i < n) (h7:n≤7) {x:rf.Node} (hu:UpOk n s g i x) {m:rf.Msg} (hm:MsgOk n s g m) (hk:m.kind=2) (hd:m.dst=x.id):∃ g',Goes n s g i (rf.vote x m).1 (rf.vote x m).2 g':=by
 obtain ⟨f,d,f1,d1,fn,_,_⟩:=hm.dom
 unfold rf.vote
 split
 ·rename_i h
  obtain ⟨h1,h2,h3⟩:=h
  have hdi:d=i:=by have:=hu.id;omega
  subst hdi
  rw [f1]
  exact goes_voted C hi h7 hu h1 fn (by rw [← h2];exact hm.k2 f d f1 d1 hk h3)
 ·exact ⟨g,Goes.stay C hu (fun _ h=>by cases h)⟩
theorem reply_ok {i f:Nat} {y:rf.Node} {ix:Nat} {b:Bool} {d:Int} (hi:i < n) (fn:f < n) (hid:y.id=(i:Int)) (hd:d=(f:Int)) (ht:y.term≤(s i).t) (ha:b=true→ix≤g.ack y.term i):MsgOk n s g (rf.stamp y { rf.msg0 with kind:=4,dst:=d,ok:=b,index:=ix }):=by
 refine ⟨⟨i,f,hid,hd,hi,fn,ht⟩,fun _ _ hk=>?_,fun _ _ _ _ hk=>?_,fun _ _ hk=>?_,fun a h1 _ ho=>?_⟩
 ·exact absurd (show (4:Int)=1 from hk) (by decide)
 ·exact absurd (show (4:Int)=2 from hk) (by decide)
 ·exact absurd (show (4:Int)=3 from hk) (by decide)
 ·have h2:y.id=(a:Int):=h1
  obtain rfl:a=i:=by omega
  exact ha ho
theorem goes_put (C:Core n s g) {i:Nat} (hi:i < n) {x:rf.Node} (hu:UpOk n s g i x) {m:rf.Msg} (hm:MsgOk n s g m) (hk:m.kind=3) (hle:m.term≤x.term):∃ g',Goes n s g i (rf.put x m).1 (rf.put x m).2 g':=by
 obtain ⟨f,d,f1,_,fn,_,_⟩:=hm.dom
 have e1:(s i).t=x.term:=by rw [hu.st];rfl
 have e2:(s i).v=x.vote:=by rw [hu.st];rfl
 have e3:(s i).l=x.log:=by rw [hu.st];rfl
 unfold rf.put
 by_cases hlt:m.term < x.term
 ·rw [if_pos hlt]
  refine ⟨g,Goes.stay C hu fun b hb=>?_⟩
  rw [List.mem_singleton.1 hb]
  exact reply_ok (y:=x) (ix:=0) (b:=false) hi fn hu.id f1 (by rw [e1];exact Nat.le_refl _) (fun h=>by cases h)
 ·rw [if_neg hlt]
  have hT:m.term=x.term:=by omega
  obtain ⟨q1,q2,q3,q4⟩:=hm.k3 f f1 hk
  rw [hT] at q1 q2 q3 q4
  obtain ⟨z,hz⟩:∃ z,rf.taken x m=z:=⟨_,rfl⟩
  have hzt:z={ x with role:=0,lead:=m.frm,idle:=0 }:=by
   rw [← hz]
   unfold rf.taken rf.back
   rw [if_neg (by omega)]
  have zu:UpOk n s g i z:=by
   rw [hzt]
   exact hu.with rfl rfl rfl (.inr rfl) rfl rfl rfl
  have zlog:z.log=x.log:=by rw [hzt]
  have zterm:z.term=x.term:=by rw [hzt]
  have zrole:z.role=0:=by rw [hzt]
  rw [hz]
  by_cases hta:rl.termAt x.log m.index=(m.at_,true)
  ·have hfx:Fits g x.log:=by rw [← e3];exact C.fitS hi
   obtain ⟨tk,hsnd⟩:=match_took hfx (C.fitL x.term) q2 hta q3
   obtain ⟨l',hl'⟩:∃ l',(rl.match_ x.log m.index m.at_ m.ents).1=l':=⟨_,rfl⟩
   have hmatch:rl.match_ z.log m.index m.at_ m.ents=(l',m.index + m.ents.length,0):=by
    rw [zlog,← hl',← hsnd]
   rw [hmatch]
   show ∃ g',Goes n s g i { z with log:=l',commit:=max x.commit (min m.commit (m.index + m.ents.length)) } [rf.stamp z { rf.msg0 with kind:=4,dst:=m.frm,ok:=true,index:=m.index + m.ents.length }] g'
   rw [hl'] at tk
   have tu:=turn_put C (l':=l') hi (by rw [e1];exact q1) (by rw [e1];exact q2) (by rw [e1,e3];exact tk)
   rw [e1,e2] at tu
   have es:∀ c,stOf { z with log:=l',commit:=c }=⟨x.term,x.vote,l'⟩:=fun c=>by rw [hzt];rfl
   have ga:m.index + m.ents.length≤(took g i x.term (m.index + m.ents.length)).ack x.term i:=by
    have:(took g i x.term (m.index + m.ents.length)).ack x.term i=_:=upd2_same _ _ _ _
    rw [this];omega
   have hcom:CommitOk n (took g i x.term (m.index + m.ents.length)) x.term l' (max x.commit (min m.commit (m.index + m.ents.length))):=by
    have hold:CommitOk n (took g i x.term (m.index + m.ents.length)) x.term l' x.commit:=by
     rcases hu.com with h | ⟨t,k,h1,h2,h3,h4⟩
     ·exact .inl h
     ·refine .inr ⟨t,k,h1,h2.later tu.le,h3,?_⟩
      by_cases htT:t=x.term
      ·subst htT
       exact tk.keep _ _ h4 (Ag.refl _ h4.1)
      ·rcases C.safe (t:=t) (t':=x.term) (by omega) (by rw [q1];simp) h2.1 with h5 | h5
       ·exact tk.keep _ _ h4 (h5.le h3)
       ·exact (not_both h2 h5).elim
    have hnew:CommitOk n (took g i x.term (m.index + m.ents.length)) x.term l' (min m.commit (m.index + m.ents.length)):=
     q4.later tu.le (Nat.le_refl _) (tk.ag.symm.le (Nat.min_le_right _ _))
    rcases Nat.le_total x.commit (min m.commit (m.index + m.ents.length)) with h | h
    ·rw [Nat.max_eq_right h];exact hnew
    ·rw [Nat.max_eq_left h];exact hold
   refine ⟨took g i x.term (m.index + m.ents.length),by rw [es];exact tu.core C,by rw [es];exact tu.le,?_,?_,fun _ _ _ _=>rfl,fun _ _ _ h=>h⟩
   ·rw [es]
    refine ⟨zu.id,zu.many,by rw [upd_same,es],fun h=>?_,fun h=>?_,?_,zu.len⟩
    ·have h1:z.role=1:=h
     omega
    ·have h1:z.role=2:=h
     omega
    ·show CommitOk n _ z.term l' _
     rw [zterm]
     exact hcom
   ·intro b hb
    rw [List.mem_singleton.1 hb,es]
    exact reply_ok hi fn zu.id f1 (by rw [upd_same,zterm];exact Nat.le_refl _) (fun _=>by rw [zterm];exact ga)
  ·have hmatch:rl.match_ z.log m.index m.at_ m.ents=(z.log,0,3):=by
    unfold rl.match_
    rw [zlog,if_neg hta]
   rw [hmatch]
   show ∃ g',Goes n s g i z [rf.stamp z { rf.msg0 with kind:=4,dst:=m.frm,index:=z.log.length }] g'
   refine ⟨g,Goes.stay C zu fun b hb=>?_⟩
   rw [List.mem_singleton.1 hb]
   exact reply_ok (y:=z) (b:=false) hi fn zu.id f1 (by rw [e1,zterm];exact Nat.le_refl _) (fun h=>by cases h)
theorem goes_heard (C:Core n s g) {i:Nat} (hi:i < n) (h7:n≤7) {x:rf.Node} (hu:UpOk n s g i x) {m:rf.Msg} (hm:MsgOk n s g m) (hk:m.kind=4):∃ g',Goes n s g i (rf.heard x m).1 (rf.heard x m).2 g':=by
 obtain ⟨f,d,f1,_,fn,_,_⟩:=hm.dom
 unfold rf.heard
 split
 ·rename_i h
  obtain ⟨h1,h2⟩:=h
  obtain ⟨r1,r2,r3,r4⟩:=hu.r2 h1
  have hf:m.frm.toNat=f:=by rw [f1];rfl
  rw [hf]
  split
  ·rename_i hok
   have ha:=hm.k4 f f1 hk hok
   rw [h2] at ha
   obtain ⟨y,hy⟩:∃ y,rf.heardYes x f m.index=y:=⟨_,rfl⟩
   rw [hy]
   have y7:y.mat=x.mat.set f (max (x.mat.getD f 0) (min m.index x.log.length)):=by rw [← hy];rfl
   have hmat:∀ j,j < n→y.mat.getD j 0≤g.ack x.term j:=by
    intro j hj
    rw [y7,List.getD_eq_getElem?_getD,List.getElem?_set]
    by_cases hfj:f=j
    ·subst hfj
     rw [if_pos rfl]
     have:=r4 f fn
     split
     ·show max _ _≤_
      omega
     ·exact Nat.zero_le _
    ·rw [if_neg hfj,← List.getD_eq_getElem?_getD]
     exact r4 j hj
   have y1:y.id=x.id:=by rw [← hy];rfl
   have y2:y.many=x.many:=by rw [← hy];rfl
   have y3:y.term=x.term:=by rw [← hy];rfl
   have y4:y.log=x.log:=by rw [← hy];rfl
   have y5:y.commit=x.commit:=by rw [← hy];rfl
   have y6:y.vote=x.vote:=by rw [← hy];rfl
   have y8:y.role=x.role:=by rw [← hy];rfl
   have y9:y.votes=x.votes:=by rw [← hy];rfl
   have hcom:CommitOk n g x.term x.log (rf.tally y).commit:=by
    have h:=tally_com (n:=n) (g:=g) (x:=y) (by rw [y2];exact hu.many) h7 (by rw [y3,y4,y5];exact hu.com) (by rw [y3,y4];exact r2) (by rw [y3];exact hmat)
    rw [y3,y4] at h
    exact h
   have t1:(rf.tally y).id=x.id:=by rw [tally_with];exact y1
   have t2:(rf.tally y).many=x.many:=by rw [tally_with];exact y2
   have t3:(rf.tally y).term=x.term:=by rw [tally_with];exact y3
   have t4:(rf.tally y).log=x.log:=by rw [tally_with];exact y4
   have t5:(rf.tally y).mat=y.mat:=by rw [tally_with]
   have t6:(rf.tally y).vote=x.vote:=by rw [tally_with];exact y6
   have t7:(rf.tally y).role=x.role:=by rw [tally_with];exact y8
   have t8:(rf.tally y).votes=x.votes:=by rw [tally_with];exact y9
   have es:stOf (rf.tally y)=stOf x:=by unfold stOf;rw [t3,t6,t4]
   have hu2:UpOk n s g i (rf.tally y):=by
    refine ⟨by rw [t1];exact hu.id,by rw [t2];exact hu.many,by rw [es];exact hu.st,fun hr=>?_,fun _=>?_,by rw [t3,t4];exact hcom,?_⟩
    ·rw [t7,h1] at hr;exact absurd hr (by decide)
    ·rw [t3,t4,t5,t6]
     exact ⟨r1,r2,r3,hmat⟩
    ·rw [t8,t5,y7,List.length_set]
     exact hu.len
   split
   ·refine ⟨g,Goes.stay C hu2 fun b hb=>?_⟩
    rw [List.mem_singleton.1 hb]
    exact putMsg_ok hi fn (by rw [t1];exact hu.id) (by rw [es];exact hu.st) (by rw [t3];exact r1) (by rw [t3,t4];exact r2) (by rw [t3,t4];exact hcom) t1.symm t3.symm
   ·exact ⟨g,Goes.stay C hu2 (fun _ h=>by cases h)⟩
  ·have hu2:UpOk n s g i (rf.heardNo x f m.index):=hu.with rfl rfl rfl (.inl rfl) rfl rfl rfl
   refine ⟨g,Goes.stay C hu2 fun b hb=>?_⟩
   rw [List.mem_singleton.1 hb]
   exact putMsg_ok (x:=rf.heardNo x f m.index) hi fn hu.id hu.st r1 r2 hu.com rfl rfl
 ·exact ⟨g,Goes.stay C hu (fun _ h=>by cases h)⟩
end
end cl
end Go.Proofs.YtmcibggjolckoaaGreatDoor
namespace Go.Proofs.YtmcibggjolckoaaGreatDoor
namespace cl
open rl (Ent e0)
section
variable {n:Nat} {s s':Nat→St} {g g':Gh}
theorem asks_ok (C:Core n s g) {i:Nat} (hi:i < n) (h7:n≤7) {y:rf.Node} (hu:UpOk n s g i y) (hr:y.role=1):∀ m ∈ rf.asks y,MsgOk n s g m:=by
 intro m hm
 unfold rf.asks at hm
 obtain ⟨j,hj,rfl⟩:=List.mem_map.1 hm
 unfold rf.others at hj
 rw [size_eq hu.many h7] at hj
 have hj2:=List.mem_range.1 (List.mem_filter.1 hj).1
 obtain ⟨r1,_,_,_⟩:=hu.r1 hr
 have e1:(s i).t=y.term:=by rw [hu.st];rfl
 have e3:(s i).l=y.log:=by rw [hu.st];rfl
 refine ⟨⟨i,j,hu.id,rfl,hi,hj2,by show y.term≤_;rw [e1];exact Nat.le_refl _⟩,fun f hf _=>?_,fun _ _ _ _ hk=>?_,fun _ _ hk=>?_,fun _ _ hk=>?_⟩
 ·have hfi:f=i:=by
   have h1:y.id=(f:Int):=hf
   have:=hu.id
   omega
  subst hfi
  show y.log.length=(g.cand y.term f).length∧rl.lastTerm y.log=rl.lastTerm (g.cand y.term f)∧Fits g (g.cand y.term f)
  rw [r1]
  exact ⟨rfl,rfl,by rw [← e3];exact C.fitS hi⟩
 ·exact absurd (show (1:Int)=2 from hk) (by decide)
 ·exact absurd (show (1:Int)=3 from hk) (by decide)
 ·exact absurd (show (1:Int)=4 from hk) (by decide)
theorem goes_stand (C:Core n s g) {i:Nat} (hi:i < n) (h7:n≤7) {x:rf.Node} (hu:UpOk n s g i x) (ht:x.term + 1 < 18446744073709551616):∃ g',Goes n s g i (rf.stand x).1 (rf.stand x).2 g':=by
 have e1:(s i).t=x.term:=by rw [hu.st];rfl
 have e3:(s i).l=x.log:=by rw [hu.st];rfl
 have tu:=turn_stand C hi
 rw [e1,e3] at tu
 have es:stOf (rf.stood x)=⟨x.term + 1,(i:Int),x.log⟩:=by
  unfold rf.stood stOf
  dsimp only
  rw [Nat.mod_eq_of_lt ht,hu.id]
 have et:(rf.stood x).term=x.term + 1:=congrArg St.t es
 have ev:(rf.stood x).vote=(i:Int):=congrArg St.v es
 have h1:Goes n s g i (rf.stood x) [] { g with gr:=upd2 g.gr (x.term + 1) i (some i),cand:=upd2 g.cand (x.term + 1) i x.log }:=by
  refine ⟨by rw [es];exact tu.core C,by rw [es];exact tu.le,?_,fun m hm=>(by cases hm),fun _ _ _ _=>rfl,fun _ _ _ h=>h⟩
  rw [es]
  refine ⟨hu.id,hu.many,by rw [upd_same,es],fun _=>?_,fun h=>absurd (show (1:Int)=2 from h) (by decide),?_,by show (List.replicate 7 false).length=7∧_;exact ⟨rfl,hu.len.2⟩⟩
  ·rw [et]
   refine ⟨upd2_same _ _ _ _,fun hl=>?_,ev,fun j hj hv=>?_⟩
   ·have:=(C.ldd hl).2.1
    omega
   ·have e:(rf.stood x).votes=List.replicate 7 false:=rfl
    rw [e,List.getD_eq_getElem?_getD,List.getElem?_replicate] at hv
    split at hv <;> cases hv
  ·rw [et]
   exact hu.com.later tu.le (Nat.le_succ _) (Ag.refl _ hu.com.len)
 obtain ⟨g2,h2⟩:=goes_voted h1.core hi h7 h1.up rfl hi (by rw [et];exact upd2_same _ _ _ _)
 have h3:=h1.trans h2
 rw [List.nil_append] at h3
 have hid:x.id=(i:Int):=hu.id
 unfold rf.stand
 rw [hid]
 by_cases hr:(rf.voted (rf.stood x) (i:Int)).1.role=2
 ·rw [if_pos hr]
  exact ⟨g2,h3⟩
 ·rw [if_neg hr]
  have hr1:(rf.voted (rf.stood x) (i:Int)).1.role=1:=by
   rcases voted_cases (rf.stood x) i (by omega) with e | e
   ·rw [e];rfl
   ·exfalso
    apply hr
    rw [e]
    exact (add_node _ _).2.2.1
  refine ⟨g2,h3.core,h3.le,h3.up,fun m hm=>?_,h3.L,h3.lead⟩
  rcases List.mem_append.1 hm with hm | hm
  ·exact h3.out m hm
  ·exact asks_ok h3.core hi h7 h3.up hr1 m hm
theorem goes_tick (C:Core n s g) {i:Nat} (hi:i < n) (h7:n≤7) {x:rf.Node} (hu:UpOk n s g i x) (ht:x.term + 1 < 18446744073709551616):∃ g',Goes n s g i (rf.tick x).1 (rf.tick x).2 g':=by
 unfold rf.tick
 split
 ·rename_i hr
  have hr2:=hu.r2 hr
  split
  ·have hu2:UpOk n s g i { x with idle:=0 }:=hu.with rfl rfl rfl (.inl rfl) rfl rfl rfl
   exact ⟨g,Goes.stay C hu2 (puts_ok (x:={ x with idle:=0 }) hi h7 hu.id hu.many hu.st hr2.1 hr2.2.1 hu.com)⟩
  ·exact ⟨g,Goes.stay C (hu.with rfl rfl rfl (.inl rfl) rfl rfl rfl) (fun _ h=>by cases h)⟩
 ·split
  ·exact goes_stand C hi h7 (x:={ x with idle:=x.idle + 1 }) (hu.with rfl rfl rfl (.inl rfl) rfl rfl rfl) ht
  ·exact ⟨g,Goes.stay C (hu.with rfl rfl rfl (.inl rfl) rfl rfl rfl) (fun _ h=>by cases h)⟩
theorem goes_propose (C:Core n s g) {i:Nat} (hi:i < n) (h7:n≤7) {x:rf.Node} (hu:UpOk n s g i x) (text:List UInt8):∃ g',Goes n s g i (rf.propose x text).1 (rf.propose x text).2.1 g':=by
 unfold rf.propose
 split
 ·exact ⟨g,Goes.stay C hu (fun _ h=>by cases h)⟩
 ·rename_i hr
  split
  ·exact ⟨g,Goes.stay C hu (fun _ h=>by cases h)⟩
  ·have hr2:x.role=2:=by omega
   obtain ⟨q1,q2,q3,q4⟩:=hu.r2 hr2
   exact goes_add C hi h7 text hu.id hu.many hu.st hr2 q3 (.inr ⟨q1,q2⟩) q4 hu.len.1 hu.len.2 hu.com
theorem goes_step (C:Core n s g) {i:Nat} (hi:i < n) (h7:n≤7) {x:rf.Node} (hu:UpOk n s g i x) {m:rf.Msg} (hm:MsgOk n s g m):∃ g',Goes n s g i (rf.step x m).1 (rf.step x m).2 g':=by
 unfold rf.step
 split
 ·rename_i hmeant
  unfold rf.meant at hmeant
  simp only [Bool.and_eq_true,decide_eq_true_eq] at hmeant
  obtain ⟨⟨⟨⟨⟨m1,m2⟩,m3⟩,m4⟩,m5⟩,m6⟩:=hmeant
  have h1:=goes_fresh C hi hu m
  have hm2:=hm.later h1.le
  have hid:(rf.fresh x m).id=x.id:=by rw [h1.up.id,hu.id]
  have hterm:m.term≤(rf.fresh x m).term:=by
   unfold rf.fresh
   split
   ·rename_i h
    unfold rf.back
    rw [if_pos h]
    exact Nat.le_refl _
   ·omega
  split
  ·rename_i hk
   obtain ⟨g2,h2⟩:=goes_ask h1.core hi h1.up hm2 hk (by rw [hid];exact m4)
   exact ⟨g2,by have h:=h1.trans h2;rwa [List.nil_append] at h⟩
  ·split
   ·rename_i hk
    obtain ⟨g2,h2⟩:=goes_vote h1.core hi h7 h1.up hm2 hk (by rw [hid];exact m1)
    exact ⟨g2,by have h:=h1.trans h2;rwa [List.nil_append] at h⟩
   ·split
    ·rename_i hk
     obtain ⟨g2,h2⟩:=goes_put h1.core hi h1.up hm2 hk hterm
     exact ⟨g2,by have h:=h1.trans h2;rwa [List.nil_append] at h⟩
    ·have hk4:m.kind=4:=by omega
     obtain ⟨g2,h2⟩:=goes_heard h1.core hi h7 h1.up hm2 hk4
     exact ⟨g2,by have h:=h1.trans h2;rwa [List.nil_append] at h⟩
 ·exact ⟨g,Goes.stay C hu (fun _ h=>by cases h)⟩
end
end cl
end Go.Proofs.YtmcibggjolckoaaGreatDoor
namespace Go.Proofs.YtmcibggjolckoaaGreatDoor
namespace cl
open rl (Ent e0)
def Short (l:Log):Prop:=∀ e ∈ l,e.2.length≤100∧e.1 < 18446744073709551616
theorem Short.append {a b:Log} (h:Short a) (k:Short b):Short (a ++ b):=fun e he=>by
 rcases List.mem_append.1 he with h1 | h1
 ·exact h e h1
 ·exact k e h1
theorem Short.take {a:Log} (h:Short a) (k:Nat):Short (a.take k):=fun e he=>h e (List.mem_of_mem_take he)
theorem Short.drop {a:Log} (h:Short a) (k:Nat):Short (a.drop k):=fun e he=>h e (List.mem_of_mem_drop he)
structure NdLim (M K:Nat) (x:rf.Node):Prop where
 len:x.log.length≤M
 cand:x.role=1→x.log.length + 1≤M
 term:x.term≤K
 i0:0≤x.idle
 i1:x.idle≤100
 text:Short x.log
 vote:-1≤x.vote∧x.vote≤6
structure MsgLim (M K:Nat) (m:rf.Msg):Prop where
 ix:m.index≤M
 end_:m.index + m.ents.length≤M
 term:m.term≤K
 text:Short m.ents
theorem NdLim.mono {M K M' K':Nat} {x:rf.Node} (h:NdLim M K x) (hM:M≤M') (hK:K≤K'):NdLim M' K' x:=⟨Nat.le_trans h.len hM,fun hr=>Nat.le_trans (h.cand hr) hM,Nat.le_trans h.term hK,h.i0,h.i1,h.text,h.vote⟩
theorem MsgLim.mono {M K M' K':Nat} {m:rf.Msg} (h:MsgLim M K m) (hM:M≤M') (hK:K≤K'):MsgLim M' K' m:=⟨Nat.le_trans h.ix hM,Nat.le_trans h.end_ hM,Nat.le_trans h.term hK,h.text⟩
def BothLim (M K:Nat) (r:rf.Node × List rf.Msg):Prop:=NdLim M K r.1∧∀ m ∈ r.2,MsgLim M K m
section
variable {M K:Nat}
theorem putMsg_lim {x y:rf.Node} (h1:x.log.length≤M) (h2:Short x.log) (ht:y.term≤K) (j:Nat):MsgLim M K (rf.stamp y (rf.putMsg x j)):=by
 have hn:rf.nextOf x j - 1≤x.log.length:=by unfold rf.nextOf;omega
 refine ⟨Nat.le_trans hn h1,?_,ht,(h2.drop _).take _⟩
 show rf.nextOf x j - 1 + ((x.log.drop (rf.nextOf x j - 1)).take 20).length≤M
 rw [List.length_take,List.length_drop]
 omega
theorem puts_lim {x:rf.Node} (h1:x.log.length≤M) (h2:Short x.log) (ht:x.term≤K):∀ m ∈ rf.puts x,MsgLim M K m:=by
 intro m hm
 unfold rf.puts at hm
 obtain ⟨j,_,rfl⟩:=List.mem_map.1 hm
 exact putMsg_lim h1 h2 ht j
theorem add_lim {x:rf.Node} {text:List UInt8} (hK:K < 18446744073709551616) (hv:-1≤x.vote∧x.vote≤6) (h1:x.log.length + 1≤M) (h2:Short x.log) (h3:text.length≤100) (ht:x.term≤K) (hr:x.role=2) (i0:0≤x.idle) (i1:x.idle≤100):BothLim M K (rf.add x text):=by
 have hs:Short (x.log ++ [(x.term,text)]):=h2.append fun e he=>by rw [List.mem_singleton.1 he];exact ⟨h3,Nat.lt_of_le_of_lt ht hK⟩
 have e:rf.add x text=(rf.tally (rf.grown x text),rf.puts (rf.tally (rf.grown x text))):=rfl
 have t:rf.tally (rf.grown x text)={ rf.grown x text with commit:=(rf.tally (rf.grown x text)).commit }:=tally_with _
 rw [e]
 refine ⟨?_,?_⟩
 ·dsimp only
  rw [t]
  exact ⟨by show (x.log ++ [(x.term,text)]).length≤M;simp;exact h1,fun h=>absurd (show x.role=1 from h) (by omega),ht,i0,i1,hs,hv⟩
 ·dsimp only
  rw [t]
  exact puts_lim (by show (x.log ++ [(x.term,text)]).length≤M;simp;exact h1) hs ht
theorem voted_lim {x:rf.Node} {k:Nat} (hK:K < 18446744073709551616) (h:NdLim M K x) (hr:x.role=1) (hk:k < 7):BothLim M K (rf.voted x (k:Int)):=by
 unfold rf.voted
 rw [if_pos (by omega)]
 split
 ·unfold rf.lead
  exact add_lim (x:=rf.led { x with votes:=x.votes.set (k:Int).toNat true }) hK h.vote (h.cand hr) h.text (Nat.zero_le _) h.term rfl (Int.le_refl _) (show (0:Int)≤100 by decide)
 ·exact ⟨⟨h.len,h.cand,h.term,h.i0,h.i1,h.text,h.vote⟩,fun _ hm=>by cases hm⟩
theorem asks_lim {x:rf.Node} (h1:x.log.length≤M) (ht:x.term≤K):∀ m ∈ rf.asks x,MsgLim M K m:=by
 intro m hm
 unfold rf.asks at hm
 obtain ⟨j,_,rfl⟩:=List.mem_map.1 hm
 exact ⟨h1,h1,ht,fun _ he=>by cases he⟩
theorem stand_lim {x:rf.Node} (hK:K + 1 < 18446744073709551616) (h:NdLim M K x) (h0:0≤x.id) (h7:x.id < 7):BothLim (M + 1) (K + 1) (rf.stand x):=by
 obtain ⟨k,hk⟩:∃ k:Nat,x.id=(k:Int):=⟨x.id.toNat,by omega⟩
 have hs:NdLim (M + 1) (K + 1) (rf.stood x):=⟨Nat.le_succ_of_le h.len,fun _=>Nat.succ_le_succ h.len,by
  have e:(rf.stood x).term=(x.term + 1) % 18446744073709551616:=rfl
  have:=Nat.mod_le (x.term + 1) 18446744073709551616
  have:=h.term
  omega,Int.le_refl _,(by decide:(0:Int)≤100),h.text,by show -1≤x.id∧x.id≤6;omega⟩
 have hv:=voted_lim hK hs rfl (k:=k) (by omega)
 unfold rf.stand
 rw [hk]
 split
 ·exact hv
 ·refine ⟨hv.1,fun m hm=>?_⟩
  rcases List.mem_append.1 hm with h1 | h1
  ·exact hv.2 m h1
  ·exact asks_lim hv.1.len hv.1.term m h1
theorem tick_lim {x:rf.Node} (hK:K + 1 < 18446744073709551616) (h:NdLim M K x) (h0:0≤x.id) (h7:x.id < 7):BothLim (M + 1) (K + 1) (rf.tick x):=by
 have hm:=h.mono (Nat.le_succ M) (Nat.le_succ K)
 have a:=h.i0
 have b:=h.i1
 unfold rf.tick
 split
 ·split
  ·exact ⟨⟨hm.len,hm.cand,hm.term,Int.le_refl _,(by decide:(0:Int)≤100),hm.text,hm.vote⟩,puts_lim (x:={ x with idle:=0 }) hm.len hm.text hm.term⟩
  ·exact ⟨⟨hm.len,hm.cand,hm.term,by dsimp only;omega,by dsimp only;omega,hm.text,hm.vote⟩,fun _ hx=>by cases hx⟩
 ·split
  ·have hg:=stand_lim (x:={ x with idle:=0 }) hK ⟨h.len,h.cand,h.term,Int.le_refl _,(by decide:(0:Int)≤100),h.text,h.vote⟩ h0 h7
   have e:rf.stand { x with idle:=x.idle + 1 }=rf.stand { x with idle:=0 }:=rfl
   rw [e]
   exact hg
  ·rename_i hlt
   exact ⟨⟨hm.len,hm.cand,hm.term,by dsimp only;omega,by dsimp only;omega,hm.text,hm.vote⟩,fun _ hx=>by cases hx⟩
theorem propose_lim {x:rf.Node} (hK:K < 18446744073709551616) (h:NdLim M K x) {text:List UInt8} (ht:text.length≤100):NdLim (M + 1) K (rf.propose x text).1∧∀ m ∈ (rf.propose x text).2.1,MsgLim (M + 1) K m:=by
 have hm:=h.mono (Nat.le_succ M) (Nat.le_refl K)
 unfold rf.propose
 split
 ·exact ⟨hm,fun _ hx=>by cases hx⟩
 ·split
  ·exact ⟨hm,fun _ hx=>by cases hx⟩
  ·exact add_lim hK h.vote (Nat.succ_le_succ h.len) h.text ht h.term (by omega) h.i0 h.i1
theorem back_lim {x:rf.Node} (h:NdLim M K x) {T:Nat} (hT:T≤K):NdLim M K (rf.back x T):=by
 unfold rf.back
 split
 ·exact ⟨h.len,fun h1=>absurd (show (0:Int)=1 from h1) (by decide),hT,h.i0,h.i1,h.text,(by decide:(-1:Int)≤-1∧(-1:Int)≤6)⟩
 ·exact ⟨h.len,fun h1=>absurd (show (0:Int)=1 from h1) (by decide),h.term,h.i0,h.i1,h.text,h.vote⟩
theorem match_short {l e:Log} (h:Short l) (k:Short e) (p pt:Nat):Short (rl.match_ l p pt e).1:=by
 unfold rl.match_
 split
 ·dsimp only
  split
  ·exact (h.take _).append (k.drop _)
  ·exact h
 ·exact h
theorem match_lim {l e:Log} {p pt:Nat} (h:l.length≤M) (k:p + e.length≤M):(rl.match_ l p pt e).1.length≤M:=by
 have c:=rl.common_le2 (l.drop p) e
 unfold rl.match_
 split
 ·dsimp only
  split
  ·rw [List.length_append,List.length_take,List.length_drop];omega
  ·exact h
 ·exact h
theorem reply_lim {y:rf.Node} {ix:Nat} {b:Bool} {d:Int} {k:Int} (h:ix≤M) (ht:y.term≤K):MsgLim M K (rf.stamp y { rf.msg0 with kind:=k,dst:=d,ok:=b,index:=ix }):=⟨h,h,ht,fun _ he=>by cases he⟩
theorem put_lim {x:rf.Node} {m:rf.Msg} (h:NdLim M K x) (hm:MsgLim M K m):BothLim M K (rf.put x m):=by
 unfold rf.put
 split
 ·exact ⟨h,fun b hb=>by rw [List.mem_singleton.1 hb];exact reply_lim (Nat.zero_le _) h.term⟩
 ·have hz:NdLim M K (rf.taken x m):=by
   have hb:=back_lim h hm.term
   exact ⟨hb.len,hb.cand,hb.term,Int.le_refl _,(by decide:(0:Int)≤100),hb.text,hb.vote⟩
  have hr:(rf.taken x m).role=0:=by
   unfold rf.taken rf.back
   split <;> rfl
  have hl:=match_lim (l:=(rf.taken x m).log) (pt:=m.at_) hz.len hm.end_
  have hs:=match_short hz.text hm.text m.index m.at_
  have ha:rl.match_ (rf.taken x m).log m.index m.at_ m.ents=rl.match_ (rf.taken x m).log m.index m.at_ m.ents:=rfl
  split
  ·rename_i l at_ e
   rw [e] at hl hs
   have hat:at_≤M:=by
    unfold rl.match_ at e
    split at e
    ·injection e with _ e
     injection e with e _
     rw [← e]
     exact hm.end_
    ·injection e with _ e
     injection e with _ e
     cases e
   exact ⟨⟨hl,fun h1=>absurd (show (rf.taken x m).role=1 from h1) (by rw [hr];decide),hz.term,hz.i0,hz.i1,hs,hz.vote⟩,fun b hb=>by rw [List.mem_singleton.1 hb];exact reply_lim hat hz.term⟩
  ·exact ⟨hz,fun b hb=>by rw [List.mem_singleton.1 hb];exact reply_lim hz.len hz.term⟩
theorem heard_lim {x:rf.Node} {m:rf.Msg} (h:NdLim M K x):BothLim M K (rf.heard x m):=by
 have ht:∀ y:rf.Node,y.log=x.log→y.role=x.role→y.term=x.term→y.idle=x.idle→y.vote=x.vote→NdLim M K y:=fun y a b c d ev=>⟨by rw [a];exact h.len,fun hr=>by rw [a];exact h.cand (by rw [← b];exact hr),by rw [c];exact h.term,by rw [d];exact h.i0,by rw [d];exact h.i1,by rw [a];exact h.text,by rw [ev];exact h.vote⟩
 have e:∀ k ix,(rf.tally (rf.heardYes x k ix)).log=x.log∧(rf.tally (rf.heardYes x k ix)).role=x.role∧(rf.tally (rf.heardYes x k ix)).term=x.term∧(rf.tally (rf.heardYes x k ix)).idle=x.idle∧(rf.tally (rf.heardYes x k ix)).vote=x.vote:=fun k ix=>by
  rw [tally_with];exact ⟨rfl,rfl,rfl,rfl,rfl⟩
 unfold rf.heard
 split
 ·split
  ·obtain ⟨e1,e2,e3,e4,e5⟩:=e m.frm.toNat m.index
   split
   ·exact ⟨ht _ e1 e2 e3 e4 e5,fun b hb=>by rw [List.mem_singleton.1 hb];exact putMsg_lim (by rw [e1];exact h.len) (by rw [e1];exact h.text) h.term _⟩
   ·exact ⟨ht _ e1 e2 e3 e4 e5,fun _ hx=>by cases hx⟩
  ·exact ⟨ht _ rfl rfl rfl rfl rfl,fun b hb=>by rw [List.mem_singleton.1 hb];exact putMsg_lim (x:=rf.heardNo x m.frm.toNat m.index) h.len h.text h.term _⟩
 ·exact ⟨h,fun _ hx=>by cases hx⟩
theorem step_lim {x:rf.Node} {m:rf.Msg} (hK:K < 18446744073709551616) (h:NdLim M K x) (hm:MsgLim M K m):BothLim M K (rf.step x m):=by
 have hf:NdLim M K (rf.fresh x m):=by
  unfold rf.fresh
  split
  ·exact back_lim h hm.term
  ·exact h
 unfold rf.step
 split
 ·rename_i hmeant
  obtain ⟨f0,f7⟩:=meant_frm hmeant
  split
  ·unfold rf.ask
   split
   ·exact ⟨⟨hf.len,hf.cand,hf.term,Int.le_refl _,(by decide:(0:Int)≤100),hf.text,by show -1≤m.frm∧m.frm≤6;omega⟩,fun b hb=>by rw [List.mem_singleton.1 hb];exact ⟨Nat.zero_le _,Nat.zero_le _,hf.term,fun _ he=>by cases he⟩⟩
   ·exact ⟨hf,fun b hb=>by rw [List.mem_singleton.1 hb];exact ⟨Nat.zero_le _,Nat.zero_le _,hf.term,fun _ he=>by cases he⟩⟩
  ·split
   ·unfold rf.vote
    split
    ·rename_i hv
     obtain ⟨k,hk⟩:∃ k:Nat,m.frm=(k:Int):=⟨m.frm.toNat,by omega⟩
     rw [hk]
     exact voted_lim hK hf hv.1 (by omega)
    ·exact ⟨hf,fun _ hx=>by cases hx⟩
   ·split
    ·exact put_lim hf hm
    ·exact heard_lim hf
 ·exact ⟨h,fun _ hx=>by cases hx⟩
end
end cl
end Go.Proofs.YtmcibggjolckoaaGreatDoor
namespace Go.Proofs.YtmcibggjolckoaaGreatDoor
namespace cl
open rl (Ent e0)
set_option maxRecDepth 100000
structure Nd where
 s:St
 up:Bool
 x:rf.Node
structure Clu where
 n:Nat
 p:Nat→Nd
 way:List rf.Msg
def Clu.sts (C:Clu):Nat→St:=fun i=>(C.p i).s
def last (l:List rf.Msg):List rf.Msg:=l.drop (l.length - 200)
def changed (C:Clu) (i:Nat) (x:rf.Node) (out:List rf.Msg):Clu:={ C with p:=upd C.p i ⟨stOf x,true,x⟩,way:=last (C.way ++ out) }
def fallen (C:Clu) (i:Nat) (s:St) (z:rf.Node):Clu:={ C with p:=upd C.p i ⟨s,false,z⟩ }
def started (C:Clu) (i:Nat):Clu:={ C with p:=upd C.p i ⟨(C.p i).s,true,rf.new (i:Int) (C.n:Int) (C.p i).s.t (C.p i).s.v (C.p i).s.l⟩ }
structure Inv (C:Clu) (g:Gh):Prop where
 core:Core C.n C.sts g
 up:∀ i,i < C.n→(C.p i).up=true→UpOk C.n C.sts g i (C.p i).x
 way:∀ m ∈ C.way,MsgOk C.n C.sts g m
structure Lim (M K:Nat) (C:Clu):Prop where
 st:∀ i,i < C.n→(C.p i).s.l.length≤M∧(C.p i).s.t≤K∧Short (C.p i).s.l∧-1≤(C.p i).s.v∧(C.p i).s.v≤6
 up:∀ i,i < C.n→(C.p i).up=true→NdLim M K (C.p i).x
 way:∀ m ∈ C.way,MsgLim M K m
theorem Lim.mono {M K M' K':Nat} {C:Clu} (h:Lim M K C) (hM:M≤M') (hK:K≤K'):Lim M' K' C:=
 ⟨fun i hi=>⟨Nat.le_trans (h.st i hi).1 hM,Nat.le_trans (h.st i hi).2.1 hK,(h.st i hi).2.2⟩,fun i hi hu=>(h.up i hi hu).mono hM hK,fun m hm=>(h.way m hm).mono hM hK⟩
def Onward (C C':Clu):Prop:=C'.n=C.n∧∀ g,Inv C g→∃ g',Inv C' g'∧Le C.sts g C'.sts g'
theorem sts_upd (C:Clu) (i:Nat) (d:Nd):(fun j=>(upd C.p i d j).s)=upd C.sts i d.s:=by
 funext j
 by_cases hj:j=i
 ·subst hj;rw [upd_same,upd_same]
 ·rw [upd_other _ _ hj,upd_other _ _ hj];rfl
theorem mem_last {l:List rf.Msg} {m:rf.Msg} (h:m ∈ last l):m ∈ l:=by
 unfold last at h
 exact List.mem_of_mem_drop h
theorem inv_changed {C:Clu} {g g':Gh} {i:Nat} {x:rf.Node} {out:List rf.Msg} (h:Inv C g) (hg:Goes C.n C.sts g i x out g'):Inv (changed C i x out) g':=by
 have e:(changed C i x out).sts=upd C.sts i (stOf x):=sts_upd C i _
 refine ⟨by rw [e];exact hg.core,fun j hj hu=>?_,fun m hm=>?_⟩
 ·rw [e]
  by_cases hji:j=i
  ·subst hji
   have e2:((changed C j x out).p j).x=x:=by show (upd C.p j _ j).x=x;rw [upd_same]
   rw [e2]
   exact hg.up
  ·have e2:(changed C i x out).p j=C.p j:=upd_other _ _ hji
   rw [e2] at hu ⊢
   exact (h.up j hj hu).other hji hg
 ·rw [e]
  have hm2:m ∈ last (C.way ++ out):=by
   unfold changed at hm
   exact hm
  have hm3:=mem_last hm2
  rcases List.mem_append.1 hm3 with h1 | h1
  ·exact (h.way m h1).later hg.le
  ·exact hg.out m h1
theorem inv_fallen {C:Clu} {g:Gh} {i:Nat} (h:Inv C g) (z:rf.Node):Inv (fallen C i (C.p i).s z) g:=by
 have e:(fallen C i (C.p i).s z).sts=C.sts:=by
  have h1:(fallen C i (C.p i).s z).sts=upd C.sts i (C.p i).s:=sts_upd C i _
  rw [h1]
  exact upd_id i _ rfl
 refine ⟨by rw [e];exact h.core,fun j hj hu=>?_,fun m hm=>by rw [e];exact h.way m hm⟩
 rw [e]
 by_cases hji:j=i
 ·subst hji
  have e2:((fallen C j (C.p j).s z).p j).up=false:=by show (upd C.p j _ j).up=false;rw [upd_same]
  rw [e2] at hu
  cases hu
 ·have e2:(fallen C i (C.p i).s z).p j=C.p j:=upd_other _ _ hji
  rw [e2] at hu ⊢
  exact h.up j hj hu
theorem inv_cut {C:Clu} {g g':Gh} {i:Nat} {x:rf.Node} {out:List rf.Msg} (h:Inv C g) (hg:Goes C.n C.sts g i x out g') (z:rf.Node):Inv (fallen C i (stOf x) z) g':=by
 have e:(fallen C i (stOf x) z).sts=upd C.sts i (stOf x):=sts_upd C i _
 refine ⟨by rw [e];exact hg.core,fun j hj hu=>?_,fun m hm=>by rw [e];exact (h.way m hm).later hg.le⟩
 rw [e]
 by_cases hji:j=i
 ·subst hji
  have e2:((fallen C j (stOf x) z).p j).up=false:=by show (upd C.p j _ j).up=false;rw [upd_same]
  rw [e2] at hu
  cases hu
 ·have e2:(fallen C i (stOf x) z).p j=C.p j:=upd_other _ _ hji
  rw [e2] at hu ⊢
  exact (h.up j hj hu).other hji hg
inductive After (C:Clu) (i:Nat) (x:rf.Node) (out:List rf.Msg):Clu→Prop
 | ok:After C i x out (changed C i x out)
 | old (z:rf.Node):After C i x out (fallen C i (C.p i).s z)
 | new (z:rf.Node):After C i x out (fallen C i (stOf x) z)
theorem After.inv {C C':Clu} {g g':Gh} {i:Nat} {x:rf.Node} {out:List rf.Msg} (h:After C i x out C') (hI:Inv C g) (hG:Goes C.n C.sts g i x out g'):∃ g2,Inv C' g2∧Le C.sts g C'.sts g2:=by
 cases h with
 | ok=>exact ⟨g',inv_changed hI hG,by rw [show (changed C i x out).sts=_ from sts_upd C i _];exact hG.le⟩
 | old z=>exact ⟨g,inv_fallen hI z,by
   rw [show (fallen C i (C.p i).s z).sts=upd C.sts i (C.p i).s from sts_upd C i _,upd_id i (C.p i).s rfl]
   exact Le.refl _ _⟩
 | new z=>exact ⟨g',inv_cut hI hG z,by rw [show (fallen C i (stOf x) z).sts=_ from sts_upd C i _];exact hG.le⟩
theorem After.n {C C':Clu} {i:Nat} {x:rf.Node} {out:List rf.Msg} (h:After C i x out C'):C'.n=C.n:=by cases h <;> rfl
theorem After.onward {C C':Clu} {i:Nat} {x:rf.Node} {out:List rf.Msg} (h:After C i x out C') (hg:∀ g,Inv C g→∃ g',Goes C.n C.sts g i x out g'):Onward C C':=
 ⟨h.n,fun g hI=>by
  obtain ⟨g',hG⟩:=hg g hI
  exact h.inv hI hG⟩
theorem After.lim {C C':Clu} {M K M' K' i:Nat} {r:rf.Node × List rf.Msg} (h:After C i r.1 r.2 C') (hL:Lim M K C) (hM:M≤M') (hK:K≤K') (hb:BothLim M' K' r):Lim M' K' C':=by
 have hL2:=hL.mono hM hK
 have hst:(stOf r.1).l.length≤M'∧(stOf r.1).t≤K'∧Short (stOf r.1).l∧-1≤(stOf r.1).v∧(stOf r.1).v≤6:=⟨hb.1.len,hb.1.term,hb.1.text,hb.1.vote⟩
 cases h with
 | ok=>
  refine ⟨fun j hj=>?_,fun j hj hu=>?_,fun m hm=>?_⟩
  ·by_cases hji:j=i
   ·subst hji
    rw [show (changed C j r.1 r.2).p j=⟨stOf r.1,true,r.1⟩ from upd_same _ _ _]
    exact hst
   ·rw [show (changed C i r.1 r.2).p j=C.p j from upd_other _ _ hji]
    exact hL2.st j hj
  ·by_cases hji:j=i
   ·subst hji
    rw [show (changed C j r.1 r.2).p j=⟨stOf r.1,true,r.1⟩ from upd_same _ _ _]
    exact hb.1
   ·have e2:(changed C i r.1 r.2).p j=C.p j:=upd_other _ _ hji
    rw [e2] at hu ⊢
    exact hL2.up j hj hu
  ·have hm2:m ∈ last (C.way ++ r.2):=hm
   have hm3:=mem_last hm2
   rcases List.mem_append.1 hm3 with h1 | h1
   ·exact hL2.way m h1
   ·exact hb.2 m h1
 | old z=>
  refine ⟨fun j hj=>?_,fun j hj hu=>?_,hL2.way⟩
  ·by_cases hji:j=i
   ·subst hji
    rw [show (fallen C j (C.p j).s z).p j=⟨(C.p j).s,false,z⟩ from upd_same _ _ _]
    exact hL2.st j hj
   ·rw [show (fallen C i (C.p i).s z).p j=C.p j from upd_other _ _ hji]
    exact hL2.st j hj
  ·by_cases hji:j=i
   ·subst hji
    rw [show (fallen C j (C.p j).s z).p j=⟨(C.p j).s,false,z⟩ from upd_same _ _ _] at hu
    cases hu
   ·have e2:(fallen C i (C.p i).s z).p j=C.p j:=upd_other _ _ hji
    rw [e2] at hu ⊢
    exact hL2.up j hj hu
 | new z=>
  refine ⟨fun j hj=>?_,fun j hj hu=>?_,hL2.way⟩
  ·by_cases hji:j=i
   ·subst hji
    rw [show (fallen C j (stOf r.1) z).p j=⟨stOf r.1,false,z⟩ from upd_same _ _ _]
    exact hst
   ·rw [show (fallen C i (stOf r.1) z).p j=C.p j from upd_other _ _ hji]
    exact hL2.st j hj
  ·by_cases hji:j=i
   ·subst hji
    rw [show (fallen C j (stOf r.1) z).p j=⟨stOf r.1,false,z⟩ from upd_same _ _ _] at hu
    cases hu
   ·have e2:(fallen C i (stOf r.1) z).p j=C.p j:=upd_other _ _ hji
    rw [e2] at hu ⊢
    exact hL2.up j hj hu
theorem lim_way {C:Clu} {M K:Nat} {w:List rf.Msg} (h:Lim M K C) (hw:∀ m ∈ w,m ∈ C.way):Lim M K { C with way:=w }:=⟨h.st,h.up,fun m hm=>h.way m (hw m hm)⟩
theorem lim_start {C:Clu} {M K i:Nat} (h:Lim M K C) (hi:i < C.n):Lim M K (started C i):=by
 have e:∀ j,((started C i).p j).s=(C.p j).s:=fun j=>by
  by_cases hji:j=i
  ·subst hji
   rw [show (started C j).p j=_ from upd_same _ _ _]
  ·rw [show (started C i).p j=C.p j from upd_other _ _ hji]
 refine ⟨fun j hj=>by rw [e];exact h.st j hj,fun j hj hu=>?_,h.way⟩
 by_cases hji:j=i
 ·subst hji
  rw [show ((started C j).p j).x=rf.new (j:Int) (C.n:Int) (C.p j).s.t (C.p j).s.v (C.p j).s.l from by rw [show (started C j).p j=_ from upd_same _ _ _]]
  have q:=h.st j hj
  exact ⟨q.1,fun h1=>absurd (show (0:Int)=1 from h1) (by decide),q.2.1,Int.le_refl _,(by decide:(0:Int)≤100),q.2.2.1,q.2.2.2⟩
 ·have e2:(started C i).p j=C.p j:=upd_other _ _ hji
  rw [e2] at hu ⊢
  exact h.up j hj hu
theorem lim_fall {C:Clu} {M K i:Nat} (h:Lim M K C) (z:rf.Node):Lim M K (fallen C i (C.p i).s z):=by
 refine ⟨fun j hj=>?_,fun j hj hu=>?_,h.way⟩
 ·by_cases hji:j=i
  ·subst hji
   rw [show (fallen C j (C.p j).s z).p j=⟨(C.p j).s,false,z⟩ from upd_same _ _ _]
   exact h.st j hj
  ·rw [show (fallen C i (C.p i).s z).p j=C.p j from upd_other _ _ hji]
   exact h.st j hj
 ·by_cases hji:j=i
  ·subst hji
   rw [show (fallen C j (C.p j).s z).p j=⟨(C.p j).s,false,z⟩ from upd_same _ _ _] at hu
   cases hu
  ·have e2:(fallen C i (C.p i).s z).p j=C.p j:=upd_other _ _ hji
   rw [e2] at hu ⊢
   exact h.up j hj hu
theorem onward_tick {C C':Clu} {M K i:Nat} (hL:Lim M K C) (hK:K + 1 < 18446744073709551616) (h7:C.n≤7) (hi:i < C.n) (hu:(C.p i).up=true) (h:After C i (rf.tick (C.p i).x).1 (rf.tick (C.p i).x).2 C'):Onward C C':=
 h.onward fun g hI=>goes_tick hI.core hi h7 (hI.up i hi hu) (by have:=(hL.up i hi hu).term;omega)
theorem onward_propose {C C':Clu} {i:Nat} {text:List UInt8} (h7:C.n≤7) (hi:i < C.n) (hu:(C.p i).up=true) (h:After C i (rf.propose (C.p i).x text).1 (rf.propose (C.p i).x text).2.1 C'):Onward C C':=
 h.onward fun _ hI=>goes_propose hI.core hi h7 (hI.up i hi hu) text
theorem onward_way {C:Clu} {w:List rf.Msg} (hw:∀ m ∈ w,m ∈ C.way):Onward C { C with way:=w }:=⟨rfl,fun g h=>⟨g,⟨h.core,h.up,fun m hm=>h.way m (hw m hm)⟩,Le.refl _ _⟩⟩
theorem onward_step {C C':Clu} {i:Nat} {m:rf.Msg} {w:List rf.Msg} (h7:C.n≤7) (hi:i < C.n) (hu:(C.p i).up=true) (hm:m ∈ C.way) (hw:∀ m ∈ w,m ∈ C.way) (h:After { C with way:=w } i (rf.step (C.p i).x m).1 (rf.step (C.p i).x m).2 C'):Onward C C':=by
 refine ⟨h.n,fun g hI=>?_⟩
 have hI2:Inv { C with way:=w } g:=⟨hI.core,hI.up,fun m hm=>hI.way m (hw m hm)⟩
 obtain ⟨g',hG⟩:=goes_step hI.core hi h7 (hI.up i hi hu) (hI.way m hm)
 exact h.inv hI2 hG
theorem onward_fall {C:Clu} {i:Nat} (z:rf.Node):Onward C (fallen C i (C.p i).s z):=by
 refine ⟨rfl,fun g hI=>⟨g,inv_fallen hI z,?_⟩⟩
 rw [show (fallen C i (C.p i).s z).sts=upd C.sts i (C.p i).s from sts_upd C i _,upd_id i (C.p i).s rfl]
 exact Le.refl _ _
theorem started_sts (C:Clu) (i:Nat):(started C i).sts=C.sts:=by
 have h1:(started C i).sts=upd C.sts i (C.p i).s:=sts_upd C i _
 rw [h1]
 exact upd_id i _ rfl
theorem onward_start {C:Clu} {i:Nat}:Onward C (started C i):=by
 have e:=started_sts C i
 refine ⟨rfl,fun g hI=>⟨g,⟨by rw [e];exact hI.core,fun j hj hu=>?_,fun m hm=>by rw [e];exact hI.way m hm⟩,by rw [e];exact Le.refl _ _⟩⟩
 rw [e]
 by_cases hji:j=i
 ·subst hji
  have e2:((started C j).p j).x=rf.new (j:Int) (C.n:Int) (C.p j).s.t (C.p j).s.v (C.p j).s.l:=by show (upd C.p j _ j).x=_;rw [upd_same]
  rw [e2]
  refine ⟨rfl,rfl,rfl,fun h=>absurd (show (0:Int)=1 from h) (by decide),fun h=>absurd (show (0:Int)=2 from h) (by decide),.inl rfl,⟨?_,?_⟩⟩
  ·show (List.replicate 7 false).length=7;rfl
  ·show (List.replicate 7 0).length=7;rfl
 ·have e2:(started C i).p j=C.p j:=upd_other _ _ hji
  rw [e2] at hu ⊢
  exact hI.up j hj hu
def fresh (n:Nat):Clu:=⟨n,fun i=>⟨⟨0,-1,[]⟩,true,rf.new (i:Int) (n:Int) 0 (-1) []⟩,[]⟩
def gh0:Gh:=⟨fun _=>[],fun _=>none,fun _ _=>none,fun _ _=>[],fun _ _=>0⟩
theorem inv_fresh (n:Nat):Inv (fresh n) gh0:=by
 have nof:∀ l:Log,l=[]→Fits gh0 l:=fun l hl k hk=>by rw [hl] at hk;exact absurd hk (Nat.not_lt_zero _)
 have noo:∀ {t k:Nat},¬ Own gh0 t k:=fun h=>by
  have h1:=h.1
  have h2:_≤0:=h.2.1
  omega
 refine ⟨⟨fun h=>(by cases h),fun h=>(by cases h),fun _ h=>absurd rfl h,fun h=>(by cases h),fun _=>rfl,fun _=>nof _ rfl,fun _ k hk=>absurd hk (Nat.not_lt_zero _),fun _=>nof _ rfl,fun _ k hk=>absurd hk (Nat.not_lt_zero _),fun h=>absurd h (Nat.not_lt_zero _),fun _ _=>Nat.zero_le _,fun _ ho _=>absurd ho noo,fun _ _ ho=>absurd ho noo,fun h=>(by cases h),fun _=>Ag.zero _ _⟩,fun i _ _=>⟨rfl,rfl,rfl,fun h=>absurd (show (0:Int)=1 from h) (by decide),fun h=>absurd (show (0:Int)=2 from h) (by decide),.inl rfl,⟨?_,?_⟩⟩,fun m hm=>by cases hm⟩
 ·show (List.replicate 7 false).length=7;rfl
 ·show (List.replicate 7 0).length=7;rfl
theorem led_by {C:Clu} {g:Gh} (h:Inv C g) {i:Nat} (hi:i < C.n) (hu:(C.p i).up=true) (hr:(C.p i).x.role=2):g.lead (C.p i).x.term=some i:=((h.up i hi hu).r2 hr).1
theorem logs_same {C:Clu} {g:Gh} (h:Inv C g) {a b k:Nat} (ha:a < C.n) (hb:b < C.n) (h1:k < (C.p a).s.l.length) (h2:k < (C.p b).s.l.length) (ht:tm (C.p a).s.l k=tm (C.p b).s.l k):Ag (C.p a).s.l (C.p b).s.l (k + 1):=
 fits_same (h.core.fitS ha) (h.core.fitS hb) h1 h2 ht
def Done (n:Nat) (g:Gh) (l:Log):Prop:=l=[]∨∃ t k,Chosen n g t k∧l.length≤k∧Ag (g.L t) l l.length
theorem Done.later {n:Nat} {s s':Nat→St} {g g':Gh} {l:Log} (h:Done n g l) (hl:Le s g s' g'):Done n g' l:=by
 rcases h with h | ⟨t,k,h1,h2,h3⟩
 ·exact .inl h
 ·exact .inr ⟨t,k,h1.later hl,h2,h3.grow (hl.L t)⟩
theorem done_of {C:Clu} {g:Gh} (h:Inv C g) {i:Nat} (hi:i < C.n) (hu:(C.p i).up=true):(C.p i).x.commit≤(C.p i).x.log.length∧Done C.n g ((C.p i).x.log.take (C.p i).x.commit):=by
 have hc:=(h.up i hi hu).com
 refine ⟨hc.len,?_⟩
 rcases hc with h0 | ⟨t,k,_,h2,h3,h4⟩
 ·left;rw [h0];rfl
 ·have hlen:((C.p i).x.log.take (C.p i).x.commit).length=(C.p i).x.commit:=by rw [List.length_take];have:=h4.2.1;omega
  exact .inr ⟨t,k,h2,by rw [hlen];exact h3,by rw [hlen];exact h4.trans (ag_take _ _ h4.2.1).symm⟩
theorem chosen_pair {C:Clu} {g:Gh} (h:Inv C g) {t t' k k':Nat} (h1:Chosen C.n g t k) (h2:Chosen C.n g t' k') (ht:t≤t'):Ag (g.L t) (g.L t') k:=by
 by_cases he:t=t'
 ·subst he;exact Ag.refl _ h1.1.2.1
 ·have hl:g.lead t' ≠ none:=by
   intro hn
   have:=h.core.ldn hn
   have h3:=h2.1.2.1
   have h4:=h2.1.1
   rw [this] at h3
   simp at h3
   omega
  rcases h.core.safe (by omega) hl h1.1 with h3 | h3
  ·exact h3
  ·exact (not_both h1 h3).elim
theorem done_same {C:Clu} {g:Gh} (h:Inv C g) {a b:Log} (ha:Done C.n g a) (hb:Done C.n g b):∀ j,j < a.length→j < b.length→a[j]?=b[j]?:=by
 intro j h1 h2
 rcases ha with rfl | ⟨t,k,c1,k1,a1⟩
 ·exact absurd h1 (Nat.not_lt_zero _)
 ·rcases hb with rfl | ⟨t',k',c2,k2,a2⟩
  ·exact absurd h2 (Nat.not_lt_zero _)
  ·rcases Nat.le_total t t' with ht | ht
   ·have e:=chosen_pair h c1 c2 ht
    exact ((a1.2.2 j h1).symm.trans (e.2.2 j (by omega))).trans (a2.2.2 j h2)
   ·have e:=chosen_pair h c2 c1 ht
    exact ((a1.2.2 j h1).symm.trans (e.2.2 j (by omega)).symm).trans (a2.2.2 j h2)
end cl
end Go.Proofs.YtmcibggjolckoaaGreatDoor
