/- LvStep, LvRun, LvFlow: one behind the other. -/
import Derived.Test.YtmcibggjolckoaaGreatDoorGm19
namespace Go.Proofs.YtmcibggjolckoaaGreatDoor
namespace cl
open rl (Ent e0)
set_option maxRecDepth 100000
theorem fresh_le {x:rf.Node} {m:rf.Msg} (h:m.term≤x.term):rf.fresh x m=x:=by
 unfold rf.fresh
 rw [if_neg (by omega)]
theorem fresh_lt {x:rf.Node} {m:rf.Msg} (h:x.term < m.term):rf.fresh x m={ x with role:=0,lead:=-1,term:=m.term,vote:=-1 }:=by
 unfold rf.fresh rf.back
 rw [if_pos h,if_pos h]
theorem fresh_term (x:rf.Node) (m:rf.Msg):(rf.fresh x m).term=max x.term m.term:=by
 by_cases h:x.term < m.term
 ·rw [fresh_lt h];show m.term=_;omega
 ·rw [fresh_le (by omega)];omega
theorem fresh_keep (x:rf.Node) (m:rf.Msg):(rf.fresh x m).id=x.id∧(rf.fresh x m).many=x.many∧(rf.fresh x m).log=x.log∧(rf.fresh x m).idle=x.idle∧(rf.fresh x m).next=x.next∧(rf.fresh x m).mat=x.mat∧(rf.fresh x m).votes=x.votes∧(rf.fresh x m).commit=x.commit:=by
 by_cases h:x.term < m.term
 ·rw [fresh_lt h];exact ⟨rfl,rfl,rfl,rfl,rfl,rfl,rfl,rfl⟩
 ·rw [fresh_le (by omega)];exact ⟨rfl,rfl,rfl,rfl,rfl,rfl,rfl,rfl⟩
def follow (x:rf.Node) (m:rf.Msg):rf.Node:={ x with role:=0,lead:=m.frm,idle:=0 }
theorem put_low {x:rf.Node} {m:rf.Msg} (h:m.term < x.term):rf.put x m=(x,[rf.stamp x { rf.msg0 with kind:=4,dst:=m.frm }]):=by
 unfold rf.put
 rw [if_pos h]
theorem taken_eq {x:rf.Node} {m:rf.Msg} (h:m.term=x.term):rf.taken x m=follow x m:=by
 unfold rf.taken rf.back follow
 rw [if_neg (by omega)]
theorem put_yes {x:rf.Node} {m:rf.Msg} (h:m.term=x.term) (hm:rl.termAt x.log m.index=(m.at_,true)) :
  rf.put x m=({ follow x m with log:=(rl.match_ x.log m.index m.at_ m.ents).1,commit:=max x.commit (min m.commit (m.index + m.ents.length)) },[rf.stamp x { rf.msg0 with kind:=4,dst:=m.frm,ok:=true,index:=m.index + m.ents.length }]):=by
 have e:rl.match_ x.log m.index m.at_ m.ents=((rl.match_ x.log m.index m.at_ m.ents).1,m.index + m.ents.length,0):=by
  unfold rl.match_
  rw [if_pos hm]
 unfold rf.put
 rw [if_neg (by omega),taken_eq h]
 have e2:(follow x m).log=x.log:=rfl
 rw [e2]
 split
 ·rename_i l at_ e3
  rw [e] at e3
  injection e3 with e4 e5
  injection e5 with e5 _
  subst e4 e5
  rfl
 ·rename_i hne
  exact absurd e (hne _ _)
theorem put_no {x:rf.Node} {m:rf.Msg} (h:m.term=x.term) (hm:rl.termAt x.log m.index ≠ (m.at_,true)) :
  rf.put x m=(follow x m,[rf.stamp x { rf.msg0 with kind:=4,dst:=m.frm,index:=x.log.length }]):=by
 have e:rl.match_ x.log m.index m.at_ m.ents=(x.log,0,3):=by
  unfold rl.match_
  rw [if_neg hm]
 unfold rf.put
 rw [if_neg (by omega),taken_eq h]
 have e2:(follow x m).log=x.log:=rfl
 rw [e2]
 split
 ·rename_i l at_ e3
  rw [e] at e3
  injection e3 with _ e5
  injection e5 with _ e6
  cases e6
 ·rfl
structure Nx (x:rf.Node):Prop where
 n7:x.next.length=7
 i0:0≤x.idle
 i1:x.role ≠ 2→x.idle < 10 + 3 * x.id
 i2:x.role=2→x.idle≤2
 id0:0≤x.id
theorem Nx.lt {x:rf.Node} (h:Nx x):x.idle < 10 + 3 * x.id:=by
 by_cases hr:x.role=2
 ·have:=h.i2 hr;have:=h.id0;omega
 ·exact h.i1 hr
theorem Nx.with {x y:rf.Node} (h:Nx x) (e1:y.next.length=x.next.length) (e2:y.id=x.id) (e3:y.idle=x.idle∨y.idle=0) (e4:y.role=2→x.role=2∨y.idle=0):Nx y:=by
 have hl:=h.lt
 have h0:=h.id0
 refine ⟨e1.trans h.n7,?_,fun _=>?_,fun hr=>?_,by rw [e2];exact h0⟩
 ·rcases e3 with e | e <;> rw [e]
  ·exact h.i0
  ·exact Int.le_refl _
 ·rw [e2]
  rcases e3 with e | e <;> rw [e] <;> omega
 ·rcases e4 hr with e | e
  ·rcases e3 with e' | e' <;> rw [e']
   ·exact h.i2 e
   ·decide
  ·rw [e];decide
theorem add_parts (x:rf.Node) (t:List UInt8):(rf.add x t).1.id=x.id∧(rf.add x t).1.many=x.many∧(rf.add x t).1.role=x.role∧(rf.add x t).1.term=x.term∧(rf.add x t).1.idle=x.idle∧(rf.add x t).1.vote=x.vote∧(rf.add x t).1.log=x.log ++ [(x.term,t)]∧(rf.add x t).1.next=x.next.set x.id.toNat (x.log.length + 1 + 1)∧(rf.add x t).1.mat=x.mat.set x.id.toNat (x.log.length + 1)∧(rf.add x t).1.lead=x.lead:=by
 unfold rf.add
 dsimp only
 rw [tally_with]
 exact ⟨rfl,rfl,rfl,rfl,rfl,rfl,rfl,rfl,rfl,rfl⟩
theorem add_out (x:rf.Node) (t:List UInt8):(rf.add x t).2=rf.puts (rf.add x t).1:=rfl
theorem puts_mem {x:rf.Node} {o:rf.Msg} (h:o ∈ rf.puts x):∃ j,j < rf.size x∧(j:Int) ≠ x.id∧o=rf.stamp x (rf.putMsg x j):=by
 unfold rf.puts at h
 obtain ⟨j,hj,rfl⟩:=List.mem_map.1 h
 unfold rf.others at hj
 obtain ⟨h1,h2⟩:=List.mem_filter.1 hj
 exact ⟨j,List.mem_range.1 h1,by simpa using h2,rfl⟩
theorem mem_puts {x:rf.Node} {j:Nat} (h:j < rf.size x) (hj:(j:Int) ≠ x.id):rf.stamp x (rf.putMsg x j) ∈ rf.puts x:=by
 unfold rf.puts rf.others
 exact List.mem_map.2 ⟨j,List.mem_filter.2 ⟨List.mem_range.2 h,by simpa using hj⟩,rfl⟩
theorem others_len (x:rf.Node) {i:Nat} (hi:x.id=(i:Int)) (h:i < rf.size x):(rf.others x).length + 1=rf.size x:=by
 unfold rf.others
 rw [hi]
 have key:∀ n,i < n→((List.range n).filter fun j:Nat=>(j:Int) != (i:Int)).length + 1=n:=by
  intro n hn
  induction n with
  | zero=>omega
  | succ n ih=>
   rw [List.range_succ,List.filter_append,List.length_append]
   by_cases h2:i < n
   ·have ih:=ih h2
    have e:([n].filter fun j:Nat=>(j:Int) != (i:Int))=[n]:=by
     rw [List.filter_cons,if_pos (by simp;omega)];rfl
    rw [e]
    simp only [List.length_cons,List.length_nil]
    omega
   ·have:i=n:=by omega
    subst this
    have e:([i].filter fun j:Nat=>(j:Int) != (i:Int))=[]:=by
     rw [List.filter_cons,if_neg (by simp)];rfl
    have e2:((List.range i).filter fun j:Nat=>(j:Int) != (i:Int))=List.range i:=by
     rw [List.filter_eq_self]
     intro a ha
     have:=List.mem_range.1 ha
     simp
     omega
    rw [e,e2]
    simp
 exact key _ h
theorem lead_parts (x:rf.Node):(rf.lead x).1.id=x.id∧(rf.lead x).1.many=x.many∧(rf.lead x).1.role=2∧(rf.lead x).1.term=x.term∧(rf.lead x).1.idle=0∧(rf.lead x).1.vote=x.vote∧(rf.lead x).1.log=x.log ++ [(x.term,[])]∧(rf.lead x).2=rf.puts (rf.lead x).1∧(rf.lead x).1.next.length=7:=by
 unfold rf.lead
 obtain ⟨a1,a2,a3,a4,a5,a6,a7,a8,a9,_⟩:=add_parts (rf.led x) []
 refine ⟨a1,a2,a3,a4,a5,a6,a7,add_out _ _,?_⟩
 rw [a8,List.length_set]
 show (List.replicate 7 _).length=7
 exact List.length_replicate
structure Stp (x:rf.Node) (m:rf.Msg) (y:rf.Node) (out:List rf.Msg):Prop where
 id:y.id=x.id
 many:y.many=x.many
 t1:x.term≤y.term
 t2:y.term≤max x.term m.term
 outs:∀ o ∈ out,o.frm=x.id∧o.term=y.term∧(o.kind=2∧m.kind=1∧(o.ok=true→m.term=y.term)∨o.kind=3∧y.role=2∧(m.kind=2∨m.kind=4)∨o.kind=4∧m.kind=3)
 one:m.kind ≠ 2→out.length≤1
 two:y.role ≠ 2∨x.role=2→out.length≤1
 role2:y.role=2→y.term=x.term∧(x.role=2∨x.role=1∧m.kind=2∧m.ok=true∧m.term=x.term∧y.idle=0)
 role1:y.role=1→x.role=1∧y.term=x.term
 low:m.term < x.term→y=x∧∀ o ∈ out,o.ok=false∧o.kind ≠ 3
 nx:Nx x→Nx y
 idle:y.idle=x.idle∨y.idle=0
theorem step_of {x:rf.Node} {m:rf.Msg} (h:rf.meant x m=true):rf.step x m=(if m.kind=1 then rf.ask (rf.fresh x m) m else if m.kind=2 then rf.vote (rf.fresh x m) m else if m.kind=3 then rf.put (rf.fresh x m) m else rf.heard (rf.fresh x m) m):=by
 unfold rf.step
 rw [if_pos h]
theorem meant_kind {x:rf.Node} {m:rf.Msg} (h:rf.meant x m=true):m.dst=x.id∧0≤m.frm∧m.frm < min x.many 7∧m.frm ≠ x.id∧1≤m.kind∧m.kind≤4:=by
 unfold rf.meant at h
 simp only [Bool.and_eq_true,decide_eq_true_eq] at h
 obtain ⟨⟨⟨⟨⟨m1,m2⟩,m3⟩,m4⟩,m5⟩,m6⟩:=h
 exact ⟨m1,m2,m3,m4,m5,m6⟩
theorem tally_same (x:rf.Node):(rf.tally x).id=x.id∧(rf.tally x).many=x.many∧(rf.tally x).term=x.term∧(rf.tally x).role=x.role∧(rf.tally x).idle=x.idle∧(rf.tally x).next=x.next∧(rf.tally x).mat=x.mat∧(rf.tally x).log=x.log∧(rf.tally x).vote=x.vote:=by
 rw [tally_with]
 exact ⟨rfl,rfl,rfl,rfl,rfl,rfl,rfl,rfl,rfl⟩
theorem askOk_term {x:rf.Node} {m:rf.Msg} (h:rf.askOk x m=true):m.term=x.term:=by
 unfold rf.askOk at h
 simp only [Bool.and_eq_true,decide_eq_true_eq] at h
 exact h.1.1
theorem stp_ask {x:rf.Node} {m:rf.Msg} (k1:m.kind=1):Stp x m (rf.ask x m).1 (rf.ask x m).2:=by
 unfold rf.ask
 by_cases ha:rf.askOk x m=true
 ·rw [if_pos ha]
  have hmt:=askOk_term ha
  refine ⟨rfl,rfl,Nat.le_refl _,Nat.le_max_left _ _,fun o ho=>?_,fun _=>Nat.le_refl _,fun _=>Nat.le_refl _,fun h=>⟨rfl,.inl h⟩,fun h=>⟨h,rfl⟩,fun h=>(by omega),fun h=>h.with rfl rfl (.inr rfl) fun hr=>.inl hr,.inr rfl⟩
  rw [List.mem_singleton.1 ho]
  exact ⟨rfl,rfl,.inl ⟨rfl,k1,fun _=>hmt⟩⟩
 ·rw [if_neg ha]
  refine ⟨rfl,rfl,Nat.le_refl _,Nat.le_max_left _ _,fun o ho=>?_,fun _=>Nat.le_refl _,fun _=>Nat.le_refl _,fun h=>⟨rfl,.inl h⟩,fun h=>⟨h,rfl⟩,fun h=>⟨rfl,fun o ho=>?_⟩,id,.inl rfl⟩
  ·rw [List.mem_singleton.1 ho]
   exact ⟨rfl,rfl,.inl ⟨rfl,k1,fun h=>(by cases h)⟩⟩
  ·rw [List.mem_singleton.1 ho]
   exact ⟨rfl,(by decide:(2:Int) ≠ 3)⟩
theorem stp_none {x:rf.Node} {m:rf.Msg}:Stp x m x []:=
 ⟨rfl,rfl,Nat.le_refl _,Nat.le_max_left _ _,fun o ho=>(by cases ho),fun _=>Nat.zero_le _,fun _=>Nat.zero_le _,fun h=>⟨rfl,.inl h⟩,fun h=>⟨h,rfl⟩,fun _=>⟨rfl,fun o ho=>(by cases ho)⟩,id,.inl rfl⟩
theorem voted_not {x:rf.Node} {i:Int} (h0:0≤i) (h7:i < 7) (h:rf.elected { x with votes:=x.votes.set i.toNat true }=false):rf.voted x i=({ x with votes:=x.votes.set i.toNat true },[]):=by
 unfold rf.voted
 rw [if_pos ⟨h0,h7⟩,if_neg (by rw [h];decide)]
theorem voted_yes {x:rf.Node} {i:Int} (h0:0≤i) (h7:i < 7) (h:rf.elected { x with votes:=x.votes.set i.toNat true }=true):rf.voted x i=rf.lead { x with votes:=x.votes.set i.toNat true }:=by
 unfold rf.voted
 rw [if_pos ⟨h0,h7⟩,if_pos h]
theorem stp_vote {x:rf.Node} {m:rf.Msg} (k:m.kind=2) (hf0:0≤m.frm) (hf7:m.frm < 7):Stp x m (rf.vote x m).1 (rf.vote x m).2:=by
 unfold rf.vote
 by_cases hv:x.role=1∧m.term=x.term∧m.ok=true
 ·rw [if_pos hv]
  obtain ⟨v1,v2,v3⟩:=hv
  cases he:rf.elected { x with votes:=x.votes.set m.frm.toNat true } with
  | false=>
   rw [voted_not hf0 hf7 he]
   exact ⟨rfl,rfl,Nat.le_refl _,Nat.le_max_left _ _,fun o ho=>(by cases ho),fun _=>Nat.zero_le _,fun _=>Nat.zero_le _,fun h=>⟨rfl,.inl h⟩,fun h=>⟨h,rfl⟩,fun h=>(by omega),fun h=>h.with rfl rfl (.inl rfl) fun hr=>.inl hr,.inl rfl⟩
  | true=>
   rw [voted_yes hf0 hf7 he]
   obtain ⟨a1,a2,a3,a4,a5,a6,a7,a8,a9⟩:=lead_parts { x with votes:=x.votes.set m.frm.toNat true }
   refine ⟨a1,a2,Nat.le_of_eq a4.symm,(by rw [a4];exact Nat.le_max_left _ _),fun o ho=>?_,fun h=>absurd k h,fun h=>?_,fun _=>⟨a4,.inr ⟨v1,k,v3,v2,a5⟩⟩,fun h=>(by rw [a3] at h;cases h),fun h=>(by omega),fun h=>?_,.inr a5⟩
   ·rw [a8] at ho
    obtain ⟨j,_,_,rfl⟩:=puts_mem ho
    exact ⟨a1,rfl,.inr (.inl ⟨rfl,a3,.inl k⟩)⟩
   ·rcases h with h | h
    ·exact absurd a3 h
    ·omega
   ·exact h.with (by rw [a9,h.n7]) a1 (.inr a5) fun _=>.inr a5
 ·rw [if_neg hv]
  exact stp_none
theorem stp_put {x:rf.Node} {m:rf.Msg} (k:m.kind=3) (hle:m.term≤x.term):Stp x m (rf.put x m).1 (rf.put x m).2:=by
 have fin:∀ (y:rf.Node) (o:rf.Msg),y.id=x.id→y.many=x.many→y.term=x.term→y.role=0→y.idle=0→y.next=x.next→m.term=x.term→o.frm=x.id→o.term=x.term→o.kind=4→Stp x m y [o]:=fun y o e1 e2 e3 e4 e5 e6 hm o1 o2 o3=>
  ⟨e1,e2,Nat.le_of_eq e3.symm,(by rw [e3];exact Nat.le_max_left _ _),fun p hp=>(by rw [List.mem_singleton.1 hp];exact ⟨o1,o2.trans e3.symm,.inr (.inr ⟨o3,k⟩)⟩),fun _=>Nat.le_refl _,fun _=>Nat.le_refl _,fun h=>(by rw [e4] at h;cases h),fun h=>(by rw [e4] at h;cases h),fun h=>(by omega),fun h=>h.with (by rw [e6]) e1 (.inr e5) fun _=>.inr e5,.inr e5⟩
 by_cases hlt:m.term < x.term
 ·rw [put_low hlt]
  refine ⟨rfl,rfl,Nat.le_refl _,Nat.le_max_left _ _,fun o ho=>?_,fun _=>Nat.le_refl _,fun _=>Nat.le_refl _,fun h=>⟨rfl,.inl h⟩,fun h=>⟨h,rfl⟩,fun h=>⟨rfl,fun o ho=>?_⟩,id,.inl rfl⟩
  ·rw [List.mem_singleton.1 ho]
   exact ⟨rfl,rfl,.inr (.inr ⟨rfl,k⟩)⟩
  ·rw [List.mem_singleton.1 ho]
   exact ⟨rfl,(by decide:(4:Int) ≠ 3)⟩
 ·have he:m.term=x.term:=by omega
  by_cases hm:rl.termAt x.log m.index=(m.at_,true)
  ·rw [put_yes he hm]
   exact fin _ _ rfl rfl rfl rfl rfl rfl he rfl rfl rfl
  ·rw [put_no he hm]
   exact fin _ _ rfl rfl rfl rfl rfl rfl he rfl rfl rfl
theorem stp_heard {x:rf.Node} {m:rf.Msg} (k:m.kind=4):Stp x m (rf.heard x m).1 (rf.heard x m).2:=by
 have fin:∀ (y:rf.Node) (out:List rf.Msg),y.id=x.id→y.many=x.many→y.term=x.term→y.role=x.role→x.role=2→y.idle=x.idle→y.next.length=x.next.length→m.term=x.term→(∀ o ∈ out,o.frm=x.id∧o.term=x.term∧o.kind=3)→out.length≤1→Stp x m y out:=fun y out e1 e2 e3 e4 r2 e5 e6 hm o1 o2=>
  ⟨e1,e2,Nat.le_of_eq e3.symm,(by rw [e3];exact Nat.le_max_left _ _),fun p hp=>⟨(o1 p hp).1,(o1 p hp).2.1.trans e3.symm,.inr (.inl ⟨(o1 p hp).2.2,e4.trans r2,.inr k⟩)⟩,fun _=>o2,fun _=>o2,fun _=>⟨e3,.inl r2⟩,fun h=>(by rw [e4,r2] at h;cases h),fun h=>(by omega),fun h=>h.with e6 e1 (.inl e5) fun hr=>.inl r2,.inl e5⟩
 unfold rf.heard
 by_cases hr:x.role=2∧m.term=x.term
 ·rw [if_pos hr]
  obtain ⟨r2,ht⟩:=hr
  split
  ·obtain ⟨e1,e2,e3,e4,e5,e6,_,_,_⟩:=tally_same (rf.heardYes x m.frm.toNat m.index)
   have e7:(rf.tally (rf.heardYes x m.frm.toNat m.index)).next.length=x.next.length:=by rw [e6];exact List.length_set
   split
   ·exact fin _ _ e1 e2 e3 e4 r2 e5 e7 ht (fun o ho=>by rw [List.mem_singleton.1 ho];exact ⟨rfl,rfl,rfl⟩) (Nat.le_refl _)
   ·exact fin _ _ e1 e2 e3 e4 r2 e5 e7 ht (fun o ho=>by cases ho) (Nat.zero_le _)
  ·exact fin _ _ rfl rfl rfl rfl r2 rfl List.length_set ht (fun o ho=>by rw [List.mem_singleton.1 ho];exact ⟨rfl,rfl,rfl⟩) (Nat.le_refl _)
 ·rw [if_neg hr]
  exact stp_none
theorem stp_fresh {x:rf.Node} {m:rf.Msg} (hm:rf.meant x m=true):Stp (rf.fresh x m) m (rf.step x m).1 (rf.step x m).2:=by
 obtain ⟨m1,m2,m3,m4,m5,m6⟩:=meant_kind hm
 rw [step_of hm]
 have hy:m.term≤(rf.fresh x m).term:=by rw [fresh_term];omega
 by_cases k1:m.kind=1
 ·rw [if_pos k1];exact stp_ask k1
 ·rw [if_neg k1]
  by_cases k2:m.kind=2
  ·rw [if_pos k2];exact stp_vote k2 m2 (by omega)
  ·rw [if_neg k2]
   by_cases k3:m.kind=3
   ·rw [if_pos k3];exact stp_put k3 hy
   ·rw [if_neg k3];exact stp_heard (by omega)
theorem stp (x:rf.Node) (m:rf.Msg):Stp x m (rf.step x m).1 (rf.step x m).2:=by
 cases hm:rf.meant x m with
 | false=>
  rw [step_not hm]
  exact stp_none
 | true=>
  have h:=stp_fresh hm
  by_cases hle:m.term≤x.term
  ·rw [fresh_le hle] at h
   exact h
  ·have hlt:x.term < m.term:=by omega
   obtain ⟨f1,f2,f3,f4,f5,f6,f7,f8⟩:=fresh_keep x m
   have ft:=fresh_term x m
   have fr:(rf.fresh x m).role=0:=by rw [fresh_lt hlt]
   have hr:∀ y,(y=2∨y=1)→(rf.fresh x m).role ≠ y:=fun y hy=>by rw [fr];omega
   refine ⟨h.id.trans f1,h.many.trans f2,by have:=h.t1;omega,by have:=h.t2;omega,fun o ho=>by rw [← f1];exact h.outs o ho,h.one,fun hh=>h.two ?_,fun hh=>?_,fun hh=>?_,fun hh=>by omega,fun hx=>h.nx (hx.with (by rw [f5]) f1 (.inl f4) fun hh=>absurd hh (hr 2 (.inl rfl))),?_⟩
   ·left
    intro h2
    rcases (h.role2 h2).2 with e | e
    ·exact hr 2 (.inl rfl) e
    ·exact hr 1 (.inr rfl) e.1
   ·rcases (h.role2 hh).2 with e | e
    ·exact absurd e (hr 2 (.inl rfl))
    ·exact absurd e.1 (hr 1 (.inr rfl))
   ·exact absurd (h.role1 hh).1 (hr 1 (.inr rfl))
   ·rcases h.idle with e | e
    ·exact .inl (e.trans f4)
    ·exact .inr e
theorem stp_term {x:rf.Node} {m:rf.Msg} (h:rf.meant x m=true):m.term≤(rf.step x m).1.term:=by
 have:=(stp_fresh h).t1
 rw [fresh_term] at this
 omega
theorem stay2 {x:rf.Node} {m:rf.Msg} (hr:x.role=2) (hle:m.term≤x.term) (hv:x.vote ≠ -1) (hf:x.vote=x.id) (hp:m.kind=3→m.term=x.term→m.frm=x.id) :
  (rf.step x m).1.role=2∧(rf.step x m).1.idle=x.idle∧(rf.step x m).1.term=x.term∧(rf.step x m).1.vote=x.vote:=by
 cases hm:rf.meant x m with
 | false=>rw [step_not hm];exact ⟨hr,rfl,rfl,rfl⟩
 | true=>
  obtain ⟨m1,m2,m3,m4,m5,m6⟩:=meant_kind hm
  by_cases hlt:m.term < x.term
  ·rw [((stp x m).low hlt).1];exact ⟨hr,rfl,rfl,rfl⟩
  ·have he:m.term=x.term:=by omega
   rw [step_of hm,fresh_le hle]
   by_cases k1:m.kind=1
   ·rw [if_pos k1]
    unfold rf.ask
    have ha:rf.askOk x m=false:=by
     unfold rf.askOk
     rw [hf] at hv ⊢
     have h1:¬ x.id=m.frm:=fun e=>m4 e.symm
     simp [hv,h1]
    rw [if_neg (by rw [ha];decide)]
    exact ⟨hr,rfl,rfl,rfl⟩
   ·rw [if_neg k1]
    by_cases k2:m.kind=2
    ·rw [if_pos k2]
     unfold rf.vote
     rw [if_neg (fun h=>by rw [hr] at h;exact absurd h.1 (by decide))]
     exact ⟨hr,rfl,rfl,rfl⟩
    ·rw [if_neg k2]
     by_cases k3:m.kind=3
     ·exact absurd (hp k3 he) m4
     ·rw [if_neg k3]
      unfold rf.heard
      rw [if_pos ⟨hr,he⟩]
      split
      ·obtain ⟨e1,e2,e3,e4,e5,e6,_,_,e9⟩:=tally_same (rf.heardYes x m.frm.toNat m.index)
       split
       ·exact ⟨e4.trans hr,e5,e3,e9⟩
       ·exact ⟨e4.trans hr,e5,e3,e9⟩
      ·exact ⟨hr,rfl,rfl,rfl⟩
def Nl (x:rf.Node):Prop:=x.role=2→∀ k,k < 7→x.mat.getD k 0 < x.next.getD k 0∧x.next.getD k 0≤x.log.length + 1
theorem getD_set {α:Type} (l:List α) (i k:Nat) (a d:α) (h:i < l.length):(l.set i a).getD k d=if k=i then a else l.getD k d:=by
 rw [List.getD_eq_getElem?_getD]
 by_cases hk:k=i
 ·subst hk
  rw [List.getElem?_set_self h,if_pos rfl];rfl
 ·rw [List.getElem?_set_ne (fun e=>hk e.symm),if_neg hk,List.getD_eq_getElem?_getD]
theorem getD_rep (a d:Nat) {k:Nat} (h:k < 7):(List.replicate 7 a).getD k d=a:=by
 rw [List.getD_eq_getElem?_getD,List.getElem?_replicate,if_pos h];rfl
theorem nl_lead {x:rf.Node} (h0:0≤x.id) (h7:x.id < 7):Nl (rf.lead x).1:=by
 intro _ k hk
 unfold rf.lead
 obtain ⟨a1,a2,a3,a4,a5,a6,a7,a8,a9,_⟩:=add_parts (rf.led x) []
 rw [a7,a8,a9]
 have e1:(rf.led x).id=x.id:=rfl
 have e2:(rf.led x).next=List.replicate 7 (x.log.length + 1):=rfl
 have e3:(rf.led x).mat=List.replicate 7 0:=rfl
 have e4:(rf.led x).log=x.log:=rfl
 rw [e1,e2,e3,e4,getD_set _ _ _ _ _ (by rw [List.length_replicate];omega),getD_set _ _ _ _ _ (by rw [List.length_replicate];omega),List.length_append,getD_rep _ _ hk,getD_rep _ _ hk]
 simp only [List.length_cons,List.length_nil]
 split <;> omega
theorem nl_add {x:rf.Node} (h:Nl x) (hn:Nx x) (hm:x.mat.length=7) (h7:x.id < 7) (hr:x.role=2) (t:List UInt8):Nl (rf.add x t).1:=by
 intro _ k hk
 have h0:=hn.id0
 obtain ⟨a1,a2,a3,a4,a5,a6,a7,a8,a9,_⟩:=add_parts x t
 have:=h hr k hk
 rw [a7,a8,a9,getD_set _ _ _ _ _ (by rw [hm];omega),getD_set _ _ _ _ _ (by rw [hn.n7];omega),List.length_append]
 simp only [List.length_cons,List.length_nil]
 split <;> omega
theorem nl_heard {x:rf.Node} {m:rf.Msg} (h:Nl x) (hn:Nx x) (hm:x.mat.length=7) (h0:0≤m.frm) (h7:m.frm < 7):Nl (rf.heard x m).1:=by
 unfold rf.heard
 split
 ·rename_i hr
  have hl:=h hr.1
  have hf:m.frm.toNat < 7:=by omega
  have hfl:=hl m.frm.toNat hf
  split
  ·have key:Nl (rf.tally (rf.heardYes x m.frm.toNat m.index)):=by
    intro _ k hk
    obtain ⟨e1,e2,e3,e4,e5,e6,e7,e8,e9⟩:=tally_same (rf.heardYes x m.frm.toNat m.index)
    have hlk:=hl k hk
    rw [e6,e7,e8]
    show ((x.mat.set _ _).getD k 0) < ((x.next.set _ _).getD k 0)∧_≤x.log.length + 1
    rw [getD_set _ _ _ _ _ (by rw [hm];exact hf)]
    have e10:(rf.heardYes x m.frm.toNat m.index).next=x.next.set m.frm.toNat (max (x.mat.getD m.frm.toNat 0) (min m.index x.log.length) + 1):=rfl
    rw [e10,getD_set _ _ _ _ _ (by rw [hn.n7];exact hf)]
    split
    ·omega
    ·exact hlk
   split
   ·exact key
   ·exact key
  ·intro _ k hk
   have hlk:=hl k hk
   show (x.mat.getD k 0) < ((x.next.set _ _).getD k 0)∧((x.next.set _ _).getD k 0)≤x.log.length + 1
   rw [getD_set _ _ _ _ _ (by rw [hn.n7];exact hf)]
   split
   ·rename_i hkf
    subst hkf
    omega
   ·exact hlk
 ·exact h
theorem nl_step {x:rf.Node} {m:rf.Msg} (h:Nl x) (hn:Nx x) (hm:x.mat.length=7) (h7:x.id < 7):Nl (rf.step x m).1:=by
 cases hmm:rf.meant x m with
 | false=>rw [step_not hmm];exact h
 | true=>
  obtain ⟨m1,m2,m3,m4,m5,m6⟩:=meant_kind hmm
  have key:∀ y:rf.Node,Nl y→Nx y→y.mat.length=7→y.id < 7→Nl (if m.kind=1 then rf.ask y m else if m.kind=2 then rf.vote y m else if m.kind=3 then rf.put y m else rf.heard y m).1:=by
   intro y hy hyn hym hy7
   split
   ·unfold rf.ask
    split
    ·exact fun hr=>hy hr
    ·exact hy
   ·split
    ·unfold rf.vote
     split
     ·cases he:rf.elected { y with votes:=y.votes.set m.frm.toNat true } with
      | false=>rw [voted_not m2 (by omega) he];exact fun hr=>hy hr
      | true=>rw [voted_yes m2 (by omega) he];exact nl_lead hyn.id0 hy7
     ·exact hy
    ·split
     ·by_cases hlt:m.term < y.term
      ·rw [put_low hlt];exact hy
      ·by_cases he:m.term=y.term
       ·by_cases hp:rl.termAt y.log m.index=(m.at_,true)
        ·rw [put_yes he hp];exact fun hr=>absurd (show (0:Int)=2 from hr) (by decide)
        ·rw [put_no he hp];exact fun hr=>absurd (show (0:Int)=2 from hr) (by decide)
       ·unfold rf.put
        rw [if_neg hlt]
        have hr0:(rf.taken y m).role=0:=by unfold rf.taken rf.back;split <;> rfl
        split
        ·exact fun hr=>absurd (show (rf.taken y m).role=2 from hr) (by rw [hr0];decide)
        ·exact fun hr=>absurd hr (by rw [hr0];decide)
     ·exact nl_heard hy hyn hym m2 (by omega)
  rw [step_of hmm]
  obtain ⟨f1,f2,f3,f4,f5,f6,f7,f8⟩:=fresh_keep x m
  have fr2:(rf.fresh x m).role=2→x.role=2:=fun h=>by
   by_cases hl:x.term < m.term
   ·rw [fresh_lt hl] at h;cases h
   ·rw [fresh_le (by omega)] at h;exact h
  refine key _ (fun hr=>?_) (hn.with (by rw [f5]) f1 (.inl f4) fun hr=>.inl (fr2 hr)) (by rw [f6];exact hm) (by rw [f1];exact h7)
  rw [f3,f5,f6]
  exact h (fr2 hr)
theorem nl_tick {x:rf.Node} (h:Nl x) (hn:Nx x) (h7:x.id < 7):Nl (rf.tick x).1:=by
 have h0:=hn.id0
 unfold rf.tick
 split
 ·split
  ·exact fun hr=>h hr
  ·exact fun hr=>h hr
 ·rename_i hr
  split
  ·have key:Nl (rf.voted (rf.stood { x with idle:=x.idle + 1 }) x.id).1:=by
    cases he:rf.elected { rf.stood { x with idle:=x.idle + 1 } with votes:=(rf.stood { x with idle:=x.idle + 1 }).votes.set x.id.toNat true } with
    | false=>rw [voted_not h0 h7 he];exact fun hr=>absurd (show (1:Int)=2 from hr) (by decide)
    | true=>rw [voted_yes h0 h7 he];exact nl_lead (show 0≤x.id from h0) h7
   unfold rf.stand
   split
   ·exact key
   ·exact key
  ·exact fun hr'=>absurd hr' hr
end cl
end Go.Proofs.YtmcibggjolckoaaGreatDoor
namespace Go.Proofs.YtmcibggjolckoaaGreatDoor
namespace cl
open rl (Ent e0)
set_option maxRecDepth 100000
abbrev nd (C:Clu) (i:Nat):rf.Node:=(C.p i).x
def tickC (i:Nat) (C:Clu):Clu:=changed C i (rf.tick (nd C i)).1 (rf.tick (nd C i)).2
def delC (C:Clu):Clu:=match C.way with
 | []=>C
 | m :: r=>changed { C with way:=r } m.dst.toNat (rf.step (nd C m.dst.toNat) m).1 (rf.step (nd C m.dst.toNat) m).2
def ticksC:Nat→Clu→Clu
 | 0,C=>C
 | j + 1,C=>tickC j (ticksC j C)
def delsC:Nat→Clu→Clu
 | 0,C=>C
 | j + 1,C=>delC (delsC j C)
def roundC (C:Clu):Clu:=delsC 500 (ticksC C.n C)
structure Ok (M:Nat) (C:Clu):Prop where
 n7:C.n≤7
 up:∀ i,i < C.n→(C.p i).up=true
 lim:Lim M M C
 inv:∃ g,Inv C g
 w200:C.way.length≤200
 nx:∀ i,i < C.n→Nx (nd C i)
 nl:∀ i,i < C.n→Nl (nd C i)
theorem nd_same (C:Clu) (i:Nat) (x:rf.Node) (out:List rf.Msg):nd (changed C i x out) i=x:=by
 show (upd C.p i _ i).x=x
 rw [upd_same]
theorem nd_other (C:Clu) {i j:Nat} (x:rf.Node) (out:List rf.Msg) (h:j ≠ i):nd (changed C i x out) j=nd C j:=by
 show (upd C.p i _ j).x=_
 rw [upd_other _ _ h]
theorem last_id {l:List rf.Msg} (h:l.length≤200):last l=l:=by
 unfold last
 rw [show l.length - 200=0 by omega]
 rfl
theorem last_le (l:List rf.Msg):(last l).length≤200:=by
 unfold last
 rw [List.length_drop]
 omega
theorem last_le2 (l:List rf.Msg):(last l).length≤l.length:=by
 unfold last
 rw [List.length_drop]
 omega
theorem last_end {a b:List rf.Msg} (h:b.length≤200) {m:rf.Msg} (hm:m ∈ b):m ∈ last (a ++ b):=by
 unfold last
 rw [List.length_append]
 by_cases h2:a.length + b.length≤200
 ·rw [show a.length + b.length - 200=0 by omega]
  exact List.mem_append_right _ hm
 ·rw [List.drop_append]
  refine List.mem_append_right _ ?_
  rw [show a.length + b.length - 200 - a.length=0 by omega]
  exact hm
theorem delC_nil {C:Clu} (h:C.way=[]):delC C=C:=by
 unfold delC
 rw [h]
theorem delC_cons {C:Clu} {m:rf.Msg} {r:List rf.Msg} (h:C.way=m :: r):delC C=changed { C with way:=r } m.dst.toNat (rf.step (nd C m.dst.toNat) m).1 (rf.step (nd C m.dst.toNat) m).2:=by
 unfold delC
 rw [h]
section
variable {M:Nat} {C:Clu}
theorem Ok.nd (h:Ok M C) {i:Nat} (hi:i < C.n):∃ g,Inv C g∧UpOk C.n C.sts g i (nd C i):=by
 obtain ⟨g,hI⟩:=h.inv
 exact ⟨g,hI,hI.up i hi (h.up i hi)⟩
theorem Ok.id (h:Ok M C) {i:Nat} (hi:i < C.n):(cl.nd C i).id=(i:Int):=by
 obtain ⟨g,_,hu⟩:=h.nd hi
 exact hu.id
theorem Ok.many (h:Ok M C) {i:Nat} (hi:i < C.n):(cl.nd C i).many=(C.n:Int):=by
 obtain ⟨g,_,hu⟩:=h.nd hi
 exact hu.many
theorem Ok.size (h:Ok M C) {i:Nat} (hi:i < C.n):rf.size (cl.nd C i)=C.n:=size_eq (h.many hi) h.n7
theorem Ok.st (h:Ok M C) {i:Nat} (hi:i < C.n):(C.p i).s=stOf (cl.nd C i):=by
 obtain ⟨g,_,hu⟩:=h.nd hi
 exact hu.st
theorem Ok.dom (h:Ok M C) {m:rf.Msg} (hm:m ∈ C.way):∃ f d:Nat,m.frm=(f:Int)∧m.dst=(d:Int)∧f < C.n∧d < C.n∧m.term≤(cl.nd C f).term:=by
 obtain ⟨g,hI⟩:=h.inv
 obtain ⟨f,d,h1,h2,h3,h4,h5⟩:=(hI.way m hm).dom
 refine ⟨f,d,h1,h2,h3,h4,?_⟩
 have e:C.sts f=stOf (cl.nd C f):=h.st h3
 rw [e] at h5
 exact h5
theorem Ok.one (h:Ok M C) {i j:Nat} (hi:i < C.n) (hj:j < C.n) (h1:(cl.nd C i).role=2) (h2:(cl.nd C j).role=2) (ht:(cl.nd C i).term=(cl.nd C j).term):i=j:=by
 obtain ⟨g,hI⟩:=h.inv
 have a:=led_by hI hi (h.up i hi) h1
 have b:=led_by hI hj (h.up j hj) h2
 have ht:(C.p i).x.term=(C.p j).x.term:=ht
 rw [ht,b] at a
 injection a with a
 exact a.symm
theorem Ok.put_of (h:Ok M C) {m:rf.Msg} (hm:m ∈ C.way) (hk:m.kind=3) {i:Nat} (hi:i < C.n) (h1:(cl.nd C i).role=2) (ht:(cl.nd C i).term=m.term):m.frm=(i:Int):=by
 obtain ⟨g,hI⟩:=h.inv
 obtain ⟨f,d,h2,_⟩:=(hI.way m hm).dom
 have a:=((hI.way m hm).k3 f h2 hk).1
 have b:=led_by hI hi (h.up i hi) h1
 have ht:(C.p i).x.term=m.term:=ht
 rw [ht,a] at b
 injection b with b
 rw [h2,b]
theorem Ok.vote2 (h:Ok M C) {i:Nat} (hi:i < C.n) (h1:(cl.nd C i).role=2):(cl.nd C i).vote=(i:Int):=by
 obtain ⟨g,_,hu⟩:=h.nd hi
 exact (hu.r2 h1).2.2.1
theorem Ok.mat7 (h:Ok M C) {i:Nat} (hi:i < C.n):(cl.nd C i).mat.length=7:=by
 obtain ⟨g,_,hu⟩:=h.nd hi
 exact hu.len.2
theorem ok_changed {w:List rf.Msg} {i:Nat} {r:rf.Node × List rf.Msg} {M':Nat} (h:Ok M C) (hw:∀ m ∈ w,m ∈ C.way) (hi:i < C.n) (hM:M≤M') (hb:BothLim M' M' r) (hx:Nx r.1) (hl:Nl r.1) (hO:∀ g,Inv C g→∃ g',Inv (changed { C with way:=w } i r.1 r.2) g'):Ok M' (changed { C with way:=w } i r.1 r.2):=by
 refine ⟨h.n7,fun j hj=>?_,After.lim (C:={ C with way:=w }) .ok (lim_way h.lim hw) hM hM hb,?_,last_le _,fun j hj=>?_,fun j hj=>?_⟩
 ·by_cases hji:j=i
  ·subst hji
   show (upd C.p j _ j).up=true
   rw [upd_same]
  ·show (upd C.p i _ j).up=true
   rw [upd_other _ _ hji]
   exact h.up j hj
 ·obtain ⟨g,hI⟩:=h.inv
  exact hO g hI
 ·by_cases hji:j=i
  ·subst hji
   rw [nd_same]
   exact hx
  ·rw [nd_other _ _ _ hji]
   exact h.nx j hj
 ·by_cases hji:j=i
  ·subst hji
   rw [nd_same]
   exact hl
  ·rw [nd_other _ _ _ hji]
   exact h.nl j hj
theorem stand_parts {x:rf.Node} (h0:0≤x.id) (h7:x.id < 7):(rf.stand x).1.id=x.id∧(rf.stand x).1.many=x.many∧(rf.stand x).1.idle=0∧((rf.stand x).1.next.length=x.next.length∨(rf.stand x).1.next.length=7):=by
 have key:(rf.voted (rf.stood x) x.id).1.id=x.id∧(rf.voted (rf.stood x) x.id).1.many=x.many∧(rf.voted (rf.stood x) x.id).1.idle=0∧((rf.voted (rf.stood x) x.id).1.next.length=x.next.length∨(rf.voted (rf.stood x) x.id).1.next.length=7):=by
  cases he:rf.elected { rf.stood x with votes:=(rf.stood x).votes.set x.id.toNat true } with
  | false=>rw [voted_not h0 h7 he];exact ⟨rfl,rfl,rfl,.inl rfl⟩
  | true=>
   rw [voted_yes h0 h7 he]
   obtain ⟨a1,a2,a3,a4,a5,a6,a7,a8,a9⟩:=lead_parts { rf.stood x with votes:=(rf.stood x).votes.set x.id.toNat true }
   exact ⟨a1,a2,a5,.inr a9⟩
 unfold rf.stand
 split
 ·exact key
 ·exact key
theorem tick_nx {x:rf.Node} (h:Nx x) (h7:x.id < 7):Nx (rf.tick x).1:=by
 have h0:=h.id0
 have hl:=h.lt
 have hi0:=h.i0
 unfold rf.tick
 split
 ·rename_i hr
  split
  ·exact h.with rfl rfl (.inr rfl) fun _=>.inr rfl
  ·rename_i h3
   exact ⟨h.n7,by show 0≤x.idle + 1;omega,fun hh=>absurd hr hh,fun _=>by show x.idle + 1≤2;omega,h0⟩
 ·rename_i hr
  split
  ·obtain ⟨a1,a2,a3,a4⟩:=stand_parts (x:={ x with idle:=x.idle + 1 }) h0 h7
   refine h.with ?_ a1 (.inr a3) fun _=>.inr a3
   rcases a4 with e | e
   ·exact e
   ·rw [e,h.n7]
  ·rename_i hlt
   refine ⟨h.n7,by show 0≤x.idle + 1;omega,fun _=>by show x.idle + 1 < 10 + 3 * x.id;omega,fun hh=>absurd hh hr,h0⟩
theorem ok_tick {i:Nat} (h:Ok M C) (hM:M + 1 < 18446744073709551616) (hi:i < C.n):Ok (M + 1) (tickC i C):=by
 have hid:=h.id hi
 have h7:=h.n7
 refine ok_changed (w:=C.way) h (fun m hm=>hm) hi (Nat.le_succ M) (tick_lim hM (h.lim.up i hi (h.up i hi)) (by omega) (by omega)) (tick_nx (h.nx i hi) (by omega)) (nl_tick (h.nl i hi) (h.nx i hi) (by omega)) fun g hI=>?_
 obtain ⟨g',h1,_⟩:=(onward_tick h.lim hM h7 hi (h.up i hi) (.ok)).2 g hI
 exact ⟨g',h1⟩
theorem ok_del (h:Ok M C) (hM:M < 18446744073709551616):Ok M (delC C):=by
 cases hw:C.way with
 | nil=>rw [delC_nil hw];exact h
 | cons m r=>
  rw [delC_cons hw]
  have hmem:m ∈ C.way:=by rw [hw];exact List.mem_cons_self
  obtain ⟨f,d,_,hd,_,hdn,_⟩:=h.dom hmem
  rw [hd,Int.toNat_natCast]
  have hwe:∀ y ∈ r,y ∈ C.way:=fun y hy=>by rw [hw];exact List.mem_cons_of_mem _ hy
  refine ok_changed h hwe hdn (Nat.le_refl M) (step_lim hM (h.lim.up d hdn (h.up d hdn)) (h.lim.way m hmem)) ((stp _ m).nx (h.nx d hdn)) (nl_step (h.nl d hdn) (h.nx d hdn) (h.mat7 hdn) (by have:=h.id hdn;have:=h.n7;omega)) fun g hI=>?_
  obtain ⟨g',h1,_⟩:=(onward_step h.n7 hdn (h.up d hdn) hmem hwe .ok).2 g hI
  exact ⟨g',h1⟩
theorem ticks_n (C:Clu):∀ j,(ticksC j C).n=C.n
 | 0=>rfl
 | j + 1=>ticks_n C j
theorem del_n (C:Clu):(delC C).n=C.n:=by
 cases hw:C.way with
 | nil=>rw [delC_nil hw]
 | cons m r=>rw [delC_cons hw];rfl
theorem dels_n (C:Clu):∀ j,(delsC j C).n=C.n
 | 0=>rfl
 | j + 1=>(del_n _).trans (dels_n C j)
theorem round_n (C:Clu):(roundC C).n=C.n:=(dels_n _ _).trans (ticks_n _ _)
theorem ok_ticks (h:Ok M C):∀ j,j≤C.n→M + j < 18446744073709551616→Ok (M + j) (ticksC j C)
 | 0,_,_=>h
 | j + 1,hj,hM=>ok_tick (ok_ticks h j (by omega) (by omega)) hM (by rw [ticks_n];omega)
theorem ok_dels (h:Ok M C) (hM:M < 18446744073709551616):∀ j,Ok M (delsC j C)
 | 0=>h
 | j + 1=>ok_del (ok_dels h hM j) hM
theorem ok_round (h:Ok M C) (hM:M + C.n < 18446744073709551616):Ok (M + C.n) (roundC C):=ok_dels (ok_ticks h C.n (Nat.le_refl _) hM) hM 500
theorem dels_add (C:Clu) (a:Nat):∀ b,delsC (a + b) C=delsC b (delsC a C)
 | 0=>rfl
 | b + 1=>congrArg delC (dels_add C a b)
end
end cl
end Go.Proofs.YtmcibggjolckoaaGreatDoor
namespace Go.Proofs.YtmcibggjolckoaaGreatDoor
namespace cl
open rl (Ent e0)
set_option maxRecDepth 100000
def stands (x:rf.Node):Prop:=x.role ≠ 2∧10 + 3 * x.id≤x.idle + 1
instance (x:rf.Node):Decidable (stands x):=inferInstanceAs (Decidable (_∧_))
def stoodV (x:rf.Node):rf.Node:={ rf.stood x with votes:=(List.replicate 7 false).set x.id.toNat true }
theorem one_vote (n i:Nat):((List.range n).filter fun k=>((List.replicate 7 false).set i true).getD k false).length≤1:=by
 have key:∀ n,((List.range n).filter fun k=>((List.replicate 7 false).set i true).getD k false).length≤if i < n then 1 else 0:=by
  intro n
  induction n with
  | zero=>simp
  | succ n ih=>
   rw [List.range_succ,List.filter_append,List.length_append]
   have e:([n].filter fun k=>((List.replicate 7 false).set i true).getD k false).length≤if i=n then 1 else 0:=by
    rw [List.filter_cons]
    by_cases h:i=n
    ·rw [if_pos h]
     split <;> simp
    ·rw [if_neg h]
     have:((List.replicate 7 false).set i true).getD n false=false:=by
      rw [List.getD_eq_getElem?_getD,List.getElem?_set_ne h,List.getElem?_replicate]
      split <;> rfl
     rw [this]
     simp
   split at ih <;> split at e <;> split <;> omega
 have:=key n
 split at this <;> omega
theorem stand_eq {x:rf.Node} {n:Nat} (hm:x.many=(n:Int)) (h2:2≤n) (h0:0≤x.id) (h7:x.id < 7):rf.stand x=(stoodV x,rf.asks (stoodV x)):=by
 have e:rf.voted (rf.stood x) x.id=(stoodV x,[]):=by
  refine voted_not h0 h7 ?_
  obtain ⟨y,hy⟩:∃ y,{ rf.stood x with votes:=(rf.stood x).votes.set x.id.toNat true }=y:=⟨_,rfl⟩
  have hv:y.votes=(List.replicate 7 false).set x.id.toNat true:=by rw [← hy];rfl
  have hmy:y.many=(n:Int):=by rw [← hy];exact hm
  rw [hy]
  unfold rf.elected rf.majority rf.count
  have:=one_vote (rf.size y) x.id.toNat
  rw [hv,hmy]
  simp only [decide_eq_false_iff_not]
  omega
 unfold rf.stand
 rw [e,if_neg (by show ¬ (1:Int)=2;decide)]
 rfl
theorem tick_eq {x:rf.Node} {n:Nat} (hm:x.many=(n:Int)) (h2:2≤n) (h0:0≤x.id) (h7:x.id < 7):rf.tick x =
  if x.role=2 then (if 3≤x.idle + 1 then ({ x with idle:=0 },rf.puts { x with idle:=0 }) else ({ x with idle:=x.idle + 1 },[]))
  else if stands x then (stoodV x,rf.asks (stoodV x)) else ({ x with idle:=x.idle + 1 },[]):=by
 unfold rf.tick
 split
 ·rfl
 ·rename_i hr
  by_cases hs:10 + 3 * x.id≤x.idle + 1
  ·rw [if_pos hs,if_pos ⟨hr,hs⟩]
   exact stand_eq (x:={ x with idle:=x.idle + 1 }) hm h2 h0 h7
  ·rw [if_neg hs,if_neg (fun h=>hs h.2)]
theorem stoodV_parts {x:rf.Node} (ht:x.term + 1 < 18446744073709551616):(stoodV x).id=x.id∧(stoodV x).many=x.many∧(stoodV x).term=x.term + 1∧(stoodV x).role=1∧(stoodV x).vote=x.id∧(stoodV x).idle=0∧(stoodV x).log=x.log:=by
 refine ⟨rfl,rfl,?_,rfl,rfl,rfl,rfl⟩
 show (x.term + 1) % 18446744073709551616=_
 exact Nat.mod_eq_of_lt ht
theorem asks_mem {x:rf.Node} {o:rf.Msg} (h:o ∈ rf.asks x):o.frm=x.id∧o.term=x.term∧o.kind=1∧o.index=x.log.length∧o.at_=rl.lastTerm x.log∧∃ j:Nat,j < rf.size x∧(j:Int) ≠ x.id∧o.dst=(j:Int):=by
 unfold rf.asks at h
 obtain ⟨j,hj,rfl⟩:=List.mem_map.1 h
 unfold rf.others at hj
 obtain ⟨h1,h2⟩:=List.mem_filter.1 hj
 exact ⟨rfl,rfl,rfl,rfl,rfl,j,List.mem_range.1 h1,by simpa using h2,rfl⟩
theorem mem_asks {x:rf.Node} {j:Nat} (h:j < rf.size x) (hj:(j:Int) ≠ x.id):rf.stamp x { rf.msg0 with kind:=1,dst:=(j:Int),index:=x.log.length,at_:=rl.lastTerm x.log } ∈ rf.asks x:=by
 unfold rf.asks rf.others
 exact List.mem_map.2 ⟨j,List.mem_filter.2 ⟨List.mem_range.2 h,by simpa using hj⟩,rfl⟩
theorem asks_len (x:rf.Node):(rf.asks x).length=(rf.others x).length:=by
 unfold rf.asks
 exact List.length_map _
theorem puts_len2 (x:rf.Node):(rf.puts x).length=(rf.others x).length:=by
 unfold rf.puts
 exact List.length_map _
theorem others_len7 (x:rf.Node):(rf.others x).length≤7:=by
 rw [← puts_len2]
 exact puts_len x
theorem tick_out {x:rf.Node} {n:Nat} (hm:x.many=(n:Int)) (h2:2≤n) (h0:0≤x.id) (h7:x.id < 7):(rf.tick x).2.length≤7∧∀ o ∈ (rf.tick x).2,o.frm=x.id∧o.term=(rf.tick x).1.term∧(o.kind=1∧stands x∨o.kind=3∧x.role=2):=by
 rw [tick_eq hm h2 h0 h7]
 split
 ·rename_i hr
  split
  ·refine ⟨puts_len _,fun o ho=>?_⟩
   obtain ⟨j,_,_,rfl⟩:=puts_mem ho
   exact ⟨rfl,rfl,.inr ⟨rfl,hr⟩⟩
  ·exact ⟨Nat.zero_le _,fun o ho=>by cases ho⟩
 ·split
  ·rename_i hs
   refine ⟨by rw [asks_len];exact others_len7 _,fun o ho=>?_⟩
   obtain ⟨a1,a2,a3,_⟩:=asks_mem ho
   exact ⟨a1,a2,.inl ⟨a3,hs⟩⟩
  ·exact ⟨Nat.zero_le _,fun o ho=>by cases ho⟩
theorem tick_term {x:rf.Node} {n:Nat} (hm:x.many=(n:Int)) (h2:2≤n) (h0:0≤x.id) (h7:x.id < 7) (ht:x.term + 1 < 18446744073709551616):(rf.tick x).1.term=if stands x then x.term + 1 else x.term:=by
 rw [tick_eq hm h2 h0 h7]
 split
 ·rename_i hr
  rw [if_neg (fun h:stands x=>h.1 hr)]
  split <;> rfl
 ·split
  ·exact (stoodV_parts ht).2.2.1
  ·rfl
theorem tick_role2 {x:rf.Node} (hr:x.role=2):(rf.tick x).1.role=2∧(rf.tick x).1.term=x.term∧(rf.tick x).1.idle=(if 3≤x.idle + 1 then 0 else x.idle + 1)∧(rf.tick x).1.log=x.log∧(rf.tick x).1.id=x.id:=by
 unfold rf.tick
 rw [if_pos hr]
 split
 ·exact ⟨hr,rfl,rfl,rfl,rfl⟩
 ·exact ⟨hr,rfl,rfl,rfl,rfl⟩
section
variable {M:Nat} {C:Clu}
theorem ticks_nd (C:Clu) (i:Nat):∀ j,nd (ticksC j C) i=if i < j then (rf.tick (nd C i)).1 else nd C i
 | 0=>by rw [if_neg (Nat.not_lt_zero _)];rfl
 | j + 1=>by
  have ih:=ticks_nd C i j
  show nd (changed (ticksC j C) j _ _) i=_
  by_cases h:i=j
  ·subst h
   rw [nd_same,if_pos (Nat.lt_succ_self _),ih,if_neg (Nat.lt_irrefl _)]
  ·rw [nd_other _ _ _ h,ih]
   by_cases h2:i < j
   ·rw [if_pos h2,if_pos (by omega)]
   ·rw [if_neg h2,if_neg (by omega)]
theorem last_app {a b:List rf.Msg} (h:b.length≤200):∃ k,last (a ++ b)=a.drop k ++ b:=by
 unfold last
 rw [List.length_append]
 refine ⟨a.length + b.length - 200,?_⟩
 rw [List.drop_append,show a.length + b.length - 200 - a.length=0 by omega]
 rfl
theorem ticks_way (h:Ok M C) (h2:2≤C.n):∀ j,j≤C.n→∃ k b,(ticksC j C).way=C.way.drop k ++ b∧b.length≤7 * j∧(∀ i,i < j→∀ m ∈ (rf.tick (nd C i)).2,m ∈ b)∧(∀ m ∈ b,∃ i,i < j∧m ∈ (rf.tick (nd C i)).2)∧(C.way.length + b.length≤200→k=0)
 | 0,_=>⟨0,[],by show C.way=_;simp,Nat.zero_le _,fun i hi=>absurd hi (Nat.not_lt_zero _),fun m hm=>(by cases hm),fun _=>rfl⟩
 | j + 1,hj=>by
  obtain ⟨k,b,e,hl,h1,h3,h4⟩:=ticks_way h h2 j (by omega)
  have h7:=h.n7
  have hjn:j < C.n:=by omega
  have hid:=h.id hjn
  have hn:nd (ticksC j C) j=nd C j:=by rw [ticks_nd,if_neg (Nat.lt_irrefl _)]
  have ho:=(tick_out (h.many hjn) h2 (by omega) (by omega)).1
  have e2:(ticksC (j + 1) C).way=last (C.way.drop k ++ b ++ (rf.tick (nd C j)).2):=by
   show last ((ticksC j C).way ++ (rf.tick (nd (ticksC j C) j)).2)=_
   rw [e,hn]
  have hlen:(b ++ (rf.tick (nd C j)).2).length≤7 * (j + 1):=by rw [List.length_append];omega
  rw [List.append_assoc] at e2
  have hsm:C.way.length + (b ++ (rf.tick (nd C j)).2).length≤200→k=0:=fun hh=>h4 (by rw [List.length_append] at hh;omega)
  by_cases hs:C.way.length + (b ++ (rf.tick (nd C j)).2).length≤200
  ·have hk:=hsm hs
   subst hk
   rw [List.drop_zero,last_id (by rw [List.length_append];omega)] at e2
   refine ⟨0,b ++ (rf.tick (nd C j)).2,by rw [List.drop_zero];exact e2,hlen,fun i hi m hm=>?_,fun m hm=>?_,fun _=>rfl⟩
   ·by_cases hij:i=j
    ·subst hij;exact List.mem_append_right _ hm
    ·exact List.mem_append_left _ (h1 i (by omega) m hm)
   ·rcases List.mem_append.1 hm with hm | hm
    ·obtain ⟨i,hi,hm⟩:=h3 m hm
     exact ⟨i,by omega,hm⟩
    ·exact ⟨j,by omega,hm⟩
  ·obtain ⟨k2,e3⟩:=last_app (a:=C.way.drop k) (b:=b ++ (rf.tick (nd C j)).2) (by omega)
   rw [e3,List.drop_drop] at e2
   refine ⟨_,b ++ (rf.tick (nd C j)).2,e2,hlen,fun i hi m hm=>?_,fun m hm=>?_,fun hh=>absurd hh hs⟩
   ·by_cases hij:i=j
    ·subst hij;exact List.mem_append_right _ hm
    ·exact List.mem_append_left _ (h1 i (by omega) m hm)
   ·rcases List.mem_append.1 hm with hm | hm
    ·obtain ⟨i,hi,hm⟩:=h3 m hm
     exact ⟨i,by omega,hm⟩
    ·exact ⟨j,by omega,hm⟩
theorem del_parts (h:Ok M C) {m:rf.Msg} {r:List rf.Msg} (hw:C.way=m :: r):∃ d:Nat,m.dst=(d:Int)∧d < C.n∧(delC C).way=last (r ++ (rf.step (nd C d) m).2)∧nd (delC C) d=(rf.step (nd C d) m).1∧(∀ j,j ≠ d→nd (delC C) j=nd C j)∧Stp (nd C d) m (rf.step (nd C d) m).1 (rf.step (nd C d) m).2:=by
 obtain ⟨f,d,_,hd,_,hdn,_⟩:=h.dom (m:=m) (by rw [hw];exact List.mem_cons_self)
 refine ⟨d,hd,hdn,?_,?_,fun j hj=>?_,stp _ _⟩
 ·rw [delC_cons hw,hd,Int.toNat_natCast];rfl
 ·rw [delC_cons hw,hd,Int.toNat_natCast,nd_same]
 ·rw [delC_cons hw,hd,Int.toNat_natCast,nd_other _ _ _ hj]
theorem mem_drop_last {r out:List rf.Msg} {P:rf.Msg→Prop} {k:Nat} (h1:∀ m ∈ r.drop k,P m) (h2:∀ m ∈ out,P m):∀ m ∈ (last (r ++ out)).drop k,P m:=by
 intro m hm
 unfold last at hm
 rw [List.drop_drop] at hm
 have hm2:m ∈ (r ++ out).drop k:=by
  have:∀ (l:List rf.Msg) (a b:Nat),a≤b→m ∈ l.drop b→m ∈ l.drop a:=fun l a b hab hb=>by
   rw [show b=a + (b - a) by omega,← List.drop_drop] at hb
   exact List.mem_of_mem_drop hb
  exact this _ k _ (by omega) hm
 rw [List.drop_append] at hm2
 rcases List.mem_append.1 hm2 with hm | hm
 ·exact h1 m hm
 ·exact h2 m (List.mem_of_mem_drop hm)
theorem no_ask (h:Ok M C) (hM:M < 18446744073709551616):∀ j,∀ m ∈ (delsC j C).way.drop (200 - j),m.kind ≠ 1
 | 0=>fun m hm=>by
  rw [List.drop_eq_nil_of_le (by have:=h.w200;show C.way.length≤_;omega)] at hm
  cases hm
 | j + 1=>by
  have ih:=no_ask h hM j
  have hj:=ok_dels h hM j
  show ∀ m ∈ (delC (delsC j C)).way.drop (200 - (j + 1)),m.kind ≠ 1
  cases hw:(delsC j C).way with
  | nil=>
   rw [delC_nil hw,hw]
   intro m hm
   rw [List.drop_nil] at hm
   cases hm
  | cons a r=>
   obtain ⟨d,_,_,e,_,_,hs⟩:=del_parts hj hw
   rw [e]
   refine mem_drop_last (fun m hm=>?_) fun m hm=>?_
   ·by_cases h2:j < 200
    ·refine ih m ?_
     rw [hw,show 200 - j=200 - (j + 1) + 1 by omega]
     exact hm
    ·refine ih m ?_
     rw [show 200 - (j + 1)=0 by omega] at hm
     rw [hw,show 200 - j=0 by omega]
     exact List.mem_cons_of_mem _ hm
   ·rcases (hs.outs m hm).2.2 with h | h | h <;> omega
theorem no_vote (h:Ok M C) (hM:M < 18446744073709551616) (ha:∀ m ∈ C.way,m.kind ≠ 1):∀ j,(∀ m ∈ (delsC j C).way,m.kind ≠ 1)∧∀ m ∈ (delsC j C).way.drop (200 - j),m.kind ≠ 2
 | 0=>⟨ha,fun m hm=>by
  rw [List.drop_eq_nil_of_le (by have:=h.w200;show C.way.length≤_;omega)] at hm
  cases hm⟩
 | j + 1=>by
  obtain ⟨ia,ih⟩:=no_vote h hM ha j
  have hj:=ok_dels h hM j
  show (∀ m ∈ (delC (delsC j C)).way,m.kind ≠ 1)∧∀ m ∈ (delC (delsC j C)).way.drop (200 - (j + 1)),m.kind ≠ 2
  cases hw:(delsC j C).way with
  | nil=>
   rw [delC_nil hw,hw]
   exact ⟨fun m hm=>(by cases hm),fun m hm=>by rw [List.drop_nil] at hm;cases hm⟩
  | cons a r=>
   obtain ⟨d,_,_,e,_,_,hs⟩:=del_parts hj hw
   have ha1:a.kind ≠ 1:=ia a (by rw [hw];exact List.mem_cons_self)
   rw [e]
   refine ⟨fun m hm=>?_,mem_drop_last (fun m hm=>?_) fun m hm=>?_⟩
   ·rcases List.mem_append.1 (mem_last hm) with hm | hm
    ·exact ia m (by rw [hw];exact List.mem_cons_of_mem _ hm)
    ·rcases (hs.outs m hm).2.2 with h | h | h <;> omega
   ·by_cases h2:j < 200
    ·refine ih m ?_
     rw [hw,show 200 - j=200 - (j + 1) + 1 by omega]
     exact hm
    ·refine ih m ?_
     rw [show 200 - (j + 1)=0 by omega] at hm
     rw [hw,show 200 - j=0 by omega]
     exact List.mem_cons_of_mem _ hm
   ·rcases (hs.outs m hm).2.2 with h | h | h <;> omega
def NoAV (C:Clu):Prop:=∀ m ∈ C.way,m.kind ≠ 1∧m.kind ≠ 2
theorem dels_nav (h:Ok M C) (hM:M < 18446744073709551616) (j:Nat):NoAV (delsC (400 + j) C):=by
 have h1:=no_ask h hM 200
 rw [Nat.sub_self,List.drop_zero] at h1
 obtain ⟨a,b⟩:=no_vote (ok_dels h hM 200) hM h1 (200 + j)
 rw [← dels_add,show 200 + (200 + j)=400 + j by omega] at a b
 rw [show 200 - (200 + j)=0 by omega,List.drop_zero] at b
 exact fun m hm=>⟨a m hm,b m hm⟩
theorem round_nav (h:Ok M C) (hM:M + C.n < 18446744073709551616):NoAV (roundC C):=dels_nav (ok_ticks h C.n (Nat.le_refl _) hM) hM 100
structure G1 (P:rf.Msg→Prop) (k:Nat) (C:Clu):Prop where
 le:k≤C.way.length
 all:∀ m ∈ C.way.take k,P m
theorem gen1 {P:rf.Msg→Prop} {I:Clu→Prop} {X:Nat→Prop} {W:Nat→rf.Msg→Prop} {Q:Nat→Clu→Prop} (hM:M < 18446744073709551616)
  (hone:∀ (C:Clu) (m:rf.Msg) (r:List rf.Msg) (d:Nat),Ok M C→I C→C.way=m :: r→m.dst=(d:Int)→d < C.n→P m→(rf.step (nd C d) m).2.length≤1)
  (hI:∀ (C:Clu) (m:rf.Msg) (r:List rf.Msg),Ok M C→I C→C.way=m :: r→P m→I (delC C))
  (hQ:∀ (C:Clu) (m:rf.Msg) (r:List rf.Msg) (x:Nat),Ok M C→I C→C.way=m :: r→P m→X x→Q x C→Q x (delC C))
  (hW:∀ (C:Clu) (m:rf.Msg) (r:List rf.Msg) (x:Nat),Ok M C→I C→C.way=m :: r→P m→X x→W x m→Q x (delC C)) :
  ∀ (k:Nat) (C:Clu),Ok M C→I C→G1 P k C→(∀ x,X x→(∃ m ∈ C.way.take k,W x m)∨Q x C)→Ok M (delsC k C)∧I (delsC k C)∧∀ x,X x→Q x (delsC k C)
 | 0,C,h,hi,_,hx=>⟨h,hi,fun x hX=>by
  rcases hx x hX with ⟨m,hm,_⟩ | h1
  ·rw [List.take_zero] at hm;cases hm
  ·exact h1⟩
 | k + 1,C,h,hi,hg,hx=>by
  have hle:=hg.le
  have h200:=h.w200
  cases hw:C.way with
  | nil=>rw [hw] at hle;simp at hle
  | cons m r=>
   have ha:=hg.all
   rw [hw] at hle ha h200
   rw [List.take_succ_cons] at ha
   simp only [List.length_cons] at hle h200
   have hP:P m:=ha m List.mem_cons_self
   obtain ⟨d,hd,hdn,e,e1,e2,hs⟩:=del_parts h hw
   have ho:=hone C m r d h hi hw hd hdn hP
   rw [last_id (by rw [List.length_append];omega)] at e
   have et:(delC C).way.take k=r.take k:=by rw [e,List.take_append_of_le_length (by omega)]
   have eq:delsC (k + 1) C=delsC k (delC C):=by rw [Nat.add_comm];exact dels_add C 1 k
   rw [eq]
   refine gen1 hM hone hI hQ hW k (delC C) (ok_del h hM) (hI C m r h hi hw hP) ⟨by rw [e,List.length_append];omega,fun a ha2=>?_⟩ fun x hX=>?_
   ·rw [et] at ha2
    exact ha a (List.mem_cons_of_mem _ ha2)
   ·rcases hx x hX with ⟨a,ha1,ha2⟩ | h1
    ·rw [hw,List.take_succ_cons] at ha1
     rcases List.mem_cons.1 ha1 with rfl | ha1
     ·exact .inr (hW C a r x h hi hw hP hX ha2)
     ·exact .inl ⟨a,by rw [et];exact ha1,ha2⟩
    ·exact .inr (hQ C m r x h hi hw hP hX h1)
end
end cl
end Go.Proofs.YtmcibggjolckoaaGreatDoor
