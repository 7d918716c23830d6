/- LvTerm, LvLead, LvVotes, LvSync, LvSync2: one behind the other. -/
import Derived.Test.YtmcibggjolckoaaGreatDoorGm29
namespace Go.Proofs.YtmcibggjolckoaaGreatDoor
namespace cl
open rl (Ent e0)
set_option maxRecDepth 100000
def Leads (T:Nat) (C:Clu) (i:Nat):Prop:=i < C.n∧(nd C i).role=2∧(nd C i).term=T
def NL (T:Nat) (C:Clu):Prop:=∀ i,¬ Leads T C i
structure TB (T:Nat) (C:Clu):Prop where
 nd:∀ i,i < C.n→(cl.nd C i).term≤T
 ms:∀ m ∈ C.way,m.term≤T
 pt:∀ m ∈ C.way,m.kind=3→m.term=T→∃ i:Nat,m.frm=(i:Int)∧Leads T C i
def All (T:Nat) (C:Clu):Prop:=∀ i,i < C.n→(nd C i).term=T
section
variable {M T:Nat} {C:Clu}
theorem TB.up (h:TB T C) {T':Nat} (hT:T < T'):TB T' C:=⟨fun i hi=>Nat.le_of_lt (Nat.lt_of_le_of_lt (h.nd i hi) hT),fun m hm=>Nat.le_of_lt (Nat.lt_of_le_of_lt (h.ms m hm) hT),fun m hm _ ht=>by have:=h.ms m hm;omega⟩
theorem TB.nl (h:TB T C) {T':Nat} (hT:T < T'):NL T' C:=fun i hl=>by have:=h.nd i hl.1;have:=hl.2.2;omega
theorem leads_one (h:Ok M C) {i j:Nat} (h1:Leads T C i) (h2:Leads T C j):i=j:=h.one h1.1 h2.1 h1.2.1 h2.2.1 (h1.2.2.trans h2.2.2.symm)
theorem step_stay2 (h:Ok M C) {i:Nat} (hl:Leads T C i) {m:rf.Msg} (hm:m ∈ C.way) (ht:m.term≤T):(rf.step (nd C i) m).1.role=2∧(rf.step (nd C i) m).1.idle=(nd C i).idle∧(rf.step (nd C i) m).1.term=T:=by
 obtain ⟨h1,h2,h3⟩:=hl
 have hid:=h.id h1
 have hv:=h.vote2 h1 h2
 obtain ⟨a,b,c,_⟩:=stay2 (m:=m) h2 (by omega) (by omega) (by omega) fun hk he=>by rw [hid];exact h.put_of hm hk h1 h2 he.symm
 exact ⟨a,b,c.trans h3⟩
theorem leads_del (h:Ok M C) {i:Nat} (hl:Leads T C i) (ht:∀ m ∈ C.way,m.term≤T):Leads T (delC C) i∧(nd (delC C) i).idle=(nd C i).idle:=by
 cases hw:C.way with
 | nil=>rw [delC_nil hw];exact ⟨hl,rfl⟩
 | cons m r=>
  have hm:m ∈ C.way:=by rw [hw];exact List.mem_cons_self
  obtain ⟨d,hd,hdn,e,e1,e2,hs⟩:=del_parts h hw
  by_cases hi:i=d
  ·subst hi
   obtain ⟨a,b,c⟩:=step_stay2 h hl hm (ht m hm)
   unfold Leads
   rw [e1,del_n]
   exact ⟨⟨hl.1,a,c⟩,b⟩
  ·unfold Leads
   rw [e2 i hi,del_n]
   exact ⟨hl,rfl⟩
theorem lead_new (h:Ok M C) {m:rf.Msg} {r:List rf.Msg} (hw:C.way=m :: r) {i:Nat} (hl:Leads T (delC C) i):Leads T C i∨(m.dst=(i:Int)∧m.kind=2∧m.ok=true∧m.term=T∧(nd C i).role=1∧(nd C i).term=T∧(nd (delC C) i).idle=0):=by
 obtain ⟨d,hd,hdn,e,e1,e2,hs⟩:=del_parts h hw
 obtain ⟨h1,h2,h3⟩:=hl
 rw [del_n] at h1
 by_cases hi:i=d
 ·subst hi
  rw [e1] at h2 h3 ⊢
  obtain ⟨r1,r2⟩:=hs.role2 h2
  rcases r2 with r2 | ⟨r2,r3,r4,r5,r6⟩
  ·exact .inl ⟨h1,r2,r1.symm.trans h3⟩
  ·exact .inr ⟨hd,r3,r4,by rw [r5,← r1];exact h3,r2,r1.symm.trans h3,r6⟩
 ·rw [e2 i hi] at h2 h3
  exact .inl ⟨h1,h2,h3⟩
theorem tb_del (h:Ok M C) (hb:TB T C):TB T (delC C):=by
 cases hw:C.way with
 | nil=>rw [delC_nil hw];exact hb
 | cons m r=>
  have hm:m ∈ C.way:=by rw [hw];exact List.mem_cons_self
  obtain ⟨d,hd,hdn,e,e1,e2,hs⟩:=del_parts h hw
  have ht:(rf.step (nd C d) m).1.term≤T:=by
   have:=hs.t2
   have:=hb.nd d hdn
   have:=hb.ms m hm
   omega
  have hid:=h.id hdn
  refine ⟨fun i hi=>?_,fun a ha=>?_,fun a ha hk hat=>?_⟩
  ·rw [del_n] at hi
   by_cases hid:i=d
   ·subst hid;rw [e1];exact ht
   ·rw [e2 i hid];exact hb.nd i hi
  ·rw [e] at ha
   rcases List.mem_append.1 (mem_last ha) with ha | ha
   ·exact hb.ms a (by rw [hw];exact List.mem_cons_of_mem _ ha)
   ·rw [(hs.outs a ha).2.1];exact ht
  ·rw [e] at ha
   rcases List.mem_append.1 (mem_last ha) with ha | ha
   ·obtain ⟨i,h1,h2⟩:=hb.pt a (by rw [hw];exact List.mem_cons_of_mem _ ha) hk hat
    exact ⟨i,h1,(leads_del h h2 hb.ms).1⟩
   ·obtain ⟨o1,o2,o3⟩:=hs.outs a ha
    have hr:(rf.step (nd C d) m).1.role=2:=by rcases o3 with o3 | o3 | o3 <;> first | exact o3.2.1 | omega
    exact ⟨d,by rw [o1];exact hid,by rw [del_n];exact hdn,by rw [e1];exact hr,by rw [e1,← o2];exact hat⟩
theorem tb_dels (h:Ok M C) (hM:M < 18446744073709551616) (hb:TB T C):∀ j,TB T (delsC j C)
 | 0=>hb
 | j + 1=>tb_del (ok_dels h hM j) (tb_dels h hM hb j)
theorem leads_dels (h:Ok M C) (hM:M < 18446744073709551616) (hb:TB T C) {i:Nat} (hl:Leads T C i):∀ j,Leads T (delsC j C) i∧(nd (delsC j C) i).idle=(nd C i).idle
 | 0=>⟨hl,rfl⟩
 | j + 1=>by
  obtain ⟨a,b⟩:=leads_dels h hM hb hl j
  obtain ⟨c,d⟩:=leads_del (ok_dels h hM j) a (tb_dels h hM hb j).ms
  exact ⟨c,d.trans b⟩
theorem term_del (h:Ok M C) (i:Nat):(nd C i).term≤(nd (delC C) i).term:=by
 cases hw:C.way with
 | nil=>rw [delC_nil hw];exact Nat.le_refl _
 | cons m r=>
  obtain ⟨d,hd,hdn,e,e1,e2,hs⟩:=del_parts h hw
  by_cases hi:i=d
  ·subst hi;rw [e1];exact hs.t1
  ·rw [e2 i hi];exact Nat.le_refl _
theorem all_del (h:Ok M C) (hb:TB T C) (ha:All T C):All T (delC C):=fun i hi=>by
 have h1:=(tb_del h hb).nd i hi
 rw [del_n] at hi
 have h2:=term_del h i
 have:=ha i hi
 omega
theorem all_dels (h:Ok M C) (hM:M < 18446744073709551616) (hb:TB T C) (ha:All T C):∀ j,All T (delsC j C)
 | 0=>ha
 | j + 1=>all_del (ok_dels h hM j) (tb_dels h hM hb j) (all_dels h hM hb ha j)
theorem idle_del (h:Ok M C) (i:Nat):(nd (delC C) i).idle=(nd C i).idle∨(nd (delC C) i).idle=0:=by
 cases hw:C.way with
 | nil=>rw [delC_nil hw];exact .inl rfl
 | cons m r=>
  obtain ⟨d,hd,hdn,e,e1,e2,hs⟩:=del_parts h hw
  by_cases hi:i=d
  ·subst hi;rw [e1];exact hs.idle
  ·rw [e2 i hi];exact .inl rfl
theorem idle_dels (h:Ok M C) (hM:M < 18446744073709551616) (i:Nat) {v:Int} (hv:0≤v) (h0:(nd C i).idle≤v):∀ j,(nd (delsC j C) i).idle≤v
 | 0=>h0
 | j + 1=>by
  have ih:=idle_dels h hM i hv h0 j
  show (nd (delC (delsC j C)) i).idle≤v
  rcases idle_del (ok_dels h hM j) i with e | e <;> rw [e]
  ·exact ih
  ·exact hv
theorem tickd {i:Nat} (hi:i < C.n):nd (ticksC C.n C) i=(rf.tick (nd C i)).1:=by rw [ticks_nd,if_pos hi]
theorem ok_term (h:Ok M C) {i:Nat} (hi:i < C.n):(nd C i).term≤M:=(h.lim.up i hi (h.up i hi)).term
theorem tickd_term (h:Ok M C) (h2:2≤C.n) (hM:M + C.n < 18446744073709551616) {i:Nat} (hi:i < C.n):(nd (ticksC C.n C) i).term=if stands (nd C i) then (nd C i).term + 1 else (nd C i).term:=by
 have:=h.id hi
 have:=h.n7
 have:=ok_term h hi
 rw [tickd hi]
 exact tick_term (h.many hi) h2 (by omega) (by omega) (by omega)
theorem tickd_idle (h:Ok M C) (h2:2≤C.n) {i:Nat} (hi:i < C.n) (hs:¬ stands (nd C i)) (hr:(nd C i).role ≠ 2):nd (ticksC C.n C) i={ nd C i with idle:=(nd C i).idle + 1 }:=by
 have:=h.id hi
 have:=h.n7
 rw [tickd hi,tick_eq (h.many hi) h2 (by omega) (by omega),if_neg hr,if_neg hs]
theorem tickd_stand (h:Ok M C) (h2:2≤C.n) {i:Nat} (hi:i < C.n) (hs:stands (nd C i)):nd (ticksC C.n C) i=stoodV (nd C i)∧(rf.tick (nd C i)).2=rf.asks (stoodV (nd C i)):=by
 have:=h.id hi
 have:=h.n7
 rw [tickd hi,tick_eq (h.many hi) h2 (by omega) (by omega),if_neg hs.1,if_pos hs]
 exact ⟨rfl,rfl⟩
theorem tickd_out (h:Ok M C) (h2:2≤C.n) {i:Nat} (hi:i < C.n):∀ o ∈ (rf.tick (nd C i)).2,o.frm=(i:Int)∧o.term=(nd (ticksC C.n C) i).term∧(o.kind=1∧stands (nd C i)∨o.kind=3∧(nd C i).role=2):=by
 have hid:=h.id hi
 have:=h.n7
 have:=(tick_out (h.many hi) h2 (by omega) (by omega)).2
 rw [hid] at this
 rw [tickd hi]
 exact this
theorem tb_ticks (h:Ok M C) (h2:2≤C.n) (hM:M + C.n < 18446744073709551616) (hb:TB T C) (hs:∀ i,i < C.n→stands (nd C i)→(nd C i).term + 1≤T):TB T (ticksC C.n C):=by
 obtain ⟨k,b,e,_,_,hb3,_⟩:=ticks_way h h2 C.n (Nat.le_refl _)
 have hnd:∀ i,i < C.n→(nd (ticksC C.n C) i).term≤T:=fun i hi=>by
  rw [tickd_term h h2 hM hi]
  split
  ·exact hs i hi ‹_›
  ·exact hb.nd i hi
 have hl:∀ i,Leads T C i→Leads T (ticksC C.n C) i:=fun i hl=>by
  obtain ⟨h1,h2,h3⟩:=hl
  obtain ⟨a1,a2,_⟩:=tick_role2 h2
  exact ⟨by rw [ticks_n];exact h1,by rw [tickd h1];exact a1,by rw [tickd h1];exact a2.trans h3⟩
 refine ⟨fun i hi=>?_,fun m hm=>?_,fun m hm hk ht=>?_⟩
 ·rw [ticks_n] at hi;exact hnd i hi
 ·rw [e] at hm
  rcases List.mem_append.1 hm with hm | hm
  ·exact hb.ms m (List.mem_of_mem_drop hm)
  ·obtain ⟨i,hi,hm⟩:=hb3 m hm
   rw [(tickd_out h h2 hi m hm).2.1]
   exact hnd i hi
 ·rw [e] at hm
  rcases List.mem_append.1 hm with hm | hm
  ·obtain ⟨i,h1,h2⟩:=hb.pt m (List.mem_of_mem_drop hm) hk ht
   exact ⟨i,h1,hl i h2⟩
  ·obtain ⟨i,hi,hm⟩:=hb3 m hm
   obtain ⟨o1,o2,o3⟩:=tickd_out h h2 hi m hm
   have hr:(nd C i).role=2:=by rcases o3 with o3 | o3 <;> first | exact o3.2 | omega
   refine ⟨i,o1,hl i ⟨hi,hr,?_⟩⟩
   obtain ⟨a1,a2,_⟩:=tick_role2 hr
   rw [tickd hi,a2] at o2
   rw [← o2];exact ht
theorem g1_ticks (h:Ok M C) (h2:2≤C.n) (hn:NoAV C):∀ m ∈ (ticksC C.n C).way,m.kind ≠ 2:=by
 obtain ⟨k,b,e,_,_,hb3,_⟩:=ticks_way h h2 C.n (Nat.le_refl _)
 intro m hm
 rw [e] at hm
 rcases List.mem_append.1 hm with hm | hm
 ·exact (hn m (List.mem_of_mem_drop hm)).2
 ·obtain ⟨i,hi,hm⟩:=hb3 m hm
  rcases (tickd_out h h2 hi m hm).2.2 with o | o <;> omega
def NoHi (T:Nat) (C:Clu):Prop:=∀ m ∈ C.way,m.term=T→m.kind ≠ 1∧(m.kind=2→m.ok=false)
theorem nohi_del (h:Ok M C) (hn:NoHi T C):NoHi T (delC C):=by
 cases hw:C.way with
 | nil=>rw [delC_nil hw];exact hn
 | cons m r=>
  have hm:m ∈ C.way:=by rw [hw];exact List.mem_cons_self
  obtain ⟨d,hd,hdn,e,e1,e2,hs⟩:=del_parts h hw
  intro a ha hat
  rw [e] at ha
  rcases List.mem_append.1 (mem_last ha) with ha | ha
  ·exact hn a (by rw [hw];exact List.mem_cons_of_mem _ ha) hat
  ·obtain ⟨o1,o2,o3⟩:=hs.outs a ha
   refine ⟨by rcases o3 with o3 | o3 | o3 <;> omega,fun hk=>?_⟩
   rcases o3 with o3 | o3 | o3
   ·cases ho:a.ok with
    | false=>rfl
    | true=>
     have h1:=o3.2.2 ho
     exact absurd o3.2.1 (hn m hm (by rw [h1,← o2];exact hat)).1
   ·omega
   ·omega
theorem nl_del (h:Ok M C) (hn:NoHi T C) (hl:NL T C):NL T (delC C):=by
 cases hw:C.way with
 | nil=>rw [delC_nil hw];exact hl
 | cons m r=>
  have hm:m ∈ C.way:=by rw [hw];exact List.mem_cons_self
  intro i hi
  rcases lead_new h hw hi with h1 | ⟨_,h2,h3,h4,_⟩
  ·exact hl i h1
  ·have:=(hn m hm h4).2 h2
   rw [h3] at this
   cases this
theorem step_rest {x:rf.Node} {m:rf.Msg} (he:m.term=x.term) (hr:x.role ≠ 2) (h1:m.kind ≠ 1) (h2:m.kind=2→m.ok=false) (h3:m.kind ≠ 3):rf.step x m=(x,[]):=by
 cases hm:rf.meant x m with
 | false=>exact step_not hm
 | true=>
  rw [step_of hm,fresh_le (by omega),if_neg h1]
  by_cases k2:m.kind=2
  ·rw [if_pos k2]
   unfold rf.vote
   rw [if_neg (fun h=>by rw [h2 k2] at h;cases h.2.2)]
  ·rw [if_neg k2,if_neg h3]
   unfold rf.heard
   rw [if_neg (fun h=>hr h.1)]
theorem hi_del (h:Ok M C) (hb:TB T C) (hn:NoHi T C) (hl:NL T C) {i:Nat} (hi:i < C.n) (ht:(nd C i).term=T):nd (delC C) i=nd C i:=by
 cases hw:C.way with
 | nil=>rw [delC_nil hw]
 | cons m r=>
  have hm:m ∈ C.way:=by rw [hw];exact List.mem_cons_self
  obtain ⟨d,hd,hdn,e,e1,e2,hs⟩:=del_parts h hw
  by_cases hid:i=d
  ·subst hid
   rw [e1]
   have hmt:=hb.ms m hm
   by_cases hlt:m.term < (nd C i).term
   ·exact (hs.low hlt).1
   ·have he:m.term=(nd C i).term:=by omega
    obtain ⟨n1,n2⟩:=hn m hm (by omega)
    rw [step_rest he (fun hr=>hl i ⟨hi,hr,ht⟩) n1 n2 fun h3=>by
     obtain ⟨j,_,hj⟩:=hb.pt m hm h3 (by omega)
     exact hl j hj]
  ·exact e2 i hid
theorem quiet_nl (h:Ok M C) (h2:2≤C.n) (hM:M + C.n < 18446744073709551616) (hb:TB T C) (hn:NoAV C) (hl:NL T C) (hq:∀ i,i < C.n→stands (nd C i)→(nd C i).term + 1 < T) :
  TB T (roundC C)∧NL T (roundC C)∧∀ i,i < C.n→(nd C i).term=T→nd (roundC C) i={ nd C i with idle:=(nd C i).idle + 1 }:=by
 have hb1:=tb_ticks h h2 hM hb fun i hi hs=>Nat.le_of_lt (hq i hi hs)
 have ho1:=ok_ticks h C.n (Nat.le_refl _) hM
 obtain ⟨k,b,e,_,_,hb3,_⟩:=ticks_way h h2 C.n (Nat.le_refl _)
 have hh1:NoHi T (ticksC C.n C):=by
  intro m hm ht
  rw [e] at hm
  rcases List.mem_append.1 hm with hm | hm
  ·obtain ⟨a,b⟩:=hn m (List.mem_of_mem_drop hm)
   exact ⟨a,fun hk=>absurd hk b⟩
  ·obtain ⟨i,hi,hm⟩:=hb3 m hm
   obtain ⟨o1,o2,o3⟩:=tickd_out h h2 hi m hm
   rcases o3 with ⟨o3,o4⟩ | o3
   ·have:=hq i hi o4
    rw [tickd_term h h2 hM hi,if_pos o4] at o2
    omega
   ·exact ⟨by omega,fun hk=>by omega⟩
 have hl1:NL T (ticksC C.n C):=by
  intro i ⟨h1,h3,h4⟩
  rw [ticks_n] at h1
  by_cases hr:(nd C i).role=2
  ·rw [tickd h1,(tick_role2 hr).2.1] at h4
   exact hl i ⟨h1,hr,h4⟩
  ·by_cases hs:stands (nd C i)
   ·rw [(tickd_stand h h2 h1 hs).1] at h3
    cases h3
   ·rw [tickd_idle h h2 h1 hs hr] at h3
    exact hr h3
 have key:∀ j,NoHi T (delsC j (ticksC C.n C))∧NL T (delsC j (ticksC C.n C))∧∀ i,i < C.n→(nd C i).term=T→nd (delsC j (ticksC C.n C)) i={ nd C i with idle:=(nd C i).idle + 1 }:=by
  intro j
  induction j with
  | zero=>
   refine ⟨hh1,hl1,fun i hi ht=>tickd_idle h h2 hi (fun hs=>by have:=hq i hi hs;omega) fun hr=>hl i ⟨hi,hr,ht⟩⟩
  | succ j ih=>
   obtain ⟨i1,i2,i3⟩:=ih
   have oj:=ok_dels ho1 hM j
   have bj:=tb_dels ho1 hM hb1 j
   refine ⟨nohi_del oj i1,nl_del oj i1 i2,fun i hi ht=>?_⟩
   have e3:=i3 i hi ht
   show nd (delC (delsC j (ticksC C.n C))) i=_
   rw [hi_del oj bj i1 i2 (by rw [dels_n,ticks_n];exact hi) (by rw [e3];exact ht),e3]
 exact ⟨tb_dels ho1 hM hb1 500,(key 500).2⟩
end
end cl
end Go.Proofs.YtmcibggjolckoaaGreatDoor
namespace Go.Proofs.YtmcibggjolckoaaGreatDoor
namespace cl
open rl (Ent e0)
set_option maxRecDepth 100000
theorem put_zero {x:rf.Node} {m:rf.Msg} (hm:rf.meant x m=true) (hk:m.kind=3) (ht:x.term≤m.term):(rf.step x m).1.idle=0∧(rf.step x m).1.term=m.term∧(rf.step x m).1.role=0:=by
 have ft:(rf.fresh x m).term=m.term:=by rw [fresh_term];omega
 rw [step_of hm,if_neg (by omega),if_neg (by omega),if_pos hk]
 by_cases hy:rl.termAt (rf.fresh x m).log m.index=(m.at_,true)
 ·rw [put_yes ft.symm hy];exact ⟨rfl,ft,rfl⟩
 ·rw [put_no ft.symm hy];exact ⟨rfl,ft,rfl⟩
def PutTo (T l x:Nat) (m:rf.Msg):Prop:=m.kind=3∧m.term=T∧m.frm=(l:Int)∧m.dst=(x:Int)
def Zed (T:Nat) (v:Int) (x:Nat) (C:Clu):Prop:=(nd C x).term=T∧(nd C x).idle≤v
structure W (T l:Nat) (C:Clu):Prop where
 tb:TB T C
 ld:Leads T C l
 pz:∀ x,x < C.n→x ≠ l→(∃ m ∈ C.way,PutTo T l x m)∨Zed T (nd C l).idle x C
structure S (T l:Nat) (C:Clu):Prop where
 tb:TB T C
 ld:Leads T C l
 zd:∀ x,x < C.n→x ≠ l→Zed T (nd C l).idle x C
section
variable {M T l:Nat} {C:Clu}
theorem put_meant (h:Ok M C) {m:rf.Msg} {x:Nat} (hx:x < C.n) (hl:l < C.n) (hne:x ≠ l) (hp:PutTo T l x m):rf.meant (nd C x) m=true:=by
 obtain ⟨h1,h2,h3,h4⟩:=hp
 have:=h.id hx
 have:=h.many hx
 have:=h.n7
 unfold rf.meant
 simp only [Bool.and_eq_true,decide_eq_true_eq]
 omega
theorem zed_del (h:Ok M C) (hb:TB T C) {v:Int} (hv:0≤v) {x:Nat} (hx:x < C.n) (hz:Zed T v x C):Zed T v x (delC C):=by
 obtain ⟨h1,h2⟩:=hz
 have a:=term_del h x
 have b:=(tb_del h hb).nd x (by rw [del_n];exact hx)
 refine ⟨by omega,?_⟩
 rcases idle_del h x with e | e <;> rw [e]
 ·exact h2
 ·exact hv
theorem put_del (h:Ok M C) (hb:TB T C) {v:Int} (hv:0≤v) {x:Nat} (hx:x < C.n) (hl:l < C.n) (hne:x ≠ l) {m:rf.Msg} {r:List rf.Msg} (hw:C.way=m :: r) (hp:PutTo T l x m):Zed T v x (delC C):=by
 obtain ⟨d,hd,hdn,e,e1,e2,hs⟩:=del_parts h hw
 have hxd:x=d:=by have:=hp.2.2.2;omega
 subst hxd
 obtain ⟨a,b,_⟩:=put_zero (put_meant h hx hl hne hp) hp.1 (by rw [hp.2.1];exact hb.nd x hx)
 unfold Zed
 rw [e1]
 exact ⟨b.trans hp.2.1,by rw [a];exact hv⟩
theorem one_led (h:Ok M C) (hb:TB T C) (ha:All T C) (hl:Leads T C l) {m:rf.Msg} {r:List rf.Msg} {d:Nat} (hw:C.way=m :: r) (hd:m.dst=(d:Int)) (hdn:d < C.n) (hM:M < 18446744073709551616):(rf.step (nd C d) m).2.length≤1:=by
 obtain ⟨d',hd',_,e,e1,e2,hs⟩:=del_parts h hw
 have:d=d':=by omega
 subst this
 refine hs.two ?_
 by_cases h2:(rf.step (nd C d) m).1.role=2
 ·right
  have hk:Leads T (delC C) d:=⟨by rw [del_n];exact hdn,by rw [e1];exact h2,all_del h hb ha d (by rw [del_n];exact hdn)⟩
  have:=leads_one (ok_del h hM) hk (leads_del h hl hb.ms).1
  rw [this]
  exact hl.2.1
 ·exact .inl h2
theorem puts_in (h:Ok M C) (hM:M < 18446744073709551616) (hb:TB T C) (hl:Leads T C l) (hi0:0≤(nd C l).idle) {k:Nat} (hk:k≤C.way.length) (hnv:∀ m ∈ C.way.take k,m.kind ≠ 2) (hp:∀ x,x < C.n→x ≠ l→(∃ m ∈ C.way.take k,PutTo T l x m)∨Zed T (nd C l).idle x C) :
  ∀ x,x < C.n→x ≠ l→Zed T (nd C l).idle x (delsC k C):=by
 obtain ⟨v,hv⟩:∃ v,(nd C l).idle=v:=⟨_,rfl⟩
 rw [hv] at hp hi0 ⊢
 obtain ⟨n,hn⟩:∃ n,C.n=n:=⟨_,rfl⟩
 rw [hn] at hp ⊢
 have:=gen1 (M:=M) (P:=fun m=>m.kind ≠ 2) (I:=fun C=>TB T C∧Leads T C l∧C.n=n) (X:=fun x=>x < n∧x ≠ l) (W:=fun x m=>PutTo T l x m) (Q:=fun x C=>Zed T v x C) hM
  (fun C m r d h hI hw hd hdn hP=>(stp _ _).one hP)
  (fun C m r h hI hw hP=>⟨tb_del h hI.1,(leads_del h hI.2.1 hI.1.ms).1,by rw [del_n];exact hI.2.2⟩)
  (fun C m r x h hI hw hP hX hQ=>zed_del h hI.1 hi0 (by rw [hI.2.2];exact hX.1) hQ)
  (fun C m r x h hI hw hP hX hW=>put_del h hI.1 hi0 (by rw [hI.2.2];exact hX.1) hI.2.1.1 hX.2 hw hW)
  k C h ⟨hb,hl,hn⟩ ⟨hk,hnv⟩ (fun x hX=>hp x hX.1 hX.2)
 exact fun x hx hne=>this.2.2 x ⟨hx,hne⟩
theorem zed_dels (h:Ok M C) (hM:M < 18446744073709551616) (hb:TB T C) {v:Int} (hv:0≤v) {x:Nat} (hx:x < C.n) (hz:Zed T v x C):∀ j,Zed T v x (delsC j C)
 | 0=>hz
 | j + 1=>zed_del (ok_dels h hM j) (tb_dels h hM hb j) hv (by rw [dels_n];exact hx) (zed_dels h hM hb hv hx hz j)
theorem leads_ticks (hl:Leads T C l):Leads T (ticksC C.n C) l∧(nd (ticksC C.n C) l).idle=if 3≤(nd C l).idle + 1 then 0 else (nd C l).idle + 1:=by
 obtain ⟨h1,h2,h3⟩:=hl
 obtain ⟨a1,a2,a3,_⟩:=tick_role2 h2
 exact ⟨⟨by rw [ticks_n];exact h1,by rw [tickd h1];exact a1,by rw [tickd h1];exact a2.trans h3⟩,by rw [tickd h1];exact a3⟩
theorem beat_round (h:Ok M C) (h2:2≤C.n) (hM:M + C.n < 18446744073709551616) (hb:TB T C) (hn:NoAV C) (hl:Leads T C l) (hq:∀ i,i < C.n→stands (nd C i)→(nd C i).term + 1≤T) (hbt:3≤(nd C l).idle + 1) :
  S T l (roundC C)∧(nd (roundC C) l).idle=0:=by
 have hb1:=tb_ticks h h2 hM hb hq
 have ho1:=ok_ticks h C.n (Nat.le_refl _) hM
 obtain ⟨hl1,hid1⟩:=leads_ticks hl
 rw [if_pos hbt] at hid1
 obtain ⟨k,b,e,_,hb2,_,_⟩:=ticks_way h h2 C.n (Nat.le_refl _)
 have h7:=h.n7
 have hln:=hl.1
 have hlid:=h.id hln
 have hq1:(ticksC C.n C).way.length≤200:=ho1.w200
 have hz:=puts_in ho1 hM hb1 hl1 (by rw [hid1];exact Int.le_refl _) (k:=(ticksC C.n C).way.length) (Nat.le_refl _) (by rw [List.take_length];exact g1_ticks h h2 hn) fun x hx hne=>by
  left
  rw [List.take_length,e]
  rw [ticks_n] at hx
  refine ⟨rf.stamp { nd C l with idle:=0 } (rf.putMsg { nd C l with idle:=0 } x),List.mem_append_right _ (hb2 l hln _ ?_),rfl,hl.2.2,hlid,rfl⟩
  rw [tick_eq (h.many hln) h2 (by omega) (by omega),if_pos hl.2.1,if_pos hbt]
  exact mem_puts (by have:=h.size hln;show x < rf.size (nd C l);omega) (by show (x:Int) ≠ (nd C l).id;omega)
 rw [hid1] at hz
 obtain ⟨q,hqq⟩:∃ q,(ticksC C.n C).way.length=q:=⟨_,rfl⟩
 rw [hqq] at hz hq1
 have eq:roundC C=delsC (500 - q) (delsC q (ticksC C.n C)):=by
  rw [← dels_add,show q + (500 - q)=500 by omega];rfl
 have hoq:=ok_dels ho1 hM q
 have hbq:=tb_dels ho1 hM hb1 q
 obtain ⟨l5,i5⟩:=leads_dels ho1 hM hb1 hl1 500
 have i5:(nd (roundC C) l).idle=0:=i5.trans hid1
 refine ⟨⟨tb_dels ho1 hM hb1 500,l5,fun x hx hne=>?_⟩,i5⟩
 rw [i5,eq]
 rw [round_n] at hx
 exact zed_dels hoq hM hbq (Int.le_refl _) (by rw [dels_n,ticks_n];exact hx) (hz x (by rw [ticks_n];exact hx) hne) _
theorem w_round (h:Ok M C) (h2:2≤C.n) (hM:M + C.n < 18446744073709551616) (hn:NoAV C) (hW:W T l C) (ha:All T C) (hi0:0≤(nd C l).idle) (hq:∀ i,i < C.n→¬ stands (nd C i)) (hbt:¬ 3≤(nd C l).idle + 1) :
  S T l (roundC C)∧(nd (roundC C) l).idle=(nd C l).idle + 1:=by
 have hb:=hW.tb
 have hl:=hW.ld
 have hb1:=tb_ticks h h2 hM hb fun i hi hs=>absurd hs (hq i hi)
 have ho1:=ok_ticks h C.n (Nat.le_refl _) hM
 obtain ⟨hl1,hid1⟩:=leads_ticks hl
 rw [if_neg hbt] at hid1
 obtain ⟨k,b,e,_,_,hb3,hb4⟩:=ticks_way h h2 C.n (Nat.le_refl _)
 have hbn:b=[]:=by
  rcases b with _ | ⟨m,b⟩
  ·rfl
  ·exfalso
   obtain ⟨i,hi,hm⟩:=hb3 m List.mem_cons_self
   rcases (tickd_out h h2 hi m hm).2.2 with o | o
   ·exact hq i hi o.2
   ·have:i=l:=leads_one h ⟨hi,o.2,ha i hi⟩ hl
    subst this
    rw [show (rf.tick (nd C i)).2=[] by unfold rf.tick;rw [if_pos hl.2.1,if_neg hbt]] at hm
    cases hm
 subst hbn
 have hk:=hb4 (by have:=h.w200;simpa using this)
 subst hk
 rw [List.drop_zero,List.append_nil] at e
 have hln:=hl.1
 have hq1:(ticksC C.n C).way.length≤200:=ho1.w200
 have hz:=puts_in ho1 hM hb1 hl1 (by rw [hid1];omega) (k:=(ticksC C.n C).way.length) (Nat.le_refl _) (by rw [List.take_length];exact g1_ticks h h2 hn) fun x hx hne=>by
  rw [ticks_n] at hx
  rw [List.take_length,e,hid1]
  rcases hW.pz x hx hne with hp | ⟨h1,h3⟩
  ·exact .inl hp
  ·right
   have hr:(nd C x).role ≠ 2:=fun hr=>hne (leads_one h ⟨hx,hr,ha x hx⟩ hl)
   unfold Zed
   rw [tickd_idle h h2 hx (hq x hx) hr]
   exact ⟨h1,by show (nd C x).idle + 1≤_;omega⟩
 rw [hid1] at hz
 obtain ⟨q,hqq⟩:∃ q,(ticksC C.n C).way.length=q:=⟨_,rfl⟩
 rw [hqq] at hz hq1
 have eq:roundC C=delsC (500 - q) (delsC q (ticksC C.n C)):=by
  rw [← dels_add,show q + (500 - q)=500 by omega];rfl
 have hoq:=ok_dels ho1 hM q
 have hbq:=tb_dels ho1 hM hb1 q
 obtain ⟨l5,i5⟩:=leads_dels ho1 hM hb1 hl1 500
 have i5:(nd (roundC C) l).idle=(nd C l).idle + 1:=i5.trans hid1
 refine ⟨⟨tb_dels ho1 hM hb1 500,l5,fun x hx hne=>?_⟩,i5⟩
 rw [i5,eq]
 rw [round_n] at hx
 exact zed_dels hoq hM hbq (by omega) (by rw [dels_n,ticks_n];exact hx) (hz x (by rw [ticks_n];exact hx) hne) _
theorem l_round (h:Ok M C) (h2:2≤C.n) (hM:M + C.n < 18446744073709551616) (hb:TB T C) (hl:Leads T C l) (hq:∀ i,i < C.n→stands (nd C i)→(nd C i).term + 1≤T) (hbt:¬ 3≤(nd C l).idle + 1) :
  TB T (roundC C)∧Leads T (roundC C) l∧(nd (roundC C) l).idle=(nd C l).idle + 1:=by
 have hb1:=tb_ticks h h2 hM hb hq
 have ho1:=ok_ticks h C.n (Nat.le_refl _) hM
 obtain ⟨hl1,hid1⟩:=leads_ticks hl
 rw [if_neg hbt] at hid1
 obtain ⟨l5,i5⟩:=leads_dels ho1 hM hb1 hl1 500
 exact ⟨tb_dels ho1 hM hb1 500,l5,i5.trans hid1⟩
theorem S.all (hS:S T l C):All T C:=fun i hi=>by
 by_cases h:i=l
 ·subst h;exact hS.ld.2.2
 ·exact (hS.zd i hi h).1
theorem S.quiet (h:Ok M C) (hS:S T l C):∀ i,i < C.n→¬ stands (nd C i):=by
 intro i hi hs
 have h2:=(h.nx l hS.ld.1).i2 hS.ld.2.1
 have hid:=h.id hi
 by_cases hil:i=l
 ·subst hil;exact hs.1 hS.ld.2.1
 ·have:=(hS.zd i hi hil).2
  have:=hs.2
  omega
theorem s_round (h:Ok M C) (h2:2≤C.n) (hM:M + C.n < 18446744073709551616) (hn:NoAV C) (hS:S T l C):S T l (roundC C)∧(nd (roundC C) l).idle=(if 3≤(nd C l).idle + 1 then 0 else (nd C l).idle + 1):=by
 have hq:=hS.quiet h
 by_cases hbt:3≤(nd C l).idle + 1
 ·rw [if_pos hbt]
  exact beat_round h h2 hM hS.tb hn hS.ld (fun i hi hs=>absurd hs (hq i hi)) hbt
 ·rw [if_neg hbt]
  exact w_round h h2 hM hn ⟨hS.tb,hS.ld,fun x hx hne=>.inr (hS.zd x hx hne)⟩ hS.all (h.nx l hS.ld.1).i0 hq hbt
end
end cl
end Go.Proofs.YtmcibggjolckoaaGreatDoor
namespace Go.Proofs.YtmcibggjolckoaaGreatDoor
namespace cl
open rl (Ent e0)
set_option maxRecDepth 100000
structure Stv (x:rf.Node) (m:rf.Msg) (y:rf.Node) (out:List rf.Msg):Prop where
 vote:y.term=x.term→x.vote ≠ -1→y.vote=x.vote
 votes:y.votes=x.votes∨(m.kind=2∧m.ok=true∧m.term=x.term∧x.role=1∧y.votes=x.votes.set m.frm.toNat true)
 ok:∀ o ∈ out,o.kind=2→o.ok=true→m.kind=1∧m.term=y.term∧y.vote=m.frm∧y.idle=0∧o.dst=m.frm
 log:y.log=x.log∨(m.kind=3∧m.term=y.term)∨(m.kind=2∧y.role=2)
 idle:y.idle=x.idle∨(m.kind=3∧m.term=y.term)∨(m.kind=2∧y.role=2)∨(m.kind=1∧m.term=y.term∧y.vote=m.frm)
 votex:y.term=x.term→y.vote=x.vote∨(m.kind=1∧m.term=y.term∧x.vote = -1∧y.vote=m.frm∧y.idle=0∧rl.newer x.log m.at_ m.index=true∧∃ o ∈ out,o.kind=2∧o.ok=true∧o.dst=m.frm∧o.frm=y.id∧o.term=y.term)
theorem stv_none {x:rf.Node} {m:rf.Msg}:Stv x m x []:=⟨fun _ _=>rfl,.inl rfl,fun o ho=>(by cases ho),.inl rfl,.inl rfl,fun _=>.inl rfl⟩
theorem askOk_parts {x:rf.Node} {m:rf.Msg} (h:rf.askOk x m=true):m.term=x.term∧(x.vote = -1∨x.vote=m.frm)∧rl.newer x.log m.at_ m.index=true:=by
 unfold rf.askOk at h
 simp only [Bool.and_eq_true,Bool.or_eq_true,decide_eq_true_eq] at h
 exact ⟨h.1.1,h.1.2,h.2⟩
theorem stv_ask {x:rf.Node} {m:rf.Msg} (k1:m.kind=1):Stv x m (rf.ask x m).1 (rf.ask x m).2:=by
 unfold rf.ask
 by_cases ha:rf.askOk x m=true
 ·rw [if_pos ha]
  obtain ⟨h1,h2,h3⟩:=askOk_parts ha
  refine ⟨fun _ hv=>?_,.inl rfl,fun o ho _ _=>?_,.inl rfl,.inr (.inr (.inr ⟨k1,h1,rfl⟩)),fun _=>?_⟩
  ·show m.frm=x.vote
   rcases h2 with h2 | h2
   ·exact absurd h2 hv
   ·exact h2.symm
  ·rw [List.mem_singleton.1 ho]
   exact ⟨k1,h1,rfl,rfl,rfl⟩
  ·rcases h2 with h2 | h2
   ·exact .inr ⟨k1,h1,h2,rfl,rfl,h3,_,List.mem_singleton.2 rfl,rfl,rfl,rfl,rfl,rfl⟩
   ·exact .inl h2.symm
 ·rw [if_neg ha]
  refine ⟨fun _ _=>rfl,.inl rfl,fun o ho _ hok=>?_,.inl rfl,.inl rfl,fun _=>.inl rfl⟩
  rw [List.mem_singleton.1 ho] at hok
  cases hok
theorem lead_votes (x:rf.Node):(rf.lead x).1.votes=x.votes:=by
 unfold rf.lead rf.add
 dsimp only
 rw [tally_with]
 rfl
theorem stv_vote {x:rf.Node} {m:rf.Msg} (k:m.kind=2) (hf0:0≤m.frm) (hf7:m.frm < 7):Stv x m (rf.vote x m).1 (rf.vote x m).2:=by
 unfold rf.vote
 by_cases hv:x.role=1∧m.term=x.term∧m.ok=true
 ·rw [if_pos hv]
  obtain ⟨v1,v2,v3⟩:=hv
  cases he:rf.elected { x with votes:=x.votes.set m.frm.toNat true } with
  | false=>
   rw [voted_not hf0 hf7 he]
   exact ⟨fun _ _=>rfl,.inr ⟨k,v3,v2,v1,rfl⟩,fun o ho=>(by cases ho),.inl rfl,.inl rfl,fun _=>.inl rfl⟩
  | true=>
   rw [voted_yes hf0 hf7 he]
   obtain ⟨a1,a2,a3,a4,a5,a6,a7,a8,a9⟩:=lead_parts { x with votes:=x.votes.set m.frm.toNat true }
   refine ⟨fun _ _=>a6,.inr ⟨k,v3,v2,v1,lead_votes _⟩,fun o ho hk=>?_,.inr (.inr ⟨k,a3⟩),.inr (.inr (.inl ⟨k,a3⟩)),fun _=>.inl a6⟩
   rw [a8] at ho
   obtain ⟨j,_,_,rfl⟩:=puts_mem ho
   exact absurd (show (3:Int)=2 from hk) (by decide)
 ·rw [if_neg hv]
  exact stv_none
theorem stv_put {x:rf.Node} {m:rf.Msg} (k:m.kind=3) (hle:m.term≤x.term):Stv x m (rf.put x m).1 (rf.put x m).2:=by
 by_cases hlt:m.term < x.term
 ·rw [put_low hlt]
  refine ⟨fun _ _=>rfl,.inl rfl,fun o ho hk=>?_,.inl rfl,.inl rfl,fun _=>.inl rfl⟩
  rw [List.mem_singleton.1 ho] at hk
  exact absurd (show (4:Int)=2 from hk) (by decide)
 ·have he:m.term=x.term:=by omega
  by_cases hm:rl.termAt x.log m.index=(m.at_,true)
  ·rw [put_yes he hm]
   refine ⟨fun _ _=>rfl,.inl rfl,fun o ho hk=>?_,.inr (.inl ⟨k,he⟩),.inr (.inl ⟨k,he⟩),fun _=>.inl rfl⟩
   rw [List.mem_singleton.1 ho] at hk
   exact absurd (show (4:Int)=2 from hk) (by decide)
  ·rw [put_no he hm]
   refine ⟨fun _ _=>rfl,.inl rfl,fun o ho hk=>?_,.inl rfl,.inr (.inl ⟨k,he⟩),fun _=>.inl rfl⟩
   rw [List.mem_singleton.1 ho] at hk
   exact absurd (show (4:Int)=2 from hk) (by decide)
theorem heard_votes {x:rf.Node} {m:rf.Msg}:(rf.heard x m).1.vote=x.vote∧(rf.heard x m).1.votes=x.votes∧(rf.heard x m).1.log=x.log∧(rf.heard x m).1.idle=x.idle∧∀ o ∈ (rf.heard x m).2,o.kind=3:=by
 unfold rf.heard
 split
 ·split
  ·have e:∀ y,(rf.tally y).votes=y.votes:=fun y=>by rw [tally_with]
   obtain ⟨e1,e2,e3,e4,e5,e6,_,e8,e9⟩:=tally_same (rf.heardYes x m.frm.toNat m.index)
   split
   ·exact ⟨e9,e _,e8,e5,fun o ho=>by rw [List.mem_singleton.1 ho];rfl⟩
   ·exact ⟨e9,e _,e8,e5,fun o ho=>(by cases ho)⟩
  ·exact ⟨rfl,rfl,rfl,rfl,fun o ho=>by rw [List.mem_singleton.1 ho];rfl⟩
 ·exact ⟨rfl,rfl,rfl,rfl,fun o ho=>(by cases ho)⟩
theorem stv_heard {x:rf.Node} {m:rf.Msg}:Stv x m (rf.heard x m).1 (rf.heard x m).2:=by
 obtain ⟨a,b,c,d,e⟩:=heard_votes (x:=x) (m:=m)
 exact ⟨fun _ _=>a,.inl b,fun o ho hk=>by have:=e o ho;omega,.inl c,.inl d,fun _=>.inl a⟩
theorem stv_fresh {x:rf.Node} {m:rf.Msg} (hm:rf.meant x m=true):Stv (rf.fresh x m) m (rf.step x m).1 (rf.step x m).2:=by
 obtain ⟨m1,m2,m3,m4,m5,m6⟩:=meant_kind hm
 rw [step_of hm]
 have hy:m.term≤(rf.fresh x m).term:=by rw [fresh_term];omega
 by_cases k1:m.kind=1
 ·rw [if_pos k1];exact stv_ask k1
 ·rw [if_neg k1]
  by_cases k2:m.kind=2
  ·rw [if_pos k2];exact stv_vote k2 m2 (by omega)
  ·rw [if_neg k2]
   by_cases k3:m.kind=3
   ·rw [if_pos k3];exact stv_put k3 hy
   ·rw [if_neg k3];exact stv_heard
theorem stv (x:rf.Node) (m:rf.Msg):Stv x m (rf.step x m).1 (rf.step x m).2:=by
 cases hm:rf.meant x m with
 | false=>rw [step_not hm];exact stv_none
 | true=>
  have h:=stv_fresh hm
  have hp:=stp_fresh hm
  by_cases hle:m.term≤x.term
  ·rw [fresh_le hle] at h
   exact h
  ·have hlt:x.term < m.term:=by omega
   obtain ⟨f1,f2,f3,f4,f5,f6,f7,f8⟩:=fresh_keep x m
   have ft:=fresh_term x m
   have t1:=hp.t1
   refine ⟨fun ht=>by omega,?_,h.ok,?_,?_,fun ht=>by omega⟩
   ·rcases h.votes with e | ⟨e1,e2,e3,e4,e5⟩
    ·exact .inl (e.trans f7)
    ·rw [fresh_lt hlt] at e4
     exact absurd (show (0:Int)=1 from e4) (by decide)
   ·rcases h.log with e | e
    ·exact .inl (e.trans f3)
    ·exact .inr e
   ·rcases h.idle with e | e
    ·exact .inl (e.trans f4)
    ·exact .inr e
theorem lead_out {x:rf.Node} {m:rf.Msg} (h2:(rf.step x m).1.role=2) (hr:x.role ≠ 2):(rf.step x m).2=rf.puts (rf.step x m).1∧rf.elected { x with votes:=x.votes.set m.frm.toNat true }=true∧(rf.step x m).1=(rf.lead { x with votes:=x.votes.set m.frm.toNat true }).1:=by
 obtain ⟨_,r2⟩:=(stp x m).role2 h2
 rcases r2 with r2 | ⟨r1,k,ok,ht,_⟩
 ·exact absurd r2 hr
 ·cases hm:rf.meant x m with
  | false=>rw [step_not hm] at h2;exact absurd h2 hr
  | true=>
   obtain ⟨m1,m2,m3,m4,m5,m6⟩:=meant_kind hm
   rw [step_of hm,if_neg (by omega),if_pos k,fresh_le (by omega)] at h2 ⊢
   unfold rf.vote at h2 ⊢
   rw [if_pos ⟨r1,ht,ok⟩] at h2 ⊢
   cases he:rf.elected { x with votes:=x.votes.set m.frm.toNat true } with
   | false=>
    rw [voted_not m2 (by omega) he] at h2
    exact absurd h2 hr
   | true=>
    rw [voted_yes m2 (by omega) he]
    obtain ⟨a1,a2,a3,a4,a5,a6,a7,a8,a9⟩:=lead_parts { x with votes:=x.votes.set m.frm.toNat true }
    exact ⟨a8,rfl,rfl⟩
theorem vote_not {x:rf.Node} {m:rf.Msg} (hm:rf.meant x m=true) (hk:m.kind=2) (ht:m.term=x.term) (hok:m.ok=true) (hr:x.role=1) (h2:(rf.step x m).1.role ≠ 2):rf.elected { x with votes:=x.votes.set m.frm.toNat true }=false∧(rf.step x m)=({ x with votes:=x.votes.set m.frm.toNat true },[]):=by
 obtain ⟨m1,m2,m3,m4,m5,m6⟩:=meant_kind hm
 rw [step_of hm,if_neg (by omega),if_pos hk,fresh_le (by omega)] at h2 ⊢
 unfold rf.vote at h2 ⊢
 rw [if_pos ⟨hr,ht,hok⟩] at h2 ⊢
 cases he:rf.elected { x with votes:=x.votes.set m.frm.toNat true } with
 | false=>exact ⟨rfl,voted_not m2 (by omega) he⟩
 | true=>
  rw [voted_yes m2 (by omega) he] at h2
  exact absurd (lead_parts { x with votes:=x.votes.set m.frm.toNat true }).2.2.1 h2
end cl
end Go.Proofs.YtmcibggjolckoaaGreatDoor
namespace Go.Proofs.YtmcibggjolckoaaGreatDoor
namespace cl
open rl (Ent e0)
set_option maxRecDepth 100000
structure VI (T:Nat) (Sd:Nat→Prop) (D:Clu):Prop where
 q:∀ m ∈ D.way,m.kind=1→m.term=T→∃ s:Nat,Sd s∧m.frm=(s:Int)
 v:∀ m ∈ D.way,m.kind=2→m.ok=true→m.term=T→∃ s x:Nat,Sd s∧x < D.n∧m.dst=(s:Int)∧m.frm=(x:Int)∧(nd D x).term=T∧(nd D x).vote=(s:Int)∧(nd D x).idle=0
 c:∀ s,Sd s→s < D.n→(nd D s).role=1→(nd D s).term=T→∀ x,x < D.n→(nd D s).votes.getD x false=true→(nd D x).term=T∧(nd D x).vote=(s:Int)∧(nd D x).idle=0
structure W2 (T l:Nat) (D:Clu):Prop where
 w:W T l D
 all:All T D
 i0:(nd D l).idle=0
 mj:maj D.n fun k=>decide ((nd D k).idle≤0)
def wt (m:rf.Msg):Nat:=if m.kind=1∨m.kind=3 then 2 else 1
def ws (l:List rf.Msg):Nat:=(l.map wt).sum
theorem ws_nil:ws []=0:=rfl
theorem ws_cons (m:rf.Msg) (r:List rf.Msg):ws (m :: r)=wt m + ws r:=rfl
theorem ws_append (a b:List rf.Msg):ws (a ++ b)=ws a + ws b:=by
 unfold ws
 rw [List.map_append,List.sum_append_nat]
theorem ws_drop (a:List rf.Msg):∀ k,ws (a.drop k)≤ws a
 | 0=>Nat.le_refl _
 | k + 1=>by
  cases a with
  | nil=>exact Nat.le_refl _
  | cons m r=>
   rw [List.drop_succ_cons,ws_cons]
   have:=ws_drop r k
   omega
theorem ws_last (a:List rf.Msg):ws (last a)≤ws a:=ws_drop a _
theorem wt_le (m:rf.Msg):1≤wt m∧wt m≤2:=by unfold wt;split <;> omega
theorem ws_le (a:List rf.Msg):a.length≤ws a∧ws a≤2 * a.length:=by
 induction a with
 | nil=>exact ⟨Nat.le_refl _,Nat.le_refl _⟩
 | cons m r ih=>
  rw [ws_cons,List.length_cons]
  have:=wt_le m
  omega
section
variable {M T:Nat} {Sd:Nat→Prop} {D:Clu}
theorem gv_del (h:Ok M D) (hb:TB T D) {x s:Nat} (hx:x < D.n) (hv:(nd D x).term=T∧(nd D x).vote=(s:Int)∧(nd D x).idle=0):(nd (delC D) x).term=T∧(nd (delC D) x).vote=(s:Int)∧(nd (delC D) x).idle=0:=by
 obtain ⟨h1,h2,h3⟩:=hv
 have a:=term_del h x
 have b:=(tb_del h hb).nd x (by rw [del_n];exact hx)
 have ht:(nd (delC D) x).term=T:=by omega
 refine ⟨ht,?_,?_⟩
 ·cases hw:D.way with
  | nil=>rw [delC_nil hw];exact h2
  | cons m r=>
   obtain ⟨d,hd,hdn,e,e1,e2,hs⟩:=del_parts h hw
   by_cases hxd:x=d
   ·subst hxd
    rw [e1] at ht ⊢
    rw [(stv (nd D x) m).vote (ht.trans h1.symm) (by omega),h2]
   ·rw [e2 x hxd];exact h2
 ·rcases idle_del h x with e | e <;> rw [e]
  exact h3
theorem vi_del (h:Ok M D) (hb:TB T D) (hV:VI T Sd D):VI T Sd (delC D):=by
 cases hw:D.way with
 | nil=>rw [delC_nil hw];exact hV
 | cons m r=>
  have hmm:m ∈ D.way:=by rw [hw];exact List.mem_cons_self
  obtain ⟨d,hd,hdn,e,e1,e2,hs⟩:=del_parts h hw
  have hsv:=stv (nd D d) m
  have hid:=h.id hdn
  refine ⟨fun a ha hk ht=>?_,fun a ha hk hok ht=>?_,fun s hS hsn hr ht x hx hv=>?_⟩
  ·rw [e] at ha
   rcases List.mem_append.1 (mem_last ha) with ha | ha
   ·exact hV.q a (by rw [hw];exact List.mem_cons_of_mem _ ha) hk ht
   ·rcases (hs.outs a ha).2.2 with o | o | o <;> omega
  ·rw [e] at ha
   rcases List.mem_append.1 (mem_last ha) with ha | ha
   ·obtain ⟨s,x,v1,v2,v3,v4,v5⟩:=hV.v a (by rw [hw];exact List.mem_cons_of_mem _ ha) hk hok ht
    exact ⟨s,x,v1,by rw [del_n];exact v2,v3,v4,gv_del h hb v2 v5⟩
   ·obtain ⟨o1,o2,_⟩:=hs.outs a ha
    obtain ⟨p1,p2,p3,p4,p5⟩:=hsv.ok a ha hk hok
    obtain ⟨s,s1,s2⟩:=hV.q m hmm p1 (by rw [p2,← o2];exact ht)
    refine ⟨s,d,s1,by rw [del_n];exact hdn,by rw [p5];exact s2,by rw [o1];exact hid,?_⟩
    rw [e1]
    exact ⟨by rw [← o2];exact ht,by rw [p3];exact s2,p4⟩
  ·rw [del_n] at hsn hx
   by_cases hsd:s=d
   ·subst hsd
    rw [e1] at hr ht hv
    obtain ⟨r1,r2⟩:=hs.role1 hr
    have ht0:(nd D s).term=T:=r2.symm.trans ht
    have hc:=hV.c s hS hsn r1 ht0
    rcases hsv.votes with ev | ⟨k,ok,mt,_,ev⟩
    ·rw [ev] at hv
     exact gv_del h hb hx (hc x hx hv)
    ·obtain ⟨s',x',v1,v2,v3,v4,v5⟩:=hV.v m hmm k ok (mt.trans ht0)
     have hss:s'=s:=by omega
     subst hss
     by_cases hxx:x=x'
     ·subst hxx
      exact gv_del h hb hx v5
     ·rw [ev,v4,Int.toNat_natCast,List.getD_eq_getElem?_getD,List.getElem?_set_ne (fun e=>hxx e.symm),← List.getD_eq_getElem?_getD] at hv
      exact gv_del h hb hx (hc x hx hv)
   ·rw [e2 s hsd] at hr ht hv
    exact gv_del h hb hx (hV.c s hS hsn hr ht x hx hv)
def NK (l:List rf.Msg):Prop:=∀ m ∈ l,m.kind=1∨m.kind=2
def Began (l:Nat) (D D':Clu):Prop:=∃ r,D'.way=last (r ++ rf.puts (nd D' l))∧ws r≤ws D.way∧(NK D.way→NK r)
theorem b_del (h:Ok M D) (hb:TB T D) (ha:All T D) (hl:NL T D) (hV:VI T Sd D):(NL T (delC D)∧(D.way ≠ []→ws (delC D).way + 1≤ws D.way)∧(NK D.way→NK (delC D).way))∨∃ l,W2 T l (delC D)∧Began l D (delC D)∧(delC D).way.length≤D.way.length + 6:=by
 cases hw:D.way with
 | nil=>
  rw [delC_nil hw]
  exact .inl ⟨hl,fun hc=>absurd rfl hc,fun hk=>by rw [hw];exact hk⟩
 | cons m r=>
  have hmm:m ∈ D.way:=by rw [hw];exact List.mem_cons_self
  obtain ⟨d,hd,hdn,e,e1,e2,hs⟩:=del_parts h hw
  have h7:=h.n7
  have hid:=h.id hdn
  have hx:=ha d hdn
  have hr0:(nd D d).role ≠ 2:=fun hr=>hl d ⟨hdn,hr,hx⟩
  have hb2:=tb_del h hb
  have ha2:=all_del h hb ha
  by_cases h2:(rf.step (nd D d) m).1.role=2
  ·right
   have hld:Leads T (delC D) d:=⟨by rw [del_n];exact hdn,by rw [e1];exact h2,ha2 d (by rw [del_n];exact hdn)⟩
   rcases lead_new h hw hld with h1 | ⟨_,k,ok,mt,r1,t1,i1⟩
   ·exact absurd h1.2.1 hr0
   ·obtain ⟨s,x,v1,v2,v3,v4,v5⟩:=hV.v m hmm k ok mt
    have hsd:s=d:=by omega
    subst hsd
    obtain ⟨o1,o2,o3⟩:=lead_out h2 hr0
    have hmaj:=maj_of (x:={ nd D s with votes:=(nd D s).votes.set m.frm.toNat true }) (n:=D.n) (h.many hdn) h7 o2
    have hid2:(rf.step (nd D s) m).1.id=(s:Int):=hs.id.trans hid
    have hsz:rf.size (rf.step (nd D s) m).1=D.n:=size_eq (hs.many.trans (h.many hdn)) h7
    refine ⟨s,⟨⟨hb2,hld,fun y hy hne=>.inl ?_⟩,ha2,i1,?_⟩,⟨r,by rw [e1,e,o1],by rw [hw,ws_cons];exact Nat.le_add_left _ _,fun hk a ha=>hk a (by rw [hw];exact List.mem_cons_of_mem _ ha)⟩,?_⟩
    ·rw [del_n] at hy
     rw [e,o1]
     refine ⟨rf.stamp (rf.step (nd D s) m).1 (rf.putMsg (rf.step (nd D s) m).1 y),last_end (by rw [puts_len2];have:=others_len7 (rf.step (nd D s) m).1;omega) (mem_puts (by omega) (by omega)),rfl,?_,hid2,rfl⟩
     show (rf.step (nd D s) m).1.term=T
     rw [← e1]
     exact hld.2.2
    ·rw [del_n]
     refine maj_mono hmaj fun k hk hv=>?_
     simp only [decide_eq_true_eq]
     have hz:(nd D k).idle=0:=by
      by_cases hkx:k=x
      ·subst hkx;exact v5.2.2
      ·have hv2:((nd D s).votes.set m.frm.toNat true).getD k false=true:=hv
       rw [v4,Int.toNat_natCast,List.getD_eq_getElem?_getD,List.getElem?_set_ne (fun e=>hkx e.symm),← List.getD_eq_getElem?_getD] at hv2
       exact (hV.c s v1 hdn r1 t1 k hk hv2).2.2
     rcases idle_del h k with e | e <;> omega
    ·rw [e]
     have h1:=last_le2 (r ++ (rf.step (nd D s) m).2)
     rw [List.length_append] at h1
     have h3:(rf.step (nd D s) m).2.length≤7:=by rw [o1,puts_len2];exact others_len7 _
     simp only [List.length_cons]
     omega
  ·left
   refine ⟨fun i hi=>?_,fun _=>?_,fun hk a ha=>?_⟩
   ·rcases lead_new h hw hi with h1 | ⟨hd2,_⟩
    ·exact hl i h1
    ·have:i=d:=by omega
     subst this
     have:=hi.2.1
     rw [e1] at this
     exact h2 this
   ·rw [e]
    have h1:=ws_last (r ++ (rf.step (nd D d) m).2)
    rw [ws_append] at h1
    rw [ws_cons]
    have h3:=hs.two (.inl h2)
    have h4:ws (rf.step (nd D d) m).2 + 1≤wt m:=by
     rcases ho:(rf.step (nd D d) m).2 with _ | ⟨o,_ | ⟨o2,l⟩⟩
     ·rw [ws_nil];exact (wt_le m).1
     ·have:=(hs.outs o (by rw [ho];exact List.mem_cons_self)).2.2
      rw [ws_cons,ws_nil]
      unfold wt
      rcases this with c | c | c
      ·rw [if_neg (by omega),if_pos (.inl c.2.1)]
       decide
      ·exact absurd c.2.1 h2
      ·rw [if_neg (by omega),if_pos (.inr c.2)]
       decide
     ·rw [ho] at h3;simp at h3
    omega
   ·rw [e] at ha
    rcases List.mem_append.1 (mem_last ha) with ha | ha
    ·exact hk a (List.mem_cons_of_mem _ ha)
    ·rcases (hs.outs a ha).2.2 with c | c | c
     ·exact .inr c.1
     ·exact absurd c.2.1 h2
     ·rcases hk m List.mem_cons_self with c' | c' <;> omega
theorem w2_del (h:Ok M D) (hM:M < 18446744073709551616) {l:Nat} (hW:W2 T l D):W2 T l (delC D)∧(delC D).way.length≤D.way.length:=by
 cases hw:D.way with
 | nil=>rw [delC_nil hw];exact ⟨hW,by rw [hw];exact Nat.le_refl _⟩
 | cons m r=>
  obtain ⟨d,hd,hdn,e,e1,e2,hs⟩:=del_parts h hw
  have hb:=hW.w.tb
  have hl:=hW.w.ld
  have h1:=one_led h hb hW.all hl hw hd hdn hM
  have h200:=h.w200
  rw [hw] at h200
  simp only [List.length_cons] at h200
  rw [last_id (by rw [List.length_append];omega)] at e
  obtain ⟨l1,l2⟩:=leads_del h hl hb.ms
  refine ⟨⟨⟨tb_del h hb,l1,fun x hx hne=>?_⟩,all_del h hb hW.all,l2.trans hW.i0,?_⟩,by rw [e,List.length_append];simp only [List.length_cons];omega⟩
  ·rw [del_n] at hx
   rw [l2,hW.i0]
   rcases hW.w.pz x hx hne with ⟨a,a1,a2⟩ | hz
   ·rw [hw] at a1
    rcases List.mem_cons.1 a1 with rfl | a1
    ·exact .inr (put_del h hb (Int.le_refl _) hx hl.1 hne hw a2)
    ·exact .inl ⟨a,by rw [e];exact List.mem_append_left _ a1,a2⟩
   ·rw [hW.i0] at hz
    exact .inr (zed_del h hb (Int.le_refl _) hx hz)
  ·rw [del_n]
   refine maj_mono hW.mj fun k hk hv=>?_
   simp only [decide_eq_true_eq] at hv ⊢
   rcases idle_del h k with e | e <;> omega
theorem w2_dels (h:Ok M D) (hM:M < 18446744073709551616) {l:Nat} (hW:W2 T l D):∀ j,W2 T l (delsC j D)
 | 0=>hW
 | j + 1=>(w2_del (ok_dels h hM j) hM (w2_dels h hM hW j)).1
theorem b_dels (h:Ok M D) (hM:M < 18446744073709551616) (hb:TB T D) (ha:All T D) (hl:NL T D) (hV:VI T Sd D):∀ j,(NL T (delsC j D)∧VI T Sd (delsC j D)∧(NK D.way→NK (delsC j D).way)∧(ws (delsC j D).way + j≤ws D.way∨(delsC j D).way=[]))∨∃ l j0,j0≤j∧j0≤ws D.way∧W2 T l (delsC j0 D)∧(delsC j0 D).way.length≤ws D.way + 6∧Began l D (delsC j0 D)
 | 0=>.inl ⟨hl,hV,id,.inl (Nat.le_refl _)⟩
 | j + 1=>by
  rcases b_dels h hM hb ha hl hV j with ⟨i1,i2,i3,i4⟩ | ⟨l,j0,i1,i2⟩
  ·have oj:=ok_dels h hM j
   have bj:=tb_dels h hM hb j
   have aj:=all_dels h hM hb ha j
   show (NL T (delC (delsC j D))∧VI T Sd (delC (delsC j D))∧(_→NK (delC (delsC j D)).way)∧(ws (delC (delsC j D)).way + (j + 1)≤ws D.way∨(delC (delsC j D)).way=[]))∨_
   rcases b_del oj bj aj i1 i2 with ⟨c1,c2,c3⟩ | ⟨l,c1,c2,c3⟩
   ·left
    by_cases hw:(delsC j D).way=[]
    ·refine ⟨c1,vi_del oj bj i2,fun hk=>c3 (i3 hk),.inr ?_⟩
     rw [delC_nil hw];exact hw
    ·have c2:=c2 hw
     rcases i4 with i4 | i4
     ·exact ⟨c1,vi_del oj bj i2,fun hk=>c3 (i3 hk),.inl (by omega)⟩
     ·exact absurd i4 hw
   ·right
    by_cases hw:(delsC j D).way=[]
    ·exfalso
     rw [delC_nil hw] at c1
     exact i1 l c1.w.ld
    ·rcases i4 with i4 | i4
     ·have hl2:=ws_le (delsC j D).way
      have hne:0 < (delsC j D).way.length:=List.length_pos_iff.2 hw
      obtain ⟨r,r1,r2,r3⟩:=c2
      exact ⟨l,j + 1,Nat.le_refl _,by omega,c1,by show (delC (delsC j D)).way.length≤_;omega,r,r1,by omega,fun hk=>r3 (i3 hk)⟩
     ·exact absurd i4 hw
  ·exact .inr ⟨l,j0,by omega,i2⟩
end
end cl
end Go.Proofs.YtmcibggjolckoaaGreatDoor
namespace Go.Proofs.YtmcibggjolckoaaGreatDoor
namespace cl
open rl (Ent e0)
set_option maxRecDepth 100000
def StT (T:Nat) (C:Clu) (s:Nat):Prop:=s < C.n∧stands (nd C s)∧(nd C s).term + 1=T
section
variable {M T:Nat} {C:Clu}
theorem nl_ticks (h:Ok M C) (h2:2≤C.n) (hl:NL T C):NL T (ticksC C.n C):=by
 intro i ⟨h1,h3,h4⟩
 rw [ticks_n] at h1
 by_cases hr:(nd C i).role=2
 ·rw [tickd h1,(tick_role2 hr).2.1] at h4
  exact hl i ⟨h1,hr,h4⟩
 ·by_cases hs:stands (nd C i)
  ·rw [(tickd_stand h h2 h1 hs).1] at h3
   cases h3
  ·rw [tickd_idle h h2 h1 hs hr] at h3
   exact hr h3
theorem stoodV_ok (h:Ok M C) (hM:M + C.n < 18446744073709551616) {s:Nat} (hs:s < C.n):(stoodV (nd C s)).id=(s:Int)∧(stoodV (nd C s)).many=(C.n:Int)∧(stoodV (nd C s)).term=(nd C s).term + 1∧(stoodV (nd C s)).role=1∧(stoodV (nd C s)).vote=(s:Int)∧(stoodV (nd C s)).idle=0∧(stoodV (nd C s)).log=(nd C s).log:=by
 have:=ok_term h hs
 obtain ⟨a1,a2,a3,a4,a5,a6,a7⟩:=stoodV_parts (x:=nd C s) (by omega)
 have hid:=h.id hs
 exact ⟨a1.trans hid,a2.trans (h.many hs),a3,a4,a5.trans hid,a6,a7⟩
theorem stoodV_votes (h:Ok M C) {s x:Nat} (hs:s < C.n):(stoodV (nd C s)).votes.getD x false=true ↔ x=s:=by
 have hid:=h.id hs
 have h7:=h.n7
 show ((List.replicate 7 false).set (nd C s).id.toNat true).getD x false=true ↔ _
 rw [hid,Int.toNat_natCast,List.getD_eq_getElem?_getD]
 constructor
 ·intro hv
  apply Classical.byContradiction
  intro hne
  rw [List.getElem?_set_ne (fun e=>hne e.symm),List.getElem?_replicate] at hv
  split at hv <;> cases hv
 ·intro hv
  subst hv
  rw [List.getElem?_set_self (by rw [List.length_replicate];omega)]
  rfl
theorem vi_ticks (h:Ok M C) (h2:2≤C.n) (hM:M + C.n < 18446744073709551616) (hn:NoAV C):VI T (StT T C) (ticksC C.n C):=by
 obtain ⟨k,b,e,_,_,hb3,_⟩:=ticks_way h h2 C.n (Nat.le_refl _)
 refine ⟨fun m hm hk ht=>?_,fun m hm hk=>absurd hk (g1_ticks h h2 hn m hm),fun s hS hsn hr ht x hx hv=>?_⟩
 ·rw [e] at hm
  rcases List.mem_append.1 hm with hm | hm
  ·exact absurd hk (hn m (List.mem_of_mem_drop hm)).1
  ·obtain ⟨i,hi,hm⟩:=hb3 m hm
   obtain ⟨o1,o2,o3⟩:=tickd_out h h2 hi m hm
   rcases o3 with o3 | o3
   ·rw [tickd_term h h2 hM hi,if_pos o3.2] at o2
    exact ⟨i,⟨hi,o3.2,o2.symm.trans ht⟩,o1⟩
   ·omega
 ·obtain ⟨h1,h3,h4⟩:=hS
  have es:=(tickd_stand h h2 h1 h3).1
  rw [es] at hv
  have hxs:=(stoodV_votes h h1).1 hv
  subst hxs
  rw [es]
  obtain ⟨a1,a2,a3,a4,a5,a6,a7⟩:=stoodV_ok h hM h1
  exact ⟨a3.trans h4,a5,a6⟩
theorem sync_gen1 (h:Ok M C) (h2:2≤C.n) (hM:M + C.n < 18446744073709551616) (hb:TB T C) (hn:NoAV C) (hl:NL T C) {y:Nat} (hy:StT T C y) (hs:∀ i,i < C.n→stands (nd C i)→(nd C i).term + 1≤T) :
  Ok (M + C.n) (delsC (ticksC C.n C).way.length (ticksC C.n C))∧TB T (delsC (ticksC C.n C).way.length (ticksC C.n C))∧All T (delsC (ticksC C.n C).way.length (ticksC C.n C))∧NL T (delsC (ticksC C.n C).way.length (ticksC C.n C))∧VI T (StT T C) (delsC (ticksC C.n C).way.length (ticksC C.n C)):=by
 have hb1:=tb_ticks h h2 hM hb hs
 have ho1:=ok_ticks h C.n (Nat.le_refl _) hM
 have hl1:=nl_ticks h h2 hl
 have hv1:=vi_ticks (T:=T) h h2 hM hn
 have hnv:=g1_ticks h h2 hn
 obtain ⟨k,b,e,_,hb2,_,_⟩:=ticks_way h h2 C.n (Nat.le_refl _)
 obtain ⟨y1,y2,y3⟩:=hy
 have ey:=tickd_stand h h2 y1 y2
 obtain ⟨a1,a2,a3,a4,a5,a6,a7⟩:=stoodV_ok h hM y1
 have h7:=h.n7
 obtain ⟨Cn,hCn⟩:∃ n,C.n=n:=⟨_,rfl⟩
 obtain ⟨C1,hC1⟩:∃ C1,ticksC C.n C=C1:=⟨_,rfl⟩
 have hn1:C1.n=Cn:=by rw [← hC1,ticks_n];exact hCn
 have hasks:∀ x,x < Cn→x ≠ y→∃ m ∈ C1.way,m.kind=1∧m.term=T∧m.frm=(y:Int)∧m.dst=(x:Int):=fun x hx hne=>by
  rw [← hC1,e]
  refine ⟨rf.stamp (stoodV (nd C y)) { rf.msg0 with kind:=1,dst:=(x:Int),index:=(stoodV (nd C y)).log.length,at_:=rl.lastTerm (stoodV (nd C y)).log },List.mem_append_right _ (hb2 y y1 _ ?_),rfl,a3.trans y3,a1,rfl⟩
  rw [ey.2]
  exact mem_asks (by rw [size_eq a2 h7];omega) (by omega)
 have hyt:(nd C1 y).term=T:=by rw [← hC1,ey.1];exact a3.trans y3
 rw [hC1] at hb1 ho1 hl1 hv1 hnv ⊢
 have key:=gen1 (M:=M + C.n) (P:=fun m=>m.kind ≠ 2) (I:=fun D=>TB T D∧NL T D∧VI T (StT T C) D∧D.n=Cn∧(nd D y).term=T) (X:=fun x=>x < Cn∧x ≠ y) (W:=fun x m=>m.kind=1∧m.term=T∧m.frm=(y:Int)∧m.dst=(x:Int)) (Q:=fun x D=>(nd D x).term=T) hM
  (fun D m r d _ hI hw hd hdn hP=>(stp _ _).one hP)
  (fun D m r h hI hw hP=>by
   obtain ⟨i1,i2,i3,i4,i5⟩:=hI
   have t2:=tb_del h i1
   refine ⟨t2,fun i hi=>?_,vi_del h i1 i3,by rw [del_n];exact i4,?_⟩
   ·rcases lead_new h hw hi with c | c
    ·exact i2 i c
    ·exact hP c.2.1
   ·have:=term_del h y
    have:=t2.nd y (by rw [del_n,i4,← hCn];exact y1)
    omega)
  (fun D m r x h hI hw hP hX hQ=>by
   have:=term_del h x
   have:=(tb_del h hI.1).nd x (by rw [del_n,hI.2.2.2.1];exact hX.1)
   have:(nd D x).term=T:=hQ
   show (nd (delC D) x).term=T
   omega)
  (fun D m r x h hI hw hP hX hW=>by
   obtain ⟨w1,w2,w3,w4⟩:=hW
   obtain ⟨i1,i2,i3,i4,i5⟩:=hI
   obtain ⟨d,hd,hdn,e,e1,e2,hs⟩:=del_parts h hw
   have hxd:x=d:=by omega
   subst hxd
   have:=h.id hdn
   have:=h.many hdn
   have hm:rf.meant (nd D x) m=true:=by
    unfold rf.meant
    simp only [Bool.and_eq_true,decide_eq_true_eq]
    have:=hX.2
    omega
   have:=stp_term hm
   have:=(tb_del h i1).nd x (by rw [del_n];exact hdn)
   show (nd (delC D) x).term=T
   rw [e1] at this ⊢
   omega)
  C1.way.length C1 ho1 ⟨hb1,hl1,hv1,hn1,hyt⟩ ⟨Nat.le_refl _,by rw [List.take_length];exact hnv⟩ (fun x hX=>.inl (by rw [List.take_length];exact hasks x hX.1 hX.2))
 obtain ⟨k1,⟨k2,k3,k4,k5,k6⟩,k7⟩:=key
 refine ⟨k1,k2,fun i hi=>?_,k3,k4⟩
 by_cases hiy:i=y
 ·subst hiy;exact k6
 ·exact k7 i ⟨by rw [← k5];exact hi,hiy⟩
theorem sync_round (h:Ok M C) (h2:2≤C.n) (hM:M + C.n < 18446744073709551616) (hb:TB T C) (hn:NoAV C) (hl:NL T C) {y:Nat} (hy:StT T C y) (hs:∀ i,i < C.n→stands (nd C i)→(nd C i).term + 1≤T) :
  TB T (roundC C)∧All T (roundC C)∧((NL T (roundC C)∧ws (roundC C).way≤100)∨∃ l,W2 T l (roundC C)):=by
 obtain ⟨k1,k2,k3,k4,k5⟩:=sync_gen1 h h2 hM hb hn hl hy hs
 have hq:=(ok_ticks h C.n (Nat.le_refl _) hM).w200
 obtain ⟨q,hqq⟩:∃ q,(ticksC C.n C).way.length=q:=⟨_,rfl⟩
 rw [hqq] at k1 k2 k3 k4 k5 hq
 have eq:roundC C=delsC (500 - q) (delsC q (ticksC C.n C)):=by
  rw [← dels_add,show q + (500 - q)=500 by omega];rfl
 rw [eq]
 obtain ⟨D,hD⟩:∃ D,delsC q (ticksC C.n C)=D:=⟨_,rfl⟩
 rw [hD] at k1 k2 k3 k4 k5 ⊢
 refine ⟨tb_dels k1 hM k2 _,all_dels k1 hM k2 k3 _,?_⟩
 have hw:=(ws_le D.way).2
 have h200:=k1.w200
 rcases b_dels k1 hM k2 k3 k4 k5 (500 - q) with ⟨c1,_,_,c4⟩ | ⟨l,j0,c1,c2,c3,_⟩
 ·left
  refine ⟨c1,?_⟩
  rcases c4 with c4 | c4
  ·omega
  ·rw [c4];exact Nat.zero_le _
 ·right
  refine ⟨l,?_⟩
  have e2:delsC (500 - q) D=delsC (500 - q - j0) (delsC j0 D):=by rw [← dels_add,show j0 + (500 - q - j0)=500 - q by omega]
  rw [e2]
  exact w2_dels (ok_dels k1 hM j0) hM c3 _
theorem w2_tail (h:Ok M C) (hM:M < 18446744073709551616) {l:Nat} (hW:W2 T l C):S T l (delsC C.way.length C)∧(nd (delsC C.way.length C) l).idle=0:=by
 obtain ⟨n,hn⟩:∃ n,C.n=n:=⟨_,rfl⟩
 have key:=gen1 (M:=M) (P:=fun _=>True) (I:=fun D=>TB T D∧All T D∧Leads T D l∧D.n=n) (X:=fun x=>x < n∧x ≠ l) (W:=fun x m=>PutTo T l x m) (Q:=fun x D=>Zed T 0 x D) hM
  (fun D m r d h hI hw hd hdn _=>one_led h hI.1 hI.2.1 hI.2.2.1 hw hd hdn hM)
  (fun D m r h hI hw _=>⟨tb_del h hI.1,all_del h hI.1 hI.2.1,(leads_del h hI.2.2.1 hI.1.ms).1,by rw [del_n];exact hI.2.2.2⟩)
  (fun D m r x h hI hw _ hX hQ=>zed_del h hI.1 (Int.le_refl _) (by rw [hI.2.2.2];exact hX.1) hQ)
  (fun D m r x h hI hw _ hX hP=>put_del h hI.1 (Int.le_refl _) (by rw [hI.2.2.2];exact hX.1) hI.2.2.1.1 hX.2 hw hP)
  C.way.length C h ⟨hW.w.tb,hW.all,hW.w.ld,hn⟩ ⟨Nat.le_refl _,fun _ _=>trivial⟩ (fun x hX=>by
   have:=hW.w.pz x (by rw [hn];exact hX.1) hX.2
   rw [hW.i0] at this
   rw [List.take_length]
   exact this)
 obtain ⟨k1,⟨k2,k3,k4,k5⟩,k6⟩:=key
 have hi:=(leads_dels h hM hW.w.tb hW.w.ld C.way.length).2.trans hW.i0
 exact ⟨⟨k2,k4,fun x hx hne=>by rw [hi];exact k6 x ⟨by rw [← k5];exact hx,hne⟩⟩,hi⟩
theorem s_dels (h:Ok M C) (hM:M < 18446744073709551616) {l:Nat} (hS:S T l C) (h0:0≤(nd C l).idle) (j:Nat):S T l (delsC j C)∧(nd (delsC j C) l).idle=(nd C l).idle:=by
 obtain ⟨a,b⟩:=leads_dels h hM hS.tb hS.ld j
 refine ⟨⟨tb_dels h hM hS.tb j,a,fun x hx hne=>?_⟩,b⟩
 rw [dels_n] at hx
 rw [b]
 exact zed_dels h hM hS.tb h0 hx (hS.zd x hx hne) j
end
end cl
end Go.Proofs.YtmcibggjolckoaaGreatDoor
