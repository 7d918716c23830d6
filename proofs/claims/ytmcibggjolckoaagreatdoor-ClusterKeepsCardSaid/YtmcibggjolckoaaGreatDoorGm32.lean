/- LvEl, LvElect, LvFit, LvExt: one behind the other. -/
import Derived.Test.YtmcibggjolckoaaGreatDoorGm31
namespace Go.Proofs.YtmcibggjolckoaaGreatDoor
namespace cl
open rl (Ent e0)
set_option maxRecDepth 100000
def rkOf (l:Log):Nat:=rl.lastTerm l * 100000 + l.length
theorem newer_rk {a c:Log} (ha:a.length < 100000) (hc:c.length < 100000):rl.newer a (rl.lastTerm c) c.length=true ↔ rkOf a≤rkOf c:=by
 unfold rl.newer rkOf
 simp only [Bool.or_eq_true,Bool.and_eq_true,decide_eq_true_eq]
 omega
def idN (C:Clu) (i:Nat):Nat:=(nd C i).idle.toNat
def rnd:Nat→Clu→Clu
 | 0,C=>C
 | t + 1,C=>roundC (rnd t C)
theorem rnd_n (C:Clu):∀ t,(rnd t C).n=C.n
 | 0=>rfl
 | t + 1=>(round_n _).trans (rnd_n C t)
theorem rnd_add (C:Clu) (a:Nat):∀ b,rnd (a + b) C=rnd b (rnd a C)
 | 0=>rfl
 | b + 1=>congrArg roundC (rnd_add C a b)
section
variable {M T:Nat} {C D:Clu}
theorem ok_rnd (h:Ok M C):∀ t,M + t * C.n < 18446744073709551616→Ok (M + t * C.n) (rnd t C)
 | 0,_=>by rw [Nat.zero_mul];exact h
 | t + 1,hM=>by
  rw [Nat.succ_mul] at hM ⊢
  have ih:=ok_rnd h t (by omega)
  have:=ok_round ih (by rw [rnd_n];omega)
  rw [rnd_n] at this
  rw [← Nat.add_assoc]
  exact this
theorem nav_rnd (h:Ok M C) (hn:NoAV C) (t:Nat) (hM:M + t * C.n < 18446744073709551616):NoAV (rnd t C):=by
 cases t with
 | zero=>exact hn
 | succ t=>
  rw [Nat.succ_mul] at hM
  exact round_nav (ok_rnd h t (by omega)) (by rw [rnd_n];omega)
theorem stands_iff (h:Ok M C) {i:Nat} (hi:i < C.n) (hr:(nd C i).role ≠ 2):stands (nd C i) ↔ lv.st (idN C) i:=by
 have hid:=h.id hi
 have h0:=(h.nx i hi).i0
 unfold stands lv.st lv.wt idN
 constructor
 ·rintro ⟨_,h1⟩
  omega
 ·intro h1
  exact ⟨hr,by omega⟩
theorem len_lt (h:Ok M C) (hM:M < 100000) {i:Nat} (hi:i < C.n):(nd C i).log.length < 100000:=Nat.lt_of_le_of_lt (h.lim.up i hi (h.up i hi)).len hM
theorem el_of_dv (h:Ok M C) (hM:M < 100000) {C':Clu} (hn':C'.n=C.n) (ha:All T C) (hl:NL T C) (ha':All (T + 1) C') (hw:C'.way=[]) (hD:DV (T + 1) C C') (hm':∀ i,i < C.n→(nd C' i).many=(C.n:Int)) :
  lv.El C.n (fun i=>rkOf (nd C i).log) (idN C) (idN C'):=by
 have hr0:∀ i,i < C.n→(nd C i).role ≠ 2:=fun i hi hr=>hl i ⟨hi,hr,ha i hi⟩
 have hst:∀ i,i < C.n→(StT (T + 1) C i ↔ lv.st (idN C) i):=fun i hi=>by
  rw [← stands_iff h hi (hr0 i hi)]
  exact ⟨fun hS=>hS.2.1,fun hS=>⟨hi,hS,by rw [ha i hi]⟩⟩
 have hnew:∀ x s,x < C.n→s < C.n→(asNew C x s ↔ rkOf (nd C x).log≤rkOf (nd C s).log):=fun x s hx hs=>newer_rk (len_lt h hM hx) (len_lt h hM hs)
 have hnomsg:∀ m,m ∈ C'.way→False:=fun m hm=>by rw [hw] at hm;cases hm
 have ht':∀ i,i < C.n→(nd C' i).term=T + 1:=fun i hi=>ha' i (by rw [hn'];exact hi)
 have vote:∀ i,i < C.n→lv.Votes C.n (fun i=>rkOf (nd C i).log) (idN C) i→∃ s:Nat,StT (T + 1) C s∧(nd C' i).vote=(s:Int)∧rkOf (nd C i).log≤rkOf (nd C s).log∧(nd C' i).idle=0:=by
  intro i hi hV
  by_cases hS:StT (T + 1) C i
  ·obtain ⟨_,_,s3,s4,_⟩:=hD.sd i hS
   exact ⟨i,hS,s3,Nat.le_refl _,s4⟩
  ·rcases hV with hV | ⟨s,hs,hV,hr⟩
   ·exact absurd ((hst i hi).2 hV) hS
   ·have hSs:=(hst s hs).2 hV
    have hne:i ≠ s:=fun e=>hS (e ▸ hSs)
    rcases hD.ak s i hSs hi hne with ⟨m,hm,_⟩ | ⟨_,c⟩
    ·exact (hnomsg m hm).elim
    ·have hv:=c ((hnew i s hi hs).2 hr)
     rcases hD.xs i hi hS with x1 | ⟨_,x1 | ⟨s',y1,y2,y3,y4⟩⟩
     ·have:=ht' i hi;omega
     ·exact absurd x1.1 hv
     ·exact ⟨s',y1,y2,(hnew i s' hi y1.1).1 y3,y4⟩
 refine ⟨fun i hi hV=>?_,fun i hi hV=>?_,fun i=>(nd C' i).vote.toNat,fun i hi hV=>?_,fun i hi hs=>?_,fun s hs hss p hp=>?_⟩
 ·obtain ⟨s,_,_,_,h4⟩:=vote i hi hV
  unfold idN
  rw [h4];rfl
 ·have hS:¬ StT (T + 1) C i:=fun hS=>hV (.inl ((hst i hi).1 hS))
  have h0:=(h.nx i hi).i0
  rcases hD.xs i hi hS with x1 | ⟨_,x1 | ⟨s',y1,y2,y3,y4⟩⟩
  ·have:=ht' i hi;omega
  ·unfold idN
   rw [x1.2]
   omega
  ·exact absurd (.inr ⟨s',y1.1,(hst s' y1.1).1 y1,(hnew i s' hi y1.1).1 y3⟩) hV
 ·obtain ⟨s,h1,h2,h3,_⟩:=vote i hi hV
  have e:(nd C' i).vote.toNat=s:=by rw [h2,Int.toNat_natCast]
  show (nd C' i).vote.toNat < C.n∧lv.st (idN C) (nd C' i).vote.toNat∧rkOf (nd C i).log≤rkOf (nd C (nd C' i).vote.toNat).log
  rw [e]
  exact ⟨h1.1,(hst s h1.1).1 h1,h3⟩
 ·have hS:=(hst i hi).2 hs
  show (nd C' i).vote.toNat=i
  rw [(hD.sd i hS).2.2.1,Int.toNat_natCast]
 ·have hS:=(hst s hs).2 hss
  obtain ⟨s1,s2,s3,s4,s5,s6⟩:=hD.sd s hS
  have hcnt:lv.cnt C.n p≤lv.cnt C.n fun k=>(nd C' s).votes.getD k false:=by
   refine lv.cnt_le fun i hi hpi=>?_
   obtain ⟨q1,q2⟩:=hp i hi hpi
   obtain ⟨s',v1,v2,_⟩:=vote i hi q1
   have hv:(nd C' i).vote=(s:Int):=by
    have q2:(nd C' i).vote.toNat=s:=q2
    rw [v2,Int.toNat_natCast] at q2
    rw [v2,q2]
   rcases hD.vt s i hS hi (ht' i hi) hv with ⟨m,hm,_⟩ | c
   ·exact (hnomsg m hm).elim
   ·exact c
  have h7:=h.n7
  have hm:=hm' s hs
  unfold rf.elected rf.majority rf.count at s6
  rw [size_eq hm h7,hm] at s6
  simp only [decide_eq_false_iff_not] at s6
  unfold lv.cnt at hcnt ⊢
  omega
theorem el_quiet (h:Ok M C) {C':Clu} (hq:∀ i,i < C.n→¬ stands (nd C i)) (hr0:∀ i,i < C.n→(nd C i).role ≠ 2) (hi':∀ i,i < C.n→(nd C' i).idle=(nd C i).idle + 1) (rk:Nat→Nat):lv.El C.n rk (idN C) (idN C'):=by
 have hno:∀ i,i < C.n→¬ lv.st (idN C) i:=fun i hi hs=>hq i hi ((stands_iff h hi (hr0 i hi)).2 hs)
 have hnv:∀ i,i < C.n→¬ lv.Votes C.n rk (idN C) i:=fun i hi hv=>by
  rcases hv with hv | ⟨s,hs,hv,_⟩
  ·exact hno i hi hv
  ·exact hno s hs hv
 refine ⟨fun i hi hV=>absurd hV (hnv i hi),fun i hi _=>?_,fun i=>i,fun i hi hV=>absurd hV (hnv i hi),fun i _ _=>rfl,fun s hs hss=>absurd hss (hno s hs)⟩
 have h0:=(h.nx i hi).i0
 unfold idN
 rw [hi' i hi]
 omega
def Late (M T l:Nat) (C':Clu):Prop:=∃ D0 j0 r,W2 T l D0∧Ok M D0∧D0.n=C'.n∧C'=delsC j0 D0∧430≤j0∧D0.way=last (r ++ rf.puts (nd D0 l))∧ws r≤70∧NK r
theorem d_chain (h:Ok M C) (h2:2≤C.n) (h5:C.n≤5) (hM:M + 36 * C.n < 100000) (hn:NoAV C) (hb:TB T C) (ha:All T C) (hl:NL T C) (hw:ws C.way≤100) :
  ∃ t,1≤t∧t≤35∧∃ T' l,S T' l (rnd t C)∧(2≤t→Late (M + t * C.n) T' l (rnd t C)):=by
 apply Classical.byContradiction
 intro hc
 have hle:∀ t,t≤35→t * C.n≤35 * C.n:=fun t ht=>Nat.mul_le_mul_right _ ht
 have key:∀ k,k≤35→(∃ T',TB T' (rnd k C)∧All T' (rnd k C)∧NL T' (rnd k C)∧ws (rnd k C).way≤100∧(1≤k→(rnd k C).way=[]))∧(∀ i,i < C.n→(nd (rnd k C) i).log=(nd C i).log)∧∀ t,t < k→lv.El C.n (fun i=>rkOf (nd C i).log) (idN (rnd t C)) (idN (rnd (t + 1) C)):=by
  intro k
  induction k with
  | zero=>exact fun _=>⟨⟨T,hb,ha,hl,hw,fun hh=>absurd hh (by decide)⟩,fun _ _=>rfl,fun t ht=>absurd ht (Nat.not_lt_zero _)⟩
  | succ k ih=>
   intro hk
   obtain ⟨⟨T',i1,i2,i3,i4,i5⟩,i6,i7⟩:=ih (by omega)
   have hkn:=hle k (by omega)
   have hkn1:=hle (k + 1) hk
   have ok:=ok_rnd h k (by omega)
   have okn:=ok_rnd h (k + 1) (by omega)
   have nk:=nav_rnd h hn k (by omega)
   have en:=rnd_n C k
   have toEl:lv.El (rnd k C).n (fun i=>rkOf (nd (rnd k C) i).log) (idN (rnd k C)) (idN (roundC (rnd k C)))→lv.El C.n (fun i=>rkOf (nd C i).log) (idN (rnd k C)) (idN (rnd (k + 1) C)):=fun hE=>by
    rw [en] at hE
    refine ⟨fun i hi hV=>hE.a i hi ?_,fun i hi hV=>hE.b i hi fun hV'=>hV ?_,?_⟩
    ·rcases hV with hV | ⟨s,hs,hV,hr⟩
     ·exact .inl hV
     ·exact .inr ⟨s,hs,hV,by show rkOf _≤rkOf _;rw [i6 i hi,i6 s hs];exact hr⟩
    ·rcases hV' with hV | ⟨s,hs,hV,hr⟩
     ·exact .inl hV
     ·exact .inr ⟨s,hs,hV,by have hr:rkOf _≤rkOf _:=hr;rw [i6 i hi,i6 s hs] at hr;exact hr⟩
    ·obtain ⟨v,v1,v2,v3⟩:=hE.v
     have cv:∀ i,i < C.n→(lv.Votes C.n (fun i=>rkOf (nd C i).log) (idN (rnd k C)) i ↔ lv.Votes C.n (fun i=>rkOf (nd (rnd k C) i).log) (idN (rnd k C)) i):=fun i hi=>by
      constructor
      ·rintro (hV | ⟨s,hs,hV,hr⟩)
       ·exact .inl hV
       ·exact .inr ⟨s,hs,hV,by show rkOf _≤rkOf _;rw [i6 i hi,i6 s hs];exact hr⟩
      ·rintro (hV | ⟨s,hs,hV,hr⟩)
       ·exact .inl hV
       ·exact .inr ⟨s,hs,hV,by have hr:rkOf _≤rkOf _:=hr;rw [i6 i hi,i6 s hs] at hr;exact hr⟩
     refine ⟨v,fun i hi hV=>?_,v2,fun s hs hss p hp=>v3 s hs hss p fun i hi hpi=>⟨(cv i hi).1 (hp i hi hpi).1,(hp i hi hpi).2⟩⟩
     obtain ⟨a1,a2,a3⟩:=v1 i hi ((cv i hi).1 hV)
     have a3:rkOf _≤rkOf _:=a3
     rw [i6 i hi,i6 _ a1] at a3
     exact ⟨a1,a2,a3⟩
   have fin:(∃ T',TB T' (rnd (k + 1) C)∧All T' (rnd (k + 1) C)∧NL T' (rnd (k + 1) C)∧ws (rnd (k + 1) C).way≤100∧(1≤k + 1→(rnd (k + 1) C).way=[]))→(∀ i,i < C.n→(nd (roundC (rnd k C)) i).log=(nd (rnd k C) i).log)→lv.El (rnd k C).n (fun i=>rkOf (nd (rnd k C) i).log) (idN (rnd k C)) (idN (roundC (rnd k C)))→_:=fun f1 f2 f3=>
    (⟨f1,fun i hi=>(f2 i hi).trans (i6 i hi),fun t ht=>by
     by_cases htk:t=k
     ·subst htk;exact toEl f3
     ·exact i7 t (by omega)⟩:(∃ T',TB T' (rnd (k + 1) C)∧All T' (rnd (k + 1) C)∧NL T' (rnd (k + 1) C)∧ws (rnd (k + 1) C).way≤100∧(1≤k + 1→(rnd (k + 1) C).way=[]))∧(∀ i,i < C.n→(nd (rnd (k + 1) C) i).log=(nd C i).log)∧∀ t,t < k + 1→lv.El C.n (fun i=>rkOf (nd C i).log) (idN (rnd t C)) (idN (rnd (t + 1) C)))
   by_cases hst:∃ y,y < (rnd k C).n∧stands (nd (rnd k C) y)
   ·obtain ⟨y,hy,hys⟩:=hst
    rcases d_round ok (by rw [en];exact h2) (by rw [en];exact h5) (by rw [en];omega) i1 nk i2 i3 i4 hy hys with ⟨c1,c2,c3,c4,c5⟩ | ⟨l,D0,j0,c1,c2,c3,c4,c5,c6,c7⟩
    ·refine fin ⟨T' + 1,c1,c2,c3,?_,fun _=>c4⟩ (fun i hi=>c5.lg i (by rw [en];exact hi)) (el_of_dv ok (by omega) (round_n _) i2 i3 c2 c4 c5 fun i hi=>?_)
     ·show ws (roundC (rnd k C)).way≤100
      rw [c4];exact Nat.zero_le _
     ·have:=okn.many (i:=i) (by rw [rnd_n];rw [en] at hi;exact hi)
      rw [en]
      rw [rnd_n] at this
      exact this
    ·exfalso
     refine hc ⟨k + 1,by omega,hk,T' + 1,l,c5,fun h2k=>?_⟩
     obtain ⟨d1,r,d2,d3,d4⟩:=c7 (i5 (by omega))
     rw [Nat.succ_mul]
     refine ⟨D0,j0,r,c1,?_,?_,c4,d1,d2,d3,d4⟩
     ·rw [en] at c2
      rw [← Nat.add_assoc]
      exact c2
     ·exact (c3.trans en).trans (rnd_n C (k + 1)).symm
   ·have hq:∀ i,i < (rnd k C).n→¬ stands (nd (rnd k C) i):=fun i hi hs=>hst ⟨i,hi,hs⟩
    obtain ⟨c1,c2,c3,c4,c5⟩:=d_quiet ok (by rw [en];exact h2) (by rw [en];omega) i1 nk i2 i3 i4 hq
    refine fin ⟨T',c1,c2,c3,?_,fun _=>c4⟩ (fun i hi=>by rw [c5 i (by rw [en];exact hi)]) (el_quiet ok hq (fun i hi hr=>i3 i ⟨hi,hr,i2 i hi⟩) (fun i hi=>by rw [c5 i hi]) _)
    show ws (roundC (rnd k C)).way≤100
    rw [c4];exact Nat.zero_le _
 obtain ⟨_,_,hE⟩:=key 35 (Nat.le_refl _)
 refine lv.none35 h2 h5 (f:=fun t=>idN (rnd t C)) (fun i hi=>?_) hE
 have:=(h.nx i hi).lt
 have:=(h.nx i hi).i0
 have:=h.id hi
 unfold lv.wt
 show (nd C i).idle.toNat < _
 omega
end
end cl
end Go.Proofs.YtmcibggjolckoaaGreatDoor
namespace Go.Proofs.YtmcibggjolckoaaGreatDoor
namespace cl
open rl (Ent e0)
set_option maxRecDepth 100000
def Sent (m:rf.Msg) (D:Clu):Prop:=m.kind=3→∃ i:Nat,m.frm=(i:Int)∧i < D.n∧(((nd D i).role=2∧(nd D i).term=m.term)∨m.term < (nd D i).term)
section
variable {M T:Nat} {C D:Clu}
theorem sent_del (h:Ok M D) {a:rf.Msg} (ha:Sent a D):Sent a (delC D):=by
 intro hk
 obtain ⟨i,h1,h2,h3⟩:=ha hk
 refine ⟨i,h1,by rw [del_n];exact h2,?_⟩
 cases hw:D.way with
 | nil=>rw [delC_nil hw];exact h3
 | cons m r=>
  have hmm:m ∈ D.way:=by rw [hw];exact List.mem_cons_self
  obtain ⟨d,hd,hdn,e,e1,e2,hs⟩:=del_parts h hw
  by_cases hid:i=d
  ·subst hid
   rw [e1]
   have t1:=hs.t1
   rcases h3 with ⟨h3,h4⟩ | h3
   ·by_cases hle:m.term≤(nd D i).term
    ·have hid:=h.id h2
     have hv:=h.vote2 h2 h3
     obtain ⟨a,b,c,_⟩:=stay2 (m:=m) h3 hle (by omega) (by omega) fun hk he=>by rw [hid];exact h.put_of hmm hk h2 h3 he.symm
     exact .inl ⟨a,c.trans h4⟩
    ·cases hm:rf.meant (nd D i) m with
     | false=>rw [step_not hm];exact .inl ⟨h3,h4⟩
     | true=>
      have:=stp_term hm
      right
      omega
   ·right;omega
  ·rw [e2 i hid]
   exact h3
theorem new_put (h:Ok M C) (hM:M < 18446744073709551616):∀ j,∀ m ∈ (delsC j C).way.drop (200 - j),Sent m (delsC j C)
 | 0=>fun m hm=>by
  rw [List.drop_eq_nil_of_le (by have:=h.w200;show C.way.length≤_;omega)] at hm
  cases hm
 | j + 1=>by
  have ih:=new_put h hM j
  have hj:=ok_dels h hM j
  show ∀ m ∈ (delC (delsC j C)).way.drop (200 - (j + 1)),Sent m (delC (delsC j C))
  cases hw:(delsC j C).way with
  | nil=>
   rw [delC_nil hw,hw]
   intro m hm
   rw [List.drop_nil] at hm
   cases hm
  | cons a r=>
   obtain ⟨d,hd,hdn,e,e1,e2,hs⟩:=del_parts hj hw
   rw [e]
   refine mem_drop_last (fun m hm=>sent_del hj ?_) fun m hm hk=>?_
   ·by_cases h2:j < 200
    ·refine ih m ?_
     rw [hw,show 200 - j=200 - (j + 1) + 1 by omega]
     exact hm
    ·refine ih m ?_
     rw [show 200 - (j + 1)=0 by omega] at hm
     rw [hw,show 200 - j=0 by omega]
     exact List.mem_cons_of_mem _ hm
   ·obtain ⟨o1,o2,o3⟩:=hs.outs m hm
    have hid:=hj.id hdn
    refine ⟨d,o1.trans hid,by rw [del_n];exact hdn,.inl ?_⟩
    rw [e1]
    rcases o3 with o3 | o3 | o3
    ·omega
    ·exact ⟨o3.2.1,o2.symm⟩
    ·omega
theorem max_term (C:Clu) (hn:0 < C.n):∃ u,u < C.n∧∀ i,i < C.n→(nd C i).term≤(nd C u).term:=lv.top_of (fun i=>(nd C i).term) C.n hn
theorem first_round (h:Ok M C) (h2:2≤C.n) (hM:M + C.n < 18446744073709551616):∃ u,u < C.n∧TB (nd (roundC C) u).term (roundC C):=by
 have ho1:=ok_ticks h C.n (Nat.le_refl _) hM
 have hs:=new_put ho1 hM 500
 have hor:=ok_round h hM
 obtain ⟨u,hu,hmax⟩:=max_term (roundC C) (by rw [round_n];omega)
 have hs:∀ m ∈ (roundC C).way,Sent m (roundC C):=fun m hm=>hs m (by rw [show 200 - 500=0 from rfl,List.drop_zero];exact hm)
 refine ⟨u,by rw [round_n] at hu;exact hu,hmax,fun m hm=>?_,fun m hm hk ht=>?_⟩
 ·obtain ⟨f,d,_,_,hf,_,hle⟩:=hor.dom hm
  exact Nat.le_trans hle (hmax f hf)
 ·obtain ⟨i,h1,h3,h4⟩:=hs m hm hk
  refine ⟨i,h1,h3,?_⟩
  rcases h4 with h4 | h4
  ·exact ⟨h4.1,h4.2.trans ht⟩
  ·have:=hmax i h3
   omega
def Sync (C:Clu):Prop:=∃ T,TB T C∧All T C∧((NL T C∧ws C.way≤100)∨∃ l,W2 T l C)
theorem sync_any (h:Ok M C) (h2:2≤C.n) (hM:M + C.n < 18446744073709551616) (hb:TB T C) (hn:NoAV C) (hl:NL T C∨∃ y,StT (T + 1) C y) {y:Nat} (hy:y < C.n) (hs:stands (nd C y)) (ht:T≤(nd C y).term + 1):Sync (roundC C):=by
 by_cases hc:∃ y,StT (T + 1) C y
 ·obtain ⟨y,hy⟩:=hc
  exact ⟨T + 1,sync_round h h2 hM (hb.up (Nat.lt_succ_self _)) hn (hb.nl (Nat.lt_succ_self _)) hy fun i hi _=>by have:=hb.nd i hi;omega⟩
 ·have hle:∀ i,i < C.n→stands (nd C i)→(nd C i).term + 1≤T:=fun i hi hst=>by
   have h1:=hb.nd i hi
   by_cases he:(nd C i).term + 1=T + 1
   ·exact absurd ⟨i,hi,hst,he⟩ hc
   ·omega
  have hl:NL T C:=by
   rcases hl with hl | hl
   ·exact hl
   ·exact absurd hl hc
  exact ⟨T,sync_round h h2 hM hb hn hl (y:=y) ⟨hy,hs,by have:=hle y hy hs;omega⟩ hle⟩
theorem nl_phase {u:Nat}:∀ d M T (C:Clu),Ok M C→2≤C.n→M + d * C.n < 18446744073709551616→TB T C→NoAV C→NL T C→u < C.n→(nd C u).term=T→10 + 3 * (u:Int) - (nd C u).idle≤d→∃ t,1≤t∧t≤d∧Sync (rnd t C)
 | 0,M,T,C,h,_,_,_,_,_,hu,_,hd=>by
  have:=(h.nx u hu).lt
  have:=h.id hu
  omega
 | d + 1,M,T,C,h,h2,hM,hb,hn,hl,hu,ht,hd=>by
  rw [Nat.succ_mul] at hM
  by_cases hc:∃ y,y < C.n∧stands (nd C y)∧T≤(nd C y).term + 1
  ·obtain ⟨y,hy,hs,hyt⟩:=hc
   exact ⟨1,Nat.le_refl _,by omega,sync_any (C:=C) h h2 (by omega) hb hn (.inl hl) hy hs hyt⟩
  ·obtain ⟨q1,q2,q3⟩:=quiet_nl h h2 (by omega) hb hn hl fun i hi hs=>by
    apply Classical.byContradiction
    intro hlt
    exact hc ⟨i,hi,hs,by omega⟩
   have e:=q3 u hu ht
   obtain ⟨t,t1,t2,t3⟩:=nl_phase (u:=u) d (M + C.n) T (roundC C) (ok_round h (by omega)) (by rw [round_n];exact h2) (by rw [round_n];omega) q1 (round_nav h (by omega)) q2 (by rw [round_n];exact hu) (by rw [e];exact ht) (by rw [e];show 10 + 3 * (u:Int) - ((nd C u).idle + 1)≤d;omega)
   refine ⟨1 + t,by omega,by omega,?_⟩
   rw [rnd_add]
   exact t3
theorem l_phase {l:Nat}:∀ d M T (C:Clu),Ok M C→2≤C.n→M + d * C.n < 18446744073709551616→TB T C→NoAV C→Leads T C l→3 - (nd C l).idle≤d→∃ t,1≤t∧t≤d∧(Sync (rnd t C)∨∃ T' l',S T' l' (rnd t C))
 | 0,M,T,C,h,_,_,_,_,hl,hd=>by
  have:=(h.nx l hl.1).i2 hl.2.1
  omega
 | d + 1,M,T,C,h,h2,hM,hb,hn,hl,hd=>by
  rw [Nat.succ_mul] at hM
  by_cases hc:∃ y,StT (T + 1) C y
  ·obtain ⟨y,hy⟩:=hc
   exact ⟨1,Nat.le_refl _,by omega,.inl (sync_any (C:=C) h h2 (by omega) hb hn (.inr ⟨y,hy⟩) hy.1 hy.2.1 (by have:=hy.2.2;omega))⟩
  ·have hle:∀ i,i < C.n→stands (nd C i)→(nd C i).term + 1≤T:=fun i hi hst=>by
    have h1:=hb.nd i hi
    by_cases he:(nd C i).term + 1=T + 1
    ·exact absurd ⟨i,hi,hst,he⟩ hc
    ·omega
   by_cases hbt:3≤(nd C l).idle + 1
   ·exact ⟨1,Nat.le_refl _,by omega,.inr ⟨T,l,(beat_round (C:=C) h h2 (by omega) hb hn hl hle hbt).1⟩⟩
   ·obtain ⟨r1,r2,r3⟩:=l_round h h2 (by omega) hb hl hle hbt
    obtain ⟨t,t1,t2,t3⟩:=l_phase (l:=l) d (M + C.n) T (roundC C) (ok_round h (by omega)) (by rw [round_n];exact h2) (by rw [round_n];omega) r1 (round_nav h (by omega)) r2 (by rw [r3];omega)
    refine ⟨1 + t,by omega,by omega,?_⟩
    rw [rnd_add]
    exact t3
theorem idle_round (h:Ok M C) (h2:2≤C.n) (hM:M + C.n < 18446744073709551616) {i:Nat} (hi:i < C.n):(nd (roundC C) i).idle≤(nd C i).idle + 1∧(stands (nd C i)→(nd (roundC C) i).idle≤0):=by
 have ho1:=ok_ticks h C.n (Nat.le_refl _) hM
 have h0:=(h.nx i hi).i0
 constructor
 ·refine idle_dels ho1 hM i (by omega) ?_ 500
  by_cases hr:(nd C i).role=2
  ·rw [tickd hi,(tick_role2 hr).2.2.1]
   split <;> omega
  ·by_cases hs:stands (nd C i)
   ·rw [(tickd_stand h h2 hi hs).1]
    show (0:Int)≤_
    omega
   ·rw [tickd_idle h h2 hi hs hr]
    exact Int.le_refl _
 ·intro hs
  refine idle_dels ho1 hM i (Int.le_refl _) ?_ 500
  rw [(tickd_stand h h2 hi hs).1]
  exact Int.le_refl _
def near (C:Clu) (v:Nat):Nat:=lv.cnt C.n fun k=>decide ((nd C k).idle≤v)
theorem near_more (h:Ok M C) (h2:2≤C.n) (hM:M + C.n < 18446744073709551616) {v y:Nat} (hv:v≤2) (hy:y < C.n) (hs:stands (nd C y)):near C v + 1≤near (roundC C) (v + 1):=by
 unfold near
 rw [round_n]
 refine lv.cnt_lt (fun i hi hp=>?_) hy ?_ ?_
 ·simp only [decide_eq_true_eq] at hp ⊢
  have:=(idle_round h h2 hM hi).1
  omega
 ·have:=hs.2
  have:=h.id hy
  simp only [decide_eq_false_iff_not]
  omega
 ·have:=(idle_round h h2 hM hy).2 hs
  simp only [decide_eq_true_eq]
  omega
theorem near_all (h:Ok M C) {v:Nat} (hv:v≤2) (hc:C.n≤near C v):∀ i,i < C.n→¬ stands (nd C i):=by
 intro i hi hs
 have:=hs.2
 have:=h.id hi
 have h1:=lv.cnt_lt (n:=C.n) (p:=fun k=>decide ((nd C k).idle≤v)) (q:=fun _=>true) (fun _ _ _=>rfl) hi (by simp only [decide_eq_false_iff_not];omega) rfl
 have h2:=lv.cnt_all_le C.n (fun _=>true)
 unfold near at hc
 omega
theorem w_phase:∀ d v M T l (C:Clu),v + d=2→Ok M C→2≤C.n→C.n≤5→M + (d + 1) * C.n < 18446744073709551616→NoAV C→W2 T l C→C.n / 2 + 1 + v≤near C v→∃ t,1≤t∧((t≤d + 1∧∃ T' l',S T' l' (rnd t C))∨(t≤d∧∃ T',TB T' (rnd t C)∧All T' (rnd t C)∧NL T' (rnd t C)∧ws (rnd t C).way≤100)):=by
 intro d
 induction d with
 | zero=>
  intro v M T l C hvd h h2 h5 hM hn hW hc
  have hq:=near_all h (v:=v) (by omega) (by omega)
  refine ⟨1,Nat.le_refl _,.inl ⟨by omega,T,l,?_⟩⟩
  exact (w_round h h2 (by omega) hn hW.w hW.all (by rw [hW.i0];exact Int.le_refl _) hq (by rw [hW.i0];decide)).1
 | succ d ih=>
  intro v M T l C hvd h h2 h5 hM hn hW hc
  rw [Nat.succ_mul] at hM
  by_cases hst:∃ y,y < C.n∧stands (nd C y)
  ·obtain ⟨y,hy,hs⟩:=hst
   have hyT:StT (T + 1) C y:=⟨hy,hs,by rw [hW.all y hy]⟩
   have hM1:M + C.n < 18446744073709551616:=by
    have:0≤(d + 1) * C.n:=Nat.zero_le _
    omega
   have hn1:=near_more h h2 hM1 (v:=v) (by omega) hy hs
   have hsy:=sync_round h h2 hM1 (hW.w.tb.up (Nat.lt_succ_self T)) hn (hW.w.tb.nl (Nat.lt_succ_self T)) hyT fun i hi _=>by rw [hW.all i hi];exact Nat.le_refl _
   obtain ⟨s1,s2,s3⟩:=hsy
   rcases s3 with ⟨s3,s4⟩ | ⟨l',s3⟩
   ·exact ⟨1,Nat.le_refl _,.inr ⟨by omega,T + 1,s1,s2,s3,s4⟩⟩
   ·obtain ⟨t,t1,t2⟩:=ih (v + 1) (M + C.n) (T + 1) l' (roundC C) (by omega) (ok_round h hM1) (by rw [round_n];exact h2) (by rw [round_n];exact h5) (by rw [round_n];omega) (round_nav h hM1) s3 (by rw [round_n];omega)
    refine ⟨1 + t,by omega,?_⟩
    rw [rnd_add]
    rcases t2 with ⟨t2,t3⟩ | ⟨t2,t3⟩
    ·exact .inl ⟨by omega,t3⟩
    ·exact .inr ⟨by omega,t3⟩
  ·refine ⟨1,Nat.le_refl _,.inl ⟨by omega,T,l,?_⟩⟩
   exact (w_round h h2 (by omega) hn hW.w hW.all (by rw [hW.i0];exact Int.le_refl _) (fun i hi hs=>hst ⟨i,hi,hs⟩) (by rw [hW.i0];decide)).1
theorem from_sync (h:Ok M C) (h2:2≤C.n) (h5:C.n≤5) (hM:M + 40 * C.n < 100000) (hn:NoAV C) (hS:Sync C):∃ r,1≤r∧r≤37∧∃ T l,S T l (rnd r C)∧(r≤3∨Late (M + r * C.n) T l (rnd r C)):=by
 have chain:∀ s,s≤2→(∃ T',TB T' (rnd s C)∧All T' (rnd s C)∧NL T' (rnd s C)∧ws (rnd s C).way≤100)→∃ r,1≤r∧r≤37∧∃ T l,S T l (rnd r C)∧(r≤3∨Late (M + r * C.n) T l (rnd r C)):=by
  rintro s hs ⟨T',a1,a2,a3,a4⟩
  have hsn:s * C.n≤2 * C.n:=Nat.mul_le_mul_right _ hs
  have hos:=ok_rnd h s (by omega)
  have hns:=nav_rnd h hn s (by omega)
  have en:=rnd_n C s
  obtain ⟨t,t1,t2,T2,l,t3,t4⟩:=d_chain hos (by rw [en];exact h2) (by rw [en];exact h5) (by rw [en];omega) hns a1 a2 a3 a4
  refine ⟨s + t,by omega,by omega,T2,l,by rw [rnd_add];exact t3,?_⟩
  by_cases ht:2≤t
  ·right
   have:=t4 ht
   rw [rnd_add,Nat.add_mul,← Nat.add_assoc]
   rw [en] at this
   exact this
  ·left;omega
 obtain ⟨T,b1,b2,b3⟩:=hS
 rcases b3 with ⟨b3,b4⟩ | ⟨l,b3⟩
 ·exact chain 0 (by omega) ⟨T,b1,b2,b3,b4⟩
 ·have hmj:=b3.mj
  have hnear:C.n / 2 + 1 + 0≤near C 0:=by
   unfold maj at hmj
   unfold near lv.cnt
   have e:((List.range C.n).filter fun k=>decide ((nd C k).idle≤0)).length=((List.range C.n).filter fun k=>decide ((nd C k).idle≤((0:Nat):Int))).length:=rfl
   omega
  obtain ⟨t,t1,t2⟩:=w_phase 2 0 M T l C rfl h h2 h5 (by omega) hn b3 hnear
  rcases t2 with ⟨t2,T',l',t3⟩ | ⟨t2,t3⟩
  ·exact ⟨t,t1,by omega,T',l',t3,.inl (by omega)⟩
  ·exact chain t (by omega) t3
theorem elect (h:Ok M C) (h2:2≤C.n) (h5:C.n≤5) (hM:M + 70 * C.n < 100000):∃ r,1≤r∧r≤60∧∃ T l,S T l (rnd r C)∧(r≤26∨Late (M + r * C.n) T l (rnd r C)):=by
 obtain ⟨u,hu,hb⟩:=first_round h h2 (by omega)
 have ho1:=ok_round h (M:=M) (by omega)
 have hn1:=round_nav h (M:=M) (by omega)
 have en:=round_n C
 have fin:∀ s,s≤22→Sync (rnd (1 + s) C)→∃ r,1≤r∧r≤60∧∃ T l,S T l (rnd r C)∧(r≤26∨Late (M + r * C.n) T l (rnd r C)):=by
  intro s hs hS
  have hsn:(1 + s) * C.n≤23 * C.n:=Nat.mul_le_mul_right _ (by omega)
  have hos:=ok_rnd h (1 + s) (by omega)
  have es:=rnd_n C (1 + s)
  have hns:NoAV (rnd (1 + s) C):=by
   rw [rnd_add]
   exact nav_rnd ho1 hn1 s (by rw [en];rw [Nat.add_mul] at hsn;omega)
  obtain ⟨r,r1,r2,T,l,r3,r4⟩:=from_sync hos (by rw [es];exact h2) (by rw [es];exact h5) (by rw [es];omega) hns hS
  refine ⟨1 + s + r,by omega,by omega,T,l,by rw [rnd_add];exact r3,?_⟩
  rcases r4 with r4 | r4
  ·left;omega
  ·right
   rw [rnd_add,Nat.add_mul,← Nat.add_assoc]
   rw [es] at r4
   exact r4
 by_cases hl:∃ l,Leads (nd (roundC C) u).term (roundC C) l
 ·obtain ⟨l,hl⟩:=hl
  have hi:=(ho1.nx l hl.1).i0
  obtain ⟨t,t1,t2,t3⟩:=l_phase 3 _ _ (roundC C) ho1 (by rw [en];exact h2) (by rw [en];omega) hb hn1 hl (by omega)
  rcases t3 with t3 | ⟨T',l',t3⟩
  ·exact fin t (by omega) (by rw [rnd_add];exact t3)
  ·exact ⟨1 + t,by omega,by omega,T',l',by rw [rnd_add];exact t3,.inl (by omega)⟩
 ·have hi:=(ho1.nx u (by rw [en];exact hu)).i0
  obtain ⟨t,t1,t2,t3⟩:=nl_phase (u:=u) 22 _ _ (roundC C) ho1 (by rw [en];exact h2) (by rw [en];omega) hb hn1 (fun l hl'=>hl ⟨l,hl'⟩) (by rw [en];exact hu) rfl (by omega)
  exact fin t t2 (by rw [rnd_add];exact t3)
end
end cl
end Go.Proofs.YtmcibggjolckoaaGreatDoor
namespace Go.Proofs.YtmcibggjolckoaaGreatDoor
namespace cl
open rl (Ent e0)
set_option maxRecDepth 100000
def ptN (x:rf.Node):Nat:=if x.role=1 then 10 else min 10 x.idle.toNat
def ptC (C:Clu) (i:Nat):Nat:=if (C.p i).up=true then ptN (nd C i) else 0
structure Short2 (a:Nat) (C:Clu):Prop where
 st:∀ i,i < C.n→(C.p i).s.l.length≤a
 up:∀ i,i < C.n→(C.p i).up=true→(nd C i).log.length≤a
 way:∀ m ∈ C.way,m.kind=3→m.index + m.ents.length≤a
def Room (b:Nat) (C:Clu):Prop:=∃ a,Short2 a C∧10 * a + ((List.range C.n).map (ptC C)).sum≤b
theorem ptN_le (x:rf.Node):ptN x≤10:=by unfold ptN;split <;> omega
theorem sum_upd (g g':Nat→Nat) {k:Nat} (h:∀ f,f ≠ k→g' f=g f):∀ n,k < n→((List.range n).map g').sum + g k=((List.range n).map g).sum + g' k
 | 0,hk=>absurd hk (Nat.not_lt_zero _)
 | n + 1,hk=>by
  rw [List.range_succ,List.map_append,List.map_append,List.sum_append_nat,List.sum_append_nat]
  simp only [List.map_cons,List.map_nil,List.sum_cons,List.sum_nil]
  by_cases h2:k < n
  ·have:=sum_upd g g' h n h2
   have:=h n (by omega)
   omega
  ·have hkn:k=n:=by omega
   subst hkn
   have e:((List.range k).map g')=((List.range k).map g):=by
    apply List.map_congr_left
    intro a ha
    exact h a (by have:=List.mem_range.1 ha;omega)
   rw [e]
   omega
section
variable {b e:Nat} {C C':Clu}
theorem room_mono {b':Nat} (h:Room b C) (hb:b≤b'):Room b' C:=by
 obtain ⟨a,h1,h2⟩:=h
 exact ⟨a,h1,by omega⟩
theorem room_after {w:List rf.Msg} {i:Nat} {r:rf.Node × List rf.Msg} (h:Room b C) (hw:∀ m ∈ w,m ∈ C.way) (hi:i < C.n) (hu:(C.p i).up=true) (hA:After { C with way:=w } i r.1 r.2 C')
  (ha:∀ a,(nd C i).log.length≤a→(∀ m ∈ C.way,m.kind=3→m.index + m.ents.length≤a)→∃ a',a≤a'∧r.1.log.length≤a'∧(∀ o ∈ r.2,o.kind=3→o.index + o.ents.length≤a')∧10 * a' + ptN r.1≤10 * a + ptN (nd C i) + e):Room (b + e) C':=by
 obtain ⟨a,⟨h1,h2,h3⟩,h4⟩:=h
 obtain ⟨a',a1,a2,a3,a4⟩:=ha a (h2 i hi hu) h3
 have key:∀ (D:Clu) (d:Nd),D.n=C.n→D.p=upd C.p i d→d.s.l.length≤a'→(d.up=true→d.x.log.length≤a')→(∀ m ∈ D.way,m.kind=3→m.index + m.ents.length≤a')→(d.up=true→ptN d.x≤ptN r.1)→Room (b + e) D:=by
  intro D d hn hp hs hl hw hpt
  have hDp:∀ j,D.p j=upd C.p i d j:=fun j=>by rw [hp]
  refine ⟨a',⟨fun j hj=>?_,fun j hj huj=>?_,hw⟩,?_⟩
  ·rw [hDp]
   by_cases hji:j=i
   ·subst hji;rw [upd_same];exact hs
   ·rw [upd_other _ _ hji];exact Nat.le_trans (h1 j (by rw [← hn];exact hj)) a1
  ·show (D.p j).x.log.length≤a'
   rw [hDp] at huj ⊢
   by_cases hji:j=i
   ·subst hji;rw [upd_same] at huj ⊢;exact hl huj
   ·rw [upd_other _ _ hji] at huj ⊢;exact Nat.le_trans (h2 j (by rw [← hn];exact hj) huj) a1
  ·rw [hn]
   have hs:=sum_upd (ptC C) (ptC D) (k:=i) (fun f hf=>by
    unfold ptC nd
    rw [hDp,upd_other _ _ hf]) C.n hi
   have e1:ptC C i=ptN (nd C i):=by unfold ptC;rw [if_pos hu]
   have e2:ptC D i≤ptN r.1:=by
    unfold ptC nd
    rw [hDp,upd_same]
    split
    ·exact hpt ‹_›
    ·exact Nat.zero_le _
   omega
 have hst:=h1 i hi
 cases hA with
 | ok=>
  refine key _ ⟨stOf r.1,true,r.1⟩ rfl rfl a2 (fun _=>a2) (fun m hm hk=>?_) fun _=>Nat.le_refl _
  have hm2:m ∈ last (w ++ r.2):=hm
  rcases List.mem_append.1 (mem_last hm2) with hm | hm
  ·exact Nat.le_trans (h3 m (hw m hm) hk) a1
  ·exact a3 m hm hk
 | old z=>exact key _ ⟨(C.p i).s,false,z⟩ rfl rfl (Nat.le_trans hst a1) (fun hf=>by cases hf) (fun m hm hk=>Nat.le_trans (h3 m (hw m hm) hk) a1) fun hf=>by cases hf
 | new z=>exact key _ ⟨stOf r.1,false,z⟩ rfl rfl a2 (fun hf=>by cases hf) (fun m hm hk=>Nat.le_trans (h3 m (hw m hm) hk) a1) fun hf=>by cases hf
theorem putMsg_len {x y:rf.Node} {a:Nat} (h:x.log.length≤a) (f:Nat):(rf.stamp y (rf.putMsg x f)).index + (rf.stamp y (rf.putMsg x f)).ents.length≤a:=by
 show rf.nextOf x f - 1 + ((x.log.drop (rf.nextOf x f - 1)).take 20).length≤a
 have hn:rf.nextOf x f - 1≤x.log.length:=by unfold rf.nextOf;omega
 rw [List.length_take,List.length_drop]
 omega
theorem puts_len3 {x:rf.Node} {a:Nat} (h:x.log.length≤a):∀ o ∈ rf.puts x,o.index + o.ents.length≤a:=by
 intro o ho
 obtain ⟨j,_,_,rfl⟩:=puts_mem ho
 exact putMsg_len h j
theorem room_tick {x:rf.Node} {n:Nat} (hx:Nx x) (hm:x.many=(n:Int)) (h2:2≤n) (h7:x.id < 7) (a:Nat) (hl:x.log.length≤a):(rf.tick x).1.log.length≤a∧(∀ o ∈ (rf.tick x).2,o.kind=3→o.index + o.ents.length≤a)∧ptN (rf.tick x).1≤ptN x + 1:=by
 have h0:=hx.id0
 have hi:=hx.i0
 rw [tick_eq hm h2 h0 h7]
 split
 ·rename_i hr
  split
  ·refine ⟨hl,fun o ho _=>puts_len3 hl o ho,?_⟩
   unfold ptN
   rw [if_neg (by show ¬ x.role=1;omega),if_neg (by omega)]
   show min 10 (0:Int).toNat≤_
   simp
  ·refine ⟨hl,fun o ho=>(by cases ho),?_⟩
   unfold ptN
   rw [if_neg (by show ¬ x.role=1;omega),if_neg (by omega)]
   show min 10 (x.idle + 1).toNat≤_
   omega
 ·split
  ·rename_i hs
   refine ⟨hl,fun o ho hk=>?_,?_⟩
   ·have:=(asks_mem ho).2.2.1
    omega
   ·have e:ptN (stoodV x)=10:=rfl
    rw [e]
    have:=hs.2
    unfold ptN
    split <;> omega
  ·refine ⟨hl,fun o ho=>(by cases ho),?_⟩
   unfold ptN
   show (if x.role=1 then 10 else min 10 (x.idle + 1).toNat)≤_
   split
   ·omega
   ·omega
theorem room_step {x:rf.Node} {m:rf.Msg} {K:Nat} (hx:Nx x) (hk:NdLim K K x) (a:Nat) (hl:x.log.length≤a) (hm:m.kind=3→m.index + m.ents.length≤a):∃ a',a≤a'∧(rf.step x m).1.log.length≤a'∧(∀ o ∈ (rf.step x m).2,o.kind=3→o.index + o.ents.length≤a')∧10 * a' + ptN (rf.step x m).1≤10 * a + ptN x + 0:=by
 have hs:=stp x m
 have hv:=stv x m
 have hi:=hx.i0
 by_cases hlead:(rf.step x m).1.role=2∧x.role ≠ 2
 ·obtain ⟨l1,l2⟩:=hlead
  obtain ⟨o1,o2,o3⟩:=lead_out l1 l2
  obtain ⟨r1,r2⟩:=hs.role2 l1
  have hid:(rf.step x m).1.idle=0∧x.role=1:=by
   rcases r2 with r2 | r2
   ·exact absurd r2 l2
   ·exact ⟨r2.2.2.2.2,r2.1⟩
  have hlen:(rf.step x m).1.log.length≤a + 1:=by
   rw [o3,(lead_parts _).2.2.2.2.2.2.1,List.length_append]
   show x.log.length + 1≤a + 1
   omega
  refine ⟨a + 1,Nat.le_succ a,hlen,fun o ho _=>by rw [o1] at ho;exact puts_len3 hlen o ho,?_⟩
  unfold ptN
  rw [if_neg (by omega),if_pos hid.2,hid.1]
  simp
  omega
 ·have hpt:ptN (rf.step x m).1≤ptN x:=by
   by_cases hr1:(rf.step x m).1.role=1
   ·have:=(hs.role1 hr1).1
    unfold ptN
    rw [if_pos hr1,if_pos this]
    exact Nat.le_refl _
   ·unfold ptN
    rw [if_neg hr1]
    rcases hs.idle with c | c
    ·rw [c];split <;> omega
    ·rw [c];simp
  refine ⟨a,Nat.le_refl a,?_,fun o ho hko=>?_,by omega⟩
  ·cases hmn:rf.meant x m with
   | false=>rw [step_not hmn];exact hl
   | true=>
    rcases hv.log with c | c | c
    ·rw [c];exact hl
    ·obtain ⟨c1,c2⟩:=c
     have ft:=fresh_term x m
     have fl:=(fresh_keep x m).2.2.1
     rw [step_of hmn,if_neg (by omega),if_neg (by omega),if_pos c1]
     by_cases hlt:m.term < (rf.fresh x m).term
     ·rw [put_low hlt,fl];exact hl
     ·have he:m.term=(rf.fresh x m).term:=by omega
      by_cases hp:rl.termAt (rf.fresh x m).log m.index=(m.at_,true)
      ·rw [put_yes he hp]
       exact match_lim (by rw [fl];exact hl) (hm c1)
      ·rw [put_no he hp]
       show (rf.fresh x m).log.length≤a
       rw [fl];exact hl
    ·obtain ⟨c1,c2⟩:=c
     rcases (hs.role2 c2).2 with c3 | c3
     ·rw [step_of hmn,if_neg (by omega),if_pos c1]
      unfold rf.vote
      have fr:(rf.fresh x m).role ≠ 1:=by
       by_cases hlt:x.term < m.term
       ·rw [fresh_lt hlt];show ¬ (0:Int)=1;decide
       ·rw [fresh_le (by omega)];omega
      rw [if_neg (fun hh=>fr hh.1),(fresh_keep x m).2.2.1]
      exact hl
     ·exact absurd ⟨c2,by omega⟩ hlead
  ·obtain ⟨o1,o2,o3⟩:=hs.outs o ho
   have hr2:(rf.step x m).1.role=2:=by rcases o3 with o3 | o3 | o3 <;> first | exact o3.2.1 | omega
   have hmk:m.kind=2∨m.kind=4:=by rcases o3 with o3 | o3 | o3 <;> first | exact o3.2.2 | omega
   have hx2:x.role=2:=by
    apply Classical.byContradiction
    intro hne
    exact hlead ⟨hr2,hne⟩
   have hterm:=(hs.role2 hr2).1
   cases hmn:rf.meant x m with
   | false=>rw [step_not hmn] at ho;cases ho
   | true=>
    have hle:=stp_term hmn
    rw [step_of hmn,fresh_le (by omega),if_neg (by omega)] at ho
    by_cases k2:m.kind=2
    ·rw [if_pos k2] at ho
     unfold rf.vote at ho
     rw [if_neg (fun hh=>by rw [hx2] at hh;exact absurd hh.1 (by decide))] at ho
     cases ho
    ·rw [if_neg k2,if_neg (by omega)] at ho
     have hk':NdLim a K x:=⟨hl,fun hh=>by rw [hx2] at hh;exact absurd hh (by decide),hk.term,hk.i0,hk.i1,hk.text,hk.vote⟩
     exact ((heard_lim (m:=m) hk').2 o ho).end_
theorem propose_eq2 {x:rf.Node} {text:List UInt8} (hr:x.role=2) (h0:0≤x.id) (h7:x.id < 7) (ht:text.length≤100):rf.propose x text=((rf.add x text).1,(rf.add x text).2,x.log.length + 1,0):=by
 unfold rf.propose
 rw [if_neg (by omega),if_neg (by omega)]
theorem room_propose {x:rf.Node} {text:List UInt8} (a:Nat) (hl:x.log.length≤a):∃ a',a≤a'∧(rf.propose x text).1.log.length≤a'∧(∀ o ∈ (rf.propose x text).2.1,o.kind=3→o.index + o.ents.length≤a')∧10 * a' + ptN (rf.propose x text).1≤10 * a + ptN x + 10:=by
 unfold rf.propose
 split
 ·exact ⟨a,Nat.le_refl a,hl,fun o ho=>(by cases ho),Nat.le_add_right _ _⟩
 ·split
  ·exact ⟨a,Nat.le_refl a,hl,fun o ho=>(by cases ho),Nat.le_add_right _ _⟩
  ·obtain ⟨a1,a2,a3,a4,a5,a6,a7,a8,a9,_⟩:=add_parts x text
   have hlen:(rf.add x text).1.log.length≤a + 1:=by rw [a7,List.length_append];show x.log.length + 1≤a + 1;omega
   refine ⟨a + 1,Nat.le_succ a,hlen,fun o ho _=>?_,?_⟩
   ·have ho:o ∈ (rf.add x text).2:=ho
    rw [add_out] at ho
    exact puts_len3 hlen o ho
   ·show 10 * (a + 1) + ptN (rf.add x text).1≤_
    unfold ptN
    rw [a3,a5]
    omega
theorem room_way {w:List rf.Msg} (h:Room b C) (hw:∀ m ∈ w,m ∈ C.way):Room b { C with way:=w }:=by
 obtain ⟨a,⟨h1,h2,h3⟩,h4⟩:=h
 exact ⟨a,⟨h1,h2,fun m hm=>h3 m (hw m hm)⟩,h4⟩
theorem room_fall {i:Nat} (h:Room b C) (hi:i < C.n) (z:rf.Node):Room b (fallen C i (C.p i).s z):=by
 obtain ⟨a,⟨h1,h2,h3⟩,h4⟩:=h
 refine ⟨a,⟨fun j hj=>?_,fun j hj huj=>?_,h3⟩,?_⟩
 ·by_cases hji:j=i
  ·subst hji
   show (upd C.p j _ j).s.l.length≤a
   rw [upd_same];exact h1 j hi
  ·show (upd C.p i _ j).s.l.length≤a
   rw [upd_other _ _ hji];exact h1 j hj
 ·have huj:(upd C.p i ⟨(C.p i).s,false,z⟩ j).up=true:=huj
  show (upd C.p i ⟨(C.p i).s,false,z⟩ j).x.log.length≤a
  by_cases hji:j=i
  ·subst hji;rw [upd_same] at huj;cases huj
  ·rw [upd_other _ _ hji] at huj ⊢;exact h2 j hj huj
 ·have hs:=sum_upd (ptC C) (ptC (fallen C i (C.p i).s z)) (k:=i) (fun f hf=>by
   unfold ptC nd
   show (if (upd C.p i _ f).up=true then ptN (upd C.p i _ f).x else 0)=_
   rw [upd_other _ _ hf]) C.n hi
  have e2:ptC (fallen C i (C.p i).s z) i=0:=by
   unfold ptC nd
   show (if (upd C.p i _ i).up=true then ptN (upd C.p i _ i).x else 0)=0
   rw [upd_same]
   rfl
  show 10 * a + ((List.range C.n).map (ptC (fallen C i (C.p i).s z))).sum≤b
  omega
theorem room_start {i:Nat} (h:Room b C) (hi:i < C.n) (hd:(C.p i).up=false):Room b (started C i):=by
 obtain ⟨a,⟨h1,h2,h3⟩,h4⟩:=h
 refine ⟨a,⟨fun j hj=>?_,fun j hj huj=>?_,h3⟩,?_⟩
 ·by_cases hji:j=i
  ·subst hji
   show (upd C.p j _ j).s.l.length≤a
   rw [upd_same];exact h1 j hi
  ·show (upd C.p i _ j).s.l.length≤a
   rw [upd_other _ _ hji];exact h1 j hj
 ·by_cases hji:j=i
  ·subst hji
   show (upd C.p j _ j).x.log.length≤a
   rw [upd_same];exact h1 j hi
  ·have huj:(upd C.p i _ j).up=true:=huj
   show (upd C.p i _ j).x.log.length≤a
   rw [upd_other _ _ hji] at huj ⊢;exact h2 j hj huj
 ·have hs:=sum_upd (ptC C) (ptC (started C i)) (k:=i) (fun f hf=>by
   unfold ptC nd
   show (if (upd C.p i _ f).up=true then ptN (upd C.p i _ f).x else 0)=_
   rw [upd_other _ _ hf]) C.n hi
  have e2:ptC (started C i) i=0:=by
   unfold ptC nd
   show (if (upd C.p i _ i).up=true then ptN (upd C.p i _ i).x else 0)=0
   rw [upd_same]
   rfl
  show 10 * a + ((List.range C.n).map (ptC (started C i))).sum≤b
  omega
theorem room_tickC {M i:Nat} (h:Ok M C) (h2:2≤C.n) (hR:Room b C) (hi:i < C.n):Room (b + 1) (tickC i C):=by
 have hid:=h.id hi
 have h7:=h.n7
 refine room_after (w:=C.way) (r:=rf.tick (nd C i)) hR (fun m hm=>hm) hi (h.up i hi) .ok fun a ha _=>?_
 obtain ⟨t1,t2,t3⟩:=room_tick (h.nx i hi) (h.many hi) h2 (by omega) a ha
 exact ⟨a,Nat.le_refl a,t1,t2,by omega⟩
theorem room_del {M:Nat} (h:Ok M C) (hR:Room b C):Room b (delC C):=by
 cases hw:C.way with
 | nil=>rw [delC_nil hw];exact hR
 | cons m r=>
  have hmem:m ∈ C.way:=by rw [hw];exact List.mem_cons_self
  obtain ⟨f,d,_,hd,_,hdn,_⟩:=h.dom hmem
  rw [delC_cons hw,hd,Int.toNat_natCast]
  have hwe:∀ y ∈ r,y ∈ C.way:=fun y hy=>by rw [hw];exact List.mem_cons_of_mem _ hy
  exact room_after (e:=0) (w:=r) (r:=rf.step (nd C d) m) hR hwe hdn (h.up d hdn) .ok fun a ha hm=>room_step (h.nx d hdn) (h.lim.up d hdn (h.up d hdn)) a ha (hm m hmem)
theorem room_ticks {M:Nat} (h:Ok M C) (h2:2≤C.n) (hR:Room b C):∀ j,j≤C.n→M + j < 18446744073709551616→Room (b + j) (ticksC j C)
 | 0,_,_=>hR
 | j + 1,hj,hM=>room_tickC (ok_ticks h j (by omega) (by omega)) (by rw [ticks_n];exact h2) (room_ticks h h2 hR j (by omega) (by omega)) (by rw [ticks_n];omega)
theorem room_dels {M:Nat} (h:Ok M C) (hM:M < 18446744073709551616) (hR:Room b C):∀ j,Room b (delsC j C)
 | 0=>hR
 | j + 1=>room_del (ok_dels h hM j) (room_dels h hM hR j)
theorem room_round {M:Nat} (h:Ok M C) (h2:2≤C.n) (hM:M + C.n < 18446744073709551616) (hR:Room b C):Room (b + C.n) (roundC C):=room_dels (ok_ticks h C.n (Nat.le_refl _) hM) hM (room_ticks h h2 hR C.n (Nat.le_refl _) hM) 500
theorem room_rnd {M:Nat} (h:Ok M C) (h2:2≤C.n) (hR:Room b C):∀ t,M + t * C.n < 18446744073709551616→Room (b + t * C.n) (rnd t C)
 | 0,_=>by rw [Nat.zero_mul];exact hR
 | t + 1,hM=>by
  rw [Nat.succ_mul] at hM ⊢
  have ih:=room_rnd h h2 hR t (by omega)
  have:=room_round (ok_rnd h t (by omega)) (by rw [rnd_n];exact h2) (by rw [rnd_n];omega) ih
  rw [rnd_n] at this
  rw [← Nat.add_assoc]
  exact this
theorem room_len {M:Nat} (h:Ok M C) (hR:Room b C) {i:Nat} (hi:i < C.n):10 * (nd C i).log.length≤b:=by
 obtain ⟨a,⟨_,h2,_⟩,h4⟩:=hR
 have:=h2 i hi (h.up i hi)
 omega
end
end cl
end Go.Proofs.YtmcibggjolckoaaGreatDoor
namespace Go.Proofs.YtmcibggjolckoaaGreatDoor
namespace cl
open rl (Ent e0)
set_option maxRecDepth 100000
structure Ext (b:Nat) (C:Clu):Prop where
 nx:∀ i,i < C.n→(C.p i).up=true→Nx (nd C i)
 nl:∀ i,i < C.n→(C.p i).up=true→Nl (nd C i)
 room:2≤C.n→Room b C
def RoomT (b i:Nat) (C:Clu):Prop:=∃ a,Short2 a C∧10 * a + ((List.range C.n).map fun j=>if j=i then 0 else ptC C j).sum≤b
structure ExtT (b i:Nat) (C:Clu):Prop where
 nx:∀ i,i < C.n→(C.p i).up=true→Nx (nd C i)
 nl:∀ i,i < C.n→(C.p i).up=true→Nl (nd C i)
 room:2≤C.n→RoomT b i C
section
variable {b e M:Nat} {C C':Clu} {g:Gh}
theorem Ext.mono {b':Nat} (h:Ext b C) (hb:b≤b'):Ext b' C:=⟨h.nx,h.nl,fun h2=>room_mono (h.room h2) hb⟩
theorem Ext.toT (h:Ext b C) (i:Nat):ExtT b i C:=⟨h.nx,h.nl,fun h2=>by
 obtain ⟨a,h3,h4⟩:=h.room h2
 have h5:((List.range C.n).map fun j=>if j=i then 0 else ptC C j).sum≤((List.range C.n).map (ptC C)).sum:=by
  have:∀ n,((List.range n).map fun j=>if j=i then 0 else ptC C j).sum≤((List.range n).map (ptC C)).sum:=by
   intro n
   induction n with
   | zero=>exact Nat.le_refl _
   | succ n ih=>
    rw [List.range_succ,List.map_append,List.map_append,List.sum_append_nat,List.sum_append_nat]
    simp only [List.map_cons,List.map_nil,List.sum_cons,List.sum_nil]
    split <;> omega
  exact this _
 exact ⟨a,h3,by omega⟩⟩
theorem ExtT.back {i:Nat} (h:ExtT b i C) (hi:i < C.n):Ext (b + 10) C:=⟨h.nx,h.nl,fun h2=>by
 obtain ⟨a,h3,h4⟩:=h.room h2
 have hs:=sum_upd (fun j=>if j=i then 0 else ptC C j) (ptC C) (k:=i) (fun f hf=>by show _=if f=i then 0 else _;rw [if_neg hf]) C.n hi
 have e0:(if i=i then 0 else ptC C i)=0:=if_pos rfl
 have hp:ptC C i≤10:=by
  unfold ptC
  split
  ·exact ptN_le _
  ·exact Nat.zero_le _
 refine ⟨a,h3,?_⟩
 have hs:((List.range C.n).map (ptC C)).sum + (if i=i then 0 else ptC C i)=_:=hs
 rw [e0] at hs
 omega⟩
theorem nx_after {w:List rf.Msg} {i:Nat} {x:rf.Node} {out:List rf.Msg} {P:rf.Node→Prop} (h:∀ i,i < C.n→(C.p i).up=true→P (nd C i)) (hA:After { C with way:=w } i x out C') (hx:P x):∀ j,j < C'.n→(C'.p j).up=true→P (nd C' j):=by
 have key:∀ (D:Clu) (d:Nd),D.n=C.n→D.p=upd C.p i d→(d.up=true→P d.x)→∀ j,j < D.n→(D.p j).up=true→P (nd D j):=by
  intro D d hn hp hd j hj hu
  show P (D.p j).x
  rw [hp] at hu ⊢
  by_cases hji:j=i
  ·subst hji;rw [upd_same] at hu ⊢;exact hd hu
  ·rw [upd_other _ _ hji] at hu ⊢;exact h j (by rw [← hn];exact hj) hu
 cases hA with
 | ok=>exact key _ ⟨stOf x,true,x⟩ rfl rfl fun _=>hx
 | old z=>exact key _ ⟨(C.p i).s,false,z⟩ rfl rfl fun hf=>by cases hf
 | new z=>exact key _ ⟨stOf x,false,z⟩ rfl rfl fun hf=>by cases hf
theorem after_n {w:List rf.Msg} {i:Nat} {x:rf.Node} {out:List rf.Msg} (hA:After { C with way:=w } i x out C'):C'.n=C.n:=by cases hA <;> rfl
theorem ext_tick {i:Nat} (hE:Ext b C) (hI:Inv C g) (h7:C.n≤7) (hi:i < C.n) (hu:(C.p i).up=true) (hA:After C i (rf.tick (nd C i)).1 (rf.tick (nd C i)).2 C'):Ext (b + 1) C':=by
 have u:=hI.up i hi hu
 have hid:(nd C i).id=(i:Int):=u.id
 have hx:=hE.nx i hi hu
 refine ⟨nx_after (w:=C.way) hE.nx hA (tick_nx hx (by omega)),nx_after (w:=C.way) hE.nl hA (nl_tick (hE.nl i hi hu) hx (by omega)),fun h2=>?_⟩
 rw [after_n (w:=C.way) hA] at h2
 refine room_after (w:=C.way) (r:=rf.tick (nd C i)) (hE.room h2) (fun m hm=>hm) hi hu hA fun a ha _=>?_
 obtain ⟨t1,t2,t3⟩:=room_tick hx u.many h2 (by omega) a ha
 exact ⟨a,Nat.le_refl a,t1,t2,by omega⟩
theorem extT_tick {i:Nat} (hE:ExtT b i C) (hI:Inv C g) (h7:C.n≤7) (hi:i < C.n) (hu:(C.p i).up=true) (hA:After C i (rf.tick (nd C i)).1 (rf.tick (nd C i)).2 C'):ExtT b i C':=by
 have u:=hI.up i hi hu
 have hid:(nd C i).id=(i:Int):=u.id
 have hx:=hE.nx i hi hu
 refine ⟨nx_after (w:=C.way) hE.nx hA (tick_nx hx (by omega)),nx_after (w:=C.way) hE.nl hA (nl_tick (hE.nl i hi hu) hx (by omega)),fun h2=>?_⟩
 rw [after_n (w:=C.way) hA] at h2
 obtain ⟨a,⟨h1,h3,h4⟩,h5⟩:=hE.room h2
 obtain ⟨t1,t2,_⟩:=room_tick hx u.many h2 (by omega) a (h3 i hi hu)
 have key:∀ (D:Clu) (d:Nd),D.n=C.n→D.p=upd C.p i d→d.s.l.length≤a→(d.up=true→d.x.log.length≤a)→(∀ m ∈ D.way,m.kind=3→m.index + m.ents.length≤a)→RoomT b i D:=by
  intro D d hn hp hs hl hw
  have hDp:∀ j,D.p j=upd C.p i d j:=fun j=>by rw [hp]
  refine ⟨a,⟨fun j hj=>?_,fun j hj huj=>?_,hw⟩,?_⟩
  ·rw [hDp]
   by_cases hji:j=i
   ·subst hji;rw [upd_same];exact hs
   ·rw [upd_other _ _ hji];exact h1 j (by rw [← hn];exact hj)
  ·show (D.p j).x.log.length≤a
   rw [hDp] at huj ⊢
   by_cases hji:j=i
   ·subst hji;rw [upd_same] at huj ⊢;exact hl huj
   ·rw [upd_other _ _ hji] at huj ⊢;exact h3 j (by rw [← hn];exact hj) huj
  ·rw [hn]
   have e:(fun j=>if j=i then 0 else ptC D j)=fun j=>if j=i then 0 else ptC C j:=by
    funext j
    by_cases hji:j=i
    ·rw [if_pos hji,if_pos hji]
    ·rw [if_neg hji,if_neg hji]
     unfold ptC nd
     rw [hDp,upd_other _ _ hji]
   rw [e]
   exact h5
 cases hA with
 | ok=>
  refine key _ ⟨stOf (rf.tick (nd C i)).1,true,(rf.tick (nd C i)).1⟩ rfl rfl t1 (fun _=>t1) fun m hm hk=>?_
  have hm2:m ∈ last (C.way ++ (rf.tick (nd C i)).2):=hm
  rcases List.mem_append.1 (mem_last hm2) with hm | hm
  ·exact h4 m hm hk
  ·exact t2 m hm hk
 | old z=>exact key _ ⟨(C.p i).s,false,z⟩ rfl rfl (h1 i hi) (fun hf=>by cases hf) h4
 | new z=>exact key _ ⟨stOf (rf.tick (nd C i)).1,false,z⟩ rfl rfl t1 (fun hf=>by cases hf) h4
theorem ext_step {i:Nat} {m:rf.Msg} {w:List rf.Msg} (hE:Ext b C) (hI:Inv C g) (hL:Lim M M C) (h7:C.n≤7) (hi:i < C.n) (hu:(C.p i).up=true) (hm:m ∈ C.way) (hw:∀ m ∈ w,m ∈ C.way) (hA:After { C with way:=w } i (rf.step (nd C i) m).1 (rf.step (nd C i) m).2 C'):Ext b C':=by
 have u:=hI.up i hi hu
 have hid:(nd C i).id=(i:Int):=u.id
 have hx:=hE.nx i hi hu
 refine ⟨nx_after hE.nx hA ((stp _ m).nx hx),nx_after hE.nl hA (nl_step (hE.nl i hi hu) hx u.len.2 (by omega)),fun h2=>?_⟩
 rw [after_n hA] at h2
 exact room_after (e:=0) (w:=w) (r:=rf.step (nd C i) m) (hE.room h2) hw hi hu hA fun a ha hk=>room_step hx (hL.up i hi hu) a ha (hk m hm)
theorem ext_propose {i:Nat} {text:List UInt8} (hE:Ext b C) (hI:Inv C g) (h7:C.n≤7) (hi:i < C.n) (hu:(C.p i).up=true) (htx:text.length≤100) (hA:After C i (rf.propose (nd C i) text).1 (rf.propose (nd C i) text).2.1 C'):Ext (b + 10) C':=by
 have u:=hI.up i hi hu
 have hid:(nd C i).id=(i:Int):=u.id
 have hx:=hE.nx i hi hu
 have both:Nx (rf.propose (nd C i) text).1∧Nl (rf.propose (nd C i) text).1:=by
  by_cases hr:(nd C i).role=2
  ·rw [propose_eq2 hr (by omega) (by omega) htx]
   obtain ⟨a1,a2,a3,a4,a5,a6,a7,a8,a9,_⟩:=add_parts (nd C i) text
   exact ⟨hx.with (by rw [a8,List.length_set]) a1 (.inl a5) fun _=>.inl hr,nl_add (hE.nl i hi hu) hx u.len.2 (by omega) hr text⟩
  ·have e:rf.propose (nd C i) text=(nd C i,[],0,170):=by
    unfold rf.propose
    rw [if_pos (.inl hr)]
   rw [e]
   exact ⟨hx,hE.nl i hi hu⟩
 refine ⟨nx_after (w:=C.way) hE.nx hA both.1,nx_after (w:=C.way) hE.nl hA both.2,fun h2=>?_⟩
 rw [after_n (w:=C.way) hA] at h2
 exact room_after (w:=C.way) (r:=((rf.propose (nd C i) text).1,(rf.propose (nd C i) text).2.1)) (hE.room h2) (fun m hm=>hm) hi hu hA fun a ha _=>room_propose a ha
theorem ext_way {w:List rf.Msg} (hE:Ext b C) (hw:∀ m ∈ w,m ∈ C.way):Ext b { C with way:=w }:=⟨hE.nx,hE.nl,fun h2=>room_way (hE.room h2) hw⟩
theorem ext_fall {i:Nat} (hE:Ext b C) (hi:i < C.n) (z:rf.Node):Ext b (fallen C i (C.p i).s z):=by
 have key:∀ (P:rf.Node→Prop),(∀ i,i < C.n→(C.p i).up=true→P (nd C i))→∀ j,j < C.n→((fallen C i (C.p i).s z).p j).up=true→P (nd (fallen C i (C.p i).s z) j):=by
  intro P h j hj hu
  have hu:(upd C.p i ⟨(C.p i).s,false,z⟩ j).up=true:=hu
  show P (upd C.p i ⟨(C.p i).s,false,z⟩ j).x
  by_cases hji:j=i
  ·subst hji;rw [upd_same] at hu;cases hu
  ·rw [upd_other _ _ hji] at hu ⊢;exact h j hj hu
 exact ⟨key _ hE.nx,key _ hE.nl,fun h2=>room_fall (hE.room h2) hi z⟩
theorem nx_new (i n t:Nat) (v:Int) (l:Log):Nx (rf.new (i:Int) (n:Int) t v l):=⟨List.length_replicate,Int.le_refl _,fun _=>by show (0:Int) < 10 + 3 * (i:Int);omega,fun hr=>absurd (show (0:Int)=2 from hr) (by decide),by show (0:Int)≤(i:Int);omega⟩
theorem nl_new (i n t:Nat) (v:Int) (l:Log):Nl (rf.new (i:Int) (n:Int) t v l):=fun hr=>absurd (show (0:Int)=2 from hr) (by decide)
theorem ext_start {i:Nat} (hE:Ext b C) (hi:i < C.n) (hd:(C.p i).up=false):Ext b (started C i):=by
 have key:∀ (P:rf.Node→Prop),(∀ i,i < C.n→(C.p i).up=true→P (nd C i))→P (rf.new (i:Int) (C.n:Int) (C.p i).s.t (C.p i).s.v (C.p i).s.l)→∀ j,j < C.n→((started C i).p j).up=true→P (nd (started C i) j):=by
  intro P h hn j hj hu
  have hu:(upd C.p i ⟨(C.p i).s,true,rf.new (i:Int) (C.n:Int) (C.p i).s.t (C.p i).s.v (C.p i).s.l⟩ j).up=true:=hu
  show P (upd C.p i ⟨(C.p i).s,true,rf.new (i:Int) (C.n:Int) (C.p i).s.t (C.p i).s.v (C.p i).s.l⟩ j).x
  by_cases hji:j=i
  ·subst hji;rw [upd_same];exact hn
  ·rw [upd_other _ _ hji] at hu ⊢;exact h j hj hu
 exact ⟨key _ hE.nx (nx_new _ _ _ _ _),key _ hE.nl (nl_new _ _ _ _ _),fun h2=>room_start (hE.room h2) hi hd⟩
theorem ext_fresh (n:Nat):Ext 0 (fresh n):=by
 refine ⟨fun i _ _=>nx_new _ _ _ _ _,fun i _ _=>nl_new _ _ _ _ _,fun _=>⟨0,⟨fun i _=>Nat.le_refl 0,fun i _ _=>Nat.le_refl 0,fun m hm=>by cases hm⟩,?_⟩⟩
 have e:∀ k,((List.range k).map (ptC (fresh n))).sum=0:=by
  intro k
  induction k with
  | zero=>rfl
  | succ k ih=>
   rw [List.range_succ,List.map_append,List.sum_append_nat,ih]
   rfl
 show 10 * 0 + ((List.range n).map (ptC (fresh n))).sum≤0
 rw [e]
 exact Nat.le_refl _
theorem Ext.ok (hE:Ext b C) (h7:C.n≤7) (hup:∀ i,i < C.n→(C.p i).up=true) (hL:Lim M M C) (hI:∃ g,Inv C g) (h2:C.way.length≤200):Ok M C:=⟨h7,hup,hL,hI,h2,fun i hi=>hE.nx i hi (hup i hi),fun i hi=>hE.nl i hi (hup i hi)⟩
end
end cl
end Go.Proofs.YtmcibggjolckoaaGreatDoor
