/- LvEnd, LvKeeps: one behind the other. -/
import Derived.Test.YtmcibggjolckoaaGreatDoorGm34
import Derived.Test.YtmcibggjolckoaaGreatDoorGm32
namespace Go.Proofs.YtmcibggjolckoaaGreatDoor
namespace cl
open rl (Ent e0)
set_option maxRecDepth 100000
theorem tallyAt_ge (x:rf.Node):∀ i,x.commit≤(rf.tallyAt x i).commit
 | 0=>Nat.le_refl _
 | i + 1=>by
  have ih:=tallyAt_ge x i
  unfold rf.tallyAt
  split
  ·split
   ·rename_i h _
    show x.commit≤i + 1
    omega
   ·exact ih
  ·exact Nat.le_refl _
theorem tally_ge (x:rf.Node):x.commit≤(rf.tally x).commit:=tallyAt_ge x _
theorem add_ge (x:rf.Node) (t:List UInt8):x.commit≤(rf.add x t).1.commit:=tally_ge (rf.grown x t)
theorem step_ge (x:rf.Node) (m:rf.Msg):x.commit≤(rf.step x m).1.commit:=by
 cases hmn:rf.meant x m with
 | false=>rw [step_not hmn];exact Nat.le_refl _
 | true=>
  obtain ⟨m1,m2,m3,m4,m5,m6⟩:=meant_kind hmn
  have hf:=(fresh_keep x m).2.2.2.2.2.2.2
  have ft:=fresh_term x m
  rw [step_of hmn,← hf]
  obtain ⟨y,hy⟩:∃ y,rf.fresh x m=y:=⟨_,rfl⟩
  rw [hy] at ft ⊢
  split
  ·unfold rf.ask
   split
   ·exact Nat.le_refl _
   ·exact Nat.le_refl _
  ·split
   ·unfold rf.vote
    split
    ·cases he:rf.elected { y with votes:=y.votes.set m.frm.toNat true } with
     | false=>rw [voted_not m2 (by omega) he];exact Nat.le_refl _
     | true=>rw [voted_yes m2 (by omega) he];exact add_ge (rf.led { y with votes:=y.votes.set m.frm.toNat true }) []
    ·exact Nat.le_refl _
   ·split
    ·by_cases hlt:m.term < y.term
     ·rw [put_low hlt];exact Nat.le_refl _
     ·have he:m.term=y.term:=by omega
      by_cases hp:rl.termAt y.log m.index=(m.at_,true)
      ·rw [put_yes he hp];exact Nat.le_max_left _ _
      ·rw [put_no he hp];exact Nat.le_refl _
    ·unfold rf.heard
     split
     ·split
      ·split
       ·exact tally_ge (rf.heardYes y m.frm.toNat m.index)
       ·exact tally_ge (rf.heardYes y m.frm.toNat m.index)
      ·exact Nat.le_refl _
     ·exact Nat.le_refl _
section
variable {M T l p:Nat} {C D:Clu}
theorem com_del (h:Ok M D) (i:Nat):(nd D i).commit≤(nd (delC D) i).commit:=by
 cases hw:D.way with
 | nil=>rw [delC_nil hw];exact Nat.le_refl _
 | cons m r=>
  obtain ⟨d,hd,hdn,e,e1,e2,hs⟩:=del_parts h hw
  by_cases hi:i=d
  ·subst hi;rw [e1];exact step_ge _ _
  ·rw [e2 i hi];exact Nat.le_refl _
theorem com_dels (h:Ok M D) (hM:M < 18446744073709551616) (i:Nat):∀ j,(nd D i).commit≤(nd (delsC j D) i).commit
 | 0=>Nat.le_refl _
 | j + 1=>Nat.le_trans (com_dels h hM i j) (com_del (ok_dels h hM j) i)
theorem com_ticks (h:Ok M C) (h2:2≤C.n) {i:Nat} (hi:i < C.n):(nd (ticksC C.n C) i).commit=(nd C i).commit:=by
 have:=h.id hi
 have:=h.n7
 rw [tickd hi,tick_eq (h.many hi) h2 (by omega) (by omega)]
 split
 ·split <;> rfl
 ·split <;> rfl
theorem com_round (h:Ok M C) (h2:2≤C.n) (hM:M + C.n < 18446744073709551616) {i:Nat} (hi:i < C.n):(nd C i).commit≤(nd (roundC C) i).commit:=by
 have:=com_dels (ok_ticks h C.n (Nat.le_refl _) hM) hM i 500
 rw [com_ticks h h2 hi] at this
 exact this
theorem beat_commit (h:Ok M C) (h2:2≤C.n) (hM:M + C.n < 18446744073709551616) (hn:NoAV C) (hS:S T l C) (hp:(nd C l).log.length=p) (hm:∀ f,f < C.n→p≤(nd C l).mat.getD f 0) (hc:p≤(nd C l).commit) (hbt:3≤(nd C l).idle + 1):∀ f,f < C.n→p≤(nd (roundC C) f).commit:=by
 have hq:=hS.quiet h
 have hb1:=tb_ticks h h2 hM hS.tb fun i hi hs=>absurd hs (hq i hi)
 have ho1:=ok_ticks h C.n (Nat.le_refl _) hM
 have hl:=hS.ld
 have hln:=hl.1
 have hlid:=h.id hln
 have h7:=h.n7
 obtain ⟨v,ev,hv⟩:=tickd_lead hl
 have ha1:All T (ticksC C.n C):=fun i hi=>by
  rw [ticks_n] at hi
  rw [tickd_term h h2 hM hi,if_neg (hq i hi)]
  exact hS.all i hi
 have sd1:SD T l (ticksC C.n C):=⟨hb1,ha1,(leads_ticks hl).1⟩
 obtain ⟨k,b,e,_,hb2,_,_⟩:=ticks_way h h2 C.n (Nat.le_refl _)
 obtain ⟨n,hnn⟩:∃ n,C.n=n:=⟨_,rfl⟩
 obtain ⟨C1,hC1⟩:∃ C1,ticksC C.n C=C1:=⟨_,rfl⟩
 have hn1:C1.n=n:=by rw [← hC1,ticks_n];exact hnn
 have hout:(rf.tick (nd C l)).2=rf.puts { nd C l with idle:=0 }:=by
  unfold rf.tick
  rw [if_pos hl.2.1,if_pos hbt]
 have hputs:∀ x,x < n→x ≠ l→∃ m ∈ C1.way,PutTo T l x m∧m.index=p∧m.ents=[]∧p≤m.commit:=fun x hx hne=>by
  rw [← hC1,e]
  refine ⟨rf.stamp { nd C l with idle:=0 } (rf.putMsg { nd C l with idle:=0 } x),List.mem_append_right _ (hb2 l hln _ (by rw [hout];exact mem_puts (by have:=h.size hln;show x < rf.size (nd C l);omega) (by show (x:Int) ≠ (nd C l).id;omega))),⟨rfl,hl.2.2,hlid,rfl⟩,?_⟩
  have hnl:=h.nl l hln hl.2.1 x (by omega)
  have hmx:=hm x (by omega)
  have hnx:rf.nextOf { nd C l with idle:=0 } x=p + 1:=by
   show min (max ((nd C l).next.getD x 0) 1) ((nd C l).log.length + 1)=p + 1
   omega
  refine ⟨?_,?_,hc⟩
  ·show rf.nextOf { nd C l with idle:=0 } x - 1=p
   rw [hnx];rfl
  ·show ((nd C l).log.drop (rf.nextOf { nd C l with idle:=0 } x - 1)).take 20=[]
   rw [hnx,List.drop_eq_nil_of_le (by omega)]
   rfl
 have hmat1:∀ f,f < n→p≤(nd C1 l).mat.getD f 0:=fun f hf=>by
  rw [← hC1,ev]
  exact hm f (by omega)
 have hlog1:(nd C1 l).log.length=p:=by rw [← hC1,ev];exact hp
 have hcom1:p≤(nd C1 l).commit:=by rw [← hC1,ev];exact hc
 rw [hC1] at ho1 sd1
 have hq1:=ho1.w200
 have hnv:=g1_ticks h h2 hn
 rw [hC1] at hnv
 have key:=gen1 (M:=M + C.n) (P:=fun m=>m.kind ≠ 2) (I:=fun D=>SD T l D∧D.n=n∧(nd D l).log.length=p∧∀ f,f < n→p≤(nd D l).mat.getD f 0) (X:=fun x=>x < n∧x ≠ l) (W:=fun x m=>PutTo T l x m∧m.index=p∧m.ents=[]∧p≤m.commit) (Q:=fun x D=>p≤(nd D x).commit) hM
  (fun D m r d _ hI hw hd hdn hP=>(stp _ _).one hP)
  (fun D m r h hI hw hP=>by
   obtain ⟨i1,i2,i3,i4⟩:=hI
   obtain ⟨g1,g2,_⟩:=lead_del h i1
   refine ⟨sd_del h i1,by rw [del_n];exact i2,by rw [g1];exact i3,fun f hf=>Nat.le_trans (i4 f hf) (g2 f (by omega))⟩)
  (fun D m r x h hI hw hP hX hQ=>Nat.le_trans hQ (com_del h x))
  (fun D m r x h hI hw hP hX hW=>by
   obtain ⟨i1,i2,i3,i4⟩:=hI
   obtain ⟨w1,w2,w3,w4⟩:=hW
   have hmm:m ∈ D.way:=by rw [hw];exact List.mem_cons_self
   obtain ⟨d,hd,hdn,e,e1,e2,hs⟩:=del_parts h hw
   have hxd:x=d:=by have:=w1.2.2.2;omega
   subst hxd
   have hmn:=put_meant h hdn i1.ld.1 hX.2 w1
   have hxt:=i1.all x hdn
   have hag:=acked h i1 hdn
   have hok:=ag_okp h i1 hmm w1.1 w1.2.1 (hag.le (by rw [w2];exact i4 x hX.1))
   have hst:=step_of hmn
   rw [fresh_le (by have:=w1.2.1;omega),if_neg (by have:=w1.1;omega),if_neg (by have:=w1.1;omega),if_pos w1.1,put_yes (w1.2.1.trans hxt.symm) hok] at hst
   show p≤(nd (delC D) x).commit
   rw [e1,hst]
   show p≤max (nd D x).commit (min m.commit (m.index + m.ents.length))
   rw [w2,w3]
   simp only [List.length_nil]
   omega)
  C1.way.length C1 ho1 ⟨sd1,hn1,hlog1,hmat1⟩ ⟨Nat.le_refl _,by rw [List.take_length];exact hnv⟩ (fun x hX=>.inl (by rw [List.take_length];exact hputs x hX.1 hX.2))
 obtain ⟨k1,_,k2⟩:=key
 intro f hf
 obtain ⟨q,hqq⟩:∃ q,C1.way.length=q:=⟨_,rfl⟩
 rw [hqq] at k1 k2 hq1
 have eq:roundC C=delsC (500 - q) (delsC q C1):=by
  rw [← dels_add,show q + (500 - q)=500 by omega,← hC1];rfl
 by_cases hfl:f=l
 ·subst hfl
  have:=com_dels ho1 hM f 500
  rw [show roundC C=delsC 500 C1 by rw [← hC1];rfl]
  omega
 ·have a:=k2 f ⟨by omega,hfl⟩
  have b:=com_dels k1 hM f (500 - q)
  rw [eq]
  exact Nat.le_trans a b
theorem sum_cap1 (g:Nat→Nat) (b:Nat) {k:Nat} (hk:g k=0):∀ n,(∀ f,f < n→g f≤b)→k < n→((List.range n).map g).sum + b≤n * b
 | 0,_,hkn=>absurd hkn (Nat.not_lt_zero _)
 | n + 1,h,hkn=>by
  rw [List.range_succ,List.map_append,List.sum_append_nat,Nat.succ_mul]
  simp only [List.map_cons,List.map_nil,List.sum_cons,List.sum_nil]
  by_cases h2:k < n
  ·have:=sum_cap1 g b hk n (fun f hf=>h f (by omega)) h2
   have:=h n (Nat.lt_succ_self n)
   omega
  ·have hkn:k=n:=by omega
   subst hkn
   have:=sum_cap g b k fun f hf=>h f (by omega)
   omega
theorem back_le (h:Ok M D) (h5:D.n≤5) (hS:SD T l D) (hp:(nd D l).log.length=p):back D.n (nd D l)≤4 * p:=by
 have hid:=h.id hS.ld.1
 have:=sum_cap1 (backOf (nd D l)) p (k:=l) (by unfold backOf;rw [if_pos hid.symm]) D.n (fun f hf=>by
  have:=h.nl l hS.ld.1 hS.ld.2.1 f (by omega)
  unfold backOf
  split <;> omega) hS.ld.1
 have h2:D.n * p≤5 * p:=Nat.mul_le_mul_right _ h5
 unfold back
 omega
theorem pots_nk {w:List rf.Msg} (hw:NK w):pots T p D w=ws w:=by
 induction w with
 | nil=>rfl
 | cons m r ih=>
  rw [pots_cons,ws_cons,ih fun a ha=>hw a (List.mem_cons_of_mem _ ha)]
  congr 1
  unfold pot wt
  rcases hw m List.mem_cons_self with c | c
  ·rw [if_pos c,if_pos (.inl c)]
  ·rw [if_neg (by omega),if_neg (by omega),if_neg (by omega),if_neg (by omega)]
theorem w2_len (h:Ok M D) (hM:M < 18446744073709551616) (hW:W2 T l D):∀ j,(delsC j D).way.length≤D.way.length
 | 0=>Nat.le_refl _
 | j + 1=>Nat.le_trans (w2_del (ok_dels h hM j) hM (w2_dels h hM hW j)).2 (w2_len h hM hW j)
theorem late_psi (h5:C.n≤5) (hM:M < 18446744073709551616) (hL:Late M T l C) (hp:(nd C l).log.length=p) (hp2:p≤180):Ch T l C∧psi T l p C≤1168∧C.way.length≤74:=by
 obtain ⟨D0,j0,r,hW,hO,hN,rfl,hj,hway,hwr,hnk⟩:=hL
 rw [dels_n] at h5
 have hsd:SD T l D0:=⟨hW.w.tb,hW.all,hW.w.ld⟩
 obtain ⟨s1,s2⟩:=sd_dels hO hM hsd j0
 have hlog:(nd D0 l).log.length=p:=by rw [← s2];exact hp
 have hid:=hO.id hW.w.ld.1
 have hsz:=hO.size hW.w.ld.1
 have hlen:(rf.puts (nd D0 l)).length≤4:=by
  have:=others_len (nd D0 l) hid (by rw [hsz];exact hW.w.ld.1)
  rw [hsz] at this
  rw [puts_len2]
  omega
 have hch:Ch T l D0:=fun f hf hfl=>.inr (by
  rw [hway]
  exact ⟨_,last_end (by omega) (mem_puts (x:=nd D0 l) (j:=f) (by omega) (by omega)),.inl ⟨rfl,hW.w.ld.2.2,hid,rfl⟩⟩)
 have hphi:phi T l p D0≤1598:=by
  unfold phi
  have e1:pots T p D0 D0.way≤pots T p D0 r + pots T p D0 (rf.puts (nd D0 l)):=by
   rw [← pots_append,hway]
   exact pots_drop T p D0 _ _
  have e2:=pots_nk (T:=T) (p:=p) (D:=D0) hnk
  have e3:=(pots_bound (T:=T) (p:=p) (by omega) D0 (rf.puts (nd D0 l))).2
  have e4:=back_le hO h5 hsd hlog
  omega
 have hi:=(leads_dels hO hM hW.w.tb hW.w.ld j0).2.trans hW.i0
 have hchj:=(ch_dels hO hM hsd hch j0).2.1
 refine ⟨hchj,?_,?_⟩
 ·unfold psi
  rw [hi]
  rcases phi_dels hO hM hsd hlog (by omega) j0 with c | c
  ·rw [(ch_empty (ok_dels hO hM j0) s1 hchj c).2 p]
   decide
  ·show _ + 30 * 0≤1168
   omega
 ·have e1:=w2_len hO hM hW j0
  have e2:=last_le2 (r ++ rf.puts (nd D0 l))
  rw [← hway,List.length_append] at e2
  have e3:=(ws_le r).1
  omega
theorem nav1 (h:Ok M C) {t:Nat} (ht:1≤t) (hM:M + t * C.n < 18446744073709551616):NoAV (rnd t C):=by
 cases t with
 | zero=>omega
 | succ t=>
  rw [Nat.succ_mul] at hM
  exact round_nav (ok_rnd h t (by omega)) (by rw [rnd_n];omega)
theorem early_ch:∀ d M (C:Clu),Ok M C→2≤C.n→C.n≤5→M + d * C.n < 18446744073709551616→NoAV C→S T l C→(nd C l).log.length=p→p≤200→3 - (nd C l).idle≤d→∃ t,1≤t∧t≤d∧S T l (rnd t C)∧Ch T l (rnd t C)∧(nd (rnd t C) l).log=(nd C l).log
 | 0,M,C,h,_,_,_,_,hS,_,_,hd=>by
  have:=(h.nx l hS.ld.1).i2 hS.ld.2.1
  omega
 | d + 1,M,C,h,h2,h5,hM,hn,hS,hp,hp2,hd=>by
  rw [Nat.succ_mul] at hM
  have r:=sr_round (p:=p) h h2 h5 (by omega) hn hS hp hp2
  by_cases hbt:3≤(nd C l).idle + 1
  ·exact ⟨1,Nat.le_refl _,by omega,r.s,r.ch (.inl hbt),r.log⟩
  ·have hi:=r.idle
   rw [if_neg hbt] at hi
   obtain ⟨t,t1,t2,t3,t4,t5⟩:=early_ch d (M + C.n) (roundC C) (ok_round h (by omega)) (by rw [round_n];exact h2) (by rw [round_n];exact h5) (by rw [round_n];omega) (round_nav h (by omega)) r.s (by rw [r.log];exact hp) hp2 (by rw [hi];omega)
   refine ⟨1 + t,by omega,by omega,?_⟩
   rw [rnd_add]
   exact ⟨t3,t4,t5.trans r.log⟩
theorem at60 (h:Ok M C) (h2:2≤C.n) (h5:C.n≤5) (hM:M + 70 * C.n < 100000) (hR:Room 1500 C):∃ T l,S T l (rnd 60 C)∧(nd (rnd 60 C) l).log.length≤180∧psi T l (nd (rnd 60 C) l).log.length (rnd 60 C) + 2 * (rnd 60 C).way.length≤1322:=by
 obtain ⟨r,r1,r2,T,l,r3,r4⟩:=elect h h2 h5 hM
 have hrn:r * C.n≤60 * C.n:=Nat.mul_le_mul_right _ r2
 have hor:=ok_rnd h r (by omega)
 have er:=rnd_n C r
 have hnr:=nav1 h r1 (by omega)
 obtain ⟨p,hp⟩:∃ p,(nd (rnd r C) l).log.length=p:=⟨_,rfl⟩
 have hp2:p≤180:=by
  have:=room_len hor (room_rnd h h2 hR r (by omega)) (i:=l) r3.ld.1
  omega
 have e60:rnd 60 C=rnd (60 - r) (rnd r C):=by rw [← rnd_add,show r + (60 - r)=60 by omega]
 have hM60:M + r * C.n + (60 - r) * C.n=M + 60 * C.n:=by rw [Nat.add_assoc,← Nat.add_mul,show r + (60 - r)=60 by omega]
 have fin:∀ s,s≤60 - r→S T l (rnd s (rnd r C))→Ch T l (rnd s (rnd r C))→(nd (rnd s (rnd r C)) l).log=(nd (rnd r C) l).log→NoAV (rnd s (rnd r C))→(psi T l p (rnd s (rnd r C)) < 470 * (60 - r - s)∨(psi T l p (rnd s (rnd r C))≤1168∧(1≤60 - r - s∨(rnd s (rnd r C)).way.length≤74)))→∃ T l,S T l (rnd 60 C)∧(nd (rnd 60 C) l).log.length≤180∧psi T l (nd (rnd 60 C) l).log.length (rnd 60 C) + 2 * (rnd 60 C).way.length≤1322:=by
  intro s hs s1 s2 s3 s4 s5
  have hsn:s * C.n≤(60 - r) * C.n:=Nat.mul_le_mul_right _ hs
  have hos:=ok_rnd hor s (by rw [er];omega)
  have es:(rnd s (rnd r C)).n=C.n:=(rnd_n _ s).trans er
  have hsn2:s * C.n + (60 - r - s) * C.n=(60 - r) * C.n:=by rw [← Nat.add_mul,show s + (60 - r - s)=60 - r by omega]
  obtain ⟨a1,a2,a3,a4,a5,a6⟩:=s_run (p:=p) hos (by rw [es];exact h2) (by rw [es];exact h5) s4 s1 s2 (by rw [s3];exact hp) (by omega) (60 - r - s) (by rw [es,er];omega)
  have eq:rnd 60 C=rnd (60 - r - s) (rnd s (rnd r C)):=by
   have:=rnd_add (rnd r C) s (60 - r - s)
   rw [show s + (60 - r - s)=60 - r by omega] at this
   exact e60.trans this
  rw [← eq] at a1 a2 a3 a6
  have hl60:(nd (rnd 60 C) l).log.length=p:=by rw [a3,s3];exact hp
  have h200:(rnd 60 C).way.length≤200:=(ok_rnd h 60 (by omega)).w200
  refine ⟨T,l,a1,by rw [hl60];exact hp2,?_⟩
  rw [hl60]
  rcases a6 with ⟨a6,a7⟩ | a6
  ·rw [a6]
   show _ + 2 * 0≤_
   omega
  ·rcases s5 with s5 | ⟨s5,s6 | s6⟩
   ·omega
   ·omega
   ·by_cases hk:60 - r - s=0
    ·rw [eq,hk]
     show psi T l p (rnd s (rnd r C)) + 2 * (rnd s (rnd r C)).way.length≤_
     omega
    ·omega
 rcases r4 with r4 | r4
 ·have hi:=(hor.nx l r3.ld.1).i0
  obtain ⟨t,t1,t2,t3,t4,t5⟩:=early_ch (p:=p) 3 _ (rnd r C) hor (by rw [er];exact h2) (by rw [er];exact h5) (by rw [er];omega) hnr r3 hp (by omega) (by omega)
  have htn:t * C.n≤3 * C.n:=Nat.mul_le_mul_right _ t2
  have hot:=ok_rnd hor t (by rw [er];omega)
  have et:(rnd t (rnd r C)).n=C.n:=(rnd_n _ t).trans er
  refine fin t (by omega) t3 t4 t5 (nav1 hor t1 (by rw [er];omega)) (.inl ?_)
  have hlt:(nd (rnd t (rnd r C)) l).log.length=p:=by rw [t5];exact hp
  have e1:=(pots_bound (T:=T) (p:=p) (by omega) (rnd t (rnd r C)) (rnd t (rnd r C)).way).2
  have e2:=back_le hot (by rw [et];exact h5) t3.sd hlt
  have e3:=hot.w200
  have e4:=(hot.nx l t3.ld.1).i2 t3.ld.2.1
  unfold psi phi
  omega
 ·obtain ⟨c1,c2,c3⟩:=late_psi (p:=p) (by rw [er];exact h5) (by omega) r4 hp hp2
  exact fin 0 (Nat.zero_le _) r3 c1 rfl hnr (.inr ⟨c2,.inr c3⟩)
end
end cl
end Go.Proofs.YtmcibggjolckoaaGreatDoor
namespace Go.Proofs.YtmcibggjolckoaaGreatDoor
namespace cl
open rl (Ent e0)
set_option maxRecDepth 100000
section
variable {M T l p:Nat} {C:Clu}
theorem com_rnd (h:Ok M C) (h2:2≤C.n) {i:Nat} (hi:i < C.n):∀ k,M + k * C.n < 18446744073709551616→(nd C i).commit≤(nd (rnd k C) i).commit
 | 0,_=>Nat.le_refl _
 | k + 1,hM=>by
  rw [Nat.succ_mul] at hM
  exact Nat.le_trans (com_rnd h h2 hi k (by omega)) (com_round (ok_rnd h k (by omega)) (by rw [rnd_n];exact h2) (by rw [rnd_n];omega) (by rw [rnd_n];exact hi))
theorem tail_commit:∀ k M (C:Clu),Ok M C→2≤C.n→C.n≤5→M + k * C.n < 18446744073709551616→NoAV C→S T l C→(nd C l).log.length=p→p≤200→(∀ f,f < C.n→p≤(nd C l).mat.getD f 0)→p≤(nd C l).commit→3 - (nd C l).idle≤k→∀ f,f < C.n→p≤(nd (rnd k C) f).commit
 | 0,M,C,h,_,_,_,_,hS,_,_,_,_,hd=>by
  have:=(h.nx l hS.ld.1).i2 hS.ld.2.1
  omega
 | k + 1,M,C,h,h2,h5,hM,hn,hS,hp,hp2,hm,hc,hd=>by
  rw [Nat.succ_mul] at hM
  have e1:rnd (k + 1) C=rnd k (roundC C):=by
   have:=rnd_add C 1 k
   rw [Nat.add_comm] at this
   exact this
  have h7:=h.n7
  have ho:=ok_round h (M:=M) (by omega)
  by_cases hbt:3≤(nd C l).idle + 1
  ·intro f hf
   have:=beat_commit h h2 (by omega) hn hS hp hm hc hbt f hf
   rw [e1]
   exact Nat.le_trans this (com_rnd ho (by rw [round_n];exact h2) (by rw [round_n];exact hf) k (by rw [round_n];omega))
  ·have r:=sr_round (p:=p) h h2 h5 (by omega) hn hS hp hp2
   have hi:=r.idle
   rw [if_neg hbt] at hi
   intro f hf
   rw [e1]
   exact tail_commit k (M + C.n) (roundC C) ho (by rw [round_n];exact h2) (by rw [round_n];exact h5) (by rw [round_n];omega) (round_nav h (by omega)) r.s (by rw [r.log];exact hp) hp2 (fun f hf=>by
    rw [round_n] at hf
    exact Nat.le_trans (hm f hf) (r.mat f (by omega))) (Nat.le_trans hc (com_round h h2 (by omega) hS.ld.1)) (by rw [hi];omega) f (by rw [round_n];exact hf)
def Kept (text:List UInt8) (C:Clu):Prop:=∃ T l,Leads T (rnd 60 C) l∧(∀ i,i < C.n→(nd (rnd 60 C) i).role=2→i=l)∧∀ f,f < C.n→(nd (rnd 60 C) l).log.length + 1≤(nd (rnd 6 (propC l text (rnd 60 C))) f).commit∧Ag ((nd (rnd 60 C) l).log ++ [(T,text)]) (nd (rnd 6 (propC l text (rnd 60 C))) f).log ((nd (rnd 60 C) l).log.length + 1)
theorem kept_more (h:Ok M C) (h2:2≤C.n) (h5:C.n≤5) (hM:M + 80 * C.n < 100000) (hR:Room 1500 C) (text:List UInt8) (htx:text.length≤100):Kept text C:=by
 obtain ⟨T,l,s1,s2,s3⟩:=at60 h h2 h5 (by omega) hR
 obtain ⟨X,hX⟩:∃ X,rnd 60 C=X:=⟨_,rfl⟩
 have hoX:=ok_rnd h 60 (by omega)
 have eX:=rnd_n C 60
 have hnX:=nav1 h (t:=60) (by decide) (by omega)
 unfold Kept
 rw [hX] at s1 s2 s3 hoX eX hnX ⊢
 obtain ⟨p,hp⟩:∃ p,(nd X l).log.length=p:=⟨_,rfl⟩
 rw [hp] at s2 s3
 have P:=prop_any hoX (by rw [eX];exact h2) (by rw [eX];exact h5) (by omega) hnX s1 hp (by omega) text htx
 obtain ⟨Y,hY⟩:∃ Y,propC l text X=Y:=⟨_,rfl⟩
 rw [hY] at P
 have eY:Y.n=C.n:=P.n.trans eX
 have hlogY:(nd Y l).log.length=p + 1:=by rw [P.log,List.length_append,hp];rfl
 have hpsi:psi T l (p + 1) Y≤1410:=by
  have e:=P.phi
  unfold psi at s3 ⊢
  rw [P.idle]
  omega
 have h3n:3 * Y.n=3 * C.n:=by rw [eY]
 obtain ⟨a1,a2,a3,a4,a5,a6⟩:=s_run (p:=p + 1) P.ok (by rw [eY];exact h2) (by rw [eY];exact h5) P.nav P.s P.ch hlogY (by omega) 3 (by omega)
 have ho3:=ok_rnd P.ok 3 (by omega)
 have e3:(rnd 3 Y).n=C.n:=(rnd_n Y 3).trans eY
 obtain ⟨Z,hZ⟩:∃ Z,rnd 3 Y=Z:=⟨_,rfl⟩
 have hnZ:NoAV Z:=by rw [← hZ];exact nav_rnd P.ok P.nav 3 (by omega)
 rw [hZ] at a1 a2 a3 a4 a5 a6 ho3 e3
 have hwZ:Z.way=[]:=by
  rcases a6 with a6 | a6
  ·exact a6.1
  ·have:=(pots_bound (T:=T) (p:=p + 1) (by omega) Z Z.way).1
   unfold psi phi at a6
   apply List.length_eq_zero_iff.1
   have hpsi2:=hpsi
   unfold psi phi at hpsi2
   omega
 have hlZ:(nd Z l).log.length=p + 1:=by rw [a3];exact hlogY
 have hmatZ:∀ f,f < Z.n→p + 1≤(nd Z l).mat.getD f 0:=fun f hf=>by
  by_cases hfl:f=l
  ·subst hfl
   have:=a5 f (by omega)
   rw [P.mat] at this
   exact this
  ·rw [(ch_empty ho3 a1.sd a2 hwZ).1 f hf hfl,hlZ]
   exact Nat.le_refl _
 have h7:=ho3.n7
 have hcomZ:p + 1≤(nd Z l).commit:=by
  have hlast:(nd Z l).log=(nd X l).log ++ [(T,text)]:=a3.trans P.log
  have:=closed_commit (x:=nd Z l) (n:=Z.n) (a4 P.cls) (ho3.many a1.ld.1) h7 (by omega) (by omega) (by
   rw [hlZ,termAt_tm (by omega) (by omega),hlast,show p + 1 - 1=(nd X l).log.length by omega,tm_append_end]
   exact a1.ld.2.2.symm) (fun k hk=>by rw [hlZ];exact hmatZ k hk)
  rw [hlZ] at this
  exact this
 have hi:=(ho3.nx l a1.ld.1).i0
 have e6:rnd 6 Y=rnd 3 Z:=by rw [← hZ,← rnd_add]
 have h3z:3 * Z.n=3 * C.n:=by rw [e3]
 have hend:=tail_commit (T:=T) (l:=l) (p:=p + 1) 3 _ Z ho3 (by rw [e3];exact h2) (by rw [e3];exact h5) (by omega) hnZ a1 hlZ (by omega) hmatZ hcomZ (by omega)
 obtain ⟨b1,b2,b3,b4,b5,b6⟩:=s_run (p:=p + 1) ho3 (by rw [e3];exact h2) (by rw [e3];exact h5) hnZ a1 a2 hlZ (by omega) 3 (by omega)
 have ho6:=ok_rnd ho3 3 (by omega)
 refine ⟨T,l,s1.ld,fun i hi hr=>leads_one hoX ⟨by rw [eX];exact hi,hr,s1.all i (by rw [eX];exact hi)⟩ s1.ld,fun f hf=>?_⟩
 rw [hY,e6,hp]
 refine ⟨hend f (by rw [e3];exact hf),?_⟩
 have hag:=acked ho6 b1.sd (f:=f) (by rw [rnd_n,e3];exact hf)
 have hmf:=b5 f (by omega)
 have hmz:=hmatZ f (by rw [e3];exact hf)
 rw [b3,a3,P.log] at hag
 exact hag.le (by omega)
theorem one_del (h:Ok M C) (h1:C.n=1):nd (delC C) 0=nd C 0:=by
 cases hw:C.way with
 | nil=>rw [delC_nil hw]
 | cons m r=>
  obtain ⟨d,hd,hdn,e,e1,e2,hs⟩:=del_parts h hw
  obtain ⟨f,d',hf,hd',hfn,hdn',_⟩:=h.dom (m:=m) (by rw [hw];exact List.mem_cons_self)
  have hd0:d=0:=by omega
  subst hd0
  rw [e1]
  have hid:=h.id hdn
  have hm:rf.meant (nd C 0) m=false:=by
   cases hmn:rf.meant (nd C 0) m with
   | false=>rfl
   | true=>
    have:=(meant_kind hmn).2.2.2.1
    omega
  rw [step_not hm]
theorem one_dels (h:Ok M C) (hM:M < 18446744073709551616) (h1:C.n=1):∀ j,nd (delsC j C) 0=nd C 0
 | 0=>rfl
 | j + 1=>(one_del (ok_dels h hM j) (by rw [dels_n];exact h1)).trans (one_dels h hM h1 j)
theorem one_round (h:Ok M C) (hM:M + C.n < 18446744073709551616) (h1:C.n=1):nd (roundC C) 0=(rf.tick (nd C 0)).1:=by
 have:=one_dels (ok_ticks h C.n (Nat.le_refl _) hM) hM (by rw [ticks_n];exact h1) 500
 rw [tickd (by omega)] at this
 exact this
theorem one_lead (x:rf.Node) (hm:x.many=1) (h0:x.id=0):(rf.stand x).1.role=2:=by
 have he:rf.elected { rf.stood x with votes:=(rf.stood x).votes.set x.id.toNat true }=true:=by
  obtain ⟨y,hy⟩:∃ y,{ rf.stood x with votes:=(rf.stood x).votes.set x.id.toNat true }=y:=⟨_,rfl⟩
  have e1:y.votes=(List.replicate 7 false).set 0 true:=by rw [← hy,h0];rfl
  have e2:y.many=1:=by rw [← hy];exact hm
  rw [hy]
  unfold rf.elected rf.majority rf.count rf.size
  rw [e1,e2]
  decide
 have e:(rf.voted (rf.stood x) x.id).1.role=2:=by
  rw [voted_yes (by omega) (by omega) he]
  exact (lead_parts _).2.2.1
 unfold rf.stand
 rw [if_pos e]
 exact e
theorem one_leads:∀ d M (C:Clu),Ok M C→C.n=1→M + d < 100000→(nd C 0).role=2∨10 - (nd C 0).idle≤d→(nd (rnd d C) 0).role=2
 | 0,M,C,h,h1,_,hd=>by
  rcases hd with hd | hd
  ·exact hd
  ·by_cases hr:(nd C 0).role=2
   ·exact hr
   ·have:=(h.nx 0 (by omega)).i1 hr
    have:=h.id (i:=0) (by omega)
    omega
 | d + 1,M,C,h,h1,hM,hd=>by
  have e1:rnd (d + 1) C=rnd d (roundC C):=by
   have:=rnd_add C 1 d
   rw [Nat.add_comm] at this
   exact this
  have er:=one_round h (M:=M) (by omega) h1
  have hid:=h.id (i:=0) (by omega)
  have hmany:=h.many (i:=0) (by omega)
  rw [e1]
  refine one_leads d (M + C.n) (roundC C) (ok_round h (by omega)) (by rw [round_n];exact h1) (by omega) ?_
  rw [er]
  unfold rf.tick
  by_cases hr:(nd C 0).role=2
  ·rw [if_pos hr]
   left
   split <;> exact hr
  ·rw [if_neg hr]
   by_cases hs:10 + 3 * (nd C 0).id≤(nd C 0).idle + 1
   ·rw [if_pos hs]
    left
    exact one_lead _ (by show (nd C 0).many=1;rw [hmany,h1];rfl) (by show (nd C 0).id=0;omega)
   ·rw [if_neg hs]
    right
    rcases hd with hd | hd
    ·exact absurd hd hr
    ·show 10 - ((nd C 0).idle + 1)≤d
     omega
theorem one_stays (h:Ok M C) (h1:C.n=1) (hr:(nd C 0).role=2):∀ d,M + d < 100000→(nd (rnd d C) 0).role=2∧(nd (rnd d C) 0).term=(nd C 0).term∧(nd (rnd d C) 0).log=(nd C 0).log∧(nd (rnd d C) 0).commit=(nd C 0).commit
 | 0,_=>⟨hr,rfl,rfl,rfl⟩
 | d + 1,hM=>by
  obtain ⟨a1,a2,a3,a4⟩:=one_stays h h1 hr d (by omega)
  have hd1:d * C.n=d:=by rw [h1,Nat.mul_one]
  have er:=one_round (ok_rnd h d (by omega)) (by rw [rnd_n];omega) (by rw [rnd_n];exact h1)
  show (nd (roundC (rnd d C)) 0).role=2∧_
  show _∧(nd (roundC (rnd d C)) 0).term=_∧(nd (roundC (rnd d C)) 0).log=_∧(nd (roundC (rnd d C)) 0).commit=_
  rw [er]
  unfold rf.tick
  rw [if_pos a1]
  split
  ·exact ⟨a1,a2,a3,a4⟩
  ·exact ⟨a1,a2,a3,a4⟩
theorem kept_one (h:Ok M C) (h1:C.n=1) (hM:M + 80 < 90000) (text:List UInt8) (htx:text.length≤100):Kept text C:=by
 have hi:=(h.nx 0 (by omega)).i0
 have hr:=one_leads 60 M C h h1 (by omega) (.inr (by omega))
 have hoX:=ok_rnd h 60 (by omega)
 have eX:=rnd_n C 60
 obtain ⟨X,hX⟩:∃ X,rnd 60 C=X:=⟨_,rfl⟩
 unfold Kept
 rw [hX] at hr hoX eX ⊢
 have h1X:X.n=1:=eX.trans h1
 have hid:=hoX.id (i:=0) (by omega)
 have hmany:=hoX.many (i:=0) (by omega)
 have hm7:=hoX.mat7 (i:=0) (by omega)
 have ep:=propose_eq (x:=nd X 0) (text:=text) hr (by omega) (by omega) htx
 obtain ⟨a1,a2,a3,a4,a5,a6,a7,a8,a9,_⟩:=add_parts (nd X 0) text
 have hcl:Closed (rf.add (nd X 0) text).1:=closed_tally _
 obtain ⟨Y,hY⟩:∃ Y,(rf.add (nd X 0) text).1=Y:=⟨_,rfl⟩
 rw [hY] at a1 a2 a3 a4 a5 a6 a7 a8 a9 hcl
 have hnd:nd (propC 0 text X) 0=Y:=by
  unfold propC
  rw [nd_same,ep]
  exact hY
 have hlen:Y.log.length=(nd X 0).log.length + 1:=by rw [a7,List.length_append];rfl
 have hcom:=closed_commit (x:=Y) (n:=1) hcl (by rw [a2,hmany,h1X]) (by decide) (by decide) (by omega) (by
  rw [hlen,termAt_tm (by omega) (by omega),a7,show (nd X 0).log.length + 1 - 1=(nd X 0).log.length by omega,tm_append_end]
  exact a4.symm) (fun k hk=>by
  have:k=0:=by omega
  subst this
  rw [a9,hid,getD_set _ _ _ _ _ (by omega),if_pos (by decide),hlen]
  exact Nat.le_refl _)
 have hokp:Ok (M + 60 * C.n + 1) (propC 0 text X):=by
  have hlim:=propose_lim (M:=M + 60 * C.n) (K:=M + 60 * C.n) (x:=nd X 0) (by omega) (hoX.lim.up 0 (by omega) (hoX.up 0 (by omega))) htx
  have hnx:=hoX.nx 0 (by omega)
  refine ok_changed (r:=((rf.propose (nd X 0) text).1,(rf.propose (nd X 0) text).2.1)) (w:=X.way) hoX (fun m hm=>hm) (by omega) (Nat.le_succ _) ⟨hlim.1.mono (Nat.le_refl _) (Nat.le_succ _),fun m hm=>(hlim.2 m hm).mono (Nat.le_refl _) (Nat.le_succ _)⟩ ?_ ?_ fun g hI=>?_
  ·rw [ep]
   show Nx (rf.add (nd X 0) text).1
   rw [hY]
   exact hnx.with (by rw [a8,List.length_set]) a1 (.inl a5) fun _=>.inl hr
  ·rw [ep]
   exact nl_add (hoX.nl 0 (by omega)) hnx hm7 (by omega) hr text
  ·obtain ⟨g',hg,_⟩:=(onward_propose (text:=text) hoX.n7 (by omega) (hoX.up 0 (by omega)) .ok).2 g hI
   exact ⟨g',hg⟩
 obtain ⟨b1,b2,b3,b4⟩:=one_stays hokp (by show X.n=1;exact h1X) (by rw [hnd];exact a3.trans hr) 6 (by omega)
 refine ⟨(nd X 0).term,0,⟨by omega,hr,rfl⟩,fun i hi _=>by omega,fun f hf=>?_⟩
 have:f=0:=by omega
 subst this
 rw [b4,b3,hnd]
 rw [hlen] at hcom
 refine ⟨hcom,?_⟩
 rw [a7]
 exact Ag.refl _ (by rw [List.length_append];exact Nat.le_refl _)
theorem kept (h:Ok M C) (h1:1≤C.n) (h5:C.n≤5) (hM:M + 500 < 90000) (hR:2≤C.n→Room 1500 C) (text:List UInt8) (htx:text.length≤100):Kept text C:=by
 by_cases h2:2≤C.n
 ·exact kept_more h h2 h5 (by omega) (hR h2) text htx
 ·exact kept_one h (by omega) (by omega) text htx
end
end cl
end Go.Proofs.YtmcibggjolckoaaGreatDoor
