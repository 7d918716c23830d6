/- LvCatch, LvChain, LvClose: one behind the other. -/
import Derived.Test.YtmcibggjolckoaaGreatDoorGm32
namespace Go.Proofs.YtmcibggjolckoaaGreatDoor
namespace cl
open rl (Ent e0)
set_option maxRecDepth 100000
structure SD (T l:Nat) (D:Clu):Prop where
 tb:TB T D
 all:All T D
 ld:Leads T D l
def kk (p i:Nat):Nat:=(p - i + 19) / 20
def okp (F:Log) (m:rf.Msg):Prop:=rl.termAt F m.index=(m.at_,true)
instance (F:Log) (m:rf.Msg):Decidable (okp F m):=inferInstanceAs (Decidable (_=_))
def pot (T p:Nat) (D:Clu) (m:rf.Msg):Nat:=
 if m.kind=1 then 2 else if m.kind=3 then (if m.term=T∧okp (nd D m.dst.toNat).log m then 2 * kk p (m.index + m.ents.length) + 2 else 22) else if m.kind=4 then (if m.ok=true then 2 * kk p m.index + 1 else 21) else 1
def pots (T p:Nat) (D:Clu) (l:List rf.Msg):Nat:=(l.map (pot T p D)).sum
def backOf (x:rf.Node) (f:Nat):Nat:=if (f:Int)=x.id then 0 else x.next.getD f 0 - 1 - x.mat.getD f 0
def back (n:Nat) (x:rf.Node):Nat:=((List.range n).map (backOf x)).sum
def phi (T l p:Nat) (D:Clu):Nat:=pots T p D D.way + 2 * back D.n (nd D l)
theorem kk_le {p i:Nat} (hp:p≤200):kk p i≤10:=by unfold kk;omega
theorem pot_pos (T p:Nat) (D:Clu) (m:rf.Msg):1≤pot T p D m:=by
 unfold pot
 split
 ·decide
 ·split
  ·split <;> omega
  ·split
   ·split <;> omega
   ·exact Nat.le_refl _
theorem pot_le {T p:Nat} (hp:p≤200) (D:Clu) (m:rf.Msg):pot T p D m≤22:=by
 unfold pot
 have h1:=kk_le (i:=m.index + m.ents.length) hp
 have h2:=kk_le (i:=m.index) hp
 split
 ·decide
 ·split
  ·split <;> omega
  ·split
   ·split <;> omega
   ·decide
theorem pots_cons (T p:Nat) (D:Clu) (m:rf.Msg) (r:List rf.Msg):pots T p D (m :: r)=pot T p D m + pots T p D r:=rfl
theorem pots_append (T p:Nat) (D:Clu) (a b:List rf.Msg):pots T p D (a ++ b)=pots T p D a + pots T p D b:=by
 unfold pots
 rw [List.map_append,List.sum_append_nat]
theorem pots_le {T p:Nat} {D D':Clu} {l:List rf.Msg} (h:∀ a ∈ l,pot T p D' a≤pot T p D a):pots T p D' l≤pots T p D l:=by
 induction l with
 | nil=>exact Nat.le_refl _
 | cons m r ih=>
  rw [pots_cons,pots_cons]
  have:=h m List.mem_cons_self
  have:=ih fun a ha=>h a (List.mem_cons_of_mem _ ha)
  omega
theorem pots_bound {T p:Nat} (hp:p≤200) (D:Clu) (l:List rf.Msg):l.length≤pots T p D l∧pots T p D l≤22 * l.length:=by
 induction l with
 | nil=>exact ⟨Nat.le_refl _,Nat.le_refl _⟩
 | cons m r ih=>
  rw [pots_cons,List.length_cons]
  have:=pot_pos T p D m
  have:=pot_le (T:=T) hp D m
  omega
theorem pots_drop (T p:Nat) (D:Clu) (a:List rf.Msg):∀ k,pots T p D (a.drop k)≤pots T p D a
 | 0=>Nat.le_refl _
 | k + 1=>by
  cases a with
  | nil=>exact Nat.le_refl _
  | cons m r=>
   rw [List.drop_succ_cons,pots_cons]
   have:=pots_drop T p D r k
   omega
theorem sum_le (g g':Nat→Nat):∀ n,(∀ f,f < n→g' f≤g f)→((List.range n).map g').sum≤((List.range n).map g).sum
 | 0,_=>Nat.le_refl _
 | n + 1,h=>by
  rw [List.range_succ,List.map_append,List.map_append,List.sum_append_nat,List.sum_append_nat]
  have:=sum_le g g' n fun f hf=>h f (by omega)
  have:=h n (Nat.lt_succ_self n)
  simp only [List.map_cons,List.map_nil,List.sum_cons,List.sum_nil]
  omega
theorem sum_lt (g g':Nat→Nat) {k:Nat} (hk:g' k + 1≤g k):∀ n,(∀ f,f < n→g' f≤g f)→k < n→((List.range n).map g').sum + 1≤((List.range n).map g).sum
 | 0,_,hkn=>absurd hkn (Nat.not_lt_zero _)
 | n + 1,h,hkn=>by
  rw [List.range_succ,List.map_append,List.map_append,List.sum_append_nat,List.sum_append_nat]
  simp only [List.map_cons,List.map_nil,List.sum_cons,List.sum_nil]
  by_cases h2:k < n
  ·have:=sum_lt g g' hk n (fun f hf=>h f (by omega)) h2
   have:=h n (Nat.lt_succ_self n)
   omega
  ·have:k=n:=by omega
   subst this
   have:=sum_le g g' k fun f hf=>h f (by omega)
   omega
theorem sum_cap (g:Nat→Nat) (b:Nat):∀ n,(∀ f,f < n→g f≤b)→((List.range n).map g).sum≤n * b
 | 0,_=>Nat.zero_le _
 | n + 1,h=>by
  rw [List.range_succ,List.map_append,List.sum_append_nat,Nat.succ_mul]
  have:=sum_cap g b n fun f hf=>h f (by omega)
  have:=h n (Nat.lt_succ_self n)
  simp only [List.map_cons,List.map_nil,List.sum_cons,List.sum_nil]
  omega
section
variable {M T l p:Nat} {D:Clu}
theorem sd_del (h:Ok M D) (hS:SD T l D):SD T l (delC D):=⟨tb_del h hS.tb,all_del h hS.tb hS.all,(leads_del h hS.ld hS.tb.ms).1⟩
theorem acked (h:Ok M D) (hS:SD T l D) {f:Nat} (hf:f < D.n):Ag (nd D l).log (nd D f).log ((nd D l).mat.getD f 0):=by
 obtain ⟨h1,h2,h3⟩:=hS.ld
 obtain ⟨g,hI⟩:=h.inv
 have hu:=hI.up l h1 (h.up l h1)
 obtain ⟨q1,q2,_,q4⟩:=hu.r2 h2
 have ha:=hI.core.ackn hf
 have e:D.sts f=stOf (nd D f):=h.st hf
 rw [e] at ha
 have et:(stOf (nd D f)).t=T:=hS.all f hf
 rw [et] at ha
 have h3:(D.p l).x.term=T:=h3
 rw [h3] at q2 q4
 rw [q2] at ha
 exact ha.le (q4 f hf)
theorem ag_termAt {a F:Log} {i:Nat} (h:Ag a F i):rl.termAt F i=((rl.termAt a i).1,true):=by
 by_cases h0:i=0
 ·subst h0;rfl
 ·rw [termAt_tm h0 h.2.1,termAt_tm h0 h.1,h.tm (j:=i - 1) (by omega)]
theorem put_says (h:Ok M D) (hS:SD T l D) {m:rf.Msg} (hm:m ∈ D.way) (hk:m.kind=3) (ht:m.term=T):m.frm=(l:Int)∧Slice (nd D l).log m.index m.ents∧m.at_=(rl.termAt (nd D l).log m.index).1:=by
 obtain ⟨h1,h2,h3⟩:=hS.ld
 obtain ⟨g,hI⟩:=h.inv
 obtain ⟨q1,q2,_,q4⟩:=(hI.up l h1 (h.up l h1)).r2 h2
 have hf:=h.put_of hm hk h1 h2 (h3.trans ht.symm)
 obtain ⟨_,k2,k3,_⟩:=(hI.way m hm).k3 l hf hk
 have h3:(D.p l).x.term=T:=h3
 rw [ht,← h3,q2] at k2 k3
 exact ⟨hf,k2,k3⟩
theorem okp_ag (h:Ok M D) (hS:SD T l D) {m:rf.Msg} (hm:m ∈ D.way) (hk:m.kind=3) (ht:m.term=T) {f:Nat} (hf:f < D.n) (ho:okp (nd D f).log m):Ag (nd D l).log (nd D f).log m.index:=by
 obtain ⟨p1,p2,p3⟩:=put_says h hS hm hk ht
 have hL:m.index≤(nd D l).log.length:=by have:=p2.1;omega
 by_cases h0:m.index=0
 ·rw [h0];exact Ag.zero _ _
 ·unfold okp at ho
  have hF:m.index≤(nd D f).log.length:=by
   apply Classical.byContradiction
   intro hc
   unfold rl.termAt at ho
   rw [if_neg h0,if_pos (by omega)] at ho
   simp at ho
  rw [termAt_tm h0 hF] at ho
  rw [termAt_tm h0 hL] at p3
  obtain ⟨g,hI⟩:=h.inv
  have eL:(D.p l).s=stOf (nd D l):=h.st hS.ld.1
  have eF:(D.p f).s=stOf (nd D f):=h.st hf
  have e1:tm (nd D f).log (m.index - 1)=m.at_:=by injection ho
  have:=logs_same hI (a:=l) (b:=f) (k:=m.index - 1) hS.ld.1 hf (by rw [eL];show _ < (nd D l).log.length;omega) (by rw [eF];show _ < (nd D f).log.length;omega) (by rw [eL,eF];show tm (nd D l).log _=tm (nd D f).log _;rw [e1,p3])
  rw [eL,eF,show m.index - 1 + 1=m.index by omega] at this
  exact this
theorem ag_okp (h:Ok M D) (hS:SD T l D) {m:rf.Msg} (hm:m ∈ D.way) (hk:m.kind=3) (ht:m.term=T) {F:Log} (ha:Ag (nd D l).log F m.index):okp F m:=by
 obtain ⟨p1,p2,p3⟩:=put_says h hS hm hk ht
 unfold okp
 rw [ag_termAt ha,p3]
theorem okp_took (h:Ok M D) (hS:SD T l D) {m a:rf.Msg} (hm:m ∈ D.way) (hk:m.kind=3) (ht:m.term=T) (ha:a ∈ D.way) (hka:a.kind=3) (hta:a.term=T) {f:Nat} (hf:f < D.n) (ho:okp (nd D f).log m) (hoa:okp (nd D f).log a):okp (rl.match_ (nd D f).log m.index m.at_ m.ents).1 a∧Ag (nd D l).log (rl.match_ (nd D f).log m.index m.at_ m.ents).1 (m.index + m.ents.length):=by
 obtain ⟨p1,p2,p3⟩:=put_says h hS hm hk ht
 obtain ⟨q1,q2,q3⟩:=put_says h hS ha hka hta
 obtain ⟨g,hI⟩:=h.inv
 have eL:(D.p l).s=stOf (nd D l):=h.st hS.ld.1
 have eF:(D.p f).s=stOf (nd D f):=h.st hf
 have fL:=hI.core.fitS hS.ld.1
 have fF:=hI.core.fitS hf
 have e1:D.sts l=stOf (nd D l):=eL
 have e2:D.sts f=stOf (nd D f):=eF
 rw [e1] at fL
 rw [e2] at fF
 obtain ⟨ht,_⟩:=match_took (g:=g) (l:=(nd D f).log) (a:=(nd D l).log) (e:=m.ents) (p:=m.index) (pt:=m.at_) fF fL p2 ho p3
 have hag:=okp_ag h hS ha hka hta hf hoa
 exact ⟨ag_okp h hS ha hka hta (ht.keep _ _ hag (Ag.refl _ hag.1)),ht.ag.symm⟩
structure Less (T l p:Nat) (D:Clu):Prop where
 phi:phi T l p (delC D) + 1≤phi T l p D
 log:(nd (delC D) l).log=(nd D l).log
theorem heard_not {x:rf.Node} {m:rf.Msg} (h:¬ (x.role=2∧m.term=x.term)):rf.heard x m=(x,[]):=by
 unfold rf.heard
 rw [if_neg h]
theorem ask_out (x:rf.Node) (m:rf.Msg):∃ o,(rf.ask x m).2=[o]∧o.kind=2∧(rf.ask x m).1.log=x.log∧(rf.ask x m).1.next=x.next∧(rf.ask x m).1.mat=x.mat∧(rf.ask x m).1.id=x.id:=by
 unfold rf.ask
 split
 ·exact ⟨_,rfl,rfl,rfl,rfl,rfl,rfl⟩
 ·exact ⟨_,rfl,rfl,rfl,rfl,rfl,rfl⟩
theorem pot_same {D':Clu} {a:rf.Msg} (h:(nd D' a.dst.toNat).log=(nd D a.dst.toNat).log):pot T p D' a=pot T p D a:=by
 unfold pot
 rw [h]
theorem pot_mono (hp:p≤200) {D':Clu} {a:rf.Msg} (h:a.kind=3→a.term=T→okp (nd D a.dst.toNat).log a→okp (nd D' a.dst.toNat).log a):pot T p D' a≤pot T p D a:=by
 by_cases hk:a.kind=3∧a.term=T∧okp (nd D a.dst.toNat).log a
 ·obtain ⟨k1,k2,k3⟩:=hk
  have:=h k1 k2 k3
  unfold pot
  rw [if_neg (by omega),if_pos k1,if_pos ⟨k2,this⟩,if_neg (by omega),if_pos k1,if_pos ⟨k2,k3⟩]
  exact Nat.le_refl _
 ·by_cases k1:a.kind=3
  ·have e:pot T p D a=22:=by
    unfold pot
    rw [if_neg (by omega),if_pos k1,if_neg (fun hh=>hk ⟨k1,hh⟩)]
   rw [e]
   exact pot_le hp _ _
  ·unfold pot
   by_cases k0:a.kind=1
   ·rw [if_pos k0,if_pos k0];exact Nat.le_refl _
   ·rw [if_neg k0,if_neg k1,if_neg k0,if_neg k1];exact Nat.le_refl _
theorem less (h:Ok M D) (hM:M < 18446744073709551616) (hS:SD T l D) (hp:(nd D l).log.length=p) (hp2:p≤200) (hw:D.way ≠ []):Less T l p D:=by
 cases hw0:D.way with
 | nil=>exact absurd hw0 hw
 | cons m r=>
  have hmm:m ∈ D.way:=by rw [hw0];exact List.mem_cons_self
  have hrw:∀ a ∈ r,a ∈ D.way:=fun a ha=>by rw [hw0];exact List.mem_cons_of_mem _ ha
  obtain ⟨d,hd,hdn,e,e1,e2,hs⟩:=del_parts h hw0
  have hS':=sd_del h hS
  have ok':=ok_del h hM
  have h7:=h.n7
  have h200:=h.w200
  have hl:=hS.ld
  have hone:=one_led h hS.tb hS.all hl hw0 hd hdn hM
  rw [last_id (by rw [hw0] at h200;simp only [List.length_cons] at h200;rw [List.length_append];omega)] at e
  have hxt:=hS.all d hdn
  have hmt:=hS.tb.ms m hmm
  have hdt:m.dst.toNat=d:=by rw [hd,Int.toNat_natCast]
  have hrole:d ≠ l→(nd D d).role ≠ 2:=fun hne hr=>hne (leads_one h ⟨hdn,hr,hxt⟩ hl)
  have hrole':d ≠ l→(rf.step (nd D d) m).1.role ≠ 2:=fun hne hr=>hne (leads_one ok' (⟨by rw [del_n];exact hdn,by rw [e1];exact hr,hS'.all d (by rw [del_n];exact hdn)⟩:Leads T (delC D) d) hS'.ld)
  have fin:(∀ a ∈ r,a.kind=3→a.term=T→a.dst.toNat=d→okp (nd D d).log a→okp (rf.step (nd D d) m).1.log a)→(d=l→(rf.step (nd D d) m).1.log=(nd D d).log)→pots T p (delC D) (rf.step (nd D d) m).2 + 2 * back D.n (nd (delC D) l) + 1≤pot T p D m + 2 * back D.n (nd D l)→Less T l p D:=by
   intro h1 h2 h3
   refine ⟨?_,?_⟩
   ·unfold phi
    rw [e,hw0,pots_append,pots_cons,del_n]
    have:=pots_le (T:=T) (p:=p) (D:=D) (D':=delC D) (l:=r) fun a ha=>pot_mono hp2 fun k1 k2 k3=>by
     by_cases hda:a.dst.toNat=d
     ·rw [hda,e1]
      rw [hda] at k3
      exact h1 a ha k1 k2 hda k3
     ·rw [e2 _ hda];exact k3
    omega
   ·by_cases hdl:l=d
    ·subst hdl;rw [e1];exact h2 rfl
    ·rw [e2 l hdl]
  have hld:d ≠ l→nd (delC D) l=nd D l:=fun hne=>e2 l fun e=>hne e.symm
  have hsame:(rf.step (nd D d) m)=(nd D d,[])→Less T l p D:=fun hx=>by
   have hnd:nd (delC D) l=nd D l:=by
    by_cases hdl:l=d
    ·subst hdl;rw [e1,hx]
    ·exact e2 l hdl
   refine fin (fun a _ _ _ _ ha=>by rw [hx];exact ha) (fun _=>by rw [hx]) ?_
   rw [hx,hnd]
   have:=pot_pos T p D m
   show 0 + _ + 1≤_
   omega
  cases hmn:rf.meant (nd D d) m with
  | false=>exact hsame (step_not hmn)
  | true=>
   obtain ⟨m1,m2,m3,m4,m5,m6⟩:=meant_kind hmn
   have hid:=h.id hdn
   have hmany:=h.many hdn
   have hst:=step_of hmn
   rw [fresh_le (by omega)] at hst
   by_cases k1:m.kind=1
   ·-- a question
    rw [if_pos k1] at hst
    obtain ⟨o,o1,o2,o3,o4,o5,o6⟩:=ask_out (nd D d) m
    rw [← hst] at o1 o3 o4 o5 o6
    refine fin (fun a _ _ _ _ ha=>by rw [o3];exact ha) (fun _=>o3) ?_
    have hb:back D.n (nd (delC D) l)=back D.n (nd D l):=by
     by_cases hdl:l=d
     ·subst hdl
      rw [e1]
      unfold back backOf
      rw [o4,o5,o6]
     ·rw [e2 l hdl]
    have p1:pot T p D m=2:=by unfold pot;rw [if_pos k1]
    have p2:pot T p (delC D) o=1:=by unfold pot;rw [if_neg (by omega),if_neg (by omega),if_neg (by omega)]
    rw [o1,hb,pots_cons,p1,p2]
    show 1 + 0 + _ + 1≤_
    omega
   ·rw [if_neg k1] at hst
    by_cases k2:m.kind=2
    ·-- a vote
     rw [if_pos k2] at hst
     by_cases hdl:d=l
     ·subst hdl
      refine hsame ?_
      rw [hst]
      unfold rf.vote
      rw [if_neg (fun hh=>by rw [hl.2.1] at hh;exact absurd hh.1 (by decide))]
     ·have ho:(rf.step (nd D d) m).2=[]:=by
       rcases hx:(rf.step (nd D d) m).2 with _ | ⟨o,q⟩
       ·rfl
       ·have:=(hs.outs o (by rw [hx];exact List.mem_cons_self)).2.2
        rcases this with c | c | c
        ·omega
        ·exact absurd c.2.1 (hrole' hdl)
        ·omega
      have hlog:(rf.step (nd D d) m).1.log=(nd D d).log:=by
       rcases (stv (nd D d) m).log with c | c | c
       ·exact c
       ·omega
       ·exact absurd c.2 (hrole' hdl)
      refine fin (fun a _ _ _ _ ha=>by rw [hlog];exact ha) (fun hh=>absurd hh hdl) ?_
      rw [ho,hld hdl]
      have:=pot_pos T p D m
      show 0 + _ + 1≤_
      omega
    ·rw [if_neg k2] at hst
     by_cases k3:m.kind=3
     ·-- a put
      rw [if_pos k3] at hst
      by_cases hlt:m.term < (nd D d).term
      ·rw [put_low hlt] at hst
       have p1:pot T p D m=22:=by unfold pot;rw [if_neg k1,if_pos k3,if_neg (fun hh=>by omega)]
       have hnd:nd (delC D) l=nd D l:=by
        by_cases hdl:l=d
        ·subst hdl;rw [e1,hst]
        ·exact e2 l hdl
       refine fin (fun a _ _ _ _ ha=>by rw [hst];exact ha) (fun _=>by rw [hst]) ?_
       rw [hst,hnd,p1]
       show 21 + 0 + _ + 1≤_
       omega
      ·have he:m.term=(nd D d).term:=by omega
       have hmT:m.term=T:=he.trans hxt
       obtain ⟨q1,q2,q3⟩:=put_says h hS hmm k3 hmT
       have hdl:d ≠ l:=fun hh=>by subst hh;omega
       by_cases ho:okp (nd D d).log m
       ·rw [put_yes he ho] at hst
        have p1:pot T p D m=2 * kk p (m.index + m.ents.length) + 2:=by unfold pot;rw [if_neg k1,if_pos k3,if_pos ⟨hmT,by rw [hdt];exact ho⟩]
        refine fin (fun a ha ka ta _ hoa=>?_) (fun hh=>absurd hh hdl) ?_
        ·rw [hst]
         exact (okp_took h hS hmm k3 hmT (hrw a ha) ka ta hdn ho hoa).1
        ·rw [hst,hld hdl,p1]
         show (2 * kk p (m.index + m.ents.length) + 1) + 0 + _ + 1≤_
         omega
       ·rw [put_no he ho] at hst
        have p1:pot T p D m=22:=by unfold pot;rw [if_neg k1,if_pos k3,if_neg (fun hh=>ho (by rw [hdt] at hh;exact hh.2))]
        refine fin (fun a _ _ _ _ ha=>by rw [hst];exact ha) (fun hh=>absurd hh hdl) ?_
        rw [hst,hld hdl,p1]
        show 21 + 0 + _ + 1≤_
        omega
     ·-- it is heard of
      rw [if_neg k3] at hst
      have k4:m.kind=4:=by omega
      by_cases hr:(nd D d).role=2∧m.term=(nd D d).term
      ·obtain ⟨r1,r2⟩:=hr
       have hdl:d=l:=leads_one h ⟨hdn,r1,hxt⟩ hl
       subst hdl
       obtain ⟨f,hf⟩:∃ f:Nat,m.frm=(f:Int):=⟨m.frm.toNat,by omega⟩
       have hfn:f < D.n:=by omega
       have hfd:f ≠ d:=by omega
       have hf7:f < 7:=by omega
       have hft:m.frm.toNat=f:=by rw [hf,Int.toNat_natCast]
       have hnl:=h.nl d hdn r1
       have hnf:=hnl f hf7
       have hn7:=(h.nx d hdn).n7
       have hm7:=h.mat7 hdn
       unfold rf.heard at hst
       rw [if_pos ⟨r1,r2⟩,hft] at hst
       by_cases hok:m.ok=true
       ·rw [if_pos hok] at hst
        obtain ⟨t1,t2,t3,t4,t5,t6,t7,t8,t9⟩:=tally_same (rf.heardYes (nd D d) f m.index)
        obtain ⟨Y,hY⟩:∃ Y,rf.tally (rf.heardYes (nd D d) f m.index)=Y:=⟨_,rfl⟩
        obtain ⟨A,hA⟩:∃ A,max ((nd D d).mat.getD f 0) (min m.index (nd D d).log.length)=A:=⟨_,rfl⟩
        have u1:(rf.heardYes (nd D d) f m.index).next=(nd D d).next.set f (A + 1):=by rw [← hA];rfl
        have u2:(rf.heardYes (nd D d) f m.index).mat=(nd D d).mat.set f A:=by rw [← hA];rfl
        have u3:(rf.heardYes (nd D d) f m.index).log=(nd D d).log:=rfl
        rw [u1] at t6
        rw [u2] at t7
        rw [u3] at t8
        rw [hY] at hst t1 t3 t6 t7 t8
        have t1:Y.id=(nd D d).id:=t1
        have v1:Y.next.getD f 0=A + 1:=by rw [t6,getD_set _ _ _ _ _ (by omega),if_pos rfl]
        have v2:Y.mat.getD f 0=A:=by rw [t7,getD_set _ _ _ _ _ (by omega),if_pos rfl]
        rw [v1] at hst
        have p1:pot T p D m=2 * kk p m.index + 1:=by unfold pot;rw [if_neg k1,if_neg k3,if_pos k4,if_pos hok]
        have hy:(rf.step (nd D d) m).1=Y:=by rw [hst];split <;> rfl
        have hbk:back D.n (nd (delC D) d)≤back D.n (nd D d):=by
         rw [e1,hy]
         refine sum_le _ _ _ fun k hk=>?_
         unfold backOf
         rw [t1,t6,t7,getD_set _ _ _ _ _ (by omega),getD_set _ _ _ _ _ (by omega)]
         by_cases hkd:(k:Int)=(nd D d).id
         ·rw [if_pos hkd,if_pos hkd];exact Nat.le_refl _
         ·rw [if_neg hkd,if_neg hkd]
          by_cases hkf:k=f
          ·rw [if_pos hkf,if_pos hkf];omega
          ·rw [if_neg hkf,if_neg hkf];exact Nat.le_refl _
        refine fin (fun a _ _ _ _ ha=>by rw [hy,t8];exact ha) (fun _=>by rw [hy,t8]) ?_
        rw [p1]
        by_cases hle:A + 1≤(nd D d).log.length
        ·have hout:(rf.step (nd D d) m).2=[rf.stamp (nd D d) (rf.putMsg Y f)]:=by rw [hst,if_pos hle]
         rw [hout,pots_cons]
         have hnx:rf.nextOf Y f=A + 1:=by
          unfold rf.nextOf
          rw [v1,t8]
          omega
         have hpot:pot T p (delC D) (rf.stamp (nd D d) (rf.putMsg Y f))=2 * kk p (A + min 20 (p - A)) + 2:=by
          have i1:(rf.stamp (nd D d) (rf.putMsg Y f)).index=A:=by show rf.nextOf Y f - 1=A;rw [hnx];rfl
          have i2:(rf.stamp (nd D d) (rf.putMsg Y f)).ents.length=min 20 (p - A):=by
           show ((Y.log.drop (rf.nextOf Y f - 1)).take 20).length=_
           rw [List.length_take,List.length_drop,hnx,t8,hp]
           rfl
          have i3:(rf.stamp (nd D d) (rf.putMsg Y f)).at_=(rl.termAt (nd D d).log A).1:=by show (rl.termAt Y.log (rf.nextOf Y f - 1)).1=_;rw [hnx,t8];rfl
          have hokp:okp (nd (delC D) f).log (rf.stamp (nd D d) (rf.putMsg Y f)):=by
           unfold okp
           rw [i1,i3]
           have hag:=acked ok' hS' (f:=f) (by rw [del_n];exact hfn)
           rw [e1,hy,v2,t8] at hag
           exact ag_termAt hag
          unfold pot
          rw [if_neg (by show ¬ (3:Int)=1;decide),if_pos (by show (3:Int)=3;rfl),if_pos ⟨by show (nd D d).term=T;exact hxt,by show okp (nd (delC D) (f:Int).toNat).log _;rw [Int.toNat_natCast];exact hokp⟩,i1,i2]
         rw [hpot]
         show 2 * kk p (A + min 20 (p - A)) + 2 + 0 + _ + 1≤_
         have hkk:kk p (A + min 20 (p - A)) + 1≤kk p m.index:=by
          unfold kk
          omega
         omega
        ·have hout:(rf.step (nd D d) m).2=[]:=by rw [hst,if_neg hle]
         rw [hout]
         show 0 + _ + 1≤_
         omega
       ·rw [if_neg hok] at hst
        obtain ⟨Y,hY⟩:∃ Y,rf.heardNo (nd D d) f m.index=Y:=⟨_,rfl⟩
        obtain ⟨B,hB⟩:∃ B,max (min (max ((nd D d).next.getD f 0) 1 - 1) (min m.index (nd D d).log.length + 1)) ((nd D d).mat.getD f 0 + 1)=B:=⟨_,rfl⟩
        have t6:Y.next=(nd D d).next.set f B:=by rw [← hY,← hB];rfl
        have t7:Y.mat=(nd D d).mat:=by rw [← hY];rfl
        have t8:Y.log=(nd D d).log:=by rw [← hY];rfl
        have t1:Y.id=(nd D d).id:=by rw [← hY];rfl
        have hfid:¬ (f:Int)=(nd D d).id:=by omega
        rw [hY] at hst
        have v1:Y.next.getD f 0=B:=by rw [t6,getD_set _ _ _ _ _ (by omega),if_pos rfl]
        have hy:(rf.step (nd D d) m).1=Y:=by rw [hst]
        have hout:(rf.step (nd D d) m).2=[rf.stamp (nd D d) (rf.putMsg Y f)]:=by rw [hst]
        have p1:pot T p D m=21:=by unfold pot;rw [if_neg k1,if_neg k3,if_pos k4,if_neg hok]
        have others:∀ k,k ≠ f→backOf Y k=backOf (nd D d) k:=fun k hk=>by
         unfold backOf
         rw [t1,t6,t7,getD_set _ _ _ _ _ (by omega),if_neg hk]
        refine fin (fun a _ _ _ _ ha=>by rw [hy,t8];exact ha) (fun _=>by rw [hy,t8]) ?_
        rw [p1,hout,pots_cons,e1,hy]
        by_cases hb:(nd D d).mat.getD f 0 + 2≤(nd D d).next.getD f 0
        ·have hlt:back D.n Y + 1≤back D.n (nd D d):=by
          refine sum_lt _ _ (k:=f) ?_ D.n (fun k hk=>?_) hfn
          ·unfold backOf
           rw [t1,v1,t7,if_neg hfid,if_neg hfid]
           omega
          ·by_cases hkf:k=f
           ·subst hkf
            unfold backOf
            rw [t1,v1,t7,if_neg hfid,if_neg hfid]
            omega
           ·rw [others k hkf];exact Nat.le_refl _
         have:=pot_le (T:=T) hp2 (delC D) (rf.stamp (nd D d) (rf.putMsg Y f))
         show _ + 0 + _ + 1≤_
         omega
        ·have hBe:B=(nd D d).mat.getD f 0 + 1:=by omega
         have hle:back D.n Y≤back D.n (nd D d):=by
          refine sum_le _ _ _ fun k hk=>?_
          by_cases hkf:k=f
          ·subst hkf
           unfold backOf
           rw [t1,v1,t7,if_neg hfid,if_neg hfid]
           omega
          ·rw [others k hkf];exact Nat.le_refl _
         have hnx:rf.nextOf Y f=(nd D d).mat.getD f 0 + 1:=by
          unfold rf.nextOf
          rw [v1,t8,hBe]
          omega
         obtain ⟨A,hA⟩:∃ A,(nd D d).mat.getD f 0=A:=⟨_,rfl⟩
         rw [hA] at hnx hnf
         have hpot:pot T p (delC D) (rf.stamp (nd D d) (rf.putMsg Y f))=2 * kk p (A + min 20 (p - A)) + 2:=by
          have i1:(rf.stamp (nd D d) (rf.putMsg Y f)).index=A:=by show rf.nextOf Y f - 1=A;rw [hnx];rfl
          have i2:(rf.stamp (nd D d) (rf.putMsg Y f)).ents.length=min 20 (p - A):=by
           show ((Y.log.drop (rf.nextOf Y f - 1)).take 20).length=_
           rw [List.length_take,List.length_drop,hnx,t8,hp]
           rfl
          have i3:(rf.stamp (nd D d) (rf.putMsg Y f)).at_=(rl.termAt (nd D d).log A).1:=by show (rl.termAt Y.log (rf.nextOf Y f - 1)).1=_;rw [hnx,t8];rfl
          have hokp:okp (nd (delC D) f).log (rf.stamp (nd D d) (rf.putMsg Y f)):=by
           unfold okp
           rw [i1,i3]
           have hag:=acked ok' hS' (f:=f) (by rw [del_n];exact hfn)
           rw [e1,hy,t7,t8,hA] at hag
           exact ag_termAt hag
          unfold pot
          rw [if_neg (by show ¬ (3:Int)=1;decide),if_pos (by show (3:Int)=3;rfl),if_pos ⟨by show (nd D d).term=T;exact hxt,by show okp (nd (delC D) (f:Int).toNat).log _;rw [Int.toNat_natCast];exact hokp⟩,i1,i2]
         rw [hpot]
         have hk9:kk p (A + min 20 (p - A))≤9:=by
          unfold kk
          omega
         show _ + 0 + _ + 1≤_
         omega
      ·refine hsame ?_
       rw [hst]
       exact heard_not hr
end
end cl
end Go.Proofs.YtmcibggjolckoaaGreatDoor
namespace Go.Proofs.YtmcibggjolckoaaGreatDoor
namespace cl
open rl (Ent e0)
set_option maxRecDepth 100000
def Link (T l f:Nat) (m:rf.Msg):Prop:=PutTo T l f m∨(m.kind=4∧m.term=T∧m.frm=(f:Int)∧m.dst=(l:Int))
def Ch (T l:Nat) (D:Clu):Prop:=∀ f,f < D.n→f ≠ l→(nd D l).mat.getD f 0=(nd D l).log.length∨∃ m ∈ D.way,Link T l f m
def Closed (x:rf.Node):Prop:=(rf.tally x).commit=x.commit
theorem tallyAt_congr {x y:rf.Node} (h1:y.log=x.log) (h2:y.commit=x.commit) (h3:y.mat=x.mat) (h4:y.term=x.term) (h5:y.many=x.many):∀ i,(rf.tallyAt y i).commit=(rf.tallyAt x i).commit
 | 0=>h2
 | i + 1=>by
  have ih:=tallyAt_congr h1 h2 h3 h4 h5 i
  have hm:rf.majority y (fun k=>decide (i + 1≤y.mat.getD k 0))=rf.majority x fun k=>decide (i + 1≤x.mat.getD k 0):=by
   unfold rf.majority rf.count rf.size
   rw [h3,h5]
  unfold rf.tallyAt
  rw [h1,h2,h4,hm]
  split
  ·split
   ·rfl
   ·exact ih
  ·exact h2
theorem closed_congr {x y:rf.Node} (h:Closed x) (h1:y.log=x.log) (h2:y.commit=x.commit) (h3:y.mat=x.mat) (h4:y.term=x.term) (h5:y.many=x.many):Closed y:=by
 unfold Closed rf.tally at *
 rw [tallyAt_congr h1 h2 h3 h4 h5,h1,h2]
 exact h
theorem tallyAt_again (x:rf.Node):∀ i,(rf.tallyAt (rf.tallyAt x i) i).commit=(rf.tallyAt x i).commit
 | 0=>rfl
 | i + 1=>by
  have ih:=tallyAt_again x i
  by_cases h1:x.commit < i + 1
  ·by_cases h2:((rl.termAt x.log (i + 1)).1 == x.term && rf.majority x fun k=>decide (i + 1≤x.mat.getD k 0))=true
   ·have e:rf.tallyAt x (i + 1)={ x with commit:=i + 1 }:=by
     rw [rf.tallyAt,if_pos h1,if_pos h2]
    rw [e]
    show (rf.tallyAt { x with commit:=i + 1 } (i + 1)).commit=i + 1
    rw [rf.tallyAt,if_neg (by show ¬ i + 1 < i + 1;omega)]
   ·have e:rf.tallyAt x (i + 1)=rf.tallyAt x i:=by
     rw [rf.tallyAt,if_pos h1,if_neg h2]
    rw [e]
    obtain ⟨y,hy⟩:∃ y,rf.tallyAt x i=y:=⟨_,rfl⟩
    have w:y={ x with commit:=y.commit }:=by rw [← hy];exact tallyAt_with x i
    rw [hy] at ih ⊢
    rw [rf.tallyAt]
    split
    ·split
     ·rename_i h3
      exfalso
      apply h2
      have g1:y.log=x.log:=by rw [w]
      have g3:y.mat=x.mat:=by rw [w]
      have g4:y.term=x.term:=by rw [w]
      have g5:y.many=x.many:=by rw [w]
      have hm:rf.majority y (fun k=>decide (i + 1≤y.mat.getD k 0))=rf.majority x fun k=>decide (i + 1≤x.mat.getD k 0):=by
       unfold rf.majority rf.count rf.size
       rw [g3,g5]
      rw [g1,g4,hm] at h3
      exact h3
     ·exact ih
    ·rfl
  ·have e:rf.tallyAt x (i + 1)=x:=by rw [rf.tallyAt,if_neg h1]
   rw [e,e]
theorem closed_tally (x:rf.Node):Closed (rf.tally x):=by
 unfold Closed
 have h:=tallyAt_again x x.log.length
 have e:(rf.tally x).log=x.log:=(tally_same x).2.2.2.2.2.2.2.1
 show (rf.tallyAt (rf.tally x) (rf.tally x).log.length).commit=_
 rw [e]
 exact h
theorem closed_commit {x:rf.Node} {n:Nat} (h:Closed x) (hm:x.many=(n:Int)) (h7:n≤7) (h0:0 < n) (hp:0 < x.log.length) (ht:(rl.termAt x.log x.log.length).1=x.term) (ha:∀ k,k < n→x.log.length≤x.mat.getD k 0):x.log.length≤x.commit:=by
 apply Classical.byContradiction
 intro hc
 unfold Closed rf.tally at h
 obtain ⟨p,hpp⟩:∃ p,x.log.length=p + 1:=⟨x.log.length - 1,by omega⟩
 rw [hpp] at h ht ha hc
 rw [rf.tallyAt,if_pos (by omega)] at h
 have hmaj:rf.majority x (fun k=>decide (p + 1≤x.mat.getD k 0))=true:=by
  unfold rf.majority rf.count
  rw [size_eq hm h7,hm]
  have e:((List.range n).filter fun k=>decide (p + 1≤x.mat.getD k 0))=List.range n:=by
   rw [List.filter_eq_self]
   intro a ha2
   have:=ha a (List.mem_range.1 ha2)
   simpa using this
  rw [e,List.length_range]
  simp only [decide_eq_true_eq]
  omega
 rw [if_pos (by rw [ht,hmaj];simp)] at h
 have h:p + 1=x.commit:=h
 omega
section
variable {M T l:Nat} {D:Clu}
theorem leader_step (h:Ok M D) (hS:SD T l D) {m:rf.Msg} (hm:m ∈ D.way):(rf.step (nd D l) m).1=nd D l∨(rf.meant (nd D l) m=true∧m.kind=4∧m.term=T∧rf.step (nd D l) m=rf.heard (nd D l) m):=by
 obtain ⟨h1,h2,h3⟩:=hS.ld
 have hv:=h.vote2 h1 h2
 have hid:=h.id h1
 cases hmn:rf.meant (nd D l) m with
 | false=>rw [step_not hmn];exact .inl rfl
 | true=>
  obtain ⟨m1,m2,m3,m4,m5,m6⟩:=meant_kind hmn
  have hmt:=hS.tb.ms m hm
  by_cases hlt:m.term < (nd D l).term
  ·exact .inl ((stp _ m).low hlt).1
  ·have he:m.term=(nd D l).term:=by omega
   have hst:=step_of hmn
   rw [fresh_le (by omega)] at hst
   by_cases k1:m.kind=1
   ·left
    rw [hst,if_pos k1]
    unfold rf.ask
    have ha:rf.askOk (nd D l) m=false:=by
     unfold rf.askOk
     rw [hv]
     have h1:¬ (l:Int)=m.frm:=by omega
     have h4:¬ (l:Int) = -1:=by omega
     simp [h1,h4]
    rw [if_neg (by rw [ha];decide)]
   ·by_cases k2:m.kind=2
    ·left
     rw [hst,if_neg k1,if_pos k2]
     unfold rf.vote
     rw [if_neg (fun hh=>by rw [h2] at hh;exact absurd hh.1 (by decide))]
    ·by_cases k3:m.kind=3
     ·have:=h.put_of hm k3 h1 h2 he.symm
      omega
     ·right
      exact ⟨rfl,by omega,he.trans h3,by rw [hst,if_neg k1,if_neg k2,if_neg k3]⟩
theorem heard_parts (h:Ok M D) (hS:SD T l D) {m:rf.Msg} (hmn:rf.meant (nd D l) m=true) (hT:m.term=T) :
  ∃ f:Nat,m.frm=(f:Int)∧f < D.n∧f ≠ l∧(rf.heard (nd D l) m).1.log=(nd D l).log∧(∀ k,k < 7→(nd D l).mat.getD k 0≤(rf.heard (nd D l) m).1.mat.getD k 0)∧(Closed (nd D l)→Closed (rf.heard (nd D l) m).1)∧((rf.heard (nd D l) m).1.mat.getD f 0=(nd D l).log.length∨∃ Y,(rf.heard (nd D l) m).2=[rf.stamp (nd D l) (rf.putMsg Y f)]):=by
 obtain ⟨h1,h2,h3⟩:=hS.ld
 obtain ⟨m1,m2,m3,m4,m5,m6⟩:=meant_kind hmn
 have hid:=h.id h1
 have hmany:=h.many h1
 have h7:=h.n7
 obtain ⟨f,hf⟩:∃ f:Nat,m.frm=(f:Int):=⟨m.frm.toNat,by omega⟩
 have hft:m.frm.toNat=f:=by rw [hf,Int.toNat_natCast]
 have hm7:=h.mat7 h1
 have hn7:=(h.nx l h1).n7
 have hnl:=h.nl l h1 h2 f (by omega)
 refine ⟨f,hf,by omega,by omega,?_⟩
 unfold rf.heard
 rw [if_pos ⟨h2,hT.trans h3.symm⟩,hft]
 by_cases hok:m.ok=true
 ·rw [if_pos hok]
  obtain ⟨t1,t2,t3,t4,t5,t6,t7,t8,t9⟩:=tally_same (rf.heardYes (nd D l) f m.index)
  obtain ⟨A,hA⟩:∃ A,max ((nd D l).mat.getD f 0) (min m.index (nd D l).log.length)=A:=⟨_,rfl⟩
  have u1:(rf.heardYes (nd D l) f m.index).next=(nd D l).next.set f (A + 1):=by rw [← hA];rfl
  have u2:(rf.heardYes (nd D l) f m.index).mat=(nd D l).mat.set f A:=by rw [← hA];rfl
  have u3:(rf.heardYes (nd D l) f m.index).log=(nd D l).log:=rfl
  rw [u1] at t6
  rw [u2] at t7
  rw [u3] at t8
  have v1:(rf.tally (rf.heardYes (nd D l) f m.index)).next.getD f 0=A + 1:=by rw [t6,getD_set _ _ _ _ _ (by omega),if_pos rfl]
  have v2:(rf.tally (rf.heardYes (nd D l) f m.index)).mat.getD f 0=A:=by rw [t7,getD_set _ _ _ _ _ (by omega),if_pos rfl]
  have grow:∀ k,k < 7→(nd D l).mat.getD k 0≤(rf.tally (rf.heardYes (nd D l) f m.index)).mat.getD k 0:=fun k hk=>by
   rw [t7,getD_set _ _ _ _ _ (by omega)]
   split
   ·rename_i e;subst e;omega
   ·exact Nat.le_refl _
  rw [v1]
  by_cases hle:A + 1≤(nd D l).log.length
  ·rw [if_pos hle]
   exact ⟨t8,grow,fun _=>closed_tally _,.inr ⟨_,rfl⟩⟩
  ·rw [if_neg hle]
   exact ⟨t8,grow,fun _=>closed_tally _,.inl (by rw [v2];omega)⟩
 ·rw [if_neg hok]
  exact ⟨rfl,fun k _=>Nat.le_refl _,fun hc=>closed_congr hc rfl rfl rfl rfl rfl,.inr ⟨_,rfl⟩⟩
theorem lead_del (h:Ok M D) (hS:SD T l D):(nd (delC D) l).log=(nd D l).log∧(∀ k,k < 7→(nd D l).mat.getD k 0≤(nd (delC D) l).mat.getD k 0)∧(Closed (nd D l)→Closed (nd (delC D) l)):=by
 cases hw:D.way with
 | nil=>rw [delC_nil hw];exact ⟨rfl,fun _ _=>Nat.le_refl _,id⟩
 | cons m r=>
  have hmm:m ∈ D.way:=by rw [hw];exact List.mem_cons_self
  obtain ⟨d,hd,hdn,e,e1,e2,hs⟩:=del_parts h hw
  by_cases hdl:l=d
  ·subst hdl
   rw [e1]
   rcases leader_step h hS hmm with c | ⟨c1,c2,c3,c4⟩
   ·rw [c];exact ⟨rfl,fun _ _=>Nat.le_refl _,id⟩
   ·rw [c4]
    obtain ⟨f,f1,f2,f3,f4,f5,f6,f7⟩:=heard_parts h hS c1 c3
    exact ⟨f4,f5,f6⟩
  ·rw [e2 l hdl];exact ⟨rfl,fun _ _=>Nat.le_refl _,id⟩
theorem mat_le (h:Ok M D) (hS:SD T l D) {k:Nat} (hk:k < 7):(nd D l).mat.getD k 0≤(nd D l).log.length:=by
 have:=h.nl l hS.ld.1 hS.ld.2.1 k hk
 omega
theorem ch_del (h:Ok M D) (hM:M < 18446744073709551616) (hS:SD T l D) (hc:Ch T l D):Ch T l (delC D):=by
 cases hw:D.way with
 | nil=>rw [delC_nil hw];exact hc
 | cons m r=>
  have hmm:m ∈ D.way:=by rw [hw];exact List.mem_cons_self
  obtain ⟨d,hd,hdn,e,e1,e2,hs⟩:=del_parts h hw
  have h7:=h.n7
  have h200:=h.w200
  have hone:=one_led h hS.tb hS.all hS.ld hw hd hdn hM
  rw [last_id (by rw [hw] at h200;simp only [List.length_cons] at h200;rw [List.length_append];omega)] at e
  obtain ⟨g1,g2,_⟩:=lead_del h hS
  have hS':=sd_del h hS
  have ok':=ok_del h hM
  intro f hf hfl
  rw [del_n] at hf
  have hm':=mat_le ok' hS' (k:=f) (by omega)
  rw [g1] at hm' ⊢
  rcases hc f hf hfl with c | ⟨a,a1,a2⟩
  ·left
   have:=g2 f (by omega)
   omega
  ·rw [hw] at a1
   rcases List.mem_cons.1 a1 with rfl | a1
   ·rcases a2 with a2 | ⟨a2,a3,a4,a5⟩
    ·right
     have hmn:=put_meant h hf hS.ld.1 hfl a2
     have hdf:d=f:=by have:=a2.2.2.2;omega
     subst hdf
     have hid:=h.id hdn
     have hst:=step_of hmn
     have hxt:=hS.all d hdn
     rw [fresh_le (by have:=a2.2.1;omega),if_neg (by have:=a2.1;omega),if_neg (by have:=a2.1;omega),if_pos a2.1] at hst
     rw [e]
     by_cases ho:rl.termAt (nd D d).log a.index=(a.at_,true)
     ·rw [put_yes (a2.2.1.trans hxt.symm) ho] at hst
      rw [hst]
      exact ⟨_,List.mem_append_right _ (List.mem_singleton.2 rfl),.inr ⟨rfl,hxt,hid,a2.2.2.1⟩⟩
     ·rw [put_no (a2.2.1.trans hxt.symm) ho] at hst
      rw [hst]
      exact ⟨_,List.mem_append_right _ (List.mem_singleton.2 rfl),.inr ⟨rfl,hxt,hid,a2.2.2.1⟩⟩
    ·have hdl:d=l:=by omega
     subst hdl
     have hid:=h.id hdn
     have hmany:=h.many hdn
     have hxt:=hS.all d hdn
     have hmn:rf.meant (nd D d) a=true:=by
      unfold rf.meant
      simp only [Bool.and_eq_true,decide_eq_true_eq]
      omega
     have c4:rf.step (nd D d) a=rf.heard (nd D d) a:=by
      rw [step_of hmn,fresh_le (by omega),if_neg (by omega),if_neg (by omega),if_neg (by omega)]
     obtain ⟨f',f1,f2,f3,f4,f5,f6,f7⟩:=heard_parts h hS hmn a3
     have hff:f'=f:=by omega
     subst hff
     rw [e,e1,c4]
     rcases f7 with f7 | ⟨Y,f7⟩
     ·exact .inl f7
     ·right
      rw [f7]
      exact ⟨_,List.mem_append_right _ (List.mem_singleton.2 rfl),.inl ⟨rfl,hS.ld.2.2,hid,rfl⟩⟩
   ·exact .inr ⟨a,by rw [e];exact List.mem_append_left _ a1,a2⟩
theorem ch_dels (h:Ok M D) (hM:M < 18446744073709551616) (hS:SD T l D) (hc:Ch T l D):∀ j,SD T l (delsC j D)∧Ch T l (delsC j D)∧(nd (delsC j D) l).log=(nd D l).log∧(Closed (nd D l)→Closed (nd (delsC j D) l))
 | 0=>⟨hS,hc,rfl,id⟩
 | j + 1=>by
  obtain ⟨a,b,c,d⟩:=ch_dels h hM hS hc j
  have oj:=ok_dels h hM j
  obtain ⟨e1,_,e3⟩:=lead_del oj a
  exact ⟨sd_del oj a,ch_del oj hM a b,e1.trans c,fun hh=>e3 (d hh)⟩
theorem sd_dels (h:Ok M D) (hM:M < 18446744073709551616) (hS:SD T l D):∀ j,SD T l (delsC j D)∧(nd (delsC j D) l).log=(nd D l).log
 | 0=>⟨hS,rfl⟩
 | j + 1=>by
  obtain ⟨a,c⟩:=sd_dels h hM hS j
  have oj:=ok_dels h hM j
  exact ⟨sd_del oj a,(lead_del oj a).1.trans c⟩
theorem phi_dels {p:Nat} (h:Ok M D) (hM:M < 18446744073709551616) (hS:SD T l D) (hp:(nd D l).log.length=p) (hp2:p≤200):∀ j,(delsC j D).way=[]∨phi T l p (delsC j D) + j≤phi T l p D
 | 0=>.inr (Nat.le_refl _)
 | j + 1=>by
  have oj:=ok_dels h hM j
  obtain ⟨sj,lj⟩:=sd_dels h hM hS j
  rcases phi_dels h hM hS hp hp2 j with c | c
  ·left
   show (delC (delsC j D)).way=[]
   rw [delC_nil c];exact c
  ·by_cases hw:(delsC j D).way=[]
   ·left
    show (delC (delsC j D)).way=[]
    rw [delC_nil hw];exact hw
   ·right
    have:=(less oj hM sj (by rw [lj];exact hp) hp2 hw).phi
    show phi T l p (delC (delsC j D)) + (j + 1)≤_
    omega
theorem ch_empty (h:Ok M D) (hS:SD T l D) (hc:Ch T l D) (hw:D.way=[]):(∀ f,f < D.n→f ≠ l→(nd D l).mat.getD f 0=(nd D l).log.length)∧∀ p,phi T l p D=0:=by
 have h7:=h.n7
 have ha:∀ f,f < D.n→f ≠ l→(nd D l).mat.getD f 0=(nd D l).log.length:=fun f hf hfl=>by
  rcases hc f hf hfl with c | ⟨m,hm,_⟩
  ·exact c
  ·rw [hw] at hm;cases hm
 refine ⟨ha,fun p=>?_⟩
 unfold phi
 rw [hw]
 have hb:back D.n (nd D l)≤D.n * 0:=by
  refine sum_cap _ 0 D.n fun f hf=>?_
  have hid:=h.id hS.ld.1
  unfold backOf
  split
  ·exact Nat.le_refl _
  ·rename_i hne
   have:=h.nl l hS.ld.1 hS.ld.2.1 f (by omega)
   have:=ha f hf (fun e=>hne (by rw [hid,e]))
   omega
 show 0 + 2 * back D.n (nd D l)=0
 omega
end
end cl
end Go.Proofs.YtmcibggjolckoaaGreatDoor
namespace Go.Proofs.YtmcibggjolckoaaGreatDoor
namespace cl
open rl (Ent e0)
set_option maxRecDepth 100000
def psi (T l p:Nat) (D:Clu):Nat:=phi T l p D + 30 * (nd D l).idle.toNat
section
variable {M T l p:Nat} {C:Clu}
theorem S.sd (hS:S T l C):SD T l C:=⟨hS.tb,hS.all,hS.ld⟩
theorem ticks_one (hl:l < C.n) (h200:C.way.length≤200) (ho:∀ i,i < C.n→i ≠ l→(rf.tick (nd C i)).2=[]):∀ j,j≤C.n→(ticksC j C).way=if j≤l then C.way else last (C.way ++ (rf.tick (nd C l)).2)
 | 0,_=>by rw [if_pos (Nat.zero_le _)];rfl
 | j + 1,hj=>by
  have ih:=ticks_one hl h200 ho j (by omega)
  have hn:nd (ticksC j C) j=nd C j:=by rw [ticks_nd,if_neg (Nat.lt_irrefl _)]
  have e:(ticksC (j + 1) C).way=last ((ticksC j C).way ++ (rf.tick (nd C j)).2):=by
   show last ((ticksC j C).way ++ (rf.tick (nd (ticksC j C) j)).2)=_
   rw [hn]
  rw [e,ih]
  by_cases hjl:j=l
  ·subst hjl
   rw [if_pos (Nat.le_refl _),if_neg (by omega)]
  ·rw [ho j (by omega) hjl,List.append_nil]
   by_cases h2:j≤l
   ·rw [if_pos h2,if_pos (by omega)]
    exact last_id h200
   ·rw [if_neg h2,if_neg (by omega)]
    exact last_id (last_le _)
theorem tickd_lead (hl:Leads T C l):∃ v,nd (ticksC C.n C) l={ nd C l with idle:=v }∧v=if 3≤(nd C l).idle + 1 then 0 else (nd C l).idle + 1:=by
 rw [tickd hl.1]
 unfold rf.tick
 rw [if_pos hl.2.1]
 split
 ·exact ⟨_,rfl,rfl⟩
 ·exact ⟨_,rfl,rfl⟩
theorem s_ticks (h:Ok M C) (h2:2≤C.n) (h5:C.n≤5) (hM:M + C.n < 18446744073709551616) (hS:S T l C) (hp2:p≤200) :
  SD T l (ticksC C.n C)∧(3≤(nd C l).idle + 1∨Ch T l C→Ch T l (ticksC C.n C))∧phi T l p (ticksC C.n C)≤phi T l p C + (if 3≤(nd C l).idle + 1 then 88 else 0):=by
 have hq:=hS.quiet h
 have h7:=h.n7
 have h200:=h.w200
 have hall:=hS.all
 have hl:=hS.ld
 have hln:=hl.1
 have hlid:=h.id hln
 have hno:∀ i,i < C.n→i ≠ l→(nd C i).role ≠ 2:=fun i hi hne hr=>hne (leads_one h ⟨hi,hr,hall i hi⟩ hl)
 have hto:∀ i,i < C.n→i ≠ l→rf.tick (nd C i)=({ nd C i with idle:=(nd C i).idle + 1 },[]):=fun i hi hne=>by
  have:=h.id hi
  rw [tick_eq (h.many hi) h2 (by omega) (by omega),if_neg (hno i hi hne),if_neg (hq i hi)]
 have hway:=ticks_one hln h200 (fun i hi hne=>by rw [hto i hi hne]) C.n (Nat.le_refl _)
 rw [if_neg (by omega)] at hway
 obtain ⟨v,ev,hv⟩:=tickd_lead hl
 have hlog:∀ i,(nd (ticksC C.n C) i).log=(nd C i).log:=fun i=>by
  by_cases hi:i < C.n
  ·by_cases hne:i=l
   ·subst hne;rw [ev]
   ·rw [tickd hi,hto i hi hne]
  ·rw [ticks_nd,if_neg hi]
 have hb1:=tb_ticks h h2 hM hS.tb fun i hi hs=>absurd hs (hq i hi)
 have ha1:All T (ticksC C.n C):=fun i hi=>by
  rw [ticks_n] at hi
  rw [tickd_term h h2 hM hi,if_neg (hq i hi)]
  exact hall i hi
 have hback:back (ticksC C.n C).n (nd (ticksC C.n C) l)=back C.n (nd C l):=by
  rw [ticks_n,ev]
  rfl
 have hpots:∀ w,pots T p (ticksC C.n C) w=pots T p C w:=fun w=>by
  unfold pots
  congr 1
  apply List.map_congr_left
  intro a _
  exact pot_same (hlog _)
 by_cases hbt:3≤(nd C l).idle + 1
 ·have hout:(rf.tick (nd C l)).2=rf.puts { nd C l with idle:=0 }:=by
   unfold rf.tick
   rw [if_pos hl.2.1,if_pos hbt]
  have hlen:(rf.puts { nd C l with idle:=0 }).length≤4:=by
   have:=others_len (nd C l) hlid (by rw [h.size hln];exact hln)
   rw [h.size hln] at this
   rw [puts_len2]
   show (rf.others (nd C l)).length≤4
   omega
  rw [hout] at hway
  obtain ⟨k,ek⟩:=last_app (a:=C.way) (b:=rf.puts { nd C l with idle:=0 }) (by omega)
  rw [ek] at hway
  refine ⟨⟨hb1,ha1,(leads_ticks hl).1⟩,fun _ f hf hfl=>.inr ?_,?_⟩
  ·rw [ticks_n] at hf
   rw [hway]
   exact ⟨_,List.mem_append_right _ (mem_puts (x:={ nd C l with idle:=0 }) (j:=f) (by have:=h.size hln;show f < rf.size (nd C l);omega) (by show (f:Int) ≠ (nd C l).id;omega)),.inl ⟨rfl,hl.2.2,hlid,rfl⟩⟩
  ·unfold phi
   rw [hway,hback,pots_append,hpots,hpots,if_pos hbt]
   have:=pots_drop T p C C.way k
   have:=(pots_bound (T:=T) hp2 C (rf.puts { nd C l with idle:=0 })).2
   omega
 ·have hout:(rf.tick (nd C l)).2=[]:=by
   unfold rf.tick
   rw [if_pos hl.2.1,if_neg hbt]
  rw [hout,List.append_nil,last_id h200] at hway
  refine ⟨⟨hb1,ha1,(leads_ticks hl).1⟩,fun hc f hf hfl=>?_,?_⟩
  ·rw [ticks_n] at hf
   rcases hc with hc | hc
   ·exact absurd hc hbt
   ·rw [hway,ev]
    exact hc f hf hfl
  ·unfold phi
   rw [hway,hback,hpots,if_neg hbt]
   exact Nat.le_refl _
structure SR (T l p:Nat) (C C':Clu):Prop where
 s:S T l C'
 log:(nd C' l).log=(nd C l).log
 cls:Closed (nd C l)→Closed (nd C' l)
 ch:3≤(nd C l).idle + 1∨Ch T l C→Ch T l C'
 psi:Ch T l C'→(C'.way=[]∧psi T l p C'≤60)∨psi T l p C' + 470≤psi T l p C
 idle:(nd C' l).idle=if 3≤(nd C l).idle + 1 then 0 else (nd C l).idle + 1
 mat:∀ k,k < 7→(nd C l).mat.getD k 0≤(nd C' l).mat.getD k 0
theorem mat_dels (h:Ok M C) (hM:M < 18446744073709551616) (hS:SD T l C):∀ j k,k < 7→(nd C l).mat.getD k 0≤(nd (delsC j C) l).mat.getD k 0
 | 0,_,_=>Nat.le_refl _
 | j + 1,k,hk=>Nat.le_trans (mat_dels h hM hS j k hk) ((lead_del (ok_dels h hM j) (sd_dels h hM hS j).1).2.1 k hk)
theorem cls_dels (h:Ok M C) (hM:M < 18446744073709551616) (hS:SD T l C) (hc:Closed (nd C l)):∀ j,Closed (nd (delsC j C) l)
 | 0=>hc
 | j + 1=>(lead_del (ok_dels h hM j) (sd_dels h hM hS j).1).2.2 (cls_dels h hM hS hc j)
theorem sr_round (h:Ok M C) (h2:2≤C.n) (h5:C.n≤5) (hM:M + C.n < 18446744073709551616) (hn:NoAV C) (hS:S T l C) (hp:(nd C l).log.length=p) (hp2:p≤200):SR T l p C (roundC C):=by
 obtain ⟨s1,s2⟩:=s_round h h2 hM hn hS
 obtain ⟨t1,t2,t3⟩:=s_ticks (p:=p) h h2 h5 hM hS hp2
 have ho1:=ok_ticks h C.n (Nat.le_refl _) hM
 obtain ⟨v,ev,hv⟩:=tickd_lead hS.ld
 have hlog1:(nd (ticksC C.n C) l).log=(nd C l).log:=by rw [ev]
 obtain ⟨sd5,lg5⟩:=sd_dels ho1 hM t1 500
 have hi:=(h.nx l hS.ld.1).i0
 have hi2:=(h.nx l hS.ld.1).i2 hS.ld.2.1
 refine ⟨s1,lg5.trans hlog1,fun hc=>cls_dels ho1 hM t1 (by rw [ev];exact closed_congr hc rfl rfl rfl rfl rfl) 500,fun hc=>(ch_dels ho1 hM t1 (t2 hc) 500).2.1,fun hc=>?_,s2,fun k hk=>?_⟩
 ·have hor:=ok_round h hM
  rcases phi_dels ho1 hM t1 (by rw [hlog1];exact hp) hp2 500 with c | c
  ·left
   have:=(ch_empty hor s1.sd hc c).2 p
   refine ⟨c,?_⟩
   unfold psi
   rw [this,s2]
   split <;> omega
  ·right
   have c:phi T l p (roundC C) + 500≤phi T l p (ticksC C.n C):=c
   unfold psi
   rw [s2]
   split at t3
   ·rename_i hb
    rw [if_pos hb]
    omega
   ·rename_i hb
    rw [if_neg hb]
    omega
 ·have:=mat_dels ho1 hM t1 500 k hk
  rw [ev] at this
  exact this
theorem s_run (h:Ok M C) (h2:2≤C.n) (h5:C.n≤5) (hn:NoAV C) (hS:S T l C) (hc:Ch T l C) (hp:(nd C l).log.length=p) (hp2:p≤200):∀ k,M + k * C.n < 18446744073709551616→S T l (rnd k C)∧Ch T l (rnd k C)∧(nd (rnd k C) l).log=(nd C l).log∧(Closed (nd C l)→Closed (nd (rnd k C) l))∧(∀ j,j < 7→(nd C l).mat.getD j 0≤(nd (rnd k C) l).mat.getD j 0)∧(((rnd k C).way=[]∧psi T l p (rnd k C)≤60)∨psi T l p (rnd k C) + 470 * k≤psi T l p C)
 | 0,_=>⟨hS,hc,rfl,id,fun _ _=>Nat.le_refl _,.inr (Nat.le_refl _)⟩
 | k + 1,hM=>by
  rw [Nat.succ_mul] at hM
  obtain ⟨a1,a2,a3,a4,a5,a6⟩:=s_run h h2 h5 hn hS hc hp hp2 k (by omega)
  have ok:=ok_rnd h k (by omega)
  have en:=rnd_n C k
  have r:=sr_round ok (by rw [en];exact h2) (by rw [en];exact h5) (by rw [en];omega) (nav_rnd h hn k (by omega)) a1 (by rw [a3];exact hp) hp2
  have hc':=r.ch (.inr a2)
  refine ⟨r.s,hc',r.log.trans a3,fun hh=>r.cls (a4 hh),fun j hj=>Nat.le_trans (a5 j hj) (r.mat j hj),?_⟩
  rcases r.psi hc' with c | c
  ·exact .inl c
  ·rcases a6 with a6 | a6
   ·omega
   ·right
    show psi T l p (roundC (rnd k C)) + 470 * (k + 1)≤_
    omega
theorem termAt_app (a:Log) (e:Ent) {i:Nat} (h:i≤a.length):rl.termAt (a ++ [e]) i=rl.termAt a i:=by
 have:=ag_termAt (ag_append a [e] |>.le h)
 rw [this]
 by_cases h0:i=0
 ·subst h0;rfl
 ·rw [termAt_tm h0 h]
theorem propose_eq {x:rf.Node} {text:List UInt8} (hr:x.role=2) (h0:0≤x.id) (h7:x.id < 7) (ht:text.length≤100):rf.propose x text=((rf.add x text).1,(rf.add x text).2,x.log.length + 1,0):=by
 unfold rf.propose
 rw [if_neg (by omega),if_neg (by omega)]
def propC (l:Nat) (text:List UInt8) (C:Clu):Clu:=changed C l (rf.propose (nd C l) text).1 (rf.propose (nd C l) text).2.1
structure Prop1 (M T l p:Nat) (text:List UInt8) (C C':Clu):Prop where
 ok:Ok (M + 1) C'
 n:C'.n=C.n
 nav:NoAV C'
 s:S T l C'
 ch:Ch T l C'
 cls:Closed (nd C' l)
 log:(nd C' l).log=(nd C l).log ++ [(T,text)]
 phi:phi T l (p + 1) C'≤phi T l p C + 2 * C.way.length + 88
 idle:(nd C' l).idle=(nd C l).idle
 mat:(nd C' l).mat.getD l 0=p + 1
theorem prop_any (h:Ok M C) (h2:2≤C.n) (h5:C.n≤5) (hM:M + 1 < 18446744073709551616) (hn:NoAV C) (hS:S T l C) (hp:(nd C l).log.length=p) (hp2:p + 1≤200) (text:List UInt8) (htx:text.length≤100):Prop1 M T l p text C (propC l text C):=by
 have hl:=hS.ld
 have hln:=hl.1
 have hid:=h.id hln
 have h7:=h.n7
 have h200:=h.w200
 have hm7:=h.mat7 hln
 have hn7:=(h.nx l hln).n7
 have ep:=propose_eq (x:=nd C l) (text:=text) hl.2.1 (by omega) (by omega) htx
 obtain ⟨a1,a2,a3,a4,a5,a6,a7,a8,a9,_⟩:=add_parts (nd C l) text
 have ao:=add_out (nd C l) text
 obtain ⟨Y,hY⟩:∃ Y,(rf.add (nd C l) text).1=Y:=⟨_,rfl⟩
 have hcl:Closed Y:=by rw [← hY];exact closed_tally _
 rw [hY] at a1 a2 a3 a4 a5 a6 a7 a8 a9 ao
 have eC:propC l text C=changed C l Y (rf.puts Y):=by
  unfold propC
  rw [ep]
  show changed C l (rf.add (nd C l) text).1 (rf.add (nd C l) text).2=_
  rw [ao,hY]
 have hlim:=propose_lim (M:=M) (K:=M) (x:=nd C l) (by omega) (h.lim.up l hln (h.up l hln)) htx
 rw [ep] at hlim
 have hnx:=(h.nx l hln)
 have hok:Ok (M + 1) (propC l text C):=by
  rw [eC]
  refine ok_changed (r:=(Y,rf.puts Y)) (w:=C.way) h (fun m hm=>hm) hln (Nat.le_succ M) ⟨?_,?_⟩ (hnx.with (by rw [a8,List.length_set]) a1 (.inl a5) fun _=>.inl hl.2.1) ?_ fun g hI=>?_
  ·have:=hlim.1
   rw [hY] at this
   exact this.mono (Nat.le_refl _) (Nat.le_succ _)
  ·intro m hm
   have:=hlim.2 m (by show m ∈ (rf.add (nd C l) text).2;rw [ao];exact hm)
   exact this.mono (Nat.le_refl _) (Nat.le_succ _)
  ·have:=nl_add (h.nl l hln) hnx hm7 (by omega) hl.2.1 text
   rw [hY] at this
   exact this
  ·have hon:Onward C (changed C l (rf.propose (nd C l) text).1 (rf.propose (nd C l) text).2.1):=onward_propose (text:=text) h7 hln (h.up l hln) .ok
   obtain ⟨g',h1,_⟩:=hon.2 g hI
   have e2:changed C l (rf.propose (nd C l) text).1 (rf.propose (nd C l) text).2.1=changed C l Y (rf.puts Y):=eC
   rw [e2] at h1
   exact ⟨g',h1⟩
 have hlen:(rf.puts Y).length≤4:=by
  have:=others_len Y (a1.trans hid) (by rw [size_eq (a2.trans (h.many hln)) h7];exact hln)
  rw [size_eq (a2.trans (h.many hln)) h7] at this
  rw [puts_len2]
  omega
 rw [eC] at hok ⊢
 have hnd:nd (changed C l Y (rf.puts Y)) l=Y:=nd_same _ _ _ _
 have hot:∀ j,j ≠ l→nd (changed C l Y (rf.puts Y)) j=nd C j:=fun j hj=>nd_other _ _ _ hj
 have hway:(changed C l Y (rf.puts Y)).way=last (C.way ++ rf.puts Y):=rfl
 obtain ⟨k,ek⟩:=last_app (a:=C.way) (b:=rf.puts Y) (by omega)
 rw [ek] at hway
 have hYT:Y.term=T:=a4.trans hl.2.2
 have hld:Leads T (changed C l Y (rf.puts Y)) l:=⟨hln,by rw [hnd];exact a3.trans hl.2.1,by rw [hnd];exact hYT⟩
 have hother:∀ i,Leads T C i→Leads T (changed C l Y (rf.puts Y)) i:=fun i hi=>by
  rw [leads_one h hi hl];exact hld
 refine ⟨hok,rfl,fun m hm=>?_,⟨⟨fun i hi=>?_,fun m hm=>?_,fun m hm hk ht=>?_⟩,hld,fun x hx hne=>?_⟩,fun f hf hfl=>.inr ?_,by rw [hnd];exact hcl,by rw [hnd,a7,hl.2.2],?_,by rw [hnd];exact a5,?_⟩
 ·rw [hway] at hm
  rcases List.mem_append.1 hm with hm | hm
  ·exact hn m (List.mem_of_mem_drop hm)
  ·obtain ⟨j,_,_,rfl⟩:=puts_mem hm
   exact ⟨(by decide:(3:Int) ≠ 1),(by decide:(3:Int) ≠ 2)⟩
 ·by_cases hil:i=l
  ·subst hil;rw [hnd];omega
  ·rw [hot i hil];exact hS.tb.nd i hi
 ·rw [hway] at hm
  rcases List.mem_append.1 hm with hm | hm
  ·exact hS.tb.ms m (List.mem_of_mem_drop hm)
  ·obtain ⟨j,_,_,rfl⟩:=puts_mem hm
   show Y.term≤T
   omega
 ·rw [hway] at hm
  rcases List.mem_append.1 hm with hm | hm
  ·obtain ⟨i,i1,i2⟩:=hS.tb.pt m (List.mem_of_mem_drop hm) hk ht
   exact ⟨i,i1,hother i i2⟩
  ·obtain ⟨j,_,_,rfl⟩:=puts_mem hm
   exact ⟨l,a1.trans hid,hld⟩
 ·unfold Zed
  rw [hot x hne,hnd,a5]
  exact hS.zd x hx hne
 ·rw [hway]
  exact ⟨_,List.mem_append_right _ (mem_puts (x:=Y) (j:=f) (by rw [size_eq (a2.trans (h.many hln)) h7];exact hf) (by have:=a1.trans hid;omega)),.inl ⟨rfl,hYT,a1.trans hid,rfl⟩⟩
 ·unfold cl.phi
  have hb:back C.n Y≤back C.n (nd C l):=by
   refine sum_le _ _ _ fun f hf=>?_
   unfold backOf
   rw [a1,a8,a9,hid,Int.toNat_natCast,getD_set _ _ _ _ _ (by omega),getD_set _ _ _ _ _ (by omega)]
   by_cases hfl:f=l
   ·subst hfl;rw [if_pos rfl,if_pos rfl];exact Nat.le_refl _
   ·rw [if_neg hfl,if_neg hfl];exact Nat.le_refl _
  have hpot:∀ a ∈ C.way,pot T (p + 1) (changed C l Y (rf.puts Y)) a≤pot T p C a + 2:=fun a ha=>by
   have kk1:∀ i,kk (p + 1) i≤kk p i + 1:=fun i=>by unfold kk;omega
   by_cases k1:a.kind=1
   ·unfold pot;rw [if_pos k1,if_pos k1];omega
   ·by_cases k3:a.kind=3
    ·by_cases hokp:a.term=T∧okp (nd C a.dst.toNat).log a
     ·have hokp':okp (nd (changed C l Y (rf.puts Y)) a.dst.toNat).log a:=by
       by_cases hdl:a.dst.toNat=l
       ·rw [hdl,hnd,a7]
        have:=hokp.2
        rw [hdl] at this
        unfold okp at this ⊢
        have hle:a.index≤(nd C l).log.length:=by
         have:=(put_says h hS.sd ha k3 hokp.1).2.1.1
         omega
        rw [termAt_app _ _ hle]
        exact this
       ·rw [hot _ hdl];exact hokp.2
      have:=kk1 (a.index + a.ents.length)
      unfold pot
      rw [if_neg k1,if_pos k3,if_pos ⟨hokp.1,hokp'⟩,if_neg k1,if_pos k3,if_pos hokp]
      omega
     ·have e:pot T p C a=22:=by unfold pot;rw [if_neg k1,if_pos k3,if_neg hokp]
      have:=pot_le (T:=T) hp2 (changed C l Y (rf.puts Y)) a
      omega
    ·have:=kk1 a.index
     unfold pot
     rw [if_neg k1,if_neg k3,if_neg k1,if_neg k3]
     split
     ·split <;> omega
     ·omega
  have hsum:∀ w:List rf.Msg,(∀ a ∈ w,a ∈ C.way)→pots T (p + 1) (changed C l Y (rf.puts Y)) w≤pots T p C w + 2 * w.length:=by
   intro w hw
   induction w with
   | nil=>exact Nat.le_refl _
   | cons a r ih=>
    have ih:=ih fun b hb=>hw b (List.mem_cons_of_mem _ hb)
    have:=hpot a (hw a List.mem_cons_self)
    rw [pots_cons,pots_cons,List.length_cons]
    omega
  have e1:=hsum (C.way.drop k) fun a ha=>List.mem_of_mem_drop ha
  have e2:=(pots_bound (T:=T) hp2 (changed C l Y (rf.puts Y)) (rf.puts Y)).2
  have e3:=pots_drop T p C C.way k
  have e4:(C.way.drop k).length≤C.way.length:=by rw [List.length_drop];omega
  rw [hway,pots_append,hnd]
  show _ + 2 * back C.n Y≤_
  omega
 ·rw [hnd,a9,hid,Int.toNat_natCast,getD_set _ _ _ _ _ (by omega),if_pos rfl,hp]
end
end cl
end Go.Proofs.YtmcibggjolckoaaGreatDoor
