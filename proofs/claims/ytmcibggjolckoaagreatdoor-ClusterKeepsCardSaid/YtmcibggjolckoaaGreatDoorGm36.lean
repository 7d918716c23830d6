/- KlCalm, KlKeeps: one behind the other. -/
import Derived.Test.YtmcibggjolckoaaGreatDoorGm33
import Derived.Test.YtmcibggjolckoaaGreatDoorGm35
import Derived.Deep.DeepCutAuto
namespace Go.Proofs.YtmcibggjolckoaaGreatDoor
open Go Go.RowKit Go.Deep
set_option maxRecDepth 100000
structure Mend (P:Nat→Prop) (b B:Nat) (w0:World) (c n M:Nat) (bs:Nat→Nat) (q:Nat) (C:cl.Clu) (g:cl.Gh) (w:World):Prop where
 cn:C.n=n
 lim:cl.Lim M M C
 inv:cl.Inv C g
 w200:C.way.length≤200
 ext:cl.Ext b C
 up:∀ i,i < q→(C.p i).up=true
 at_:∃ R k F wv,CluAt B w0 w c R C F k wv∧(∀ i,i < n→(F i).b=bs i)∧∀ i,i < n→P i→(F i).d.left=0
structure Cs (B:Nat) (w0:World) (c n M:Nat) (bs:Nat→Nat) (C:cl.Clu) (g:cl.Gh) (w:World):Prop where
 cn:C.n=n
 lim:cl.Lim M M C
 inv:cl.Inv C g
 w200:C.way.length≤200
 up:∀ i,i < n→(C.p i).up=true
 at_:∃ R k F wv,CluAt B w0 w c R C F k wv∧(∀ i,i < n→(F i).b=bs i)∧∀ i,i < n→(F i).d.left=0
def CsN (B:Nat) (w0:World) (c n M:Nat) (bs:Nat→Nat) (C:cl.Clu) (g:cl.Gh) (w:World) (C':cl.Clu) (w':World):Prop:=
 ∃ g',Cs B w0 c n M bs C' g' w'∧cl.Le C.sts g C'.sts g'∧Stay (bsF bs) n w w'
section
variable {P:Nat→Prop} {b B:Nat} {w0:World} {c n M q:Nat} {bs:Nat→Nat} {C:cl.Clu} {g:cl.Gh} {w:World}
theorem Sy.mend (h:Sy (cl.Ext b) B w0 c n M bs C g w):Mend (fun i=>i < 0) b B w0 c n M bs 0 C g w:=by
 obtain ⟨R,k,F,wv,h1,h2⟩:=h.s.at_
 exact ⟨h.s.cn,h.s.lim,h.s.inv,h.s.w200,h.ext,fun i hi=>absurd hi (Nat.not_lt_zero _),R,k,F,wv,h1,h2,fun i _ hi=>absurd hi (Nat.not_lt_zero _)⟩
theorem mend_fuse (h:Mend (fun i=>i < q) b B w0 c n M bs q C g w) (hq:q < n) :
  Calls Tryz.prog 21 #[cptr c,.int .i64 (q:Int),.int .i64 0,.int .i64 0] w fun e w'=>∃ z:Int,e=.returned (.int .i64 z)∧Mend (fun i=>i < q∨i=q∧(C.p q).up=true) b B w0 c n M bs q C g w'∧Stay (bsF bs) n w w':=by
 obtain ⟨R,k,F,wv,h1,hF,hL⟩:=h.at_
 have hi':q < C.n:=by rw [h.cn];exact hq
 cases hu:(C.p q).up with
 | true=>
  refine (fuse_up 0 0 h1 hi' hu (by decide)).mono ?_
  rintro e w' ⟨rfl,hf⟩
  have h3:=hf.2
  rw [h.cn] at h3
  refine ⟨0,rfl,⟨h.cn,h.lim,h.inv,h.w200,h.ext,h.up,R,k,_,wv,hf.1,upd_b hF rfl,fun i hi hp=>?_⟩,Sys.stay hF h3⟩
  by_cases hiq:i=q
  ·subst hiq;rw [cl.upd_same];rfl
  ·rw [cl.upd_other _ _ hiq]
   rcases hp with hp | hp
   ·exact hL i hi hp
   ·exact absurd hp.1 hiq
 | false=>
  refine (fuse_no 0 0 h1 (fun fv w hw=>on_down fv hw hi' hu)).mono ?_
  rintro e w' ⟨rfl,hb'⟩
  refine ⟨6,rfl,⟨h.cn,h.lim,h.inv,h.w200,h.ext,h.up,R,k,F,wv,h1.later hb',hF,fun i hi hp=>?_⟩,Stay.of_below hb'⟩
  rcases hp with hp | hp
  ·exact hL i hi hp
  ·exact absurd hp.2 (by decide)
theorem mend_start (h:Mend (fun i=>i < q∨i=q∧(C.p q).up=true) b B w0 c n M bs q C g w) (ht:TabAt w0) (hq:q < n) :
  Calls Tryz.prog 22 #[cptr c,.int .i64 (q:Int)] w fun e w'=>∃ z:Int,e=.returned (.int .i64 z)∧∃ C' g',Mend (fun i=>i < q + 1) b B w0 c n M bs (q + 1) C' g' w'∧cl.Le C.sts g C'.sts g'∧Stay (bsF bs) n w w':=by
 obtain ⟨R,k,F,wv,h1,hF,hL⟩:=h.at_
 have hi':q < C.n:=by rw [h.cn];exact hq
 cases hu:(C.p q).up with
 | true=>
  refine (start_up h1 hi' hu).mono ?_
  rintro e w' ⟨rfl,hb'⟩
  refine ⟨5,rfl,C,g,⟨h.cn,h.lim,h.inv,h.w200,h.ext,fun i hi=>?_,R,k,F,wv,h1.later hb',hF,fun i hi hp=>hL i hi ?_⟩,cl.Le.refl _ _,Stay.of_below hb'⟩
  ·by_cases hiq:i=q
   ·subst hiq;exact hu
   ·exact h.up i (by omega)
  ·by_cases hiq:i=q
   ·exact .inr ⟨hiq,hu⟩
   ·exact .inl (by omega)
 | false=>
  refine (start_yes h1 hi' hu ht).mono ?_
  rintro e w' ⟨rfl,F',h2,hfp,hl0,h3⟩
  obtain ⟨g',hI',hle⟩:=(cl.onward_start (C:=C) (i:=q)).2 g h.inv
  rw [h.cn] at h3
  refine ⟨0,rfl,cl.started C q,g',⟨h.cn,cl.lim_start h.lim hi',hI',h.w200,cl.ext_start h.ext hi' hu,fun i hi=>?_,R,k,F',wv,h2,fun j hj=>?_,fun i hi hp=>?_⟩,hle,Sys.stay hF h3⟩
  ·by_cases hiq:i=q
   ·subst hiq
    show (cl.upd C.p i _ i).up=true
    rw [cl.upd_same]
   ·show (cl.upd C.p q _ i).up=true
    rw [cl.upd_other _ _ hiq]
    exact h.up i (by omega)
  ·by_cases hji:j=q
   ·subst hji;rw [hfp.b];exact hF _ hj
   ·rw [hfp.other _ hji];exact hF _ hj
  ·by_cases hiq:i=q
   ·subst hiq;exact hl0
   ·rw [hfp.other _ hiq];exact hL i hi (.inl (by omega))
theorem Mend.maps (h:Mend P b B w0 c n M bs q C g w):∀ i,i < n→∃ M,FMap w ((bsF bs) i).b M:=by
 obtain ⟨R,k,F,wv,h1,h2,_⟩:=h.at_
 intro i hi
 obtain ⟨M,hM⟩:=h1.maps i (by rw [h.cn];exact hi)
 exact ⟨M,by show FMap w (bs i) M;rw [← h2 i hi];exact hM⟩
theorem Mend.cs (h:Mend (fun i=>i < n) b B w0 c n M bs n C g w):Cs B w0 c n M bs C g w:=by
 obtain ⟨R,k,F,wv,h1,h2,h3⟩:=h.at_
 exact ⟨h.cn,h.lim,h.inv,h.w200,h.up,R,k,F,wv,h1,h2,fun i hi=>h3 i hi hi⟩
theorem Cs.later {w':World} (h:Cs B w0 c n M bs C g w) (hb:Below w.heap.size w w'):Cs B w0 c n M bs C g w':=by
 obtain ⟨R,k,F,wv,h1,h2⟩:=h.at_
 exact ⟨h.cn,h.lim,h.inv,h.w200,h.up,R,k,F,wv,h1.later hb,h2⟩
theorem Cs.mono {M':Nat} (h:Cs B w0 c n M bs C g w) (hM:M≤M'):Cs B w0 c n M' bs C g w:=⟨h.cn,h.lim.mono hM hM,h.inv,h.w200,h.up,h.at_⟩
theorem Cs.maps (h:Cs B w0 c n M bs C g w):∀ i,i < n→∃ M,FMap w ((bsF bs) i).b M:=by
 obtain ⟨R,k,F,wv,h1,h2,_⟩:=h.at_
 intro i hi
 obtain ⟨M,hM⟩:=h1.maps i (by rw [h.cn];exact hi)
 exact ⟨M,by show FMap w (bs i) M;rw [← h2 i hi];exact hM⟩
theorem Cs.bel (h:Cs B w0 c n M bs C g w):Below w0.heap.size w0 w:=by
 obtain ⟨R,k,F,wv,h1,h2⟩:=h.at_
 exact h1.bel
theorem Cs.calm (h:Cs B w0 c n M bs C g w):Calm B w0 c n M C w:=by
 obtain ⟨R,k,F,wv,h1,h2,h3⟩:=h.at_
 exact ⟨h.cn,h.lim,⟨g,h.inv⟩,h.w200,R,k,F,wv,h1,h3⟩
theorem Cs.same {w':World} {M':Nat} (h:Cs B w0 c n M bs C g w) (hM:M≤M') (hb:Below w.heap.size w w'):CsN B w0 c n M' bs C g w C w':=⟨g,(h.mono hM).later hb,cl.Le.refl _ _,Stay.of_below hb⟩
theorem CsN.trans {M':Nat} {C1 C2:cl.Clu} {g1:cl.Gh} {w1 w2:World} (hl:cl.Le C.sts g C1.sts g1) (hs:Stay (bsF bs) n w w1) (h:CsN B w0 c n M' bs C1 g1 w1 C2 w2):CsN B w0 c n M' bs C g w C2 w2:=by
 obtain ⟨g2,k1,k2,k3⟩:=h
 exact ⟨g2,k1,hl.trans k2,hs.trans k3⟩
theorem turned_cs {C0:cl.Clu} {R k i:Nat} {F:Nat→Fp} {x:rf.Node} {ms:List rf.Msg} {z:Int} {M':Nat} {w':World} (hn:C.n=n) (hup:∀ i,i < n→(C.p i).up=true) (hF:∀ i,i < n→(F i).b=bs i) (hL0:∀ i,i < n→(F i).d.left=0) (hi:i < n) (hI:cl.Inv C0 g) (hL:cl.Lim M M C) (hM:M≤M')
  (hOn:∀ C',cl.After C i x ms C'→cl.Onward C0 C') (hb:cl.BothLim M' M' (x,ms)) (h:Turned B w0 c R C F k i x ms z w w'):z=0∧CsN B w0 c n M' bs C0 g w (cl.changed C i x ms) w':=by
 obtain ⟨C',F',wv',h1,⟨hfp,ho⟩,h3⟩:=h
 rcases ho with ⟨hz,e⟩ | ⟨_,hl,_⟩
 ·subst e
  obtain ⟨g',hI',hle⟩:=(hOn _ .ok).2 g hI
  rw [hn] at h3
  refine ⟨hz,g',⟨hn,cl.After.lim (r:=(x,ms)) .ok hL hM hM hb,hI',last_len _,fun j hj=>?_,R,k,F',wv',h1,fun j hj=>?_,fun j hj=>?_⟩,hle,Sys.stay hF h3⟩
  ·show (cl.upd C.p i _ j).up=true
   by_cases hji:j=i
   ·subst hji;rw [cl.upd_same]
   ·rw [cl.upd_other _ _ hji];exact hup j hj
  ·by_cases hji:j=i
   ·subst hji;rw [hfp.b];exact hF _ hj
   ·rw [hfp.other _ hji];exact hF _ hj
  ·by_cases hji:j=i
   ·subst hji;exact hfp.left (hL0 _ hj)
   ·rw [hfp.other _ hji];exact hL0 _ hj
 ·exact absurd (hL0 i hi) hl
theorem Cs.ready (h:Cs B w0 c n M bs C g w) (hb:Bd B M) {i:Nat} (hi:i < n):Ready M M B C i:=h.calm.ready hb hi (h.up i hi)
theorem cs_tick {i:Nat} (h:Cs B w0 c n M bs C g w) (hb:Bd B M) (ht:TabAt w0) (hi:i < n) :
  Calls Tryz.prog 26 #[cptr c,.int .i64 (i:Int)] w fun e w'=>e=.returned (.int .i64 0)∧CsN B w0 c n (M + 1) bs C g w (cl.tickC i C) w':=by
 obtain ⟨R,k,F,wv,h1,hF,hL⟩:=h.at_
 have hi':i < C.n:=by rw [h.cn];exact hi
 have rd:=h.ready hb hi
 refine (tick_up h1 rd ht).mono ?_
 rintro e w' ⟨z,rfl,hT⟩
 have hid:=rd.id
 have h7:=h1.n7
 obtain ⟨rfl,h2⟩:=turned_cs h.cn h.up hF hL hi h.inv h.lim (Nat.le_succ M) (fun C' hA=>cl.onward_tick h.lim rd.hK h7 hi' (h.up i hi) hA) (cl.tick_lim rd.hK rd.lim (by omega) (by omega)) hT
 exact ⟨rfl,h2⟩
theorem cs_deliver {m:rf.Msg} {r:List rf.Msg} (h:Cs B w0 c n M bs C g w) (hb:Bd B M) (ht:TabAt w0) (hm:C.way=m :: r) :
  Calls Tryz.prog 30 #[cptr c,.int .i64 0] w fun e w'=>e=.returned (.int .i64 0)∧CsN B w0 c n M bs C g w (cl.delC C) w':=by
 obtain ⟨R,k,F,wv,h1,hF,hL⟩:=h.at_
 have hm0:C.way[0]?=some m:=by rw [hm];rfl
 have hmem:m ∈ C.way:=List.mem_of_getElem? hm0
 obtain ⟨_,d,_,hd,_,hdn,_⟩:=(h.inv.way m hmem).dom
 have hoff:cl.off C.way 0=r:=by unfold cl.off;rw [hm];rfl
 have hwe:∀ y ∈ r,y ∈ C.way:=fun y hy=>by rw [hm];exact List.mem_cons_of_mem _ hy
 have hdn2:d < n:=by rw [← h.cn];exact hdn
 have rd:=h.ready hb hdn2
 have hml:=h.lim.way m hmem
 have hdel:=deliver_up (j:=0) h1 hm0 hd rd ht hml
 rw [hoff] at hdel
 refine hdel.mono ?_
 rintro e w' ⟨z,rfl,hT⟩
 obtain ⟨rfl,h2⟩:=turned_cs (C:={ C with way:=r }) h.cn h.up hF hL hdn2 h.inv (cl.lim_way h.lim hwe) (Nat.le_refl M) (fun C' hA=>cl.onward_step h1.n7 hdn (h.up d hdn2) hmem hwe hA) (cl.step_lim (by have:=hb.1;omega) rd.lim hml) hT
 refine ⟨rfl,?_⟩
 rw [cl.delC_cons hm,hd,Int.toNat_natCast]
 exact h2
theorem dels_stop {C:cl.Clu} {j:Nat} (h:(cl.delsC j C).way=[]):∀ d,cl.delsC (j + d) C=cl.delsC j C
 | 0=>rfl
 | d + 1=>by
  show cl.delC (cl.delsC (j + d) C)=_
  rw [dels_stop h d,cl.delC_nil h]
theorem cs_round (h:Cs B w0 c n M bs C g w) (hb:Bd B (M + n)) (ht:TabAt w0) :
  Calls Tryz.prog 12 #[cptr c] w fun e w'=>e=.returned (.tuple #[])∧CsN B w0 c n (M + n) bs C g w (cl.roundC C) w':=by
 obtain ⟨R,k,F,wv,h1,hF,hL⟩:=h.at_
 have c0:=h1.c0
 rw [h.cn] at c0
 have h7:=h1.n7
 rw [h.cn] at h7
 have hbm:∀ j,j≤n→Bd B (M + j):=fun j hj=>⟨by have:=hb.1;omega,by have:=hb.2;have:206 * (M + j + 2)≤206 * (M + n + 2):=Nat.mul_le_mul_left _ (by omega);omega⟩
 refine round_any (fun j w'=>CsN B w0 c n (M + j) bs C g w (cl.ticksC j C) w') (fun j w'=>CsN B w0 c n (M + n) bs C g w (cl.delsC j (cl.ticksC n C)) w') (fun w'=>CsN B w0 c n (M + n) bs C g w (cl.roundC C) w') h7 c0 (h.same (Nat.le_refl _) (Below.refl _ _)) (fun j w1 hj hT=>?_) (fun _ hT=>hT) (fun j w1 hj hT=>?_) (fun w1 hT=>by unfold cl.roundC;rw [h.cn];exact hT)
 ·obtain ⟨g1,s1,l1,t1⟩:=hT
  refine (cs_tick s1 (hbm j (by omega)) ht hj).mono ?_
  rintro e w2 ⟨rfl,hN⟩
  exact ⟨0,rfl,CsN.trans l1 t1 hN⟩
 ·obtain ⟨g1,s1,l1,t1⟩:=hT
  cases hw:(cl.delsC j (cl.ticksC n C)).way with
  | nil=>
   obtain ⟨R1,k1,F1,wv1,a1,_⟩:=s1.at_
   refine (deliver_no (i:=0) a1 (by rw [hw];simp)).mono ?_
   rintro e w2 ⟨rfl,hb2⟩
   refine ⟨1,rfl,fun _=>?_,fun h=>absurd rfl h⟩
   have e:=dels_stop hw (500 - j)
   rw [show j + (500 - j)=500 by omega] at e
   unfold cl.roundC
   rw [h.cn,e]
   exact CsN.trans l1 t1 (s1.same (Nat.le_refl _) hb2)
  | cons m r=>
   refine (cs_deliver s1 hb ht hw).mono ?_
   rintro e w2 ⟨rfl,hN⟩
   exact ⟨0,rfl,fun h=>absurd h (by decide),fun _=>CsN.trans l1 t1 hN⟩
theorem cs_propose {i:Nat} (text:List UInt8) (htx:text.length≤100) (h:Cs B w0 c n M bs C g w) (hb:Bd B M) (ht:TabAt w0) (hi:i < n) (hr:(C.p i).x.role=2) :
  Calls Tryz.prog 13 #[cptr c,.int .i64 (i:Int),.string (crcm.mk text)] w fun e w'=>e=.returned (.tuple #[.int .u64 (((C.p i).x.log.length + 1:Nat):Int),.int .i64 0])∧CsN B w0 c n (M + 1) bs C g w (cl.propC i text C) w':=by
 obtain ⟨R,k,F,wv,h1,hF,hL⟩:=h.at_
 have hi':i < C.n:=by rw [h.cn];exact hi
 have rd:=h.ready hb hi
 refine (propose_led text htx h1 rd ht hr).mono ?_
 rintro e w' ⟨z,rfl,hT⟩
 have hlm:=cl.propose_lim (by have:=hb.1;omega) rd.lim htx
 obtain ⟨rfl,h2⟩:=turned_cs h.cn h.up hF hL hi h.inv h.lim (Nat.le_succ M) (fun C' hA=>cl.onward_propose h1.n7 hi' (h.up i hi) hA) ⟨hlm.1.mono (Nat.le_refl _) (Nat.le_succ _),fun m hm=>(hlm.2 m hm).mono (Nat.le_refl _) (Nat.le_succ _)⟩ hT
 exact ⟨by rw [if_pos rfl],h2⟩
theorem cs_leader (h:Cs B w0 c n M bs C g w) :
  Calls Tryz.prog 14 #[cptr c] w fun e w'=>e=.returned (.int .i64 (cl.leadTo C n))∧Below w.heap.size w w':=by
 obtain ⟨R,k,F,wv,h1,_⟩:=h.at_
 have:=leader_any h1
 rw [h.cn] at this
 exact this
end
theorem leadTo_one {C:cl.Clu} {n l:Nat} (hl:l < n) (hu:(C.p l).up=true) (hr:(C.p l).x.role=2) (ho:∀ i,i < n→(C.p i).x.role=2→i=l):cl.leadTo C n=(l:Int):=by
 have key:∀ k,k≤n→cl.leadTo C k=if l < k then (l:Int) else -1:=by
  intro k
  induction k with
  | zero=>intro _;rw [if_neg (Nat.not_lt_zero _)];rfl
  | succ k ih=>
   intro hk
   have ih:=ih (by omega)
   by_cases hkl:k=l
   ·subst hkl
    rw [if_pos (Nat.lt_succ_self _)]
    rw [if_neg (Nat.lt_irrefl _)] at ih
    exact cl.leadTo_yes ⟨hu,hr,.inl ih⟩
   ·have hne:(C.p k).x.role ≠ 2:=fun h2=>hkl (ho k (by omega) h2)
    rw [cl.leadTo_no (fun h2=>hne h2.2.1),ih]
    by_cases h2:l < k
    ·rw [if_pos h2,if_pos (by omega)]
    ·rw [if_neg h2,if_neg (by omega)]
 have:=key n (Nat.le_refl _)
 rw [if_pos hl] at this
 exact this
end Go.Proofs.YtmcibggjolckoaaGreatDoor
namespace Go.Proofs.YtmcibggjolckoaaGreatDoor
open Go Go.RowKit Go.Deep
set_option maxRecDepth 100000
theorem bd_4000 {M:Nat} (h:M≤4000):Bd 5000000 M:=⟨by omega,by omega⟩
theorem new_sy (n:Nat) (w:World) (h1:1≤n) (h7:n≤7) (ht:TabAt w) :
  Calls Tryz.prog 11 #[.int .i64 (n:Int),.int .i64 10000000] w fun e w'=>∃ c bs,e=.returned (.tuple #[.pointer (some ⟨c,0,none⟩),.int .i64 0])∧Sy (cl.Ext 0) 5000000 w c n 0 bs (cl.fresh n) cl.gh0 w':=by
 refine (new_sys n w h1 h7 ht).mono ?_
 rintro e w' ⟨c,bs,rfl,hs⟩
 exact ⟨c,bs,rfl,hs,cl.ext_fresh n⟩
theorem end_facts {n T l f:Nat} {g1 gX gZ:cl.Gh} {C1 X Z:cl.Clu} {text:List UInt8} {ls:List rl.Ent} (hnZ:Z.n=n) (hI1:cl.Inv C1 g1) (hIX:cl.Inv X gX) (hIZ:cl.Inv Z gZ) (le1:cl.Le C1.sts g1 X.sts gX) (leZ:cl.Le X.sts gX Z.sts gZ) (hD:cl.Done n g1 ls) (hl:cl.Leads T X l) (hlu:(X.p l).up=true) (hf:f < n) (hfu:(Z.p f).up=true)
  (hc:(cl.nd X l).log.length + 1≤(cl.nd Z f).commit) (ha:cl.Ag ((cl.nd X l).log ++ [(T,text)]) (cl.nd Z f).log ((cl.nd X l).log.length + 1)) :
  (cl.nd X l).log.length + 1≤(shownLog Z f).length∧((shownLog Z f).getD (cl.nd X l).log.length rl.e0).2=text∧ls.length≤(cl.nd X l).log.length + 1∧∀ t,t < (shownLog Z f).length→t < ls.length→(shownLog Z f).getD t rl.e0=ls.getD t rl.e0:=by
 obtain ⟨p,hp⟩:∃ p,(cl.nd X l).log.length=p:=⟨_,rfl⟩
 have hsh:shownLog Z f=(cl.nd Z f).log.take (cl.nd Z f).commit:=by unfold shownLog;rw [if_pos hfu]
 rw [hp] at hc ha ⊢
 have hlenF:=ha.2.1
 have h1:p + 1≤(shownLog Z f).length:=by rw [hsh,List.length_take];omega
 have hat:(shownLog Z f)[p]?=some (T,text):=by
  rw [hsh,List.getElem?_take,if_pos (by omega),← ha.2.2 p (by omega),← hp,List.getElem?_append_right (Nat.le_refl _),Nat.sub_self]
  rfl
 have hdf:=(cl.done_of hIZ (by rw [hnZ];exact hf) hfu).2
 have hDZ:cl.Done n gZ ls:=(hD.later le1).later leZ
 have hsame:∀ j,j < (shownLog Z f).length→j < ls.length→(shownLog Z f)[j]?=ls[j]?:=fun j a b=>by
  rw [hsh] at a ⊢
  exact cl.done_same hIZ hdf (by rw [hnZ];exact hDZ) j a b
 refine ⟨h1,by rw [List.getD_eq_getElem?_getD,hat];rfl,?_,fun t a b=>by rw [List.getD_eq_getElem?_getD,List.getD_eq_getElem?_getD,hsame t a b]⟩
 apply Classical.byContradiction
 intro hgt
 have hpl:ls[p]?=some (T,text):=by rw [← hsame p (by omega) (by omega)];exact hat
 rcases hD with h0 | ⟨t,k,c1,c2,c3⟩
 ·rw [h0] at hgt;exact hgt (Nat.zero_le _)
 ·have htm:cl.tm (g1.L t) p=T:=by
   rw [c3.tm (j:=p) (by omega)]
   unfold cl.tm
   rw [List.getD_eq_getElem?_getD,hpl]
   rfl
  have hfit:=hI1.core.fitL t p (by have:=c3.1;omega)
  rw [htm] at hfit
  have h2:=hfit.2.1
  have h3:=(le1.L T).2.1
  obtain ⟨q1,q2,_,_⟩:=(hIX.up l hl.1 hlu).r2 hl.2.1
  have ht:(X.p l).x.term=T:=hl.2.2
  rw [ht] at q2
  have hpp:(X.p l).x.log.length=p:=hp
  rw [q2,hpp] at h3
  omega
set_option maxHeartbeats 16000000 in
theorem keeps_any {w:World} {v:Value} {l:List cl.Act} (xm:Nat) (hx256:xm < 256) (hA:Acts w v l) (ht:TabAt w) :
  Calls Tryz.prog 7 #[.int .u8 (xm:Int),v] w fun e w'=>e=.returned (.bool true)∧Below w.heap.size w w':=by
 obtain ⟨r,hr5⟩:∃ r,xm % 5=r:=⟨_,rfl⟩
 have hr:r < 5:=by rw [← hr5];exact Nat.mod_lt _ (by decide)
 have hwx:IntKind.i64.wrap (xm:Int)=(xm:Int):=wrap_i64_in (by omega) (by omega)
 have hm5:=tmod_nat xm 5
 rw [hr5] at hm5
 have hm5:((xm:Int)).tmod 5=(r:Int):=hm5
 obtain ⟨n,hn⟩:∃ n,1 + r=n:=⟨_,rfl⟩
 have hwn:IntKind.i64.wrap (1 + (r:Int))=(n:Int):=by rw [IntKind.wrap_i64];omega
 have HNN:Hid (1≤n∧n≤7):=Lib.hid (by omega)
 have HN5:Hid (n≤5):=Lib.hid (by omega)
 clear hr5 hr hn hx256
 have HBDD:=Lib.hid (bounded_any hA)
 have HSH:=Lib.hid (shown_any w ht)
 obtain ⟨A,cp,rfl,hlm,hlc,hac⟩:=hA
 obtain ⟨L,hL⟩:∃ n,l.length=n:=⟨_,rfl⟩
 have HAC:=Lib.hid hac
 have HLL:=Lib.hid hL
 have HT:=Lib.hid ht
 rw [hL] at HBDD hlm hlc ⊢
 have hcI:(L:Int)≤(cp:Int):=by omega
 clear hac hL ht hlm hlc
 cases hbb:boundedB l with
 | false=>
  rw [hbb] at HBDD
  clear hbb
  go_enter Tryz.func7,Tryz.ntmps7
  go_wp2_with (first | (go_at_call 16;refine HBDD.out.mono ?_;rintro e w5 ⟨rfl,rfl⟩) | (go_at_call 10;refine HSH.out.mono ?_;rintro e w1 ⟨rfl,hb1⟩;have HB1:=Lib.hid hb1;clear hb1))
  go_ret
  exact ⟨rfl,HB1.out⟩
 | true=>
  rw [hbb] at HBDD
  obtain ⟨hl150,htx⟩:=bounded_yes hbb
  rw [HLL.out] at hl150
  have HL150:=Lib.hid hl150
  have HTX:=Lib.hid htx
  clear hbb hl150 htx
  go_enter Tryz.func7,Tryz.ntmps7
  go_upto_region 4 with (first | (go_at_call 16;refine HBDD.out.mono ?_;rintro e w5 ⟨rfl,rfl⟩) | (go_at_call 10;refine HSH.out.mono ?_;rintro e w1 ⟨rfl,hb1⟩;have HB1:=Lib.hid hb1;clear hb1))
  have HT1:Hid (TabAt w1):=Lib.hid (HT.out.below HB1.out HT.out.1)
  have HNEW:=Lib.hid (new_sy n w1 HNN.out.1 HNN.out.2 HT1.out)
  go_upto_region 8 with (go_at_call 11;refine HNEW.out.mono ?_;rintro e w2 ⟨c,bs,rfl,hs2⟩;have HS2:=Lib.hid hs2;clear hs2)
  clear HNEW HBDD HSH
  have HACT:Hid (∀ W,Below w1.heap.size w1 W→∀ j,j < L→∃ b o,A=some ⟨b,o,none⟩∧W.rangeAt b (o + j * 6) (actC (l.getD j default))∧ActOk (l.getD j default)∧(l.getD j default).text.length≤100):=Lib.hid fun W hb j hj=>by
   obtain ⟨b,o,e,hc⟩:=HAC.out (by rw [HLL.out];omega)
   obtain ⟨k1,k2⟩:=hc j (by rw [HLL.out];exact hj)
   exact ⟨b,o,e,fun t u ht=>cell_later hb (cell_later HB1.out (k1 t u ht)),k2,HTX.out j (by rw [HLL.out];exact hj)⟩
  have HSZ:Hid (∀ x:cl.Act,(Tryz.prog.info? 41).map (·.size)=some (actC x).length):=Lib.hid fun x=>by rw [act_size];rfl
  have hal:Below w2.heap.size w2 (w2.alloc (.cells #[] 35)):=(Below.refl _ w2).alloc (Nat.le_refl _) _
  have hent0:EntsB 0 (w2.alloc (.cells #[] 35)) (.slice (some ⟨w2.heap.size,0,none⟩) 0 0) []:=EntsB.of_owns (ls:=[]) (base':=0) (World.ownsRow_made (base:=0) (e:=35) (size:=2) w2 #[] 0 (Nat.zero_le _) (by unfold maxLen;omega) rfl)
  have HS3:=Lib.hid (HS2.out.later hal)
  have HEN:=Lib.hid hent0
  clear hal hent0 HS2
  go_upto_region 9 with fail
  go_loopw [8,9] (fun a i wr=>∃ (j:Nat) (C:cl.Clu) (g:cl.Gh) (ls:List rl.Ent),j≤L∧i=.int .i64 j∧Sy (cl.Ext (10 * j)) 5000000 w1 c n (20 * j) bs C g wr∧EntsB 0 wr a ls∧cl.Done n g ls∧ls.length≤10000) (fun _ i _=>L - (intOf i).toNat)
  case atStart=>exact ⟨0,_,_,[],Nat.zero_le _,rfl,HS3.out,HEN.out,.inl rfl,Nat.zero_le _⟩
  case round=>
   obtain ⟨j,C,g,ls,hj,rfl,hs,hE,hD,hls⟩:=hrel
   have HS:=Lib.hid hs
   have HE:=Lib.hid (And.intro hE (And.intro hD hls))
   have hwj:IntKind.i64.wrap ((j:Int) + 1)=(j:Int) + 1:=wrap_i64_in (by omega) (by have:=HL150.out;omega)
   clear hs hE hD hls HS3 HEN
   by_cases hlt:j < L
   ·have hltI:(j:Int) < (L:Int):=by omega
    obtain ⟨b,o,hAe,hr,hok,htx⟩:=HACT.out _ HS.out.s.bel j hlt
    subst hAe
    obtain ⟨x,hx⟩:∃ x,l.getD j default=x:=⟨_,rfl⟩
    rw [hx] at hr hok htx
    have HR:=Lib.hid hr
    have hcall:=does_any HS.out (bd_3000 (by have:=HL150.out;omega)) HT1.out (HNN.out.1) x hok htx
    have HCALL:=Lib.hid hcall
    have HLT:=Lib.hid hlt
    clear hr hok htx hx hcall hlt hj
    go_upto_region 13 with (first | (refine wpList_load_mid rfl 41 _ rfl b (o + j * 6) rfl _ _ HR.out Tryz.underlying41 rfl (HSZ.out _) ?_) | (go_at_call 17;refine HCALL.out.mono ?_;rintro e w5 ⟨v5,rfl,hN⟩;have HN:=Lib.hid hN;clear hN))
    obtain ⟨C2,g2,hs2,hle,hst⟩:=HN.out
    have hE2:=HE.out.1.stay hst HS.out.s.maps
    have hD2:=HE.out.2.1.later hle
    have HS2:=Lib.hid hs2
    have HE2:=Lib.hid (And.intro hE2 (And.intro hD2 HE.out.2.2))
    clear hs2 hle hst hE2 hD2 HN HE HS HR HCALL
    go_loopw [8,10] (fun a k wx=>∃ (q:Nat) (ls:List rl.Ent),q≤n∧k=.int .i64 q∧Sy (cl.Ext (10 * j + 10)) 5000000 w1 c n (20 * j + 20) bs C2 g2 wx∧EntsB 0 wx a ls∧cl.Done n g2 ls∧ls.length≤10000) (fun _ k _=>n - (intOf k).toNat)
    case atStart=>exact ⟨0,ls,Nat.zero_le _,rfl,HS2.out,HE2.out.1,HE2.out.2.1,HE2.out.2.2⟩
    case round=>
     obtain ⟨q,ls2,hq,rfl,hs,hE,hD,hls⟩:=hrel
     obtain ⟨Aa,ca,hform⟩:=hE.form
     subst hform
     have HS:=Lib.hid hs
     have HE:=Lib.hid (And.intro hE (And.intro hD hls))
     have hwq:IntKind.i64.wrap ((q:Int) + 1)=(q:Int) + 1:=wrap_i64_in (by omega) (by have:=HNN.out;omega)
     clear hs hE hD hls HS2 HE2
     by_cases hltq:q < n
     ·have hltqI:(q:Int) < (n:Int):=by omega
      have hcom:=HS.out.s.com (bd_3000 (by have:=HL150.out;have:=HLT.out;omega)) hltq
      have hqn:q < C2.n:=by rw [HS.out.s.cn];exact hltq
      have hdq:cl.Done n g2 (shownLog C2 q)∧(shownLog C2 q).length≤10000:=by
       unfold shownLog
       split
       ·rename_i hu
        have h1:=(cl.done_of HS.out.s.inv hqn hu).2
        rw [HS.out.s.cn] at h1
        refine ⟨h1,?_⟩
        have h2:=(HS.out.s.lim.up q hqn hu).len
        rw [List.length_take]
        have:=HL150.out
        have:=HLT.out
        omega
       ·exact ⟨.inl rfl,Nat.zero_le _⟩
      obtain ⟨lq,hlq⟩:∃ x,shownLog C2 q=x:=⟨_,rfl⟩
      rw [hlq] at hcom hdq
      have HCOM:=Lib.hid hcom
      have HDQ:=Lib.hid hdq
      have HLQ:=Lib.hid hltq
      clear hcom hdq hltq hq hqn hlq
      go_upto_region 16 with (go_at_call 15;refine HCOM.out.mono ?_;rintro e w6 ⟨D6,d6,rfl,hown6,hb6⟩)
      have hE6:EntsB 0 w6 (.slice D6 lq.length d6) lq:=EntsB.of_owns hown6
      have hEa:=HE.out.1.later hb6
      have HE6:=Lib.hid (And.intro hE6 hEa)
      have HS6:=Lib.hid (HS.out.later hb6)
      obtain ⟨na,hna⟩:∃ x,ls2.length=x:=⟨_,rfl⟩
      obtain ⟨nq,hnq⟩:∃ x,lq.length=x:=⟨_,rfl⟩
      rw [hna,hnq] at HE6
      rw [hna,hnq]
      have HNL:=Lib.hid (And.intro hna hnq)
      clear hown6 hb6 hE6 hEa HCOM hna hnq
      by_cases hgt:na < nq
      ·have g1:decide ((na:Int) < (nq:Int))=true:=decide_eq_true (by omega)
       have g2:decide (na < nq)=true:=decide_eq_true hgt
       clear hgt
       go_wp2_with fail
       go_roundw
       case rel=>exact ⟨q + 1,lq,HLQ.out,by go_num,HS6.out,HE6.out.1,HDQ.out.1,HDQ.out.2⟩
       case measure=>have:=HLQ.out;simp [intOf];omega
      ·have g1:decide ((na:Int) < (nq:Int))=false:=decide_eq_false (by omega)
       have g2:decide (na < nq)=false:=decide_eq_false hgt
       clear hgt
       go_wp2_with fail
       go_roundw
       case rel=>exact ⟨q + 1,ls2,HLQ.out,by go_num,HS6.out,HE6.out.2,HE.out.2.1,HE.out.2.2⟩
       case measure=>have:=HLQ.out;simp [intOf];omega
     ·obtain rfl:q=n:=by omega
      clear hltq hq hwq
      go_wp2_with fail
      go_roundw
      case rel=>exact ⟨j + 1,C2,g2,ls2,HLT.out,by go_num,by rw [Nat.mul_succ,Nat.mul_succ];exact HS.out,HE.out.1,HE.out.2.1,HE.out.2.2⟩
      case measure=>have:=HLT.out;simp [intOf];omega
   ·obtain rfl:j=L:=by omega
    obtain ⟨Aa,ca,hform⟩:=HE.out.1.form
    subst hform
    have hmend:Mend (fun i=>i < 0) 1500 5000000 w1 c n 3000 bs 0 C g wr:=((HS.out.mono (M':=3000) (by have:=HL150.out;omega)).to (HS.out.ext.mono (b':=1500) (by have:=HL150.out;omega))).mend
    have HM:=Lib.hid hmend
    obtain ⟨na,hna⟩:∃ x,ls.length=x:=⟨_,rfl⟩
    have HNA:=Lib.hid hna
    rw [hna] at HE ⊢
    clear hmend hlt hj hwj HS hna
    go_upto_region 19 with fail
    go_loopw [12] (fun i wx=>∃ (q:Nat) (C:cl.Clu) (g:cl.Gh),q≤n∧i=.int .i64 q∧Mend (fun i=>i < q) 1500 5000000 w1 c n 3000 bs q C g wx∧EntsB 0 wx (.slice Aa na ca) ls∧cl.Done n g ls) (fun i _=>n - (intOf i).toNat)
    case atStart=>exact ⟨0,C,g,Nat.zero_le _,rfl,HM.out,HE.out.1,HE.out.2.1⟩
    case round=>
     obtain ⟨q,C3,g3,hq,rfl,hm,hE,hD⟩:=hrel
     have hwq:IntKind.i64.wrap ((q:Int) + 1)=(q:Int) + 1:=wrap_i64_in (by omega) (by have:=HNN.out;omega)
     have HM3:=Lib.hid hm
     have HE3:=Lib.hid (And.intro hE hD)
     clear hm hE hD HM
     by_cases hlt:q < n
     ·have hltI:(q:Int) < (n:Int):=by omega
      have HFU:=Lib.hid (mend_fuse HM3.out hlt)
      have HST:Hid (∀ W,Mend (fun i=>i < q∨i=q∧(C3.p q).up=true) 1500 5000000 w1 c n 3000 bs q C3 g3 W→Calls Tryz.prog 22 #[cptr c,.int .i64 (q:Int)] W fun e w'=>∃ z:Int,e=.returned (.int .i64 z)∧∃ C' g',Mend (fun i=>i < q + 1) 1500 5000000 w1 c n 3000 bs (q + 1) C' g' w'∧cl.Le C3.sts g3 C'.sts g'∧Stay (bsF bs) n W w'):=Lib.hid fun W h=>mend_start h HT1.out hlt
      have HLT:=Lib.hid hlt
      clear hlt hq
      unfold cptr at HFU HST
      go_wp2_with (first | (go_at_call 21;refine HFU.out.mono ?_;rintro e w5 ⟨z5,rfl,hm5',hst5⟩;have HM5:=Lib.hid (And.intro hm5' hst5);clear hm5' hst5) | (go_at_call 22;refine (HST.out _ HM5.out.1).mono ?_;rintro e w6 ⟨z6,rfl,hN⟩;have HN:=Lib.hid hN;clear hN))
      go_roundw
      case rel=>
       obtain ⟨C4,g4,m4,l4,t4⟩:=HN.out
       exact ⟨q + 1,C4,g4,HLT.out,by go_num,m4,(HE3.out.1.stay HM5.out.2 HM3.out.maps).stay t4 HM5.out.1.maps,HE3.out.2.later l4⟩
      case measure=>have:=HLT.out;simp [intOf];omega
     ·obtain rfl:n=q:=by omega
      have hcs:=HM3.out.cs
      have hok:cl.Ok 3000 C3:=HM3.out.ext.ok (by rw [HM3.out.cn];exact HNN.out.2) (fun i hi=>hcs.up i (by rw [← HM3.out.cn];exact hi)) HM3.out.lim ⟨g3,HM3.out.inv⟩ HM3.out.w200
      have hkept:=cl.kept hok (by rw [HM3.out.cn];exact HNN.out.1) (by rw [HM3.out.cn];exact HN5.out) (by decide) HM3.out.ext.room [108,97,115,116] (by decide)
      have HKEPT:=Lib.hid hkept
      have HC3:=Lib.hid (And.intro hcs HM3.out.inv)
      have HCN:=Lib.hid HM3.out.cn
      clear hcs hok hkept hlt hq hwq HM3
      go_upto_region 24 with fail
      go_loopw [13] (fun i wx=>∃ (m:Nat) (g:cl.Gh),m≤60∧i=.int .i64 m∧Cs 5000000 w1 c n (3000 + m * n) bs (cl.rnd m C3) g wx∧EntsB 0 wx (.slice Aa na ca) ls∧cl.Le C3.sts g3 (cl.rnd m C3).sts g) (fun i _=>60 - (intOf i).toNat)
      case atStart=>exact ⟨0,g3,Nat.zero_le _,rfl,by rw [Nat.zero_mul];exact HC3.out.1,HE3.out.1,cl.Le.refl _ _⟩
      case round=>
       obtain ⟨m,g4,hm,rfl,hI,hE,hle⟩:=hrel
       have hwm:IntKind.i64.wrap ((m:Int) + 1)=(m:Int) + 1:=by rw [IntKind.wrap_i64];omega
       have HI:=Lib.hid (And.intro hI (And.intro hE hle))
       have hmn:m * n≤300:=Nat.le_trans (Nat.mul_le_mul hm HN5.out) (by decide)
       have HMN:=Lib.hid hmn
       clear hI hE hle hmn
       by_cases hlt:m < 60
       ·have hltI:(m:Int) < 60:=by omega
        have hcall:=cs_round HI.out.1 (bd_4000 (by have:=HMN.out;have:=HN5.out;omega)) HT1.out
        unfold cptr at hcall
        have HCALL:=Lib.hid hcall
        have HLT:=Lib.hid hlt
        clear hcall hlt hm
        go_wp2_with (go_at_call 12;refine HCALL.out.mono ?_;rintro e w5 ⟨rfl,hN⟩;have HN:=Lib.hid hN;clear hN)
        go_roundw
        case rel=>
         obtain ⟨g5,s5,l5,t5⟩:=HN.out
         exact ⟨m + 1,g5,HLT.out,by go_num,by rw [Nat.succ_mul m n,← Nat.add_assoc];exact s5,HI.out.2.1.stay t5 HI.out.1.maps,HI.out.2.2.trans l5⟩
        case measure=>have:=HLT.out;simp [intOf];omega
       ·obtain rfl:m=60:=by omega
        obtain ⟨T,lead,hlead,honly,hall⟩:=HKEPT.out
        have hXn:(cl.rnd 60 C3).n=n:=(cl.rnd_n C3 60).trans HCN.out
        obtain ⟨X,hX⟩:∃ X,cl.rnd 60 C3=X:=⟨_,rfl⟩
        rw [hX] at HI hlead honly hall hXn
        have hln:lead < n:=by have:=hlead.1;rw [hXn] at this;exact this
        have hldr:=cs_leader HI.out.1
        have hone:=leadTo_one (C:=X) (n:=n) hln (HI.out.1.up lead hln) hlead.2.1 (fun i hi hr=>honly i (by rw [HCN.out];exact hi) hr)
        rw [hone] at hldr
        unfold cptr at hldr
        have hbd:Bd 5000000 (3000 + 60 * n):=bd_4000 (by have:=HN5.out;omega)
        have hprop:=fun W (hb:Below wr.heap.size wr W)=>cs_propose [108,97,115,116] (by decide) (HI.out.1.later hb) hbd HT1.out hln hlead.2.1
        obtain ⟨p,hp⟩:∃ p,(cl.nd X lead).log.length=p:=⟨_,rfl⟩
        have hp2:(X.p lead).x.log.length=p:=hp
        unfold cptr at hprop
        rw [hp2] at hprop
        obtain ⟨P,hPP⟩:∃ P,p + 1=P:=⟨_,rfl⟩
        rw [hPP] at hprop
        have HPP:=Lib.hid hPP
        have HLD:=Lib.hid hldr
        have HPR:=Lib.hid hprop
        have HLEAD:=Lib.hid (And.intro hlead hln)
        have HALL:=Lib.hid hall
        have HP:=Lib.hid hp
        have HXN:=Lib.hid hXn
        clear hldr hprop hlead hln hall hone honly hlt hm hwm hbd hX hp hp2 hXn hPP
        go_upto_region 29 with (first | (go_at_call 14;refine HLD.out.mono ?_;rintro e w5 ⟨rfl,hb5⟩) | (go_at_call 13;refine (HPR.out _ hb5).mono ?_;rintro e w6 ⟨rfl,hN⟩;have HN:=Lib.hid hN;clear hN))
        obtain ⟨Y,hY⟩:∃ Y,cl.propC lead [108,97,115,116] X=Y:=⟨_,rfl⟩
        rw [hY] at HN
        have HY:=Lib.hid hY
        have HE5:=Lib.hid (HI.out.2.1.later hb5)
        have HMP:=Lib.hid (HI.out.1.later hb5).maps
        clear hY hb5 HLD HPR
        go_loopw [16] (fun i wx=>∃ (m:Nat) (g:cl.Gh),m≤6∧i=.int .i64 m∧Cs 5000000 w1 c n (3000 + 60 * n + 1 + m * n) bs (cl.rnd m Y) g wx∧EntsB 0 wx (.slice Aa na ca) ls∧cl.Le X.sts g4 (cl.rnd m Y).sts g) (fun i _=>6 - (intOf i).toNat)
        case atStart=>
         obtain ⟨g5,s5,l5,t5⟩:=HN.out
         exact ⟨0,g5,Nat.zero_le _,rfl,by rw [Nat.zero_mul];exact s5,HE5.out.stay t5 HMP.out,l5⟩
        case round=>
         obtain ⟨m,g6,hm,rfl,hI6,hE6,hle6⟩:=hrel
         have hwm:IntKind.i64.wrap ((m:Int) + 1)=(m:Int) + 1:=by rw [IntKind.wrap_i64];omega
         have HI6:=Lib.hid (And.intro hI6 (And.intro hE6 hle6))
         have hmn:m * n≤30:=Nat.le_trans (Nat.mul_le_mul hm HN5.out) (by decide)
         have HMN6:=Lib.hid hmn
         clear hI6 hE6 hle6 hmn
         by_cases hlt:m < 6
         ·have hltI:(m:Int) < 6:=by omega
          have hcall:=cs_round HI6.out.1 (bd_4000 (by have:=HMN6.out;have:=HN5.out;omega)) HT1.out
          unfold cptr at hcall
          have HCALL:=Lib.hid hcall
          have HLT:=Lib.hid hlt
          clear hcall hlt hm
          go_wp2_with (go_at_call 12;refine HCALL.out.mono ?_;rintro e w7 ⟨rfl,hN⟩;have HN7:=Lib.hid hN;clear hN)
          go_roundw
          case rel=>
           obtain ⟨g7,s7,l7,t7⟩:=HN7.out
           exact ⟨m + 1,g7,HLT.out,by go_num,by rw [Nat.succ_mul m n,← Nat.add_assoc];exact s7,HI6.out.2.1.stay t7 HI6.out.1.maps,HI6.out.2.2.trans l7⟩
          case measure=>have:=HLT.out;simp [intOf];omega
         ·obtain rfl:m=6:=by omega
          obtain ⟨Z,hZ⟩:∃ Z,cl.rnd 6 Y=Z:=⟨_,rfl⟩
          have HZE:=Lib.hid hZ
          rw [hZ] at HI6
          have hfacts:∀ f,f < n→p + 1≤(shownLog Z f).length∧((shownLog Z f).getD p rl.e0).2=[108,97,115,116]∧ls.length≤p + 1∧(∀ t,t < (shownLog Z f).length→t < ls.length→(shownLog Z f).getD t rl.e0=ls.getD t rl.e0)∧(shownLog Z f).length≤10000:=fun f hf=>by
           obtain ⟨k1,k2⟩:=HALL.out f (by rw [HCN.out];exact hf)
           rw [HY.out,HZE.out] at k1 k2
           obtain ⟨e1,e2,e3,e4⟩:=end_facts (n:=n) (text:=[108,97,115,116]) HI6.out.1.cn HC3.out.2 HI.out.1.inv HI6.out.1.inv HI.out.2.2 HI6.out.2.2 HE3.out.2 HLEAD.out.1 (HI.out.1.up lead HLEAD.out.2) hf (HI6.out.1.up f hf) k1 k2
           rw [HP.out] at e1 e2 e3
           refine ⟨e1,e2,e3,e4,?_⟩
           have h2:=(HI6.out.1.lim.up f (by rw [HI6.out.1.cn];exact hf) (HI6.out.1.up f hf)).len
           unfold shownLog
           rw [if_pos (HI6.out.1.up f hf),List.length_take]
           have:=HN5.out
           omega
          have hp9:p≤9990:=by
           have:=HN5.out
           have h2:=(HI.out.1.lim.up lead (by rw [HXN.out];exact HLEAD.out.2) (HI.out.1.up lead HLEAD.out.2)).len
           have h3:(X.p lead).x.log.length=p:=HP.out
           omega
          have HFACTS:=Lib.hid hfacts
          have HP9:=Lib.hid hp9
          have HI7:=Lib.hid (HI6.out.1.mono (M':=3400) (by have:=HN5.out;omega))
          have HE7:=Lib.hid HI6.out.2.1
          clear hfacts hp9 hlt hm hwm hZ HALL HN HI6 HI HE3
          go_upto_region 35 with fail
          (try rw [show ((6:Nat):Int)=6 from rfl])
          go_loopw [17] (fun i wx=>∃ q:Nat,q≤n∧i=.int .i64 q∧Cs 5000000 w1 c n 3400 bs Z g6 wx∧EntsB 0 wx (.slice Aa na ca) ls) (fun i _=>n - (intOf i).toNat)
          case atStart=>exact ⟨0,Nat.zero_le _,rfl,HI7.out,HE7.out⟩
          case round=>
           obtain ⟨q,hq,rfl,hI,hE⟩:=hrel
           have hwq:IntKind.i64.wrap ((q:Int) + 1)=(q:Int) + 1:=wrap_i64_in (by omega) (by have:=HNN.out;omega)
           have HI8:=Lib.hid (And.intro hI hE)
           clear hI hE HI7 HE7
           by_cases hlt:q < n
           ·have hltI:(q:Int) < (n:Int):=by omega
            have hcom:=committed_calm (i:=q) HI8.out.1.calm (bd_4000 (by decide)) hlt
            obtain ⟨f1,f2,f3,f4,f5⟩:=HFACTS.out q hlt
            obtain ⟨lq,hlq⟩:∃ x,shownLog Z q=x:=⟨_,rfl⟩
            rw [hlq] at hcom f1 f2 f4 f5
            unfold cptr at hcom
            have HCOM:=Lib.hid hcom
            have HF:=Lib.hid (And.intro f1 (And.intro f2 (And.intro f3 (And.intro f4 f5))))
            have HLT:=Lib.hid hlt
            clear hcom f1 f2 f3 f4 f5 hlt hq hlq
            go_upto_region 38 with (go_at_call 15;refine HCOM.out.mono ?_;rintro e w7 ⟨D,d,rfl,hown,hb7⟩)
            have hE7:EntsB 0 w7 (.slice D lq.length d) lq:=EntsB.of_owns hown
            have hEa:=HI8.out.2.later hb7
            have HI9:=Lib.hid (HI8.out.1.later hb7)
            obtain ⟨D',d',hv2,hdl,_,hcells⟩:=hE7.1
            obtain ⟨e1,e3⟩:D=D'∧d=d':=by injection hv2 with e1 _ e3;exact ⟨e1,e3⟩
            subst e1 e3
            have hp1:=HF.out.1
            obtain ⟨bm,om,hDe,hEA⟩:=hcells (by omega)
            subst hDe
            have x1:=(hEA p (by omega)).2
            rw [HF.out.2.1] at x1
            have HSAME:=Lib.hid (same_true hE7.1 hEa.1 (by have:=HF.out.2.2.2.2;omega) (by have:=HF.out.2.2.1;have:=HP9.out;omega) HF.out.2.2.2.1)
            have HEa:=Lib.hid hEa
            obtain ⟨nq,hnq⟩:∃ x,lq.length=x:=⟨_,rfl⟩
            rw [hnq] at hp1 hdl HSAME ⊢
            have hna1:na≤p + 1:=by rw [← HNA.out];exact HF.out.2.2.1
            have hnq9:nq≤10000:=by rw [← hnq];exact HF.out.2.2.2.2
            have hwn1:IntKind.u64.wrap (nq:Int)=(nq:Int):=by rw [IntKind.wrap_u64];omega
            have hwp1:IntKind.u64.wrap ((P:Int) - 1)=(p:Int):=by have:=HP9.out;have:=HPP.out;rw [IntKind.wrap_u64];omega
            have hwp2:IntKind.u64.wrap (p:Int)=(p:Int):=by have:=HP9.out;rw [IntKind.wrap_u64];omega
            have hms:(crcm.mk [108,97,115,116]).toList=[108,97,115,116]:=mk_toL _
            have g1:decide ((nq:Int) < (P:Int))=false:=decide_eq_false (by have:=HPP.out;omega)
            have g4:decide (nq < P)=false:=decide_eq_false (by have:=HPP.out;omega)
            have g2:decide ((nq:Int) < (na:Int))=false:=decide_eq_false (by omega)
            have g3:decide (nq < na)=false:=decide_eq_false (by omega)
            have hpq:(p:Int) < (nq:Int):=by omega
            have hqd:(nq:Int)≤(d:Int):=by omega
            clear hown hb7 hE7 hEa hcells hEA hv2 hdl HCOM hnq hna1 hnq9 hp1
            go_wp2_with (go_at_call 18;refine HSAME.out.mono ?_;rintro e w8 ⟨rfl,hb8⟩;have HB8:=Lib.hid hb8;clear hb8)
            go_roundw
            case rel=>exact ⟨q + 1,HLT.out,by go_num,HI9.out.later HB8.out,HEa.out.later HB8.out⟩
            case measure=>have:=HLT.out;simp [intOf];omega
           ·obtain rfl:q=n:=by omega
            have hbel:=HI8.out.1.bel
            have HBEL:=Lib.hid hbel
            clear hbel hlt hq hwq
            go_wp2_with fail
            go_ret
            exact ⟨rfl,HB1.out.trans (HBEL.out.mono HB1.out.size)⟩
end Go.Proofs.YtmcibggjolckoaaGreatDoor
