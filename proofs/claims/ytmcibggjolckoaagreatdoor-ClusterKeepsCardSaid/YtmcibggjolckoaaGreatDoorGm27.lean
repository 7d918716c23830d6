/- KcCalm, KcShown: one behind the other. -/
import Derived.Test.YtmcibggjolckoaaGreatDoorGm26
namespace Go.Proofs.YtmcibggjolckoaaGreatDoor
open Go Go.RowKit Go.Deep
set_option maxRecDepth 100000
namespace cl
abbrev LS:=List rf.Node × List rf.Msg
def tickL (i:Nat) (s:LS):LS:=match s.1[i]? with
 | some x=>(s.1.set i (rf.tick x).1,last (s.2 ++ (rf.tick x).2))
 | none=>s
def delL (s:LS):LS:=match s.2 with
 | []=>s
 | m :: r=>match s.1[m.dst.toNat]? with
  | some x=>(s.1.set m.dst.toNat (rf.step x m).1,last (r ++ (rf.step x m).2))
  | none=>(s.1,r)
def ticksL:Nat→LS→LS
 | 0,s=>s
 | j + 1,s=>tickL j (ticksL j s)
def delN:Nat→LS→LS
 | 0,s=>s
 | j + 1,s=>delL (delN j s)
def roundL (n:Nat) (s:LS):LS:=delN 500 (ticksL n s)
def roundsL (n:Nat):Nat→LS→LS
 | 0,s=>s
 | j + 1,s=>roundL n (roundsL n j s)
def freshL (n:Nat):LS:=((List.range n).map fun (i:Nat)=>rf.new (i:Int) (n:Int) 0 (-1) [],[])
structure Like (C:Clu) (s:LS):Prop where
 len:s.1.length=C.n
 way:C.way=s.2
 p:∀ i,i < C.n→(C.p i).up=true∧s.1[i]?=some (C.p i).x
theorem like_fresh (n:Nat):Like (fresh n) (freshL n):=by
 refine ⟨by unfold freshL;rw [List.length_map,List.length_range];rfl,rfl,fun i hi=>⟨rfl,?_⟩⟩
 have hi:i < n:=hi
 unfold freshL
 rw [List.getElem?_map,List.getElem?_range hi]
 rfl
theorem like_changed {C:Clu} {s:LS} {i:Nat} {x:rf.Node} {w out:List rf.Msg} (h:Like C s) (hi:i < C.n):Like (changed { C with way:=w } i x out) (s.1.set i x,last (w ++ out)):=by
 refine ⟨by rw [List.length_set];exact h.len,rfl,fun j hj=>?_⟩
 have hj:j < C.n:=hj
 by_cases hji:j=i
 ·subst hji
  have e:(changed { C with way:=w } j x out).p j=⟨stOf x,true,x⟩:=upd_same _ _ _
  rw [e]
  exact ⟨rfl,List.getElem?_set_self (by rw [h.len];exact hj)⟩
 ·have e:(changed { C with way:=w } i x out).p j=C.p j:=upd_other _ _ hji
  rw [e]
  refine ⟨(h.p j hj).1,?_⟩
  show (s.1.set i x)[j]?=_
  rw [List.getElem?_set_ne (fun e=>hji e.symm)]
  exact (h.p j hj).2
theorem like_tick {C:Clu} {s:LS} {i:Nat} (h:Like C s) (hi:i < C.n):Like (changed C i (rf.tick (C.p i).x).1 (rf.tick (C.p i).x).2) (tickL i s):=by
 have e:tickL i s=(s.1.set i (rf.tick (C.p i).x).1,last (C.way ++ (rf.tick (C.p i).x).2)):=by
  unfold tickL
  rw [(h.p i hi).2,h.way]
 rw [e]
 exact like_changed (w:=C.way) h hi
theorem like_del {C:Clu} {s:LS} {i:Nat} {m:rf.Msg} {r:List rf.Msg} (h:Like C s) (hw:C.way=m :: r) (hd:m.dst=(i:Int)) (hi:i < C.n):Like (changed { C with way:=r } i (rf.step (C.p i).x m).1 (rf.step (C.p i).x m).2) (delL s):=by
 have e:delL s=(s.1.set i (rf.step (C.p i).x m).1,last (r ++ (rf.step (C.p i).x m).2)):=by
  unfold delL
  rw [← h.way,hw]
  dsimp only
  rw [hd,Int.toNat_natCast,(h.p i hi).2]
 rw [e]
 exact like_changed (w:=r) h hi
theorem delL_nil {s:LS} (h:s.2=[]):delL s=s:=by
 unfold delL
 rw [h]
theorem delN_stop {s:LS} {j:Nat} (h:(delN j s).2=[]):∀ d,delN (j + d) s=delN j s
 | 0=>rfl
 | d + 1=>by
  show delL (delN (j + d) s)=_
  rw [delN_stop h d,delL_nil h]
def ofL (s:LS):Clu:=⟨s.1.length,fun i=>match s.1[i]? with
 | some x=>⟨stOf x,true,x⟩
 | none=>⟨⟨0,0,[]⟩,false,rf.new 0 0 0 0 []⟩,s.2⟩
end cl
structure Calm (B:Nat) (w0:World) (c n M:Nat) (C:cl.Clu) (w:World):Prop where
 cn:C.n=n
 lim:cl.Lim M M C
 inv:∃ g,cl.Inv C g
 w200:C.way.length≤200
 at_:∃ R k F wv,CluAt B w0 w c R C F k wv∧∀ i,i < n→(F i).d.left=0
section
variable {B:Nat} {w0:World} {c n M:Nat} {C:cl.Clu} {w:World}
theorem Calm.later {w':World} (h:Calm B w0 c n M C w) (hb:Below w.heap.size w w'):Calm B w0 c n M C w':=by
 obtain ⟨R,k,F,wv,h1,h2⟩:=h.at_
 exact ⟨h.cn,h.lim,h.inv,h.w200,R,k,F,wv,h1.later hb,h2⟩
theorem Calm.bel (h:Calm B w0 c n M C w):Below w0.heap.size w0 w:=by
 obtain ⟨R,k,F,wv,h1,h2⟩:=h.at_
 exact h1.bel
theorem Calm.n7 (h:Calm B w0 c n M C w):n≤7:=by
 obtain ⟨R,k,F,wv,h1,h2⟩:=h.at_
 have:=h1.n7
 rw [h.cn] at this
 exact this
theorem Calm.ready (h:Calm B w0 c n M C w) (hb:Bd B M) {i:Nat} (hi:i < n) (hu:(C.p i).up=true):Ready M M B C i:=by
 have hi':i < C.n:=by rw [h.cn];exact hi
 obtain ⟨g,hI⟩:=h.inv
 have u:=hI.up i hi' hu
 exact ⟨hi',hu,u.st,u.id,u.many,h.lim.up i hi' hu,h.w200,hb.1,by have:=hb.1;omega,hb.2⟩
theorem turned_calm {C0:cl.Clu} {R k i:Nat} {F:Nat→Fp} {x:rf.Node} {ms:List rf.Msg} {z:Int} {M':Nat} {w':World} (hn:C.n=n) (hF:∀ i,i < n→(F i).d.left=0) (hi:i < n) (hI:∃ g,cl.Inv C0 g) (hL:cl.Lim M M C) (hM:M≤M')
  (hOn:∀ C',cl.After C i x ms C'→cl.Onward C0 C') (hb:cl.BothLim M' M' (x,ms)) (h:Turned B w0 c R C F k i x ms z w w'):z=0∧Calm B w0 c n M' (cl.changed C i x ms) w':=by
 obtain ⟨C',F',wv',h1,⟨hfp,ho⟩,h3⟩:=h
 rcases ho with ⟨hz,e⟩ | ⟨_,hl,_⟩
 ·subst e
  obtain ⟨g,hI⟩:=hI
  obtain ⟨g',hI',_⟩:=(hOn _ .ok).2 g hI
  refine ⟨hz,hn,cl.After.lim (r:=(x,ms)) .ok hL hM hM hb,⟨g',hI'⟩,last_len _,R,k,F',wv',h1,fun j hj=>?_⟩
  by_cases hji:j=i
  ·subst hji;exact hfp.left (hF _ hj)
  ·rw [hfp.other _ hji];exact hF _ hj
 ·exact absurd (hF i hi) hl
theorem tick_calm {i:Nat} (h:Calm B w0 c n M C w) (hb:Bd B M) (ht:TabAt w0) (hi:i < n) (hu:(C.p i).up=true) :
  Calls Tryz.prog 26 #[cptr c,.int .i64 (i:Int)] w fun e w'=>e=.returned (.int .i64 0)∧Calm B w0 c n (M + 1) (cl.changed C i (rf.tick (C.p i).x).1 (rf.tick (C.p i).x).2) w':=by
 obtain ⟨R,k,F,wv,h1,hF⟩:=h.at_
 have hi':i < C.n:=by rw [h.cn];exact hi
 have rd:=h.ready hb hi hu
 refine (tick_up h1 rd ht).mono ?_
 rintro e w' ⟨z,rfl,hT⟩
 have hid:=rd.id
 have h7:=h1.n7
 obtain ⟨rfl,h2⟩:=turned_calm h.cn hF hi h.inv h.lim (Nat.le_succ M) (fun C' hA=>cl.onward_tick h.lim rd.hK h7 hi' hu hA) (cl.tick_lim rd.hK rd.lim (by omega) (by omega)) hT
 exact ⟨rfl,h2⟩
theorem deliver_calm {m:rf.Msg} {r:List rf.Msg} (h:Calm B w0 c n M C w) (hb:Bd B M) (ht:TabAt w0) (hm:C.way=m :: r) (hup:∀ i,i < n→(C.p i).up=true) :
  Calls Tryz.prog 30 #[cptr c,.int .i64 0] w fun e w'=>e=.returned (.int .i64 0)∧∃ i:Nat,m.dst=(i:Int)∧i < n∧Calm B w0 c n M (cl.changed { C with way:=r } i (rf.step (C.p i).x m).1 (rf.step (C.p i).x m).2) w':=by
 obtain ⟨R,k,F,wv,h1,hF⟩:=h.at_
 have hm0:C.way[0]?=some m:=by rw [hm];rfl
 have hmem:m ∈ C.way:=List.mem_of_getElem? hm0
 obtain ⟨g,hI⟩:=h.inv
 obtain ⟨_,d,_,hd,_,hdn,_⟩:=(hI.way m hmem).dom
 have hoff:cl.off C.way 0=r:=by unfold cl.off;rw [hm];rfl
 have hwe:∀ y ∈ r,y ∈ C.way:=fun y hy=>by rw [hm];exact List.mem_cons_of_mem _ hy
 have hdn2:d < n:=by rw [← h.cn];exact hdn
 have rd:=h.ready hb hdn2 (hup d hdn2)
 have hml:=h.lim.way m hmem
 have hdel:=deliver_up (j:=0) h1 hm0 hd rd ht hml
 rw [hoff] at hdel
 refine hdel.mono ?_
 rintro e w' ⟨z,rfl,hT⟩
 obtain ⟨rfl,h2⟩:=turned_calm (C:={ C with way:=r }) h.cn hF hdn2 h.inv (cl.lim_way h.lim hwe) (Nat.le_refl M) (fun C' hA=>cl.onward_step h1.n7 hdn (hup d hdn2) hmem hwe hA) (cl.step_lim (by have:=hb.1;omega) rd.lim hml) hT
 exact ⟨rfl,d,hd,hdn2,h2⟩
theorem round_calm {s:cl.LS} (h:Calm B w0 c n M C w) (hs:cl.Like C s) (hb:Bd B (M + n)) (ht:TabAt w0) :
  Calls Tryz.prog 12 #[cptr c] w fun e w'=>e=.returned (.tuple #[])∧∃ C',Calm B w0 c n (M + n) C' w'∧cl.Like C' (cl.roundL n s):=by
 obtain ⟨R,k,F,wv,h1,hF⟩:=h.at_
 have c0:=h1.c0
 rw [h.cn] at c0
 have hbm:∀ j,j≤n→Bd B (M + j):=fun j hj=>⟨by have:=hb.1;omega,by have:=hb.2;have:206 * (M + j + 2)≤206 * (M + n + 2):=Nat.mul_le_mul_left _ (by omega);omega⟩
 refine round_any (fun j w'=>∃ C',Calm B w0 c n (M + j) C' w'∧cl.Like C' (cl.ticksL j s)) (fun j w'=>∃ C',Calm B w0 c n (M + n) C' w'∧cl.Like C' (cl.delN j (cl.ticksL n s))) (fun w'=>∃ C',Calm B w0 c n (M + n) C' w'∧cl.Like C' (cl.roundL n s)) h.n7 c0 ⟨C,h,hs⟩ (fun j w1 hj hT=>?_) (fun _ hT=>hT) (fun j w1 hj hT=>?_) (fun _ hT=>hT)
 ·obtain ⟨C1,s1,l1⟩:=hT
  refine (tick_calm s1 (hbm j (by omega)) ht hj (l1.p j (by rw [s1.cn];exact hj)).1).mono ?_
  rintro e w2 ⟨rfl,hN⟩
  exact ⟨0,rfl,_,hN,cl.like_tick l1 (by rw [s1.cn];exact hj)⟩
 ·obtain ⟨C1,s1,l1⟩:=hT
  cases hw:C1.way with
  | nil=>
   obtain ⟨R1,k1,F1,wv1,a1,_⟩:=s1.at_
   refine (deliver_no (i:=0) a1 (by rw [hw];simp)).mono ?_
   rintro e w2 ⟨rfl,hb2⟩
   refine ⟨1,rfl,fun _=>⟨C1,s1.later hb2,?_⟩,fun h=>absurd rfl h⟩
   have hz:(cl.delN j (cl.ticksL n s)).2=[]:=by rw [← l1.way];exact hw
   have e:=cl.delN_stop hz (500 - j)
   rw [show j + (500 - j)=500 by omega] at e
   unfold cl.roundL
   rw [e]
   exact l1
  | cons m r=>
   refine (deliver_calm s1 hb ht hw (fun i hi=>(l1.p i (by rw [s1.cn];exact hi)).1)).mono ?_
   rintro e w2 ⟨rfl,i,hd,hi,hN⟩
   exact ⟨0,rfl,fun h=>absurd h (by decide),fun _=>⟨_,hN,cl.like_del l1 hw hd (by rw [s1.cn];exact hi)⟩⟩
end
end Go.Proofs.YtmcibggjolckoaaGreatDoor
namespace Go.Proofs.YtmcibggjolckoaaGreatDoor
open Go Go.RowKit Go.Deep
set_option maxRecDepth 100000
namespace cl
def propL (i:Nat) (t:List UInt8) (s:LS):LS:=match s.1[i]? with
 | some x=>(s.1.set i (rf.propose x t).1,last (s.2 ++ (rf.propose x t).2.1))
 | none=>s
theorem like_propose {C:Clu} {s:LS} {i:Nat} {t:List UInt8} (h:Like C s) (hi:i < C.n):Like (changed C i (rf.propose (C.p i).x t).1 (rf.propose (C.p i).x t).2.1) (propL i t s):=by
 have e:propL i t s=(s.1.set i (rf.propose (C.p i).x t).1,last (C.way ++ (rf.propose (C.p i).x t).2.1)):=by
  unfold propL
  rw [(h.p i hi).2,h.way]
 rw [e]
 exact like_changed (w:=C.way) h hi
theorem like_ofL {C:Clu} {s:LS} (h:Like C s):∀ i,i < C.n→(ofL s).p i=⟨stOf (C.p i).x,true,(C.p i).x⟩:=fun i hi=>by
 unfold ofL
 dsimp only
 rw [(h.p i hi).2]
theorem lead_like {C:Clu} {s:LS} (h:Like C s):∀ k,k≤C.n→leadTo C k=leadTo (ofL s) k
 | 0,_=>rfl
 | k + 1,hk=>by
  have ih:=lead_like h k (by omega)
  have e0:=like_ofL h k (by omega)
  have hu:=(h.p k (by omega)).1
  show (if _ then _ else _)=(if _ then _ else _)
  rw [ih,e0,hu]
  dsimp only
  rcases leadTo_or (ofL s) k with h1 | ⟨l,h1,h2,_⟩
  ·simp [h1]
  ·rw [h2,Int.toNat_natCast,like_ofL h l (by omega)]
def s12:LS:=roundsL 3 12 (freshL 3)
def s18:LS:=roundsL 3 6 (propL 0 [120] s12)
theorem s12_lead:leadTo (ofL s12) 3=0:=by kernel_rfl
theorem s12_role:(s12.1.map fun x=>(x.role,x.log.length))=[(2,1),(0,1),(0,1)]:=by kernel_rfl
theorem s18_log:s18.1.map (fun x=>x.log.take x.commit)=List.replicate 3 [(1,[]),(1,[120])]:=by kernel_rfl
end cl
section
variable {B:Nat} {w0:World} {c n M:Nat} {C:cl.Clu} {w:World}
theorem propose_calm {i:Nat} (text:List UInt8) (htx:text.length≤100) (h:Calm B w0 c n M C w) (hb:Bd B M) (ht:TabAt w0) (hi:i < n) (hu:(C.p i).up=true) (hr:(C.p i).x.role=2) :
  Calls Tryz.prog 13 #[cptr c,.int .i64 (i:Int),.string (crcm.mk text)] w fun e w'=>e=.returned (.tuple #[.int .u64 (((C.p i).x.log.length + 1:Nat):Int),.int .i64 0])∧Calm B w0 c n (M + 1) (cl.changed C i (rf.propose (C.p i).x text).1 (rf.propose (C.p i).x text).2.1) w':=by
 obtain ⟨R,k,F,wv,h1,hF⟩:=h.at_
 have hi':i < C.n:=by rw [h.cn];exact hi
 have rd:=h.ready hb hi hu
 refine (propose_led text htx h1 rd ht hr).mono ?_
 rintro e w' ⟨z,rfl,hT⟩
 have hlm:=cl.propose_lim (by have:=hb.1;omega) rd.lim htx
 obtain ⟨rfl,h2⟩:=turned_calm h.cn hF hi h.inv h.lim (Nat.le_succ M) (fun C' hA=>cl.onward_propose h1.n7 hi' hu hA) ⟨hlm.1.mono (Nat.le_refl _) (Nat.le_succ _),fun m hm=>(hlm.2 m hm).mono (Nat.le_refl _) (Nat.le_succ _)⟩ hT
 exact ⟨by rw [if_pos rfl],h2⟩
theorem leader_calm {s:cl.LS} (h:Calm B w0 c n M C w) (hs:cl.Like C s) :
  Calls Tryz.prog 14 #[cptr c] w fun e w'=>e=.returned (.int .i64 (cl.leadTo (cl.ofL s) n))∧Below w.heap.size w w':=by
 obtain ⟨R,k,F,wv,h1,hF⟩:=h.at_
 have:=leader_any h1
 rw [cl.lead_like hs C.n (Nat.le_refl _),h.cn] at this
 exact this
theorem committed_calm {i:Nat} (h:Calm B w0 c n M C w) (hb:Bd B M) (hi:i < n) :
  Calls Tryz.prog 15 #[cptr c,.int .i64 (i:Int)] w fun e w'=>∃ D e',e=.returned (.slice D (shownLog C i).length e')∧w'.ownsRow w.heap.size 35 2 (.slice D (shownLog C i).length e') (shownLog C i).length (entCells (shownLog C i))∧Below w.heap.size w w':=by
 obtain ⟨R,k,F,wv,h1,hF⟩:=h.at_
 have hi':i < C.n:=by rw [h.cn];exact hi
 obtain ⟨g,hI⟩:=h.inv
 exact committed_any h1 hi' (fun hu=>(cl.done_of hI hi' hu).1) (fun hu=>by have:=(h.lim.up i hi' hu).len;have:=hb.1;omega)
theorem new_calm (n cap:Nat) (w:World) (h1:1≤n) (h7:n≤7) (hcap:cap≤10000000) (hB:2 * B≤cap) (ht:TabAt w) :
  Calls Tryz.prog 11 #[.int .i64 (n:Int),.int .i64 (cap:Int)] w fun e w'=>∃ c,e=.returned (.tuple #[cptr c,.int .i64 0])∧Calm B w c n 0 (cl.fresh n) w':=by
 refine (new_any_clu n cap w h1 h7 hcap hB ht).mono ?_
 rintro e w' ⟨c,R,k,F,rfl,h2,h3⟩
 refine ⟨c,rfl,rfl,⟨fun i _=>⟨Nat.zero_le _,Nat.zero_le _,fun e he=>(by cases he),by show -1≤(-1:Int);decide,by show (-1:Int)≤6;decide⟩,fun i _ _=>⟨Nat.zero_le _,fun h=>absurd (show (0:Int)=1 from h) (by decide),Nat.zero_le _,Int.le_refl _,(by decide:(0:Int)≤100),fun e he=>(by cases he),by show -1≤(-1:Int);decide,by show (-1:Int)≤6;decide⟩,fun m hm=>(by cases hm)⟩,⟨_,cl.inv_fresh n⟩,Nat.zero_le _,R,k,F,_,h2,h3⟩
end
theorem own_cell {base n d g sz:Nat} {w:World} {e:TypeId} {xs:List Value} (h:w.ownsRow base e sz (.slice (some ⟨g,0,none⟩) n d) n xs) (j:Nat) (u:Value) (hj:xs[j]?=some u):w.cell? ⟨g,j,none⟩=some u:=by
 rcases h.2 with ⟨e1,_⟩ | ⟨g',cap,cur,e1,_,hh,_,_,_,ht⟩
 ·cases e1
 ·injection e1 with e1
  injection e1 with e1
  injection e1 with e1
  subst e1
  have hv:Vb w g cur.toList e:=by unfold Vb;rw [Array.toArray_toList];exact hh
  refine hv.cell j u ?_
  rw [← ht,List.getElem?_take] at hj
  split at hj
  ·exact hj
  ·cases hj
set_option maxHeartbeats 8000000 in
theorem shown_any (w:World) (ht:TabAt w):Calls Tryz.prog 10 #[] w fun e w'=>e=.returned (.bool true)∧Below w.heap.size w w':=by
 have HNEW:=Lib.hid (new_calm (B:=500000) 3 1000000 w (by decide) (by decide) (by decide) (by decide) ht)
 have HT:=Lib.hid ht
 have HBD:Hid (∀ M,M≤100→Bd 500000 M):=Lib.hid fun M hM=>⟨by omega,by omega⟩
 clear ht
 go_enter Tryz.func10,Tryz.ntmps10
 go_upto_region 5 with (go_at_call 11;refine HNEW.out.mono ?_;rintro e w1 ⟨c,rfl,hc1⟩;have HC1:=Lib.hid hc1;unfold cptr;clear hc1)
 clear HNEW
 go_loopw [3] (fun i wr=>∃ (j:Nat) (C:cl.Clu),j≤12∧i=.int .i64 j∧Calm 500000 w c 3 (j * 3) C wr∧cl.Like C (cl.roundsL 3 j (cl.freshL 3))) (fun i _=>12 - (intOf i).toNat)
 case atStart=>exact ⟨0,_,Nat.zero_le _,rfl,HC1.out,cl.like_fresh 3⟩
 case round=>
  obtain ⟨j,C,hj,rfl,hI,hL⟩:=hrel
  have hwj:IntKind.i64.wrap ((j:Int) + 1)=(j:Int) + 1:=by rw [IntKind.wrap_i64];omega
  by_cases hlt:j < 12
  ·have hltI:(j:Int) < 12:=by omega
   have hcall:=round_calm hI hL (HBD.out _ (by omega)) HT.out
   unfold cptr at hcall
   have HCALL:=Lib.hid hcall
   have HLT:=Lib.hid hlt
   clear hI hL hcall hlt hj HC1
   go_wp2_with (go_at_call 12;refine HCALL.out.mono ?_;rintro e w2 ⟨rfl,C2,hI2,hL2⟩;have HI2:=Lib.hid (And.intro hI2 hL2);clear hI2 hL2)
   go_roundw
   case rel=>exact ⟨j + 1,C2,HLT.out,by go_num,by rw [Nat.succ_mul];exact HI2.out.1,HI2.out.2⟩
   case measure=>have:=HLT.out;simp [intOf];omega
  ·obtain rfl:j=12:=by omega
   have hL:cl.Like C cl.s12:=hL
   have hlead:=leader_calm hI hL
   rw [cl.s12_lead] at hlead
   unfold cptr at hlead
   have HLD:=Lib.hid hlead
   have h0:(C.p 0).up=true∧cl.s12.1[0]?=some (C.p 0).x:=hL.p 0 (by rw [hI.cn];decide)
   have hr0:(C.p 0).x.role=2:=by
    have e:=congrArg (fun l=>l[0]?) cl.s12_role
    simp only [List.getElem?_map,h0.2] at e
    injection e with e
    injection e with e _
   have hprop:=fun W (hb:Below wr.heap.size wr W)=>propose_calm [120] (by decide) (hI.later hb) (HBD.out _ (by omega)) HT.out (by decide:0 < 3) h0.1 hr0
   have hlp:=cl.like_propose (t:=[120]) hL (by rw [hI.cn];decide:0 < C.n)
   unfold cptr at hprop
   have HPR:=Lib.hid hprop
   have HLP:=Lib.hid hlp
   clear hI hL hlead hprop hlp h0 hr0 hlt hj hwj HC1
   go_upto_region 11 with (first | (go_at_call 14;refine HLD.out.mono ?_;rintro e w2 ⟨rfl,hb2⟩) | (go_at_call 13;refine (HPR.out _ hb2).mono ?_;rintro e w3 ⟨rfl,hI3⟩;have HI3:=Lib.hid hI3;clear hI3))
   obtain ⟨C1,hC1⟩:∃ C1,cl.changed C 0 (rf.propose (C.p 0).x [120]).1 (rf.propose (C.p 0).x [120]).2.1=C1:=⟨_,rfl⟩
   rw [hC1] at HI3 HLP
   clear hC1 hb2 HLD HPR
   go_loopw [7] (fun i wx=>∃ (m:Nat) (C:cl.Clu),m≤6∧i=.int .i64 m∧Calm 500000 w c 3 (37 + m * 3) C wx∧cl.Like C (cl.roundsL 3 m (cl.propL 0 [120] cl.s12))) (fun i _=>6 - (intOf i).toNat)
   case atStart=>exact ⟨0,_,Nat.zero_le _,rfl,HI3.out,HLP.out⟩
   case round=>
    obtain ⟨m,C2,hm,rfl,hI,hL⟩:=hrel
    have hwm:IntKind.i64.wrap ((m:Int) + 1)=(m:Int) + 1:=by rw [IntKind.wrap_i64];omega
    by_cases hlt:m < 6
    ·have hltI:(m:Int) < 6:=by omega
     have hcall:=round_calm hI hL (HBD.out _ (by omega)) HT.out
     unfold cptr at hcall
     have HCALL:=Lib.hid hcall
     have HLT:=Lib.hid hlt
     clear hI hL hcall hlt hm HLP HI3
     go_wp2_with (go_at_call 12;refine HCALL.out.mono ?_;rintro e w2 ⟨rfl,C3,hI2,hL2⟩;have HI2:=Lib.hid (And.intro hI2 hL2);clear hI2 hL2)
     go_roundw
     case rel=>exact ⟨m + 1,C3,HLT.out,by go_num,by rw [Nat.succ_mul,← Nat.add_assoc];exact HI2.out.1,HI2.out.2⟩
     case measure=>have:=HLT.out;simp [intOf];omega
    ·obtain rfl:m=6:=by omega
     have hL:cl.Like C2 cl.s18:=hL
     have hlog:∀ i,i < 3→shownLog C2 i=[(1,[]),(1,[120])]:=fun i hi=>by
      obtain ⟨h1,h2⟩:=hL.p i (by rw [hI.cn];exact hi)
      unfold shownLog
      rw [if_pos h1]
      have e:=congrArg (fun l=>l[i]?) cl.s18_log
      simp only [List.getElem?_map,h2,List.getElem?_replicate,if_pos hi] at e
      injection e with e
     have HI:=Lib.hid hI
     have HLOG:=Lib.hid hlog
     clear hI hL hlog hlt hm hwm HLP HI3
     go_upto_region 16 with fail
     (try rw [show ((6:Nat):Int)=6 from rfl])
     go_loopw [8,9] (fun a i wx=>∃ m:Nat,m≤3∧i=.int .i64 m∧a=.int .i64 m∧Calm 500000 w c 3 55 C2 wx) (fun _ i _=>3 - (intOf i).toNat)
     case atStart=>exact ⟨0,Nat.zero_le _,rfl,rfl,HI.out⟩
     case round=>
      obtain ⟨q,hq,rfl,rfl,hI⟩:=hrel
      have hwq:IntKind.i64.wrap ((q:Int) + 1)=(q:Int) + 1:=by rw [IntKind.wrap_i64];omega
      by_cases hlt:q < 3
      ·have hltI:(q:Int) < 3:=by omega
       have hcall:=committed_calm (i:=q) hI (HBD.out _ (by decide)) hlt
       rw [HLOG.out q hlt] at hcall
       unfold cptr at hcall
       have HCALL:=Lib.hid hcall
       have HLT:=Lib.hid hlt
       have HI2:=Lib.hid hI
       clear hI hcall hlt hq HI HLOG
       go_upto_region 19 with (go_at_call 15;refine HCALL.out.mono ?_;rintro e w2 ⟨D,d,rfl,hown,hb2⟩;have HO:=Lib.hid (And.intro hown hb2);clear hown hb2)
       obtain ⟨g,hD,_⟩:=own_some (n:=2) HO.out.1 (by decide)
       subst hD
       have x3:=own_cell (n:=2) HO.out.1 3 (.string ⟨#[120]⟩) rfl
       have hd2:(2:Int)≤(d:Int):=by
        rcases HO.out.1.2 with ⟨e,_⟩ | ⟨_,cap,_,e,_,_,h3,_⟩
        ·cases e
        ·injection e with _ _ e3
         have h3:2≤cap:=h3
         omega
       go_wp2_with fail
       go_roundw
       case rel=>exact ⟨q + 1,HLT.out,by go_num,by go_num,HI2.out.later HO.out.2⟩
       case measure=>have:=HLT.out;simp [intOf];omega
      ·obtain rfl:q=3:=by omega
       have hbel:=hI.bel
       have HBEL:=Lib.hid hbel
       clear hI hbel hlt hq hwq
       go_wp2_with fail
       go_ret
       exact ⟨rfl,HBEL.out⟩
end Go.Proofs.YtmcibggjolckoaaGreatDoor
