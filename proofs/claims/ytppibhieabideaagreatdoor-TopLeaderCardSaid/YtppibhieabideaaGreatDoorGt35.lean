/- A part of the walk of the program, and of its plain law. -/
import Derived.Test.YtppibhieabideaaGreatDoorGt34
namespace Go.Proofs.YtppibhieabideaaGreatDoor
set_option maxHeartbeats 4000000
open Go Go.RowKit Go.Deep
set_option maxRecDepth 100000
section
variable {w0 w:World} {a:Ad} {x:rf.Node} {M:vd.Files} {K idx last many:Nat} {cl:Value}
theorem vZ (h:Wd w0 a x M K idx last many cl w) (hM:∀ y ∈ M,Known y.1) :
  Calls Tryz.prog 249 #[.pointer (some ⟨a.wd,0,none⟩),.int .i64 0] w λe w'=>∃ v ns,e=.returned v∧KM w' v ns∧Below w.heap.size w w':=by
 have HH:=Uq (Va h);have HD:=Uq (ja h.one);have c0:=h.c0
 have HL:Hid (∀ w',Below w.heap.size w w'→Calls Tryz.prog 198 #[.pointer (some ⟨a.p,0,none⟩)] w' λe w''=>∃ v ns,e=.returned v∧KM w'' v ns∧Below w'.heap.size w' w''):=Uq λw' hb=>by
  obtain ⟨d,T,m,hF,_⟩:=(h.later hb).one.free
  refine xb hF.disk.dk (by have:=hF.few;omega) λy hy=>?_
  have hy1:y.1 ∈ d.files.map (·.1):=List.mem_map.2 ⟨y,hy,rfl⟩
  rw [hF.oth.2] at hy1;obtain ⟨z,hz,e⟩:=List.mem_map.1 hy1;rw [← e];exact hM z hz
 clear h;unfold cptr at HD
 go_enter Tryz.func249,Tryz.ntmps249
 go_wp2_with (first | (go_at_call 142;refine HH.out.mono ?_;rintro e w' ⟨rfl,rfl⟩) | (go_at_call 114;refine HD.out.mono ?_;rintro e w1 ⟨rfl,hb⟩;have HB:=Uq hb;clear hb) | (go_at_call 198;refine (HL.out _ HB.out).mono ?_;rintro e w2 ⟨v,ns,rfl,hn,hb2⟩;have HN:=Uq hn;have HB2:=Uq hb2;clear hn hb2))
 go_ret;exact ⟨v,ns,rfl,HN.out,HB.out.trans (HB2.out.mono HB.out.size)⟩
theorem Vc (h:Wd w0 a x M K idx last many cl w) (hM:∀ y ∈ M,Known y.1) :
  Calls Tryz.prog 121 #[.pointer (some ⟨a.wd,0,none⟩)] w λe w'=>e=.returned (.int .i64 0)∧Below w.heap.size w w':=by
 have HU:=Uq (uT h);have HA:=Uq (wd_all h)
 have HO:=Uq λw' (hb:Below w.heap.size w w')=>wd_over (h.later hb)
 have HN:=Uq λw' (hb:Below w.heap.size w w')=>vZ (h.later hb) hM
 have HC:=Uq λw' (hb:Below w.heap.size w w')=>(h.later hb).c1
 have c2:=h.c2;clear h
 go_enter Tryz.func121,Tryz.ntmps121
 go_upto_region 5 with (first | (go_at_call 235;refine HU.out.mono ?_;rintro e w' ⟨rfl,rfl⟩) | (go_at_call 247;refine HA.out.mono ?_;rintro e w1 ⟨rfl,hb⟩;have HB:=Uq hb;clear hb) | (go_at_call 248;refine (HO.out _ HB.out).mono ?_;rintro e w' ⟨rfl,rfl⟩))
 have c1:=HC.out _ HB.out;go_upto_region 6 with fail
 go_loopw [28] (λi wr=>(i=.int .i64 0∧wr=w1)∨(i=.int .i64 1∧Below w.heap.size w wr)) (λi _=>1 - (intOf i).toNat)
 case atStart=>exact .inl ⟨rfl,rfl⟩
 case round=>
  rcases hrel with ⟨rfl,rfl⟩ | ⟨rfl,hB⟩
  ·have HN1:=Uq (HN.out _ HB.out)
   go_upto_region 9 with (go_at_call 249;refine HN1.out.mono ?_;rintro e w2 ⟨v,ns,rfl,⟨⟨A,c,rfl,hc⟩,hl,hk⟩,hb⟩;have HCC:=Uq hc;have HB2:=Uq hb;have HK:=Uq hk;clear hc hb hk)
   obtain ⟨n,hn⟩:∃ n,ns.length=n:=⟨_,rfl⟩;rw [hn] at hl HCC ⊢;have HNN:=Uq hn;clear hn c1
   go_loopw [35] (λi wx=>∃ k:Nat,k≤n∧i=.int .i64 k∧wx=w2) (λi _=>n - (intOf i).toNat)
   case atStart=>exact ⟨0,Nat.zero_le _,rfl,rfl⟩
   case round=>
    obtain ⟨k,hk,rfl,rfl⟩:=hrel
    by_cases hlt:k < n
    ·obtain ⟨ad,rfl,c0⟩:=HCC.out k hlt
     have hkn:Known (ns.getD k []):=HK.out _ (by rw [List.getD_eq_getElem?_getD,List.getElem?_eq_getElem (by rw [HNN.out];exact hlt)];exact List.getElem_mem _)
     have HP:=Uq λW=>kp hkn 115 (.inl rfl) W
     obtain ⟨s,hs⟩:∃ s,crcm.mk (ns.getD k [])=s:=⟨_,rfl⟩;rw [hs] at c0 HP;clear hkn hs
     go_wp2_with (go_at_call 199;refine (HP.out _).mono ?_;rintro e w' ⟨rfl,rfl⟩)
     go_roundw
     case rel=>exact ⟨k + 1,by omega,by go_num,trivial⟩
     case measure=>simp [intOf];omega
    ·obtain rfl:k=n:=by omega
     go_wp2_with fail
     exact ⟨.inr ⟨rfl,HB.out.trans (HB2.out.mono HB.out.size)⟩,by simp [intOf]⟩
  ·have HBB:=Uq hB;clear hB;go_wp2_with fail;go_ret;exact ⟨rfl,HBB.out⟩
end
theorem zE {P:Program} {fn:Func} {p q:Tmp} {ty ty2:TypeId} (h:fn.results=#[.cell p ty,.cell q ty2]) (tmps:Array Value) (w:World) (g g2:Nat) (t t2:TypeId) (cs cs2:Array Value) (fr fr2:Nat × Nat) (d d2:TypeDesc)
  (hp:tmps.getD p undef=.pointer (some ⟨g,0,none⟩)) (hg:w.heap[g]?=some (.cells cs t fr)) (hu:P.underlying ty=some d) (hd:(match d with | .struct _ | .array _ _=>true | _=>false)=true) (hi:(P.info? ty).map (·.size)=some cs.size)
  (hp2:tmps.getD q undef=.pointer (some ⟨g2,0,none⟩)) (hg2:w.heap[g2]?=some (.cells cs2 t2 fr2)) (hu2:P.underlying ty2=some d2) (hd2:(match d2 with | .struct _ | .array _ _=>true | _=>false)=true) (hi2:(P.info? ty2).map (·.size)=some cs2.size) :
  (results fn tmps).run P w=.ok (.tuple #[.agg cs,.agg cs2]) w:=by
 have hp':tmps[p]?.getD undef=.pointer (some ⟨g,0,none⟩):=by simpa using hp
 have hp2':tmps[q]?.getD undef=.pointer (some ⟨g2,0,none⟩):=by simpa using hp2
 simp [results,h,hp',hp2',asAddr,run_loadVar_row w g t ty cs fr d hg hu hd hi,run_loadVar_row w g2 t2 ty2 cs2 fr2 d2 hg2 hu2 hd2 hi2]
def stA (idx:Nat) (cl:Value):Array Value:=#[.int .u64 (idx:Int),.int .u64 0,.slice none 0 0,.slice none 0 0,cl]
def efA:Array Value:=#[.int .i64 0,.bool false,.slice none 0 0,.slice none 0 0]
theorem Yj:(Tryz.prog.info? 206).map (·.size)=some 5:=by kernel_rfl
theorem yu:(Tryz.prog.info? 338).map (·.size)=some 4:=by kernel_rfl
theorem size_alloc (w:World) (o:Obj):(w.alloc o).heap.size=w.heap.size + 1:=by simp
theorem js (w:World) (N:Nat) (h:w.heap.size=N) (o1 o2 o3:Obj):(((w.alloc o1).alloc o2).alloc o3).heap[N + 1 + 1]?=some o3:=by
 have e:N + 1 + 1=((w.alloc o1).alloc o2).heap.size:=by rw [size_alloc,size_alloc,h]
 rw [e];exact heap_alloc_new _ _
theorem jt (w:World) (N:Nat) (h:w.heap.size=N) (o1 o2 o3:Obj):(((w.alloc o1).alloc o2).alloc o3).heap[N + 1]?=some o2:=by
 have e:N + 1=(w.alloc o1).heap.size:=by rw [size_alloc,h]
 rw [Below.heap_alloc _ _ _ (by rw [e,size_alloc _ o2];omega),e]
 exact heap_alloc_new _ _
theorem jQ (idx:Nat) (hidx:idx≤100) (w:World) :
  Calls Tryz.prog 250 #[.agg (stA idx (.slice none 0 0)),.string ⟨#[]⟩] w λe w'=>e=.returned (.tuple #[.agg (stA (idx + 1) (.slice none 0 0)),.agg efA])∧Below w.heap.size w w':=by
 unfold stA
 go_enter Tryz.func250,Tryz.ntmps250
 go_wp2_with fail;obtain ⟨N,hN⟩:∃ N,w.heap.size=N:=⟨_,rfl⟩;rw [hN]
 refine bodyPost_ret (zE rfl _ _ (N + 1) (N + 1 + 1) _ _ _ _ _ _ _ _ rfl (jt w N hN _ _ _) Tryz.underlying206 rfl (by rw [Yj];rfl) rfl (js w N hN _ _ _) Tryz.underlying338 rfl (by rw [yu];rfl)) rfl ?_
 rw [← hN]
 exact ⟨rfl,(((Below.refl _ w).alloc (Nat.le_refl _) _).alloc (by rw [size_alloc];omega) _).alloc (by rw [size_alloc,size_alloc];omega) _⟩
section
variable {w0 w:World} {a:Ad} {x:rf.Node} {M:vd.Files} {K idx last many:Nat} {cl:Value}
theorem YH (h:EngAt w a.p a.ge a.ed a.lg a.tb a.mm last many) :
  Calls Tryz.prog 141 #[.pointer (some ⟨a.ge,0,none⟩)] w λe w'=>e=.returned (.int .u64 (last:Int))∧w=w':=by
 have c6:w.cell? ⟨a.ge,8,none⟩=some (.int .u64 (last:Int)):=h.blk.cell 8 _ rfl;clear h
 go_enter Tryz.func141,Tryz.ntmps141
 go_wp2_with fail;go_ret;exact ⟨rfl,rfl⟩
theorem yX (h:Wd w0 a x M K idx last many (.slice none 0 0) w) (d:Value) (seq:Nat) (hl:last < seq) :
  Calls Tryz.prog 251 #[.pointer (some ⟨a.wd,0,none⟩),.int .i64 0,d,.agg efA,.int .u64 (seq:Int)] w λe w'=>e=.returned (.int .i64 0)∧Below w.heap.size w w':=by
 have HK:Hid (∀ w',Below w.heap.size w w'→w'.cell? ⟨a.wd,1,none⟩=some (.slice (some ⟨a.nb,0,none⟩) 1 1)∧Vb w' a.nb (nbC a idx (.slice none 0 0)) 208∧Calls Tryz.prog 141 #[.pointer (some ⟨a.ge,0,none⟩)] w' λe w''=>e=.returned (.int .u64 (last:Int))∧w'=w''):=Uq λw' hb=>⟨(h.later hb).c1,(h.later hb).rest.nb,YH (h.later hb).rest.eng⟩
 clear h;unfold efA;obtain ⟨c1,k,HL⟩:=HK.out (w.alloc (.cells #[.int .i64 0,.bool false,.slice none 0 0,.slice none 0 0] 338)) ((Below.refl _ w).alloc (Nat.le_refl _) _);clear HL;have n0:=k.cell 0 _ rfl;have n1:=k.cell 1 _ rfl;have n2:=k.cell 2 _ rfl;have n3:=k.cell 3 _ rfl;have n4:=k.cell 4 _ rfl;have n5:=k.cell 5 _ rfl;clear k
 go_enter Tryz.func251,Tryz.ntmps251
 go_wp2_with (go_at_call 141;refine ((HK.out _ (((Below.refl _ w).alloc (Nat.le_refl _) _).alloc (by rw [size_alloc];omega) _)).2.2).mono ?_;rintro e w' ⟨rfl,rfl⟩)
 go_ret
 exact ⟨rfl,((Below.refl _ w).alloc (Nat.le_refl _) _).alloc (by rw [size_alloc];omega) _⟩
end
section
variable {B:Nat} {w0:World} {c p b g:Nat} {x:rf.Node} {M:vd.Files} {K:Nat} {w:World}
theorem V8 {C:cl.Clu} {R k:Nat} {F:Nat→Fp} {wv:Value} {w':World} {S:List Nat} (h1:CluAt B w0 w c R C F k wv) (h2:C.n=1) (h4:C.p 0=⟨cl.stOf x,true,x⟩) (h5:(F 0).p=p) (h6:(F 0).b=b) (h7:(F 0).g=g) (hA:Apart S w w') (hS:∀ y ∈ S,w0.heap.size≤y∧jU w p b g y):CluAt B w0 w' c R C F k wv:=by
 obtain ⟨us,r1,r2⟩:=h1.row
 have hty:∀ y us u,Vb w y us u→(u=93∨u=103∨u=94∨u=229∨u=36∨u=244)→y ∉ S:=λy us u hv hu hy=>by
  rcases (hS y hy).2 with ⟨vs,t,g1,⟨n1,n2,n3,n4,n5,n6⟩,_⟩ | ⟨es,kk,g1,_⟩
  ·have e:t=u:=by
    unfold Vb at g1 hv;rw [g1] at hv
    injection hv with hv
    injection hv
   subst e
   rcases hu with hu | hu | hu | hu | hu | hu
   ·exact n1 hu
   ·exact n2 hu
   ·exact n3 hu
   ·exact n4 hu
   ·exact n5 hu
   ·exact n6 hu
  ·unfold Vb at hv;rw [g1] at hv
   cases hv
 have hno:∀ y ∈ S,qK w y:=λy hy cur e=>by
  have hv:Vb w y cur.toList 36:=by unfold Vb;rw [Array.toArray_toList];exact e
  exact hty y _ _ hv (.inr (.inr (.inr (.inr (.inl rfl))))) hy
 have hge:∀ y ∈ S,w0.heap.size≤y:=λy hy=>(hS y hy).1
 have p0:=h1.peers 0 (by omega)
 have hu:(C.p 0).up=true:=by rw [h4]
 obtain ⟨u1,u2,u3,u4,_⟩:=p0.up hu;have u4:Vb w (F 0).g (lgV (F 0).p ⟨RAFT,(F 0).a.length,false⟩) 306:=u4
 have hblk:∀ y ∈ (F 0).blocks (C.p 0).up,y ∉ S:=λy hy hyS=>by
  unfold Fp.blocks at hy;rw [hu] at hy;simp only [if_true,List.mem_cons,List.not_mem_nil,or_false] at hy
  rcases hy with rfl | rfl | rfl | rfl | rfl
  ·exact hty _ _ _ p0.blk (.inr (.inl rfl)) hyS
  ·rcases (hS _ hyS).2 with ⟨vs,t,g1,_,g2,_⟩ | ⟨es,kk,g1,_⟩
   ·have hv:=p0.disk.dk.blk
    have e:t=177:=by
     unfold Vb at g1 hv;rw [g1] at hv
     injection hv with hv
     injection hv
    exact g2 e h5
   ·have hv:=p0.disk.dk.blk;unfold Vb at hv;rw [g1] at hv
    cases hv
  ·rcases (hS _ hyS).2 with ⟨vs,t,g1,_⟩ | ⟨es,kk,g1,g2⟩
   ·exact qf g1 p0.disk.dk.map rfl
   ·exact g2 h6
  ·exact hty _ _ _ u3 (.inr (.inr (.inr (.inr (.inr rfl))))) hyS
  ·rcases (hS _ hyS).2 with ⟨vs,t,g1,_,_,g2⟩ | ⟨es,kk,g1,_⟩
   ·have e:t=306:=by
     unfold Vb at g1 u4;rw [g1] at u4
     injection u4 with u4
     injection u4
    exact g2 e h7
   ·unfold Vb at u4;rw [g1] at u4
    cases u4
 refine ⟨h1.bel.trans (hA.below _ h1.bel.size hge),h1.blk.apart hA (hty _ _ _ h1.blk (.inl rfl)),h1.hc,h1.hR,⟨us,r1.apart hA (hty _ _ _ r1 (.inr (.inr (.inl rfl)))),r2⟩,h1.n7,λj hj=>?_,h1.way.apart hA hno λy hy cur e=>?_,h1.w200,h1.sep⟩
 ·obtain rfl:j=0:=by omega
  exact p0.apart hA hno hge hblk
 ·have hv:Vb w y cur.toList 229:=by unfold Vb;rw [Array.toArray_toList];exact e
  exact hty _ _ _ hv (.inr (.inr (.inr (.inl rfl)))) hy
theorem One1.free2 (h:One1 B w0 c p b g x M K w):∃ d T m,Free w0 w p b g M K d T∧Lg w g p ⟨RAFT,m,false⟩∧w0.heap.size≤g∧T.length≤B∧K + 2 * B≤1000000 ∧
  ∀ w1 w' d' M' K' S,Apart S w w1→(∀ y ∈ S,w0.heap.size≤y∧jU w p b g y)→Apart [p,b] w1 w'→Free w0 w' p b g M' K' d' T→K' + 2 * B≤1000000→One1 B w0 c p b g x M' K' w':=by
 obtain ⟨C,R,F,k,wv,h1,h2,h3,h4,h5,h6,h7,h8,h9,h10⟩:=h.at_
 have hi:0 < C.n:=by omega
 have pi:=h1.peers 0 hi
 have hu:(C.p 0).up=true:=by rw [h4]
 obtain ⟨u1,u2,u3,u4,u5,u6⟩:=pi.up hu;have hk:=pi.kept
 refine ⟨(F 0).d,crcm.flat (F 0).a,(F 0).a.length,⟨by rw [← h5,← h6];exact pi.disk,u1,hk.calm,h8,hk.few,h10,h9,hk.one.2.1,hk.one.1,hk.one.2.2⟩,by rw [← h7,← h5];exact u4,by rw [← h7];exact u5,hk.flat,by have:=hk.room;rw [h9,h10] at this;omega,λw1 w' d' M' K' S hA1 hS1 hA hF hB=>?_⟩
 replace h1:=V8 h1 h2 h4 h5 h6 h7 hA1 hS1
 replace pi:=h1.peers 0 hi
 replace hk:=pi.kept
 obtain ⟨u1,u2,u3,u4,u5,u6⟩:=pi.up hu
 have hA2:Apart [(F 0).p,(F 0).b] w1 w':=by rw [h5,h6];exact hA
 have hqp:(F 0).q ∉ [(F 0).p,(F 0).b]:=λhx=>by
  simp only [List.mem_cons,List.not_mem_nil,or_false] at hx
  rcases hx with e | e
  ·exact qa pi.blk pi.disk.dk.blk (by decide) e
  ·exact qf pi.blk pi.disk.dk.map e
 have hv:∀ y vs t,Vb w1 y vs t→t ≠ 177→y ∉ [(F 0).p,(F 0).b]:=λy vs t hv ht hx=>by
  simp only [List.mem_cons,List.not_mem_nil,or_false] at hx
  rcases hx with e | e
  ·exact qa hv pi.disk.dk.blk ht e
  ·exact qf hv pi.disk.dk.map e
 have hE:∀ y ∈ [(F 0).p,(F 0).b],qK w1 y:=λy hy=>by
  simp only [List.mem_cons,List.not_mem_nil,or_false] at hy
  rcases hy with e | e
  ·rw [e];exact qv pi.disk.dk.blk (by decide)
  ·rw [e];exact QY pi.disk.dk.map
 have hp:PeerOk B w0 w' (C.p 0) { F 0 with d:=d' }:=by
  refine ⟨pi.blk.apart hA2 hqp,pi.ents.apart hA2 hE,pi.ok,by show Ldk w0 w' (F 0).p (F 0).b d';rw [h5,h6];exact hF.disk,pi.hq,⟨hk.wide,hk.frm,⟨hF.has,hF.raft,hF.no⟩,hk.flat,hk.many,by rw [hF.cap];omega,?_,hF.few,hF.left⟩,pi.sv,pi.dn,λ_=>?_⟩
  ·show vd.total d'.files + 2 * B≤(crcm.flat (F 0).a).length + d'.cap
   rw [hF.tot,hF.cap];omega
  ·exact ⟨hF.off,u2,Vb.apart u3 hA2 (hv _ _ _ u3 (by decide)),Vb.apart u4 hA2 (hv _ _ _ u4 (by decide)),u5,u6⟩
 have hc:=h1.peer hi hA2 (λy hy=>by
  simp only [List.mem_cons,List.not_mem_nil,or_false] at hy
  rcases hy with e | e
  ·exact .inr (.inl e)
  ·exact .inr (.inr (.inl e))) hp ⟨rfl,rfl,rfl⟩ (λhu=>.inl ⟨hu,rfl,rfl⟩)
 have e:({ C with p:=cl.upd C.p 0 (C.p 0) }:cl.Clu)=C:=by
  have e1:cl.upd C.p 0 (C.p 0)=C.p:=by
   funext j
   by_cases hj:j=0
   ·subst hj;rw [cl.upd_same]
   ·rw [cl.upd_other _ _ hj]
  rw [e1]
 rw [e] at hc
 exact ⟨C,R,_,k,wv,hc,h2,h3,h4,by rw [cl.upd_same];exact h5,by rw [cl.upd_same];exact h6,by rw [cl.upd_same];exact h7,by rw [cl.upd_same];exact hF.oth,by rw [cl.upd_same];exact hF.tot,by rw [cl.upd_same];exact hF.cap⟩
theorem xa {w w':World} {p b:Nat} {S:List Nat} (hA:Apart (p :: b :: S) w w') (hp:p < w.heap.size) (hb:b < w.heap.size) (hpb:p ≠ b):∃ w1,Apart S w w1∧Apart [p,b] w1 w':=by
 obtain ⟨op,hop⟩:∃ o,w.heap[p]?=some o:=⟨_,Array.getElem?_eq_getElem hp⟩;obtain ⟨ob,hob⟩:∃ o,w.heap[b]?=some o:=⟨_,Array.getElem?_eq_getElem hb⟩;have hs:=hA.size
 refine ⟨{ w' with heap:=(w'.heap.setIfInBounds p op).setIfInBounds b ob },⟨hA.os,hA.tape,hA.output,by simpa using hs,λk hk hkS=>?_⟩,⟨rfl,rfl,rfl,by simp,λk hk hkS=>?_⟩⟩
 ·show ((w'.heap.setIfInBounds p op).setIfInBounds b ob)[k]?=w.heap[k]?
  by_cases e1:k=b
  ·subst e1;rw [hob]
   simp [Array.getElem?_setIfInBounds]
   omega
  ·by_cases e2:k=p
   ·subst e2;rw [hop]
    simp [Array.getElem?_setIfInBounds,Ne.symm e1]
    omega
   ·rw [Array.getElem?_setIfInBounds_ne (Ne.symm e1),Array.getElem?_setIfInBounds_ne (Ne.symm e2)]
    exact hA.block k hk (by simp [e1,e2,hkS])
 ·simp only [List.mem_cons,List.not_mem_nil,or_false,not_or] at hkS
  show w'.heap[k]?=((w'.heap.setIfInBounds p op).setIfInBounds b ob)[k]?
  rw [Array.getElem?_setIfInBounds_ne (Ne.symm hkS.2),Array.getElem?_setIfInBounds_ne (Ne.symm hkS.1)]
end
section
variable {w0 w w':World} {p b ge ed lg tb mm last many:Nat} {d d2:vd.Disk}
theorem EngAt.later (h:EngAt w p ge ed lg tb mm last many) (hb:Below w.heap.size w w'):EngAt w' p ge ed lg tb mm last many:=
 ⟨(hb.block _ h.blk.lt).trans h.blk,(hb.block _ (Vb.lt h.ed)).trans h.ed,(hb.block _ (Vb.lt h.lg)).trans h.lg,(hb.block _ (Array.getElem?_eq_some_iff.1 h.tb).1).trans h.tb⟩
theorem EngAt.logs (h:EngAt w p ge ed lg tb mm last many):ed ≠ lg:=λe=>by
 subst e;have h1:=h.ed.symm.trans h.lg;simp only [lgV,Option.some.injEq,Obj.cells.injEq] at h1
 have h2:=congrArg (λa:Array Value=>a[1]?) h1.1
 simp [keyV] at h2
 exact absurd h2 (by decide)
theorem EngAt.out_ (h:EngAt w p ge ed lg tb mm last many) (hd:Ldk w0 w p b d):ge ∉ [p,b,lg]:=λhx=>by
 simp only [List.mem_cons,List.not_mem_nil,or_false] at hx
 rcases hx with e | e | e
 ·exact qa h.blk hd.dk.blk (by decide) e
 ·exact qf h.blk hd.dk.map e
 ·exact qa h.blk h.lg (by decide) e
theorem EngAt.logged (h:EngAt w p ge ed lg tb mm last many) (hd:Ldk w0 w p b d) (hA:Apart [p,b,lg] w w') {many2:Nat} (hl:Lg w' lg p ⟨ELOG,many2,false⟩) (hbt:b ≠ tb):EngAt w' p ge ed lg tb mm last many2:=by
 refine ⟨h.blk.apart hA (h.out_ hd),Vb.apart h.ed hA (λhx=>?_),hl,(hA.block _ (Array.getElem?_eq_some_iff.1 h.tb).1 (λhx=>?_)).trans h.tb⟩
 ·simp only [List.mem_cons,List.not_mem_nil,or_false] at hx
  rcases hx with e | e | e
  ·exact qa h.ed hd.dk.blk (by decide) e
  ·exact qf h.ed hd.dk.map e
  ·exact h.logs e
 ·simp only [List.mem_cons,List.not_mem_nil,or_false] at hx;have ht:=h.tb
  rcases hx with e | e | e
  ·have hp:=hd.dk.blk;unfold Vb at hp;rw [e,hp] at ht
   cases ht
  ·exact hbt e.symm
  ·have hp:Vb w lg (lgV p ⟨ELOG,many,false⟩) 306:=h.lg;unfold Vb at hp;rw [e,hp] at ht
   cases ht
theorem EngAt.told (h:EngAt w p ge ed lg tb mm last many) (n:Nat):EngAt (w.setCell ⟨ge,8,none⟩ (.int .u64 (n:Int))) p ge ed lg tb mm n many:=by
 have hA:=Apart.setCell w ge 8 (.int .u64 (n:Int))
 refine ⟨h.blk.set 8 _,Vb.apart h.ed hA (λhx=>?_),Vb.apart h.lg hA (λhx=>?_),(hA.block _ (Array.getElem?_eq_some_iff.1 h.tb).1 (λhx=>?_)).trans h.tb⟩
 ·exact qa h.ed h.blk (by decide) (by simpa using hx)
 ·exact qa h.lg h.blk (by decide) (by simpa using hx)
 ·have ht:=h.tb;have hp:=h.blk
  have e:tb=ge:=by simpa using hx
  unfold Vb at hp;rw [e,hp] at ht
  cases ht
theorem mem_out (h:qH w mm) (hE:EngAt w p ge ed lg tb mm last many) (hd:Ldk w0 w p b d):mm ∉ [p,b,lg]:=λhx=>by
 simp only [List.mem_cons,List.not_mem_nil,or_false] at hx
 rcases hx with e | e | e
 ·exact qa h hd.dk.blk (by decide) e
 ·exact qf h hd.dk.map e
 ·exact qa h hE.lg (by decide) e
theorem xy (h:Ldk w0 w p b d) {x:Nat} (hA:Apart [x] w w') (hx:w0.heap.size≤x) (hxp:p ≠ x) (hxb:b ≠ x):Ldk w0 w' p b d:=
 h.next hA (by simpa using hx) (h.dk.apart hA (by simpa using hxp) (by simpa using hxb)) h.ok rfl
theorem EngAt.mem_ (h:EngAt w p ge ed lg tb mm last many) {vs:List Value} {x:Nat} (hm:Vb w x vs 118) (hA:Apart [x] w w'):EngAt w' p ge ed lg tb mm last many:=by
 refine ⟨h.blk.apart hA (λhx=>?_),Vb.apart h.ed hA (λhx=>?_),Vb.apart h.lg hA (λhx=>?_),(hA.block _ (Array.getElem?_eq_some_iff.1 h.tb).1 (λhx=>?_)).trans h.tb⟩
 ·exact qa h.blk hm (by decide) (by simpa using hx)
 ·exact qa h.ed hm (by decide) (by simpa using hx)
 ·exact qa h.lg hm (by decide) (by simpa using hx)
 ·have ht:=h.tb
  have e:tb=x:=by simpa using hx
  unfold Vb at hm;rw [e,hm] at ht
  cases ht
structure EwAt (w0 w:World) (p b ge ed lg tb mm last many:Nat) (d:vd.Disk):Prop where
 disk:Ldk w0 w p b d
 eng:EngAt w p ge ed lg tb mm last many
 mem:qH w mm
theorem EwAt.later (h:EwAt w0 w p b ge ed lg tb mm last many d) (hb:Below w.heap.size w w'):EwAt w0 w' p b ge ed lg tb mm last many d:=
 ⟨h.disk.later hb,h.eng.later hb,(hb.block _ h.mem.lt).trans h.mem⟩
end
theorem Vx (w:World) (T:List UInt8):Strs (w.alloc (.cells #[.string (crcm.mk T)] 9)) (.slice (some ⟨w.heap.size,0,none⟩) 1 1) [T]:=⟨_,1,rfl,λk hk=>⟨_,rfl,by
 obtain rfl:k=0:=by simp at hk;omega
 rw [qn]
 exact (Vb.new w [.string (crcm.mk T)] 9).cell 0 _ rfl⟩⟩
theorem bld_nil {w:World} {b B:Nat} (hB:B≤b) (h:w.heap[b]?=some (.cells #[.pointer none,.slice none 0 0] 130 (0,0))):Bld B b [] w:=.inl ⟨hB,.slice none 0 0,h,World.ownsRow_nil _ _ _ _,by simp [Value.ownBlock]⟩
set_option maxHeartbeats 16000000 in
theorem uR {w0 w:World} {p b ge ed lg tb mm last many:Nat} {d d2:vd.Disk} (c:ce.Cell) (hm:ce.may c=true) (h1:c.ts < 18446744073709551616) (seq:Nat) (h2:seq < 18446744073709551616) (hE:EwAt w0 w p b ge ed lg tb mm last many d) (hbt:b ≠ tb) (hls:last < seq) (hlg:w0.heap.size≤lg) (hge:w0.heap.size≤ge) (hmm0:w0.heap.size≤mm)
  (happ:wl.append d ⟨ELOG,many,false⟩ [ce.enc { c with seq:=seq }]=(d2,⟨ELOG,many + 1,false⟩,0)) (hmany:many≤1000) (hflat:(crcm.flat [ce.enc { c with seq:=seq }]).length≤1000000000) (ht:TabAt w0) (b2 k2:Nat) (hca:CellAt w b2 0 c) (hk:1≤k2) :
  Calls Tryz.prog 32 #[.pointer (some ⟨ge,0,none⟩),.slice (some ⟨b2,0,none⟩) 1 k2,.int .u64 (seq:Int)] w λe w'=>∃ g n,e=.returned (.int .i64 0)∧Ldk w0 w' p b d2∧EngAt w' p ge ed lg tb mm seq (many + 1)∧Vb w' mm [.pointer (some ⟨g,0,none⟩),.int .i64 1,.int .i64 (n:Int)] 118∧Vb w' g (QZ { c with seq:=seq }) 247∧w.heap.size≤g∧Apart [p,b,lg,ge,mm] w w':=by
 have HK:Hid (∀ w',Below w.heap.size w w'→EwAt w0 w' p b ge ed lg tb mm last many d):=Uq λw' hb=>hE.later hb
 have HC:Hid (∀ w',Below w.heap.size w w'→CellAt w' b2 0 c):=Uq λw' hb=>hca.later hb
 have HGE:Hid (∀ w',Below w.heap.size w w'→w'.cell? ⟨ge,5,none⟩=some (.pointer (some ⟨lg,0,none⟩))∧w'.cell? ⟨ge,8,none⟩=some (.int .u64 (last:Int))∧w'.cell? ⟨ge,9,none⟩=some (.bool false)):=Uq λw' hb=>⟨(hE.later hb).eng.blk.cell 5 _ rfl,(hE.later hb).eng.blk.cell 8 _ rfl,(hE.later hb).eng.blk.cell 9 _ rfl⟩
 have H1:=Uq λw' (hb:Below w.heap.size w w')=>Kx c hm w' b2 k2 (hca.later hb)
 have H2:=Uq λw' (hb:Below w.heap.size w w')=>uS c w' b2 k2 (hca.later hb)
 have HENC:=Uq λw'=>Zq { c with seq:=seq } hm h1 h2 w'
 have HPUT:=Uq λw' (h:qH w' mm)=>mm_put1 { c with seq:=seq } hm h1 h2 w' mm h
 have hs0:¬ (seq:Int)=0:=by omega
 have hl0:¬ (seq:Int)≤(last:Int):=by omega
 obtain ⟨L,hL⟩:∃ L,(ce.enc { c with seq:=seq }).length=L:=⟨_,rfl⟩
 have hL2:L≤1000:=by
  obtain ⟨l1,l2,l3,_⟩:=ce.may_len hm;rw [← hL,ce.enc_len];dsimp only;omega
 obtain ⟨T,hT⟩:∃ T,ce.enc { c with seq:=seq }=T:=⟨_,rfl⟩;rw [hT] at HENC hL happ hflat
 have HAPP:Hid (∀ w' v,Below w.heap.size w w'→Strs w' v [T]→Calls Tryz.prog 97 #[.pointer (some ⟨lg,0,none⟩),v] w' λe w''=>e=.returned (.int .i64 0)∧Ldk w0 w'' p b d2∧Lg w'' lg p ⟨ELOG,many + 1,false⟩∧Apart [p,b,lg] w' w''):=Uq λw' v hb hv=>by
  have h:=XR v [T] (hE.later hb).disk (hE.later hb).eng.lg hlg hv hflat (by simp) (show ELOG.length≤200 by decide) (by show many≤1000000000;omega) ht
  rw [happ] at h;exact h
 have HSZ:=Uq (And.intro hk (And.intro hL hL2))
 have HLOW:Hid ((p < w.heap.size∧b < w.heap.size∧lg < w.heap.size∧ge < w.heap.size∧mm < w.heap.size)∧w0.heap.size≤ge∧w0.heap.size≤mm):=Uq ⟨⟨hE.disk.dk.blk.lt,by obtain ⟨es,k,h,_⟩:=hE.disk.dk.map;exact (Array.getElem?_eq_some_iff.1 h).1,Vb.lt hE.eng.lg,hE.eng.blk.lt,hE.mem.lt⟩,hge,hmm0⟩
 have HNE:=Uq hbt;have HCK:=Uq (YK hca hk);have g0:=HGE.out w (Below.refl _ _);obtain ⟨-,g8,g9⟩:=g0;unfold qO at HENC HPUT;clear hE hca hk hL hL2 hbt happ hflat ht hlg hge hmm0 hmany h1 h2 hm hT hls
 go_enter Tryz.func32,Tryz.ntmps32
 go_upto_region 6 with (go_at_call 94;refine (H1.out _ (Below.refl _ _)).mono ?_;rintro e w1 ⟨rfl,hb1⟩;have HW1:=Uq hb1;have g8:=(HGE.out _ hb1).2.1;clear hb1)
 go_upto_region 8 with (go_at_call 95;refine (H2.out _ HW1.out).mono ?_;rintro e w2 ⟨rfl,hb2⟩;have HW2:=Uq (HW1.out.trans (hb2.mono HW1.out.size));clear hb2)
 go_upto_region 9 with (go_at_call 96;refine (jL _ 1 (qt c) _ (HCK.out.later HW2.out) (by omega)).mono ?_;rintro e w3 ⟨u,rfl,ho,hb3⟩;obtain ⟨b3,k3,rfl,p1,p2,p3,p4,p5⟩:=QP ho;have HW3:=Uq (HW2.out.trans (hb3.mono HW2.out.size));have O3:=Uq p4;have F3:=Uq p5;clear hb3 ho p4 p5)
 obtain ⟨bb,hbb⟩:∃ bb,w3.heap.size=bb:=⟨_,rfl⟩;have hb4:Below w3.heap.size w3 (w3.alloc (.cells #[.pointer none,.slice none 0 0] 130)):=qd (Below.refl _ _) _;have v4:Vb (w3.alloc (.cells #[.pointer none,.slice none 0 0] 130)) w3.heap.size [.pointer none,.slice none 0 0] 130:=Vb.new w3 _ _;obtain ⟨w4,hw4⟩:∃ w4,w3.alloc (.cells #[.pointer none,.slice none 0 0] 130)=w4:=⟨_,rfl⟩
 have hs4:w4.heap.size=w3.heap.size + 1:=by rw [← hw4,size_alloc']
 go_upto_region 11 with fail;rw [hw4] at hb4 v4;rw [hbb] at v4 p2 hs4;have O4:=O3.out.later hb4
 have F4:w4.frozen? ⟨b3,3,none⟩=false:=(ZQ (hb4.block b3 (by omega))).trans (F3.out 3)
 have q3:w4.cell? ⟨b3,3,none⟩=some (.int .u64 (c.seq:Int)):=O4 3 _ rfl
 have n1:¬ b3=bb:=by omega
 have HA5:=Apart.setCell w4 b3 3 (.int .u64 (seq:Int));have O5:=O4.setSeq seq
 have v5:=v4.apart HA5 (by simp;omega)
 have hw3w:w.heap.size≤b3:=by have:=HW2.out.size;omega
 have hB5:Below w.heap.size w (w4.setCell ⟨b3,3,none⟩ (.int .u64 (seq:Int))):=(HW3.out.trans (hb4.mono HW3.out.size)).setCell (p:=⟨b3,3,none⟩) hw3w _;have hs5:=HA5.size;obtain ⟨w5,hw5⟩:∃ w5,w4.setCell ⟨b3,3,none⟩ (.int .u64 (seq:Int))=w5:=⟨_,rfl⟩;rw [hw5] at O5 v5 hB5 hs5;have HW5:=Uq hw5;have O5:=Uq O5;have V5:=Uq (bld_nil (B:=bb) (Nat.le_refl _) v5);have B5:=Uq hB5
 have HS5:Hid (bb < w5.heap.size∧b3 < bb∧w.heap.size≤b3∧1≤k3):=Uq ⟨by omega,p2,hw3w,p3⟩
 have hsix:=Qb O5.out;dsimp only at hsix;obtain ⟨e0,e1,e2,e3,e4,e5⟩:=hsix;clear HA5 v4 v5 hb4 hw4 hs4 hs5 hbb hB5 O4 hw5 O3 F3 hw3w p1 p2 p3;refine wp_loop_rounds 2 ?_;rw [rounds_succ];go_upto_region 14 with fail;rw [HW5.out]
 have hTs:(crcm.mk T).size=L:=by rw [crcm.mk_size,HSZ.out.2.1]
 have HTS:=Uq hTs;clear hTs
 go_upto_region 16 with (first
  | (go_at_call 56;refine (HENC.out _).mono ?_;rintro e w6 ⟨rfl,hb6⟩;have V6:=Uq (V5.out.below hb6);have O6:=Uq (O5.out.later hb6);have B6:=Uq (B5.out.trans (hb6.mono B5.out.size));have hs6:=hb6.size;clear hb6)
  | (go_at_call 65;refine (kQ bb bb [] (crcm.mk T) _ V6.out (by rw [HTS.out];simp;have:=HSZ.out.2.2;omega) (by have:=HS5.out.1;omega)).mono ?_;rintro e w7 ⟨⟨v7,rfl⟩,hbl,hb7⟩;have O7:=Uq (O6.out.block (hb7.block b3 HS5.out.2.1));have V7:=Uq hbl;have B7:=Uq (B6.out.trans (hb7.mono (by have:=HS5.out;omega)));have hs7:=hb7.size;clear hbl hb7))
 clear e0 e1 e2 e3 e4 e5;go_wp2_with fail;rw [rounds_succ]
 have hlen7:([] ++ Lib.strCells (crcm.mk T)).length=L:=by rw [List.nil_append];unfold Lib.strCells;rw [List.length_map,Kr,HSZ.out.2.1]
 have hL6:¬ (60000:Int) < (L:Int):=by have:=HSZ.out.2.2;omega
 have HL7:=Uq (bld_len bb bb _ w7 V7.out L hlen7)
 have HS7:Hid (bb < w7.heap.size):=Uq (by have:=HS5.out.1;omega)
 have V7s:Hid (Bld bb bb (Lib.byteCells T) w7):=Uq (by
  have h:=V7.out
  have e:[] ++ Lib.strCells (crcm.mk T)=Lib.byteCells T:=by rw [List.nil_append];unfold Lib.strCells Lib.byteCells;rw [Kr]
  rw [e] at h
  exact h)
 clear hlen7 hs6 hs7 V5 V6 V7 O5 O6 B5 B6 n1 F4 q3
 go_upto_region 19 with (go_at_call 70;refine HL7.out.mono ?_;rintro e w8 ⟨rfl,rfl⟩)
 have hW:Below w.heap.size w w7.drew:=B7.out.drew;have V7d:Hid (Bld bb bb (Lib.byteCells T) w7.drew):=Uq V7s.out;have O7d:Hid (CellAt w7.drew b3 0 { c with seq:=seq }):=Uq O7.out;have HS7d:Hid (bb≤w7.drew.heap.size):=Uq (Nat.le_of_lt HS7.out)
 go_region_held3 (λw'=>w'.cell? ⟨ge,5,none⟩=some (.pointer (some ⟨lg,0,none⟩))) (first | with_reducible exact hKL | with_reducible exact (HGE.out _ (by repeat (first | with_reducible exact hW | with_reducible apply Below.drew | with_reducible apply qd))).1) ((first
  | (go_at_call 71;refine (YR bb bb T _ V7d.out HS7d.out).mono ?_;rintro e w8 ⟨rfl,hb8⟩;have hW:=hW.trans (hb8.mono (by have:=HS5.out;omega));have hO8:=O7d.out.block (hb8.block b3 HS5.out.2.1))
  | (go_at_call 97;refine (HAPP.out _ _ (qd hW _) (Vx _ T)).mono ?_;rintro e w10 ⟨rfl,hd10,hl10,ha10⟩;have hK10:=(HK.out _ (qd hW (.cells #[.string (crcm.mk T)] 9)));have hE10:=hK10.eng.logged hK10.disk ha10 hl10 HNE.out;have hKL:w10.cell? ⟨ge,5,none⟩=some (.pointer (some ⟨lg,0,none⟩)):=hE10.blk.cell 5 _ rfl)))
 have M10:=Uq (hK10.mem.apart ha10 (mem_out hK10.mem hK10.eng hK10.disk))
 have O10:Hid (CellAt w10 b3 0 { c with seq:=seq }):=Uq ((hO8.later (qd (Below.refl _ _) (.cells #[.string (crcm.mk T)] 9))).block (ha10.block b3 (by rw [size_alloc'];have:=World.block_lt_of_cell? _ _ (hO8 0 _ rfl);dsimp only at this;omega) (by
  have h1:=HLOW.out.1;have h2:=HS5.out;simp only [List.mem_cons,List.not_mem_nil,or_false]
  omega)))
 have A10:Hid (Apart [p,b,lg,ge,mm] w w10):=Uq ((Apart.of_below (qd hW (.cells #[.string (crcm.mk T)] 9)) _).trans (ha10.mono (λx hx=>by simp only [List.mem_cons,List.not_mem_nil,or_false] at hx ⊢;omega)))
 have D10:=Uq hd10;have E10:=Uq hE10;have hsix:=Qb O10.out;dsimp only at hsix;obtain ⟨e0,e1,e2,e3,e4,e5⟩:=hsix;clear hd10 hl10 ha10 hK10 hE10 hKL hO8 hb8 hW O7 B7 V7s V7d O7d HS7d O5 HAPP HENC H1 H2 HC HCK HK HGE HL7 HTS g8 g9;go_upto_region 23 with fail;refine wp_loop_rounds 2 ?_;rw [rounds_succ];go_upto_region 25 with fail;have hb11:Below w10.heap.size w10 (w10.alloc (.cells #[.string (crcm.mk c.row),.string (crcm.mk c.col),.int .u64 (c.ts:Int),.int .u64 (seq:Int),.bool c.del,.string (crcm.mk c.val)] 46)):=qd (Below.refl _ _) _;have v11:Vb (w10.alloc (.cells #[.string (crcm.mk c.row),.string (crcm.mk c.col),.int .u64 (c.ts:Int),.int .u64 (seq:Int),.bool c.del,.string (crcm.mk c.val)] 46)) w10.heap.size (qt { c with seq:=seq }) 46:=Vb.new w10 _ _;obtain ⟨w11,hw11⟩:∃ w11,w10.alloc (.cells #[.string (crcm.mk c.row),.string (crcm.mk c.col),.int .u64 (c.ts:Int),.int .u64 (seq:Int),.bool c.del,.string (crcm.mk c.val)] 46)=w11:=⟨_,rfl⟩;obtain ⟨h,hh⟩:∃ h,w10.heap.size=h:=⟨_,rfl⟩
 have hmmh:mm < h:=by have h1:=A10.out.size;have h2:=HLOW.out.1.2.2.2.2;omega
 rw [hw11] at hb11 v11;rw [hh] at v11
 try rw [hw11]
 try rw [hh]
 have hM11:qH w11.drew mm:=(hb11.block _ M10.out.lt).trans M10.out;have hE11:EngAt w11.drew p ge ed lg tb mm last (many + 1):=E10.out.later hb11.drew;have hD11:Ldk w0 w11.drew p b d2:=D10.out.later hb11.drew
 have hmg:ge ∉ [mm]:=λhx=>qa hE11.blk hM11 (by decide) (by simpa using hx)
 have MK:Hid (∀ w',Apart [mm] w11.drew w'→w'.cell? ⟨ge,7,none⟩=some (.pointer (some ⟨mm,0,none⟩))∧w'.cell? ⟨h,0,none⟩=some (.string (crcm.mk c.row))∧w'.cell? ⟨h,1,none⟩=some (.string (crcm.mk c.col))∧w'.cell? ⟨h,2,none⟩=some (.int .u64 (c.ts:Int))∧w'.cell? ⟨h,3,none⟩=some (.int .u64 (seq:Int))∧w'.cell? ⟨h,4,none⟩=some (.bool c.del)∧w'.cell? ⟨h,5,none⟩=some (.string (crcm.mk c.val))):=Uq λw' hA=>by
  have k1:=hE11.blk.apart hA hmg
  have k2:Vb w' h (qt { c with seq:=seq }) 46:=Vb.apart (w:=w11.drew) v11 hA (by simp;omega)
  exact ⟨k1.cell 7 _ rfl,k2.cell 0 _ rfl,k2.cell 1 _ rfl,k2.cell 2 _ rfl,k2.cell 3 _ rfl,k2.cell 4 _ rfl,k2.cell 5 _ rfl⟩
 have HM11:=Uq hM11;have HE11:=Uq hE11;have HD11:=Uq hD11;have hW:Apart [mm] w11.drew w11.drew:=Apart.refl _ _
 go_region_held3 (λw'=>w'.cell? ⟨ge,7,none⟩=some (.pointer (some ⟨mm,0,none⟩))∧w'.cell? ⟨h,0,none⟩=some (.string (crcm.mk c.row))∧w'.cell? ⟨h,1,none⟩=some (.string (crcm.mk c.col))∧w'.cell? ⟨h,2,none⟩=some (.int .u64 (c.ts:Int))∧w'.cell? ⟨h,3,none⟩=some (.int .u64 (seq:Int))∧w'.cell? ⟨h,4,none⟩=some (.bool c.del)∧w'.cell? ⟨h,5,none⟩=some (.string (crcm.mk c.val))) (with_reducible exact MK.out _ hW) ((go_at_call 18;refine (HPUT.out _ HM11.out).mono ?_;rintro e w12 ⟨g,n,rfl,hv12,hg12,hge12,ha12⟩;have hW:=hW.trans ha12))
 have h0:=HLOW.out;have hE12:=HE11.out.mem_ HM11.out ha12
 have hpm:p ≠ mm:=λe=>qa HM11.out HD11.out.dk.blk (by decide) e.symm
 have hbm:b ≠ mm:=λe=>qf HM11.out HD11.out.dk.map e.symm
 have hD12:=xy HD11.out ha12 h0.2.2 hpm hbm
 have hs11:w10.heap.size < w11.heap.size:=by rw [← hw11,size_alloc'];omega
 have hge12':w11.heap.size≤g:=hge12
 have hgw:w.heap.size≤g∧¬ g=ge:=by
  have h1:=A10.out.size;omega
 have hA12:=(A10.out.trans (Apart.of_below hb11.drew _)).trans (ha12.mono (λx hx=>by simp only [List.mem_cons,List.not_mem_nil,or_false] at hx ⊢;omega))
 have k8:w12.cell? ⟨ge,8,none⟩=some (.int .u64 (last:Int)):=hE12.blk.cell 8 _ rfl;have f8:=hE12.blk.free 8
 have hpe:p ≠ ge:=λe=>qa hE12.blk hD12.dk.blk (by decide) e.symm
 have hbe:b ≠ ge:=λe=>qf hE12.blk hD12.dk.map e.symm
 have hme:mm ≠ ge:=λe=>qa hv12 hE12.blk (by decide) e
 have hA13:=Apart.setCell w12 ge 8 (.int .u64 (seq:Int));have R1:=Uq (xy hD12 hA13 h0.2.1 hpe hbe);have R2:=Uq (hE12.told seq)
 have R3:=Uq (hv12.apart hA13 (by simpa using hme))
 have R4:=Uq (hg12.apart hA13 (by simpa using hgw.2))
 have R5:=Uq hgw.1
 have R6:=Uq (hA12.trans (hA13.mono (λx hx=>by simp only [List.mem_cons,List.not_mem_nil,or_false] at hx ⊢;omega)))
 clear h0 hE12 hpm hbm hD12 hs11 hge12' hgw hA12 hpe hbe hme hA13 hv12 hg12 hge12 ha12 hW hmg hD11 hE11 hM11 hb11 v11 hh hw11 hmmh MK e0 e1 e2 e3 e4 e5;go_wp2_with fail;rw [rounds_succ];go_wp2_with fail;go_ret;exact ⟨g,n,rfl,R1.out,R2.out,R3.out,R4.out,R5.out,R6.out⟩
end Go.Proofs.YtppibhieabideaaGreatDoor
namespace Go.Proofs.YtppibhieabideaaGreatDoor
set_option maxHeartbeats 4000000
open Go Go.RowKit Go.Maps
set_option maxRecDepth 100000
section
open Classical
variable (F1 F2 F3 Z:Value)
noncomputable def fnR (v:Value):Option (DataW Unit × List MemPlace):=
 if v=F1 then some (.lit (.int .i64 1),[]) else if v=F2 then some (.lit (.int .i64 2),[]) else if v=F3 then some (.lit (.int .i64 3),[]) else if v=Z then some (.lit (.int .i64 0),[]) else none
theorem fnR_one {v:Value} {ps:List MemPlace} (h:fnR F1 F2 F3 Z v=some (.lit (.int .i64 1),ps)):v=F1:=by
 unfold fnR at h
 split at h
 ·assumption
 ·split at h
  ·simp at h
  ·split at h
   ·simp at h
   ·split at h
    ·simp at h
    ·cases h
end
theorem uU (w:World) (F1 F2 F3 Z:Value) (hz:∀ w,(zeroValue 438).run Tryz.prog w=.ok Z w) (n1:F2 ≠ F1) (n2:F3 ≠ F1) (n3:F3 ≠ F2) (z1:Z ≠ F1) (z2:Z ≠ F2) (z3:Z ≠ F3) :
  ∃ w2 w3 w4,(Instr.mapUpdate 439 (.map (some w.heap.size)) (.int .i64 1) F1).run Tryz.prog (w.alloc (.map #[] 0))=.ok () w2∧(Instr.mapUpdate 439 (.map (some w.heap.size)) (.int .i64 2) F2).run Tryz.prog w2=.ok () w3∧(Instr.mapUpdate 439 (.map (some w.heap.size)) (.int .i64 3) F3).run Tryz.prog w3=.ok () w4 ∧
   (Instr.lookup 439 (.map (some w.heap.size)) (.int .i64 1) false).run Tryz.prog w4=.ok F1 w4∧Below w.heap.size w w4:=by
 have K:Keyed Tryz.prog 3:=int_keyed Tryz.underlying3;have hT:=Tryz.underlying439
 have k1:keyOf Tryz.prog 3 (.int .i64 1)=some (.int .i64 1):=keyOf_int_mk Tryz.underlying3 (by decide)
 have k2:keyOf Tryz.prog 3 (.int .i64 2)=some (.int .i64 2):=keyOf_int_mk Tryz.underlying3 (by decide)
 have k3:keyOf Tryz.prog 3 (.int .i64 3)=some (.int .i64 3):=keyOf_int_mk Tryz.underlying3 (by decide)
 have r1:fnR F1 F2 F3 Z F1=some (.lit (.int .i64 1),[]):=by unfold fnR;rw [if_pos rfl]
 have r2:fnR F1 F2 F3 Z F2=some (.lit (.int .i64 2),[]):=by unfold fnR;rw [if_neg n1,if_pos rfl]
 have r3:fnR F1 F2 F3 Z F3=some (.lit (.int .i64 3),[]):=by unfold fnR;rw [if_neg n2,if_neg n3,if_pos rfl]
 have rz:fnR F1 F2 F3 Z Z=some (.lit (.int .i64 0),[]):=by unfold fnR;rw [if_neg z1,if_neg z2,if_neg z3,if_pos rfl]
 have h0:=World.ownsMap_made w Tryz.prog 3 (fnR F1 F2 F3 Z)
 obtain ⟨w2,e1,h1,g1⟩:=h0.update K hT (by unfold maxLen;omega) k1 r1
 obtain ⟨w3,e2,h2,g2⟩:=h1.update K hT (by unfold maxLen;omega) k2 r2
 obtain ⟨w4,e3,h3,g3⟩:=h2.update K hT (by unfold maxLen;omega) k3 r3
 obtain ⟨v,ps,e4,hv⟩:=h3.lookup K hT (hz w4) rz k1
 have hd:((((DataW.map []:DataW Unit).put (.int .i64 1) (.lit (.int .i64 1))).put (.int .i64 2) (.lit (.int .i64 2))).put (.int .i64 3) (.lit (.int .i64 3))).atKey (.int .i64 1) (.lit (.int .i64 0))=.lit (.int .i64 1):=by rfl
 rw [hd] at hv;have:=fnR_one F1 F2 F3 Z hv;subst this;have s0:(w.alloc (.map #[] 0)).heap.size=w.heap.size + 1:=size_alloc' w _
 have b1:Below w.heap.size w w2:=((Below.refl _ w).alloc (Nat.le_refl _) _).grown g1 (by omega) (λj hj=>by cases hj;exact Nat.le_refl _)
 have b2:Below w.heap.size w w3:=b1.grown g2 b1.size (λj hj=>by cases hj;exact Nat.le_refl _)
 exact ⟨w2,w3,w4,e1,e2,e3,e4,b2.grown g3 b2.size (λj hj=>by cases hj;exact Nat.le_refl _)⟩
end Go.Proofs.YtppibhieabideaaGreatDoor
namespace Go.Proofs.YtppibhieabideaaGreatDoor
set_option maxHeartbeats 4000000
open Go Go.RowKit Go.Deep
set_option maxRecDepth 100000
structure ApAt (w:World) (N:Nat) (st:List Value) (w':World):Prop where
 st:Vb w' N st 206
 rs:Vb w' (N + 1) (stV5 0 (.slice none 0 0)) 206
 re:Vb w' (N + 1 + 1) (efV (.slice none 0 0)) 338
 bel:Below N w w'
 top:w.heap.size=N
theorem ApAt.later {w w1 w2:World} {N:Nat} {st:List Value} (h:ApAt w N st w1) (hb:Below w1.heap.size w1 w2):ApAt w N st w2:=
 ⟨(hb.block _ h.st.lt).trans h.st,(hb.block _ h.rs.lt).trans h.rs,(hb.block _ h.re.lt).trans h.re,h.bel.trans (hb.mono (by rw [← h.top];exact h.bel.size)),h.top⟩
theorem ApAt.turn {w w1 w2:World} {N:Nat} {st st2:List Value} (h:ApAt w N st w1) (hs:Vb w2 N st2 206) (ha:Apart [N] w1 w2):ApAt w N st2 w2:=
 ⟨hs,h.rs.apart ha (by simp),h.re.apart ha (by simp;omega),h.bel.trans (ha.below N (by rw [← h.top];exact h.bel.size) (by simp)),h.top⟩
theorem CellAt.drew {w:World} {b o:Nat} {c:ce.Cell} (h:CellAt w b o c):CellAt w.drew b o c:=h
theorem Yc (l:List UInt8) (h:l ≠ []):((crcm.mk l).toList == [])=false:=by
 rw [Yt]
 cases l with
 | nil=>exact absurd rfl h
 | cons x r=>rfl
set_option maxHeartbeats 8000000 in
theorem Vu (c:ce.Cell) (hm:ce.may c=true) (h1:c.ts < 18446744073709551616) (h2:c.seq < 18446744073709551616) (idx:Nat) (hidx:idx≤100) (w:World) :
  Calls Tryz.prog 250 #[.agg (stA idx (.slice none 0 0)),.string (crcm.mk (tx c))] w λe w'=>∃ b2 k2 b3 k3,e=.returned (.tuple #[.agg (stA (idx + 1) (.slice (some ⟨b3,0,none⟩) 1 k3)),.agg #[.int .i64 0,.bool false,.slice (some ⟨b2,0,none⟩) 1 k2,.slice none 0 0]])∧CellAt w' b2 0 { c with seq:=idx + 1 }∧1≤k2∧w.heap.size≤b2∧Below w.heap.size w w':=by
 have hmm:=@run_makeMap Tryz.prog
 have hmf:∀ (fn:Fn) (first cap:Array Value) (w:World),(Instr.makeFunc fn first cap).run Tryz.prog w=.ok (.func fn first cap) w:=λ_ _ _ _=>rfl
 have htx:=Yc (tx c) (by unfold tx txP;simp)
 have HD:=Uq λw'=>Xm c hm h1 h2 w'
 have HBT:=Uq λN w' b k h hk hN=>Vt c (idx + 1) N w' b k h hk hN
 obtain ⟨T,hT⟩:∃ T,tx c=T:=⟨_,rfl⟩;rw [hT] at htx HD ⊢;unfold cmdV at HD HBT;unfold stA;obtain ⟨N,hN⟩:∃ N,w.heap.size=N:=⟨_,rfl⟩;obtain ⟨X,hX⟩:∃ X,((w.alloc (.cells #[.int .u64 (idx:Int),.int .u64 0,.slice none 0 0,.slice none 0 0,.slice none 0 0] 206)).alloc (.cells #[.int .u64 0,.int .u64 0,.slice none 0 0,.slice none 0 0,.slice none 0 0] 206)).alloc (.cells #[.int .i64 0,.bool false,.slice none 0 0,.slice none 0 0] 338)=X:=⟨_,rfl⟩
 have hA:ApAt w N (stV5 idx (.slice none 0 0)) X:=by
  refine ⟨?_,?_,?_,?_,hN⟩
  ·rw [← hX,← hN]
   exact (Below.heap_alloc _ _ _ (by rw [size_alloc',size_alloc'];omega)).trans ((Below.heap_alloc _ _ _ (by rw [size_alloc'];omega)).trans (heap_alloc_new w _))
  ·rw [← hX];exact jt w N hN _ _ _
  ·rw [← hX];exact js w N hN _ _ _
  ·rw [← hX,← hN];exact qd (qd (qd (Below.refl _ _) _) _) _
 have c0:X.cell? ⟨N,0,none⟩=some (.int .u64 (idx:Int)):=hA.st.cell 0 _ rfl;have f0:=hA.st.free 0;have HA0:=Uq hA;have HX:=Uq hX;have HN:=Uq hN;clear hA hX hN hT h1 h2 hm
 go_enter Tryz.func250,Tryz.ntmps250
 go_upto_region 1 with fail;rw [HX.out,HN.out];go_upto_region 4 with fail
 have ei:(idx:Int) + 1=((idx + 1:Nat):Int):=by omega
 have hA1:ApAt w N (stV5 (idx + 1) (.slice none 0 0)) (X.setCell ⟨N,0,none⟩ (.int .u64 ((idx:Int) + 1))):=by
  refine HA0.out.turn ?_ (Apart.setCell X N 0 _);rw [ei];exact HA0.out.st.set 0 (.int .u64 ((idx + 1:Nat):Int))
 obtain ⟨X1,hX1⟩:∃ X1,X.setCell ⟨N,0,none⟩ (.int .u64 ((idx:Int) + 1))=X1:=⟨_,rfl⟩;rw [hX1] at hA1 ⊢;have HA1:=Uq hA1;have HEI:=Uq ei;clear hA1 hX1 ei c0 f0 HA0 HX
 go_upto_region 7 with (go_at_call 360;refine (HD.out _).mono ?_;rintro e w1 ⟨b,k,rfl,hca,hk,hge,hb⟩;have HA2:=Uq (HA1.out.later hb);have HCA:=Uq hca;have HK:=Uq hk;clear hca hk hge hb)
 have hb2:Below w1.heap.size w1 (w1.alloc (.cells #[.int .i64 1,.int .u64 1,.int .u64 1,.slice (some ⟨b,0,none⟩) 1 k,.string ⟨#[]⟩,.int .u64 0,.int .u32 0,.int .u64 0,.slice none 0 0] 81)):=qd (Below.refl _ _) _;have v2:Vb (w1.alloc (.cells #[.int .i64 1,.int .u64 1,.int .u64 1,.slice (some ⟨b,0,none⟩) 1 k,.string ⟨#[]⟩,.int .u64 0,.int .u32 0,.int .u64 0,.slice none 0 0] 81)) w1.heap.size (cmC 1 1 1 (.slice (some ⟨b,0,none⟩) 1 k)) 81:=Vb.new w1 _ _;obtain ⟨w2,hw2⟩:∃ w2,w1.alloc (.cells #[.int .i64 1,.int .u64 1,.int .u64 1,.slice (some ⟨b,0,none⟩) 1 k,.string ⟨#[]⟩,.int .u64 0,.int .u32 0,.int .u64 0,.slice none 0 0] 81)=w2:=⟨_,rfl⟩;obtain ⟨g,hg⟩:∃ g,w1.heap.size=g:=⟨_,rfl⟩;rw [hw2] at hb2 v2 ⊢;rw [hg] at v2 ⊢;have HA3:=Uq (HA2.out.later hb2);have HCA3:=Uq (HCA.out.later hb2)
 obtain ⟨w3,w4,w5,e1,e2,e3,e4,hb5⟩:=uU w2 (.func (.func 361) #[.pointer (some ⟨N,0,none⟩)] #[]) (.func (.func 362) #[.pointer (some ⟨N,0,none⟩)] #[]) (.func (.func 363) #[.pointer (some ⟨N,0,none⟩)] #[]) .nilFunc Tryz.zeroValue438 (by simp) (by simp) (by simp) (by simp) (by simp) (by simp)
 have HA5:=Uq (HA3.out.later hb5);have HCA5:=Uq (HCA3.out.later hb5);have V5:Hid (Vb w5 g (cmC 1 1 1 (.slice (some ⟨b,0,none⟩) 1 k)) 81):=Uq ((hb5.block _ v2.lt).trans v2);obtain ⟨a0,a1,a2,a3,a4,a5,a6,a7,a8⟩:w5.cell? ⟨g,0,none⟩=some (.int .i64 1)∧w5.cell? ⟨g,1,none⟩=some (.int .u64 1)∧w5.cell? ⟨g,2,none⟩=some (.int .u64 1)∧w5.cell? ⟨g,3,none⟩=some (.slice (some ⟨b,0,none⟩) 1 k)∧w5.cell? ⟨g,4,none⟩=some (.string ⟨#[]⟩)∧w5.cell? ⟨g,5,none⟩=some (.int .u64 0)∧w5.cell? ⟨g,6,none⟩=some (.int .u32 0)∧w5.cell? ⟨g,7,none⟩=some (.int .u64 0)∧w5.cell? ⟨g,8,none⟩=some (.slice none 0 0):=Ko V5.out;clear hb2 v2 hw2 hg hb5 HA2 HCA HA3 HCA3 HA1 HD
 go_upto_region 9 with (go_at_call 361;refine (HBT.out N w5 b k HCA5.out HK.out HA5.out.st).mono ?_;rintro e w6 ⟨b2,k2,b3,k3,rfl,hca,hk,hge,hst,hap⟩;have HA6:=Uq (HA5.out.turn hst hap);have HCA6:=Uq hca;have HK6:=Uq (And.intro hk hge);clear hca hk hge hst hap)
 have hb7:Below w6.heap.size w6 (w6.alloc (.cells #[.int .i64 0,.bool false,.slice (some ⟨b2,0,none⟩) 1 k2,.slice none 0 0] 338)):=qd (Below.refl _ _) _;have v7:Vb (w6.alloc (.cells #[.int .i64 0,.bool false,.slice (some ⟨b2,0,none⟩) 1 k2,.slice none 0 0] 338)) w6.heap.size [.int .i64 0,.bool false,.slice (some ⟨b2,0,none⟩) 1 k2,.slice none 0 0] 338:=Vb.new w6 _ _;obtain ⟨w7,hw7⟩:∃ w7,w6.alloc (.cells #[.int .i64 0,.bool false,.slice (some ⟨b2,0,none⟩) 1 k2,.slice none 0 0] 338)=w7:=⟨_,rfl⟩;obtain ⟨g9,hg9⟩:∃ g,w6.heap.size=g:=⟨_,rfl⟩
 have hn2:N + 1 + 1 < b2∧w.heap.size≤b2:=by
  have h1:=HK6.out.2;have h2:N + 1 + 1 < w5.heap.size:=HA5.out.re.lt;have h3:=HN.out;omega
 have hg9l:N + 1 + 1 < w6.heap.size:=HA6.out.re.lt;rw [hw7] at hb7 v7 ⊢;rw [hg9] at v7 hg9l ⊢
 have l1:¬ g9=N + 1:=by omega
 have l2:¬ g9=N + 1 + 1:=by omega
 have l3:¬ N + 1=g9:=by omega
 have l4:¬ N + 1 + 1=g9:=by omega
 have HG9:=Uq hg9l;clear hg9l;have HA7:=Uq (HA6.out.later hb7);have HCA7:=Uq (HCA6.out.later hb7);have HN2:=Uq hn2;have s0:w7.cell? ⟨N,0,none⟩=some (.int .u64 ((idx + 1:Nat):Int)):=HA7.out.st.cell 0 _ rfl;have s1:w7.cell? ⟨N,1,none⟩=some (.int .u64 0):=HA7.out.st.cell 1 _ rfl;have s2:w7.cell? ⟨N,2,none⟩=some (.slice none 0 0):=HA7.out.st.cell 2 _ rfl;have s3:w7.cell? ⟨N,3,none⟩=some (.slice none 0 0):=HA7.out.st.cell 3 _ rfl;have s4:w7.cell? ⟨N,4,none⟩=some (.slice (some ⟨b3,0,none⟩) 1 k3):=HA7.out.st.cell 4 _ rfl;have q0:w7.cell? ⟨g9,0,none⟩=some (.int .i64 0):=v7.cell 0 _ rfl;have q1:w7.cell? ⟨g9,1,none⟩=some (.bool false):=v7.cell 1 _ rfl;have q2:w7.cell? ⟨g9,2,none⟩=some (.slice (some ⟨b2,0,none⟩) 1 k2):=v7.cell 2 _ rfl;have q3:w7.cell? ⟨g9,3,none⟩=some (.slice none 0 0):=v7.cell 3 _ rfl;have y0:w7.cell? ⟨N + 1,0,none⟩=some (.int .u64 0):=HA7.out.rs.cell 0 _ rfl;have y1:w7.cell? ⟨N + 1,1,none⟩=some (.int .u64 0):=HA7.out.rs.cell 1 _ rfl;have y2:w7.cell? ⟨N + 1,2,none⟩=some (.slice none 0 0):=HA7.out.rs.cell 2 _ rfl;have y3:w7.cell? ⟨N + 1,3,none⟩=some (.slice none 0 0):=HA7.out.rs.cell 3 _ rfl;have y4:w7.cell? ⟨N + 1,4,none⟩=some (.slice none 0 0):=HA7.out.rs.cell 4 _ rfl;have z0:=HA7.out.rs.free 0;have z1:=HA7.out.rs.free 1;have z2:=HA7.out.rs.free 2;have z3:=HA7.out.rs.free 3;have z4:=HA7.out.rs.free 4;have u0:w7.cell? ⟨N + 1 + 1,0,none⟩=some (.int .i64 0):=HA7.out.re.cell 0 _ rfl;have u1:w7.cell? ⟨N + 1 + 1,1,none⟩=some (.bool false):=HA7.out.re.cell 1 _ rfl;have u2:w7.cell? ⟨N + 1 + 1,2,none⟩=some (.slice none 0 0):=HA7.out.re.cell 2 _ rfl;have u3:w7.cell? ⟨N + 1 + 1,3,none⟩=some (.slice none 0 0):=HA7.out.re.cell 3 _ rfl;have x0:=HA7.out.re.free 0;have x1:=HA7.out.re.free 1;have x2:=HA7.out.re.free 2;have x3:=HA7.out.re.free 3;clear hb7 v7 hw7 hg9 hn2 HA5 HCA5 V5 a0 a1 a2 a3 a4 a5 a6 a7 a8 e1 e2 e3 e4 HA6 HCA6 HBT htx
 have k1:¬ N + 1=N + 1 + 1:=by omega
 have k2':¬ N + 1 + 1=N + 1:=by omega
 go_region;have hn2:=HN2.out;have hR0:Vb (((((w7.setCell ⟨N + 1,0,none⟩ (.int .u64 ((idx:Int) + 1))).setCell ⟨N + 1,1,none⟩ (.int .u64 0)).setCell ⟨N + 1,2,none⟩ (.slice none 0 0)).setCell ⟨N + 1,3,none⟩ (.slice none 0 0)).setCell ⟨N + 1,4,none⟩ (.slice (some ⟨b3,0,none⟩) 1 k3)) (N + 1) [.int .u64 ((idx:Int) + 1),.int .u64 0,.slice none 0 0,.slice none 0 0,.slice (some ⟨b3,0,none⟩) 1 k3] 206:=(((((HA7.out.rs.set 0 (.int .u64 ((idx:Int) + 1))).set 1 (.int .u64 0)).set 2 (.slice none 0 0)).set 3 (.slice none 0 0)).set 4 (.slice (some ⟨b3,0,none⟩) 1 k3));have hA1:=(((((Apart.setCell w7 (N + 1) 0 (.int .u64 ((idx:Int) + 1))).trans (Apart.setCell _ (N + 1) 1 (.int .u64 0))).trans (Apart.setCell _ (N + 1) 2 (.slice none 0 0))).trans (Apart.setCell _ (N + 1) 3 (.slice none 0 0))).trans (Apart.setCell _ (N + 1) 4 (.slice (some ⟨b3,0,none⟩) 1 k3)))
 have HE12:=HA7.out.re.apart hA1 (by simp)
 have hA2:=((((Apart.setCell (((((w7.setCell ⟨N + 1,0,none⟩ (.int .u64 ((idx:Int) + 1))).setCell ⟨N + 1,1,none⟩ (.int .u64 0)).setCell ⟨N + 1,2,none⟩ (.slice none 0 0)).setCell ⟨N + 1,3,none⟩ (.slice none 0 0)).setCell ⟨N + 1,4,none⟩ (.slice (some ⟨b3,0,none⟩) 1 k3)) (N + 1 + 1) 0 (.int .i64 0)).trans (Apart.setCell _ (N + 1 + 1) 1 (.bool false))).trans (Apart.setCell _ (N + 1 + 1) 2 (.slice (some ⟨b2,0,none⟩) 1 k2))).trans (Apart.setCell _ (N + 1 + 1) 3 (.slice none 0 0)))
 have hR1:=hR0.apart hA2 (by simp)
 have hE1:Vb (((((((((w7.setCell ⟨N + 1,0,none⟩ (.int .u64 ((idx:Int) + 1))).setCell ⟨N + 1,1,none⟩ (.int .u64 0)).setCell ⟨N + 1,2,none⟩ (.slice none 0 0)).setCell ⟨N + 1,3,none⟩ (.slice none 0 0)).setCell ⟨N + 1,4,none⟩ (.slice (some ⟨b3,0,none⟩) 1 k3)).setCell ⟨N + 1 + 1,0,none⟩ (.int .i64 0)).setCell ⟨N + 1 + 1,1,none⟩ (.bool false)).setCell ⟨N + 1 + 1,2,none⟩ (.slice (some ⟨b2,0,none⟩) 1 k2)).setCell ⟨N + 1 + 1,3,none⟩ (.slice none 0 0)) (N + 1 + 1) [.int .i64 0,.bool false,.slice (some ⟨b2,0,none⟩) 1 k2,.slice none 0 0] 338:=((((HE12.set 0 (.int .i64 0)).set 1 (.bool false)).set 2 (.slice (some ⟨b2,0,none⟩) 1 k2)).set 3 (.slice none 0 0))
 have hB:=(((((((((HA7.out.bel.setCell (p:=⟨N + 1,0,none⟩) (by show N≤N + 1;omega) (.int .u64 ((idx:Int) + 1))).setCell (p:=⟨N + 1,1,none⟩) (by show N≤N + 1;omega) (.int .u64 0)).setCell (p:=⟨N + 1,2,none⟩) (by show N≤N + 1;omega) (.slice none 0 0)).setCell (p:=⟨N + 1,3,none⟩) (by show N≤N + 1;omega) (.slice none 0 0)).setCell (p:=⟨N + 1,4,none⟩) (by show N≤N + 1;omega) (.slice (some ⟨b3,0,none⟩) 1 k3)).setCell (p:=⟨N + 1 + 1,0,none⟩) (by show N≤N + 1 + 1;omega) (.int .i64 0)).setCell (p:=⟨N + 1 + 1,1,none⟩) (by show N≤N + 1 + 1;omega) (.bool false)).setCell (p:=⟨N + 1 + 1,2,none⟩) (by show N≤N + 1 + 1;omega) (.slice (some ⟨b2,0,none⟩) 1 k2)).setCell (p:=⟨N + 1 + 1,3,none⟩) (by show N≤N + 1 + 1;omega) (.slice none 0 0))
 have hl7:b2 < w7.heap.size:=World.block_lt_of_cell? _ _ (HCA7.out 0 _ rfl)
 have hc1:=HCA7.out.block (hA1.block b2 hl7 (by simp;omega))
 have hc2:=hc1.block (hA2.block b2 (by have:=hA1.size;omega) (by simp;omega))
 obtain ⟨WF,hWF⟩:∃ WF,(((((((((w7.setCell ⟨N + 1,0,none⟩ (.int .u64 ((idx:Int) + 1))).setCell ⟨N + 1,1,none⟩ (.int .u64 0)).setCell ⟨N + 1,2,none⟩ (.slice none 0 0)).setCell ⟨N + 1,3,none⟩ (.slice none 0 0)).setCell ⟨N + 1,4,none⟩ (.slice (some ⟨b3,0,none⟩) 1 k3)).setCell ⟨N + 1 + 1,0,none⟩ (.int .i64 0)).setCell ⟨N + 1 + 1,1,none⟩ (.bool false)).setCell ⟨N + 1 + 1,2,none⟩ (.slice (some ⟨b2,0,none⟩) 1 k2)).setCell ⟨N + 1 + 1,3,none⟩ (.slice none 0 0)).drew=WF:=⟨_,rfl⟩;have hR2:=kY hR1;have hE2:=kY hE1;have hB2:=hB.drew;have hC2:=hc2.drew;rw [hWF] at hR2 hE2 hB2 hC2;rw [← HN.out] at hB2;rw [hWF];have HR1:=Uq hR2;have HE1:=Uq hE2;have HBB:=Uq hB2;have HC2:=Uq hC2;clear hR0 hA1 HE12 hA2 hR1 hE1 hB hl7 hc1 hc2 hn2 s0 s1 s2 s3 s4 q0 q1 q2 q3 y0 y1 y2 y3 y4 z0 z1 z2 z3 z4 u0 u1 u2 u3 x0 x1 x2 x3 k1 k2' l1 l2 l3 l4 hR2 hE2 hB2 hC2 hWF;go_wp2_with fail
 refine bodyPost_ret (zE rfl _ _ (N + 1) (N + 1 + 1) _ _ _ _ (0,0) (0,0) _ _ rfl HR1.out Tryz.underlying206 rfl (by rw [Yj];rfl) rfl HE1.out Tryz.underlying338 rfl (by rw [yu];rfl)) rfl ?_
 exact ⟨b2,k2,b3,k3,rfl,HC2.out,HK6.out.1,HN2.out.2,HBB.out⟩
end Go.Proofs.YtppibhieabideaaGreatDoor
