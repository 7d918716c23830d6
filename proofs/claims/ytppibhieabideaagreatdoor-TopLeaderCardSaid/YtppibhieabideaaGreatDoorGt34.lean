/- A part of the walk of the program, and of its plain law. -/
import Derived.Test.YtppibhieabideaaGreatDoorGt33
namespace Go.Proofs.YtppibhieabideaaGreatDoor
set_option maxHeartbeats 4000000
open Go Go.RowKit Go.Deep
set_option maxRecDepth 100000
def sF (p b g:Nat):Nat→Fp:=λ_=>⟨0,p,b,0,g,none,0,.pointer none,[],⟨0,[],false,0,0⟩⟩
abbrev Qe (p b g:Nat) (w w':World):Prop:=Stay (sF p b g) 1 w w'
def Oth (M M':vd.Files):Prop:=(∀ n,n ≠ RAFT→vd.at_ M' n=vd.at_ M n∧vd.has M' n=vd.has M n)∧M'.map (·.1)=M.map (·.1)
theorem Oth.refl (M:vd.Files):Oth M M:=⟨λ_ _=>⟨rfl,rfl⟩,rfl⟩
theorem Oth.trans {a b c:vd.Files} (h:Oth a b) (k:Oth b c):Oth a c:=⟨λn hn=>⟨(k.1 n hn).1.trans (h.1 n hn).1,(k.1 n hn).2.trans (h.1 n hn).2⟩,k.2.trans h.2⟩
structure One1 (B:Nat) (w0:World) (c p b g:Nat) (x:rf.Node) (M:vd.Files) (K:Nat) (w:World):Prop where
 at_:∃ C R F k wv,CluAt B w0 w c R C F k wv∧C.n=1∧C.way=[]∧C.p 0=⟨cl.stOf x,true,x⟩∧(F 0).p=p∧(F 0).b=b∧(F 0).g=g∧Oth M (F 0).d.files∧vd.total (F 0).d.files=(crcm.flat (F 0).a).length + K∧(F 0).d.cap=1000000
section
variable {B:Nat} {w0:World} {c p b g:Nat} {x:rf.Node} {M:vd.Files} {K:Nat} {w:World}
theorem One1.later {w':World} (h:One1 B w0 c p b g x M K w) (hb:Below w.heap.size w w'):One1 B w0 c p b g x M K w':=by
 obtain ⟨C,R,F,k,wv,h1,h2⟩:=h.at_;exact ⟨C,R,F,k,wv,h1.later hb,h2⟩
theorem K8 {F:Nat→Fp} (hp:(F 0).p=p) (hb:(F 0).b=b) (hg:(F 0).g=g) {w w':World} (h:Stay F 1 w w'):Qe p b g w w':=
 h.fp λi hi=>by
  obtain rfl:i=0:=by omega
  exact ⟨hp.symm,hb.symm,hg.symm⟩
structure Able (M:Nat) (x:rf.Node):Prop where
 id:x.id=0
 many:x.many=1
 lim:cl.NdLim M M x
theorem kw {C:cl.Clu} {m:Nat} (a:Able m x) (h1:C.n=1) (h2:C.way=[]) (h3:C.p 0=⟨cl.stOf x,true,x⟩) (hm:m + 1≤9990) (hB:206 * (m + 2)≤B):Ready m m B C 0:=
 ⟨by omega,by rw [h3],by rw [h3],by rw [h3];exact a.id,by rw [h3,h1];exact a.many,by rw [h3];exact a.lim,by rw [h2];simp,hm,by omega,hB⟩
theorem Yr {C:cl.Clu} {R k:Nat} {F:Nat→Fp} {y:rf.Node} {z:Int} {w':World} (h1:C.n=1) (h2:C.way=[]) (hp:(F 0).p=p) (hb:(F 0).b=b) (hg:(F 0).g=g) (hM:Oth M (F 0).d.files) (hK:vd.total (F 0).d.files=(crcm.flat (F 0).a).length + K) (hC:(F 0).d.cap=1000000) (h:Turned B w0 c R C F k 0 y [] z w w'):z=0∧One1 B w0 c p b g y M K w'∧Qe p b g w w':=by
 obtain ⟨C',F',wv',t1,⟨hfp,hz,rfl⟩,t3⟩:=h;rw [h1] at t3
 refine ⟨hz,⟨_,R,F',k,wv',t1,h1,?_,cl.upd_same C.p 0 (⟨cl.stOf y,true,y⟩:cl.Nd),hfp.p.trans hp,hfp.b.trans hb,hfp.g.trans hg,hM.trans ⟨hfp.oth,hfp.nam⟩,by have:=hfp.tot;omega,hfp.cap.trans hC⟩,K8 hp hb hg t3⟩
 show cl.last (C.way ++ [])=[]
 rw [h2]
 rfl
theorem ub {m:Nat} (h:One1 B w0 c p b g x M K w) (a:Able m x) (hq:(rf.tick x).2=[]) (hm:m + 1≤9990) (hB:206 * (m + 2)≤B) (ht:TabAt w0) :
  Calls Tryz.prog 42 #[cptr c,.int .i64 0] w λe w'=>e=.returned (.int .i64 0)∧One1 B w0 c p b g (rf.tick x).1 M K w'∧Qe p b g w w':=by
 obtain ⟨C,R,F,k,wv,h1,h2,h3,h4,h5,h6,h7,h8,h9,h10⟩:=h.at_;have hc:=xf h1 (kw a h2 h3 h4 hm hB) ht;rw [h4] at hc;dsimp only at hc;rw [hq] at hc;refine hc.mono ?_;rintro e w' ⟨z,rfl,hT⟩;obtain ⟨rfl,k1,k2⟩:=Yr h2 h3 h5 h6 h7 h8 h9 h10 hT;exact ⟨rfl,k1,k2⟩
theorem Able.tick {m:Nat} (a:Able m x) (hm:m + 1≤9990) (h1:(rf.tick x).1.id=x.id∧(rf.tick x).1.many=x.many):Able (m + 1) (rf.tick x).1:=
 ⟨h1.1.trans a.id,h1.2.trans a.many,(cl.tick_lim (by omega) a.lim (by rw [a.id];decide) (by rw [a.id];decide)).1⟩
theorem K9 {m:Nat} (text:List UInt8) (htx:text.length≤100) (h:One1 B w0 c p b g x M K w) (a:Able m x) (hr:x.role=2) (hq:(rf.propose x text).2.1=[]) (hm:m + 1≤9990) (hB:206 * (m + 2)≤B) (ht:TabAt w0) :
  Calls Tryz.prog 11 #[cptr c,.int .i64 0,.string (crcm.mk text)] w λe w'=>e=.returned (.tuple #[.int .u64 ((x.log.length + 1:Nat):Int),.int .i64 0])∧One1 B w0 c p b g (rf.propose x text).1 M K w'∧Qe p b g w w':=by
 obtain ⟨C,R,F,k,wv,h1,h2,h3,h4,h5,h6,h7,h8,h9,h10⟩:=h.at_
 have hc:=yw text htx h1 (kw a h2 h3 h4 hm hB) ht (by rw [h4];exact hr)
 rw [h4] at hc;dsimp only at hc;rw [hq] at hc;refine hc.mono ?_;rintro e w' ⟨z,rfl,hT⟩;obtain ⟨rfl,k1,k2⟩:=Yr h2 h3 h5 h6 h7 h8 h9 h10 hT
 exact ⟨by rw [if_pos rfl],k1,k2⟩
theorem JE (h:One1 B w0 c p b g x M K w) :
  Calls Tryz.prog 12 #[cptr c] w λe w'=>e=.returned (.int .i64 (if x.role=2 then 0 else -1))∧Below w.heap.size w w':=by
 obtain ⟨C,R,F,k,wv,h1,h2,h3,h4,h5,h6,h7,h8,h9,h10⟩:=h.at_;have hl:=Yy h1
 have e:cl.leadTo C C.n=if x.role=2 then 0 else -1:=by
  rw [h2]
  by_cases hr:x.role=2
  ·rw [if_pos hr]
   exact cl.leadTo_yes (C:=C) (k:=0) ⟨by rw [h4],by rw [h4];exact hr,.inl rfl⟩
  ·rw [if_neg hr]
   exact cl.leadTo_no (C:=C) (k:=0) (λh=>hr (by have:=h.2.1;rw [h4] at this;exact this))
 rw [e] at hl;exact hl
theorem one_up (h:One1 B w0 c p b g x M K w) :
  Calls Tryz.prog 156 #[cptr c,.int .i64 0] w λe w'=>e=.returned (.bool true)∧Below w.heap.size w w':=by
 obtain ⟨C,R,F,k,wv,h1,h2,h3,h4,h5,h6,h7,h8,h9,h10⟩:=h.at_
 have hu:=Jg (i:=0) h1 (by omega)
 rw [h4] at hu;exact hu
theorem ja (h:One1 B w0 c p b g x M K w) :
  Calls Tryz.prog 114 #[cptr c,.int .i64 0] w λe w'=>e=.returned (.pointer (some ⟨p,0,none⟩))∧Below w.heap.size w w':=by
 obtain ⟨C,R,F,k,wv,h1,h2,h3,h4,h5,h6,h7,h8,h9,h10⟩:=h.at_
 have hu:=uV (i:=0) h1 (by omega)
 rw [h5] at hu;exact hu
theorem zd (h:One1 B w0 c p b g x M K w) (hc:x.commit≤x.log.length) (hl:x.log.length≤10000) :
  Calls Tryz.prog 13 #[cptr c,.int .i64 0] w λe w'=>∃ D e',e=.returned (.slice D (x.log.take x.commit).length e')∧w'.ownsRow w.heap.size 36 2 (.slice D (x.log.take x.commit).length e') (x.log.take x.commit).length (qg (x.log.take x.commit))∧Below w.heap.size w w':=by
 obtain ⟨C,R,F,k,wv,h1,h2,h3,h4,h5,h6,h7,h8,h9,h10⟩:=h.at_
 have hu:=Zg (i:=0) h1 (by omega) (by rw [h4];exact λ_=>hc) (by rw [h4];exact λ_=>hl)
 have e:Qp C 0=x.log.take x.commit:=by
  unfold Qp;rw [h4,if_pos rfl]
 rw [e] at hu;exact hu
theorem uc (keep:Int) (h:One1 B w0 c p b g x M K w) :
  Calls Tryz.prog 117 #[cptr c,.int .i64 0,.int .i64 0,.int .i64 keep] w λe w'=>e=.returned (.int .i64 0)∧One1 B w0 c p b g x M K w'∧Qe p b g w w':=by
 obtain ⟨C,R,F,k,wv,h1,h2,h3,h4,h5,h6,h7,h8,h9,h10⟩:=h.at_
 refine (fuse_up (i:=0) 0 keep h1 (by omega) (by rw [h4]) (Int.le_refl _)).mono ?_
 rintro e w' ⟨rfl,hf,hs⟩;rw [h2] at hs
 exact ⟨rfl,⟨C,R,_,k,wv,hf,h2,h3,h4,by rw [cl.upd_same];exact h5,by rw [cl.upd_same];exact h6,by rw [cl.upd_same];exact h7,by rw [cl.upd_same];exact h8,by rw [cl.upd_same];exact h9,by rw [cl.upd_same];exact h10⟩,K8 h5 h6 h7 hs⟩
theorem XH {m:Nat} (h:One1 B w0 c p b g x M K w) (a:Able m x) (hq:(rf.tick x).2=[]) (hm:m + 1≤9990) (hB:206 * (m + 2)≤B) (ht:TabAt w0) :
  Calls Tryz.prog 10 #[cptr c] w λe w'=>e=.returned (.tuple #[])∧One1 B w0 c p b g (rf.tick x).1 M K w'∧Qe p b g w w':=by
 obtain ⟨C,R,F,k,wv,h1,h2,h3,h4,h5,h6,h7,h8,h9,h10⟩:=h.at_;have c0:=h1.c0;rw [h2] at c0
 refine kj (n:=1) (λj w'=>(j=0∧One1 B w0 c p b g x M K w'∧Qe p b g w w')∨(j=1∧One1 B w0 c p b g (rf.tick x).1 M K w'∧Qe p b g w w')) (λ_ w'=>One1 B w0 c p b g (rf.tick x).1 M K w'∧Qe p b g w w') (λw'=>One1 B w0 c p b g (rf.tick x).1 M K w'∧Qe p b g w w') (by omega) c0 (.inl ⟨rfl,h,Stay.refl _ _ _⟩) (λj w1 hj hT=>?_) (λw1 hT=>?_) (λj w1 hj hT=>?_) (λ_ hT=>hT)
 ·obtain rfl:j=0:=by omega
  rcases hT with ⟨_,t1,t2⟩ | ⟨e,_⟩
  ·refine (ub t1 a hq hm hB ht).mono ?_;rintro e w2 ⟨rfl,k1,k2⟩;exact ⟨0,rfl,.inr ⟨rfl,k1,t2.trans k2⟩⟩
  ·omega
 ·rcases hT with ⟨e,_⟩ | ⟨_,t1,t2⟩
  ·omega
  ·exact ⟨t1,t2⟩
 ·obtain ⟨t1,t2⟩:=hT;obtain ⟨C1,R1,F1,k1,wv1,g1,g2,g3,g4⟩:=t1.at_
  refine (YJ (i:=0) g1 (by rw [g3];simp)).mono ?_
  rintro e w2 ⟨rfl,hb2⟩
  exact ⟨1,rfl,λ_=>⟨t1.later hb2,t2.trans (Stay.of_below hb2)⟩,λh=>absurd rfl h⟩
theorem one_new (w:World) (hB:2 * B≤1000000) (ht:TabAt w) :
  Calls Tryz.prog 9 #[.int .i64 1,.int .i64 1000000] w λe w'=>∃ c p b g,e=.returned (.tuple #[cptr c,.int .i64 0])∧One1 B w c p b g (rf.new 0 1 0 (-1) []) [(RAFT,([],0))] 0 w':=by
 refine (yy 1 1000000 w (by decide) (by decide) (by decide) hB ht).mono ?_
 rintro e w' ⟨c,R,k,F,rfl,h2,h3⟩
 have hd:=h3 0 (by decide)
 have hone:=(h2.peers 0 (by decide)).kept.one.2.1
 rw [hd] at hone;have e0:(([],0):vd.File)=(crcm.flat (F 0).a,(crcm.flat (F 0).a).length):=hone
 have e1:(crcm.flat (F 0).a).length=0:=by rw [← (Prod.mk.inj e0).1];rfl
 exact ⟨c,(F 0).p,(F 0).b,(F 0).g,rfl,_,R,F,k,_,h2,rfl,rfl,rfl,rfl,rfl,rfl,by rw [hd];exact Oth.refl _,by rw [hd,e1];rfl,by rw [hd]⟩
end
structure Free (w0 w:World) (p b g:Nat) (M:vd.Files) (K:Nat) (d:vd.Disk) (T:List UInt8):Prop where
 disk:Ldk w0 w p b d
 off:d.off=false
 left:d.left=0
 oth:Oth M d.files
 few:d.files.length < 200
 cap:d.cap=1000000
 tot:vd.total d.files=T.length + K
 raft:vd.at_ d.files RAFT=(T,T.length)
 has:vd.has d.files RAFT=true
 no:vd.has d.files (RAFT ++ [43])=false
section
variable {B:Nat} {w0:World} {c p b g:Nat} {x:rf.Node} {M:vd.Files} {K:Nat} {w:World}
theorem One1.free (h:One1 B w0 c p b g x M K w):∃ d T m,Free w0 w p b g M K d T∧Lg w g p ⟨RAFT,m,false⟩∧w0.heap.size≤g ∧
  ∀ w' d' M' K',Apart [p,b] w w'→Free w0 w' p b g M' K' d' T→K' + 2 * B≤1000000→One1 B w0 c p b g x M' K' w':=by
 obtain ⟨C,R,F,k,wv,h1,h2,h3,h4,h5,h6,h7,h8,h9,h10⟩:=h.at_
 have hi:0 < C.n:=by omega
 have pi:=h1.peers 0 hi
 have hu:(C.p 0).up=true:=by rw [h4]
 obtain ⟨u1,u2,u3,u4,u5,u6⟩:=pi.up hu;have hk:=pi.kept
 refine ⟨(F 0).d,crcm.flat (F 0).a,(F 0).a.length,⟨by rw [← h5,← h6];exact pi.disk,u1,hk.calm,h8,hk.few,h10,h9,hk.one.2.1,hk.one.1,hk.one.2.2⟩,by rw [← h7,← h5];exact u4,by rw [← h7];exact u5,λw' d' M' K' hA hF hB=>?_⟩
 have hA2:Apart [(F 0).p,(F 0).b] w w':=by rw [h5,h6];exact hA
 have hqp:(F 0).q ∉ [(F 0).p,(F 0).b]:=λhx=>by
  simp only [List.mem_cons,List.not_mem_nil,or_false] at hx
  rcases hx with e | e
  ·exact qa pi.blk pi.disk.dk.blk (by decide) e
  ·exact qf pi.blk pi.disk.dk.map e
 have hv:∀ y vs t,Vb w y vs t→t ≠ 177→y ∉ [(F 0).p,(F 0).b]:=λy vs t hv ht hx=>by
  simp only [List.mem_cons,List.not_mem_nil,or_false] at hx
  rcases hx with e | e
  ·exact qa hv pi.disk.dk.blk ht e
  ·exact qf hv pi.disk.dk.map e
 have hE:∀ y ∈ [(F 0).p,(F 0).b],qK w y:=λy hy=>by
  simp only [List.mem_cons,List.not_mem_nil,or_false] at hy
  rcases hy with e | e
  ·rw [e];exact qv pi.disk.dk.blk (by decide)
  ·rw [e];exact QY pi.disk.dk.map
 have hp:PeerOk B w0 w' (C.p 0) { F 0 with d:=d' }:=by
  refine ⟨pi.blk.apart hA2 hqp,pi.ents.apart hA2 hE,pi.ok,by show Ldk w0 w' (F 0).p (F 0).b d';rw [h5,h6];exact hF.disk,pi.hq,⟨hk.wide,hk.frm,⟨hF.has,hF.raft,hF.no⟩,hk.flat,hk.many,by rw [hF.cap];omega,?_,hF.few,hF.left⟩,pi.sv,pi.dn,λ_=>?_⟩
  ·show vd.total d'.files + 2 * B≤(crcm.flat (F 0).a).length + d'.cap
   rw [hF.tot,hF.cap];omega
  ·exact ⟨hF.off,u2,Vb.apart u3 hA2 (hv _ _ _ u3 (by decide)),Vb.apart u4 hA2 (hv _ _ _ u4 (by decide)),u5,u6⟩
 have hc:=h1.peer hi hA2 (λy hy=>by
  simp only [List.mem_cons,List.not_mem_nil,or_false] at hy
  rcases hy with e | e
  ·exact .inr (.inl e)
  ·exact .inr (.inr (.inl e))) hp ⟨rfl,rfl,rfl⟩ (λhu=>.inl ⟨hu,rfl,rfl⟩)
 have e:({ C with p:=cl.upd C.p 0 (C.p 0) }:cl.Clu)=C:=by
  have e1:cl.upd C.p 0 (C.p 0)=C.p:=by
   funext j
   by_cases hj:j=0
   ·subst hj;rw [cl.upd_same]
   ·rw [cl.upd_other _ _ hj]
  rw [e1]
 rw [e] at hc
 exact ⟨C,R,_,k,wv,hc,h2,h3,h4,by rw [cl.upd_same];exact h5,by rw [cl.upd_same];exact h6,by rw [cl.upd_same];exact h7,by rw [cl.upd_same];exact hF.oth,by rw [cl.upd_same];exact hF.tot,by rw [cl.upd_same];exact hF.cap⟩
theorem One1.alien {w':World} {S:List Nat} (h:One1 B w0 c p b g x M K w) (hA:Apart S w w') (hS:∀ y ∈ S,w0.heap.size≤y∧∃ vs t,Vb w y vs t∧Alien t):One1 B w0 c p b g x M K w':=by
 obtain ⟨C,R,F,k,wv,h1,h2⟩:=h.at_;exact ⟨C,R,F,k,wv,h1.alien hA hS,h2⟩
def jU (w:World) (p b g y:Nat):Prop:=
 (∃ vs t,Vb w y vs t∧(t ≠ 93∧t ≠ 103∧t ≠ 94∧t ≠ 229∧t ≠ 36∧t ≠ 244)∧(t=177→y ≠ p)∧(t=306→y ≠ g)) ∨
 (∃ es k,w.heap[y]?=some (.map es k)∧y ≠ b)
theorem One1.outs {w':World} {S:List Nat} (h:One1 B w0 c p b g x M K w) (hA:Apart S w w') (hS:∀ y ∈ S,w0.heap.size≤y∧jU w p b g y):One1 B w0 c p b g x M K w':=by
 obtain ⟨C,R,F,k,wv,h1,h2,h3,h4,h5,h6,h7,h8⟩:=h.at_;obtain ⟨us,r1,r2⟩:=h1.row
 have hty:∀ y us u,Vb w y us u→(u=93∨u=103∨u=94∨u=229∨u=36∨u=244)→y ∉ S:=λy us u hv hu hy=>by
  rcases (hS y hy).2 with ⟨vs,t,g1,⟨n1,n2,n3,n4,n5,n6⟩,_⟩ | ⟨es,kk,g1,_⟩
  ·have e:t=u:=by
    unfold Vb at g1 hv;rw [g1] at hv
    injection hv with hv
    injection hv
   subst e
   rcases hu with hu | hu | hu | hu | hu | hu
   ·exact n1 hu
   ·exact n2 hu
   ·exact n3 hu
   ·exact n4 hu
   ·exact n5 hu
   ·exact n6 hu
  ·unfold Vb at hv;rw [g1] at hv
   cases hv
 have hno:∀ y ∈ S,qK w y:=λy hy cur e=>by
  have hv:Vb w y cur.toList 36:=by unfold Vb;rw [Array.toArray_toList];exact e
  exact hty y _ _ hv (.inr (.inr (.inr (.inr (.inl rfl))))) hy
 have hge:∀ y ∈ S,w0.heap.size≤y:=λy hy=>(hS y hy).1
 have p0:=h1.peers 0 (by omega)
 have hu:(C.p 0).up=true:=by rw [h4]
 obtain ⟨u1,u2,u3,u4,_⟩:=p0.up hu;have u4:Vb w (F 0).g (lgV (F 0).p ⟨RAFT,(F 0).a.length,false⟩) 306:=u4
 have hblk:∀ y ∈ (F 0).blocks (C.p 0).up,y ∉ S:=λy hy hyS=>by
  unfold Fp.blocks at hy;rw [hu] at hy;simp only [if_true,List.mem_cons,List.not_mem_nil,or_false] at hy
  rcases hy with rfl | rfl | rfl | rfl | rfl
  ·exact hty _ _ _ p0.blk (.inr (.inl rfl)) hyS
  ·rcases (hS _ hyS).2 with ⟨vs,t,g1,_,g2,_⟩ | ⟨es,kk,g1,_⟩
   ·have hv:=p0.disk.dk.blk
    have e:t=177:=by
     unfold Vb at g1 hv;rw [g1] at hv
     injection hv with hv
     injection hv
    exact g2 e h5
   ·have hv:=p0.disk.dk.blk;unfold Vb at hv;rw [g1] at hv
    cases hv
  ·rcases (hS _ hyS).2 with ⟨vs,t,g1,_⟩ | ⟨es,kk,g1,g2⟩
   ·exact qf g1 p0.disk.dk.map rfl
   ·exact g2 h6
  ·exact hty _ _ _ u3 (.inr (.inr (.inr (.inr (.inr rfl))))) hyS
  ·rcases (hS _ hyS).2 with ⟨vs,t,g1,_,_,g2⟩ | ⟨es,kk,g1,_⟩
   ·have e:t=306:=by
     unfold Vb at g1 u4;rw [g1] at u4
     injection u4 with u4
     injection u4
    exact g2 e h7
   ·unfold Vb at u4;rw [g1] at u4
    cases u4
 refine ⟨C,R,F,k,wv,⟨h1.bel.trans (hA.below _ h1.bel.size hge),h1.blk.apart hA (hty _ _ _ h1.blk (.inl rfl)),h1.hc,h1.hR,⟨us,r1.apart hA (hty _ _ _ r1 (.inr (.inr (.inl rfl)))),r2⟩,h1.n7,λj hj=>?_,h1.way.apart hA hno λy hy cur e=>?_,h1.w200,h1.sep⟩,h2,h3,h4,h5,h6,h7,h8⟩
 ·obtain rfl:j=0:=by omega
  exact p0.apart hA hno hge hblk
 ·have hv:Vb w y cur.toList 229:=by unfold Vb;rw [Array.toArray_toList];exact e
  exact hty _ _ _ hv (.inr (.inr (.inr (.inl rfl)))) hy
theorem One1.base (h:One1 B w0 c p b g x M K w):w0.heap.size≤w.heap.size:=by
 obtain ⟨C,R,F,k,wv,h1,_⟩:=h.at_;exact h1.bel.size
theorem One1.bel (h:One1 B w0 c p b g x M K w):Below w0.heap.size w0 w:=by
 obtain ⟨C,R,F,k,wv,h1,_⟩:=h.at_;exact h1.bel
end
theorem Oth.len {M M':vd.Files} (h:Oth M M'):M'.length=M.length:=by
 have:=congrArg List.length h.2
 simpa using this
theorem Oth.put {M M':vd.Files} (h:Oth M M') {n:vd.Name} (hn:n ≠ RAFT) (f:vd.File):Oth (vd.put M n f) (vd.put M' n f):=by
 refine ⟨λk hk=>?_,?_⟩
 ·rw [vd.at_put,vd.at_put,vd.has_put,vd.has_put,(h.1 k hk).1,(h.1 k hk).2];exact ⟨rfl,rfl⟩
 ·rw [vd.put_names,vd.put_names,(h.1 n hn).2,h.2]
theorem Free.put {w0 w w':World} {p b g:Nat} {M:vd.Files} {K K':Nat} {d:vd.Disk} {T:List UInt8} (h:Free w0 w p b g M K d T) {n:vd.Name} {f:vd.File} (hn:n ≠ RAFT) (hn2:RAFT ++ [43] ≠ n)
  (hw:Ldk w0 w' p b { d with files:=vd.put d.files n f }) (hf:(vd.put M n f).length < 200) (hK:K' + (vd.at_ M n).1.length=K + f.1.length):Free w0 w' p b g (vd.put M n f) K' { d with files:=vd.put d.files n f } T:=by
 have ho:=h.oth.put hn f
 refine ⟨hw,h.off,h.left,ho,by show (vd.put d.files n f).length < 200;rw [ho.len];exact hf,h.cap,?_,?_,?_,?_⟩
 ·have h1:=vd.total_put d.files n f;have h2:=h.tot;rw [(h.oth.1 n hn).1] at h1
  show vd.total (vd.put d.files n f)=_
  omega
 ·show vd.at_ (vd.put d.files n f) RAFT=_
  rw [vd.at_put,if_neg (λe=>hn e.symm)]
  exact h.raft
 ·show vd.has (vd.put d.files n f) RAFT=true
  rw [vd.has_put,h.has]
  simp
 ·show vd.has (vd.put d.files n f) (RAFT ++ [43])=false
  rw [vd.has_put,h.no]
  simpa using hn2
structure Ad where
 wd:Nat
 nb:Nat
 c:Nat
 p:Nat
 b:Nat
 g:Nat
 ge:Nat
 ed:Nat
 lg:Nat
 tb:Nat
 mm:Nat
 dr:Nat
 jg:Nat
 dp:Nat
 db:Nat
def wdC (a:Ad):List Value:=[.pointer (some ⟨a.c,0,none⟩),.slice (some ⟨a.nb,0,none⟩) 1 1,.pointer (some ⟨a.dp,0,none⟩),.pointer (some ⟨a.dr,0,none⟩)]
def nbC (a:Ad) (idx:Nat) (cl:Value):List Value:=[.pointer (some ⟨a.ge,0,none⟩),.int .u64 (idx:Int),.int .u64 0,.slice none 0 0,.slice none 0 0,cl]
structure RestAt (w0:World) (a:Ad) (idx last many:Nat) (cl:Value) (w:World):Prop where
 wd:Vb w a.wd (wdC a) 202
 nb:Vb w a.nb (nbC a idx cl) 208
 eng:EngAt w a.p a.ge a.ed a.lg a.tb a.mm last many
 dr:Vb w a.dr [.pointer (some ⟨a.jg,0,none⟩),.slice none 0 0] 316
 jg:Lg w a.jg a.dp ⟨JOBS,0,false⟩
 dsk:∃ d,Ldk w0 w a.dp a.db d∧d.off=false
 hnb:w0.heap.size≤a.nb
 hge:w0.heap.size≤a.ge
 hmm:w0.heap.size≤a.mm
 hlg:w0.heap.size≤a.lg
 ne:a.g ≠ a.ed∧a.g ≠ a.lg∧a.g ≠ a.jg∧a.p ≠ a.dp∧a.b ≠ a.db∧a.b ≠ a.tb
section
variable {B:Nat} {w0 w w':World} {a:Ad} {idx last many K:Nat} {cl:Value} {x:rf.Node} {M:vd.Files}
instance (t:TypeId):Decidable (zT t):=by unfold zT;infer_instance
theorem RestAt.later (h:RestAt w0 a idx last many cl w) (hb:Below w.heap.size w w'):RestAt w0 a idx last many cl w':=by
 obtain ⟨d,hd,ho⟩:=h.dsk;have htl:a.tb < w.heap.size:=(Array.getElem?_eq_some_iff.1 h.eng.tb).1;exact ⟨(hb.block _ h.wd.lt).trans h.wd,(hb.block _ h.nb.lt).trans h.nb,⟨(hb.block _ h.eng.blk.lt).trans h.eng.blk,(hb.block _ (Vb.lt h.eng.ed)).trans h.eng.ed,(hb.block _ (Vb.lt h.eng.lg)).trans h.eng.lg,(hb.block _ htl).trans h.eng.tb⟩,(hb.block _ h.dr.lt).trans h.dr,(hb.block _ (Vb.lt h.jg)).trans h.jg,⟨d,hd.later hb,ho⟩,h.hnb,h.hge,h.hmm,h.hlg,h.ne⟩
theorem Ke (vs:List Value) (t:TypeId) {y:Nat} (ho:One1 B w0 a.c a.p a.b a.g x M K w) (hs:Qe a.p a.b a.g w w') (hv:Vb w y vs t) (ht:¬ zT t) (h1:y ≠ a.p) (h2:y ≠ a.g):Vb w' y vs t:=by
 obtain ⟨d,T,m,hF,_⟩:=ho.free
 exact hv.stay hs ht λi _=>⟨h1,qf hv hF.disk.dk.map,h2⟩
theorem zC (vs:List Value) (t:TypeId) {y:Nat} (ho:One1 B w0 a.c a.p a.b a.g x M K w) (hs:Qe a.p a.b a.g w w') (hv:Vb w y vs t) (ht:¬ zT t) (h1:t ≠ 177) (h2:t ≠ 306):Vb w' y vs t:=by
 obtain ⟨d,T,m,hF,hg,_⟩:=ho.free;have hg:Vb w a.g (lgV a.p ⟨RAFT,m,false⟩) 306:=hg;exact Ke vs t ho hs hv ht (qa hv hF.disk.dk.blk h1) (qa hv hg h2)
theorem KX {y:Nat} {es:Array MapEntry} {k:Nat} (ho:One1 B w0 a.c a.p a.b a.g x M K w) (hs:Qe a.p a.b a.g w w') (hv:w.heap[y]?=some (.map es k)) (hb:y ≠ a.b):w'.heap[y]?=some (.map es k):=by
 obtain ⟨d,T,m,hF,hg,_⟩:=ho.free;have hg:Vb w a.g (lgV a.p ⟨RAFT,m,false⟩) 306:=hg;have hp:=hF.disk.dk.blk
 refine hs.block y _ hv (λhm=>?_) λi _=>⟨λe=>?_,hb,λe=>?_⟩
 ·obtain ⟨_,_,_,e,_⟩:=hm
  cases e
 ·have e:y=a.p:=e;subst e;unfold Vb at hp;rw [hv] at hp
  cases hp
 ·have e:y=a.g:=e;rw [e] at hv;unfold Vb at hg;rw [hv] at hg
  cases hg
theorem RestAt.stay (h:RestAt w0 a idx last many cl w) (ho:One1 B w0 a.c a.p a.b a.g x M K w) (hs:Qe a.p a.b a.g w w') (hbase:Below w0.heap.size w0 w'):RestAt w0 a idx last many cl w':=by
 obtain ⟨n1,n2,n3,n4,n5,n6⟩:=h.ne;obtain ⟨d,hd,hoff⟩:=h.dsk;obtain ⟨d1,T,m,hF,hg,_⟩:=ho.free;have hg:Vb w a.g (lgV a.p ⟨RAFT,m,false⟩) 306:=hg;have hp:=hF.disk.dk.blk
 have lgs:∀ y l q,Lg w y q l→a.g ≠ y→Lg w' y q l:=λy l q hl hy=>by
  have hl:Vb w y (lgV q l) 306:=hl
  exact Ke _ _ ho hs hl (by decide) (qa hl hp (by decide)) (λe=>hy e.symm)
 have hdp:Vb w' a.dp (zO a.db d) 177:=Ke _ _ ho hs hd.dk.blk (by decide) (λe=>n4 e.symm) (qa hd.dk.blk hg (by decide))
 have hmap:FMap w' a.db d.files:=by
  obtain ⟨es,k,h1,h2⟩:=hd.dk.map
  exact ⟨es,k,KX ho hs h1 (λe=>n5 e.symm),h2⟩
 exact ⟨zC _ _ ho hs h.wd (by decide) (by decide) (by decide),zC _ _ ho hs h.nb (by decide) (by decide) (by decide),⟨zC _ _ ho hs h.eng.blk (by decide) (by decide) (by decide),lgs _ _ _ h.eng.ed n1,lgs _ _ _ h.eng.lg n2,KX ho hs h.eng.tb (λe=>n6 e.symm)⟩,zC _ _ ho hs h.dr (by decide) (by decide) (by decide),lgs _ _ _ h.jg n3,⟨d,⟨hbase,⟨hdp,hmap⟩,hd.hp,hd.hb,hd.ok,hd.cap⟩,hoff⟩,h.hnb,h.hge,h.hmm,h.hlg,h.ne⟩
end
def M3:vd.Files:=vd.put (vd.put [(RAFT,([],0))] MANI ([],0)) ELOG ([],0)
theorem JL (w:World):(Instr.makeSlice 199 (.int .i64 1) (.int .i64 1)).run Tryz.prog w=.ok (.slice (some ⟨w.heap.size,0,none⟩) 1 1) (w.alloc (.cells #[.pointer none,.int .u64 0,.int .u64 0,.slice none 0 0,.slice none 0 0,.slice none 0 0] 208)):=by kernel_rfl
theorem qU {w w':World} {y:Nat} {vs:List Value} {t:TypeId} (h:Vb w y vs t) (hb:Below w.heap.size w w'):Vb w' y vs t:=(hb.block _ h.lt).trans h
def Made (w0 w1 W:World) (c wd nb dp db:Nat):Prop:=
 Below w1.heap.size w1 W∧Vb W wd [.pointer (some ⟨c,0,none⟩),.slice (some ⟨nb,0,none⟩) 1 1,.pointer (some ⟨dp,0,none⟩),.pointer none] 202∧Vb W nb [.pointer none,.int .u64 0,.int .u64 0,.slice none 0 0,.slice none 0 0,.slice none 0 0] 208 ∧
 Ldk w0 W dp db ⟨1000000,[],false,0,0⟩∧w1.heap.size≤wd∧w1.heap.size≤nb∧w1.heap.size≤dp∧w1.heap.size≤db
abbrev QJ:Obj:=.cells #[.pointer none,.int .u64 0,.int .u64 0,.slice none 0 0,.slice none 0 0,.slice none 0 0] 208
abbrev yV (c nb dp:Nat):Obj:=.cells #[.pointer (some ⟨c,0,none⟩),.slice (some ⟨nb,0,none⟩) 1 1,.pointer (some ⟨dp,0,none⟩),.pointer none] 202
theorem made_a {w0 Y w2:World} {c dp db:Nat} (h:Below w0.heap.size w0 Y) (k1:(Y.alloc QJ).drew.heap.size≤dp) (k2:(Y.alloc QJ).drew.heap.size≤db) (k3:Dk w2 dp db ⟨1000000,[],false,0,0⟩) (k4:Below (Y.alloc QJ).drew.heap.size (Y.alloc QJ).drew w2) :
  Made w0 Y (w2.alloc (yV c Y.heap.size dp)) c w2.heap.size Y.heap.size dp db:=by
 have s1:(Y.alloc QJ).drew.heap.size=Y.heap.size + 1:=by simp
 have bA:Below Y.heap.size Y (Y.alloc QJ):=(Below.refl _ Y).alloc (Nat.le_refl _) _;have bD:Below Y.heap.size Y (Y.alloc QJ).drew:=below_drewN bA 1;have hn:Vb (Y.alloc QJ).drew Y.heap.size [.pointer none,.int .u64 0,.int .u64 0,.slice none 0 0,.slice none 0 0,.slice none 0 0] 208:=Vb.new Y _ _;have hz:=k4.size;have bW:Below w2.heap.size w2 (w2.alloc (yV c Y.heap.size dp)):=(Below.refl _ w2).alloc (Nat.le_refl _) _
 have b2:=bD.trans (k4.mono (by omega))
 have b3:=b2.trans (bW.mono (by omega))
 exact ⟨b3,Vb.new w2 _ _,(bW.block _ (by omega)).trans ((k4.block _ (by omega)).trans hn),⟨h.trans (b3.mono h.size),⟨(bW.block _ k3.blk.lt).trans k3.blk,k3.map.below bW⟩,Nat.le_trans h.size (by omega),Nat.le_trans h.size (by omega),zG 1000000 (by decide) 0,(by decide:1000000≤10000000)⟩,by omega,Nat.le_refl _,by omega,by omega⟩
theorem made_b {w0 Y w2:World} {c dp db:Nat} (h:Below w0.heap.size w0 Y) (k1:Y.drew.heap.size≤dp) (k2:Y.drew.heap.size≤db) (k3:Dk w2 dp db ⟨1000000,[],false,0,0⟩) (k4:Below Y.drew.heap.size Y.drew w2) :
  Made w0 Y ((w2.alloc QJ).alloc (yV c w2.heap.size dp)) c (w2.heap.size + 1) w2.heap.size dp db:=by
 have s1:Y.drew.heap.size=Y.heap.size:=rfl;have bD:Below Y.heap.size Y Y.drew:=below_drewN (Below.refl _ Y) 1;have hz:=k4.size;have bN:Below w2.heap.size w2 (w2.alloc QJ):=(Below.refl _ w2).alloc (Nat.le_refl _) _;have hn:Vb (w2.alloc QJ) w2.heap.size [.pointer none,.int .u64 0,.int .u64 0,.slice none 0 0,.slice none 0 0,.slice none 0 0] 208:=Vb.new w2 _ _
 have sN:(w2.alloc QJ).heap.size=w2.heap.size + 1:=by simp
 have bW:Below (w2.heap.size + 1) (w2.alloc QJ) ((w2.alloc QJ).alloc (yV c w2.heap.size dp)):=by rw [← sN];exact (Below.refl _ _).alloc (Nat.le_refl _) _
 have hw:Vb ((w2.alloc QJ).alloc (yV c w2.heap.size dp)) (w2.heap.size + 1) [.pointer (some ⟨c,0,none⟩),.slice (some ⟨w2.heap.size,0,none⟩) 1 1,.pointer (some ⟨dp,0,none⟩),.pointer none] 202:=by rw [← sN];exact Vb.new (w2.alloc QJ) _ _
 have b2:=bD.trans (k4.mono (by omega))
 have b3:=bN.trans (bW.mono (by omega))
 have b4:=b2.trans (b3.mono (by omega))
 exact ⟨b4,hw,(bW.block _ (by omega)).trans hn,⟨h.trans (b4.mono h.size),⟨(b3.block _ k3.blk.lt).trans k3.blk,k3.map.below b3⟩,Nat.le_trans h.size (by omega),Nat.le_trans h.size (by omega),zG 1000000 (by decide) 0,(by decide:1000000≤10000000)⟩,by omega,by omega,by omega,by omega⟩
theorem zF {d:vd.Disk} {n:vd.Name} (hq:vd.Quiet d) (hok:vd.Ok d) (ho:wl.openE n=true) (h1:vd.has d.files n=false) (h2:vd.has d.files (n ++ [43])=false) (hf:d.files.length < 200) :
  wl.open_ d n=({ d with files:=vd.put d.files n ([],0) },[],0):=by
 rw [wl.open_new hq hok ho h1 hf,wl.del_none _ _ h2]
theorem put_few (M:vd.Files) (n:vd.Name) (f:vd.File):(vd.put M n f).length≤M.length + 1:=by
 have:=congrArg List.length (vd.put_names M n f);rw [List.length_map] at this;rw [this]
 split
 ·rw [List.length_map];omega
 ·rw [List.length_append,List.length_map];simp
theorem uP {B:Nat} {w0:World} {c p b g:Nat} {x:rf.Node} {w:World} (h:One1 B w0 c p b g x [(RAFT,([],0))] 0 w) (hB:2 * B≤1000000) (ht:TabAt w0) :
  Calls Tryz.prog 30 #[dptr p] w λe w'=>∃ ge ed lg tb mm,e=.returned (.tuple #[.pointer (some ⟨ge,0,none⟩),.int .i64 0])∧One1 B w0 c p b g x M3 0 w'∧EngAt w' p ge ed lg tb mm 0 0∧qH w' mm∧w.heap.size≤ge∧w.heap.size≤ed∧w.heap.size≤lg∧w.heap.size≤tb∧w.heap.size≤mm∧Apart [p,b] w w':=by
 obtain ⟨d,T,m,hF,_,_,hback⟩:=h.free
 have hm:∀ n,n ≠ RAFT→vd.has [(RAFT,(([],0):vd.File))] n=false:=λn hn=>by
  show (if RAFT=n then true else false)=false
  rw [if_neg (λe=>hn e.symm)]
 have hh:∀ n,n ≠ RAFT→vd.has d.files n=false:=λn hn=>((hF.oth.1 n hn).2).trans (hm n hn)
 have hlen:d.files.length=1:=hF.oth.len
 have h1:wl.open_ d MANI=({ d with files:=vd.put d.files MANI ([],0) },[],0):=zF ⟨hF.off,hF.left⟩ hF.disk.ok rfl (hh _ (by decide)) (hh _ (by decide)) hF.few
 have hl1:=put_few d.files MANI ([],0)
 have ok1:vd.Ok { d with files:=vd.put d.files MANI ([],0) }:=vd.ok_put hF.disk.ok MANI ([],0) (by decide) (Nat.le_refl _) (by have:=hF.disk.ok.tot;show vd.total d.files + 0≤_;omega)
 have h2:wl.open_ { d with files:=vd.put d.files MANI ([],0) } ELOG=({ d with files:=vd.put (vd.put d.files MANI ([],0)) ELOG ([],0) },[],0):=zF (d:={ d with files:=vd.put d.files MANI ([],0) }) ⟨hF.off,hF.left⟩ ok1 rfl
  (by show vd.has (vd.put d.files MANI _) ELOG=false;rw [vd.has_put,hh _ (by decide)];decide) (by show vd.has (vd.put d.files MANI _) (ELOG ++ [43])=false;rw [vd.has_put,hh _ (by decide)];decide) (by show (vd.put d.files MANI _).length < 200;omega)
 have ho3:Oth M3 (vd.put (vd.put d.files MANI ([],0)) ELOG ([],0)):=(hF.oth.put (by decide) _).put (by decide) _
 have hl2:(vd.put (vd.put d.files MANI ([],0)) ELOG ([],0)).length=3:=ho3.len
 refine (eng_new hF.disk h1 h2 (λy hy=>?_) (by show (vd.put (vd.put d.files MANI ([],0)) ELOG ([],0)).length≤200;omega) ht).mono ?_
 ·have hy1:y.1 ∈ (vd.put (vd.put d.files MANI ([],0)) ELOG ([],0)).map (·.1):=List.mem_map.2 ⟨y,hy,rfl⟩
  rw [ho3.2] at hy1
  have e:M3.map (·.1)=[RAFT,MANI,ELOG]:=by decide
  rw [e] at hy1;simp only [List.mem_cons,List.not_mem_nil,or_false] at hy1;exact hy1
 ·rintro e w' ⟨ge,ed,lg,tb,mm,rfl,k1,k2,k3,k4,k5,k6,k7,k8,k9⟩
  refine ⟨ge,ed,lg,tb,mm,rfl,hback w' _ M3 0 k9 ⟨k1,hF.off,hF.left,ho3,by show (vd.put (vd.put d.files MANI ([],0)) ELOG ([],0)).length < 200;omega,hF.cap,?_,?_,?_,?_⟩ (by omega),k2,k3,k4,k5,k6,k7,k8,k9⟩
  ·have e1:=vd.total_put d.files MANI ([],0);have e2:=vd.total_put (vd.put d.files MANI ([],0)) ELOG ([],0)
   rw [vd.at_put,if_neg (by decide),(hF.oth.1 ELOG (by decide)).1] at e2
   rw [(hF.oth.1 MANI (by decide)).1] at e1
   have e3:=hF.tot
   have z1:(vd.at_ [(RAFT,(([],0):vd.File))] MANI).1.length=0:=by decide
   have z2:(vd.at_ [(RAFT,(([],0):vd.File))] ELOG).1.length=0:=by decide
   rw [z1] at e1;rw [z2] at e2;simp only [List.length_nil] at e1 e2
   show vd.total (vd.put (vd.put d.files MANI ([],0)) ELOG ([],0))=_
   omega
  ·show vd.at_ (vd.put (vd.put d.files MANI ([],0)) ELOG ([],0)) RAFT=_
   rw [vd.at_put,if_neg (by decide),vd.at_put,if_neg (by decide)]
   exact hF.raft
  ·show vd.has (vd.put (vd.put d.files MANI ([],0)) ELOG ([],0)) RAFT=true
   rw [vd.has_put,vd.has_put,hF.has]
   simp
  ·show vd.has (vd.put (vd.put d.files MANI ([],0)) ELOG ([],0)) (RAFT ++ [43])=false
   rw [vd.has_put,vd.has_put,hF.no]
   decide
def Booted (w0 W:World) (c p b g wd nb dp db:Nat):Prop:=∃ ge ed lg tb mm,One1 100000 w0 c p b g (rf.new 0 1 0 (-1) []) M3 0 W ∧
 Vb W wd [.pointer (some ⟨c,0,none⟩),.slice (some ⟨nb,0,none⟩) 1 1,.pointer (some ⟨dp,0,none⟩),.pointer none] 202∧Vb W nb [.pointer (some ⟨ge,0,none⟩),.int .u64 0,.int .u64 0,.slice none 0 0,.slice none 0 0,.slice none 0 0] 208 ∧
 EngAt W p ge ed lg tb mm 0 0∧qH W mm∧Ldk w0 W dp db ⟨1000000,[],false,0,0⟩∧(g ≠ ed∧g ≠ lg∧p ≠ dp∧b ≠ db∧b ≠ tb∧tb ≠ db)∧w0.heap.size≤ge∧w0.heap.size≤mm∧w0.heap.size≤lg
theorem vK {w0 w1 wc W w3:World} {c p b g wd nb dp db:Nat} (h1:One1 100000 w0 c p b g (rf.new 0 1 0 (-1) []) [(RAFT,([],0))] 0 w1) (hM:Made w0 w1 wc c wd nb dp db) (hb:Below wc.heap.size wc W)
  (ge ed lg tb mm:Nat) (ho:One1 100000 w0 c p b g (rf.new 0 1 0 (-1) []) M3 0 w3) (hE:EngAt w3 p ge ed lg tb mm 0 0) (hm:qH w3 mm) (k1:W.heap.size≤ge) (k2:W.heap.size≤ed) (k3:W.heap.size≤lg) (k4:W.heap.size≤tb) (k5:W.heap.size≤mm) (hA:Apart [p,b] W w3) :
  Booted w0 (w3.setCell ⟨nb,0,none⟩ (.pointer (some ⟨ge,0,none⟩))) c p b g wd nb dp db:=by
 obtain ⟨m1,m2,m3,m4,m5,m6,m7,m8⟩:=hM;obtain ⟨d,T,m,hF,hg,_⟩:=h1.free;have pl:=hF.disk.dk.blk.lt;have bl:=hF.disk.dk.map.lt;have gl:=Vb.lt hg;have hs:=hb.size;have hs1:=m1.size;have h0:=h1.base;have hnbl:=m3.lt;have hwdl:=m2.lt;have hdpl:=m4.dk.blk.lt;have hdbl:=m4.dk.map.lt
 have hno:∀ y,w1.heap.size≤y→y ∉ [p,b]:=λy hy hx=>by
  simp only [List.mem_cons,List.not_mem_nil,or_false] at hx;omega
 have hnb3:=(qU m3 hb).apart hA (hno nb m6);have hwd3:=(qU m2 hb).apart hA (hno wd m5)
 have hd3:=(m4.later hb).next hA (by intro y hy;simp only [List.mem_cons,List.not_mem_nil,or_false] at hy;have:=hF.disk.hp;have:=hF.disk.hb;omega) ((m4.later hb).dk.apart hA (hno dp m7) (hno db m8)) m4.ok rfl
 have a1:=Apart.setCell w3 nb 0 (.pointer (some ⟨ge,0,none⟩))
 have hne:∀ y vs t,Vb w3 y vs t→t ≠ 208→y ∉ [nb]:=λy vs t hv ht hx=>qa hv hnb3 ht (by simpa using hx)
 have hlt3:tb ∉ [nb]:=λhx=>by have:tb=nb:=(by simpa using hx);omega
 have hdb3:db ∉ [nb]:=λhx=>by
  have e:db=nb:=(by simpa using hx)
  exact qf hnb3 hd3.dk.map e.symm
 refine ⟨ge,ed,lg,tb,mm,ho.alien a1 (λy hy=>?_),hwd3.apart a1 (hne _ _ _ hwd3 (by decide)),hnb3.set 0 _,⟨hE.blk.apart a1 (hne _ _ _ hE.blk (by decide)),Vb.apart hE.ed a1 (hne _ _ _ hE.ed (by decide)),Vb.apart hE.lg a1 (hne _ _ _ hE.lg (by decide)),(a1.block _ (Array.getElem?_eq_some_iff.1 hE.tb).1 hlt3).trans hE.tb⟩,hm.apart a1 (hne _ _ _ hm (by decide)),hd3.next a1 (by simp;omega) (hd3.dk.apart a1 (hne _ _ _ hd3.dk.blk (by decide)) hdb3) m4.ok rfl,⟨by omega,by omega,by omega,by omega,by omega,by omega⟩,by omega,by omega,by omega⟩
 obtain rfl:y=nb:=by simpa using hy
 exact ⟨by omega,_,_,hnb3,by decide⟩
theorem jW {w0 W w5:World} {c p b g wd nb dp db dr jg ge ed lg tb mm:Nat} {d2:vd.Disk} (b1:One1 100000 w0 c p b g (rf.new 0 1 0 (-1) []) M3 0 W)
  (b2:Vb W wd [.pointer (some ⟨c,0,none⟩),.slice (some ⟨nb,0,none⟩) 1 1,.pointer (some ⟨dp,0,none⟩),.pointer none] 202) (b3:Vb W nb [.pointer (some ⟨ge,0,none⟩),.int .u64 0,.int .u64 0,.slice none 0 0,.slice none 0 0,.slice none 0 0] 208)
  (b4:EngAt W p ge ed lg tb mm 0 0) (b5:qH W mm) (b6:Ldk w0 W dp db ⟨1000000,[],false,0,0⟩) (b7:g ≠ ed∧g ≠ lg∧p ≠ dp∧b ≠ db∧b ≠ tb∧tb ≠ db) (b8:w0.heap.size≤ge) (b9:w0.heap.size≤mm) (b10:w0.heap.size≤lg) (hwd:w0.heap.size≤wd) (hnb:w0.heap.size≤nb)
  (k1:Ldk w0 w5 dp db d2) (k2:Lg w5 jg dp ⟨JOBS,0,false⟩) (k3:Vb w5 dr [.pointer (some ⟨jg,0,none⟩),.slice none 0 0] 316) (_:W.heap.size≤dr) (k5:W.heap.size≤jg) (hA:Apart [dp,db] W w5) (hoff:d2.off=false) :
  One1 100000 w0 c p b g (rf.new 0 1 0 (-1) []) M3 0 (w5.setCell ⟨wd,3,none⟩ (.pointer (some ⟨dr,0,none⟩)))∧RestAt w0 ⟨wd,nb,c,p,b,g,ge,ed,lg,tb,mm,dr,jg,dp,db⟩ 0 0 0 (.slice none 0 0) (w5.setCell ⟨wd,3,none⟩ (.pointer (some ⟨dr,0,none⟩)))∧qH (w5.setCell ⟨wd,3,none⟩ (.pointer (some ⟨dr,0,none⟩))) mm:=by
 obtain ⟨n1,n2,n3,n4,n5,htb⟩:=b7;obtain ⟨d,T,m,hF,hg,_⟩:=b1.free;have gl:=Vb.lt hg
 have hno:∀ y vs t,Vb W y vs t→t ≠ 177→y ∉ [dp,db]:=λy vs t hv ht hx=>by
  simp only [List.mem_cons,List.not_mem_nil,or_false] at hx
  rcases hx with e | e
  ·exact qa hv b6.dk.blk ht e
  ·exact qf hv b6.dk.map e
 obtain ⟨es,kk,hmap,_⟩:=b6.dk.map
 have o1:One1 100000 w0 c p b g (rf.new 0 1 0 (-1) []) M3 0 w5:=b1.outs hA λy hy=>by
  simp only [List.mem_cons,List.not_mem_nil,or_false] at hy
  rcases hy with rfl | rfl
  ·exact ⟨b6.hp,.inl ⟨_,_,b6.dk.blk,by decide,λ_ e=>n3 e.symm,λe=>absurd e (by decide)⟩⟩
  ·exact ⟨b6.hb,.inr ⟨es,kk,hmap,λe=>n4 e.symm⟩⟩
 have v2:=b2.apart hA (hno _ _ _ b2 (by decide))
 have v3:=b3.apart hA (hno _ _ _ b3 (by decide))
 have e1:=b4.blk.apart hA (hno _ _ _ b4.blk (by decide))
 have e2:=Vb.apart b4.ed hA (hno _ _ _ b4.ed (by decide))
 have e3:=Vb.apart b4.lg hA (hno _ _ _ b4.lg (by decide))
 have e5:=b5.apart hA (hno _ _ _ b5 (by decide))
 have tl:=(Array.getElem?_eq_some_iff.1 b4.tb).1
 have e4:w5.heap[tb]?=some (.map #[] 0):=(hA.block _ tl (λhx=>by
  simp only [List.mem_cons,List.not_mem_nil,or_false] at hx
  rcases hx with e | e
  ·have hp:=b6.dk.blk;rw [← e] at hp;unfold Vb at hp;rw [b4.tb] at hp
   cases hp
  ·exact htb e)).trans b4.tb
 have a1:=Apart.setCell w5 wd 3 (.pointer (some ⟨dr,0,none⟩))
 have hw:∀ y vs t,Vb w5 y vs t→t ≠ 202→y ∉ [wd]:=λy vs t hv ht hx=>qa hv v2 ht (by simpa using hx)
 have htw:tb ∉ [wd]:=λhx=>by
  have e:tb=wd:=(by simpa using hx)
  rw [e] at e4;unfold Vb at v2;rw [e4] at v2
  cases v2
 have hdw:db ∉ [wd]:=λhx=>by
  have e:db=wd:=(by simpa using hx)
  exact qf v2 k1.dk.map e.symm
 refine ⟨o1.outs a1 λy hy=>?_,⟨v2.set 3 _,v3.apart a1 (hw _ _ _ v3 (by decide)),⟨e1.apart a1 (hw _ _ _ e1 (by decide)),Vb.apart e2 a1 (hw _ _ _ e2 (by decide)),Vb.apart e3 a1 (hw _ _ _ e3 (by decide)),(a1.block _ (Array.getElem?_eq_some_iff.1 e4).1 htw).trans e4⟩,k3.apart a1 (hw _ _ _ k3 (by decide)),Vb.apart k2 a1 (hw _ _ _ k2 (by decide)),⟨d2,k1.next a1 (by simpa using hwd) (k1.dk.apart a1 (hw _ _ _ k1.dk.blk (by decide)) hdw) k1.ok rfl,hoff⟩,hnb,b8,b9,b10,⟨n1,n2,by show g ≠ jg;omega,n3,n4,n5⟩⟩,e5.apart a1 (hw _ _ _ e5 (by decide))⟩
 obtain rfl:y=wd:=by simpa using hy
 exact ⟨hwd,.inl ⟨_,_,v2,by decide,λe=>absurd e (by decide),λe=>absurd e (by decide)⟩⟩
theorem XG:wl.open_ ⟨1000000,[],false,0,0⟩ JOBS=(⟨1000000,[(JOBS,([],0))],false,0,0⟩,[],0):=
 zF (d:=⟨1000000,[],false,0,0⟩) ⟨rfl,rfl⟩ (zG 1000000 (by decide) 0) rfl rfl rfl (by decide)
theorem xU (w:World) (ht:TabAt w) :
  Calls Tryz.prog 36 #[.int .i64 1,.int .i64 1000000] w λe w'=>∃ a:Ad,e=.returned (.tuple #[.pointer (some ⟨a.wd,0,none⟩),.int .i64 0])∧One1 100000 w a.c a.p a.b a.g (rf.new 0 1 0 (-1) []) M3 0 w'∧RestAt w a 0 0 0 (.slice none 0 0) w'∧qH w' a.mm:=by
 have HNEW:=Uq (one_new (B:=100000) w (by decide) ht)
 have hmk:=JL
 have HV:=Uq λw1=>Vj 1000000 w1 (by decide)
 have HT:=Uq ht;clear ht
 go_enter Tryz.func36,Tryz.ntmps36
 go_upto_region 4 with (go_at_call 9;refine HNEW.out.mono ?_;rintro e w1 ⟨c,p,b,g,rfl,h1⟩;have H1:=Uq h1;unfold cptr;clear h1)
 obtain ⟨Y,hY⟩:∃ Y,w1=Y:=⟨_,rfl⟩
 go_cut [8] (λs8 W=>∃ wd nb dp db,s8=.pointer (some ⟨wd,0,none⟩)∧Made w w1 W c wd nb dp db)
 case first=>
  go_region_held3 (λ_=>True) (trivial) (first | (go_at_call 31;refine (HV.out _).mono ?_;rintro e w2 ⟨dp,db,rfl,k1,k2,k3,k4⟩;unfold dptr))
  all_goals (go_wp2_with fail;go_meet)
  ·rw [hY]
   exact ⟨_,_,dp,db,rfl,made_a (by rw [← hY];exact H1.out.bel) k1 k2 k3 k4⟩
  ·rw [hY]
   exact ⟨_,_,dp,db,rfl,made_b (by rw [← hY];exact H1.out.bel) k1 k2 k3 k4⟩
 case rest=>
  obtain ⟨wd,nb,dp,db,rfl,hM⟩:=hcut;have hone:=H1.out.later hM.1;have HMM:=Uq hM
  have HD:=Uq λW (hb:Below wc.heap.size wc W)=>ja (hone.later hb)
  have HE:=Uq λW (hb:Below wc.heap.size wc W)=>uP (hone.later hb) (by decide) HT.out
  have HBT:=Uq λW w3 (hb:Below wc.heap.size wc W)=>vK (w3:=w3) (W:=W) H1.out hM hb
  obtain ⟨m1,m2,m3,m4,m5,m6,m7,m8⟩:=hM;obtain ⟨d,T,m,hF,_⟩:=H1.out.free;have pl:=hF.disk.dk.blk.lt;have bl:=hF.disk.dk.map.lt
  have hno:∀ y,w1.heap.size≤y→y ∉ [p,b]:=λy hy hx=>by
   simp only [List.mem_cons,List.not_mem_nil,or_false] at hx;omega
  have MK:Hid (∀ w',Below wc.heap.size wc w'→w'.cell? ⟨wd,1,none⟩=some (.slice (some ⟨nb,0,none⟩) 1 1)):=Uq λw' hb=>cell_later hb (m2.cell 1 _ rfl)
  have MK2:Hid (∀ W w',Below wc.heap.size wc W→Apart [p,b] W w'→w'.cell? ⟨wd,1,none⟩=some (.slice (some ⟨nb,0,none⟩) 1 1)∧w'.cell? ⟨nb,0,none⟩=some (.pointer none)∧w'.frozen? ⟨nb,0,none⟩=false∧∀ v,(w'.setCell ⟨nb,0,none⟩ v).cell? ⟨wd,1,none⟩=some (.slice (some ⟨nb,0,none⟩) 1 1)):=Uq λW w' hb hA=>by
   have v2:=(qU m2 hb).apart hA (hno wd m5);have v3:=(qU m3 hb).apart hA (hno nb m6)
   exact ⟨v2.cell 1 _ rfl,v3.cell 0 _ rfl,v3.free 0,λv=>(v2.apart (Apart.setCell w' nb 0 v) (λhx=>qa v2 v3 (by decide) (by simpa using hx))).cell 1 _ rfl⟩
  have h0s:=H1.out.base
  have HWD:Hid (w.heap.size≤wd∧w.heap.size≤nb):=Uq ⟨by omega,by omega⟩
  clear hone m1 m2 m3 m4 m5 m6 m7 m8 hF pl bl hno HNEW hmk HV h0s;unfold cptr dptr at *;go_upto_region 6 with fail
  go_loopw [27] (λi wr=>(i=.int .i64 0∧wr=wc)∨(i=.int .i64 1∧Booted w wr c p b g wd nb dp db)) (λi _=>1 - (intOf i).toNat)
  case atStart=>exact .inl ⟨rfl,rfl⟩
  case round=>
   rcases hrel with ⟨rfl,rfl⟩ | ⟨rfl,hB⟩
   ·have hW:Below wr.heap.size wr wr.drew:=below_drewN (Below.refl _ wr) 1;go_upto_region 8 with fail
    go_region_held3 (λw'=>w'.cell? ⟨wd,1,none⟩=some (.slice (some ⟨nb,0,none⟩) 1 1)) (first | exact MK.out _ hW | exact (MK2.out _ _ hW hA).1 | exact (MK2.out _ _ hW hA).2.2.2 _) (first | (go_at_call 114;refine (HD.out _ hW).mono ?_;rintro e w2 ⟨rfl,hb⟩;have hW:=hW.trans (hb.mono hW.size)) | (go_at_call 30;refine (HE.out _ hW).mono ?_;rintro e w3 ⟨ge,ed,lg,tb,mm,rfl,k1,k2,k3,k4,k5,k6,k7,k8,hA⟩;have K:=Uq (HBT.out _ _ hW ge ed lg tb mm k1 k2 k3 k4 k5 k6 k7 k8 hA);have n0:=(MK2.out _ _ hW hA).2.1;have n1:=(MK2.out _ _ hW hA).2.2.1))
    go_wp2_with fail
    exact ⟨.inr ⟨rfl,K.out⟩,by simp [intOf]⟩
   ·obtain ⟨ge,ed,lg,tb,mm,b1,b2,b3,b4,b5,b6,b7,b8,b9,b10⟩:=hB;have HJ:=Uq (uv b6 XG HT.out);have c2:wr.cell? ⟨wd,2,none⟩=some (.pointer (some ⟨dp,0,none⟩)):=b2.cell 2 _ rfl
    have K5:Hid (∀ w5,Apart [dp,db] wr w5→w5.cell? ⟨wd,3,none⟩=some (.pointer none)∧w5.frozen? ⟨wd,3,none⟩=false):=Uq λw5 hA=>by
     have hno:wd ∉ [dp,db]:=λhx=>by
      simp only [List.mem_cons,List.not_mem_nil,or_false] at hx
      rcases hx with e | e
      ·exact qa b2 b6.dk.blk (by decide) e
      ·exact qf b2 b6.dk.map e
     exact ⟨(b2.apart hA hno).cell 3 _ rfl,(b2.apart hA hno).free 3⟩
    have HF:=Uq (λw5 dr jg k1 k2 k3 k4 k5 hA=>jW (d2:=⟨1000000,[(JOBS,([],0))],false,0,0⟩) (w5:=w5) (dr:=dr) (jg:=jg) b1 b2 b3 b4 b5 b6 b7 b8 b9 b10 HWD.out.1 HWD.out.2 k1 k2 k3 k4 k5 hA rfl)
    clear b1 b2 b3 b4 b5 b6 b7 b8 b9 b10;unfold dptr at *
    go_wp2_with (go_at_call 115;refine HJ.out.mono ?_;rintro e w5 ⟨dr,jg,rfl,k1,k2,k3,k4,k5,hA⟩;obtain ⟨x1,x2⟩:=K5.out _ hA;have K:=Uq (HF.out _ _ _ k1 k2 k3 k4 k5 hA);clear k1 k2 k3 k4 k5 hA)
    go_ret2
    exact ⟨⟨wd,nb,c,p,b,g,ge,ed,lg,tb,mm,dr,jg,dp,db⟩,rfl,K.out⟩
structure Wd (w0:World) (a:Ad) (x:rf.Node) (M:vd.Files) (K idx last many:Nat) (cl:Value) (w:World):Prop where
 one:One1 100000 w0 a.c a.p a.b a.g x M K w
 rest:RestAt w0 a idx last many cl w
section
variable {w0 w:World} {a:Ad} {x:rf.Node} {M:vd.Files} {K idx last many:Nat} {cl:Value}
theorem Wd.later {w':World} (h:Wd w0 a x M K idx last many cl w) (hb:Below w.heap.size w w'):Wd w0 a x M K idx last many cl w':=⟨h.one.later hb,h.rest.later hb⟩
theorem Wd.c0 (h:Wd w0 a x M K idx last many cl w):w.cell? ⟨a.wd,0,none⟩=some (.pointer (some ⟨a.c,0,none⟩)):=h.rest.wd.cell 0 _ rfl
theorem Wd.c1 (h:Wd w0 a x M K idx last many cl w):w.cell? ⟨a.wd,1,none⟩=some (.slice (some ⟨a.nb,0,none⟩) 1 1):=h.rest.wd.cell 1 _ rfl
theorem Wd.c2 (h:Wd w0 a x M K idx last many cl w):w.cell? ⟨a.wd,2,none⟩=some (.pointer (some ⟨a.dp,0,none⟩)):=h.rest.wd.cell 2 _ rfl
theorem Wd.c3 (h:Wd w0 a x M K idx last many cl w):w.cell? ⟨a.wd,3,none⟩=some (.pointer (some ⟨a.dr,0,none⟩)):=h.rest.wd.cell 3 _ rfl
theorem Wd.n0 (h:Wd w0 a x M K idx last many cl w):w.cell? ⟨a.nb,0,none⟩=some (.pointer (some ⟨a.ge,0,none⟩)):=h.rest.nb.cell 0 _ rfl
theorem Wd.n1 (h:Wd w0 a x M K idx last many cl w):w.cell? ⟨a.nb,1,none⟩=some (.int .u64 (idx:Int)):=h.rest.nb.cell 1 _ rfl
theorem Y3 (h:Wd w0 a x M K idx last many cl w) :
  Calls Tryz.prog 143 #[.pointer (some ⟨a.wd,0,none⟩),.int .i64 0] w λe w'=>e=.returned (.bool true)∧Below w.heap.size w w':=by
 have HU:=Uq (one_up h.one);have c0:=h.c0
 have HK:Hid (∀ w',Below w.heap.size w w'→w'.cell? ⟨a.wd,1,none⟩=some (.slice (some ⟨a.nb,0,none⟩) 1 1)∧w'.cell? ⟨a.nb,0,none⟩=some (.pointer (some ⟨a.ge,0,none⟩))):=Uq λw' hb=>⟨(h.later hb).c1,(h.later hb).n0⟩
 clear h;unfold cptr at HU
 go_enter Tryz.func143,Tryz.ntmps143
 go_wp2_with (go_at_call 156;refine HU.out.mono ?_;rintro e w1 ⟨rfl,hb⟩;obtain ⟨k1,k2⟩:=HK.out _ hb;have HB:=Uq hb;clear hb)
 go_ret;exact ⟨rfl,HB.out⟩
theorem Va (h:Wd w0 a x M K idx last many cl w) :
  Calls Tryz.prog 142 #[.pointer (some ⟨a.wd,0,none⟩),.int .i64 0] w λe w'=>e=.returned (.bool true)∧w=w':=by
 have c1:=h.c1;clear h
 go_enter Tryz.func142,Tryz.ntmps142
 go_wp2_with fail;go_ret;exact ⟨rfl,rfl⟩
theorem wd_all (h:Wd w0 a x M K idx last many cl w) :
  Calls Tryz.prog 247 #[.pointer (some ⟨a.wd,0,none⟩)] w λe w'=>e=.returned (.bool true)∧Below w.heap.size w w':=by
 have HU:=Uq (Y3 h);have c1:=h.c1;clear h
 go_enter Tryz.func247,Tryz.ntmps247
 go_upto_region 2 with fail
 go_loopw [9] (λi wr=>(i=.int .i64 0∧wr=w)∨(i=.int .i64 1∧Below w.heap.size w wr)) (λi _=>1 - (intOf i).toNat)
 case atStart=>exact .inl ⟨rfl,rfl⟩
 case round=>
  rcases hrel with ⟨rfl,rfl⟩ | ⟨rfl,hB⟩
  ·go_wp2_with (go_at_call 143;refine HU.out.mono ?_;rintro e w1 ⟨rfl,hb⟩;have HB:=Uq hb;clear hb)
   exact ⟨.inr ⟨rfl,HB.out⟩,by simp [intOf]⟩
  ·have HB:=Uq hB;clear hB;go_wp2_with fail;go_ret;exact ⟨rfl,HB.out⟩
theorem J2 (w:World):Calls Tryz.prog 238 #[.slice none 0 0] w λe w'=>e=.returned (.slice none 0 0)∧w=w':=by
 have q22:∀ (w:World) (a:Option Addr) (n c n' c':Nat),(binOp .eql 213 (.slice a n c) (.slice none n' c')).run Tryz.prog w=.ok (.bool a.isNone) w:=λw a n c n' c'=>Lib.run_eql_slice_nil w _ _ a n c n' c' Tryz.underlying213
 go_enter Tryz.func238,Tryz.ntmps238
 go_wp2_with fail;go_ret;exact ⟨rfl,rfl⟩
theorem jD (h:Vb w a.dr [.pointer (some ⟨a.jg,0,none⟩),.slice none 0 0] 316) :
  Calls Tryz.prog 119 #[.pointer (some ⟨a.dr,0,none⟩)] w λe w'=>e=.returned (.slice none 0 0)∧w=w':=by
 have c1:w.cell? ⟨a.dr,1,none⟩=some (.slice none 0 0):=h.cell 1 _ rfl;clear h
 go_enter Tryz.func119,Tryz.ntmps119
 go_wp2_with (go_at_call 238;refine (J2 _).mono ?_;rintro e w' ⟨rfl,rfl⟩)
 go_ret;exact ⟨rfl,rfl⟩
theorem drv_off (h:Wd w0 a x M K idx last many cl w) :
  Calls Tryz.prog 236 #[.pointer (some ⟨a.dr,0,none⟩)] w λe w'=>e=.returned (.bool false)∧w=w':=by
 have c0:w.cell? ⟨a.dr,0,none⟩=some (.pointer (some ⟨a.jg,0,none⟩)):=h.rest.dr.cell 0 _ rfl;have hj:Vb w a.jg (lgV a.dp ⟨JOBS,0,false⟩) 306:=h.rest.jg;have c1:w.cell? ⟨a.jg,3,none⟩=some (.bool false):=hj.cell 3 _ rfl
 have key:Calls Tryz.prog 348 #[.pointer (some ⟨a.jg,0,none⟩)] w λe w'=>e=.returned (.bool false)∧w=w':=by
  clear h hj c0
  go_enter Tryz.func348,Tryz.ntmps348
  go_wp2_with fail;go_ret;exact ⟨rfl,rfl⟩
 have HK:=Uq key;clear h hj c1 key
 go_enter Tryz.func236,Tryz.ntmps236
 go_wp2_with (go_at_call 348;refine HK.out.mono ?_;rintro e w' ⟨rfl,rfl⟩)
 go_ret;exact ⟨rfl,rfl⟩
theorem wd_over (h:Wd w0 a x M K idx last many cl w) :
  Calls Tryz.prog 248 #[.pointer (some ⟨a.wd,0,none⟩)] w λe w'=>e=.returned (.bool true)∧w=w':=by
 have c3:=h.c3;have HJ:=Uq (jD h.rest.dr);clear h
 go_enter Tryz.func248,Tryz.ntmps248
 go_upto_region 2 with (go_at_call 119;refine HJ.out.mono ?_;rintro e w' ⟨rfl,rfl⟩)
 go_loopw [15] (λi wr=>i=.int .i64 0∧wr=w) (λ_ _=>0)
 case atStart=>exact ⟨rfl,rfl⟩
 case round=>
  obtain ⟨rfl,rfl⟩:=hrel;go_wp2_with fail;go_ret;exact ⟨rfl,rfl⟩
theorem uT (h:Wd w0 a x M K idx last many cl w) :
  Calls Tryz.prog 235 #[.pointer (some ⟨a.dp,0,none⟩)] w λe w'=>e=.returned (.bool true)∧w=w':=by
 obtain ⟨d,hd,ho⟩:=h.rest.dsk;refine (vd_up hd.dk).mono ?_;rw [ho];rintro e w' ⟨rfl,rfl⟩;exact ⟨rfl,rfl⟩
theorem Vd (h:Wd w0 a x M K idx last many cl w) :
  Calls Tryz.prog 118 #[.pointer (some ⟨a.wd,0,none⟩)] w λe w'=>e=.returned (.tuple #[])∧Below w.heap.size w w':=by
 have HU:=Uq (Y3 h);have HD:=Uq (uT h);have HO:=Uq (drv_off h);have c1:=h.c1;have c2:=h.c2;have c3:=h.c3;clear h
 go_enter Tryz.func118,Tryz.ntmps118
 go_upto_region 3 with (first | (go_at_call 235;refine HD.out.mono ?_;rintro e w' ⟨rfl,rfl⟩) | (go_at_call 236;refine HO.out.mono ?_;rintro e w' ⟨rfl,rfl⟩))
 go_loopw [23] (λi wr=>(i=.int .i64 0∧wr=w)∨(i=.int .i64 1∧Below w.heap.size w wr)) (λi _=>1 - (intOf i).toNat)
 case atStart=>exact .inl ⟨rfl,rfl⟩
 case round=>
  rcases hrel with ⟨rfl,rfl⟩ | ⟨rfl,hB⟩
  ·go_wp2_with (go_at_call 143;refine HU.out.mono ?_;rintro e w1 ⟨rfl,hb⟩;have HB:=Uq hb;clear hb)
   exact ⟨.inr ⟨rfl,HB.out⟩,by simp [intOf]⟩
  ·have HB:=Uq hB;clear hB;go_wp2_with fail;go_end0;exact ⟨rfl,HB.out⟩
end
end Go.Proofs.YtppibhieabideaaGreatDoor
