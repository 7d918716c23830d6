/- A part of the walk of the program, and of its plain law. -/
import Derived.Test.YtppibhieabideaaGreatDoorGt20
namespace Go.Proofs.YtppibhieabideaaGreatDoor
open Go Go.RowKit Go.Deep
set_option maxRecDepth 100000
theorem Xj {M K B:Nat} {x:rf.Node} (h:cl.NdLim M K x) (hM:M≤9990) (hK:K < 18446744073709551616) (hB:206 * (M + 1)≤B) :
  Writable x.term x.log∧-1≤x.vote∧x.vote≤254∧(∀ t ∈ rl.texts x.term x.vote x.log,t.length≤65535)∧(rl.texts x.term x.vote x.log).length≤10000∧(crcm.flat (rl.texts x.term x.vote x.log)).length≤B:=by
 have hl:=h.len;have hv:=h.vote
 have hs:∀ t ∈ rl.texts x.term x.vote x.log,t.length≤200:=by
  intro t ht;unfold rl.texts at ht
  rcases List.mem_cons.1 ht with rfl | ht
  ·show (rl.le8 x.term ++ [_]).length≤200
   rw [List.length_append,rl.le8_len];simp
  ·obtain ⟨e,he,rfl⟩:=List.mem_map.1 ht;unfold rl.enc;rw [List.length_append,rl.le8_len];have:=(h.text e he).1;omega
 have hlen:(rl.texts x.term x.vote x.log).length=x.log.length + 1:=by unfold rl.texts;rw [List.length_cons,List.length_map]
 have hf:=crcm.flat_le _ hs;rw [hlen] at hf
 refine ⟨⟨Nat.lt_of_le_of_lt h.term hK,by omega,λt ht=>⟨(h.text t ht).2,by have:=(h.text t ht).1;omega⟩⟩,hv.1,by omega,λt ht=>by have:=hs t ht;omega,by omega,?_⟩
 have:206 * (x.log.length + 1)≤206 * (M + 1):=Nat.mul_le_mul_left _ (by omega)
 omega
theorem QO (x:rf.Node) (f:Fp) (up:Bool) (ok:NOk x) (j:Nat) (hj:j < 30):(qr x f up)[j]?=(ndC x (f.ev x))[j]?:=by
 unfold qr
 rw [List.getElem?_append_left (by rw [qe ok];exact hj)]
structure FpTo (F F':Nat→Fp) (i:Nat):Prop where
 other:∀ j,j ≠ i→F' j=F j
 q:(F' i).q=(F i).q
 p:(F' i).p=(F i).p
 b:(F' i).b=(F i).b
 cap:(F' i).d.cap=(F i).d.cap
 left:(F i).d.left=0→(F' i).d.left=0
 g:(F' i).g=(F i).g
 off:(F' i).d.off=(F i).d.off
 oth:∀ n,n ≠ RAFT→vd.at_ (F' i).d.files n=vd.at_ (F i).d.files n∧vd.has (F' i).d.files n=vd.has (F i).d.files n
 tot:vd.total (F' i).d.files + (crcm.flat (F i).a).length=vd.total (F i).d.files + (crcm.flat (F' i).a).length
 nam:(F' i).d.files.map (·.1)=(F i).d.files.map (·.1)
def Outc (C:cl.Clu) (F:Nat→Fp) (i:Nat) (x:rf.Node) (ms:List rf.Msg) (C':cl.Clu) (F':Nat→Fp) (z:Int):Prop:=
 FpTo F F' i∧z=0∧C'=cl.changed C i x ms
structure Mid (B:Nat) (w0 W:World) (c R:Nat) (C C1:cl.Clu) (F F1:Nat→Fp) (k:Nat) (wv:Value) (i:Nat) (x:rf.Node) (ms:List rf.Msg) (b2 q r:Nat) (ev' ov:Value):Prop where
 at_:CluAt B w0 W c R C1 F1 k wv
 n:C1.n=C.n
 up:(C1.p i).up=true
 s:(C1.p i).s=cl.stOf x
 way:C1.way=C.way
 upd:∀ P,cl.upd C1.p i P=cl.upd C.p i P
 fp:FpTo F F1 i
 q:(F1 i).q=q
 box:Blk W r (ndC x ev') 100
 ents:EntsB 0 W ev' x.log
 ms:Way b2 W ov ms
theorem upd_upd {α:Type} (f:Nat→α) (i:Nat) (a b:α):cl.upd (cl.upd f i a) i b=cl.upd f i b:=by
 funext j
 by_cases hj:j=i
 ·subst hj;rw [cl.upd_same,cl.upd_same]
 ·rw [cl.upd_other _ _ hj,cl.upd_other _ _ hj,cl.upd_other _ _ hj]
theorem zS {w w':World} {row:Option Nat} (h:w.grownBy w' row):Apart row.toList w w':=by
 cases row with
 | none=>exact ⟨h.os,h.tape,h.output,h.size,λk hk _=>h.block k hk (by simp)⟩
 | some b=>exact Apart.of_grown h
theorem Qk {n:Int} (h0:-9223372036854775808≤n) (h1:n < 9223372036854775808):IntKind.i64.wrap n=n:=by simp [IntKind.wrap,IntKind.bits,IntKind.signed];omega
theorem Qc {S:List Nat} {w w':World} {b o:Nat} {v:Value} (h:w.cell? ⟨b,o,none⟩=some v) (hA:Apart S w w') (hb:b ∉ S):w'.cell? ⟨b,o,none⟩=some v:=by
 rw [World.cell?_of_block (w:=w) (w':=w') (a:=⟨b,o,none⟩) (hA.block b (World.block_lt_of_cell? _ _ h) hb)];exact h
theorem QX {a b:Nat} {w:World} {e:TypeId} {m n:Nat} {v:Value} {xs:List Value} (h:w.ownsRow a e m v n xs) (hb:b≤a):w.ownsRow b e m v n xs:=by
 refine ⟨h.1,?_⟩
 rcases h.2 with h4 | ⟨g,cap,cur,e,hg,hr⟩
 ·exact .inl h4
 ·exact .inr ⟨g,cap,cur,e,Nat.le_trans hb hg,hr⟩
theorem xO {w:World} {g kk L:Nat} {xs:List Value} (h:0 < L - kk→∀ j u,xs[j]?=some u→w.cell? ⟨g,kk * 9 + j,none⟩=some u) :
  0 < L - kk→∃ ad,some (⟨g,kk * 9,none⟩:Addr)=some ad∧∀ j u,xs[j]?=some u→w.cell? (ad.add j)=some u:=λh0=>
 ⟨⟨g,kk * 9,none⟩,rfl,λj u hj=>by rw [qn];exact h h0 j u hj⟩
set_option maxHeartbeats 8000000 in
theorem J4 {B M K:Nat} {w0 w:World} {c R:Nat} {C:cl.Clu} {F:Nat→Fp} {k:Nat} {wv:Value} {i:Nat} (h:CluAt B w0 w c R C F k wv) (hi:i < C.n) (hu:(C.p i).up=true) (hlink:(C.p i).s=cl.stOf (C.p i).x) (hold:(C.p i).x.log.length≤10000)
  (x:rf.Node) (A':Option Addr) (c':Nat) (hE:EntsB 0 w (.slice A' x.log.length c') x.log) (ok:NOk x) (hlim:cl.NdLim M K x) (hM:M≤9990) (hK:K < 18446744073709551616) (hB:206 * (M + 1)≤B)
  (b2:Nat) (ov:Value) (ms:List rf.Msg) (hms:Way b2 w ov ms) (hml:ms.length≤1000) (h200:C.way.length≤200) (ht:TabAt w0) :
  Calls Tryz.prog 47 #[cptr c,.pointer (some ⟨(F i).q,0,none⟩),.agg (ndC x (.slice A' x.log.length c')).toArray,ov] w λe w'=>∃ z C' F' wv',e=.returned (.int .i64 z)∧CluAt B w0 w' c R C' F' k wv'∧Outc C F i x ms C' F' z∧Stay F C.n w w':=by
 obtain ⟨g1,g2,g3,g4,g5,g6⟩:=Xj hlim hM hK hB;obtain ⟨Ao,co,hov⟩:=hms.form;subst hov;obtain ⟨Aw,cw,hwv⟩:=h.way.form;subst hwv;obtain ⟨ev',hev⟩:∃ v,Value.slice A' x.log.length c'=v:=⟨_,rfl⟩;obtain ⟨X,r,hX,hr,hbX,kb⟩:=qp w (ndC x ev') 100;have hCX:=h.later hbX;have pX:=hCX.peers i hi;have uX:=pX.up hu;obtain ⟨u2,u3,u4,u5,u6,u7⟩:=pX.up hu;have hEX:=hE.later hbX;have hmsX:=hms.later hbX
 have hqn:(F i).q ≠ r:=by
  have h1:=(h.peers i hi).blk.lt;omega
 obtain ⟨q,hq⟩:∃ q,(F i).q=q:=⟨_,rfl⟩;have pb:=pX.blk;rw [hq] at pb hqn
 have c2:=pb.cell 2 _ (by rw [QO _ _ _ pX.ok 2 (by decide)];rfl)
 have c3:=pb.cell 3 _ (by rw [QO _ _ _ pX.ok 3 (by decide)];rfl)
 have c4:=pb.cell 4 _ (by rw [QO _ _ _ pX.ok 4 (by decide)];rfl)
 have c31:=hCX.sto hi;rw [hq,u3] at c31;have r2:=kb.cell 2 _ rfl;have r3:=kb.cell 3 _ rfl;have r4:=kb.cell 4 _ rfl
 have MK:Hid (∀ w',Below X.heap.size X w'→(w'.cell? ⟨q,2,none⟩=some (.int .u64 ((C.p i).x.term:Int))∧w'.cell? ⟨q,3,none⟩=some (.int .i64 (C.p i).x.vote)∧w'.cell? ⟨q,4,none⟩=some ((F i).ev (C.p i).x)∧w'.cell? ⟨r,2,none⟩=some (.int .u64 (x.term:Int))∧w'.cell? ⟨r,3,none⟩=some (.int .i64 x.vote)∧w'.cell? ⟨r,4,none⟩=some ev')):=
  Uq λw' hb=>⟨cell_later hb c2,cell_later hb c3,cell_later hb c4,cell_later hb r2,cell_later hb r3,cell_later hb r4⟩
 have MK2:Hid (∀ w',Below X.heap.size X w'→(w'.cell? ⟨q,31,none⟩=some (.pointer (some ⟨(F i).s,0,none⟩))∧w'.cell? ⟨r,2,none⟩=some (.int .u64 (x.term:Int))∧w'.cell? ⟨r,3,none⟩=some (.int .i64 x.vote)∧w'.cell? ⟨r,4,none⟩=some ev')):=
  Uq λw' hb=>⟨cell_later hb c31,cell_later hb r2,cell_later hb r3,cell_later hb r4⟩
 rw [hev] at hEX
 have hsame:=λW (hb:Below X.heap.size X W)=>vw (C.p i).x.term x.term (C.p i).x.vote x.vote ((F i).ev (C.p i).x) ev' (C.p i).x.log x.log W (pX.ents.later hb).1 (hEX.later hb).1 (by omega)
 obtain ⟨bb,hbb⟩:∃ b,(decide ((C.p i).x.term=x.term) && decide ((C.p i).x.vote=x.vote) && decide ((C.p i).x.log=x.log))=b:=⟨_,rfl⟩;rw [hbb] at hsame
 have heqs:bb=true→(C.p i).s=cl.stOf x:=λe=>by
  rw [hlink];rw [e] at hbb;simp only [Bool.and_eq_true,decide_eq_true_eq] at hbb;unfold cl.stOf;rw [hbb.1.1,hbb.1.2,hbb.2]
 have hsave:=λW (hb:Below X.heap.size X W)=>XC (w0:=w0) (w:=W) (p:=(F i).p) (b:=(F i).b) (d:=(F i).d) (l:=⟨RAFT,(F i).a.length,false⟩) (s:=(F i).s) (g:=(F i).g) x.term x.vote ev' x.log (hEX.later hb).1 g2 g3 g1 ((pX.disk).later hb) ((hb.block _ (Vb.lt u4)).trans u4) ((hb.block _ (Vb.lt u5)).trans u5) u6 (by have:=(pX.kept.cap);have:=pX.disk.cap;omega) (by show (4:Nat)≤200;decide) ht
 have hkept:=pX.kept
 have hd:(F i).d=⟨(F i).d.cap,(F i).d.files,false,0,(F i).d.keep⟩:=by rw [← u2,← hkept.calm]
 have hdok:=pX.disk.ok;rw [hd] at hdok
 have hres:=wl.reset_one (c:=(F i).d.cap) (k:=(F i).d.keep) (n:=RAFT) (a:=(F i).a) (b:=rl.texts x.term x.vote x.log) (l:=⟨RAFT,(F i).a.length,false⟩) (M:=(F i).d.files) hdok rfl rfl KL g4 hkept.one hkept.few (by have:=hkept.room;have:=hkept.flat;omega)
 obtain ⟨d2,hd2⟩:∃ d:vd.Disk,⟨(F i).d.cap,vd.put (F i).d.files RAFT (crcm.flat (rl.texts x.term x.vote x.log),(crcm.flat (rl.texts x.term x.vote x.log)).length),false,0,(F i).d.keep⟩=d:=⟨_,rfl⟩;rw [hd2,← hd] at hres
 have hcase:(wl.One RAFT (crcm.flat (rl.texts x.term x.vote x.log)) d2.files∧d2.files.length < 200∧d2.left=0∧vd.total d2.files + 2 * B≤(crcm.flat (rl.texts x.term x.vote x.log)).length + d2.cap)∧d2.cap=(F i).d.cap∧d2.off=false∧(∀ n,n ≠ RAFT→vd.at_ d2.files n=vd.at_ (F i).d.files n∧vd.has d2.files n=vd.has (F i).d.files n)∧vd.total d2.files + (crcm.flat (F i).a).length=vd.total (F i).d.files + (crcm.flat (rl.texts x.term x.vote x.log)).length∧d2.files.map (·.1)=(F i).d.files.map (·.1):=by
  have ht:=wl.put_total (T:=crcm.flat (rl.texts x.term x.vote x.log)) hkept.one;rw [← hd2]
  refine ⟨⟨wl.put_one hkept.one,by rw [wl.put_len _ _ _ hkept.one.1];exact hkept.few,rfl,?_⟩,rfl,rfl,λn hn=>wl.put_apart hn,ht,by show (vd.put _ _ _).map _=_;rw [vd.put_names,hkept.one.1,if_pos rfl]⟩
  show vd.total (vd.put (F i).d.files RAFT (crcm.flat (rl.texts x.term x.vote x.log),_)) + 2 * B≤_ + (F i).d.cap
  have:=hkept.room;omega
 simp only [hres] at hsave;clear hd2;have HCX:=Uq hCX;have HPX:=Uq pX;have HSM:=Uq hsame;have HSV:=Uq hsave;have HCASE:=Uq hcase;have HHEQ:=Uq heqs;have HEX:=Uq hEX;have HMSX:=Uq hmsX;have HQ:=Uq hq;have HQN:=Uq hqn;have HKB:=Uq kb;have HX:=Uq hX;have HR:=Uq hr;have HU:=Uq (And.intro u2 (And.intro u3 (And.intro u4 (And.intro u5 (And.intro u6 u7)))));have HG:=Uq (And.intro g1 (And.intro g2 (And.intro g3 (And.intro g4 (And.intro g5 g6)))));have HOK:=Uq ok;have HEV:=Uq hev;have HBX:=Uq hbX
 have HSZ:Hid ((ndC x ev').toArray.size=30):=Uq (by rw [List.size_toArray,qe ok])
 have hW:Below X.heap.size X X.drew:=below_drewN (Below.refl _ X) 1;rw [hev];clear hX kb hCX pX u2 u3 u4 u5 u6 u7 hEX hmsX hqn hq pb c2 c3 c4 c31 r2 r3 r4 hsame hbb heqs hsave hd hdok hkept hres hcase g1 g2 g3 g4 g5 g6 h hE hms hr hbX ok hlim hev;unfold cptr
 go_enter Tryz.func47,Tryz.ntmps47
 go_upto_region 1 with fail;rw [HX.out,HQ.out,HR.out];unfold stV at HSV
 cases bb
 ·go_region_held3 (λw'=>w'.cell? ⟨q,2,none⟩=some (.int .u64 ((C.p i).x.term:Int))∧w'.cell? ⟨q,3,none⟩=some (.int .i64 (C.p i).x.vote)∧w'.cell? ⟨q,4,none⟩=some ((F i).ev (C.p i).x)∧w'.cell? ⟨r,2,none⟩=some (.int .u64 (x.term:Int))∧w'.cell? ⟨r,3,none⟩=some (.int .i64 x.vote)∧w'.cell? ⟨r,4,none⟩=some ev') (exact MK.out _ hW) (first | (go_at_call 153;refine (HSM.out _ hW).mono ?_;rintro e w2 ⟨rfl,hs2⟩;have hW:=hW.trans (hs2.mono hW.size)))
  clear HSM HHEQ
  have hqS:q ∉ [(F i).p,(F i).b,(F i).g]:=by
   have h1:=HQ.out;have h2:=HPX.out.blk;obtain ⟨_,_,_,v4,_⟩:=HU.out;intro hx;simp only [List.mem_cons,List.not_mem_nil,or_false] at hx;rw [← h1] at hx
   rcases hx with e | e | e
   ·exact qa h2 HPX.out.disk.dk.blk (by decide) e
   ·exact qf h2 HPX.out.disk.dk.map e
   ·exact qa h2 v4 (by decide) e
  have hrS:r ∉ [(F i).p,(F i).b,(F i).g]:=by
   have h2:Vb X r (ndC x ev') 100:=HKB.out;obtain ⟨_,_,_,v4,_⟩:=HU.out;intro hx;simp only [List.mem_cons,List.not_mem_nil,or_false] at hx
   rcases hx with e | e | e
   ·exact qa h2 HPX.out.disk.dk.blk (by decide) e
   ·exact qf h2 HPX.out.disk.dk.map e
   ·exact qa h2 v4 (by decide) e
  have HQS:=Uq hqS;have HRS:=Uq hrS
  have MK3:Hid (∀ W w',Below X.heap.size X W→Apart [(F i).p,(F i).b,(F i).g] W w'→(w'.cell? ⟨q,31,none⟩=some (.pointer (some ⟨(F i).s,0,none⟩))∧w'.cell? ⟨r,2,none⟩=some (.int .u64 (x.term:Int))∧w'.cell? ⟨r,3,none⟩=some (.int .i64 x.vote)∧w'.cell? ⟨r,4,none⟩=some ev')):=Uq λW w' hb hA=>by
   obtain ⟨k1,k2,k3,k4⟩:=MK2.out W hb;exact ⟨Qc k1 hA HQS.out,Qc k2 hA HRS.out,Qc k3 hA HRS.out,Qc k4 hA HRS.out⟩
  clear hqS hrS;go_upto_region 2 with fail;obtain ⟨W2,hW2⟩:∃ W,w2=W:=⟨_,rfl⟩
  have hY:Below X.heap.size X W2:=by rw [← hW2];exact hW
  rw [hW2];have hW:=hY.trans ((below_drewN (Below.refl _ W2) 1).mono hY.size);have HTWO:=Uq HCASE.out.1;have HCAP:=Uq HCASE.out.2
  go_region_held3 (λw'=>w'.cell? ⟨q,31,none⟩=some (.pointer (some ⟨(F i).s,0,none⟩))∧w'.cell? ⟨r,2,none⟩=some (.int .u64 (x.term:Int))∧w'.cell? ⟨r,3,none⟩=some (.int .i64 x.vote)∧w'.cell? ⟨r,4,none⟩=some ev') (first | exact MK2.out _ hW | exact MK3.out _ _ hW hA3) (first | (go_at_call 154;refine (HSV.out _ hW).mono ?_;rintro e w3 ⟨rfl,hd3,hl3,hA3⟩))
  have pY:=HPX.out.later hW;obtain ⟨v1,v2,v3,v4,v5,v6⟩:=pY.up hu
  have hqS2:(F i).q ∉ [(F i).p,(F i).b,(F i).g]:=by rw [HQ.out];exact HQS.out
  have hsS2:(F i).s ∉ [(F i).p,(F i).b,(F i).g]:=by
   intro hx;simp only [List.mem_cons,List.not_mem_nil,or_false] at hx
   rcases hx with e | e | e
   ·exact qa v3 pY.disk.dk.blk (by decide) e
   ·exact qf v3 pY.disk.dk.map e
   ·exact qa v3 v4 (by decide) e
  have hNE:∀ y ∈ [(F i).p,(F i).b,(F i).g],qK W2.drew y:=by
   intro y hy;simp only [List.mem_cons,List.not_mem_nil,or_false] at hy
   rcases hy with e | e | e
   ·rw [e];exact qv pY.disk.dk.blk (by decide)
   ·rw [e];exact QY pY.disk.dk.map
   ·rw [e];exact qv v4 (by decide)
  have hNM:∀ y ∈ [(F i).p,(F i).b,(F i).g],∀ cur,W2.drew.heap[y]? ≠ some (.cells cur 229 (0,0)):=by
   intro y hy cur e2
   have hv:Vb W2.drew y cur.toList 229:=by unfold Vb;rw [Array.toArray_toList];exact e2
   simp only [List.mem_cons,List.not_mem_nil,or_false] at hy
   rcases hy with e | e | e
   ·subst e;exact qa hv pY.disk.dk.blk (by decide) rfl
   ·subst e;exact qf hv pY.disk.dk.map rfl
   ·subst e;exact qa hv v4 (by decide) rfl
  obtain ⟨g1,g2,g3,g4,g5,g6⟩:=HG.out
  have hP1:PeerOk B w0 w3 ⟨cl.stOf x,true,(C.p i).x⟩ { F i with a:=rl.texts x.term x.vote x.log,d:=d2 }:=
   ⟨by have h1:=pY.blk.apart hA3 hqS2;rw [hu] at h1;exact h1,pY.ents.apart hA3 hNE,pY.ok,hd3,pY.hq,⟨g4,rl.from_texts _ _ _ g1.1 g2 g3 g1.2.2,HTWO.out.1,g6,g5,by rw [HCAP.out.1];exact pY.kept.cap,HTWO.out.2.2.2,HTWO.out.2.1,HTWO.out.2.2.1⟩,pY.sv,(λh=>by cases h),λ_=>⟨HCAP.out.2.1,v2,Vb.apart v3 hA3 hsS2,hl3,v5,v6⟩⟩
  have hC1:=(HCX.out.later hW).peer hi hA3 (λy hy=>by
   simp only [List.mem_cons,List.not_mem_nil,or_false] at hy
   rcases hy with h1 | h1 | h1
   ·exact .inr (.inl h1)
   ·exact .inr (.inr (.inl h1))
   ·exact .inr (.inr (.inr ⟨hu,h1⟩))) hP1 ⟨rfl,rfl,rfl⟩ (λ_=>.inl ⟨hu,rfl,rfl⟩)
  have hmid:∃ C1 F1,Mid B w0 w3 c R C C1 F F1 k (.slice Aw C.way.length cw) i x ms b2 q r ev' (.slice Ao ms.length co):=
   ⟨_,_,hC1,rfl,by show (cl.upd C.p i _ i).up=true;rw [cl.upd_same],by show (cl.upd C.p i _ i).s=_;rw [cl.upd_same],rfl,λP=>upd_upd _ _ _ _,
    ⟨λj hj=>cl.upd_other _ _ hj,by rw [cl.upd_same],by rw [cl.upd_same],by rw [cl.upd_same],by rw [cl.upd_same];exact HCAP.out.1,λh=>by rw [cl.upd_same];exact HTWO.out.2.2.1,by rw [cl.upd_same],by rw [cl.upd_same];exact HCAP.out.2.1.trans HU.out.1.symm,λn hn=>by rw [cl.upd_same];exact HCAP.out.2.2.1 n hn,by rw [cl.upd_same];exact HCAP.out.2.2.2.1,by rw [cl.upd_same];exact HCAP.out.2.2.2.2⟩,
    by rw [cl.upd_same];exact HQ.out,Vb.apart (HKB.out.below hW) hA3 HRS.out,(HEX.out.later hW).apart hA3 hNE,(HMSX.out.later hW).apart hA3 hNE hNM⟩
  obtain ⟨C1,F1,hmid⟩:=hmid;have HMID:=Uq hmid
  have HSTAY:Hid (Stay F C.n w w3):=Uq ((Stay.of_below (HBX.out.trans (hW.mono HBX.out.size))).trans (Stay.of_apart hA3 λy hy=>by
   simp only [List.mem_cons,List.not_mem_nil,or_false] at hy
   rcases hy with e | e | e
   ·exact .inr ⟨i,hi,.inl e⟩
   ·exact .inr ⟨i,hi,.inr (.inl e)⟩
   ·exact .inr ⟨i,hi,.inr (.inr e)⟩))
  clear hmid hC1 hP1 g1 g2 g3 g4 g5 g6 hNM hNE hsS2 hqS2 v1 v2 v3 v4 v5 v6 pY hd3 hl3 hA3 hW hY;go_upto_region 6 with fail;have md:=HMID.out
  have hi1:i < C1.n:=by rw [md.n];exact hi
  have pM:=md.at_.peers i hi1;obtain ⟨v1,v2,v3,v4,v5,v6⟩:=pM.up md.up;have hblk:=pM.blk;rw [md.up,md.q] at hblk
  have hl33:(qr (C1.p i).x (F1 i) true).length=33:=by unfold qr;rw [List.length_append,qe pM.ok];rfl
  have hl30:(ndC x ev').length=30:=qe HOK.out ev'
  have hov2:=Vb.cellsAt (ndC x ev') 0 _ _ hblk (by rw [hl33,hl30];decide)
  have hth:=hblk.there (o:=0) (n:=(ndC x ev').toArray.size) (by rw [hl33,List.size_toArray,hl30];decide)
  obtain ⟨f2,hf2⟩:∃ f,{ F1 i with A:=A',c:=c' }=f:=⟨_,rfl⟩
  have hev2:f2.ev x=ev':=by rw [← hf2];exact HEV.out
  have hdrop:(qr (C1.p i).x (F1 i) true).take 0 ++ ndC x ev' ++ (qr (C1.p i).x (F1 i) true).drop (0 + (ndC x ev').length)=qr x f2 true:=by
   have hl:=qe pM.ok ((F1 i).ev (C1.p i).x);rw [hl30,List.take_zero,List.nil_append,Nat.zero_add];unfold qr
   rw [List.drop_append_of_le_length (by omega),List.drop_of_length_le (by omega),List.nil_append,hev2,← hf2]
  rw [hdrop] at hov2;have hA6:=qS q (ndC x ev') 0 w3
  have hne6:∀ y ∈ [q],qK w3 y:=λy hy=>by
   obtain rfl:y=q:=by simpa using hy
   exact qv hblk (by decide)
  have hnm6:∀ y ∈ [q],∀ cur,w3.heap[y]? ≠ some (.cells cur 229 (0,0)):=λy hy cur e2=>by
   obtain rfl:y=q:=by simpa using hy
   have hv:Vb w3 y cur.toList 229:=by unfold Vb;rw [Array.toArray_toList];exact e2
   exact qa hv hblk (by decide) rfl
  have hpq:(F1 i).p ∉ [q]:=λhx=>qa hblk pM.disk.dk.blk (by decide) (List.mem_singleton.1 hx).symm
  have hbq:(F1 i).b ∉ [q]:=λhx=>qf hblk pM.disk.dk.map (List.mem_singleton.1 hx).symm
  have hsq:(F1 i).s ∉ [q]:=λhx=>qa hblk v3 (by decide) (List.mem_singleton.1 hx).symm
  have hgq:(F1 i).g ∉ [q]:=λhx=>qa hblk v4 (by decide) (List.mem_singleton.1 hx).symm
  have hge6:∀ y ∈ [q],w0.heap.size≤y:=λy hy=>by
   obtain rfl:y=q:=by simpa using hy
   have:=pM.hq;rw [md.q] at this;exact this
  have hP2:PeerOk B w0 (w3.setCells q 0 (ndC x ev')) ⟨cl.stOf x,true,x⟩ f2:=by
   have hq2:f2.q=q:=by rw [← hf2];exact md.q
   refine ⟨by rw [hq2];exact hov2,by rw [hev2];exact md.ents.apart hA6 hne6,HOK.out,?_,by rw [hq2];exact hge6 q (by simp),?_,?_,(λh=>by cases h),λ_=>?_⟩
   ·rw [← hf2];exact pM.disk.next hA6 hge6 (pM.disk.dk.apart hA6 hpq hbq) pM.disk.ok rfl
   ·rw [← hf2,← md.s];exact pM.kept
   ·rw [← hf2];exact pM.sv
   ·rw [← hf2];exact ⟨v1,v2,Vb.apart v3 hA6 hsq,Vb.apart v4 hA6 hgq,v5,v6⟩
  have hC2:=md.at_.peer hi1 hA6 (λy hy=>.inl (by
   obtain rfl:y=q:=by simpa using hy
   exact md.q.symm)) hP2 (by rw [← hf2];exact ⟨rfl,rfl,rfl⟩) (λ_=>.inl ⟨md.up,by rw [← hf2],by rw [← hf2]⟩)
  rw [md.upd] at hC2
  have hfp2:FpTo F (cl.upd F1 i f2) i:=⟨λj hj=>(cl.upd_other _ _ hj).trans (md.fp.other j hj),by rw [cl.upd_same,← hf2];exact md.fp.q,by rw [cl.upd_same,← hf2];exact md.fp.p,by rw [cl.upd_same,← hf2];exact md.fp.b,by rw [cl.upd_same,← hf2];exact md.fp.cap,λh=>by rw [cl.upd_same,← hf2];exact md.fp.left h,by rw [cl.upd_same,← hf2];exact md.fp.g,by rw [cl.upd_same,← hf2];exact md.fp.off,λn hn=>by rw [cl.upd_same,← hf2];exact md.fp.oth n hn,by rw [cl.upd_same,← hf2];exact md.fp.tot,by rw [cl.upd_same,← hf2];exact md.fp.nam⟩
  have hms2:=md.ms.apart hA6 hne6 hnm6;have HMS2:=Uq hms2;have HC2:=Uq hC2;have HFP2:=Uq hfp2;have HBOX:=Uq md.box;have HTH:=Uq hth
  have HS6:Hid (Stay F C.n w (w3.setCells q 0 (ndC x ev'))):=Uq (HSTAY.out.trans (Stay.of_apart hA6 λy hy=>by
   obtain rfl:y=q:=by simpa using hy
   exact .inl ⟨_,_,hblk,.inl rfl⟩))
  have HWY:=Uq md.way;have HN1:=Uq md.n;clear md hi1 pM v1 v2 v3 v4 v5 v6 hblk hl33 hl30 hov2 hth hev2 hdrop hA6 hne6 hnm6 hpq hbq hsq hgq hge6 hP2 hC2 hfp2 hms2 hf2
  go_upto_region 7 with (first | (refine wpList_load_row rfl 100 _ rfl r rfl _ _ _ _ HBOX.out Tryz.underlying100 rfl (by rw [qc,HSZ.out]) ?_) | (refine wpList_store_mid rfl 100 (.tmp 34) (.tmp 32) rfl q 0 (ndC x ev').toArray rfl rfl HTH.out (by rw [qc,HSZ.out]) (qy (by rw [← HEV.out];rfl)) ?_))
  clear HBOX HTH;obtain ⟨W4,hW4⟩:∃ W,w3.setCells q 0 (ndC x ev')=W:=⟨_,rfl⟩;have hC2:=HC2.out;have hms2:=HMS2.out;have hs6:=HS6.out;rw [hW4] at hC2 hms2 hs6 ⊢;clear HC2 HMS2 HS6 hW4;have hway:=hC2.way
  have hwayE:Way w0.heap.size W4 (.slice Aw C.way.length cw) C.way:=by have h1:=HWY.out;rw [← h1];have h2:=hway;rw [← h1] at h2;exact h2
  obtain ⟨_,evs,he1,hown,hents,_⟩:=hwayE.cells;obtain ⟨_,evm,hm1,hownm,hentm,hcm⟩:=hms2.cells;obtain ⟨i0,hi0,hz0,hz1,hz2⟩:=info_parts zN;obtain ⟨xs,hxs⟩:∃ xs,qq (C.way.zip evs)=xs:=⟨_,rfl⟩;obtain ⟨ys,hys⟩:∃ ys,qq (ms.zip evm)=ys:=⟨_,rfl⟩
  have hyl:ys.length=ms.length * 9:=by rw [← hys,QR,Zw hm1]
  have hyo:∀ u ∈ ys,u.oneCell'=true:=by rw [← hys];exact zk hentm
  rw [hxs] at hown;rw [hys] at hcm
  have hcm2:0 < ms.length→∃ ad,Ao=some ad∧∀ j u,ys[j]?=some u→W4.cell? (ad.add j)=some u:=λh0=>by
   obtain ⟨g,e,hh⟩:=hcm h0
   exact ⟨⟨g,0,none⟩,e,λj u hj=>by rw [qn,Nat.zero_add];exact hh j u hj⟩
  have c1:=hC2.c1;have f1:=Blk.free hC2.blk 1;obtain ⟨n,hn⟩:∃ n,C.way.length=n:=⟨_,rfl⟩;obtain ⟨mm,hmm⟩:∃ n,ms.length=n:=⟨_,rfl⟩;rw [hn] at hown c1 hC2 h200;rw [hmm] at hyl hcm2 hml ⊢;have HO:=Uq hown;have HCM:=Uq hcm2;have HYL:=Uq hyl;have HYO:=Uq hyo;have HC3:=Uq hC2;have HEVS:=Uq (And.intro he1 (And.intro hents (And.intro hm1 (And.intro hentm (And.intro hxs hys)))));have HNM:=Uq (And.intro hn hmm);clear hown hcm2 hyl hyo hway hwayE hownm hcm hms2 hC2 he1 hents hm1 hentm hxs hys hn hmm
  have hcS:c ∉ (Value.slice Aw n cw).ownBlock.toList:=λhx=>by
   obtain ⟨_,cur,e⟩:=HC3.out.wayRow (g:=c) (by simpa using hx)
   have hv:Vb W4 c cur.toList 229:=by unfold Vb;rw [Array.toArray_toList];exact e
   exact qa hv HC3.out.blk (by decide) rfl
  have HCS:=Uq hcS;clear hcS
  go_upto_region 8 with (first | (at_builtin;refine qo _ rfl (.tmp 39) (.tmp 40) 91 rfl w0.heap.size 229 i0 _ 9 88 Tryz.underlying91 hi0 hz0 hz1 hz2 rfl (by decide) (.slice Aw n cw) n xs rfl HO.out Ao mm co ys rfl HYL.out HCM.out HYO.out (by unfold maxLen;omega) (by omega) HC3.out.bel.size ?_;intro v' w5 hown' hg';obtain ⟨A5,c5,rfl⟩:=ql hown';have hA5:=zS hg';have hc5:=HC3.out.blk.apart hA5 HCS.out;have c1:=hc5.cell 1 _ rfl;have f1:=Blk.free hc5 1;have HOWN:=Uq hown';have HA5:=Uq hA5;clear hown' hg' hc5 hA5))
  obtain ⟨he1,hents,hm1,hentm,hxs,hys⟩:=HEVS.out;obtain ⟨hn,hmm⟩:=HNM.out
  have hne5:∀ y ∈ (Value.slice Aw n cw).ownBlock.toList,qK W4 y:=λy hy cur2 e2=>by
   obtain ⟨_,cur,e⟩:=HC3.out.wayRow (g:=y) (by simpa using hy)
   rw [e] at e2
   injection e2 with e2
   injection e2 with _ e2 _
   exact absurd e2 (by decide)
  have hway5:Way w0.heap.size w5 (.slice A5 (n + mm) c5) (C.way ++ ms):=by
   refine ⟨evs ++ evm,by rw [List.length_append,List.length_append,he1,hm1],?_,λp hp=>?_⟩
   ·have e:((C.way ++ ms).zip (evs ++ evm)).flatMap (λp=>msgC p.1 p.2)=xs ++ ys:=by
     rw [List.zip_append (by rw [he1]),List.flatMap_append,← hxs,← hys]
     rfl
    rw [e,List.length_append,hn,hmm];exact HOWN.out
   ·rw [List.zip_append (by rw [he1])] at hp
    rcases List.mem_append.1 hp with h1 | h1
    ·exact (hents p h1).apart HA5.out hne5
    ·exact (hentm p h1).apart HA5.out hne5
  have hC6:=HC3.out.setWay HA5.out (λy hy=>HC3.out.wayRow (by simpa using hy)) hway5 (by rw [List.length_append,hn,hmm];omega)
  obtain ⟨W6,hW6⟩:∃ W,w5.setCell ⟨c,1,none⟩ (.slice A5 (n + mm) c5)=W:=⟨_,rfl⟩
  have hs7:Stay F C.n w W6:=by
   rw [← hW6]
   refine hs6.trans ((Stay.of_apart HA5.out λy hy=>?_).trans (Stay.of_apart (Apart.setCell w5 c 1 (.slice A5 (n + mm) c5)) λy hy=>?_))
   ·obtain ⟨_,cur,e⟩:=HC3.out.wayRow (g:=y) (by simpa using hy)
    exact .inl ⟨cur.toList,_,(by unfold Vb;rw [Array.toArray_toList];exact e),.inr (.inr rfl)⟩
   ·obtain rfl:y=c:=by simpa using hy
    exact .inl ⟨_,_,HC3.out.blk.apart HA5.out HCS.out,.inr (.inl rfl)⟩
  rw [hW6] at hC6 ⊢;have c6:=hC6.c1;have f6:=Blk.free hC6.blk 1
  have hform:((n + mm=0∧A5=none)∨∃ g,A5=some ⟨g,0,none⟩∧n + mm≤c5):=by
   rcases HOWN.out.2 with ⟨e1,e2⟩ | ⟨g,cap,cur,e1,_,_,h3,_⟩
   ·exact .inl ⟨e2,by injection e1⟩
   ·injection e1 with e1 _ e3
    exact .inr ⟨g,e1,by rw [e3];exact h3⟩
  obtain ⟨L,hL⟩:∃ L,n + mm=L:=⟨_,rfl⟩;rw [hL] at hC6 hway5 c6 hform ⊢
  have hLb:L≤1200:=by omega
  obtain ⟨kk,hkk⟩:∃ k,L - 200=k:=⟨_,rfl⟩
  have hmax:max (0:Int) ((L:Int) - 200)=(kk:Int):=by omega
  have hkL:(kk:Int)≤(L:Int):=by omega
  have hk0:(0:Int)≤(kk:Int):=by omega
  obtain ⟨hx0,evs6,h61,hown6,hent6,hcell6⟩:=hC6.way.cells;clear hx0
  have hwr:IntKind.i64.wrap ((L:Int) - 200)=(L:Int) - 200:=Qk (by omega) (by omega)
  have hlen6:(C.way ++ ms).length=L:=by rw [List.length_append,hn,hmm];exact hL
  obtain ⟨zs,hzs⟩:∃ zs,(C.way ++ ms).zip evs6=zs:=⟨_,rfl⟩;rw [hzs] at hown6 hent6 hcell6
  have hzl:zs.length=L:=by rw [← hzs,Zw h61];exact hlen6
  have HZ6:=Uq (And.intro h61 (And.intro hent6 (And.intro hcell6 (And.intro hlen6 (And.intro hzl hzs)))));have HC6:=Uq hC6;have HL:=Uq hL;have HKK:=Uq hkk;have HS7:=Uq hs7
  have MK8:Hid (∀ w',Below W6.heap.size W6 w'→(w'.cell? ⟨c,1,none⟩=some (.slice A5 L c5)∧w'.frozen? ⟨c,1,none⟩=false)):=Uq λw' hb=>⟨(hC6.later hb).c1,Blk.free (hC6.later hb).blk 1⟩
  have hW:Below W6.heap.size W6 W6.drew:=below_drewN (Below.refl _ W6) 1;clear h61 hown6 hent6 hcell6 hlen6 hzl hzs hne5 hway5 hC6 hW6 hs7 c6 f6 hents hm1 hentm hxs hys hn hmm he1 hL hkk c1 f1 HOWN HA5 HC3
  have hnS:∀ y ∈ ([]:List Nat),w0.heap.size≤y∧∃ cur,W6.heap[y]?=some (.cells cur 229 (0,0)):=λy hy=>by cases hy
  have hend:∀ (w7:World) (B7:Option Addr) (d7:Nat),Below W6.heap.size W6 w7→w7.ownsRow W6.heap.size 229 9 (.slice B7 (L - kk) d7) (L - kk) ((qq zs).drop (kk * 9))→∃ C' F' wv',CluAt B w0 (w7.setCell ⟨c,1,none⟩ (.slice B7 (L - kk) d7)) c R C' F' k wv'∧Outc C F i x ms C' F' 0∧Stay F C.n w (w7.setCell ⟨c,1,none⟩ (.slice B7 (L - kk) d7)):=by
   intro w7 B7 d7 hb7 ho7;obtain ⟨h61,hent6,hcell6,hlen6,hzl,hzs⟩:=HZ6.out
   have hz:((C.way ++ ms).drop kk).zip (evs6.drop kk)=zs.drop kk:=by rw [← hzs];unfold List.zip;exact List.drop_zipWith.symm
   have hll:((C.way ++ ms).drop kk).length=L - kk:=by rw [List.length_drop,hlen6]
   have hbase:=HC6.out.bel.size
   have hw7:Way w0.heap.size w7 (.slice B7 (L - kk) d7) ((C.way ++ ms).drop kk):=by
    refine ⟨evs6.drop kk,by rw [List.length_drop,List.length_drop,h61],?_,λp hp=>?_⟩
    ·have e:(((C.way ++ ms).drop kk).zip (evs6.drop kk)).flatMap (λp=>msgC p.1 p.2)=(qq zs).drop (kk * 9):=by
      rw [hz,QC]
      rfl
     rw [e,hll];refine ⟨ho7.1,?_⟩
     rcases ho7.2 with h4 | ⟨g,cap,cur,e,hg,hr⟩
     ·exact .inl h4
     ·exact .inr ⟨g,cap,cur,e,Nat.le_trans hbase hg,hr⟩
    ·rw [hz] at hp;exact (hent6 p (List.mem_of_mem_drop hp)).later hb7
   have h9:=(HC6.out.later hb7).setWay (Apart.refl [] w7) (λy hy=>by cases hy) hw7 (by rw [hll];omega)
   have elast:(C.way ++ ms).drop kk=cl.last (C.way ++ ms):=by unfold cl.last;rw [hlen6,HKK.out]
   rw [elast] at h9
   have eC:({ { { C1 with p:=cl.upd C.p i ⟨cl.stOf x,true,x⟩ } with way:=C.way ++ ms } with way:=cl.last (C.way ++ ms) }:cl.Clu)=cl.changed C i x ms:=by
    unfold cl.changed;rw [← HN1.out]
   refine ⟨cl.changed C i x ms,cl.upd F1 i f2,.slice B7 (L - kk) d7,?_,⟨HFP2.out,rfl,rfl⟩,?_⟩
   ·rw [← eC];exact h9
   ·refine HS7.out.trans ((Stay.of_below hb7).trans (Stay.of_apart (Apart.setCell w7 c 1 _) λy hy=>?_))
    obtain rfl:y=c:=by simpa using hy
    exact .inl ⟨_,_,(HC6.out.later hb7).blk,.inr (.inl rfl)⟩
  have HEND:=Uq hend;clear hend hnS
  have HARG:Hid (∀ w7,Below W6.heap.size W6 w7→((qq zs).drop (kk * 9)).length=(L - kk) * 9∧(∀ u ∈ (qq zs).drop (kk * 9),u.oneCell'=true)∧L - kk≤100000∧∀ g,A5=some ⟨g,0,none⟩→0 < L - kk→∀ j u,((qq zs).drop (kk * 9))[j]?=some u→w7.cell? ⟨g,kk * 9 + j,none⟩=some u):=Uq λw7 hb7=>by
   obtain ⟨h61,hent6,hcell6,hlen6,hzl,hzs⟩:=HZ6.out
   refine ⟨by rw [QC,QR,List.length_drop,hzl],λu hu=>zk hent6 u (List.mem_of_mem_drop hu),by omega,λg hg h0 j u hj=>?_⟩
   obtain ⟨g',e,hh⟩:=hcell6 (by omega)
   rw [hg] at e
   injection e with e
   injection e with e
   subst e;rw [List.getElem?_drop] at hj;exact cell_later hb7 (hh _ u hj)
  obtain ⟨k8,g8⟩:=MK8.out _ hW
  rcases hform with ⟨h0,rfl⟩ | ⟨g5,rfl,hcap⟩
  ·have hkz:kk=0:=by omega
   subst hkz h0
   have hm1:max (0:Int) (IntKind.i64.wrap (-200))=0:=by decide
   have hm2:max (0:Int) (-200)=0:=by decide
   go_region_with (first | (go_at_call 155;refine (Qi _ 0 _ [] _ rfl (λh=>absurd h (Nat.lt_irrefl 0)) (λu hu=>by cases hu) (Nat.zero_le _)).mono ?_;rintro e w8 ⟨B8,d8,rfl,hown8,hb8⟩;have hown8:=QX hown8 hW.size;have hW:=hW.trans (hb8.mono hW.size);obtain ⟨k9,g9⟩:=MK8.out _ hW))
   all_goals (
    have e0:(qq zs).drop (0 * 9)=[]:=List.eq_nil_of_length_eq_zero (by rw [(HARG.out _ hW).1])
    obtain ⟨C',F',wv',k1,k2,k3⟩:=HEND.out w8 B8 d8 hW (by rw [e0];exact hown8)
    clear k8 g8 k9 g9;go_wp2;go_ret
    exact ⟨0,C',F',wv',rfl,k1,k2,k3⟩)
  ·have hcapI:(L:Int)≤(c5:Int):=by omega
   by_cases hck:c5=kk
   ·obtain ⟨hz0,hLk⟩:L - kk=0∧L=kk:=by omega
    have HE:=HEND.out;have HA:=HARG.out;rw [hz0] at HE HA
    have e0:(qq zs).drop (kk * 9)=[]:=List.eq_nil_of_length_eq_zero (by rw [(HA _ hW).1,Nat.zero_mul])
    rw [e0] at HE;have HE:=Uq HE;clear HA HEND HARG e0 hz0;subst hck hLk
    go_region_with (first | (go_at_call 155;refine (Qi _ 0 _ [] _ rfl (λh=>absurd h (Nat.lt_irrefl 0)) (λu hu=>by cases hu) (Nat.zero_le _)).mono ?_;rintro e w8 ⟨B8,d8,rfl,hown8,hb8⟩;have hown8:=QX hown8 hW.size;have hW:=hW.trans (hb8.mono hW.size);obtain ⟨k9,g9⟩:=MK8.out _ hW))
    all_goals (
     obtain ⟨C',F',wv',k1,k2,k3⟩:=HE.out w8 B8 d8 hW hown8;clear k8 g8 k9 g9;go_wp2;go_ret
     exact ⟨0,C',F',wv',rfl,k1,k2,k3⟩)
   ·have HCK:=Uq hcap
    go_region_with (first | (go_at_call 155;refine (Qi _ _ _ ((qq zs).drop (kk * 9)) _ (HARG.out _ hW).1 (xO ((HARG.out _ hW).2.2.2 g5 rfl)) (HARG.out _ hW).2.1 (HARG.out _ hW).2.2.1).mono ?_;rintro e w8 ⟨B8,d8,rfl,hown8,hb8⟩;have hown8:=QX hown8 hW.size;have hW:=hW.trans (hb8.mono hW.size);obtain ⟨k9,g9⟩:=MK8.out _ hW))
    all_goals (
     obtain ⟨C',F',wv',k1,k2,k3⟩:=HEND.out w8 B8 d8 hW hown8;clear k8 g8 k9 g9;go_wp2;go_ret
     exact ⟨0,C',F',wv',rfl,k1,k2,k3⟩)
 ·go_region_held3 (λw'=>w'.cell? ⟨q,2,none⟩=some (.int .u64 ((C.p i).x.term:Int))∧w'.cell? ⟨q,3,none⟩=some (.int .i64 (C.p i).x.vote)∧w'.cell? ⟨q,4,none⟩=some ((F i).ev (C.p i).x)∧w'.cell? ⟨r,2,none⟩=some (.int .u64 (x.term:Int))∧w'.cell? ⟨r,3,none⟩=some (.int .i64 x.vote)∧w'.cell? ⟨r,4,none⟩=some ev') (exact MK.out _ hW) (first | (go_at_call 153;refine (HSM.out _ hW).mono ?_;rintro e w2 ⟨rfl,hs2⟩;have hW:=hW.trans (hs2.mono hW.size)))
  clear HSM;obtain ⟨w3,hw3⟩:∃ W,w2=W:=⟨_,rfl⟩
  have hY:Below X.heap.size X w3:=by rw [← hw3];exact hW
  rw [hw3]
  have hmid:∃ C1 F1,Mid B w0 w3 c R C C1 F F1 k (.slice Aw C.way.length cw) i x ms b2 q r ev' (.slice Ao ms.length co):=
   ⟨C,F,HCX.out.later hY,rfl,hu,HHEQ.out (by trivial),rfl,λ_=>rfl,⟨λ_ _=>rfl,rfl,rfl,rfl,rfl,λh=>h,rfl,rfl,λ_ _=>⟨rfl,rfl⟩,rfl,rfl⟩,HQ.out,HKB.out.below hY,HEX.out.later hY,HMSX.out.later hY⟩
  obtain ⟨C1,F1,hmid⟩:=hmid;have HMID:=Uq hmid;have HSTAY:Hid (Stay F C.n w w3):=Uq (Stay.of_below (HBX.out.trans (hY.mono HBX.out.size)));clear hmid hW hY hw3;go_upto_region 6 with fail;have md:=HMID.out
  have hi1:i < C1.n:=by rw [md.n];exact hi
  have pM:=md.at_.peers i hi1;obtain ⟨v1,v2,v3,v4,v5,v6⟩:=pM.up md.up;have hblk:=pM.blk;rw [md.up,md.q] at hblk
  have hl33:(qr (C1.p i).x (F1 i) true).length=33:=by unfold qr;rw [List.length_append,qe pM.ok];rfl
  have hl30:(ndC x ev').length=30:=qe HOK.out ev'
  have hov2:=Vb.cellsAt (ndC x ev') 0 _ _ hblk (by rw [hl33,hl30];decide)
  have hth:=hblk.there (o:=0) (n:=(ndC x ev').toArray.size) (by rw [hl33,List.size_toArray,hl30];decide)
  obtain ⟨f2,hf2⟩:∃ f,{ F1 i with A:=A',c:=c' }=f:=⟨_,rfl⟩
  have hev2:f2.ev x=ev':=by rw [← hf2];exact HEV.out
  have hdrop:(qr (C1.p i).x (F1 i) true).take 0 ++ ndC x ev' ++ (qr (C1.p i).x (F1 i) true).drop (0 + (ndC x ev').length)=qr x f2 true:=by
   have hl:=qe pM.ok ((F1 i).ev (C1.p i).x);rw [hl30,List.take_zero,List.nil_append,Nat.zero_add];unfold qr
   rw [List.drop_append_of_le_length (by omega),List.drop_of_length_le (by omega),List.nil_append,hev2,← hf2]
  rw [hdrop] at hov2;have hA6:=qS q (ndC x ev') 0 w3
  have hne6:∀ y ∈ [q],qK w3 y:=λy hy=>by
   obtain rfl:y=q:=by simpa using hy
   exact qv hblk (by decide)
  have hnm6:∀ y ∈ [q],∀ cur,w3.heap[y]? ≠ some (.cells cur 229 (0,0)):=λy hy cur e2=>by
   obtain rfl:y=q:=by simpa using hy
   have hv:Vb w3 y cur.toList 229:=by unfold Vb;rw [Array.toArray_toList];exact e2
   exact qa hv hblk (by decide) rfl
  have hpq:(F1 i).p ∉ [q]:=λhx=>qa hblk pM.disk.dk.blk (by decide) (List.mem_singleton.1 hx).symm
  have hbq:(F1 i).b ∉ [q]:=λhx=>qf hblk pM.disk.dk.map (List.mem_singleton.1 hx).symm
  have hsq:(F1 i).s ∉ [q]:=λhx=>qa hblk v3 (by decide) (List.mem_singleton.1 hx).symm
  have hgq:(F1 i).g ∉ [q]:=λhx=>qa hblk v4 (by decide) (List.mem_singleton.1 hx).symm
  have hge6:∀ y ∈ [q],w0.heap.size≤y:=λy hy=>by
   obtain rfl:y=q:=by simpa using hy
   have:=pM.hq;rw [md.q] at this;exact this
  have hP2:PeerOk B w0 (w3.setCells q 0 (ndC x ev')) ⟨cl.stOf x,true,x⟩ f2:=by
   have hq2:f2.q=q:=by rw [← hf2];exact md.q
   refine ⟨by rw [hq2];exact hov2,by rw [hev2];exact md.ents.apart hA6 hne6,HOK.out,?_,by rw [hq2];exact hge6 q (by simp),?_,?_,(λh=>by cases h),λ_=>?_⟩
   ·rw [← hf2];exact pM.disk.next hA6 hge6 (pM.disk.dk.apart hA6 hpq hbq) pM.disk.ok rfl
   ·rw [← hf2,← md.s];exact pM.kept
   ·rw [← hf2];exact pM.sv
   ·rw [← hf2];exact ⟨v1,v2,Vb.apart v3 hA6 hsq,Vb.apart v4 hA6 hgq,v5,v6⟩
  have hC2:=md.at_.peer hi1 hA6 (λy hy=>.inl (by
   obtain rfl:y=q:=by simpa using hy
   exact md.q.symm)) hP2 (by rw [← hf2];exact ⟨rfl,rfl,rfl⟩) (λ_=>.inl ⟨md.up,by rw [← hf2],by rw [← hf2]⟩)
  rw [md.upd] at hC2
  have hfp2:FpTo F (cl.upd F1 i f2) i:=⟨λj hj=>(cl.upd_other _ _ hj).trans (md.fp.other j hj),by rw [cl.upd_same,← hf2];exact md.fp.q,by rw [cl.upd_same,← hf2];exact md.fp.p,by rw [cl.upd_same,← hf2];exact md.fp.b,by rw [cl.upd_same,← hf2];exact md.fp.cap,λh=>by rw [cl.upd_same,← hf2];exact md.fp.left h,by rw [cl.upd_same,← hf2];exact md.fp.g,by rw [cl.upd_same,← hf2];exact md.fp.off,λn hn=>by rw [cl.upd_same,← hf2];exact md.fp.oth n hn,by rw [cl.upd_same,← hf2];exact md.fp.tot,by rw [cl.upd_same,← hf2];exact md.fp.nam⟩
  have hms2:=md.ms.apart hA6 hne6 hnm6;have HMS2:=Uq hms2;have HC2:=Uq hC2;have HFP2:=Uq hfp2;have HBOX:=Uq md.box;have HTH:=Uq hth
  have HS6:Hid (Stay F C.n w (w3.setCells q 0 (ndC x ev'))):=Uq (HSTAY.out.trans (Stay.of_apart hA6 λy hy=>by
   obtain rfl:y=q:=by simpa using hy
   exact .inl ⟨_,_,hblk,.inl rfl⟩))
  have HWY:=Uq md.way;have HN1:=Uq md.n;clear md hi1 pM v1 v2 v3 v4 v5 v6 hblk hl33 hl30 hov2 hth hev2 hdrop hA6 hne6 hnm6 hpq hbq hsq hgq hge6 hP2 hC2 hfp2 hms2 hf2
  go_upto_region 7 with (first | (refine wpList_load_row rfl 100 _ rfl r rfl _ _ _ _ HBOX.out Tryz.underlying100 rfl (by rw [qc,HSZ.out]) ?_) | (refine wpList_store_mid rfl 100 (.tmp 34) (.tmp 32) rfl q 0 (ndC x ev').toArray rfl rfl HTH.out (by rw [qc,HSZ.out]) (qy (by rw [← HEV.out];rfl)) ?_))
  clear HBOX HTH;obtain ⟨W4,hW4⟩:∃ W,w3.setCells q 0 (ndC x ev')=W:=⟨_,rfl⟩;have hC2:=HC2.out;have hms2:=HMS2.out;have hs6:=HS6.out;rw [hW4] at hC2 hms2 hs6 ⊢;clear HC2 HMS2 HS6 hW4;have hway:=hC2.way
  have hwayE:Way w0.heap.size W4 (.slice Aw C.way.length cw) C.way:=by have h1:=HWY.out;rw [← h1];have h2:=hway;rw [← h1] at h2;exact h2
  obtain ⟨_,evs,he1,hown,hents,_⟩:=hwayE.cells;obtain ⟨_,evm,hm1,hownm,hentm,hcm⟩:=hms2.cells;obtain ⟨i0,hi0,hz0,hz1,hz2⟩:=info_parts zN;obtain ⟨xs,hxs⟩:∃ xs,qq (C.way.zip evs)=xs:=⟨_,rfl⟩;obtain ⟨ys,hys⟩:∃ ys,qq (ms.zip evm)=ys:=⟨_,rfl⟩
  have hyl:ys.length=ms.length * 9:=by rw [← hys,QR,Zw hm1]
  have hyo:∀ u ∈ ys,u.oneCell'=true:=by rw [← hys];exact zk hentm
  rw [hxs] at hown;rw [hys] at hcm
  have hcm2:0 < ms.length→∃ ad,Ao=some ad∧∀ j u,ys[j]?=some u→W4.cell? (ad.add j)=some u:=λh0=>by
   obtain ⟨g,e,hh⟩:=hcm h0
   exact ⟨⟨g,0,none⟩,e,λj u hj=>by rw [qn,Nat.zero_add];exact hh j u hj⟩
  have c1:=hC2.c1;have f1:=Blk.free hC2.blk 1;obtain ⟨n,hn⟩:∃ n,C.way.length=n:=⟨_,rfl⟩;obtain ⟨mm,hmm⟩:∃ n,ms.length=n:=⟨_,rfl⟩;rw [hn] at hown c1 hC2 h200;rw [hmm] at hyl hcm2 hml ⊢;have HO:=Uq hown;have HCM:=Uq hcm2;have HYL:=Uq hyl;have HYO:=Uq hyo;have HC3:=Uq hC2;have HEVS:=Uq (And.intro he1 (And.intro hents (And.intro hm1 (And.intro hentm (And.intro hxs hys)))));have HNM:=Uq (And.intro hn hmm);clear hown hcm2 hyl hyo hway hwayE hownm hcm hms2 hC2 he1 hents hm1 hentm hxs hys hn hmm
  have hcS:c ∉ (Value.slice Aw n cw).ownBlock.toList:=λhx=>by
   obtain ⟨_,cur,e⟩:=HC3.out.wayRow (g:=c) (by simpa using hx)
   have hv:Vb W4 c cur.toList 229:=by unfold Vb;rw [Array.toArray_toList];exact e
   exact qa hv HC3.out.blk (by decide) rfl
  have HCS:=Uq hcS;clear hcS
  go_upto_region 8 with (first | (at_builtin;refine qo _ rfl (.tmp 39) (.tmp 40) 91 rfl w0.heap.size 229 i0 _ 9 88 Tryz.underlying91 hi0 hz0 hz1 hz2 rfl (by decide) (.slice Aw n cw) n xs rfl HO.out Ao mm co ys rfl HYL.out HCM.out HYO.out (by unfold maxLen;omega) (by omega) HC3.out.bel.size ?_;intro v' w5 hown' hg';obtain ⟨A5,c5,rfl⟩:=ql hown';have hA5:=zS hg';have hc5:=HC3.out.blk.apart hA5 HCS.out;have c1:=hc5.cell 1 _ rfl;have f1:=Blk.free hc5 1;have HOWN:=Uq hown';have HA5:=Uq hA5;clear hown' hg' hc5 hA5))
  obtain ⟨he1,hents,hm1,hentm,hxs,hys⟩:=HEVS.out;obtain ⟨hn,hmm⟩:=HNM.out
  have hne5:∀ y ∈ (Value.slice Aw n cw).ownBlock.toList,qK W4 y:=λy hy cur2 e2=>by
   obtain ⟨_,cur,e⟩:=HC3.out.wayRow (g:=y) (by simpa using hy)
   rw [e] at e2
   injection e2 with e2
   injection e2 with _ e2 _
   exact absurd e2 (by decide)
  have hway5:Way w0.heap.size w5 (.slice A5 (n + mm) c5) (C.way ++ ms):=by
   refine ⟨evs ++ evm,by rw [List.length_append,List.length_append,he1,hm1],?_,λp hp=>?_⟩
   ·have e:((C.way ++ ms).zip (evs ++ evm)).flatMap (λp=>msgC p.1 p.2)=xs ++ ys:=by
     rw [List.zip_append (by rw [he1]),List.flatMap_append,← hxs,← hys]
     rfl
    rw [e,List.length_append,hn,hmm];exact HOWN.out
   ·rw [List.zip_append (by rw [he1])] at hp
    rcases List.mem_append.1 hp with h1 | h1
    ·exact (hents p h1).apart HA5.out hne5
    ·exact (hentm p h1).apart HA5.out hne5
  have hC6:=HC3.out.setWay HA5.out (λy hy=>HC3.out.wayRow (by simpa using hy)) hway5 (by rw [List.length_append,hn,hmm];omega)
  obtain ⟨W6,hW6⟩:∃ W,w5.setCell ⟨c,1,none⟩ (.slice A5 (n + mm) c5)=W:=⟨_,rfl⟩
  have hs7:Stay F C.n w W6:=by
   rw [← hW6]
   refine hs6.trans ((Stay.of_apart HA5.out λy hy=>?_).trans (Stay.of_apart (Apart.setCell w5 c 1 (.slice A5 (n + mm) c5)) λy hy=>?_))
   ·obtain ⟨_,cur,e⟩:=HC3.out.wayRow (g:=y) (by simpa using hy)
    exact .inl ⟨cur.toList,_,(by unfold Vb;rw [Array.toArray_toList];exact e),.inr (.inr rfl)⟩
   ·obtain rfl:y=c:=by simpa using hy
    exact .inl ⟨_,_,HC3.out.blk.apart HA5.out HCS.out,.inr (.inl rfl)⟩
  rw [hW6] at hC6 ⊢;have c6:=hC6.c1;have f6:=Blk.free hC6.blk 1
  have hform:((n + mm=0∧A5=none)∨∃ g,A5=some ⟨g,0,none⟩∧n + mm≤c5):=by
   rcases HOWN.out.2 with ⟨e1,e2⟩ | ⟨g,cap,cur,e1,_,_,h3,_⟩
   ·exact .inl ⟨e2,by injection e1⟩
   ·injection e1 with e1 _ e3
    exact .inr ⟨g,e1,by rw [e3];exact h3⟩
  obtain ⟨L,hL⟩:∃ L,n + mm=L:=⟨_,rfl⟩;rw [hL] at hC6 hway5 c6 hform ⊢
  have hLb:L≤1200:=by omega
  obtain ⟨kk,hkk⟩:∃ k,L - 200=k:=⟨_,rfl⟩
  have hmax:max (0:Int) ((L:Int) - 200)=(kk:Int):=by omega
  have hkL:(kk:Int)≤(L:Int):=by omega
  have hk0:(0:Int)≤(kk:Int):=by omega
  obtain ⟨hx0,evs6,h61,hown6,hent6,hcell6⟩:=hC6.way.cells;clear hx0
  have hwr:IntKind.i64.wrap ((L:Int) - 200)=(L:Int) - 200:=Qk (by omega) (by omega)
  have hlen6:(C.way ++ ms).length=L:=by rw [List.length_append,hn,hmm];exact hL
  obtain ⟨zs,hzs⟩:∃ zs,(C.way ++ ms).zip evs6=zs:=⟨_,rfl⟩;rw [hzs] at hown6 hent6 hcell6
  have hzl:zs.length=L:=by rw [← hzs,Zw h61];exact hlen6
  have HZ6:=Uq (And.intro h61 (And.intro hent6 (And.intro hcell6 (And.intro hlen6 (And.intro hzl hzs)))));have HC6:=Uq hC6;have HL:=Uq hL;have HKK:=Uq hkk;have HS7:=Uq hs7
  have MK8:Hid (∀ w',Below W6.heap.size W6 w'→(w'.cell? ⟨c,1,none⟩=some (.slice A5 L c5)∧w'.frozen? ⟨c,1,none⟩=false)):=Uq λw' hb=>⟨(hC6.later hb).c1,Blk.free (hC6.later hb).blk 1⟩
  have hW:Below W6.heap.size W6 W6.drew:=below_drewN (Below.refl _ W6) 1;clear h61 hown6 hent6 hcell6 hlen6 hzl hzs hne5 hway5 hC6 hW6 hs7 c6 f6 hents hm1 hentm hxs hys hn hmm he1 hL hkk c1 f1 HOWN HA5 HC3
  have hnS:∀ y ∈ ([]:List Nat),w0.heap.size≤y∧∃ cur,W6.heap[y]?=some (.cells cur 229 (0,0)):=λy hy=>by cases hy
  have hend:∀ (w7:World) (B7:Option Addr) (d7:Nat),Below W6.heap.size W6 w7→w7.ownsRow W6.heap.size 229 9 (.slice B7 (L - kk) d7) (L - kk) ((qq zs).drop (kk * 9))→∃ C' F' wv',CluAt B w0 (w7.setCell ⟨c,1,none⟩ (.slice B7 (L - kk) d7)) c R C' F' k wv'∧Outc C F i x ms C' F' 0∧Stay F C.n w (w7.setCell ⟨c,1,none⟩ (.slice B7 (L - kk) d7)):=by
   intro w7 B7 d7 hb7 ho7;obtain ⟨h61,hent6,hcell6,hlen6,hzl,hzs⟩:=HZ6.out
   have hz:((C.way ++ ms).drop kk).zip (evs6.drop kk)=zs.drop kk:=by rw [← hzs];unfold List.zip;exact List.drop_zipWith.symm
   have hll:((C.way ++ ms).drop kk).length=L - kk:=by rw [List.length_drop,hlen6]
   have hbase:=HC6.out.bel.size
   have hw7:Way w0.heap.size w7 (.slice B7 (L - kk) d7) ((C.way ++ ms).drop kk):=by
    refine ⟨evs6.drop kk,by rw [List.length_drop,List.length_drop,h61],?_,λp hp=>?_⟩
    ·have e:(((C.way ++ ms).drop kk).zip (evs6.drop kk)).flatMap (λp=>msgC p.1 p.2)=(qq zs).drop (kk * 9):=by
      rw [hz,QC]
      rfl
     rw [e,hll];refine ⟨ho7.1,?_⟩
     rcases ho7.2 with h4 | ⟨g,cap,cur,e,hg,hr⟩
     ·exact .inl h4
     ·exact .inr ⟨g,cap,cur,e,Nat.le_trans hbase hg,hr⟩
    ·rw [hz] at hp;exact (hent6 p (List.mem_of_mem_drop hp)).later hb7
   have h9:=(HC6.out.later hb7).setWay (Apart.refl [] w7) (λy hy=>by cases hy) hw7 (by rw [hll];omega)
   have elast:(C.way ++ ms).drop kk=cl.last (C.way ++ ms):=by unfold cl.last;rw [hlen6,HKK.out]
   rw [elast] at h9
   have eC:({ { { C1 with p:=cl.upd C.p i ⟨cl.stOf x,true,x⟩ } with way:=C.way ++ ms } with way:=cl.last (C.way ++ ms) }:cl.Clu)=cl.changed C i x ms:=by
    unfold cl.changed;rw [← HN1.out]
   refine ⟨cl.changed C i x ms,cl.upd F1 i f2,.slice B7 (L - kk) d7,?_,⟨HFP2.out,rfl,rfl⟩,?_⟩
   ·rw [← eC];exact h9
   ·refine HS7.out.trans ((Stay.of_below hb7).trans (Stay.of_apart (Apart.setCell w7 c 1 _) λy hy=>?_))
    obtain rfl:y=c:=by simpa using hy
    exact .inl ⟨_,_,(HC6.out.later hb7).blk,.inr (.inl rfl)⟩
  have HEND:=Uq hend;clear hend hnS
  have HARG:Hid (∀ w7,Below W6.heap.size W6 w7→((qq zs).drop (kk * 9)).length=(L - kk) * 9∧(∀ u ∈ (qq zs).drop (kk * 9),u.oneCell'=true)∧L - kk≤100000∧∀ g,A5=some ⟨g,0,none⟩→0 < L - kk→∀ j u,((qq zs).drop (kk * 9))[j]?=some u→w7.cell? ⟨g,kk * 9 + j,none⟩=some u):=Uq λw7 hb7=>by
   obtain ⟨h61,hent6,hcell6,hlen6,hzl,hzs⟩:=HZ6.out
   refine ⟨by rw [QC,QR,List.length_drop,hzl],λu hu=>zk hent6 u (List.mem_of_mem_drop hu),by omega,λg hg h0 j u hj=>?_⟩
   obtain ⟨g',e,hh⟩:=hcell6 (by omega)
   rw [hg] at e
   injection e with e
   injection e with e
   subst e;rw [List.getElem?_drop] at hj;exact cell_later hb7 (hh _ u hj)
  obtain ⟨k8,g8⟩:=MK8.out _ hW
  rcases hform with ⟨h0,rfl⟩ | ⟨g5,rfl,hcap⟩
  ·have hkz:kk=0:=by omega
   subst hkz h0
   have hm1:max (0:Int) (IntKind.i64.wrap (-200))=0:=by decide
   have hm2:max (0:Int) (-200)=0:=by decide
   go_region_with (first | (go_at_call 155;refine (Qi _ 0 _ [] _ rfl (λh=>absurd h (Nat.lt_irrefl 0)) (λu hu=>by cases hu) (Nat.zero_le _)).mono ?_;rintro e w8 ⟨B8,d8,rfl,hown8,hb8⟩;have hown8:=QX hown8 hW.size;have hW:=hW.trans (hb8.mono hW.size);obtain ⟨k9,g9⟩:=MK8.out _ hW))
   all_goals (
    have e0:(qq zs).drop (0 * 9)=[]:=List.eq_nil_of_length_eq_zero (by rw [(HARG.out _ hW).1])
    obtain ⟨C',F',wv',k1,k2,k3⟩:=HEND.out w8 B8 d8 hW (by rw [e0];exact hown8)
    clear k8 g8 k9 g9;go_wp2;go_ret
    exact ⟨0,C',F',wv',rfl,k1,k2,k3⟩)
  ·have hcapI:(L:Int)≤(c5:Int):=by omega
   by_cases hck:c5=kk
   ·obtain ⟨hz0,hLk⟩:L - kk=0∧L=kk:=by omega
    have HE:=HEND.out;have HA:=HARG.out;rw [hz0] at HE HA
    have e0:(qq zs).drop (kk * 9)=[]:=List.eq_nil_of_length_eq_zero (by rw [(HA _ hW).1,Nat.zero_mul])
    rw [e0] at HE;have HE:=Uq HE;clear HA HEND HARG e0 hz0;subst hck hLk
    go_region_with (first | (go_at_call 155;refine (Qi _ 0 _ [] _ rfl (λh=>absurd h (Nat.lt_irrefl 0)) (λu hu=>by cases hu) (Nat.zero_le _)).mono ?_;rintro e w8 ⟨B8,d8,rfl,hown8,hb8⟩;have hown8:=QX hown8 hW.size;have hW:=hW.trans (hb8.mono hW.size);obtain ⟨k9,g9⟩:=MK8.out _ hW))
    all_goals (
     obtain ⟨C',F',wv',k1,k2,k3⟩:=HE.out w8 B8 d8 hW hown8;clear k8 g8 k9 g9;go_wp2;go_ret
     exact ⟨0,C',F',wv',rfl,k1,k2,k3⟩)
   ·have HCK:=Uq hcap
    go_region_with (first | (go_at_call 155;refine (Qi _ _ _ ((qq zs).drop (kk * 9)) _ (HARG.out _ hW).1 (xO ((HARG.out _ hW).2.2.2 g5 rfl)) (HARG.out _ hW).2.1 (HARG.out _ hW).2.2.1).mono ?_;rintro e w8 ⟨B8,d8,rfl,hown8,hb8⟩;have hown8:=QX hown8 hW.size;have hW:=hW.trans (hb8.mono hW.size);obtain ⟨k9,g9⟩:=MK8.out _ hW))
    all_goals (
     obtain ⟨C',F',wv',k1,k2,k3⟩:=HEND.out w8 B8 d8 hW hown8;clear k8 g8 k9 g9;go_wp2;go_ret
     exact ⟨0,C',F',wv',rfl,k1,k2,k3⟩)
end Go.Proofs.YtppibhieabideaaGreatDoor
