/- A part of the walk of the program, and of its plain law. -/
import Derived.Test.YtppibhieabideaaGreatDoorGt21
import Derived.Deep.RegionHeld
namespace Go.Proofs.YtppibhieabideaaGreatDoor
set_option maxHeartbeats 4000000
open Go Go.RowKit Go.Deep
set_option maxRecDepth 100000
structure Ready (M K B:Nat) (C:cl.Clu) (i:Nat):Prop where
 lt:i < C.n
 up:(C.p i).up=true
 link:(C.p i).s=cl.stOf (C.p i).x
 id:(C.p i).x.id=(i:Int)
 many:(C.p i).x.many=(C.n:Int)
 lim:cl.NdLim M K (C.p i).x
 w200:C.way.length≤200
 hM:M + 1≤9990
 hK:K + 1 < 18446744073709551616
 hB:206 * (M + 2)≤B
def Turned (B:Nat) (w0:World) (c R:Nat) (C:cl.Clu) (F:Nat→Fp) (k i:Nat) (x:rf.Node) (ms:List rf.Msg) (z:Int) (w w':World):Prop:=
 ∃ C' F' wv',CluAt B w0 w' c R C' F' k wv'∧Outc C F i x ms C' F' z∧Stay F C.n w w'
theorem Turned.from_ {B:Nat} {w0:World} {c R:Nat} {C:cl.Clu} {F:Nat→Fp} {k i:Nat} {x:rf.Node} {ms:List rf.Msg} {z:Int} {v w w':World} (h:Turned B w0 c R C F k i x ms z w w') (hb:Stay F C.n v w):Turned B w0 c R C F k i x ms z v w':=by
 obtain ⟨C',F',wv',h1,h2,h3⟩:=h;exact ⟨C',F',wv',h1,h2,hb.trans h3⟩
structure Laid (w0 w W:World) (bn:Nat) (x:rf.Node) (ms:List rf.Msg) (ev sv:Value):Prop where
 blk:Blk W bn (ndC x ev) 100
 bel:Below w.heap.size w W
 ents:EntsB 0 W ev x.log
 way:Way w0.heap.size W sv ms
theorem Zp {w0 w w1:World} {x:rf.Node} {ms:List rf.Msg} {ev sv:Value} {a b:Nat} (hE:EntsB a w1 ev x.log) (hS:Sent b w1 sv ms) (hb1:Below w.heap.size w w1) (hw:w0.heap.size≤b) :
  Laid w0 w ((w1.alloc (.cells #[.int .i64 0,.int .i64 0,.int .u64 0,.int .i64 0,.slice none 0 0,.int .i64 0,.int .i64 0,.int .u64 0,.int .i64 0,.bool false,.bool false,.bool false,.bool false,.bool false,.bool false,.bool false,.int .u64 0,.int .u64 0,.int .u64 0,.int .u64 0,.int .u64 0,.int .u64 0,.int .u64 0,.int .u64 0,.int .u64 0,.int .u64 0,.int .u64 0,.int .u64 0,.int .u64 0,.int .u64 0] 100)).setRow w1.heap.size (ndC x ev).toArray) w1.heap.size x ms ev sv:=by
 have hb:Blk (w1.alloc (.cells #[.int .i64 0,.int .i64 0,.int .u64 0,.int .i64 0,.slice none 0 0,.int .i64 0,.int .i64 0,.int .u64 0,.int .i64 0,.bool false,.bool false,.bool false,.bool false,.bool false,.bool false,.bool false,.int .u64 0,.int .u64 0,.int .u64 0,.int .u64 0,.int .u64 0,.int .u64 0,.int .u64 0,.int .u64 0,.int .u64 0,.int .u64 0,.int .u64 0,.int .u64 0,.int .u64 0,.int .u64 0] 100)) w1.heap.size (ndC qi nilV) 100:=Blk.new w1 _ _;have h2:Below w1.heap.size w1 ((w1.alloc (.cells #[.int .i64 0,.int .i64 0,.int .u64 0,.int .i64 0,.slice none 0 0,.int .i64 0,.int .i64 0,.int .u64 0,.int .i64 0,.bool false,.bool false,.bool false,.bool false,.bool false,.bool false,.bool false,.int .u64 0,.int .u64 0,.int .u64 0,.int .u64 0,.int .u64 0,.int .u64 0,.int .u64 0,.int .u64 0,.int .u64 0,.int .u64 0,.int .u64 0,.int .u64 0,.int .u64 0,.int .u64 0] 100)).setRow w1.heap.size (ndC x ev).toArray):=((Below.refl _ w1).alloc (Nat.le_refl _) _).trans (qk _ _ _ (Nat.le_refl _));exact ⟨hb.row _,hb1.trans (h2.mono hb1.size),hE.re.later h2,(hS.way hw).later h2⟩
theorem yE {w0 w w1:World} {x:rf.Node} {ms:List rf.Msg} {ev sv:Value} {a b bn:Nat} (hZ:Blk w1 bn (ndC qi nilV) 100) (hE:EntsB a w1 ev x.log) (hS:Sent b w1 sv ms) (hb1:Below w.heap.size w w1) (hbn:w.heap.size≤bn) (hw:w0.heap.size≤b) :
  Laid w0 w (w1.setRow bn (ndC x ev).toArray) bn x ms ev sv:=by
 have h2:Apart [bn] w1 (w1.setRow bn (ndC x ev).toArray):=by
  have hb:=qk (B:=w1.heap.size) w1 bn (ndC x ev).toArray;have hg:=qk (B:=bn) w1 bn (ndC x ev).toArray (Nat.le_refl _)
  exact ⟨hg.os,hg.tape,hg.output,hg.size,λk _ hn=>qz _ _ _ k (by simpa using hn)⟩
 have hno:∀ y ∈ [bn],qK w1 y:=λy hy=>by
  obtain rfl:y=bn:=by simpa using hy
  exact qv (vs:=ndC qi nilV) hZ (by decide)
 refine ⟨hZ.row _,hb1.trans (qk _ _ _ hbn),hE.re.apart h2 hno,(hS.way hw).apart h2 hno λy hy cur e=>?_⟩
 obtain rfl:y=bn:=by simpa using hy
 unfold Blk at hZ;rw [e] at hZ
 injection hZ with hZ
 injection hZ with _ hZ _
 exact absurd hZ (by decide)
theorem CluAt.ndRange {B:Nat} {w0 w:World} {c R:Nat} {C:cl.Clu} {F:Nat→Fp} {k:Nat} {wv:Value} (h:CluAt B w0 w c R C F k wv) {i:Nat} (hi:i < C.n):w.rangeAt (F i).q 0 (ndC (C.p i).x ((F i).ev (C.p i).x)):=λj v hv=>by
 rw [Nat.zero_add];have hl:=qe (h.peers i hi).ok ((F i).ev (C.p i).x)
 have hj:j < 30:=by
  rcases Nat.lt_or_ge j 30 with h1 | h1
  ·exact h1
  ·rw [List.getElem?_eq_none (by omega)] at hv;cases hv
 exact (h.peers i hi).blk.cell j v (by rw [QO _ _ _ (h.peers i hi).ok j hj];exact hv)
theorem zQ {B M K:Nat} {w0 W:World} {c R:Nat} {C:cl.Clu} {F:Nat→Fp} {k:Nat} {wv:Value} {i:Nat} (h:CluAt B w0 W c R C F k wv) (rd:Ready M K B C i) (ht:TabAt w0)
  (x:rf.Node) (ms:List rf.Msg) (hl:cl.NdLim (M + 1) (K + 1) x) (hml:ms.length≤1000) {A:Option Addr} {c':Nat} {D:Option Addr} {d:Nat} (ok:NOk x)
  (hE:EntsB 0 W (.slice A x.log.length c') x.log) (hS:Way w0.heap.size W (.slice D ms.length d) ms) :
  Calls Tryz.prog 47 #[cptr c,.pointer (some ⟨(F i).q,0,none⟩),.agg (ndC x (.slice A x.log.length c')).toArray,.slice D ms.length d] W λe w'=>∃ z,e=.returned (.int .i64 z)∧Turned B w0 c R C F k i x ms z W w':=by
 refine (J4 (M:=M + 1) (K:=K + 1) h rd.lt rd.up rd.link (by have:=rd.lim.len;have:=rd.hM;omega) x A c' hE ok hl rd.hM rd.hK (by have:=rd.hB;omega) w0.heap.size (.slice D ms.length d) ms hS hml rd.w200 ht).mono ?_
 rintro e w' ⟨z,C',F',wv',rfl,h1,h2,h3⟩;exact ⟨z,rfl,C',F',wv',h1,h2,h3⟩
def OwnT (t:TypeId):Prop:=t=103∨t=177∨t=306∨t=93∨t=229
def Alien (t:TypeId):Prop:=¬ OwnT t∧t ≠ 36∧t ≠ 94∧t ≠ 244
instance (t:TypeId):Decidable (OwnT t):=by unfold OwnT;infer_instance
instance (t:TypeId):Decidable (Alien t):=by unfold Alien;infer_instance
theorem CluAt.alien {B:Nat} {w0 w w':World} {c R:Nat} {C:cl.Clu} {F:Nat→Fp} {k:Nat} {wv:Value} {S:List Nat} (h:CluAt B w0 w c R C F k wv) (hA:Apart S w w') (hS:∀ x ∈ S,w0.heap.size≤x∧∃ vs t,Vb w x vs t∧Alien t):CluAt B w0 w' c R C F k wv:=by
 obtain ⟨us,r1,r2⟩:=h.row
 have hne:∀ y us u,Vb w y us u→(OwnT u∨u=36∨u=94∨u=244)→y ∉ S:=λy us u hv hu hy=>by
  obtain ⟨_,vs,t,h1,h2,h3,h4,h5⟩:=hS y hy
  have e:t=u:=by
   unfold Vb at h1 hv;rw [h1] at hv
   injection hv with hv
   injection hv
  subst e
  rcases hu with hu | hu | hu | hu
  ·exact h2 hu
  ·exact h3 hu
  ·exact h4 hu
  ·exact h5 hu
 have hno:∀ y ∈ S,qK w y:=λy hy=>by
  obtain ⟨_,vs,t,h1,_,h3,_⟩:=hS y hy;exact qv h1 h3
 have hge:∀ y ∈ S,w0.heap.size≤y:=λy hy=>(hS y hy).1
 refine ⟨h.bel.trans (hA.below _ h.bel.size hge),h.blk.apart hA (hne _ _ _ h.blk (.inl (.inr (.inr (.inr (.inl rfl)))))),h.hc,h.hR,⟨us,r1.apart hA (hne _ _ _ r1 (.inr (.inr (.inl rfl)))),r2⟩,h.n7,λj hj=>?_,h.way.apart hA hno λy hy cur e=>?_,h.w200,h.sep⟩
 ·have pj:=h.peers j hj
  refine pj.apart hA hno hge λy hy hyS=>?_
  have hmap:y ≠ (F j).b:=λe=>by
   obtain ⟨_,vs,t,h1,_⟩:=hS y hyS
   exact qf h1 (by rw [e];exact pj.disk.dk.map) rfl
  unfold Fp.blocks at hy
  split at hy
  ·rename_i hu
   obtain ⟨_,_,v3,v4,_⟩:=pj.up hu;simp only [List.mem_cons,List.not_mem_nil,or_false] at hy
   rcases hy with rfl | rfl | rfl | rfl | rfl
   ·exact hne _ _ _ pj.blk (.inl (.inl rfl)) hyS
   ·exact hne _ _ _ pj.disk.dk.blk (.inl (.inr (.inl rfl))) hyS
   ·exact hmap rfl
   ·exact hne _ _ _ v3 (.inr (.inr (.inr rfl))) hyS
   ·exact hne _ _ _ v4 (.inl (.inr (.inr (.inl rfl)))) hyS
  ·simp only [List.mem_cons,List.not_mem_nil,or_false] at hy
   rcases hy with rfl | rfl | rfl
   ·exact hne _ _ _ pj.blk (.inl (.inl rfl)) hyS
   ·exact hne _ _ _ pj.disk.dk.blk (.inl (.inr (.inl rfl))) hyS
   ·exact hmap rfl
 ·have hv:Vb w y cur.toList 229:=by unfold Vb;rw [Array.toArray_toList];exact e
  exact hne _ _ _ hv (.inl (.inr (.inr (.inr (.inr rfl))))) hy
set_option maxHeartbeats 8000000 in
theorem Xi {B M K:Nat} {w0 w:World} {c R:Nat} {C:cl.Clu} {F:Nat→Fp} {k:Nat} {wv:Value} {i:Nat} (h:CluAt B w0 w c R C F k wv) (rd:Ready M K B C i) (ht:TabAt w0) (bx:Nat) (hbx:Vb w bx [cptr c] 25) :
  Calls Tryz.prog 147 (#[] ++ #[.pointer (some ⟨(F i).q,0,none⟩)] ++ #[.pointer (some ⟨bx,0,none⟩)]) w λe w'=>∃ z,e=.returned (.int .i64 z)∧Turned B w0 c R C F k i (rf.tick (C.p i).x).1 (rf.tick (C.p i).x).2 z w w':=by
 have hn7:=h.n7;have hi:=rd.lt
 have hlim:=cl.tick_lim (x:=(C.p i).x) rd.hK rd.lim (by rw [rd.id];omega) (by rw [rd.id];omega)
 have hsm:=Jj (n:=(C.p i).x) (by rw [rd.id];omega) (by rw [rd.id];omega)
 have HT:=Uq (Vp (C.p i).x (F i).A (F i).c w (h.peers i hi).ents.re (h.peers i hi).ok (by rw [rd.many];omega) (by rw [rd.id];omega) (by rw [rd.id];omega) rd.lim.i0 (by have:=rd.lim.i1;omega) (by have:=rd.lim.len;have:=rd.hM;omega))
 have HR:=Uq (h.ndRange hi)
 have HSZ:Hid ((Tryz.prog.info? 100).map (·.size)=some (ndC (C.p i).x ((F i).ev (C.p i).x)).length):=Uq (by rw [qc,qe (h.peers i hi).ok])
 obtain ⟨x,hx⟩:∃ x,(rf.tick (C.p i).x).1=x:=⟨_,rfl⟩;obtain ⟨ms,hm⟩:∃ ms,(rf.tick (C.p i).x).2=ms:=⟨_,rfl⟩;unfold cl.BothLim at hlim;rw [hx,hm] at HT;rw [hx] at hlim;rw [hm] at hsm;rw [hx,hm]
 have hCH:=λ(W:World) (A:Option Addr) (c':Nat) (D:Option Addr) (d:Nat) (hbW:Below w.heap.size w W) ok hE hS=>(zQ (W:=W) (A:=A) (c':=c') (D:=D) (d:=d) (h.later hbW) rd ht x ms hlim.1 (by omega) ok hE hS)
 have HCH:=Uq hCH;have HW0:Hid (w0.heap.size≤w.heap.size):=Uq h.bel.size;obtain ⟨q,hq⟩:∃ q,(F i).q=q:=⟨_,rfl⟩;rw [hq] at HR HCH ⊢;have hc0:=hbx.cell 0 _ rfl;have HBX:=Uq hbx;clear hn7 hi hlim hsm h hx hm hq hCH hbx rd;unfold cptr at hc0 HCH
 rw [show (#[] ++ #[Value.pointer (some ⟨q,0,none⟩)] ++ #[Value.pointer (some ⟨bx,0,none⟩)]:Array Value)=#[.pointer (some ⟨q,0,none⟩),.pointer (some ⟨bx,0,none⟩)] from rfl]
 go_enter Tryz.func147,Tryz.ntmps147
 go_upto_region 2 with (first | (refine wpList_load_mid rfl 100 _ rfl q 0 rfl _ _ HR.out Tryz.underlying100 rfl HSZ.out ?_) | (go_at_call 148;refine HT.out.mono ?_;rintro e w1 ⟨nv,sv,rfl,hO⟩;obtain ⟨A1,c1,D1,d1,rfl,rfl,hE1,hS1,ok1,hb1⟩:=hO;have HLD:=Uq (Zp hE1 hS1 hb1 HW0.out);have HS6:Hid ((ndC x (.slice A1 x.log.length c1)).toArray.size=30):=Uq (by rw [List.size_toArray,qe ok1]);have HZ:Hid (Blk (w1.alloc (.cells #[.int .i64 0,.int .i64 0,.int .u64 0,.int .i64 0,.slice none 0 0,.int .i64 0,.int .i64 0,.int .u64 0,.int .i64 0,.bool false,.bool false,.bool false,.bool false,.bool false,.bool false,.bool false,.int .u64 0,.int .u64 0,.int .u64 0,.int .u64 0,.int .u64 0,.int .u64 0,.int .u64 0,.int .u64 0,.int .u64 0,.int .u64 0,.int .u64 0,.int .u64 0,.int .u64 0,.int .u64 0] 100)) w1.heap.size (ndC qi nilV) 100):=Uq (Blk.new w1 _ _);have hc0:=cell_later hb1 hc0;have HO:=Uq ok1;clear hb1 hE1 hS1 ok1;unfold ndV) | (refine wpList_store_row rfl 100 (.tmp 4) (.tmp 12) rfl w1.heap.size _ rfl rfl _ _ HZ.out (by rw [qc,HS6.out]) (by rw [HS6.out];rfl) (qy rfl) ?_))
 obtain ⟨bn,hbn⟩:∃ b,w1.heap.size=b:=⟨_,rfl⟩;rw [hbn] at HLD ⊢;obtain ⟨W,hW⟩:∃ W,(w1.alloc (.cells #[.int .i64 0,.int .i64 0,.int .u64 0,.int .i64 0,.slice none 0 0,.int .i64 0,.int .i64 0,.int .u64 0,.int .i64 0,.bool false,.bool false,.bool false,.bool false,.bool false,.bool false,.bool false,.int .u64 0,.int .u64 0,.int .u64 0,.int .u64 0,.int .u64 0,.int .u64 0,.int .u64 0,.int .u64 0,.int .u64 0,.int .u64 0,.int .u64 0,.int .u64 0,.int .u64 0,.int .u64 0] 100)).setRow bn (ndC x (.slice A1 x.log.length c1)).toArray=W:=⟨_,rfl⟩;rw [hW] at HLD ⊢;have hc1:=HBX.out.cell 0 _ rfl;have hc2:=cell_later HLD.out.bel hc1;have hcall:=HCH.out W A1 c1 D1 d1 HLD.out.bel HO.out HLD.out.ents HLD.out.way;have HCALL:=Uq hcall;have HBK:=Uq HLD.out.blk;have HBL:=Uq HLD.out.bel;unfold cptr at hc2;clear hcall HLD HZ HCH HO hW hbn hc0 hc1 HBX
 go_wp2_with (first | (refine wpList_load_row rfl 100 _ rfl bn rfl _ _ _ _ HBK.out Tryz.underlying100 rfl (by rw [qc,HS6.out]) ?_) | (go_at_call 47;refine HCALL.out.mono ?_;rintro e w5 ⟨z,rfl,hT⟩;have HTT:=Uq hT;clear hT))
 go_ret;exact ⟨z,rfl,HTT.out.from_ (Stay.of_below HBL.out)⟩
theorem xf {B M K:Nat} {w0 w:World} {c R:Nat} {C:cl.Clu} {F:Nat→Fp} {k:Nat} {wv:Value} {i:Nat} (h:CluAt B w0 w c R C F k wv) (rd:Ready M K B C i) (ht:TabAt w0) :
  Calls Tryz.prog 42 #[cptr c,.int .i64 (i:Int)] w λe w'=>∃ z,e=.returned (.int .i64 z)∧Turned B w0 c R C F k i (rf.tick (C.p i).x).1 (rf.tick (C.p i).x).2 z w w':=by
 obtain ⟨X,bx,hX,hbx,hbX,kb⟩:=qp w [cptr c] 25;have hv:Vb X bx [cptr c] 25:=kb
 have hon:=jb (w:=X) 147 #[.pointer (some ⟨bx,0,none⟩)] (λz w1 w2=>Turned B w0 c R C F k i (rf.tick (C.p i).x).1 (rf.tick (C.p i).x).2 z w1 w2) (h.later hbX) rd.lt rd.up (λ_ _=>rfl) (λw1 hb1=>Xi ((h.later hbX).later hb1) rd ht bx ((hb1.block _ hv.lt).trans hv))
 have HON:=Uq hon;have c0:=kb.cell 0 _ rfl;have HX:=Uq hX;have HBX:=Uq hbx;have HB:=Uq hbX;clear h rd hon hX hbx hbX kb hv;unfold cptr at HON HX c0 ⊢
 go_enter Tryz.func42,Tryz.ntmps42
 go_upto_region 1 with fail;rw [HX.out,HBX.out]
 go_wp2_with (go_at_call 44;refine HON.out.mono ?_;rintro e w2 ⟨z,w1,rfl,hb1,hT⟩;have HTT:=Uq (And.intro hb1 hT);clear hb1 hT)
 go_ret;obtain ⟨hb1,C',F',wv',h1,h2,h3⟩:=HTT.out;exact ⟨z,rfl,C',F',wv',h1,h2,(Stay.of_below (HB.out.trans (hb1.mono HB.out.size))).trans h3⟩
theorem tick_no {B:Nat} {w0 w:World} {c R:Nat} {C:cl.Clu} {F:Nat→Fp} {k:Nat} {wv:Value} {i:Int} {z:Int} (h:CluAt B w0 w c R C F k wv) (hz:∀ fv w,CluAt B w0 w c R C F k wv→Calls Tryz.prog 44 #[cptr c,.int .i64 i,fv] w λe w'=>e=.returned (.int .i64 z)∧Below w.heap.size w w') :
  Calls Tryz.prog 42 #[cptr c,.int .i64 i] w λe w'=>e=.returned (.int .i64 z)∧Below w.heap.size w w':=by
 obtain ⟨X,bx,hX,hbx,hbX,kb⟩:=qp w [cptr c] 25
 have HON:=Uq λfv=>hz fv X (h.later hbX)
 have c0:=kb.cell 0 _ rfl;have HX:=Uq hX;have HBX:=Uq hbx;have HB:=Uq hbX;clear h hz hX hbx hbX kb;unfold cptr at HON HX c0 ⊢
 go_enter Tryz.func42,Tryz.ntmps42
 go_upto_region 1 with fail;rw [HX.out,HBX.out]
 go_wp2_with (go_at_call 44;refine (HON.out _).mono ?_;rintro e w2 ⟨rfl,hb1⟩)
 go_ret;exact ⟨rfl,HB.out.trans (hb1.mono HB.out.size)⟩
instance (t:TypeId):Decidable (zT t):=by unfold zT;infer_instance
theorem YZ (n:rf.Node) (text:List UInt8)  :(rf.propose n text).2.1.length≤1000:=by
 unfold rf.propose
 split
 ·exact Nat.zero_le _
 ·split
  ·exact Nat.zero_le _
  ·have:=Yp (rf.tally (rf.grown n text))
   show (rf.puts (rf.tally (rf.grown n text))).length≤1000
   omega
set_option maxHeartbeats 8000000 in
theorem Kj {B M K:Nat} {w0 w:World} {c R:Nat} {C:cl.Clu} {F:Nat→Fp} {k:Nat} {wv:Value} {i:Nat} (h:CluAt B w0 w c R C F k wv) (rd:Ready M K B C i) (ht:TabAt w0) (bx bt ba:Nat) (text:List UInt8) (hbx:Vb w bx [cptr c] 25) (hbt:Vb w bt [.string (crcm.mk text)] 9) (hba:Vb w ba [.int .u64 0] 30) (hba0:w0.heap.size≤ba) (htx:text.length≤100) (hr:(C.p i).x.role=2) :
  Calls Tryz.prog 45 (#[] ++ #[.pointer (some ⟨(F i).q,0,none⟩)] ++ #[.pointer (some ⟨bt,0,none⟩),.pointer (some ⟨ba,0,none⟩),.pointer (some ⟨bx,0,none⟩)]) w λe w'=>∃ z,e=.returned (.int .i64 z)∧∃ W,Below w.heap.size w W∧Turned B w0 c R C F k i (rf.propose (C.p i).x text).1 (rf.propose (C.p i).x text).2.1 z (W.setCell ⟨ba,0,none⟩ (.int .u64 (((C.p i).x.log.length + 1:Nat):Int))) w'∧Vb w' ba [.int .u64 (((C.p i).x.log.length + 1:Nat):Int)] 30:=by
 have hn7:=h.n7;have hi:=rd.lt
 have hlim:=cl.propose_lim (x:=(C.p i).x) (by have:=rd.hK;omega) rd.lim htx
 have hsm:=YZ (C.p i).x text
 have hprop:=λW (hb:Below w.heap.size w W)=>K6 (C.p i).x text (F i).A (F i).c W (((h.peers i hi).ents.re (b:=w.heap.size)).later hb).re (h.peers i hi).ok (by rw [rd.many];omega) (by have:=rd.lim.len;have:=rd.hM;omega)
 have hpe:rf.propose (C.p i).x text=((rf.add (C.p i).x text).1,(rf.add (C.p i).x text).2,(C.p i).x.log.length + 1,0):=by unfold rf.propose;rw [if_neg (by have:=rd.id;omega),if_neg (by omega)]
 obtain ⟨x,hx⟩:∃ x,(rf.add (C.p i).x text).1=x:=⟨_,rfl⟩;obtain ⟨ms,hms⟩:∃ ms,(rf.add (C.p i).x text).2=ms:=⟨_,rfl⟩;rw [hx,hms] at hpe;rw [hpe];dsimp only;clear hx hms;rw [hpe] at hprop hlim hsm;dsimp only at hprop hlim hsm;have HT:=Uq hprop
 have HSZ:Hid ((Tryz.prog.info? 100).map (·.size)=some (ndC (C.p i).x ((F i).ev (C.p i).x)).length):=Uq (by rw [qc,qe (h.peers i hi).ok])
 have hMK:∀ w',Below w.heap.size w w'→(w'.rangeAt (F i).q 0 (ndC (C.p i).x ((F i).ev (C.p i).x))∧w'.cell? ⟨bt,0,none⟩=some (.string (crcm.mk text))):=λw' hb=>⟨(h.later hb).ndRange hi,cell_later hb (hbt.cell 0 _ rfl)⟩
 have MK:=Uq hMK
 have hCH:=λ(W w3:World) (A:Option Addr) (c':Nat) (D:Option Addr) (d:Nat) (hbW:Below w.heap.size w W) (hA3:Apart [ba] W w3) ok hE hS=>(zQ (W:=w3) (A:=A) (c':=c') (D:=D) (d:=d) ((h.later hbW).alien hA3 λy hy=>by
  obtain rfl:y=ba:=by simpa using hy
  exact ⟨hba0,_,_,(hbW.block _ hba.lt).trans hba,by decide⟩) rd ht x ms (hlim.1.mono (Nat.le_refl _) (Nat.le_succ _)) hsm ok hE hS)
 have HCH:=Uq hCH;have HW0:Hid (w0.heap.size≤w.heap.size):=Uq h.bel.size
 have HMP:Hid (∀ i,i < C.n→ba ≠ (F i).p∧ba ≠ (F i).b∧ba ≠ (F i).g):=Uq (h.notof hba (by decide) (by decide))
 obtain ⟨ev0,hev0⟩:∃ v,(F i).ev (C.p i).x=v:=⟨_,rfl⟩;obtain ⟨x0,hx0⟩:∃ v,(C.p i).x=v:=⟨_,rfl⟩;obtain ⟨q,hq⟩:∃ q,(F i).q=q:=⟨_,rfl⟩;rw [hev0,hx0,hq] at MK;rw [hev0,hx0] at HSZ
 rw [show Value.slice (F i).A (C.p i).x.log.length (F i).c=ev0 from hev0,hx0] at HT
 rw [hq] at HCH ⊢;have HBX:=Uq hbx;have HBA:=Uq hba;have hW:Below w.heap.size w w.drew:=below_drewN (Below.refl _ w) 1;rw [hx0];obtain ⟨N,hN⟩:∃ N,x0.log.length + 1=N:=⟨_,rfl⟩;rw [hN] at HT ⊢;clear hn7 hi hlim hsm h hq hN hCH hbx hbt hba rd hprop hpe hMK hev0;unfold cptr at HCH HBX
 rw [show (#[] ++ #[Value.pointer (some ⟨q,0,none⟩)] ++ #[Value.pointer (some ⟨bt,0,none⟩),.pointer (some ⟨ba,0,none⟩),.pointer (some ⟨bx,0,none⟩)]:Array Value)=#[.pointer (some ⟨q,0,none⟩),.pointer (some ⟨bt,0,none⟩),.pointer (some ⟨ba,0,none⟩),.pointer (some ⟨bx,0,none⟩)] from rfl]
 go_enter Tryz.func45,Tryz.ntmps45
 go_upto_region 1 with fail;unfold ndV at HT
 refine wp_region_held_drew (S:=(λw'=>w'.rangeAt q 0 (ndC x0 ev0)∧w'.cell? ⟨bt,0,none⟩=some (.string (crcm.mk text)))) (by kernel_rfl) (MK.out _ hW) (λhHeld=>?_)
 (refine tk 0 ?_ ?_ ?_;rotate_left;focus (intro w hSw;(try dsimp only at hSw);go_simp;(try with_reducible rfl);done))
 (try simp only [Act.put,Ur,Us,Ut])
 (refine tk 1 ?_ ?_ ?_;rotate_left;focus (intro w hSw;(try dsimp only at hSw);go_simp;(try with_reducible rfl);done))
 (try simp only [Act.put,Ur,Us,Ut])
 (refine tk 2 ?_ ?_ ?_;rotate_left;focus (intro w hSw;(try dsimp only at hSw);go_simp;(try with_reducible rfl);done))
 (try simp only [Act.put,Ur,Us,Ut])
 refine wpAnyH_take (i:=3) (qx rfl) (by kernel_rfl) (by kernel_rfl) (by kernel_rfl) (λ_ _ _ h=>h) (yieldsIf_load_mid (by rfl) _ _ rfl _ _ rfl _ _ (λ_ h=>h.1) Tryz.underlying100 rfl HSZ.out) (by assumption) ?_
 (try simp only [Act.put,Ur,Us,Ut])
 (refine tk 4 ?_ ?_ ?_;rotate_left;focus (intro w hSw;(try dsimp only at hSw);go_simp;(try with_reducible rfl);done))
 (try simp only [Act.put,Ur,Us,Ut])
 refine wpAnyH_ready (rs:=[5,11]) (by kernel_rfl) (by simp) ?_
 refine (AllReadyH.cons (qx rfl) (λK hK=>?_) (AllReadyH.cons (qx rfl) (λK hK=>?_) AllReadyH.nil))
 ·rw [if_pos (by rfl)]
  go_simp
  go_at_call 46
  refine (HT.out _ hW).mono ?_;rintro e w1 ⟨nv,sv,rfl,hO⟩;obtain ⟨A1,c1,D1,d1,rfl,rfl,hE1,hS1,ok1,hb1⟩:=hO
  (try unfold ndV)
  have HOK:=Uq ok1
  have HS6:Hid ((ndC x (.slice A1 x.log.length c1)).toArray.size=30):=Uq (by rw [List.size_toArray,qe ok1])
  have HLD:=Uq (Zp (w:=w) hE1 hS1 (hW.trans (hb1.mono hW.size)) (Nat.le_trans HW0.out hW.size));have HZ:Hid (Blk (w1.alloc (.cells #[.int .i64 0,.int .i64 0,.int .u64 0,.int .i64 0,.slice none 0 0,.int .i64 0,.int .i64 0,.int .u64 0,.int .i64 0,.bool false,.bool false,.bool false,.bool false,.bool false,.bool false,.bool false,.int .u64 0,.int .u64 0,.int .u64 0,.int .u64 0,.int .u64 0,.int .u64 0,.int .u64 0,.int .u64 0,.int .u64 0,.int .u64 0,.int .u64 0,.int .u64 0,.int .u64 0,.int .u64 0] 100)) w1.heap.size (ndC qi nilV) 100):=Uq (Blk.new w1 _ _);have hW:=hW.trans (hb1.mono hW.size);dsimp only
  refine hK.out _ _ (MK.out _ hW) (λhHeld=>?_)
  clear hK K
  (try simp only [Act.put,Ur,Us,Ut])
  (refine tk 6 ?_ ?_ ?_;rotate_left;focus (intro w hSw;(try dsimp only at hSw);go_simp;(try with_reducible rfl);done))
  (try simp only [Act.put,Ur,Us,Ut])
  (refine tk 7 ?_ ?_ ?_;rotate_left;focus (intro w hSw;(try dsimp only at hSw);go_simp;(try with_reducible rfl);done))
  (try simp only [Act.put,Ur,Us,Ut])
  (refine tk 8 ?_ ?_ ?_;rotate_left;focus (intro w hSw;(try dsimp only at hSw);go_simp;(try with_reducible rfl);done))
  (try simp only [Act.put,Ur,Us,Ut])
  (refine tk 9 ?_ ?_ ?_;rotate_left;focus (intro w hSw;(try dsimp only at hSw);go_simp;(try with_reducible rfl);done))
  (try simp only [Act.put,Ur,Us,Ut])
  (refine tk 10 ?_ ?_ ?_;rotate_left;focus (intro w hSw;(try dsimp only at hSw);go_simp;(try with_reducible rfl);done))
  (try simp only [Act.put,Ur,Us,Ut])
  refine wpAnyH_ready (rs:=[11]) (by kernel_rfl) (by simp) ?_
  refine (AllReadyH.cons (qx rfl) (λK hK=>?_) AllReadyH.nil)
  rw [if_pos (by rfl)]
  go_simp
  have hW:=hW.trans (((Below.refl _ w1).alloc (Nat.le_refl _) (.cells #[.int .i64 0,.int .i64 0,.int .u64 0,.int .i64 0,.slice none 0 0,.int .i64 0,.int .i64 0,.int .u64 0,.int .i64 0,.bool false,.bool false,.bool false,.bool false,.bool false,.bool false,.bool false,.int .u64 0,.int .u64 0,.int .u64 0,.int .u64 0,.int .u64 0,.int .u64 0,.int .u64 0,.int .u64 0,.int .u64 0,.int .u64 0,.int .u64 0,.int .u64 0,.int .u64 0,.int .u64 0] 100)).mono hW.size)
  (try dsimp only)
  refine hK.out _ _ (MK.out _ hW) (λhHeld=>?_)
  clear hK K
  (try simp only [Act.put,Ur,Us,Ut])
  refine wpAnyH_ready (rs:=[12]) (by kernel_rfl) (by simp) ?_
  refine (AllReadyH.cons (qx rfl) (λK hK=>?_) AllReadyH.nil)
  rw [if_pos (by rfl)]
  refine wp_store_row 100 _ _ rfl _ _ rfl rfl _ _ HZ.out (by rw [qc,HS6.out]) (by rw [HS6.out];rfl) (qy rfl) ?_
  (try simp only [Act.put])
  refine hK.out _ _ (MK.out _ HLD.out.bel) (λhHeld=>?_)
  clear hK K
  (try simp only [Act.put,Ur,Us,Ut])
  (refine tk 13 ?_ ?_ ?_;rotate_left;focus (intro w hSw;(try dsimp only at hSw);go_simp;(try with_reducible rfl);done))
  (try simp only [Act.put,Ur,Us,Ut])
  (refine tk 14 ?_ ?_ ?_;rotate_left;focus (intro w hSw;(try dsimp only at hSw);go_simp;(try with_reducible rfl);done))
  (try simp only [Act.put,Ur,Us,Ut])
  (refine tk 15 ?_ ?_ ?_;rotate_left;focus (intro w hSw;(try dsimp only at hSw);go_simp;(try with_reducible rfl);done))
  (try simp only [Act.put,Ur,Us,Ut])
  refine wpAnyH_done (by kernel_rfl) ?_ _
  obtain ⟨bn,hbn⟩:∃ b,w1.heap.size=b:=⟨_,rfl⟩;rw [hbn] at HLD ⊢;obtain ⟨W,hWW⟩:∃ W,(w1.alloc (.cells #[.int .i64 0,.int .i64 0,.int .u64 0,.int .i64 0,.slice none 0 0,.int .i64 0,.int .i64 0,.int .u64 0,.int .i64 0,.bool false,.bool false,.bool false,.bool false,.bool false,.bool false,.bool false,.int .u64 0,.int .u64 0,.int .u64 0,.int .u64 0,.int .u64 0,.int .u64 0,.int .u64 0,.int .u64 0,.int .u64 0,.int .u64 0,.int .u64 0,.int .u64 0,.int .u64 0,.int .u64 0] 100)).setRow bn (ndC x (.slice A1 x.log.length c1)).toArray=W:=⟨_,rfl⟩;rw [hWW] at HLD ⊢;clear hHeld hW hE1 hS1 hb1 ok1 HZ hbn hWW;obtain ⟨w3,hw3⟩:∃ w3,W.setCell ⟨ba,0,none⟩ (.int .u64 ((N:Nat):Int))=w3:=⟨_,rfl⟩;have hvba:Vb W ba [.int .u64 0] 30:=(HLD.out.bel.block _ HBA.out.lt).trans HBA.out
  have hA3:Apart [ba] W w3:=by rw [← hw3];exact Apart.setCell W ba 0 _
  have hb3:Vb w3 ba [.int .u64 ((N:Nat):Int)] 30:=by rw [← hw3];exact hvba.set 0 _
  have hno:∀ y ∈ [ba],qK W y:=λy hy=>by
   obtain rfl:y=ba:=by simpa using hy
   exact qv hvba (by decide)
  have hnm:∀ y ∈ [ba],∀ cur,W.heap[y]? ≠ some (.cells cur 229 (0,0)):=λy hy cur e=>by
   obtain rfl:y=ba:=by simpa using hy
   unfold Vb at hvba;rw [e] at hvba
   injection hvba with hvba
   injection hvba with _ hvba _
   exact absurd hvba (by decide)
  have hcall:=HCH.out W w3 A1 c1 D1 d1 HLD.out.bel hA3 HOK.out (HLD.out.ents.apart hA3 hno) (HLD.out.way.apart hA3 hno hnm)
  have hblk:Blk w3 bn (ndC x (.slice A1 x.log.length c1)) 100:=Vb.apart HLD.out.blk hA3 (λhx=>qa (vs:=ndC x (.slice A1 x.log.length c1)) HLD.out.blk hvba (by decide) (by simpa using hx))
  have hbx3:=(Vb.apart ((HLD.out.bel.block _ HBX.out.lt).trans HBX.out) hA3 (λhx=>qa HBX.out HBA.out (by decide) (by simpa using hx))).cell 0 _ rfl
  have hcb:=hvba.cell 0 _ rfl;have hfb:=hvba.free 0;have HCALL:=Uq hcall;have HBK:=Uq hblk;have HBL:=Uq HLD.out.bel;have HB3:=Uq hb3;clear hcall hblk hb3 hA3 hvba hno hnm HCH HLD HBX HBA MK;go_upto_region 5 with fail
  (try rw [hw3])
  clear hcb hfb
  go_wp2_with (first | (refine wpList_load_row rfl 100 _ rfl bn rfl _ _ _ _ HBK.out Tryz.underlying100 rfl (by rw [qc,HS6.out]) ?_) | (go_at_call 47;refine HCALL.out.mono ?_;rintro e w5 ⟨z,rfl,hT⟩;have HTT:=Uq hT;clear hT))
  go_ret;refine ⟨z,rfl,W,HBL.out,?_,?_⟩
  ·rw [hw3];exact HTT.out
  ·obtain ⟨_,_,_,_,_,hst⟩:=HTT.out
   exact HB3.out.stay hst (by decide) HMP.out
 ·rw [if_pos (by rfl)]
  go_simp
  have hbz:=(Below.refl _ w.drew).alloc (Nat.le_refl _) (.cells #[.int .i64 0,.int .i64 0,.int .u64 0,.int .i64 0,.slice none 0 0,.int .i64 0,.int .i64 0,.int .u64 0,.int .i64 0,.bool false,.bool false,.bool false,.bool false,.bool false,.bool false,.bool false,.int .u64 0,.int .u64 0,.int .u64 0,.int .u64 0,.int .u64 0,.int .u64 0,.int .u64 0,.int .u64 0,.int .u64 0,.int .u64 0,.int .u64 0,.int .u64 0,.int .u64 0,.int .u64 0] 100);have hZ0:Blk (w.drew.alloc (.cells #[.int .i64 0,.int .i64 0,.int .u64 0,.int .i64 0,.slice none 0 0,.int .i64 0,.int .i64 0,.int .u64 0,.int .i64 0,.bool false,.bool false,.bool false,.bool false,.bool false,.bool false,.bool false,.int .u64 0,.int .u64 0,.int .u64 0,.int .u64 0,.int .u64 0,.int .u64 0,.int .u64 0,.int .u64 0,.int .u64 0,.int .u64 0,.int .u64 0,.int .u64 0,.int .u64 0,.int .u64 0] 100)) w.drew.heap.size (ndC qi nilV) 100:=Blk.new w.drew _ _;have hW0:=hW;have hW:=hW.trans (hbz.mono hW.size)
  (try dsimp only)
  refine hK.out _ _ (MK.out _ hW) (λhHeld=>?_)
  clear hK K
  (try simp only [Act.put,Ur,Us,Ut])
  refine wpAnyH_ready (rs:=[5]) (by kernel_rfl) (by simp) ?_
  refine (AllReadyH.cons (qx rfl) (λK hK=>?_) AllReadyH.nil)
  rw [if_pos (by rfl)]
  go_simp
  go_at_call 46
  refine (HT.out _ hW).mono ?_;rintro e w1 ⟨nv,sv,rfl,hO⟩;obtain ⟨A1,c1,D1,d1,rfl,rfl,hE1,hS1,ok1,hb1⟩:=hO
  (try unfold ndV)
  have HOK:=Uq ok1
  have HS6:Hid ((ndC x (.slice A1 x.log.length c1)).toArray.size=30):=Uq (by rw [List.size_toArray,qe ok1])
  have HZ:Hid (Blk w1 w.heap.size (ndC qi nilV) 100):=Uq (hZ0.below hb1);have HLD:=Uq (yE (w:=w) (bn:=w.heap.size) HZ.out hE1 hS1 (hW.trans (hb1.mono hW.size)) (Nat.le_refl _) (Nat.le_trans HW0.out hW.size));have hW:=hW.trans (hb1.mono hW.size);dsimp only
  refine hK.out _ _ (MK.out _ hW) (λhHeld=>?_)
  clear hK K
  (try simp only [Act.put,Ur,Us,Ut])
  (refine tk 6 ?_ ?_ ?_;rotate_left;focus (intro w hSw;(try dsimp only at hSw);go_simp;(try with_reducible rfl);done))
  (try simp only [Act.put,Ur,Us,Ut])
  (refine tk 7 ?_ ?_ ?_;rotate_left;focus (intro w hSw;(try dsimp only at hSw);go_simp;(try with_reducible rfl);done))
  (try simp only [Act.put,Ur,Us,Ut])
  (refine tk 8 ?_ ?_ ?_;rotate_left;focus (intro w hSw;(try dsimp only at hSw);go_simp;(try with_reducible rfl);done))
  (try simp only [Act.put,Ur,Us,Ut])
  (refine tk 9 ?_ ?_ ?_;rotate_left;focus (intro w hSw;(try dsimp only at hSw);go_simp;(try with_reducible rfl);done))
  (try simp only [Act.put,Ur,Us,Ut])
  (refine tk 10 ?_ ?_ ?_;rotate_left;focus (intro w hSw;(try dsimp only at hSw);go_simp;(try with_reducible rfl);done))
  (try simp only [Act.put,Ur,Us,Ut])
  refine wpAnyH_ready (rs:=[12]) (by kernel_rfl) (by simp) ?_
  refine (AllReadyH.cons (qx rfl) (λK hK=>?_) AllReadyH.nil)
  rw [if_pos (by rfl)]
  refine wp_store_row 100 _ _ rfl _ _ rfl rfl _ _ HZ.out (by rw [qc,HS6.out]) (by rw [HS6.out];rfl) (qy rfl) ?_
  (try simp only [Act.put])
  refine hK.out _ _ (MK.out _ HLD.out.bel) (λhHeld=>?_)
  clear hK K
  (try simp only [Act.put,Ur,Us,Ut])
  (refine tk 13 ?_ ?_ ?_;rotate_left;focus (intro w hSw;(try dsimp only at hSw);go_simp;(try with_reducible rfl);done))
  (try simp only [Act.put,Ur,Us,Ut])
  (refine tk 14 ?_ ?_ ?_;rotate_left;focus (intro w hSw;(try dsimp only at hSw);go_simp;(try with_reducible rfl);done))
  (try simp only [Act.put,Ur,Us,Ut])
  (refine tk 15 ?_ ?_ ?_;rotate_left;focus (intro w hSw;(try dsimp only at hSw);go_simp;(try with_reducible rfl);done))
  (try simp only [Act.put,Ur,Us,Ut])
  refine wpAnyH_done (by kernel_rfl) ?_ _
  obtain ⟨W,hWW⟩:∃ W,w1.setRow w.heap.size (ndC x (.slice A1 x.log.length c1)).toArray=W:=⟨_,rfl⟩;rw [hWW] at HLD ⊢;clear hHeld hW hW0 hbz hZ0 hE1 hS1 hb1 ok1 HZ hWW;obtain ⟨w3,hw3⟩:∃ w3,W.setCell ⟨ba,0,none⟩ (.int .u64 ((N:Nat):Int))=w3:=⟨_,rfl⟩;have hvba:Vb W ba [.int .u64 0] 30:=(HLD.out.bel.block _ HBA.out.lt).trans HBA.out
  have hA3:Apart [ba] W w3:=by rw [← hw3];exact Apart.setCell W ba 0 _
  have hb3:Vb w3 ba [.int .u64 ((N:Nat):Int)] 30:=by rw [← hw3];exact hvba.set 0 _
  have hno:∀ y ∈ [ba],qK W y:=λy hy=>by
   obtain rfl:y=ba:=by simpa using hy
   exact qv hvba (by decide)
  have hnm:∀ y ∈ [ba],∀ cur,W.heap[y]? ≠ some (.cells cur 229 (0,0)):=λy hy cur e=>by
   obtain rfl:y=ba:=by simpa using hy
   unfold Vb at hvba;rw [e] at hvba
   injection hvba with hvba
   injection hvba with _ hvba _
   exact absurd hvba (by decide)
  have hcall:=HCH.out W w3 A1 c1 D1 d1 HLD.out.bel hA3 HOK.out (HLD.out.ents.apart hA3 hno) (HLD.out.way.apart hA3 hno hnm)
  have hblk:Blk w3 w.heap.size (ndC x (.slice A1 x.log.length c1)) 100:=Vb.apart HLD.out.blk hA3 (λhx=>qa (vs:=ndC x (.slice A1 x.log.length c1)) HLD.out.blk hvba (by decide) (by simpa using hx))
  have hbx3:=(Vb.apart ((HLD.out.bel.block _ HBX.out.lt).trans HBX.out) hA3 (λhx=>qa HBX.out HBA.out (by decide) (by simpa using hx))).cell 0 _ rfl
  have hcb:=hvba.cell 0 _ rfl;have hfb:=hvba.free 0;have HCALL:=Uq hcall;have HBK:=Uq hblk;have HBL:=Uq HLD.out.bel;have HB3:=Uq hb3;clear hcall hblk hb3 hA3 hvba hno hnm HCH HLD HBX HBA MK;go_upto_region 5 with fail
  (try rw [hw3])
  clear hcb hfb
  go_wp2_with (first | (refine wpList_load_row rfl 100 _ rfl w.heap.size rfl _ _ _ _ HBK.out Tryz.underlying100 rfl (by rw [qc,HS6.out]) ?_) | (go_at_call 47;refine HCALL.out.mono ?_;rintro e w5 ⟨z,rfl,hT⟩;have HTT:=Uq hT;clear hT))
  go_ret;refine ⟨z,rfl,W,HBL.out,?_,?_⟩
  ·rw [hw3];exact HTT.out
  ·obtain ⟨_,_,_,_,_,hst⟩:=HTT.out
   exact HB3.out.stay hst (by decide) HMP.out
theorem Stay.put {F:Nat→Fp} {n:Nat} {w w':World} (h:Stay F n w w') {b j:Nat} {v:Value} (hb:w.heap.size≤b):Stay F n w (w'.setCell ⟨b,j,none⟩ v):=by
 have hA:=Apart.setCell w' b j v
 refine ⟨hA.os.trans h.os,hA.tape.trans h.tape,hA.output.trans h.output,Nat.le_trans h.size hA.size,λx o hx hm hn=>?_⟩
 have hlt:x < w.heap.size:=(Array.getElem?_eq_some_iff.1 hx).1
 rw [hA.block x (Nat.lt_of_lt_of_le hlt h.size) (λhxs=>?_)]
 ·exact h.block x o hx hm hn
 ·have:x=b:=by simpa using hxs
  omega
theorem QV {P:Program} {fn:Func} {p u:Tmp} {ty:TypeId} (h:fn.results=#[.cell p ty,.tmp u]) (tmps:Array Value) (w:World) (a:Addr) (v:Value) (hp:tmps.getD p undef=.pointer (some a)) (hv:w.cell? a=some v) (hagg:∀ w,(isAgg ty).run P w=.ok false w) :
  (results fn tmps).run P w=.ok (.tuple #[v,tmps.getD u undef]) w:=by
 have hp':tmps[p]?.getD undef=.pointer (some a):=by simpa using hp
 simp [results,h,hp',asAddr,loadVar,hagg,hv]
theorem xP (w:World):(isAgg 30).run Tryz.prog w=.ok false w:=by rfl
section
variable {B M K:Nat} {w0 w:World} {c R:Nat} {C:cl.Clu} {F:Nat→Fp} {k:Nat} {wv:Value}
theorem yw {i:Nat} (text:List UInt8) (htx:text.length≤100) (h:CluAt B w0 w c R C F k wv) (rd:Ready M K B C i) (ht:TabAt w0) (hr:(C.p i).x.role=2) :
  Calls Tryz.prog 11 #[cptr c,.int .i64 (i:Int),.string (crcm.mk text)] w λe w'=>∃ z:Int,e=.returned (.tuple #[.int .u64 (if z=0 then (((C.p i).x.log.length + 1:Nat):Int) else 0),.int .i64 z])∧Turned B w0 c R C F k i (rf.propose (C.p i).x text).1 (rf.propose (C.p i).x text).2.1 z w w':=by
 obtain ⟨X0,bx,hX0,hbx,hb0,k0⟩:=qp w [cptr c] 25;obtain ⟨X1,bt,hX1,hbt,hb1,k1⟩:=qp X0 [.string (crcm.mk text)] 9;obtain ⟨X,ba,hX,hba,hb2,k2⟩:=qp X1 [.int .u64 0] 30
 obtain rfl:bt=bx + 1:=by rw [← hbt,← hX0,← hbx];simp
 obtain rfl:ba=bx + 1 + 1:=by rw [← hba,← hX1,← hbt];simp
 have hb01:=hb0.trans (hb1.mono hb0.size);have hbX:=hb01.trans (hb2.mono hb01.size);have v0:Vb X bx [cptr c] 25:=(k0.below hb1).below hb2;have v1:Vb X (bx + 1) [.string (crcm.mk text)] 9:=k1.below hb2;have v2:Vb X (bx + 1 + 1) [.int .u64 0] 30:=k2;have hbase:=h.bel.size
 have hon:=jb (w:=X) 45 #[.pointer (some ⟨bx + 1,0,none⟩),.pointer (some ⟨bx + 1 + 1,0,none⟩),.pointer (some ⟨bx,0,none⟩)] (λz w1 w2=>∃ W,Below w1.heap.size w1 W∧Turned B w0 c R C F k i (rf.propose (C.p i).x text).1 (rf.propose (C.p i).x text).2.1 z (W.setCell ⟨bx + 1 + 1,0,none⟩ (.int .u64 (((C.p i).x.log.length + 1:Nat):Int))) w2∧Vb w2 (bx + 1 + 1) [.int .u64 (((C.p i).x.log.length + 1:Nat):Int)] 30) (h.later hbX) rd.lt rd.up (λ_ _=>rfl) (λw1 hb1=>
   Kj ((h.later hbX).later hb1) rd ht bx (bx + 1) (bx + 1 + 1) text ((hb1.block _ v0.lt).trans v0) ((hb1.block _ v1.lt).trans v1) ((hb1.block _ v2.lt).trans v2) (by omega) htx hr)
 obtain ⟨N,hN⟩:∃ N,(C.p i).x.log.length + 1=N:=⟨_,rfl⟩;obtain ⟨x,hx⟩:∃ x,(rf.propose (C.p i).x text).1=x:=⟨_,rfl⟩;obtain ⟨ms,hms⟩:∃ x,(rf.propose (C.p i).x text).2.1=x:=⟨_,rfl⟩;rw [hN,hx,hms] at hon ⊢;have HON:=Uq hon;have c0:=v0.cell 0 _ rfl;have HV2:=Uq v2;have HX0:=Uq hX0;have HX1:=Uq hX1;have HX:=Uq hX;have HBX:=Uq hbx;have HB:=Uq hbX
 have HLE:Hid (w.heap.size≤bx + 1 + 1):=Uq (by omega)
 have HLE0:Hid (w0.heap.size≤bx + 1 + 1):=Uq (by omega)
 clear h hon hX0 hX1 hX hbx hb0 hb1 hb2 hb01 hbX k0 k1 k2 v0 v1 v2 hbt hba rd hN hx hms hr hbase;unfold cptr at HON c0 ⊢;unfold cptr at HX0
 go_enter Tryz.func11,Tryz.ntmps11
 go_upto_region 1 with fail;rw [HX0.out,HBX.out,HX1.out,HX.out]
 go_upto_region 2 with (go_at_call 44;refine HON.out.mono ?_;rintro e w2 ⟨z,w1,rfl,hb1,W,hbW,hT,hv⟩;have HTT:=Uq hT;have HB1:=Uq (hb1.trans (hbW.mono hb1.size));have HV:=Uq hv;clear hb1 hbW hT hv)
 have hfin:∀ v:Int,Turned B w0 c R C F k i x ms z w (w2.setCell ⟨bx + 1 + 1,0,none⟩ (.int .u64 v)):=by
  intro v;obtain ⟨C',F',wv',h1,h2,h3⟩:=HTT.out;have hA:=Apart.setCell w2 (bx + 1 + 1) 0 (.int .u64 v)
  refine ⟨C',F',wv',h1.alien hA λy hy=>?_,h2,?_⟩
  ·obtain rfl:y=bx + 1 + 1:=by simpa using hy
   exact ⟨HLE0.out,_,_,HV.out,by decide⟩
  ·exact Stay.put ((Stay.put ((Stay.of_below HB.out).trans (Stay.of_below HB1.out)) HLE.out).trans h3) HLE.out
 have c6:=HV.out.cell 0 _ rfl;have f6:=Blk.free HV.out 0;have HFIN:=Uq hfin;clear hfin
 by_cases hz:z=0
 ·subst hz;go_wp2_with fail;refine bodyPost_ret (QV rfl _ _ ⟨bx + 1 + 1,0,none⟩ (.int .u64 (N:Int)) rfl ((HV.out.set 0 (.int .u64 (N:Int))).cell 0 _ rfl) xP) rfl ?_
  exact ⟨0,by rw [if_pos rfl];rfl,HFIN.out _⟩
 ·have hzb:(z == 0)=false:=by simpa using hz
  go_wp2_with fail;refine bodyPost_ret (QV rfl _ _ ⟨bx + 1 + 1,0,none⟩ (.int .u64 0) rfl ((HV.out.set 0 (.int .u64 0)).cell 0 _ rfl) xP) rfl ?_
  exact ⟨z,by rw [if_neg hz];rfl,HFIN.out _⟩
end
end Go.Proofs.YtppibhieabideaaGreatDoor
