/- KcTurn, KcTick: one behind the other. -/
import Derived.Test.YtmcibggjolckoaaGreatDoorGm21
namespace Go.Proofs.YtmcibggjolckoaaGreatDoor
open Go Go.RowKit Go.Deep
set_option maxRecDepth 100000
structure Ready (M K B:Nat) (C:cl.Clu) (i:Nat):Prop where
 lt:i < C.n
 up:(C.p i).up=true
 link:(C.p i).s=cl.stOf (C.p i).x
 id:(C.p i).x.id=(i:Int)
 many:(C.p i).x.many=(C.n:Int)
 lim:cl.NdLim M K (C.p i).x
 w200:C.way.length≤200
 hM:M + 1≤9990
 hK:K + 1 < 18446744073709551616
 hB:206 * (M + 2)≤B
def Turned (B:Nat) (w0:World) (c R:Nat) (C:cl.Clu) (F:Nat→Fp) (k i:Nat) (x:rf.Node) (ms:List rf.Msg) (z:Int) (w w':World):Prop:=
 ∃ C' F' wv',CluAt B w0 w' c R C' F' k wv'∧Outc C F i x ms C' F' z∧Stay F C.n w w'
theorem Turned.from_ {B:Nat} {w0:World} {c R:Nat} {C:cl.Clu} {F:Nat→Fp} {k i:Nat} {x:rf.Node} {ms:List rf.Msg} {z:Int} {v w w':World} (h:Turned B w0 c R C F k i x ms z w w') (hb:Stay F C.n v w):Turned B w0 c R C F k i x ms z v w':=by
 obtain ⟨C',F',wv',h1,h2,h3⟩:=h
 exact ⟨C',F',wv',h1,h2,hb.trans h3⟩
structure Laid (w0 w W:World) (bn:Nat) (x:rf.Node) (ms:List rf.Msg) (ev sv:Value):Prop where
 blk:Blk W bn (ndC x ev) 50
 bel:Below w.heap.size w W
 ents:EntsB 0 W ev x.log
 way:Way w0.heap.size W sv ms
theorem laid_after {w0 w w1:World} {x:rf.Node} {ms:List rf.Msg} {ev sv:Value} {a b:Nat} (hE:EntsB a w1 ev x.log) (hS:Sent b w1 sv ms) (hb1:Below w.heap.size w w1) (hw:w0.heap.size≤b) :
  Laid w0 w ((w1.alloc (.cells #[.int .i64 0,.int .i64 0,.int .u64 0,.int .i64 0,.slice none 0 0,.int .i64 0,.int .i64 0,.int .u64 0,.int .i64 0,.bool false,.bool false,.bool false,.bool false,.bool false,.bool false,.bool false,.int .u64 0,.int .u64 0,.int .u64 0,.int .u64 0,.int .u64 0,.int .u64 0,.int .u64 0,.int .u64 0,.int .u64 0,.int .u64 0,.int .u64 0,.int .u64 0,.int .u64 0,.int .u64 0] 50)).setRow w1.heap.size (ndC x ev).toArray) w1.heap.size x ms ev sv:=by
 have hb:Blk (w1.alloc (.cells #[.int .i64 0,.int .i64 0,.int .u64 0,.int .i64 0,.slice none 0 0,.int .i64 0,.int .i64 0,.int .u64 0,.int .i64 0,.bool false,.bool false,.bool false,.bool false,.bool false,.bool false,.bool false,.int .u64 0,.int .u64 0,.int .u64 0,.int .u64 0,.int .u64 0,.int .u64 0,.int .u64 0,.int .u64 0,.int .u64 0,.int .u64 0,.int .u64 0,.int .u64 0,.int .u64 0,.int .u64 0] 50)) w1.heap.size (ndC zeroN nilV) 50:=Blk.new w1 _ _
 have h2:Below w1.heap.size w1 ((w1.alloc (.cells #[.int .i64 0,.int .i64 0,.int .u64 0,.int .i64 0,.slice none 0 0,.int .i64 0,.int .i64 0,.int .u64 0,.int .i64 0,.bool false,.bool false,.bool false,.bool false,.bool false,.bool false,.bool false,.int .u64 0,.int .u64 0,.int .u64 0,.int .u64 0,.int .u64 0,.int .u64 0,.int .u64 0,.int .u64 0,.int .u64 0,.int .u64 0,.int .u64 0,.int .u64 0,.int .u64 0,.int .u64 0] 50)).setRow w1.heap.size (ndC x ev).toArray):=((Below.refl _ w1).alloc (Nat.le_refl _) _).trans (below_setRow _ _ _ (Nat.le_refl _))
 exact ⟨hb.row _,hb1.trans (h2.mono hb1.size),hE.re.later h2,(hS.way hw).later h2⟩
theorem laid_before {w0 w w1:World} {x:rf.Node} {ms:List rf.Msg} {ev sv:Value} {a b bn:Nat} (hZ:Blk w1 bn (ndC zeroN nilV) 50) (hE:EntsB a w1 ev x.log) (hS:Sent b w1 sv ms) (hb1:Below w.heap.size w w1) (hbn:w.heap.size≤bn) (hw:w0.heap.size≤b) :
  Laid w0 w (w1.setRow bn (ndC x ev).toArray) bn x ms ev sv:=by
 have h2:Apart [bn] w1 (w1.setRow bn (ndC x ev).toArray):=by
  have hb:=below_setRow (B:=w1.heap.size) w1 bn (ndC x ev).toArray
  have hg:=below_setRow (B:=bn) w1 bn (ndC x ev).toArray (Nat.le_refl _)
  exact ⟨hg.os,hg.tape,hg.output,hg.size,fun k _ hn=>setRow_apart _ _ _ k (by simpa using hn)⟩
 have hno:∀ y ∈ [bn],NotEnt w1 y:=fun y hy=>by
  obtain rfl:y=bn:=by simpa using hy
  exact notEnt_of (vs:=ndC zeroN nilV) hZ (by decide)
 refine ⟨hZ.row _,hb1.trans (below_setRow _ _ _ hbn),hE.re.apart h2 hno,(hS.way hw).apart h2 hno fun y hy cur e=>?_⟩
 obtain rfl:y=bn:=by simpa using hy
 unfold Blk at hZ
 rw [e] at hZ
 injection hZ with hZ
 injection hZ with _ hZ _
 exact absurd hZ (by decide)
theorem CluAt.ndRange {B:Nat} {w0 w:World} {c R:Nat} {C:cl.Clu} {F:Nat→Fp} {k:Nat} {wv:Value} (h:CluAt B w0 w c R C F k wv) {i:Nat} (hi:i < C.n):w.rangeAt (F i).q 0 (ndC (C.p i).x ((F i).ev (C.p i).x)):=fun j v hv=>by
 rw [Nat.zero_add]
 have hl:=ndC_len (h.peers i hi).ok ((F i).ev (C.p i).x)
 have hj:j < 30:=by
  rcases Nat.lt_or_ge j 30 with h1 | h1
  ·exact h1
  ·rw [List.getElem?_eq_none (by omega)] at hv;cases hv
 exact (h.peers i hi).blk.cell j v (by rw [peerC_low _ _ _ (h.peers i hi).ok j hj];exact hv)
theorem change_told {B M K:Nat} {w0 W:World} {c R:Nat} {C:cl.Clu} {F:Nat→Fp} {k:Nat} {wv:Value} {i:Nat} (h:CluAt B w0 W c R C F k wv) (rd:Ready M K B C i) (ht:TabAt w0)
  (x:rf.Node) (ms:List rf.Msg) (hl:cl.NdLim (M + 1) (K + 1) x) (hml:ms.length≤1000) {A:Option Addr} {c':Nat} {D:Option Addr} {d:Nat} (ok:NOk x)
  (hE:EntsB 0 W (.slice A x.log.length c') x.log) (hS:Way w0.heap.size W (.slice D ms.length d) ms) :
  Calls Tryz.prog 35 #[cptr c,.pointer (some ⟨(F i).q,0,none⟩),.agg (ndC x (.slice A x.log.length c')).toArray,.slice D ms.length d] W fun e w'=>∃ z,e=.returned (.int .i64 z)∧Turned B w0 c R C F k i x ms z W w':=by
 refine (change_any (M:=M + 1) (K:=K + 1) h rd.lt rd.up rd.link (by have:=rd.lim.len;have:=rd.hM;omega) x A c' hE ok hl rd.hM rd.hK (by have:=rd.hB;omega) w0.heap.size (.slice D ms.length d) ms hS hml rd.w200 ht).mono ?_
 rintro e w' ⟨z,C',F',wv',rfl,h1,h2,h3⟩
 exact ⟨z,rfl,C',F',wv',h1,h2,h3⟩
def Alien (t:TypeId):Prop:=¬ MineT t∧t ≠ 35∧t ≠ 64∧t ≠ 103
instance (t:TypeId):Decidable (MineT t):=by unfold MineT;infer_instance
instance (t:TypeId):Decidable (Alien t):=by unfold Alien;infer_instance
theorem CluAt.alien {B:Nat} {w0 w w':World} {c R:Nat} {C:cl.Clu} {F:Nat→Fp} {k:Nat} {wv:Value} {S:List Nat} (h:CluAt B w0 w c R C F k wv) (hA:Apart S w w') (hS:∀ x ∈ S,w0.heap.size≤x∧∃ vs t,Vb w x vs t∧Alien t):CluAt B w0 w' c R C F k wv:=by
 obtain ⟨us,r1,r2⟩:=h.row
 have hne:∀ y us u,Vb w y us u→(MineT u∨u=35∨u=64∨u=103)→y ∉ S:=fun y us u hv hu hy=>by
  obtain ⟨_,vs,t,h1,h2,h3,h4,h5⟩:=hS y hy
  have e:t=u:=by
   unfold Vb at h1 hv
   rw [h1] at hv
   injection hv with hv
   injection hv
  subst e
  rcases hu with hu | hu | hu | hu
  ·exact h2 hu
  ·exact h3 hu
  ·exact h4 hu
  ·exact h5 hu
 have hno:∀ y ∈ S,NotEnt w y:=fun y hy=>by
  obtain ⟨_,vs,t,h1,_,h3,_⟩:=hS y hy
  exact notEnt_of h1 h3
 have hge:∀ y ∈ S,w0.heap.size≤y:=fun y hy=>(hS y hy).1
 refine ⟨h.bel.trans (hA.below _ h.bel.size hge),h.blk.apart hA (hne _ _ _ h.blk (.inl (.inr (.inr (.inr (.inl rfl)))))),h.hc,h.hR,⟨us,r1.apart hA (hne _ _ _ r1 (.inr (.inr (.inl rfl)))),r2⟩,h.n7,fun j hj=>?_,h.way.apart hA hno fun y hy cur e=>?_,h.w200,h.sep⟩
 ·have pj:=h.peers j hj
  refine pj.apart hA hno hge fun y hy hyS=>?_
  have hmap:y ≠ (F j).b:=fun e=>by
   obtain ⟨_,vs,t,h1,_⟩:=hS y hyS
   exact ne_map h1 (by rw [e];exact pj.disk.dk.map) rfl
  unfold Fp.blocks at hy
  split at hy
  ·rename_i hu
   obtain ⟨_,_,v3,v4,_⟩:=pj.up hu
   simp only [List.mem_cons,List.not_mem_nil,or_false] at hy
   rcases hy with rfl | rfl | rfl | rfl | rfl
   ·exact hne _ _ _ pj.blk (.inl (.inl rfl)) hyS
   ·exact hne _ _ _ pj.disk.dk.blk (.inl (.inr (.inl rfl))) hyS
   ·exact hmap rfl
   ·exact hne _ _ _ v3 (.inr (.inr (.inr rfl))) hyS
   ·exact hne _ _ _ v4 (.inl (.inr (.inr (.inl rfl)))) hyS
  ·simp only [List.mem_cons,List.not_mem_nil,or_false] at hy
   rcases hy with rfl | rfl | rfl
   ·exact hne _ _ _ pj.blk (.inl (.inl rfl)) hyS
   ·exact hne _ _ _ pj.disk.dk.blk (.inl (.inr (.inl rfl))) hyS
   ·exact hmap rfl
 ·have hv:Vb w y cur.toList 83:=by unfold Vb;rw [Array.toArray_toList];exact e
  exact hne _ _ _ hv (.inl (.inr (.inr (.inr (.inr rfl))))) hy
theorem CluAt.maps {B:Nat} {w0 w:World} {c R:Nat} {C:cl.Clu} {F:Nat→Fp} {k:Nat} {wv:Value} (h:CluAt B w0 w c R C F k wv):∀ i,i < C.n→∃ M,FMap w (F i).b M:=fun i hi=>⟨_,(h.peers i hi).disk.dk.map⟩
end Go.Proofs.YtmcibggjolckoaaGreatDoor
namespace Go.Proofs.YtmcibggjolckoaaGreatDoor
open Go Go.RowKit Go.Deep
set_option maxRecDepth 100000
set_option maxHeartbeats 8000000 in
theorem tick1_any {B M K:Nat} {w0 w:World} {c R:Nat} {C:cl.Clu} {F:Nat→Fp} {k:Nat} {wv:Value} {i:Nat} (h:CluAt B w0 w c R C F k wv) (rd:Ready M K B C i) (ht:TabAt w0) (bx:Nat) (hbx:Vb w bx [cptr c] 24) :
  Calls Tryz.prog 45 (#[] ++ #[.pointer (some ⟨(F i).q,0,none⟩)] ++ #[.pointer (some ⟨bx,0,none⟩)]) w fun e w'=>∃ z,e=.returned (.int .i64 z)∧Turned B w0 c R C F k i (rf.tick (C.p i).x).1 (rf.tick (C.p i).x).2 z w w':=by
 have hn7:=h.n7
 have hi:=rd.lt
 have hlim:=cl.tick_lim (x:=(C.p i).x) rd.hK rd.lim (by rw [rd.id];omega) (by rw [rd.id];omega)
 have hsm:=tick_small (n:=(C.p i).x) (by rw [rd.id];omega) (by rw [rd.id];omega)
 have HT:=Lib.hid (tick_any (C.p i).x (F i).A (F i).c w (h.peers i hi).ents.re (h.peers i hi).ok (by rw [rd.many];omega) (by rw [rd.id];omega) (by rw [rd.id];omega) rd.lim.i0 (by have:=rd.lim.i1;omega) (by have:=rd.lim.len;have:=rd.hM;omega))
 have HR:=Lib.hid (h.ndRange hi)
 have HSZ:Hid ((Tryz.prog.info? 50).map (·.size)=some (ndC (C.p i).x ((F i).ev (C.p i).x)).length):=Lib.hid (by rw [node_size,ndC_len (h.peers i hi).ok])
 obtain ⟨x,hx⟩:∃ x,(rf.tick (C.p i).x).1=x:=⟨_,rfl⟩
 obtain ⟨ms,hm⟩:∃ ms,(rf.tick (C.p i).x).2=ms:=⟨_,rfl⟩
 unfold cl.BothLim at hlim
 rw [hx,hm] at HT
 rw [hx] at hlim
 rw [hm] at hsm
 rw [hx,hm]
 have hCH:=fun (W:World) (A:Option Addr) (c':Nat) (D:Option Addr) (d:Nat) (hbW:Below w.heap.size w W) ok hE hS=>(change_told (W:=W) (A:=A) (c':=c') (D:=D) (d:=d) (h.later hbW) rd ht x ms hlim.1 (by omega) ok hE hS)
 have HCH:=Lib.hid hCH
 have HW0:Hid (w0.heap.size≤w.heap.size):=Lib.hid h.bel.size
 obtain ⟨q,hq⟩:∃ q,(F i).q=q:=⟨_,rfl⟩
 rw [hq] at HR HCH ⊢
 have hc0:=hbx.cell 0 _ rfl
 have HBX:=Lib.hid hbx
 clear hn7 hi hlim hsm h hx hm hq hCH hbx rd
 unfold cptr at hc0 HCH
 rw [show (#[] ++ #[Value.pointer (some ⟨q,0,none⟩)] ++ #[Value.pointer (some ⟨bx,0,none⟩)]:Array Value)=#[.pointer (some ⟨q,0,none⟩),.pointer (some ⟨bx,0,none⟩)] from rfl]
 go_enter Tryz.func45,Tryz.ntmps45
 go_upto_region 2 with (first | (refine wpList_load_mid rfl 50 _ rfl q 0 rfl _ _ HR.out Tryz.underlying50 rfl HSZ.out ?_) | (go_at_call 46;refine HT.out.mono ?_;rintro e w1 ⟨nv,sv,rfl,hO⟩;obtain ⟨A1,c1,D1,d1,rfl,rfl,hE1,hS1,ok1,hb1⟩:=hO;have HLD:=Lib.hid (laid_after hE1 hS1 hb1 HW0.out);have HS6:Hid ((ndC x (.slice A1 x.log.length c1)).toArray.size=30):=Lib.hid (by rw [List.size_toArray,ndC_len ok1]);have HZ:Hid (Blk (w1.alloc (.cells #[.int .i64 0,.int .i64 0,.int .u64 0,.int .i64 0,.slice none 0 0,.int .i64 0,.int .i64 0,.int .u64 0,.int .i64 0,.bool false,.bool false,.bool false,.bool false,.bool false,.bool false,.bool false,.int .u64 0,.int .u64 0,.int .u64 0,.int .u64 0,.int .u64 0,.int .u64 0,.int .u64 0,.int .u64 0,.int .u64 0,.int .u64 0,.int .u64 0,.int .u64 0,.int .u64 0,.int .u64 0] 50)) w1.heap.size (ndC zeroN nilV) 50):=Lib.hid (Blk.new w1 _ _);have hc0:=cell_later hb1 hc0;have HO:=Lib.hid ok1;clear hb1 hE1 hS1 ok1;unfold ndV) | (refine wpList_store_row rfl 50 (.tmp 4) (.tmp 12) rfl w1.heap.size _ rfl rfl _ _ HZ.out (by rw [node_size,HS6.out]) (by rw [HS6.out];rfl) (ndC_one rfl) ?_))
 obtain ⟨bn,hbn⟩:∃ b,w1.heap.size=b:=⟨_,rfl⟩
 rw [hbn] at HLD ⊢
 obtain ⟨W,hW⟩:∃ W,(w1.alloc (.cells #[.int .i64 0,.int .i64 0,.int .u64 0,.int .i64 0,.slice none 0 0,.int .i64 0,.int .i64 0,.int .u64 0,.int .i64 0,.bool false,.bool false,.bool false,.bool false,.bool false,.bool false,.bool false,.int .u64 0,.int .u64 0,.int .u64 0,.int .u64 0,.int .u64 0,.int .u64 0,.int .u64 0,.int .u64 0,.int .u64 0,.int .u64 0,.int .u64 0,.int .u64 0,.int .u64 0,.int .u64 0] 50)).setRow bn (ndC x (.slice A1 x.log.length c1)).toArray=W:=⟨_,rfl⟩
 rw [hW] at HLD ⊢
 have hc1:=HBX.out.cell 0 _ rfl
 have hc2:=cell_later HLD.out.bel hc1
 have hcall:=HCH.out W A1 c1 D1 d1 HLD.out.bel HO.out HLD.out.ents HLD.out.way
 have HCALL:=Lib.hid hcall
 have HBK:=Lib.hid HLD.out.blk
 have HBL:=Lib.hid HLD.out.bel
 unfold cptr at hc2
 clear hcall HLD HZ HCH HO hW hbn hc0 hc1 HBX
 go_wp2_with (first | (refine wpList_load_row rfl 50 _ rfl bn rfl _ _ _ _ HBK.out Tryz.underlying50 rfl (by rw [node_size,HS6.out]) ?_) | (go_at_call 35;refine HCALL.out.mono ?_;rintro e w5 ⟨z,rfl,hT⟩;have HTT:=Lib.hid hT;clear hT))
 go_ret
 exact ⟨z,rfl,HTT.out.from_ (Stay.of_below HBL.out)⟩
set_option maxHeartbeats 4000000 in
theorem tick_up {B M K:Nat} {w0 w:World} {c R:Nat} {C:cl.Clu} {F:Nat→Fp} {k:Nat} {wv:Value} {i:Nat} (h:CluAt B w0 w c R C F k wv) (rd:Ready M K B C i) (ht:TabAt w0) :
  Calls Tryz.prog 26 #[cptr c,.int .i64 (i:Int)] w fun e w'=>∃ z,e=.returned (.int .i64 z)∧Turned B w0 c R C F k i (rf.tick (C.p i).x).1 (rf.tick (C.p i).x).2 z w w':=by
 obtain ⟨X,bx,hX,hbx,hbX,kb⟩:=box_blk w [cptr c] 24
 have hv:Vb X bx [cptr c] 24:=kb
 have hon:=on_up (w:=X) 45 #[.pointer (some ⟨bx,0,none⟩)] (fun z w1 w2=>Turned B w0 c R C F k i (rf.tick (C.p i).x).1 (rf.tick (C.p i).x).2 z w1 w2) (h.later hbX) rd.lt rd.up (fun _ _=>rfl) (fun w1 hb1=>tick1_any ((h.later hbX).later hb1) rd ht bx ((hb1.block _ hv.lt).trans hv))
 have HON:=Lib.hid hon
 have c0:=kb.cell 0 _ rfl
 have HX:=Lib.hid hX
 have HBX:=Lib.hid hbx
 have HB:=Lib.hid hbX
 clear h rd hon hX hbx hbX kb hv
 unfold cptr at HON HX c0 ⊢
 go_enter Tryz.func26,Tryz.ntmps26
 go_upto_region 1 with fail
 rw [HX.out,HBX.out]
 go_wp2_with (go_at_call 32;refine HON.out.mono ?_;rintro e w2 ⟨z,w1,rfl,hb1,hT⟩;have HTT:=Lib.hid (And.intro hb1 hT);clear hb1 hT)
 go_ret
 obtain ⟨hb1,C',F',wv',h1,h2,h3⟩:=HTT.out
 exact ⟨z,rfl,C',F',wv',h1,h2,(Stay.of_below (HB.out.trans (hb1.mono HB.out.size))).trans h3⟩
theorem tick_no {B:Nat} {w0 w:World} {c R:Nat} {C:cl.Clu} {F:Nat→Fp} {k:Nat} {wv:Value} {i:Int} {z:Int} (h:CluAt B w0 w c R C F k wv) (hz:∀ fv w,CluAt B w0 w c R C F k wv→Calls Tryz.prog 32 #[cptr c,.int .i64 i,fv] w fun e w'=>e=.returned (.int .i64 z)∧Below w.heap.size w w') :
  Calls Tryz.prog 26 #[cptr c,.int .i64 i] w fun e w'=>e=.returned (.int .i64 z)∧Below w.heap.size w w':=by
 obtain ⟨X,bx,hX,hbx,hbX,kb⟩:=box_blk w [cptr c] 24
 have HON:=Lib.hid fun fv=>hz fv X (h.later hbX)
 have c0:=kb.cell 0 _ rfl
 have HX:=Lib.hid hX
 have HBX:=Lib.hid hbx
 have HB:=Lib.hid hbX
 clear h hz hX hbx hbX kb
 unfold cptr at HON HX c0 ⊢
 go_enter Tryz.func26,Tryz.ntmps26
 go_upto_region 1 with fail
 rw [HX.out,HBX.out]
 go_wp2_with (go_at_call 32;refine (HON.out _).mono ?_;rintro e w2 ⟨rfl,hb1⟩)
 go_ret
 exact ⟨rfl,HB.out.trans (hb1.mono HB.out.size)⟩
end Go.Proofs.YtmcibggjolckoaaGreatDoor
