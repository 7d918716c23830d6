/- A part of the walk of the program, and of its plain law. -/
import Derived.Test.YtppibhieabideaaGreatDoorGt12
namespace Go.Proofs.YtppibhieabideaaGreatDoor
open Go Go.RowKit Go.Deep
set_option maxRecDepth 100000
theorem kF (l:List Nat) (k:Nat) (h:k < l.length):l.getD k 0 ∈ l:=by
 rw [List.getD_eq_getElem?_getD,List.getElem?_eq_getElem h];exact List.getElem_mem h
theorem Zj (n:rf.Node):(rf.tally n).next=n.next:=by rw [qh]
set_option maxHeartbeats 8000000 in
theorem X5 {base s:Nat} {w:World} {n:rf.Node} {A B:Option Addr} {c d:Nat} {ms:List rf.Msg} (m:rf.Msg) (A2:Option Addr) (k2 c2:Nat) (K:Nat) (hf:m.frm=(K:Int)) (hK7:K < 7) (h:St base w s n (.slice A n.log.length c) (.slice B ms.length d) ms) (hm0:0≤n.many) (hl:ms.length≤900) (hlog:n.log.length≤10000) :
  Calls Tryz.prog 268 #[.pointer (some ⟨s,0,none⟩),msgV m (.slice A2 k2 c2)] w λe w'=>e=.returned (.tuple #[])∧StTo base w s (rf.heard n m).1 (ms ++ (rf.heard n m).2) w':=by
 obtain ⟨X,bm,hX,hbm,hbX,kb⟩:=qp w (msgC m (.slice A2 k2 c2)) 229
 have hbs:¬ bm=s:=by have:=h.blk.lt;omega
 have hbs2:¬ s=bm:=λe=>hbs e.symm
 have hx:=(Sx.start h).later hbX;have c5:=hx.st.cell 5 _ (qb _ _ 5 _ rfl);have c2':=hx.st.cell 2 _ (qb _ _ 2 _ rfl);have m3:=kb.cell 3 _ rfl;obtain ⟨L,hL⟩:∃ L,n.log.length=L:=⟨_,rfl⟩;rw [hL] at hx hlog;have HX:=Uq hX;have HXX:=Uq hx;have HKB:=Uq kb;have HLog:=Uq hlog;have HML:=Uq hl;have HM0:=Uq hm0;have HF:=Uq hf;have HL:=Uq hL;have HK7:=Uq hK7;clear hX hx kb h hbX hl hlog hm0 hf hL;unfold msgV msgC
 go_enter Tryz.func268,Tryz.ntmps268
 go_upto_region 1 with fail
 rw [show w.alloc (.cells #[.int .i64 m.kind,.int .i64 m.frm,.int .i64 m.dst,.int .u64 (m.term:Int),.int .u64 (m.index:Int),.int .u64 (m.at_:Int),.int .u64 (m.commit:Int),.slice A2 k2 c2,.bool m.ok] 229)=X from HX.out]
 by_cases hr:n.role=2
 ·have f1:(n.role != 2)=false:=by rw [hr];rfl
  by_cases ht:m.term=n.term
  ·have f2:((m.term:Int) != (n.term:Int))=false:=by rw [ht];simp
   have hh:rf.heard n m=(if m.ok=true then
     (if (rf.tally (rf.heardYes n K m.index)).next.getD K 0≤L then (rf.tally (rf.heardYes n K m.index),[rf.stamp n (rf.putMsg (rf.tally (rf.heardYes n K m.index)) K)]) else (rf.tally (rf.heardYes n K m.index),[]))
    else (rf.heardNo n K m.index,[rf.stamp n (rf.putMsg (rf.heardNo n K m.index) K)])):=by
    unfold rf.heard;rw [if_pos ⟨hr,ht⟩,HF.out,Int.toNat_natCast,HL.out]
   have HH:=Uq hh;clear hh hr ht;go_wp2_with fail
   go_quiet (fail)
   have hb:=below_drewN (Below.refl X.heap.size X) nq;have hx2:=HXX.out.later hb;have kb2:=HKB.out.below hb;obtain ⟨X2,hX2⟩:∃ X2,X.drewN nq=X2:=⟨_,rfl⟩;rw [hX2] at hx2 kb2 ⊢;have c2:=hx2.st.cell 2 _ (qb _ _ 2 _ rfl);have c3:=hx2.st.cell 3 _ (qb _ _ 3 _ rfl);have c4:=hx2.st.cell 4 _ (qb _ _ 4 _ rfl);have HX2:=Uq hx2;have HKB2:=Uq kb2;clear hx2 kb2 hb hX2 c5 c2' m3 HXX HKB;go_wp2_with fail
   refine (Q0 n.term n.vote _ n.log X2 HX2.out.st.ents.1 (by rw [HL.out];have:=HLog.out;omega)).mono ?_
   rw [HL.out];rintro e w3 ⟨rfl,hb3⟩;have hx3:=HX2.out.later hb3;have kb3:=HKB2.out.below hb3;have m1:=kb3.cell 1 _ rfl;rw [HF.out] at m1;have m4:=kb3.cell 4 _ rfl;have m8:=kb3.cell 8 _ rfl
   have hi0:(0:Int)≤(K:Int):=by omega
   have hi7:(K:Int) < 7:=by omega
   have HX3:=Uq hx3;have HKB3:=Uq kb3;clear hx3 kb3 hb3 c2 c3 c4;go_wp2_with fail
   go_quiet (fail)
   have hb:=below_drewN (Below.refl w3.heap.size w3) nq;have hx4:=HX3.out.later hb;have kb4:=HKB3.out.below hb;obtain ⟨X4,hX4⟩:∃ X4,w3.drewN nq=X4:=⟨_,rfl⟩;rw [hX4] at hx4 kb4 ⊢;have hok:=hx4.st.ok;have cM:=hx4.st.cell (23 + K) _ (qb _ _ _ _ (yP hok _ K HK7.out));have cN:=hx4.st.cell (16 + K) _ (qb _ _ _ _ (zH hok _ K HK7.out));have fM:=hx4.st.free (23 + K);have fN:=hx4.st.free (16 + K);have m1:=kb4.cell 1 _ rfl;rw [HF.out] at m1;have m4:=kb4.cell 4 _ rfl;have m8:=kb4.cell 8 _ rfl;obtain ⟨mt,hmt⟩:∃ x,n.mat.getD K 0=x:=⟨_,rfl⟩;obtain ⟨nx,hnx⟩:∃ x,n.next.getD K 0=x:=⟨_,rfl⟩
   have hmtb:mt≤1000000000:=by rw [← hmt];exact hok.ms _ (kF _ _ (by rw [hok.m7];exact HK7.out))
   have hnxb:nx≤1000000001:=by rw [← hnx];exact hok.ns _ (kF _ _ (by rw [hok.n7];exact HK7.out))
   rw [hmt] at cM;rw [hnx] at cN;have HX4:=Uq hx4;have HKB4:=Uq kb4;have HMT:=Uq hmt;have HNX:=Uq hnx;clear hx4 kb4 hb hX4 hok hmt hnx
   cases hok:m.ok with
   | true=>
    rw [hok] at m8;have hh:=HH.out;rw [if_pos hok] at hh
    have hHY:rf.heardYes n K m.index={ n with mat:=n.mat.set K (max mt (min m.index L)),next:=n.next.set K (max mt (min m.index L) + 1) }:=by unfold rf.heardYes;rw [HMT.out,HL.out]
    obtain ⟨V1,hV1⟩:∃ V,max mt (min m.index L)=V:=⟨_,rfl⟩
    have hV1i:max (mt:Int) (min (m.index:Int) (L:Int))=(V1:Int):=by omega
    obtain ⟨V2,hV2⟩:∃ V,V1 + 1=V:=⟨_,rfl⟩
    have hV1b:V1≤1000000000:=by have:=HLog.out;omega
    have hV2i:IntKind.u64.wrap ((V1:Int) + 1)=(V2:Int):=by rw [show (V1:Int) + 1=(V2:Int) by omega];exact qD (by omega) (by omega)
    rw [hV1,hV2] at hHY;have q1:=HX4.out.store (23 + K) (.int .u64 (V1:Int)) (n':={ n with mat:=n.mat.set K V1 }) (Yi HX4.out.st.ok _ _ K HK7.out V1) rfl (HX4.out.st.ok.setM K V1 hV1b)
    have q2:=(q1.store (16 + K) (.int .u64 (V2:Int)) (n':={ n with mat:=n.mat.set K V1,next:=n.next.set K V2 }) (ZE q1.st.ok _ _ K HK7.out V2) rfl (q1.st.ok.setN K V2 (by omega))).drew
    rw [← hHY] at q2;have k2:=((HKB4.out.other ⟨s,23 + K,none⟩ (.int .u64 (V1:Int)) hbs).other ⟨s,16 + K,none⟩ (.int .u64 (V2:Int)) hbs).drew;obtain ⟨g,hg⟩:∃ g,rf.heardYes n K m.index=g:=⟨_,rfl⟩;rw [hg] at q2 hh hHY
    have hgl:g.log=n.log:=by rw [hHY]
    have hgm:g.many=n.many:=by rw [hHY]
    have hgn:g.next.getD K 0=V2:=by
     rw [hHY,List.getD_eq_getElem?_getD,List.getElem?_set_self (by rw [HX4.out.st.ok.n7];exact HK7.out)]
     rfl
    have hgst:∀ mm,rf.stamp n mm=rf.stamp (rf.tally g) mm:=by
     intro mm;rw [qh,hHY]
     rfl
    have HHH:=Uq hh;have HQ2:=Uq q2;have HK2:=Uq k2;have HGL:=Uq hgl;have HGM:=Uq hgm;have HGN:=Uq hgn;have HGS:=Uq hgst;clear q1 q2 k2 hh hHY hV1 hV2 hg hgl hgm hgn hgst hok hmtb hnxb HH;go_wp2_with fail;go_region;go_wp2_with fail;have hq2:=HQ2.out;rw [← HL.out,← HGL.out] at hq2;have HQ3:=Uq hq2;clear hq2
    refine (ke HQ3.out.st (by rw [HGM.out];exact HM0.out) (by rw [HGL.out,HL.out];exact HLog.out)).mono ?_
    rintro e w5 ⟨rfl,h5,ho5⟩;have kb5:=ho5.blk HK2.out hbs;obtain ⟨A5,c5,B5,d5,hx5⟩:=HQ3.out.call h5;have cN5:=hx5.st.cell (16 + K) _ (qb _ _ _ _ (zH hx5.st.ok _ K HK7.out));rw [Zj,HGN.out] at cN5;have m1':=kb5.cell 1 _ rfl;rw [HF.out] at m1';have HX5:=Uq hx5;clear hx5 h5 ho5 kb5
    by_cases hle:V2≤L
    ·have hd:decide ((V2:Int)≤(L:Int))=true:=by simp;exact hle
     have hdn:decide (V2≤L)=true:=by simp;exact hle
     have hh:=HHH.out;rw [Zj,HGN.out,if_pos hle,HGS.out] at hh;have HHF:=Uq hh;clear hh;go_wp2_with fail
     refine (ZN K HX5.out.st HK7.out (by have:=HML.out;omega) (by rw [zV,HGL.out,HL.out];exact HLog.out)).mono ?_
     rintro e w6 ⟨rfl,h6⟩;obtain ⟨A6,c6,B6,d6,h10⟩:=HX5.out.call h6;have H10:=Uq h10;clear h6 h10;go_wp2;refine bodyPost_ret (results_none rfl _ _ _) rfl ?_;rw [HHF.out];exact ⟨rfl,H10.out.to⟩
    ·have hd:decide ((V2:Int)≤(L:Int))=false:=by simp;omega
     have hdn:decide (V2≤L)=false:=by simp;omega
     have hh:=HHH.out;rw [Zj,HGN.out,if_neg hle] at hh;have HHF:=Uq hh;clear hh;go_wp2;refine bodyPost_ret (results_none rfl _ _ _) rfl ?_;rw [HHF.out,List.append_nil];exact ⟨rfl,HX5.out.to⟩
   | false=>
    rw [hok] at m8;have hh:=HH.out
    rw [if_neg (by rw [hok];simp)] at hh
    obtain ⟨V,hV⟩:∃ V,max (min (max nx 1 - 1) (min m.index L + 1)) (mt + 1)=V:=⟨_,rfl⟩
    have hHN:rf.heardNo n K m.index={ n with next:=n.next.set K V }:=by unfold rf.heardNo;rw [HMT.out,HNX.out,HL.out,hV]
    have hLb:=HLog.out
    obtain ⟨a1,ha1⟩:∃ a:Nat,max nx 1=a + 1:=⟨max nx 1 - 1,by omega⟩
    have i1:max (nx:Int) 1=((a1 + 1:Nat):Int):=by omega
    have i2:IntKind.u64.wrap (max (nx:Int) 1 - 1)=(a1:Int):=by rw [i1,show ((a1 + 1:Nat):Int) - 1=(a1:Int) by omega];exact qD (by omega) (by omega)
    have i3:IntKind.u64.wrap (min (m.index:Int) (L:Int) + 1)=min (m.index:Int) (L:Int) + 1:=qD (by omega) (by omega)
    have i4:IntKind.u64.wrap ((mt:Int) + 1)=(mt:Int) + 1:=qD (by omega) (by omega)
    have i5:max (min (a1:Int) (min (m.index:Int) (L:Int) + 1)) ((mt:Int) + 1)=(V:Int):=by omega
    have q1:=(HX4.out.store (16 + K) (.int .u64 (V:Int)) (n':={ n with next:=n.next.set K V }) (ZE HX4.out.st.ok _ _ K HK7.out V) rfl (HX4.out.st.ok.setN K V (by omega))).drew
    rw [← hHN] at q1;have k1:=(HKB4.out.other ⟨s,16 + K,none⟩ (.int .u64 (V:Int)) hbs).drew;have m1':=k1.cell 1 _ rfl;rw [HF.out] at m1'
    have hgst:∀ mm,rf.stamp n mm=rf.stamp (rf.heardNo n K m.index) mm:=by
     intro mm;rw [hHN]
     rfl
    rw [hgst] at hh;obtain ⟨g,hg⟩:∃ g,rf.heardNo n K m.index=g:=⟨_,rfl⟩;rw [hg] at q1 hh hHN
    have hgl:g.log=n.log:=by rw [hHN]
    rw [← HL.out,← hgl] at q1;have HHF:=Uq hh;have HQ1:=Uq q1;have HGL:=Uq hgl;clear q1 k1 hh hHN hV ha1 i1 hLb hgst hg hgl hok hmtb hnxb HH;go_wp2_with fail;go_region;go_wp2_with fail
    refine (ZN K HQ1.out.st HK7.out (by have:=HML.out;omega) (by rw [HGL.out,HL.out];exact HLog.out)).mono ?_
    rintro e w6 ⟨rfl,h6⟩;obtain ⟨A6,c6,B6,d6,h10⟩:=HQ1.out.call h6;have H10:=Uq h10;clear h6 h10;go_wp2;go_end0;rw [HHF.out];exact ⟨rfl,H10.out.to⟩
  ·have f2:((m.term:Int) != (n.term:Int))=true:=by rw [bne_iff_ne];omega
   have hh:rf.heard n m=(n,[]):=by unfold rf.heard;rw [if_neg (λh=>ht h.2)]
   have HH:=Uq hh;clear hh hr ht;go_wp2_with fail
   go_quiet (fail)
   have hx2:=HXX.out.later (below_drewN (Below.refl X.heap.size X) nq);have HX2:=Uq hx2;clear hx2;go_wp2;refine bodyPost_ret (results_none rfl _ _ _) rfl ?_;rw [HH.out,List.append_nil];exact ⟨rfl,HX2.out.to⟩
 ·have f1:(n.role != 2)=true:=by rw [bne_iff_ne];exact hr
  have hh:rf.heard n m=(n,[]):=by unfold rf.heard;rw [if_neg (λh=>hr h.1)]
  have HH:=Uq hh;clear hh hr;go_wp2_with fail
  go_quiet (fail)
  have hx2:=HXX.out.later (below_drewN (Below.refl X.heap.size X) nq);have HX2:=Uq hx2;clear hx2;go_wp2;refine bodyPost_ret (results_none rfl _ _ _) rfl ?_;rw [HH.out,List.append_nil];exact ⟨rfl,HX2.out.to⟩
end Go.Proofs.YtppibhieabideaaGreatDoor
