/- A part of the walk of the program, and of its plain law. -/
import Derived.Test.YtppibhieabideaaGreatDoorGt14
namespace Go.Proofs.YtppibhieabideaaGreatDoor
open Go Go.RowKit Go.Deep
set_option maxRecDepth 100000
theorem Qn (n:rf.Node) (m:rf.Msg):rf.meant n m=true ↔ m.dst=n.id∧0≤m.frm∧m.frm < min n.many 7∧m.frm ≠ n.id∧1≤m.kind∧m.kind≤4:=by
 unfold rf.meant;simp only [Bool.and_eq_true,decide_eq_true_eq,and_assoc]
theorem JT (n:rf.Node) (m:rf.Msg):(rf.fresh n m).log=n.log∧(rf.fresh n m).id=n.id∧(rf.fresh n m).many=n.many:=by
 unfold rf.fresh
 split
 ·exact ⟨(Zc n _).1,(Zc n _).2.1,(Zc n _).2.2.1⟩
 ·exact ⟨rfl,rfl,rfl⟩
set_option maxHeartbeats 16000000 in
theorem VB (n:rf.Node) (m:rf.Msg) (A:Option Addr) (c:Nat) (A2:Option Addr) (k2 c2:Nat) (w:World) (hE:EntsB w.heap.size w (.slice A n.log.length c) n.log) (hE2:EntsB w.heap.size w (.slice A2 k2 c2) m.ents) (ok:NOk n) (hm0:0≤n.many) (hid:0≤n.id) (hid7:n.id < 7) (hlog:n.log.length≤9990) (hml:m.ents.length≤10000) (hix:m.index < 18446744073709551616) :
  Calls Tryz.prog 151 #[ndV n (.slice A n.log.length c),msgV m (.slice A2 k2 c2)] w λe w'=>∃ nv sv,e=.returned (.tuple #[nv,sv])∧Out w (rf.step n m).1 (rf.step n m).2 w' nv sv:=by
 obtain ⟨L,hL⟩:∃ L,n.log.length=L:=⟨_,rfl⟩;obtain ⟨X0,bn,hX0,hbn,hb0,kb⟩:=qp w (ndC n (.slice A L c)) 100;obtain ⟨X1,bm,hX1,hbm,hb1,km⟩:=qp X0 (msgC m (.slice A2 k2 c2)) 229;obtain ⟨X2,br,hX2,hbr,hb2,kr⟩:=qp X1 (ndC qi nilV) 100
 obtain rfl:bm=bn + 1:=by rw [← hbm,← hX0,← hbn];simp
 obtain rfl:br=bn + 1 + 1:=by rw [← hbr,← hX1,← hbm];simp
 have hb01:=hb0.trans (hb1.mono hb0.size);have hb02:=hb01.trans (hb2.mono hb01.size);have kb2:=(kb.below hb1).below hb2;have km2:=km.below hb2;have HX0:=Uq hX0;have HX1:=Uq hX1;have HX2:Hid (X1.alloc (.cells #[.int .i64 0,.int .i64 0,.int .u64 0,.int .i64 0,.slice none 0 0,.int .i64 0,.int .i64 0,.int .u64 0,.int .i64 0,.bool false,.bool false,.bool false,.bool false,.bool false,.bool false,.bool false,.int .u64 0,.int .u64 0,.int .u64 0,.int .u64 0,.int .u64 0,.int .u64 0,.int .u64 0,.int .u64 0,.int .u64 0,.int .u64 0,.int .u64 0,.int .u64 0,.int .u64 0,.int .u64 0] 100)=X2):=Uq hX2;have HB02:=Uq hb02;have HKB2:=Uq kb2;have HKM2:=Uq km2;have HKR2:=Uq kr;have HL:=Uq hL;have HLog:=Uq hlog;have HM0:=Uq hm0;have HID:=Uq hid;have HID7:=Uq hid7;have HOK:=Uq ok;have HE:=Uq hE;have HE2:=Uq hE2;have HML:=Uq hml;have HIX:=Uq hix;rw [hL];clear hX0 hX1 hX2 hb0 hb1 hb2 hb01 hb02 kb km kr kb2 km2 hL hlog hm0 hid hid7 ok hE hE2 hml hix;unfold ndV msgV
 go_enter Tryz.func151,Tryz.ntmps151
 go_upto_region 1 with fail;rw [HX0.out,HX1.out,HX2.out];obtain ⟨bd,hbd⟩:∃ bd,X2.heap.size=bd:=⟨_,rfl⟩;obtain ⟨X3,hX3⟩:∃ X3,(X2.alloc (.cells #[Value.nilFunc,Value.nilFunc,Value.nilFunc,Value.nilFunc,Value.nilFunc] 352)).setRow bd #[Value.nilFunc,.func (.func 265) #[] #[],.func (.func 266) #[] #[],.func (.func 267) #[] #[],.func (.func 268) #[] #[]]=X3:=⟨_,rfl⟩
 have hk0:Blk (X2.alloc (.cells #[Value.nilFunc,Value.nilFunc,Value.nilFunc,Value.nilFunc,Value.nilFunc] 352)) bd [Value.nilFunc,Value.nilFunc,Value.nilFunc,Value.nilFunc,Value.nilFunc] 352:=by rw [← hbd];exact Blk.new X2 _ _
 have kd3:Blk X3 bd [Value.nilFunc,.func (.func 265) #[] #[],.func (.func 266) #[] #[],.func (.func 267) #[] #[],.func (.func 268) #[] #[]] 352:=by rw [← hX3];exact hk0.row _
 have hb3:Below X2.heap.size X2 X3:=by
  rw [← hX3]
  exact ((Below.refl _ X2).alloc (Nat.le_refl _) _).trans (qk _ _ _ (by rw [hbd];exact Nat.le_refl _))
 have hone:(#[Value.nilFunc,.func (.func 265) #[] #[],.func (.func 266) #[] #[],.func (.func 267) #[] #[],.func (.func 268) #[] #[]]:Array Value).all (·.oneCell')=true:=all_oneCell_toArray (cs:=[Value.nilFunc,.func (.func 265) #[] #[],.func (.func 266) #[] #[],.func (.func 267) #[] #[],.func (.func 268) #[] #[]]) (by
  intro v hv;simp only [List.mem_cons,List.not_mem_nil,or_false] at hv
  rcases hv with rfl | rfl | rfl | rfl | rfl <;> rfl)
 have HONE1:=Uq hone;have HK0:=Uq hk0;have HX3:=Uq hX3;have HKD3:=Uq kd3;have HKB3:=Uq (HKB2.out.below hb3);have HKM3:=Uq (HKM2.out.below hb3);have HKR3:=Uq (HKR2.out.below hb3);have HB03:=Uq (HB02.out.trans (hb3.mono HB02.out.size));clear hX3 kd3 hb3 hk0 hone
 go_upto_region 2 with (first | (refine wpList_store_row rfl 352 (.tmp 6) (.tmp 8) rfl bd _ rfl rfl _ _ HK0.out (by kernel_rfl) rfl HONE1.out ?_))
 rw [HX3.out];simp only [Act.put];have b0:=HKB3.out.cell 0 _ rfl;have b1:=HKB3.out.cell 1 _ rfl;have m0:=HKM3.out.cell 0 _ rfl;have m1:=HKM3.out.cell 1 _ rfl;have m2:=HKM3.out.cell 2 _ rfl
 go_cut [43] (λs43 wx=>s43=.bool (!rf.meant n m)∧wx=X3)
 case first=>
  by_cases q1:m.dst=n.id
  ·have f1:(m.dst != n.id)=false:=by rw [q1];simp
   by_cases q2:0≤m.frm
   ·have f2:decide (m.frm < 0)=false:=by simp;omega
    by_cases q3:m.frm < min n.many 7
    ·have f3:decide (min n.many 7≤m.frm)=false:=by simp;omega
     by_cases q4:m.frm ≠ n.id
     ·have f4:(m.frm == n.id)=false:=by rw [beq_eq_false_iff_ne];exact q4
      by_cases q5:1≤m.kind
      ·have f5:decide (m.kind < 1)=false:=by simp;omega
       by_cases q6:m.kind≤4
       ·have f6:decide (4 < m.kind)=false:=by simp;omega
        have hq:(!rf.meant n m)=false:=by rw [Bool.not_eq_false'];exact (Qn n m).2 ⟨q1,q2,q3,q4,q5,q6⟩
        have HQ:=Uq hq;clear hq q1 q2 q3 q4 q5 q6;go_wp2_with fail;go_meet
        exact ⟨by rw [HQ.out],rfl⟩
       ·have f6:decide (4 < m.kind)=true:=by simp;omega
        have hq:(!rf.meant n m)=true:=by rw [Bool.not_eq_true',← Bool.not_eq_true];exact λh=>q6 ((Qn n m).1 h).2.2.2.2.2
        have HQ:=Uq hq;clear hq q1 q2 q3 q4 q5 q6;go_wp2_with fail;go_meet
        exact ⟨by rw [HQ.out],rfl⟩
      ·have f5:decide (m.kind < 1)=true:=by simp;omega
       have hq:(!rf.meant n m)=true:=by rw [Bool.not_eq_true',← Bool.not_eq_true];exact λh=>q5 ((Qn n m).1 h).2.2.2.2.1
       have HQ:=Uq hq;clear hq q1 q2 q3 q4 q5;go_wp2_with fail;go_meet
       exact ⟨by rw [HQ.out],rfl⟩
     ·have f4:(m.frm == n.id)=true:=by rw [beq_iff_eq];exact Classical.not_not.1 q4
      have hq:(!rf.meant n m)=true:=by rw [Bool.not_eq_true',← Bool.not_eq_true];exact λh=>q4 ((Qn n m).1 h).2.2.2.1
      have HQ:=Uq hq;clear hq q1 q2 q3 q4;go_wp2_with fail;go_meet
      exact ⟨by rw [HQ.out],rfl⟩
    ·have f3:decide (min n.many 7≤m.frm)=true:=by simp;omega
     have hq:(!rf.meant n m)=true:=by rw [Bool.not_eq_true',← Bool.not_eq_true];exact λh=>q3 ((Qn n m).1 h).2.2.1
     have HQ:=Uq hq;clear hq q1 q2 q3;go_wp2_with fail;go_meet
     exact ⟨by rw [HQ.out],rfl⟩
   ·have f2:decide (m.frm < 0)=true:=by simp;omega
    have hq:(!rf.meant n m)=true:=by rw [Bool.not_eq_true',← Bool.not_eq_true];exact λh=>q2 ((Qn n m).1 h).2.1
    have HQ:=Uq hq;clear hq q1 q2;go_wp2_with fail;go_meet
    exact ⟨by rw [HQ.out],rfl⟩
  ·have f1:(m.dst != n.id)=true:=by rw [bne_iff_ne];exact q1
   have hq:(!rf.meant n m)=true:=by rw [Bool.not_eq_true',← Bool.not_eq_true];exact λh=>q1 ((Qn n m).1 h).1
   have HQ:=Uq hq;clear hq q1;go_wp2_with fail;go_meet
   exact ⟨by rw [HQ.out],rfl⟩
 case rest=>
  obtain ⟨rfl,hwc⟩:=hcut;rw [hwc];clear hwc
  by_cases hq:rf.meant n m=true
  ·have hq2:(!rf.meant n m)=false:=by rw [hq];rfl
   rw [hq2]
   have hstep:rf.step n m=(if m.kind=1 then rf.ask (rf.fresh n m) m else if m.kind=2 then rf.vote (rf.fresh n m) m else if m.kind=3 then rf.put (rf.fresh n m) m else rf.heard (rf.fresh n m) m):=by unfold rf.step;rw [if_pos hq]
   obtain ⟨hdst,hf0,hf7,hfne,hk1,hk4⟩:=(Qn n m).1 hq
   obtain ⟨K,hK⟩:∃ K:Nat,m.frm=(K:Int):=⟨m.frm.toNat,by omega⟩
   have hK7:K < 7:=by omega
   obtain ⟨Z,sx,hZ,hs,hbZ,ks⟩:=qp X3 (stC n (.slice A L c) nilV) 235
   have hx:Sx w.heap.size X3 Z sx n (.slice A L c) (.slice none ([]:List rf.Msg).length 0) []:=by
    have h:=Sx.fresh HB03.out (A:=A) (c:=c) HE.out HOK.out;rw [HL.out,hZ,hs] at h;exact h
   have HSTEP:=Uq hstep;have HK:=Uq hK;have HK7:=Uq hK7;have HZ:=Uq hZ;have HSX:=Uq hx;have HKB:=Uq (HKB3.out.below hbZ);have HKM:=Uq (HKM3.out.below hbZ);have HKR:=Uq (HKR3.out.below hbZ);have HKD:=Uq (HKD3.out.below hbZ)
   have hns:¬ bn=sx:=by have:=HKB3.out.lt;omega
   have hms:¬ bn + 1=sx:=by have:=HKM3.out.lt;omega
   have hrs:¬ bn + 1 + 1=sx:=by have:=HKR3.out.lt;omega
   have hds:¬ bd=sx:=by have:=HKD3.out.lt;omega
   have HK1:=Uq hk1;have HK4:=Uq hk4;have HBT:=Uq (Zt HOK.out (.slice A L c))
   have HNS:Hid ((ndC n (.slice A L c)).toArray.size=30):=Uq (by rw [List.size_toArray,qe HOK.out])
   have HEM:Hid (EntsB w.heap.size Z (.slice A2 k2 c2) m.ents):=Uq ((HE2.out.later HB03.out).later hbZ);clear hq hq2 hstep hdst hf0 hf7 hfne hk1 hk4 hK hK7 hZ hx ks hbZ b0 b1 m0 m1 m2
   go_upto_region 5 with (first | (refine wpList_load_row rfl 100 _ rfl bn rfl _ _ _ _ HKB3.out Tryz.underlying100 rfl (by rw [qc,HNS.out]) ?_) | (refine Qz rfl 235 0 (.tmp 45) rfl _ rfl _ HBT.out ?_))
   rw [HZ.out];have b2:=HKB.out.cell 2 _ rfl;have m3:=HKM.out.cell 3 _ rfl
   go_upto_if 53 with fail
   go_cut [] (λwx=>∃ A1 c1 B1 d1,Sx w.heap.size X3 wx sx (rf.fresh n m) (.slice A1 (rf.fresh n m).log.length c1) (.slice B1 ([]:List rf.Msg).length d1) []∧Blk wx (bn + 1) (msgC m (.slice A2 k2 c2)) 229∧Blk wx (bn + 1 + 1) (ndC qi nilV) 100∧Blk wx bd [Value.nilFunc,.func (.func 265) #[] #[],.func (.func 266) #[] #[],.func (.func 267) #[] #[],.func (.func 268) #[] #[]] 352∧EntsB w.heap.size wx (.slice A2 k2 c2) m.ents)
   case first=>
    by_cases hlt:n.term < m.term
    ·have hd:decide ((n.term:Int) < (m.term:Int))=true:=by simp;exact hlt
     have hdn:decide (n.term < m.term)=true:=by simp;exact hlt
     have hfr:rf.fresh n m=rf.back n m.term:=by unfold rf.fresh;rw [if_pos hlt]
     have HFR:=Uq hfr;have hc:=jP m.term HSX.out.st;have HC:=Uq hc;clear hfr hc;go_wp2_with fail;refine HC.out.mono ?_;rintro e w5 ⟨rfl,hst,ho⟩
     have hme:EntsB w.heap.size w5 (.slice A2 k2 c2) m.ents:=by
      obtain ⟨_,_,_,_,_,h4,h5⟩:=hst;exact HEM.out.keep h4 h5 HSX.out.st.blk
     have q1:=ho.blk HKM.out hms;have q2:=ho.blk HKR.out hrs;have q3:=ho.blk HKD.out hds;obtain ⟨A1,c1,B1,d1,h10⟩:=HSX.out.call hst;rw [← HFR.out] at h10;have H10:=Uq h10;have HQ:=Uq (And.intro q1 (And.intro q2 (And.intro q3 hme)));clear hst ho hme q1 q2 q3 h10;go_wp2_with fail;go_meet;exact ⟨A1,c1,B1,d1,H10.out,HQ.out⟩
    ·have hd:decide ((n.term:Int) < (m.term:Int))=false:=by simp;omega
     have hdn:decide (n.term < m.term)=false:=by simp;omega
     have hfr:rf.fresh n m=n:=by unfold rf.fresh;rw [if_neg hlt]
     have HFR:=Uq hfr;clear hfr;go_wp2_with fail;go_meet;refine ⟨A,c,none,0,?_,HKM.out,HKR.out,HKD.out,HEM.out⟩;rw [HFR.out,HL.out];exact HSX.out
   case rest=>
    obtain ⟨A1,c1,B1,d1,hx7,km7,kr7,kd7,he7⟩:=hcut;obtain ⟨n1,hn1⟩:∃ n1,rf.fresh n m=n1:=⟨_,rfl⟩;obtain ⟨hl1,hi1,hm1⟩:=JT n m;rw [hn1] at hx7 hl1 hi1 hm1;have hstep:=HSTEP.out;rw [hn1] at hstep;have HSTEP2:=Uq hstep;have HL1:=Uq hl1;have HI1:=Uq hi1;have HM1:=Uq hm1;have HX7:=Uq hx7;have HKM7:=Uq km7;have HKR7:=Uq kr7;have HKD7:=Uq kd7;have HE7:=Uq he7;clear hx7 hl1 hi1 hm1 km7 kr7 kd7 he7 hstep hn1 b2 m3;go_upto_region 7 with fail
    go_cut [] (λwx=>∃ A9 c9 B9 d9,Sx w.heap.size X3 wx sx (rf.step n m).1 (.slice A9 (rf.step n m).1.log.length c9) (.slice B9 (rf.step n m).2.length d9) (rf.step n m).2∧Blk wx (bn + 1 + 1) (ndC qi nilV) 100)
    case first=>
     have hx8:=HX7.out.drew;have m0:=HKM7.out.drew.cell 0 _ rfl;have m1:=HKM7.out.drew.cell 1 _ rfl;have m2:=HKM7.out.drew.cell 2 _ rfl;have m3:=HKM7.out.drew.cell 3 _ rfl;have m4:=HKM7.out.drew.cell 4 _ rfl;have m5:=HKM7.out.drew.cell 5 _ rfl;have m6:=HKM7.out.drew.cell 6 _ rfl;have m7:=HKM7.out.drew.cell 7 _ rfl;have m8:=HKM7.out.drew.cell 8 _ rfl;have q1:=HKD7.out.drew.cell 1 _ rfl;have q2:=HKD7.out.drew.cell 2 _ rfl;have q3:=HKD7.out.drew.cell 3 _ rfl;have q4:=HKD7.out.drew.cell 4 _ rfl
     have hll:n1.log.length≤9990:=by rw [HL1.out];exact HLog.out
     have hmm:0≤n1.many:=by rw [HM1.out];exact HM0.out
     have hii:0≤n1.id:=by rw [HI1.out];exact HID.out
     have hi7:n1.id < 7:=by rw [HI1.out];exact HID7.out
     have he8:=HE7.out.later (below_drewN (Below.refl _ _) 1);have hx8e:=he8.1
     have ca:=ask_any m A2 k2 c2 hx8.st (Nat.zero_le _) (by omega)
     have cv:=Vh m A2 k2 c2 K HK.out HK7.out hx8.st hmm hii hi7 (Nat.zero_le _) hll
     have cp:=VW m A2 k2 c2 hx8.st he8 (Nat.zero_le _) (by omega) HML.out HIX.out
     have ch:=X5 m A2 k2 c2 K HK.out HK7.out hx8.st hmm (Nat.zero_le _) (by omega)
     unfold msgV msgC at ca cv cp ch;have HX8:=Uq hx8;have CA:=Uq ca;have CV:=Uq cv;have CP:=Uq cp;have CH:=Uq ch;clear hx8 ca cv cp ch he8 hx8e hll hmm hii hi7
     have hkk:m.kind=1∨m.kind=2∨m.kind=3∨m.kind=4:=by have:=HK1.out;have:=HK4.out;omega
     rcases hkk with hk | hk | hk | hk
     ·have hst0:=HSTEP2.out
      have he:rf.step n m=rf.ask n1 m:=by
       rw [hst0];rw [if_pos hk]
      have HSE:=Uq he;rw [hk] at m0;have cc:=CA.out;rw [hk] at cc;have CC:=Uq cc;clear cc;clear he hst0 hk
      go_region_with (first | (go_at_call 265;refine CC.out.mono ?_;rintro e w9 ⟨rfl,hst⟩))
      all_goals
       have r9:Blk w9 (bn + 1 + 1) (ndC qi nilV) 100:=by
        obtain ⟨_,_,_,_,_,h,_⟩:=hst
        exact h.blk HKR7.out.drew hrs (by decide)
       obtain ⟨A9,c9,B9,d9,h9⟩:=HX8.out.call hst;rw [List.nil_append,← HSE.out] at h9;have H9:=Uq h9;have HR9:=Uq r9;clear h9 hst r9;go_wp2_with fail;go_meet;exact ⟨A9,c9,B9,d9,H9.out,HR9.out⟩
     ·have hst0:=HSTEP2.out
      have he:rf.step n m=rf.vote n1 m:=by
       rw [hst0]
       rw [if_neg (by omega)];rw [if_pos hk]
      have HSE:=Uq he;rw [hk] at m0;have cc:=CV.out;rw [hk] at cc;have CC:=Uq cc;clear cc;clear he hst0 hk
      go_region_with (first | (go_at_call 266;refine CC.out.mono ?_;rintro e w9 ⟨rfl,hst⟩))
      all_goals
       have r9:Blk w9 (bn + 1 + 1) (ndC qi nilV) 100:=by
        obtain ⟨_,_,_,_,_,h,_⟩:=hst
        exact h.blk HKR7.out.drew hrs (by decide)
       obtain ⟨A9,c9,B9,d9,h9⟩:=HX8.out.call hst;rw [List.nil_append,← HSE.out] at h9;have H9:=Uq h9;have HR9:=Uq r9;clear h9 hst r9;go_wp2_with fail;go_meet;exact ⟨A9,c9,B9,d9,H9.out,HR9.out⟩
     ·have hst0:=HSTEP2.out
      have he:rf.step n m=rf.put n1 m:=by
       rw [hst0]
       rw [if_neg (by omega)];rw [if_neg (by omega)];rw [if_pos hk]
      have HSE:=Uq he;rw [hk] at m0;have cc:=CP.out;rw [hk] at cc;have CC:=Uq cc;clear cc;clear he hst0 hk
      go_region_with (first | (go_at_call 267;refine CC.out.mono ?_;rintro e w9 ⟨rfl,hst⟩))
      all_goals
       have r9:Blk w9 (bn + 1 + 1) (ndC qi nilV) 100:=by
        obtain ⟨_,_,_,_,_,h,_⟩:=hst
        exact h.blk HKR7.out.drew hrs (by decide)
       obtain ⟨A9,c9,B9,d9,h9⟩:=HX8.out.call hst;rw [List.nil_append,← HSE.out] at h9;have H9:=Uq h9;have HR9:=Uq r9;clear h9 hst r9;go_wp2_with fail;go_meet;exact ⟨A9,c9,B9,d9,H9.out,HR9.out⟩
     ·have hst0:=HSTEP2.out
      have he:rf.step n m=rf.heard n1 m:=by
       rw [hst0]
       rw [if_neg (by omega)];rw [if_neg (by omega)];rw [if_neg (by omega)];skip
      have HSE:=Uq he;rw [hk] at m0;have cc:=CH.out;rw [hk] at cc;have CC:=Uq cc;clear cc;clear he hst0 hk
      go_region_with (first | (go_at_call 268;refine CC.out.mono ?_;rintro e w9 ⟨rfl,hst⟩))
      all_goals
       have r9:Blk w9 (bn + 1 + 1) (ndC qi nilV) 100:=by
        obtain ⟨_,_,_,_,_,h,_⟩:=hst
        exact h.blk HKR7.out.drew hrs (by decide)
       obtain ⟨A9,c9,B9,d9,h9⟩:=HX8.out.call hst;rw [List.nil_append,← HSE.out] at h9;have H9:=Uq h9;have HR9:=Uq r9;clear h9 hst r9;go_wp2_with fail;go_meet;exact ⟨A9,c9,B9,d9,H9.out,HR9.out⟩
    case rest=>
     obtain ⟨A9,c9,B9,d9,h9,r9⟩:=hcut;have HTK:Hid True:=Uq trivial
     have HBASE:Hid (w.heap.size≤bn + 1 + 1):=Uq (by omega)
     have HXY:=Uq HB03.out;obtain ⟨n9,ms9,hT⟩:∃ n9 ms9,rf.step n m=(n9,ms9):=⟨_,_,rfl⟩;rw [hT] at h9;dsimp only at h9;have H9:=Uq h9;have HR9:=Uq r9;have HTT:=Uq hT;clear h9 r9 hT HTK;go_wp2_with fail;obtain ⟨W9,hW9⟩:∃ W9,wc=W9:=⟨_,rfl⟩;have hx9:=H9.out.drew;have hr9:=HR9.out.drew;rw [hW9] at hx9 hr9 ⊢;have hs9:=qe hx9.st.ok (.slice A9 n9.log.length c9);have ho9:=hx9.out hr9 HBASE.out HXY.out;have hS9:W9.drew.rangeAt sx 0 (ndC n9 (.slice A9 n9.log.length c9))∧W9.drew.cell? ⟨sx,30,none⟩=some (.slice B9 ms9.length d9):=⟨qL hx9.st.blk,hx9.st.cell 30 _ (qI hx9.st.ok _ _)⟩
     have hS8:(W9.drew.setRow (bn + 1 + 1) (ndC n9 (.slice A9 n9.log.length c9)).toArray).rangeAt sx 0 (ndC n9 (.slice A9 n9.log.length c9))∧(W9.drew.setRow (bn + 1 + 1) (ndC n9 (.slice A9 n9.log.length c9)).toArray).cell? ⟨sx,30,none⟩=some (.slice B9 ms9.length d9):=by
      have hb:Blk (W9.drew.setRow (bn + 1 + 1) (ndC n9 (.slice A9 n9.log.length c9)).toArray) sx (stC n9 (.slice A9 n9.log.length c9) (.slice B9 ms9.length d9)) 235:=(qz _ _ _ sx (λe=>hrs e.symm)).trans hx9.st.blk
      exact ⟨qL hb,hb.cell 30 _ (qI hx9.st.ok _ _)⟩
     have HSZ:Hid ((Tryz.prog.info? 100).map (·.size)=some (ndC n9 (.slice A9 n9.log.length c9)).length):=Uq (by rw [qc,hs9])
     have HSZ2:Hid ((Tryz.prog.info? 100).map (·.size)=some (ndC n9 (.slice A9 n9.log.length c9)).toArray.size):=Uq (by rw [qc,List.size_toArray,hs9])
     have HSZ3:Hid ((ndC qi nilV).toArray.size=(ndC n9 (.slice A9 n9.log.length c9)).toArray.size):=Uq (by rw [List.size_toArray,List.size_toArray,hs9];rfl)
     have HONE:Hid ((ndC n9 (.slice A9 n9.log.length c9)).toArray.all (·.oneCell')=true):=Uq (qy rfl)
     have HS2:=Uq hS8;have HBR:=Uq hr9;have HOUT1:=Uq ho9.1;have HOUT2:=Uq ho9.2;clear hx9 hr9 hs9 ho9 hS8 hW9
     refine wp_region_held_drew (S:=(λw'=>w'.rangeAt sx 0 (ndC n9 (.slice A9 n9.log.length c9))∧w'.cell? ⟨sx,30,none⟩=some (.slice B9 ms9.length d9))) (by kernel_rfl) hS9 (λhHeld=>?_)
     clear hS9
     (refine tk 0 ?_ ?_ ?_;rotate_left;focus (intro w hSw;(try dsimp only at hSw);go_simp;(try with_reducible rfl);done))
     (try simp only [Act.put,Ur,Us,Ut])
     (refine tk 1 ?_ ?_ ?_;rotate_left;focus (intro w hSw;(try dsimp only at hSw);go_simp;(try with_reducible rfl);done))
     (try simp only [Act.put,Ur,Us,Ut])
     (refine tk 2 ?_ ?_ ?_;rotate_left;focus (intro w hSw;(try dsimp only at hSw);go_simp;(try with_reducible rfl);done))
     (try simp only [Act.put,Ur,Us,Ut])
     refine wpAnyH_take (i:=3) (qx rfl) (by kernel_rfl) (by kernel_rfl) (by kernel_rfl) (λ_ _ _ h=>h) (yieldsIf_load_mid (by rfl) _ _ rfl _ _ rfl _ _ (λ_ h=>h.1) Tryz.underlying100 rfl HSZ.out) (by assumption) ?_
     (try simp only [Act.put,Ur,Us,Ut])
     (refine tk 4 ?_ ?_ ?_;rotate_left;focus (intro w hSw;(try dsimp only at hSw);go_simp;(try with_reducible rfl);done))
     (try simp only [Act.put,Ur,Us,Ut])
     (refine tk 5 ?_ ?_ ?_;rotate_left;focus (intro w hSw;(try dsimp only at hSw);go_simp;(try with_reducible rfl);done))
     (try simp only [Act.put,Ur,Us,Ut])
     (refine tk 6 ?_ ?_ ?_;rotate_left;focus (intro w hSw;(try dsimp only at hSw);go_simp;(try with_reducible rfl);done))
     (try simp only [Act.put,Ur,Us,Ut])
     (refine tk 7 ?_ ?_ ?_;rotate_left;focus (intro w hSw;(try dsimp only at hSw);go_simp;(try with_reducible rfl);done))
     (try simp only [Act.put,Ur,Us,Ut])
     refine wpAnyH_ready (rs:=[8]) (by kernel_rfl) (by simp) ?_
     refine AllReadyH.cons (qx rfl) (λK hK=>?_) AllReadyH.nil
     rw [if_pos (by rfl)]
     refine wp_store_row 100 _ _ rfl _ _ rfl rfl _ _ HBR.out HSZ2.out HSZ3.out HONE.out ?_
     (try simp only [Act.put])
     refine hK.out _ _ HS2.out (λhHeld=>?_)
     clear hK K
     (try simp only [Act.put,Ur,Us,Ut])
     (refine tk 9 ?_ ?_ ?_;rotate_left;focus (intro w hSw;(try dsimp only at hSw);go_simp;(try with_reducible rfl);done))
     (try simp only [Act.put,Ur,Us,Ut])
     refine wpAnyH_done (by kernel_rfl) ?_ _
     go_wp2_with fail
     refine bodyPost_ret (qj rfl _ _ (bn + 1 + 1) _ _ (0,0) _ rfl HOUT1.out Tryz.underlying100 rfl (by rw [← HSZ2.out])) rfl ?_
     rw [HTT.out];exact ⟨_,_,rfl,HOUT2.out⟩
  ·have hq2:(!rf.meant n m)=true:=by rw [Bool.not_eq_true'] ;simpa using hq
   rw [hq2]
   have hstep:rf.step n m=(n,[]):=by unfold rf.step;rw [if_neg hq]
   have HNS:Hid ((ndC n (.slice A L c)).toArray.size=30):=Uq (by rw [List.size_toArray,qe HOK.out])
   have HSZ2:Hid ((Tryz.prog.info? 100).map (·.size)=some (ndC n (.slice A L c)).toArray.size):=Uq (by rw [qc,HNS.out])
   have HSZ3:Hid ((ndC qi nilV).toArray.size=(ndC n (.slice A L c)).toArray.size):=Uq (by rw [HNS.out];rfl)
   have HONE:Hid ((ndC n (.slice A L c)).toArray.all (·.oneCell')=true):=Uq (qy rfl)
   have ho:Blk (X3.setRow (bn + 1 + 1) (ndC n (.slice A L c)).toArray) (bn + 1 + 1) (ndC n (.slice A L c)) 100∧Out w n [] (X3.setRow (bn + 1 + 1) (ndC n (.slice A L c)).toArray) (ndV n (.slice A L c)) nilV:=by
    have hbr2:w.heap.size≤bn + 1 + 1:=by omega
    have he:=(HE.out.later HB03.out).row (vs:=ndC n (.slice A L c)) hbr2 HKR3.out;rw [HL.out] at he
    refine ⟨HKR3.out.row _,A,c,none,0,by rw [HL.out],rfl,by rw [HL.out];exact he,Sent.nil _ _,HOK.out,HB03.out.trans (qk _ _ _ hbr2)⟩
   have HO1:=Uq ho.1;have HO2:=Uq ho.2;have HST:=Uq hstep;clear hq hq2 hstep ho b0 b1 m0 m1 m2
   go_wp2_with (first | (refine wpList_load_row rfl 100 _ rfl bn rfl _ _ _ _ HKB3.out Tryz.underlying100 rfl (by rw [qc,HNS.out]) ?_) | (refine wpList_store_row rfl 100 (.tmp 4) (.tmp 44) rfl (bn + 1 + 1) _ rfl rfl _ _ HKR3.out HSZ2.out HSZ3.out HONE.out ?_))
   refine bodyPost_ret (qj rfl _ _ (bn + 1 + 1) _ _ (0,0) _ rfl HO1.out Tryz.underlying100 rfl (by rw [← HSZ2.out])) rfl ?_
   rw [HST.out];exact ⟨_,_,rfl,HO2.out⟩
theorem Qr {P:Program} {fn:Func} {p u v x:Tmp} {ty:TypeId} (h:fn.results=#[.cell p ty,.tmp u,.tmp v,.tmp x]) (tmps:Array Value) (w:World) (g:Nat) (t:TypeId) (cs:Array Value) (fr:Nat × Nat) (d:TypeDesc)
  (hp:tmps.getD p undef=.pointer (some ⟨g,0,none⟩)) (hg:w.heap[g]?=some (.cells cs t fr))
  (hu:P.underlying ty=some d) (hd:(match d with | .struct _ | .array _ _=>true | _=>false)=true) (hi:(P.info? ty).map (·.size)=some cs.size) :
  (results fn tmps).run P w=.ok (.tuple #[.agg cs,tmps.getD u undef,tmps.getD v undef,tmps.getD x undef]) w:=by
 have hp':tmps[p]?.getD undef=.pointer (some ⟨g,0,none⟩):=by simpa using hp
 simp [results,h,hp',asAddr,run_loadVar_row w g t ty cs fr d hg hu hd hi]
set_option maxHeartbeats 16000000 in
theorem K6 (n:rf.Node) (text:List UInt8) (A:Option Addr) (c:Nat) (w:World) (hE:EntsB w.heap.size w (.slice A n.log.length c) n.log) (ok:NOk n) (hm0:0≤n.many) (hlog:n.log.length≤9990) :
  Calls Tryz.prog 46 #[ndV n (.slice A n.log.length c),.string (crcm.mk text)] w λe w'=>∃ nv sv,e=.returned (.tuple #[nv,sv,.int .u64 ((rf.propose n text).2.2.1:Nat),.int .i64 (rf.propose n text).2.2.2])∧Out w (rf.propose n text).1 (rf.propose n text).2.1 w' nv sv:=by
 obtain ⟨L,hL⟩:∃ L,n.log.length=L:=⟨_,rfl⟩;obtain ⟨X0,bn,hX0,hbn,hb0,kb⟩:=qp w (ndC n (.slice A L c)) 100;obtain ⟨X2,br,hX2,hbr,hb2,kr⟩:=qp X0 (ndC qi nilV) 100
 obtain rfl:br=bn + 1:=by rw [← hbr,← hX0,← hbn];simp
 have hb02:=hb0.trans (hb2.mono hb0.size);have kb2:=kb.below hb2;have HX0:=Uq hX0;have HX2:Hid (X0.alloc (.cells #[.int .i64 0,.int .i64 0,.int .u64 0,.int .i64 0,.slice none 0 0,.int .i64 0,.int .i64 0,.int .u64 0,.int .i64 0,.bool false,.bool false,.bool false,.bool false,.bool false,.bool false,.bool false,.int .u64 0,.int .u64 0,.int .u64 0,.int .u64 0,.int .u64 0,.int .u64 0,.int .u64 0,.int .u64 0,.int .u64 0,.int .u64 0,.int .u64 0,.int .u64 0,.int .u64 0,.int .u64 0] 100)=X2):=Uq hX2;have HB02:=Uq hb02;have HKB2:=Uq kb2;have HKR2:=Uq kr;have HL:=Uq hL;have HLog:=Uq hlog;have HM0:=Uq hm0;have HOK:=Uq ok;have HE:=Uq hE
 have HNS:Hid ((ndC n (.slice A L c)).toArray.size=30):=Uq (by rw [List.size_toArray,qe ok])
 have HSZ2:Hid ((Tryz.prog.info? 100).map (·.size)=some (ndC n (.slice A L c)).toArray.size):=Uq (by rw [qc,HNS.out])
 have HSZ3:Hid ((ndC qi nilV).toArray.size=(ndC n (.slice A L c)).toArray.size):=Uq (by rw [HNS.out];rfl)
 have HONE:Hid ((ndC n (.slice A L c)).toArray.all (·.oneCell')=true):=Uq (qy rfl)
 have ho:Blk (X2.setRow (bn + 1) (ndC n (.slice A L c)).toArray) (bn + 1) (ndC n (.slice A L c)) 100∧Out w n [] (X2.setRow (bn + 1) (ndC n (.slice A L c)).toArray) (ndV n (.slice A L c)) nilV:=by
  have hbr2:w.heap.size≤bn + 1:=by omega
  have he:=(HE.out.later HB02.out).row (vs:=ndC n (.slice A L c)) hbr2 HKR2.out;rw [HL.out] at he
  refine ⟨HKR2.out.row _,A,c,none,0,by rw [HL.out],rfl,by rw [HL.out];exact he,Sent.nil _ _,HOK.out,HB02.out.trans (qk _ _ _ hbr2)⟩
 have HO1:=Uq ho.1;have HO2:=Uq ho.2;have b0:=HKB2.out.cell 0 _ rfl;have b5:=HKB2.out.cell 5 _ rfl;rw [hL];clear hX0 hX2 hb0 hb2 hb02 kb kr kb2 hL hlog hm0 ok hE ho;unfold ndV
 by_cases hq:n.role ≠ 2∨n.id < 0∨7≤n.id
 ·have hp:rf.propose n text=(n,[],0,170):=by unfold rf.propose;rw [if_pos hq]
  have HP:=Uq hp
  have hex:∃ f1 f2 f3:Bool,(n.role != 2)=f1∧decide (n.id < 0)=f2∧decide (7≤n.id)=f3∧(f1 || f2 || f3)=true:=by
   refine ⟨_,_,_,rfl,rfl,rfl,?_⟩
   rcases hq with h | h | h <;> simp [h]
  obtain ⟨f1,f2,f3,h1,h2,h3,hf⟩:=hex;clear hp hq
  cases f1 <;> cases f2 <;> cases f3 <;> (first | (exfalso;revert hf;decide) | skip)
  all_goals
   clear hf
   go_enter Tryz.func46,Tryz.ntmps46
   go_upto_region 1 with fail;rw [HX0.out,HX2.out]
   go_wp2_with (first | (refine wpList_load_row rfl 100 _ rfl bn rfl _ _ _ _ HKB2.out Tryz.underlying100 rfl (by rw [qc,HNS.out]) ?_) | (refine wpList_store_row rfl 100 (.tmp 4) (.tmp 24) rfl (bn + 1) _ rfl rfl _ _ HKR2.out HSZ2.out HSZ3.out HONE.out ?_))
   refine bodyPost_ret (Qr rfl _ _ (bn + 1) _ _ (0,0) _ rfl HO1.out Tryz.underlying100 rfl (by rw [← HSZ2.out])) rfl ?_
   rw [HP.out];exact ⟨_,_,rfl,HO2.out⟩
 ·have h1:(n.role != 2)=false:=by rw [Bool.eq_false_iff,ne_eq,bne_iff_ne];exact λh=>hq (.inl h)
  have h2:decide (n.id < 0)=false:=by simp;omega
  have h3:decide (7≤n.id)=false:=by simp;omega
  have hid:0≤n.id:=by omega
  have hid7:n.id < 7:=by omega
  have HID:=Uq hid;have HID7:=Uq hid7
  by_cases hw:60000 < text.length
  ·have hp:rf.propose n text=(n,[],0,71):=by unfold rf.propose;rw [if_neg hq,if_pos hw]
   have HP:=Uq hp;have hsz:(crcm.mk text).size=text.length:=crcm.mk_size text
   have hd:decide ((60000:Int) < (text.length:Int))=true:=by simp;omega
   clear hp hq hid hid7
   go_enter Tryz.func46,Tryz.ntmps46
   go_upto_region 1 with fail;rw [HX0.out,HX2.out]
   go_wp2_with (first | (refine wpList_load_row rfl 100 _ rfl bn rfl _ _ _ _ HKB2.out Tryz.underlying100 rfl (by rw [qc,HNS.out]) ?_) | (refine wpList_store_row rfl 100 (.tmp 4) (.tmp 29) rfl (bn + 1) _ rfl rfl _ _ HKR2.out HSZ2.out HSZ3.out HONE.out ?_))
   refine bodyPost_ret (Qr rfl _ _ (bn + 1) _ _ (0,0) _ rfl HO1.out Tryz.underlying100 rfl (by rw [← HSZ2.out])) rfl ?_
   rw [HP.out];exact ⟨_,_,rfl,HO2.out⟩
  ·have hp:rf.propose n text=((rf.add n text).1,(rf.add n text).2,n.log.length + 1,0):=by unfold rf.propose;rw [if_neg hq,if_neg hw]
   have HP:=Uq hp;have hsz:(crcm.mk text).size=text.length:=crcm.mk_size text
   have hd:decide ((60000:Int) < (text.length:Int))=false:=by simp;omega
   obtain ⟨Z,s,hZ,hs,hbZ,ks⟩:=qp X2 (stC n (.slice A L c) nilV) 235
   have hx:Sx w.heap.size X2 Z s n (.slice A n.log.length c) (.slice none ([]:List rf.Msg).length 0) []:=by
    have h:=Sx.fresh HB02.out HE.out HOK.out;rw [HL.out,hZ,hs] at h;rw [HL.out];exact h
   have hrs:¬ bn + 1=s:=by have:=HKR2.out.lt;omega
   have HKR:=Uq (HKR2.out.below hbZ);have HBT:=Uq (Zt HOK.out (.slice A L c));have HZ:=Uq hZ;have HSX:=Uq hx
   have HBASE:Hid (w.heap.size≤bn + 1):=Uq (by omega)
   have HXY:=Uq HB02.out;clear hp hq hid hid7 hZ hx ks hbZ
   go_enter Tryz.func46,Tryz.ntmps46
   go_upto_region 1 with fail;rw [HX0.out,HX2.out]
   go_upto_region 6 with (first | (refine wpList_load_row rfl 100 _ rfl bn rfl _ _ _ _ HKB2.out Tryz.underlying100 rfl (by rw [qc,HNS.out]) ?_) | (refine Qz rfl 235 0 (.tmp 30) rfl _ rfl _ HBT.out ?_))
   rw [HZ.out];go_wp2_with fail;refine (xS text HSX.out.st HM0.out HID.out HID7.out (Nat.zero_le _) HLog.out).mono ?_;rintro e w5 ⟨rfl,hst⟩
   have r9:Blk w5 (bn + 1) (ndC qi nilV) 100:=by
    obtain ⟨_,_,_,_,_,hk,_⟩:=hst
    exact hk.blk HKR.out hrs (by decide)
   obtain ⟨A9,c9,B9,d9,h9⟩:=HSX.out.call hst;rw [List.nil_append] at h9;have HTK:Hid True:=Uq trivial;clear hst;obtain ⟨n9,ms9,hT⟩:∃ n9 ms9,rf.add n text=(n9,ms9):=⟨_,_,rfl⟩;rw [hT] at h9;dsimp only at h9;have H9:=Uq h9;have HR9:=Uq r9;have HTT:=Uq hT;clear h9 r9 hT HTK;go_wp2_with fail;obtain ⟨W9,hW9⟩:∃ W9,w5=W9:=⟨_,rfl⟩;have hx9:=H9.out.drew;have hr9:=HR9.out.drew;rw [hW9] at hx9 hr9 ⊢;have hs9:=qe hx9.st.ok (.slice A9 n9.log.length c9);have ho9:=hx9.out hr9 HBASE.out HXY.out;have hS9:W9.drew.rangeAt s 0 (ndC n9 (.slice A9 n9.log.length c9))∧W9.drew.cell? ⟨s,30,none⟩=some (.slice B9 ms9.length d9):=⟨qL hx9.st.blk,hx9.st.cell 30 _ (qI hx9.st.ok _ _)⟩
   have hS8:(W9.drew.setRow (bn + 1) (ndC n9 (.slice A9 n9.log.length c9)).toArray).rangeAt s 0 (ndC n9 (.slice A9 n9.log.length c9))∧(W9.drew.setRow (bn + 1) (ndC n9 (.slice A9 n9.log.length c9)).toArray).cell? ⟨s,30,none⟩=some (.slice B9 ms9.length d9):=by
    have hb:Blk (W9.drew.setRow (bn + 1) (ndC n9 (.slice A9 n9.log.length c9)).toArray) s (stC n9 (.slice A9 n9.log.length c9) (.slice B9 ms9.length d9)) 235:=(qz _ _ _ s (λe=>hrs e.symm)).trans hx9.st.blk
    exact ⟨qL hb,hb.cell 30 _ (qI hx9.st.ok _ _)⟩
   have HSZ:Hid ((Tryz.prog.info? 100).map (·.size)=some (ndC n9 (.slice A9 n9.log.length c9)).length):=Uq (by rw [qc,hs9])
   have HSY2:Hid ((Tryz.prog.info? 100).map (·.size)=some (ndC n9 (.slice A9 n9.log.length c9)).toArray.size):=Uq (by rw [qc,List.size_toArray,hs9])
   have HSY3:Hid ((ndC qi nilV).toArray.size=(ndC n9 (.slice A9 n9.log.length c9)).toArray.size):=Uq (by rw [List.size_toArray,List.size_toArray,hs9];rfl)
   have HONY:Hid ((ndC n9 (.slice A9 n9.log.length c9)).toArray.all (·.oneCell')=true):=Uq (qy rfl)
   have HS2:=Uq hS8;have HBR:=Uq hr9;have HOUT1:=Uq ho9.1;have HOUT2:=Uq ho9.2;clear hx9 hr9 hs9 ho9 hS8 hW9
   refine wp_region_held_drew (S:=(λw'=>w'.rangeAt s 0 (ndC n9 (.slice A9 n9.log.length c9))∧w'.cell? ⟨s,30,none⟩=some (.slice B9 ms9.length d9))) (by kernel_rfl) hS9 (λhHeld=>?_)
   clear hS9
   (refine tk 0 ?_ ?_ ?_;rotate_left;focus (intro w hSw;(try dsimp only at hSw);go_simp;(try with_reducible rfl);done))
   (try simp only [Act.put,Ur,Us,Ut])
   (refine tk 1 ?_ ?_ ?_;rotate_left;focus (intro w hSw;(try dsimp only at hSw);go_simp;(try with_reducible rfl);done))
   (try simp only [Act.put,Ur,Us,Ut])
   (refine tk 2 ?_ ?_ ?_;rotate_left;focus (intro w hSw;(try dsimp only at hSw);go_simp;(try with_reducible rfl);done))
   (try simp only [Act.put,Ur,Us,Ut])
   refine wpAnyH_take (i:=3) (qx rfl) (by kernel_rfl) (by kernel_rfl) (by kernel_rfl) (λ_ _ _ h=>h) (yieldsIf_load_mid (by rfl) _ _ rfl _ _ rfl _ _ (λ_ h=>h.1) Tryz.underlying100 rfl HSZ.out) (by assumption) ?_
   (try simp only [Act.put,Ur,Us,Ut])
   (refine tk 4 ?_ ?_ ?_;rotate_left;focus (intro w hSw;(try dsimp only at hSw);go_simp;(try with_reducible rfl);done))
   (try simp only [Act.put,Ur,Us,Ut])
   (refine tk 5 ?_ ?_ ?_;rotate_left;focus (intro w hSw;(try dsimp only at hSw);go_simp;(try with_reducible rfl);done))
   (try simp only [Act.put,Ur,Us,Ut])
   (refine tk 6 ?_ ?_ ?_;rotate_left;focus (intro w hSw;(try dsimp only at hSw);go_simp;(try with_reducible rfl);done))
   (try simp only [Act.put,Ur,Us,Ut])
   (refine tk 7 ?_ ?_ ?_;rotate_left;focus (intro w hSw;(try dsimp only at hSw);go_simp;(try with_reducible rfl);done))
   (try simp only [Act.put,Ur,Us,Ut])
   (refine tk 8 ?_ ?_ ?_;rotate_left;focus (intro w hSw;(try dsimp only at hSw);go_simp;(try with_reducible rfl);done))
   (try simp only [Act.put,Ur,Us,Ut])
   refine wpAnyH_ready (rs:=[9]) (by kernel_rfl) (by simp) ?_
   refine AllReadyH.cons (qx rfl) (λK hK=>?_) AllReadyH.nil
   rw [if_pos (by rfl)]
   refine wp_store_row 100 _ _ rfl _ _ rfl rfl _ _ HBR.out HSY2.out HSY3.out HONY.out ?_
   (try simp only [Act.put])
   refine hK.out _ _ HS2.out (λhHeld=>?_)
   clear hK K
   (try simp only [Act.put,Ur,Us,Ut])
   (refine tk 10 ?_ ?_ ?_;rotate_left;focus (intro w hSw;(try dsimp only at hSw);go_simp;(try with_reducible rfl);done))
   (try simp only [Act.put,Ur,Us,Ut])
   (refine tk 11 ?_ ?_ ?_;rotate_left;focus (intro w hSw;(try dsimp only at hSw);go_simp;(try with_reducible rfl);done))
   (try simp only [Act.put,Ur,Us,Ut])
   (refine tk 12 ?_ ?_ ?_;rotate_left;focus (intro w hSw;(try dsimp only at hSw);go_simp;(try with_reducible rfl);done))
   (try simp only [Act.put,Ur,Us,Ut])
   refine wpAnyH_done (by kernel_rfl) ?_ _
   go_wp2_with fail
   refine bodyPost_ret (Qr rfl _ _ (bn + 1) _ _ (0,0) _ rfl HOUT1.out Tryz.underlying100 rfl (by rw [← HSY2.out])) rfl ?_
   rw [HP.out,HTT.out];exact ⟨_,_,rfl,HOUT2.out⟩
end Go.Proofs.YtppibhieabideaaGreatDoor
namespace Go.Proofs.YtppibhieabideaaGreatDoor
open rl (Ent e0)
structure Good (n:rf.Node):Prop where
 id0:0≤n.id
 id7:n.id < 7
 m0:0≤n.many
 i0:0≤n.idle
 i1:n.idle≤100
theorem Xr (n:rf.Node):(rf.stand n).1=(rf.voted (rf.stood n) n.id).1:=by
 unfold rf.stand
 split <;> rfl
open rl (Ent e0)
def Small (ms:List rf.Msg):Prop:=∀ m ∈ ms,m.ents.length≤10000
theorem Small.nil:Small []:=λ_ h=>by cases h
theorem Small.one {m:rf.Msg} (h:m.ents=[]):Small [m]:=λx hx=>by
 rw [List.mem_singleton.1 hx,h];exact Nat.zero_le _
theorem Small.append {a b:List rf.Msg} (h:Small a) (g:Small b):Small (a ++ b):=λx hx=>by
 rcases List.mem_append.1 hx with h1 | h1
 ·exact h x h1
 ·exact g x h1
theorem zp (n:rf.Node) (j:Nat):(rf.putMsg n j).ents.length≤10000:=by
 unfold rf.putMsg;dsimp only;rw [List.length_take];omega
theorem Yo (n:rf.Node):Small (rf.puts n):=λx hx=>by
 unfold rf.puts at hx;obtain ⟨j,_,rfl⟩:=List.mem_map.1 hx;exact zp n j
theorem YS (n:rf.Node):Small (rf.asks n)∧(rf.asks n).length≤7:=by
 refine ⟨λx hx=>?_,?_⟩
 ·unfold rf.asks at hx;obtain ⟨j,_,rfl⟩:=List.mem_map.1 hx;exact Nat.zero_le _
 ·unfold rf.asks rf.others rf.size;rw [List.length_map]
  have:=List.length_filter_le (λj:Nat=>(j:Int) != n.id) (List.range (min n.many 7).toNat)
  rw [List.length_range] at this;omega
theorem yq (n:rf.Node) (K:Nat) (h:K < 7):Small (rf.voted n (K:Int)).2:=by
 rcases qX n K h with e | e <;> rw [e]
 ·exact Small.nil
 ·exact Yo _
theorem Un (n:rf.Node) (t:List UInt8):(rf.add n t).1.term=n.term:=by
 unfold rf.add;dsimp only;rw [qh]
 rfl
theorem j8 (n:rf.Node) (K:Nat) (h:K < 7):(rf.voted n (K:Int)).1.term=n.term:=by
 rcases qX n K h with e | e <;> rw [e]
 exact Un _ _
theorem KZ {n:rf.Node} (h0:0≤n.id) (h7:n.id < 7):Small (rf.stand n).2∧(rf.stand n).2.length≤14∧(rf.stand n).1.term≤n.term + 1:=by
 obtain ⟨K,hK⟩:∃ K:Nat,n.id=(K:Int):=⟨n.id.toNat,by omega⟩
 have hK7:K < 7:=by omega
 have v1:=yq (rf.stood n) K hK7;have v2:=ZU (rf.stood n) K hK7
 have v3:(rf.stand n).1.term≤n.term + 1:=by
  rw [Xr,hK,j8 _ K hK7];exact Nat.mod_le _ _
 refine ⟨?_,?_,v3⟩
 ·unfold rf.stand;rw [hK]
  split
  ·exact v1
  ·exact v1.append (YS _).1
 ·unfold rf.stand;rw [hK]
  split
  ·omega
  ·rw [List.length_append];have:=(YS (rf.voted (rf.stood n) (K:Int)).1).2;omega
theorem Jj {n:rf.Node} (h0:0≤n.id) (h7:n.id < 7):Small (rf.tick n).2∧(rf.tick n).2.length≤14∧(rf.tick n).1.term≤n.term + 1:=by
 unfold rf.tick
 split
 ·split
  ·exact ⟨Yo _,by have:=Yp { n with idle:=0 };dsimp only;omega,Nat.le_succ _⟩
  ·exact ⟨Small.nil,Nat.zero_le _,Nat.le_succ _⟩
 ·split
  ·exact KZ (n:={ n with idle:=n.idle + 1 }) h0 h7
  ·exact ⟨Small.nil,Nat.zero_le _,Nat.le_succ _⟩
theorem vg (n:rf.Node) (m:rf.Msg):(rf.fresh n m).log=n.log:=by
 unfold rf.fresh
 split
 ·unfold rf.back
  split <;> rfl
 ·rfl
theorem JK (ls l:List Ent) (p t:Nat):(rl.match_ ls p t l).1.length≤ls.length + l.length:=by
 unfold rl.match_
 split
 ·dsimp only
  split
  ·rw [List.length_append,List.length_take,List.length_drop];omega
  ·omega
 ·dsimp only;omega
theorem Xn (n:rf.Node) (m:rf.Msg):(rf.taken n m).log=n.log:=by
 unfold rf.taken rf.back
 split <;> rfl
theorem Ys {x:rf.Msg}:[x].length≤14:=by simp
theorem XE (n:rf.Node) (m:rf.Msg):Small (rf.put n m).2∧(rf.put n m).2.length≤14∧(rf.put n m).1.log.length≤n.log.length + m.ents.length:=by
 have hl:=JK (rf.taken n m).log m.ents m.index m.at_;have ht:=Xn n m;unfold rf.put
 split
 ·exact ⟨Small.one rfl,Ys,Nat.le_add_right _ _⟩
 ·split
  ·rename_i l at_ e
   rw [e] at hl;rw [ht] at hl;exact ⟨Small.one rfl,Ys,hl⟩
  ·exact ⟨Small.one rfl,Ys,by dsimp only;rw [ht];omega⟩
theorem Jb (n:rf.Node) (m:rf.Msg) (h0:0≤m.frm) (h7:m.frm < 7):Small (rf.vote n m).2∧(rf.vote n m).2.length≤14∧(rf.vote n m).1.log.length≤n.log.length + 1:=by
 obtain ⟨K,hK⟩:∃ K:Nat,m.frm=(K:Int):=⟨m.frm.toNat,by omega⟩
 unfold rf.vote;rw [hK]
 split
 ·exact ⟨yq n K (by omega),by have:=ZU n K (by omega);omega,Y7 n K (by omega)⟩
 ·exact ⟨Small.nil,Nat.zero_le _,Nat.le_succ _⟩
theorem jr (n:rf.Node) (m:rf.Msg):Small (rf.heard n m).2∧(rf.heard n m).2.length≤14∧(rf.heard n m).1.log=n.log:=by
 unfold rf.heard
 split
 ·split
  ·split
   ·refine ⟨λx hx=>?_,Ys,by dsimp only;rw [zV];rfl⟩
    rw [List.mem_singleton.1 hx];exact zp _ _
   ·exact ⟨Small.nil,Nat.zero_le _,by dsimp only;rw [zV];rfl⟩
  ·refine ⟨λx hx=>?_,Ys,rfl⟩
   rw [List.mem_singleton.1 hx];exact zp _ _
 ·exact ⟨Small.nil,Nat.zero_le _,rfl⟩
theorem vT (n:rf.Node) (m:rf.Msg):Small (rf.ask n m).2∧(rf.ask n m).2.length≤14∧(rf.ask n m).1.log=n.log:=by
 unfold rf.ask
 split
 ·exact ⟨Small.one rfl,Ys,rfl⟩
 ·exact ⟨Small.one rfl,Ys,rfl⟩
theorem ky {n:rf.Node} {m:rf.Msg} (h:rf.meant n m=true):0≤m.frm∧m.frm < 7:=by
 unfold rf.meant at h;simp only [Bool.and_eq_true,decide_eq_true_eq] at h;omega
theorem Jr (n:rf.Node) (m:rf.Msg):Small (rf.step n m).2∧(rf.step n m).2.length≤14∧(rf.step n m).1.log.length≤n.log.length + m.ents.length + 1:=by
 have hf:=vg n m;unfold rf.step
 split
 ·rename_i hm
  obtain ⟨f0,f7⟩:=ky hm
  split
  ·obtain ⟨a,b,c⟩:=vT (rf.fresh n m) m
   exact ⟨a,b,by rw [c,hf];omega⟩
  ·split
   ·obtain ⟨a,b,c⟩:=Jb (rf.fresh n m) m f0 f7;rw [hf] at c
    exact ⟨a,b,by omega⟩
   ·split
    ·obtain ⟨a,b,c⟩:=XE (rf.fresh n m) m;rw [hf] at c
     exact ⟨a,b,by omega⟩
    ·obtain ⟨a,b,c⟩:=jr (rf.fresh n m) m
     exact ⟨a,b,by rw [c,hf];omega⟩
 ·exact ⟨Small.nil,Nat.zero_le _,by dsimp only;omega⟩
end Go.Proofs.YtppibhieabideaaGreatDoor
