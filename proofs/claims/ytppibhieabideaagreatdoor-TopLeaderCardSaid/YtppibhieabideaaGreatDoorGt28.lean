/- A part of the walk of the program, and of its plain law. -/
import Derived.Test.YtppibhieabideaaGreatDoorGt27
import Derived.Laws.StructEq
import Derived.ChangeSlices
namespace Go.Proofs.YtppibhieabideaaGreatDoor
open Go Go.RowKit
set_option maxRecDepth 100000
abbrev Byt (w:World) (B:Nat) (v:Value) (l:List UInt8):Prop:=w.ownsRow B 5 1 v l.length (l.map qu)
theorem kO (l:List UInt8):∀ u ∈ l.map qu,u.oneCell'=true:=by
 intro u hu;obtain ⟨b,_,rfl⟩:=List.mem_map.1 hu
 rfl
theorem jm (n:Nat):ce.le8 n=rl.le8 n:=rfl
theorem QH {w:World} {B:Nat} {v:Value} {l:List UInt8} {n k m m':Nat} {x:Value} (h:w.ownsRow B 5 1 v m (l.map qu ++ (le8V n k ++ [x]))) (hm:m=m') (hx:le8V n k ++ [x]=le8V n (k + 1)):w.ownsRow B 5 1 v m' (l.map qu ++ le8V n (k + 1)):=by
 rw [hx,hm] at h;exact h
set_option maxHeartbeats 8000000 in
theorem yC (v:Value) (l:List UInt8) (n B:Nat) (w:World) (hv:Byt w B v l) (hl:l.length≤1000000) (hn:n < 18446744073709551616) (hB:B≤w.heap.size) :
  Calls Tryz.prog 160 #[v,.int .u64 (n:Int)] w λe w'=>∃ v',e=.returned v'∧Byt w' B v' (l ++ ce.le8 n)∧Below B w w':=by
 obtain ⟨i0,hi,hz0,hz1,hz2⟩:=info_parts ZO;have HV:=Uq hv;clear hv;obtain ⟨L,hL⟩:∃ L,l.length=L:=⟨_,rfl⟩
 have HV0:Hid (w.ownsRow B 5 1 v (L + 0) (l.map qu ++ le8V n 0)):=Uq (by rw [← hL];simpa [le8V] using HV.out)
 have HL:=Uq hL;rw [hL] at hl;clear hL
 go_enter Tryz.func160,Tryz.ntmps160
 go_wp2
 go_loopw [0,6] (λu i wr=>∃ k:Nat,k≤8∧i=.int .i64 k∧wr.ownsRow B 5 1 u (L + k) (l.map qu ++ le8V n k)∧Below B w wr) (λ_ i _=>8 - (intOf i).toNat)
 case atStart=>exact ⟨0,by omega,rfl,HV0.out,Below.refl _ _⟩
 case round=>
  obtain ⟨k,hk,rfl,hown,hb⟩:=hrel
  have hc:k=0∨k=1∨k=2∨k=3∨k=4∨k=5∨k=6∨k=7∨k=8:=by omega
  have HO:=Uq hown;have HBB:=Uq hb;have hsz:B≤wr.heap.size:=Nat.le_trans hB hb.size;clear hown hb
  rcases hc with rfl | rfl | rfl | rfl | rfl | rfl | rfl | rfl | rfl
  ·go_wp2_with (at_builtin;refine wpList_append_own _ rfl _ _ 23 rfl B 5 i0 _ 1 1 Tryz.underlying23 hi hz0 hz1 hz2 rfl (by decide) _ _ _ rfl (HO.out.alloc _) ⟨wr.heap.size,0,none⟩ 1 1 [.int .u8 ((n:Int) % 256)] rfl rfl ?c1 ?c2 ?c3 ?c4 ?c5 ?_)
   case c1=>exact qw _ _ _
   case c2=>exact qB _ _
   case c3=>unfold maxLen;omega
   case c4=>omega
   case c5=>simp;omega
   intro v' w1 hown' hgrow _
   have HO1:=Uq (QH (l:=l) (B:=B) (n:=n) (k:=0) (m':=L + 1) hown' (by omega) (yg n))
   have HB1:Hid (Below B w w1):=Uq ((HBB.out.alloc hsz _).grown hgrow (by simp;omega) (λj hj=>(HO.out.lt j hj).1))
   clear hown' hgrow;go_wp2;go_roundw
   case rel=>exact ⟨1,by omega,rfl,HO1.out,HB1.out⟩
   case measure=>simp [intOf]
  ·go_wp2_with (at_builtin;refine wpList_append_own _ rfl _ _ 23 rfl B 5 i0 _ 1 1 Tryz.underlying23 hi hz0 hz1 hz2 rfl (by decide) _ _ _ rfl (HO.out.alloc _) ⟨wr.heap.size,0,none⟩ 1 1 [.int .u8 ((n:Int) / 256 % 256)] rfl rfl ?c1 ?c2 ?c3 ?c4 ?c5 ?_)
   case c1=>exact qw _ _ _
   case c2=>exact qB _ _
   case c3=>unfold maxLen;omega
   case c4=>omega
   case c5=>simp;omega
   intro v' w1 hown' hgrow _
   have HO1:=Uq (QH (l:=l) (B:=B) (n:=n) (k:=1) (m':=L + 2) hown' (by omega) (yf n))
   have HB1:Hid (Below B w w1):=Uq ((HBB.out.alloc hsz _).grown hgrow (by simp;omega) (λj hj=>(HO.out.lt j hj).1))
   clear hown' hgrow;go_wp2;go_roundw
   case rel=>exact ⟨2,by omega,rfl,HO1.out,HB1.out⟩
   case measure=>simp [intOf]
  ·go_wp2_with (at_builtin;refine wpList_append_own _ rfl _ _ 23 rfl B 5 i0 _ 1 1 Tryz.underlying23 hi hz0 hz1 hz2 rfl (by decide) _ _ _ rfl (HO.out.alloc _) ⟨wr.heap.size,0,none⟩ 1 1 [.int .u8 ((n:Int) / 65536 % 256)] rfl rfl ?c1 ?c2 ?c3 ?c4 ?c5 ?_)
   case c1=>exact qw _ _ _
   case c2=>exact qB _ _
   case c3=>unfold maxLen;omega
   case c4=>omega
   case c5=>simp;omega
   intro v' w1 hown' hgrow _
   have HO1:=Uq (QH (l:=l) (B:=B) (n:=n) (k:=2) (m':=L + 3) hown' (by omega) (ye n))
   have HB1:Hid (Below B w w1):=Uq ((HBB.out.alloc hsz _).grown hgrow (by simp;omega) (λj hj=>(HO.out.lt j hj).1))
   clear hown' hgrow;go_wp2;go_roundw
   case rel=>exact ⟨3,by omega,rfl,HO1.out,HB1.out⟩
   case measure=>simp [intOf]
  ·go_wp2_with (at_builtin;refine wpList_append_own _ rfl _ _ 23 rfl B 5 i0 _ 1 1 Tryz.underlying23 hi hz0 hz1 hz2 rfl (by decide) _ _ _ rfl (HO.out.alloc _) ⟨wr.heap.size,0,none⟩ 1 1 [.int .u8 ((n:Int) / 16777216 % 256)] rfl rfl ?c1 ?c2 ?c3 ?c4 ?c5 ?_)
   case c1=>exact qw _ _ _
   case c2=>exact qB _ _
   case c3=>unfold maxLen;omega
   case c4=>omega
   case c5=>simp;omega
   intro v' w1 hown' hgrow _
   have HO1:=Uq (QH (l:=l) (B:=B) (n:=n) (k:=3) (m':=L + 4) hown' (by omega) (yd n))
   have HB1:Hid (Below B w w1):=Uq ((HBB.out.alloc hsz _).grown hgrow (by simp;omega) (λj hj=>(HO.out.lt j hj).1))
   clear hown' hgrow;go_wp2;go_roundw
   case rel=>exact ⟨4,by omega,rfl,HO1.out,HB1.out⟩
   case measure=>simp [intOf]
  ·go_wp2_with (at_builtin;refine wpList_append_own _ rfl _ _ 23 rfl B 5 i0 _ 1 1 Tryz.underlying23 hi hz0 hz1 hz2 rfl (by decide) _ _ _ rfl (HO.out.alloc _) ⟨wr.heap.size,0,none⟩ 1 1 [.int .u8 ((n:Int) / 4294967296 % 256)] rfl rfl ?c1 ?c2 ?c3 ?c4 ?c5 ?_)
   case c1=>exact qw _ _ _
   case c2=>exact qB _ _
   case c3=>unfold maxLen;omega
   case c4=>omega
   case c5=>simp;omega
   intro v' w1 hown' hgrow _
   have HO1:=Uq (QH (l:=l) (B:=B) (n:=n) (k:=4) (m':=L + 5) hown' (by omega) (yc n))
   have HB1:Hid (Below B w w1):=Uq ((HBB.out.alloc hsz _).grown hgrow (by simp;omega) (λj hj=>(HO.out.lt j hj).1))
   clear hown' hgrow;go_wp2;go_roundw
   case rel=>exact ⟨5,by omega,rfl,HO1.out,HB1.out⟩
   case measure=>simp [intOf]
  ·go_wp2_with (at_builtin;refine wpList_append_own _ rfl _ _ 23 rfl B 5 i0 _ 1 1 Tryz.underlying23 hi hz0 hz1 hz2 rfl (by decide) _ _ _ rfl (HO.out.alloc _) ⟨wr.heap.size,0,none⟩ 1 1 [.int .u8 ((n:Int) / 1099511627776 % 256)] rfl rfl ?c1 ?c2 ?c3 ?c4 ?c5 ?_)
   case c1=>exact qw _ _ _
   case c2=>exact qB _ _
   case c3=>unfold maxLen;omega
   case c4=>omega
   case c5=>simp;omega
   intro v' w1 hown' hgrow _
   have HO1:=Uq (QH (l:=l) (B:=B) (n:=n) (k:=5) (m':=L + 6) hown' (by omega) (yb n))
   have HB1:Hid (Below B w w1):=Uq ((HBB.out.alloc hsz _).grown hgrow (by simp;omega) (λj hj=>(HO.out.lt j hj).1))
   clear hown' hgrow;go_wp2;go_roundw
   case rel=>exact ⟨6,by omega,rfl,HO1.out,HB1.out⟩
   case measure=>simp [intOf]
  ·go_wp2_with (at_builtin;refine wpList_append_own _ rfl _ _ 23 rfl B 5 i0 _ 1 1 Tryz.underlying23 hi hz0 hz1 hz2 rfl (by decide) _ _ _ rfl (HO.out.alloc _) ⟨wr.heap.size,0,none⟩ 1 1 [.int .u8 ((n:Int) / 281474976710656 % 256)] rfl rfl ?c1 ?c2 ?c3 ?c4 ?c5 ?_)
   case c1=>exact qw _ _ _
   case c2=>exact qB _ _
   case c3=>unfold maxLen;omega
   case c4=>omega
   case c5=>simp;omega
   intro v' w1 hown' hgrow _
   have HO1:=Uq (QH (l:=l) (B:=B) (n:=n) (k:=6) (m':=L + 7) hown' (by omega) (ya n))
   have HB1:Hid (Below B w w1):=Uq ((HBB.out.alloc hsz _).grown hgrow (by simp;omega) (λj hj=>(HO.out.lt j hj).1))
   clear hown' hgrow;go_wp2;go_roundw
   case rel=>exact ⟨7,by omega,rfl,HO1.out,HB1.out⟩
   case measure=>simp [intOf]
  ·go_wp2_with (at_builtin;refine wpList_append_own _ rfl _ _ 23 rfl B 5 i0 _ 1 1 Tryz.underlying23 hi hz0 hz1 hz2 rfl (by decide) _ _ _ rfl (HO.out.alloc _) ⟨wr.heap.size,0,none⟩ 1 1 [.int .u8 ((n:Int) / 72057594037927936)] rfl rfl ?c1 ?c2 ?c3 ?c4 ?c5 ?_)
   case c1=>exact qw _ _ _
   case c2=>exact qB _ _
   case c3=>unfold maxLen;omega
   case c4=>omega
   case c5=>simp;omega
   intro v' w1 hown' hgrow _
   have HO1:=Uq (QH (l:=l) (B:=B) (n:=n) (k:=7) (m':=L + 8) hown' (by omega) (Z9 n hn))
   have HB1:Hid (Below B w w1):=Uq ((HBB.out.alloc hsz _).grown hgrow (by simp;omega) (λj hj=>(HO.out.lt j hj).1))
   clear hown' hgrow;go_wp2;go_roundw
   case rel=>exact ⟨8,by omega,rfl,HO1.out,HB1.out⟩
   case measure=>simp [intOf]
  ·go_wp2;go_ret;refine ⟨_,rfl,?_,HBB.out⟩;have h:=HO.out
   show World.ownsRow _ _ _ _ _ (l ++ ce.le8 n).length _
   rw [List.length_append,List.map_append,HL.out,ce.le8_len,jm]
   have e:le8V n 8=(rl.le8 n).map qu:=by unfold le8V;rw [List.take_of_length_le (by rw [rl.le8_len];omega)];rfl
   rw [e] at h;exact h
end Go.Proofs.YtppibhieabideaaGreatDoor
namespace Go.Proofs.YtppibhieabideaaGreatDoor
open Go Go.RowKit Go.Deep
set_option maxRecDepth 100000
section
variable {B:Nat} {w0 w:World} {c M:Nat} {s:tl.DS}
theorem xk {i:Nat} {x:rf.Node} (h:Run B w0 c M s w) (hi:i < 3) (hx:s.1[i]?=some (true,x)):x.log.length≤M:=by
 obtain ⟨C,h,hs⟩:=h
 have hi':i < C.n:=by rw [h.cn];exact hi
 obtain ⟨y,g1,g2,_⟩:=hs.p i hi';rw [hx] at g1
 injection g1 with g1
 injection g1 with hu e
 subst e;have hu:(C.p i).up=true:=hu.symm;have k:=h.lim.up i hi' hu;rw [g2 hu];exact k.len
theorem Run.bel (h:Run B w0 c M s w):Below w0.heap.size w0 w:=by
 obtain ⟨C,⟨_,_,_,_,R,k,F,wv,h1⟩,_⟩:=h;exact h1.bel
theorem bd_of {m:Nat} (h:m≤3000):tl.Bd 1000000 m:=⟨by omega,by omega⟩
theorem ux (pre:List rl.Ent) (t:List UInt8):(tl.hist pre t).length=pre.length + 1:=by unfold tl.hist;simp
theorem XY (pre:List rl.Ent) (t:List UInt8):(tl.hist pre t).getD pre.length rl.e0=(rl.lastTerm pre,t):=by unfold tl.hist;simp
end
def stN:Nat→tl.DS→tl.DS
 | 0,s=>s
 | r + 1,s=>tl.startS r (stN r s)
theorem kh (s:tl.DS):stN 3 s=tl.startsS s:=rfl
theorem K0 (s:tl.DS):stN 0 s=s:=rfl
theorem vm (d:Nat) (s:tl.DS):tl.fallS (some (d,true)) s=stN 3 (tl.roundsS 45 (tl.crashS d s)):=by rw [kh];unfold tl.fallS;rfl
theorem uL (d:Nat) (s:tl.DS):tl.fallS (some (d,false)) s=stN 3 (tl.crashS d s):=by rw [kh];unfold tl.fallS;rfl
theorem kI:∀ d,d < 3→∀ b:Bool,(some (d,b):tl.Fall) ∈ tl.falls:=by decide
theorem below_al' (w:World) (o:Obj):Below w.heap.size w (w.alloc o):=(Below.refl _ w).alloc (Nat.le_refl _) o
def xT (w:World) (v:Value) (l:List UInt8):Prop:=∃ A c,v=.slice A l.length c∧∀ k,k < l.length→∃ ad,A=some ad∧w.cell? (ad.add k)=some (qu (l.getD k 0))
structure LeadAt (w w1:World) (cc n k:Nat) (wr:World) (sv:Value) (s:tl.DS) (sure:List rl.Ent) (M:Nat):Prop where
 run:Run 1000000 w1 cc M s wr
 stage:tl.Stage k s sure
 row:wr.ownsRow w.heap.size 36 2 sv sure.length (qg sure)
 len:sure.length≤5000
 m:M≤280 * k
set_option maxHeartbeats 8000000 in
theorem top_leader (SH:∀ w,TabAt w→Calls Tryz.prog 8 #[] w λe w'=>e=.returned (.bool true)∧Below w.heap.size w w')
  (v cv:Value) (texts:List (List UInt8)) (cr:List UInt8) (w:World) (hv:Texts w v texts) (hc:xT w cv cr) (hcl:cr.length≤maxLen) (ht:TabAt w) :
  Calls Tryz.prog 3 #[v,cv] w λe w'=>e=.returned (.bool true)∧Below w.heap.size w w':=by
 obtain ⟨hv1,hvl,hvs,-⟩:=hv;obtain ⟨A,c,rfl,hcells⟩:=hv1;obtain ⟨A2,c2,rfl,hbytes⟩:=hc;obtain ⟨n,hn⟩:∃ n,texts.length=n:=⟨_,rfl⟩;obtain ⟨m,hm⟩:∃ m,cr.length=m:=⟨_,rfl⟩
 have HT:Hid (∀ k,k < n→∃ ad,A=some ad∧w.cell? (ad.add k)=some (.string (crcm.mk (texts.getD k [])))∧(texts.getD k []).length≤maxLen):=Uq λk hk=>by
  obtain ⟨ad,e,h1⟩:=hcells k (by omega)
  refine ⟨ad,e,h1,?_⟩
  rw [List.getD_eq_getElem?_getD,List.getElem?_eq_getElem (by omega)]
  exact hvs _ (List.getElem_mem _)
 have HBY:=Uq hbytes;rw [hn] at hvl ⊢;rw [hm] at hcl HBY ⊢;have HSH:=Uq SH;have HTA:=Uq ht;unfold maxLen at hvl hcl;clear hcells hbytes hvs hn hm SH ht
 by_cases h10:n≤10
 ·by_cases m10:m≤10
  ·have i10:¬ (10:Int) < (n:Int):=by omega
   have j10:¬ (10:Int) < (m:Int):=by omega
   have HNEW:Hid (∀ w',Below w.heap.size w w'→Calls Tryz.prog 9 #[.int .i64 3,.int .i64 10000000] w' λe w''=>∃ c,e=.returned (.tuple #[cptr c,.int .i64 0])∧Run 1000000 w' c 0 tl.freshS w''):=Uq λw' hb=>run_new (B:=1000000) w' (by decide) (HTA.out.below hb HTA.out.1)
   go_enter Tryz.func3,Tryz.ntmps3
   go_upto_region 8 with (first
    | (go_at_call 8;refine (HSH.out _ HTA.out).mono ?_;rintro e w1 ⟨rfl,hb1⟩;have HB1:=Uq hb1)
    | (go_at_call 9;refine (HNEW.out _ HB1.out).mono ?_;rintro e w2 ⟨cc,rfl,hR⟩;unfold cptr;have HR:=Uq hR;clear hR))
   clear hb1;have hr0:Run 1000000 w1 cc 0 tl.freshS (w2.alloc (.cells #[] 36)):=HR.out.later (below_al' w2 _)
   have ho0:(w2.alloc (.cells #[] 36)).ownsRow w.heap.size 36 2 (.slice (some ⟨w2.heap.size,0,none⟩) 0 0) 0 []:=World.ownsRow_made w2 #[] 0 (by have:=HB1.out.size;have:=HR.out.bel.size;omega) (Nat.zero_le _) (by simp)
   have HST:Hid (∀ k wr sv s sure M,LeadAt w w1 cc n k wr sv s sure M→Below w.heap.size w wr):=Uq λk wr sv s sure M h=>HB1.out.trans (h.run.bel.mono HB1.out.size)
   have HBL:Hid (∀ wr s M,Run 1000000 w1 cc M s wr→Below w.heap.size w wr):=Uq λwr s M h=>HB1.out.trans (h.bel.mono HB1.out.size)
   have H0:=Uq (LeadAt.mk (w:=w) (w1:=w1) (cc:=cc) (n:=n) (k:=0) hr0 (.inl ⟨rfl,rfl,rfl⟩) ho0 (Nat.zero_le _) (Nat.le_refl _));clear hr0 ho0;have HT1:Hid (TabAt w1):=Uq (HTA.out.below HB1.out HTA.out.1)
   have HRD:Hid (∀ M s wr,M + 3≤3000→Run 1000000 w1 cc M s wr→Calls Tryz.prog 10 #[.pointer (some ⟨cc,0,none⟩)] wr λe w'=>e=.returned (.tuple #[])∧Run 1000000 w1 cc (M + 3) (tl.roundS s) w'∧KeepE wr w'):=Uq λM s wr hM h=>Xz h (bd_of hM) HT1.out
   have HLD:Hid (∀ M s wr,Run 1000000 w1 cc M s wr→Calls Tryz.prog 12 #[.pointer (some ⟨cc,0,none⟩)] wr λe w'=>e=.returned (.int .i64 (tl.leadS s 3))∧Run 1000000 w1 cc M s w'∧KeepE wr w'):=Uq λM s wr h=>VS h
   go_loopw [7,8] (λsv i wr=>∃ (k:Nat) (s:tl.DS) (sure:List rl.Ent) (M:Nat),k≤n∧i=.int .i64 k∧LeadAt w w1 cc n k wr sv s sure M) (λ_ i _=>n - (intOf i).toNat)
   case atStart=>exact ⟨0,_,_,0,Nat.zero_le _,rfl,H0.out⟩
   case round=>
    obtain ⟨k,s,sure,M,hk,rfl,hA⟩:=hrel;obtain ⟨A7,c7,hu7⟩:=ql hA.row;subst hu7;have HA:=Uq hA;clear hA
    by_cases hlt:k < n
    ·obtain ⟨ad,rfl,tc0,tlen⟩:=HT.out k hlt;have tc:=cell_later (HST.out _ _ _ _ _ _ HA.out) tc0;obtain ⟨t,htt⟩:∃ t,texts.getD k []=t:=⟨_,rfl⟩;rw [htt] at tc tc0 tlen;obtain ⟨N,hN⟩:∃ N,t.length=N:=⟨_,rfl⟩
     have tsz:(crcm.mk t).size=N:=by rw [crcm.mk_size,hN]
     unfold maxLen at tlen;rw [hN] at tlen;have HTC:=Uq tc0;have HN:=Uq hN;clear htt hN tc0
     by_cases h100:100 < N
     ·go_wp2_with (go_at_call 8;refine (HSH.out _ (HTA.out.below (HST.out _ _ _ _ _ _ HA.out) HTA.out.1)).mono ?_;rintro e w3 ⟨rfl,hb3⟩;have HB3:=Uq hb3;clear hb3)
      go_ret;exact ⟨rfl,(HST.out _ _ _ _ _ _ HA.out).trans (HB3.out.mono (HST.out _ _ _ _ _ _ HA.out).size)⟩
     ·go_upto_region 13 with fail
      go_loopw [9] (λj wx=>∃ r:Nat,r≤45∧j=.int .i64 r∧Run 1000000 w1 cc (M + 3 * r) (tl.roundsS r s) wx∧KeepE wr wx) (λj _=>45 - (intOf j).toNat)
      case atStart=>exact ⟨0,Nat.zero_le _,rfl,HA.out.run,KeepE.refl _⟩
      case round=>
       obtain ⟨r,hr,rfl,hR,hK⟩:=hrel;have hM:M≤280 * k:=HA.out.m
       by_cases hr45:r < 45
       ·have HC:=Uq (HRD.out _ _ _ (by omega) hR)
        have HK:=Uq hK;clear hR hK
        go_wp2_with (go_at_call 10;refine HC.out.mono ?_;rintro e w3 ⟨rfl,hR3,hK3⟩;have HR3:=Uq hR3;have HK3:=Uq hK3;clear hR3 hK3)
        go_roundw
        case rel=>exact ⟨r + 1,by omega,by go_num,by have:=HR3.out;rw [show M + 3 * r + 3=M + 3 * (r + 1) by omega] at this;exact this,HK.out.trans HK3.out⟩
        case measure=>simp [intOf];omega
       ·obtain rfl:r=45:=by omega
        obtain ⟨l,x,hl3,hld,hx,hrole,k',pre,hAt,hpl,rr,hrr⟩:=HA.out.stage.turn (by omega) t (by rw [HN.out];omega)
        obtain ⟨l',y,hl3',hld',hy,hyr,hylog,hycom⟩:=hAt.lead;obtain ⟨q,hq⟩:∃ q,x.log.length=q:=⟨_,rfl⟩
        have hyl:y.log.length=q + 1:=by rw [hylog,ux,hpl,hq]
        have hyg:(y.log.getD q rl.e0).2=t:=by rw [hylog,← hq,← hpl,XY]
        have hycom':y.commit=y.log.length:=by rw [hycom,hylog]
        have hPR:∀ M wr,M + 1≤3000→Run 1000000 w1 cc M (tl.roundsS 45 s) wr→Calls Tryz.prog 11 #[.pointer (some ⟨cc,0,none⟩),.int .i64 (l:Int),.string (crcm.mk t)] wr λe w'=>e=.returned (.tuple #[.int .u64 ((q + 1:Nat):Int),.int .i64 0])∧Run 1000000 w1 cc (M + 1) (tl.propS l t (tl.roundsS 45 s)) w'∧KeepE wr w':=λM wr hM h=>by
         have:=VR t (by rw [HN.out];omega) h (bd_of (by omega)) HT1.out hl3 hx hrole
         rw [hq] at this;exact this
        have hCM:∀ M wr,Run 1000000 w1 cc M (tl.roundS (tl.roundS (tl.propS l t (tl.roundsS 45 s)))) wr→M≤3000→Calls Tryz.prog 13 #[.pointer (some ⟨cc,0,none⟩),.int .i64 (l':Int)] wr λe w'=>∃ g e',e=.returned (.slice (some ⟨g,0,none⟩) (q + 1) e')∧w'.ownsRow wr.heap.size 36 2 (.slice (some ⟨g,0,none⟩) (q + 1) e') (q + 1) (qg y.log)∧Run 1000000 w1 cc M (tl.roundS (tl.roundS (tl.propS l t (tl.roundsS 45 s)))) w'∧KeepE wr w':=λM wr h hM=>by
         have hc:=YX h hl3' hy hycom' (by have:=xk h hl3' hy;omega)
         refine hc.mono ?_;rintro e w' ⟨D,e',rfl,h1,h2,h3⟩;rw [hyl] at h1 ⊢
         rcases h1.2 with ⟨h4,h5⟩ | ⟨g,cap,cur,h4,h5⟩
         ·omega
         ·injection h4 with h6 h7 h8
          subst h6;exact ⟨g,e',rfl,h1,h3,KeepE.of_below h2⟩
        have HPR:=Uq hPR;have HCM:=Uq hCM;have HLL:Hid (tl.leadS (tl.roundsS 45 s) 3=(l:Int)):=Uq hld;have HLL':Hid (tl.leadS (tl.roundS (tl.roundS (tl.propS l t (tl.roundsS 45 s)))) 3=(l':Int)):=Uq hld';have HRR:=Uq hR;have HKK:=Uq hK
        have hql:Hid (q + 1≤3000):=Uq (by have:=xk hR hl3 hx;omega)
        have HYL:=Uq hyl;have HYG:=Uq hyg;have HAT:=Uq hAt;have HHI:=Uq hylog;have HPF:=Uq hrr
        have hMM:M + 3 * 45≤2800:=by omega
        clear hPR hCM hld hld' hR hK hyl hyg hycom hycom' hAt hylog hrr hx hrole hy hyr hpl hq tc
        have HTX:Hid (∀ M s w',Run 1000000 w1 cc M s w'→w'.cell? (ad.add k)=some (.string (crcm.mk t))):=Uq λM s w' h=>cell_later (HBL.out _ _ _ h) HTC.out
        go_upto_region 16 with fail;have hRun:Run 1000000 w1 cc (M + 3 * 45) (tl.roundsS 45 s) wr.drew:=HRR.out.later (Below.drew (Below.refl _ _));have hKe:=HKK.out.trans (KeepE.of_below (Below.drew (Below.refl _ wr)))
        go_region_held3 (λw'=>w'.cell? (ad.add k)=some (.string (crcm.mk t))) (first | exact HTX.out _ _ _ hRun | exact HTX.out _ _ _ HRR.out) (first
         | (go_at_call 12;refine (HLD.out _ _ _ hRun).mono ?_;rw [HLL.out];rintro e w3 ⟨rfl,hRun,hk3⟩)
         | (go_at_call 11;refine (HPR.out _ _ (by omega) hRun).mono ?_;rintro e w4 ⟨rfl,hRun,hk4⟩))
        have hKe:=hKe.trans (hk3.trans hk4);clear hk3 hk4;go_wp2_with fail
        go_upto_region 20 with (first
         | (go_at_call 10;refine (HRD.out _ _ _ (by omega) hRun).mono ?_;rintro e w5 ⟨rfl,hRun,hk5⟩;have hKe:=hKe.trans hk5;clear hk5)
         | (go_at_call 12;refine (HLD.out _ _ _ hRun).mono ?_;rw [HLL'.out];rintro e w7 ⟨rfl,hRun,hk7⟩;have hKe:=hKe.trans hk7;clear hk7)
         | (go_at_call 13;refine (HCM.out _ _ hRun (by omega)).mono ?_;rintro e w8 ⟨g,e',rfl,hown,hRun,hk8⟩;have hKe:=hKe.trans hk8;clear hk8))
        have tc:=HTX.out _ _ _ hRun
        have hcq:w8.cell? ⟨g,q * 2 + 1,none⟩=some (.string (crcm.mk t)):=by
         rw [hown.cellAt (q * 2 + 1) (by omega),(Qx y.log q (by rw [HYL.out];omega)).2,HYG.out]
        have HOW:=Uq hown;have HR8:=Uq hRun;have HK8:=Uq hKe
        have u1:IntKind.u64.wrap ((q:Int) + 1)=(q:Int) + 1:=by have:=hql.out;rw [IntKind.wrap_u64];omega
        have u2:IntKind.u64.wrap ((q:Int) + 1 - 1)=(q:Int):=by have:=hql.out;rw [IntKind.wrap_u64];omega
        have u3:IntKind.u64.wrap (q:Int)=(q:Int):=by have:=hql.out;rw [IntKind.wrap_u64];omega
        have q0:(0:Int)≤(q:Int):=by omega
        have q1:(q:Int) < (q:Int) + 1:=by omega
        clear hown hRun hKe
        go_region_held3 (λw'=>w'.cell? (ad.add k)=some (.string (crcm.mk t))∧w'.cell? ⟨g,q * 2 + 1,none⟩=some (.string (crcm.mk t))) (exact ⟨tc,hcq⟩) (fail)
        obtain ⟨L0,hL0⟩:∃ L0,sure.length=L0:=⟨_,rfl⟩
        have hylg:y.log=sure ++ rr:=by rw [HHI.out];exact HPF.out
        have hL0q:L0≤q + 1:=by rw [← hL0,← HYL.out,hylg,List.length_append];omega
        have HCE:Hid (∀ r,r < L0→∃ g7,A7=some ⟨g7,0,none⟩∧∃ T Z,w8.cell? ⟨g,r * 2,none⟩=some (.int .u64 T)∧w8.cell? ⟨g,r * 2 + 1,none⟩=some (.string Z)∧w8.cell? ⟨g7,r * 2,none⟩=some (.int .u64 T)∧w8.cell? ⟨g7,r * 2 + 1,none⟩=some (.string Z)):=Uq λr hr=>by
         have hrow:=ku HA.out.row HK8.out;rw [hL0] at hrow
         rcases hrow.2 with ⟨_,h0⟩ | ⟨g7,cap,cur,e7,_⟩
         ·omega
         ·injection e7 with e7 _ e8
          subst e7;subst e8
          have hs:=Qx sure r (by omega)
          have hl:=Qx y.log r (by rw [HYL.out];omega)
          have eg:y.log.getD r rl.e0=sure.getD r rl.e0:=by rw [hylg,List.getD_eq_getElem?_getD,List.getD_eq_getElem?_getD,List.getElem?_append_left (by omega)]
          rw [eg] at hl
          exact ⟨g7,rfl,_,_,(HOW.out.cellAt (r * 2) (by omega)).trans hl.1,(HOW.out.cellAt (r * 2 + 1) (by omega)).trans hl.2,(hrow.cellAt (r * 2) (by omega)).trans hs.1,(hrow.cellAt (r * 2 + 1) (by omega)).trans hs.2⟩
        have HL0:=Uq hL0;have HYG2:=Uq hylg
        have p1:¬ (q:Int) + 1 < (L0:Int):=by omega
        rw [hL0]
        have q3:(q:Int) + 1≤3000:=by have:=hql.out;omega
        clear hL0 hylg tc hcq u1 u2 u3;have H8:Hid (Below w8.heap.size w8 w8.drew):=Uq (Below.drew (Below.refl _ _));go_upto_region 25 with fail
        go_loopw [13] (λj wx=>∃ r:Nat,r≤L0∧j=.int .i64 r∧Below w8.heap.size w8 wx) (λj _=>L0 - (intOf j).toNat)
        case atStart=>exact ⟨0,Nat.zero_le _,rfl,H8.out⟩
        case round=>
         obtain ⟨r,hr,rfl,hb⟩:=hrel;have HBX:=Uq hb;clear hb
         by_cases hrl:r < L0
         ·obtain ⟨g7,rfl,T,Z,d0,d1,d2,d3⟩:=HCE.out r hrl;have b0:=cell_later HBX.out d0;have b1:=cell_later HBX.out d1;have b2:=cell_later HBX.out d2;have b3:=cell_later HBX.out d3
          have r0:(0:Int)≤(r:Int):=by omega
          have r1:(r:Int) < (q:Int) + 1:=by omega
          have r2:(r:Int) < (L0:Int):=by omega
          have r3:(r:Int)≤3000:=by omega
          clear d0 d1 d2 d3;go_upto_region 27 with fail
          go_region_held3 (λw'=>w'.cell? ⟨g,r * 2,none⟩=some (.int .u64 T)∧w'.cell? ⟨g,r * 2 + 1,none⟩=some (.string Z)∧w'.cell? ⟨g7,r * 2,none⟩=some (.int .u64 T)∧w'.cell? ⟨g7,r * 2 + 1,none⟩=some (.string Z)) (exact ⟨b0,b1,b2,b3⟩) (fail)
          go_wp2_with fail;go_roundw
          case rel=>exact ⟨r + 1,by omega,by go_num,HBX.out.drew⟩
          case measure=>simp [intOf];omega
         ·obtain rfl:r=L0:=by omega
          have HRX:Hid (Run 1000000 w1 cc (M + 142) (tl.roundS (tl.roundS (tl.propS l t (tl.roundsS 45 s)))) wr):=Uq (HR8.out.later HBX.out);have HROW:Hid (wr.ownsRow w.heap.size 36 2 (.slice (some ⟨g,0,none⟩) (q + 1) e') (q + 1) (qg y.log)):=Uq (qJ (za HOW.out (HBL.out _ _ _ hRun).size) HBX.out)
          have HSG:Hid (∀ v ∈ tl.falls,tl.Stage (k + 1) (tl.fallS v (tl.roundS (tl.roundS (tl.propS l t (tl.roundsS 45 s))))) y.log):=Uq λv hv=>.inr ⟨k',pre,t,v,_,hv,HAT.out,rfl,HHI.out⟩
          obtain ⟨WR0,hWR0⟩:∃ W,W=wr:=⟨_,rfl⟩;subst hWR0;obtain ⟨S,hS⟩:∃ S,tl.roundS (tl.roundS (tl.propS l t (tl.roundsS 45 s)))=S:=⟨_,rfl⟩;rw [hS] at HRX HSG
          have HNX:Hid (∀ wx s M',Run 1000000 w1 cc M' s wx→KeepE WR0 wx→M'≤M + 280→tl.Stage (k + 1) s y.log→LeadAt w w1 cc n (k + 1) wx (.slice (some ⟨g,0,none⟩) (q + 1) e') s y.log M'):=Uq λwx s M' h1 h2 h3 h4=>⟨h1,h4,by rw [HYL.out];exact ku HROW.out h2,by rw [HYL.out];have:=hql.out;omega,by omega⟩
          clear hRun HOW HR8 HAT HHI HPF HYG2 hS
          by_cases hkm:k < m
          ·obtain ⟨ad2,rfl,bc0⟩:=HBY.out k hkm;have bc:=cell_later (HBL.out _ _ _ HRX.out) bc0;unfold qu at bc;obtain ⟨bx,hbx⟩:∃ bx,(cr.getD k 0).toNat=bx:=⟨_,rfl⟩
           have hbx2:bx < 256:=by rw [← hbx];exact UInt8.toNat_lt _
           rw [hbx] at bc;have HBB:=Uq bc0;have HBX2:=Uq hbx;clear hbx bc0;obtain ⟨d,hdd⟩:∃ d,bx % 3=d:=⟨_,rfl⟩
           have hd:d < 3:=by omega
           have hdi:(bx:Int) % 3=(d:Int):=by omega
           have hcr0:=XA (i:=d) (k:Int) HRX.out hd;unfold cptr at hcr0;have HCR:=Uq hcr0;clear hcr0
           have HSTA:Hid (∀ (r:Nat) (s:tl.DS) (M:Nat) (wx:World),r < 3→Run 1000000 w1 cc M s wx→Calls Tryz.prog 15 #[.pointer (some ⟨cc,0,none⟩),.int .i64 (r:Int)] wx λe w'=>∃ z:Int,e=.returned (.int .i64 z)∧Run 1000000 w1 cc M (tl.startS r s) w'∧KeepE wx w'):=Uq λr s M wx h1 h2=>by
            have:=Xy (i:=r) h2 HT1.out h1;unfold cptr at this;exact this
           have HBC:Hid (∀ M s w',Run 1000000 w1 cc M s w'→w'.cell? (ad2.add k)=some (.int .u8 (bx:Int))):=Uq λM s w' h=>by
            have:=cell_later (HBL.out _ _ _ h) HBB.out;unfold qu at this;rw [HBX2.out] at this;exact this
           have HSE:=HSG.out (some (d,true)) (kI d hd true);have HSO:=HSG.out (some (d,false)) (kI d hd false);rw [vm] at HSE;rw [uL] at HSO;obtain ⟨S5,hS5⟩:∃ S5,tl.crashS d S=S5:=⟨_,rfl⟩;obtain ⟨S4,hS4⟩:∃ S4,tl.roundsS 45 S5=S4:=⟨_,rfl⟩;rw [hS5] at HSE HSO HCR;rw [hS4] at HSE;have HSE:=Uq HSE;have HSO:=Uq HSO;have HS4:=Uq hS4;clear hdd hS5 hS4 HSG
           by_cases hev:bx % 2=0
           ·have hei:(bx:Int) % 2=0:=by omega
            go_upto_region 32 with (go_at_call 14;refine HCR.out.mono ?_;rintro e w9 ⟨z9,rfl,hR9,hK9⟩;have HR9:=Uq hR9;have HK9:=Uq hK9;clear hR9 hK9)
            have bc9:=HBC.out _ _ _ HR9.out;go_upto_region 34 with fail;clear hei hev hdi bc9 bc hbx2 hd
            go_loopw [14] (λj wx=>∃ r4:Nat,r4≤45∧j=.int .i64 r4∧Run 1000000 w1 cc (M + 142 + 3 * r4) (tl.roundsS r4 S5) wx∧KeepE WR0 wx) (λj _=>45 - (intOf j).toNat)
            case atStart=>exact ⟨0,Nat.zero_le _,rfl,HR9.out,HK9.out⟩
            case round=>
             obtain ⟨r4,hr4,rfl,hR4,hK4⟩:=hrel
             by_cases hr45':r4 < 45
             ·have HC4:=Uq (HRD.out _ _ _ (by omega) hR4)
              have HK4:=Uq hK4
              have e1:(r4:Int) < 45:=by omega
              clear hR4 hK4 hr45' hr4
              go_wp2_with (go_at_call 10;refine HC4.out.mono ?_;rintro e w10 ⟨rfl,hR10,hK10⟩;have HR10:=Uq hR10;have HK10:=Uq hK10;clear hR10 hK10)
              go_roundw
              case rel=>exact ⟨r4 + 1,by omega,by go_num,by have:=HR10.out;rw [show M + 142 + 3 * r4 + 3=M + 142 + 3 * (r4 + 1) by omega] at this;exact this,HK4.out.trans HK10.out⟩
              case measure=>simp [intOf];omega
             ·obtain rfl:r4=45:=by omega
              rw [HS4.out] at hR4;have HZ:=Uq (And.intro hR4 hK4);clear hR4 hK4 hr45' hr4;go_upto_region 38 with fail
              go_loopw [15] (λj wx=>∃ r:Nat,r≤3∧j=.int .i64 r∧Run 1000000 w1 cc (M + 142 + 3 * 45) (stN r S4) wx∧KeepE WR0 wx) (λj _=>3 - (intOf j).toNat)
              case atStart=>exact ⟨0,Nat.zero_le _,rfl,by rw [K0];exact HZ.out.1,HZ.out.2⟩
              case round=>
               obtain ⟨r5,hr5,rfl,hR5,hK5⟩:=hrel;have HR5:=Uq hR5;have HK5:=Uq hK5
               by_cases hr3:r5 < 3
               ·have HS5:=Uq (HSTA.out _ _ _ _ hr3 hR5)
                have e1:(r5:Int) < 3:=by omega
                clear hR5 hK5 hr3 hr5
                go_wp2_with (go_at_call 15;refine HS5.out.mono ?_;rintro e w10 ⟨z,rfl,hR6,hK6⟩;have HR6:=Uq hR6;have HK6:=Uq hK6;clear hR6 hK6)
                go_roundw
                case rel=>first
                 | exact ⟨r5 + 1,by omega,by go_num,HR6.out,HK5.out.trans HK6.out⟩
                 | ((repeat apply Exists.intro);exact ⟨⟨r5 + 1,by omega,by go_num,HR6.out,HK5.out.trans HK6.out⟩,rfl⟩)
                 | exact ⟨_,⟨r5 + 1,by omega,by go_num,HR6.out,HK5.out.trans HK6.out⟩,rfl⟩
                case measure=>simp [intOf];omega
               ·obtain rfl:r5=3:=by omega
                clear hR5 hK5 hr3 hr5;go_wp2_with fail;go_roundw
                case rel=>exact ⟨k + 1,_,y.log,M + 142 + 3 * 45,by omega,by go_num,HNX.out _ _ _ HR5.out HK5.out (by omega) HSE.out⟩
                case measure=>simp [intOf];omega
           ·have hei:(bx:Int) % 2=1:=by omega
            go_upto_region 32 with (go_at_call 14;refine HCR.out.mono ?_;rintro e w9 ⟨z9,rfl,hR9,hK9⟩;have HR9:=Uq hR9;have HK9:=Uq hK9;have HZ:=Uq (And.intro hR9 hK9);clear hR9 hK9)
            have bc9:=HBC.out _ _ _ HR9.out;go_upto_region 38 with fail;clear hei hev hdi bc9 bc hbx2 hd
            go_loopw [15] (λj wx=>∃ r:Nat,r≤3∧j=.int .i64 r∧Run 1000000 w1 cc (M + 142) (stN r S5) wx∧KeepE WR0 wx) (λj _=>3 - (intOf j).toNat)
            case atStart=>exact ⟨0,Nat.zero_le _,rfl,by rw [K0];exact HZ.out.1,HZ.out.2⟩
            case round=>
             obtain ⟨r5,hr5,rfl,hR5,hK5⟩:=hrel;have HR5:=Uq hR5;have HK5:=Uq hK5
             by_cases hr3:r5 < 3
             ·have HS5:=Uq (HSTA.out _ _ _ _ hr3 hR5)
              have e1:(r5:Int) < 3:=by omega
              clear hR5 hK5 hr3 hr5
              go_wp2_with (go_at_call 15;refine HS5.out.mono ?_;rintro e w10 ⟨z,rfl,hR6,hK6⟩;have HR6:=Uq hR6;have HK6:=Uq hK6;clear hR6 hK6)
              go_roundw
              case rel=>exact ⟨r5 + 1,by omega,by go_num,HR6.out,HK5.out.trans HK6.out⟩
              case measure=>simp [intOf];omega
             ·obtain rfl:r5=3:=by omega
              clear hR5 hK5 hr3 hr5;go_wp2_with fail;go_roundw
              case rel=>exact ⟨k + 1,_,y.log,M + 142,by omega,by go_num,HNX.out _ _ _ HR5.out HK5.out (by omega) HSO.out⟩
              case measure=>simp [intOf];omega
          ·go_wp2_with fail;go_roundw
           case rel=>exact ⟨k + 1,S,y.log,M + 142,by omega,by go_num,HNX.out _ _ _ HRX.out (KeepE.refl _) (by omega) (HSG.out none (by decide))⟩
           case measure=>simp [intOf];omega
    ·obtain rfl:k=n:=by omega
     go_wp2_with fail;go_ret;exact ⟨rfl,HST.out _ _ _ _ _ _ HA.out⟩
  ·have i10:¬ (10:Int) < (n:Int):=by omega
   have j10:(10:Int) < (m:Int):=by omega
   go_enter Tryz.func3,Tryz.ntmps3
   go_wp2_with (go_at_call 8;refine (HSH.out _ HTA.out).mono ?_;rintro e w1 ⟨rfl,hb1⟩;have HB1:=Uq hb1;clear hb1)
   go_ret;exact ⟨rfl,HB1.out⟩
 ·have i10:(10:Int) < (n:Int):=by omega
  go_enter Tryz.func3,Tryz.ntmps3
  go_wp2_with (go_at_call 8;refine (HSH.out _ HTA.out).mono ?_;rintro e w1 ⟨rfl,hb1⟩;have HB1:=Uq hb1;clear hb1)
  go_ret;exact ⟨rfl,HB1.out⟩
end Go.Proofs.YtppibhieabideaaGreatDoor
namespace Go.Proofs.YtppibhieabideaaGreatDoor
open Go Go.RowKit Go.ChangeShapes
set_option maxRecDepth 100000
theorem bytes_of_arg {H:Type} {enc:TypeId × Value→H} {w:World} {r:Reach} {b0 base:Nat} {held:Bool} {v:Value} {d:DataW H} {ps:List MemPlace}
  (hv:Value.okWide Tryz.prog w r b0 23 v) (h:DataW.Trod enc Tryz.prog w base (λ_=>true) held 23 v d ps):∃ l,xT w v l∧l.length≤maxLen:=by
 obtain ⟨a,len,cap,rfl⟩:=Go.WideShapes.okWide_slice Tryz.underlying23 hv;obtain ⟨fuel,hf⟩:=h
 rcases open_ints Tryz.underlying23 Tryz.underlying5 (by kernel_rfl) hf with ⟨hcs,_⟩ | ⟨a',len',cap',zs,hcs,_,hl,hm,hz,_,hcell,hws⟩
 ·obtain ⟨rfl,rfl,rfl⟩:a=none∧len=0∧cap=0:=by simpa [Value.cells] using hcs
  exact ⟨[],⟨none,0,rfl,λk hk=>by simp at hk⟩,Nat.zero_le _⟩
 ·obtain ⟨rfl,rfl,rfl⟩:a=some a'∧len=len'∧cap=cap':=by simpa [Value.cells] using hcs
  simp only [if_true] at hz
  have hlen:((zs.take len).map λz=>UInt8.ofNat z.toNat).length=len:=by rw [List.length_map,List.length_take];omega
  refine ⟨(zs.take len).map λz=>UInt8.ofNat z.toNat,⟨some a',cap,by rw [hlen],λk hkl=>⟨a',rfl,?_⟩⟩,by rw [hlen];omega⟩
  rw [hlen] at hkl
  have h1:=hcell k (by omega)
  have hk:zs[k]?=some (zs.getD k 0):=by rw [List.getD_eq_getElem?_getD,List.getElem?_eq_getElem (by omega)];rfl
  have hb:=bounds_u8 (hws (zs.getD k 0) (List.mem_of_getElem? hk))
  have e2:((zs.take len).map λz=>UInt8.ofNat z.toNat).getD k 0=UInt8.ofNat (zs.getD k 0).toNat:=by
   rw [List.getD_eq_getElem?_getD,List.getElem?_map,List.getElem?_take_of_lt hkl,hk];rfl
  rw [h1,e2];unfold qu;rw [UInt8.toNat_ofNat']
  congr 2;omega
end Go.Proofs.YtppibhieabideaaGreatDoor
namespace Go.Proofs.YtppibhieabideaaGreatDoor
open Go Go.RowKit
variable {F:Fence} {n:Nat} {P:Program}
def Once (F:Fence) (n:Nat) (P:Program) (g:Nat) (lb args:Array Value) (Kp:World→World→Prop) (T:World→World→World→Prop) (w:World):Prop:=
 ∀ (l:Nat) (R:World→Prop) (W:World),Below w.heap.size w W →
  (∀ W1,Below W.heap.size W W1→YieldAt F (n - 1) P l args W1 λe W'=>e=.returned (.bool true)∧Kp W1 W'∧KeepsFrom W.heap.size W1 W'∧R W') →
  CallsIn F n P g (#[.func (.yield l) #[] #[]] ++ lb) W λe W'=>(∃ v,e=.returned v)∧∃ W1,R W1∧T W W1 W'
theorem zM {B B':Nat} {W W':World} (h:KeepsFrom B W W') (hB:B≤B'):KeepsFrom B' W W':=⟨h.size,λk o hk hl ho=>h.same k o (Nat.le_trans hB hk) hl ho⟩
theorem Zf {B:Nat} (W:World) {l:Nat} (o:Obj) (hl:l < B):KeepsFrom B W (W.putObj l o):=
 ⟨by simp [World.putObj],λk o' hk he _=>(World.putObj_heap_other (by omega)).trans he⟩
theorem QK {g:Operand} {ps:Array Tmp} {assign body:Code} {Q:Exit→Act→World→Prop} {a:Act} {w:World}
  (hro:F.round=none) (h1:1≤n) {gf:Nat} {lb:Array Value} (hg:a.eval g=.func (.func gf) #[] lb) (hFg:F.fn gf) (eg:∀ args w,(callFunc gf args).run P w=.ok (.enter gf args) w)
  {args:Array Value} {Kp:World→World→Prop} {T:World→World→World→Prop} {w0:World} (hseq:Once F (n - 1) P gf lb args Kp T w0)
  (hKt:∀ {A B C:World},Kp A B→Kp B C→Kp A C) (hKb:∀ (W:World) (l:Nat) (o o':Obj),w.heap.size≤l→W.heap[l]?=some o→o.isCells=false→o.isWalk=false→Kp W (W.putObj l o')) (hb0:Below w0.heap.size w0 w) (hps:args.size=ps.size)
  (I I2:World→Prop) (hI:OwnFrom w.heap.size (λ(_:Unit) W=>I W)) (hI2:OwnFrom w.heap.size (λ(_:Unit) W=>I2 W)) (hT:∀ W0 W W',Below w.heap.size w W0→I W→T W0 W W'→I2 W'∧∀ k o,w.heap.size≤k→k < W0.heap.size→W.heap[k]?=some o→o.isCells=false→W'.heap[k]?=some o) (Ax:Act→World→Prop) (hAx:∀ a',OwnFrom w.heap.size (λ(_:Unit) W=>Ax a' W))
  (hassign:∀ (l:Nat) (W:World) (K:Act→World→Prop),Below w.heap.size w W→(∀ a' W',KeepsFrom w.heap.size W W'→Kp W W'→Below w.heap.size w W'→Ax a' W'→K a' W') →
   assign.wpIn (F.inRound l) (n - 1 - 1) P (Exit.then K (λ_ _ _=>False)) { tmps:=(ps.zip args).foldl (λt (p,v)=>t.setIfInBounds p v) a.tmps,defers:=[] } W)
  (hbody:∀ (l:Nat) (a':Act) (W:World),w.heap.size≤l→(∃ r,W.heap[l]?=some (.loop r))→Below w.heap.size w W→Ax a' W→body.wpIn (F.inRound l) (n - 1 - 1) P (λe _ W'=>e=.normal∧KeepsFrom w.heap.size W W'∧Kp W W'∧I W') a' W)
  (hdone:∀ (D:Nat) (W:World),w.heap.size≤D→I2 W→W.heap[D]?=some (.deferred (some []))→Q .normal { a with defers:={ target:=.collected D,args:=#[] } :: a.defers } W) :
  (Code.rangeFunc g ps assign body).wpIn F n P Q a w:=by
 refine wpIn_rangeFunc ?_;intro fn hfn;rw [hro]
 obtain ⟨rec,hrec⟩:∃ rec:LoopState→Option Code→Loop,rec=λst pe=>{ state:=st,pending:=pe,fn,tmps:=a.tmps,params:=ps,assign,body,defers:=w.heap.size }:=⟨_,rfl⟩
 obtain ⟨W1,hW1⟩:∃ W1,(w.alloc (.deferred (some []))).alloc (.loop (rec .ready none))=W1:=⟨_,rfl⟩
 have hL1:W1.heap[w.heap.size + 1]?=some (.loop (rec .ready none)):=by
  rw [← hW1];have:=World.alloc_heap_new (w.alloc (.deferred (some []))) (.loop (rec .ready none));rwa [World.size_alloc] at this
 have hK1:W1.heap[w.heap.size]?=some (.deferred (some [])):=by
  rw [← hW1];exact (Below.heap_alloc _ _ _ (by simp)).trans (World.alloc_heap_new w _)
 have hbw:Below w.heap.size w W1:=by
  rw [← hW1];exact ((Below.refl _ w).alloc (Nat.le_refl _) _).alloc (by simp) _
 have hsz1:W1.heap.size=w.heap.size + 1 + 1:=by rw [← hW1];simp
 have hb1:Below w0.heap.size w0 W1:=hb0.trans (hbw.mono hb0.size)
 refine ⟨w.heap.size + 1,[{ target:=.collected w.heap.size,args:=#[] }],W1,{ target:=.fn (.func gf) lb,args:=#[.func (.yield (w.heap.size + 1)) #[] #[]] },W1,gf,
  #[.func (.yield (w.heap.size + 1)) #[] #[]] ++ lb,W1,?_,?_,?_,?_,λ_=>h1,?_⟩
 ·rw [← hW1,hrec];exact run_enterLoop_outer _ _ _ _ _
 ·simp only [resolve,hg]
  simp [go_sem]
 ·intro f' hf';simp [Target.leads] at hf';subst hf';exact hFg
 ·simp [invoke,go_sem,eg]
 ·refine (hseq (w.heap.size + 1) (λW=>I W∧W.heap[w.heap.size + 1]?=some (.loop (rec .ready none))∧W.heap[w.heap.size]?=some (.deferred (some []))) W1 hb1 ?_).mono ?_
  ·intro W hbW
   have hl:W.heap[w.heap.size + 1]?=some (.loop (rec .ready none)):=(hbW.block _ (by omega)).trans hL1
   have hk:W.heap[w.heap.size]?=some (.deferred (some [])):=(hbW.block _ (by omega)).trans hK1
   have hy:=run_yield (P:=P) (args:=args) hl (by rw [hrec];exact hps)
   rw [hrec] at hy
   refine ⟨fn,_,assign,body,hy,roundIn_of_wpIn hfn (hassign _ W _ (hbw.trans (hbW.mono (by omega))) ?_)⟩
   clear hy;intro a' Wa hkfa hkpa hia hax
   replace hl:=hkfa.same _ _ (by omega) hl rfl
   replace hk:=hkfa.same _ _ (Nat.le_refl _) hk rfl
   have hlt:w.heap.size + 1 < Wa.heap.size:=(Array.getElem?_eq_some_iff.1 hl).1;clear hbW
   revert hkpa hkfa
   generalize W=Wb
   intro hkfa hkpa;obtain ⟨W,rfl⟩:∃ W,W=Wa:=⟨_,rfl⟩
   refine ⟨_,run_beginRound hl (by rw [hrec]),?_⟩
   have hl2:(W.putObj (w.heap.size + 1) (.loop { rec .ready none with state:=.busy })).heap[w.heap.size + 1]?=some (.loop { rec .ready none with state:=.busy }):=World.putObj_heap_same hlt
   have hk2:(W.putObj (w.heap.size + 1) (.loop { rec .ready none with state:=.busy })).heap[w.heap.size]?=some (.deferred (some [])):=(World.putObj_heap_other (by omega)).trans hk
   have hw2:Kp W (W.putObj (w.heap.size + 1) (.loop { rec .ready none with state:=.busy })):=hKb _ _ _ _ (by omega) hl rfl rfl
   have hb2:Below w.heap.size w (W.putObj (w.heap.size + 1) (.loop { rec .ready none with state:=.busy })):=hia.trans (belowK_b (w:=w) (Nat.le_refl _) W _ _ _ (by omega) hl rfl rfl)
   refine wpIn_mono (hbody _ a' _ (by omega) ⟨_,hl2⟩ hb2 ((hAx a').putObj (s:=()) _ hax (by omega) hl rfl)) ?_
   rintro e a3 W3 ⟨rfl,hk3,hkp3,hi3⟩
   have hl3:=hk3.same _ _ (by omega) hl2 rfl
   have hr:=run_endRound (P:=P) none hl3;have hl4:(W3.putObj (w.heap.size + 1) (.loop (rec .ready none))).heap[w.heap.size + 1]?=some (.loop (rec .ready none)):=World.putObj_heap_same (Array.getElem?_eq_some_iff.1 hl3).1
   have hk4:(W3.putObj (w.heap.size + 1) (.loop (rec .ready none))).heap[w.heap.size]?=some (.deferred (some [])):=(World.putObj_heap_other (by omega)).trans (hk3.same _ _ (Nat.le_refl _) hk2 rfl)
   have hi4:=hI.putObj (s:=()) (.loop (rec .ready none)) hi3 (by omega) hl3 rfl
   have hkp4:=hKt hkpa (hKt (hKt hw2 hkp3) (hKb _ _ _ (.loop (rec .ready none)) (by omega) hl3 rfl rfl))
   have hkf4:KeepsFrom W1.heap.size Wb (W3.putObj (w.heap.size + 1) (.loop (rec .ready none))):=(((zM hkfa (by omega)).trans (Zf W _ (by omega))).trans (zM hk3 (by omega))).trans (Zf W3 _ (by omega))
   rw [hrec] at hr hl4 hk4 hi4 hkp4 hkf4 ⊢;exact ⟨_,_,hr,rfl,hkp4,hkf4,hi4,hl4,hk4⟩
  ·rintro e W2 ⟨⟨v,rfl⟩,W3,⟨hi,hl,hk⟩,ht⟩;obtain ⟨hi2,hkf⟩:=hT _ _ _ hbw hi ht
   have hl':=hkf _ _ (by omega) (by omega) hl rfl
   have hk':=hkf _ _ (Nat.le_refl _) (by omega) hk rfl
   exact ⟨none,_,by have:=run_endLoop (P:=P) hl' (by rw [hrec];simp);rw [hrec] at this;exact this,hdone _ _ (Nat.le_refl _) (hI2.putObj (s:=()) _ hi2 (by omega) hl' rfl) ((World.putObj_heap_other (by omega)).trans hk')⟩
theorem QF {g:Operand} {ps:Array Tmp} {assign body:Code} {Q:Exit→Act→World→Prop} {a:Act} {w:World}
  (hro:F.round=none) (h1:1≤n) {gf:Nat} {lb:Array Value} (hg:a.eval g=.func (.func gf) #[] lb) (hFg:F.fn gf) (eg:∀ args w,(callFunc gf args).run P w=.ok (.enter gf args) w)
  (hseq:∀ (l:Nat) (W:World),Below w.heap.size w W→CallsIn F (n - 1) P gf (#[.func (.yield l) #[] #[]] ++ lb) W λe W'=>(∃ v,e=.returned v)∧Below W.heap.size W W')
  (hdone:∀ (D:Nat) (W:World),w.heap.size≤D→Below w.heap.size w W→W.heap[D]?=some (.deferred (some []))→Q .normal { a with defers:={ target:=.collected D,args:=#[] } :: a.defers } W) :
  (Code.rangeFunc g ps assign body).wpIn F n P Q a w:=by
 refine wpIn_rangeFunc ?_;intro fn hfn;rw [hro]
 obtain ⟨rec,hrec⟩:∃ rec:LoopState→Option Code→Loop,rec=λst pe=>{ state:=st,pending:=pe,fn,tmps:=a.tmps,params:=ps,assign,body,defers:=w.heap.size }:=⟨_,rfl⟩
 obtain ⟨W1,hW1⟩:∃ W1,(w.alloc (.deferred (some []))).alloc (.loop (rec .ready none))=W1:=⟨_,rfl⟩
 have hL1:W1.heap[w.heap.size + 1]?=some (.loop (rec .ready none)):=by
  rw [← hW1];have:=World.alloc_heap_new (w.alloc (.deferred (some []))) (.loop (rec .ready none));rwa [World.size_alloc] at this
 have hK1:W1.heap[w.heap.size]?=some (.deferred (some [])):=by
  rw [← hW1];exact (Below.heap_alloc _ _ _ (by simp)).trans (World.alloc_heap_new w _)
 have hbw:Below w.heap.size w W1:=by
  rw [← hW1];exact ((Below.refl _ w).alloc (Nat.le_refl _) _).alloc (by simp) _
 have hsz1:W1.heap.size=w.heap.size + 1 + 1:=by rw [← hW1];simp
 refine ⟨w.heap.size + 1,[{ target:=.collected w.heap.size,args:=#[] }],W1,{ target:=.fn (.func gf) lb,args:=#[.func (.yield (w.heap.size + 1)) #[] #[]] },W1,gf,
  #[.func (.yield (w.heap.size + 1)) #[] #[]] ++ lb,W1,?_,?_,?_,?_,λ_=>h1,?_⟩
 ·rw [← hW1,hrec];exact run_enterLoop_outer _ _ _ _ _
 ·simp only [resolve,hg]
  simp [go_sem]
 ·intro f' hf';simp [Target.leads] at hf';subst hf';exact hFg
 ·simp [invoke,go_sem,eg]
 ·refine (hseq (w.heap.size + 1) W1 hbw).mono ?_;rintro e W2 ⟨⟨v,rfl⟩,hb2⟩
  have hl:=(hb2.block (w.heap.size + 1) (by omega)).trans hL1
  have hk:=(hb2.block w.heap.size (by omega)).trans hK1
  exact ⟨none,_,by have:=run_endLoop (P:=P) hl (by rw [hrec];simp);rw [hrec] at this;exact this,hdone _ _ (Nat.le_refl _) ((hbw.trans (hb2.mono (by omega))).trans (belowK_b (w:=w) (Nat.le_refl _) W2 _ _ _ (by omega) hl rfl rfl)) ((World.putObj_heap_other (by omega)).trans hk)⟩
end Go.Proofs.YtppibhieabideaaGreatDoor
