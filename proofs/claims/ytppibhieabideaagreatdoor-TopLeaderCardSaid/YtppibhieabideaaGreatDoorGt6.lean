/- A part of the walk of the program, and of its plain law. -/
import Derived.Test.YtppibhieabideaaGreatDoorGt5
import Derived.RangeFuncBox
import Derived.RangeFuncNested
import Derived.RangeFuncBound
import Derived.RangeFuncCalls
import Derived.RangeFuncLeaves
import Derived.Shelf.RegionOpen
import Derived.OwnWalkIn
import Derived.TacticsInMore
import Derived.LoopNIn
import Derived.LoopIn
import Derived.Maps.AppendAt
import Derived.RegionIn
import Derived.BigRegionIn
namespace Go.Proofs.YtppibhieabideaaGreatDoor
set_option maxHeartbeats 4000000
open Go Go.RowKit
set_option maxRecDepth 100000
namespace wl
def appendOps (n:vd.Name) (s:List UInt8):List Op1:=[λd=>vd.append d n s,λd=>vd.sync d n]
def append (d:vd.Disk) (l:L) (ls:List (List UInt8)):vd.Disk × L × Nat:=change d l ls (l.many + ls.length) (λs d=>run (appendOps l.name s) d)
def reset (d:vd.Disk) (l:L) (ls:List (List UInt8)):vd.Disk × L × Nat:=change d l ls ls.length (λs d=>write d l.name s)
end wl
section
variable {w:World} {p b g gl:Nat} {d:vd.Disk} {l:wl.L}
theorem KN (s:List UInt8) (hl:Vb w gl [dptr g] 171) (hg:Lg w g p l) (hd:Dk w p b d) (hok:vd.Ok d) (hm:l.name.length≤200) (hs:s.length≤1000000000) :
  Calls Tryz.prog 202 #[.string (crcm.mk s),.pointer (some ⟨gl,0,none⟩)] w (λe w'=>e=.returned (.int .i64 ((wl.run (wl.appendOps l.name s) d).2:Nat))∧Dk w' p b (wl.run (wl.appendOps l.name s) d).1∧Apart [p,b] w w'):=by
 have hml:l.name.length≤maxLen:=by unfold maxLen;omega
 have hpl:=hd.blk.lt;have hbl:=hd.map.lt;have hgl:=hg.lt;have hll:=hl.lt;obtain ⟨N,hN⟩:∃ N,w.heap.size=N:=⟨_,rfl⟩;obtain ⟨w1,hw1⟩:∃ w1,w.alloc (.cells #[.string (crcm.mk s)] 9)=w1:=⟨_,rfl⟩
 obtain ⟨xs,hxs⟩:∃ xs,xs=[((204,#[.pointer (some ⟨gl,0,none⟩),.pointer (some ⟨N,0,none⟩)],λd=>vd.append d l.name s):Nat × Array Value × wl.Op1),
  (206,#[.pointer (some ⟨gl,0,none⟩)],λd=>vd.sync d l.name)]:=⟨_,rfl⟩
 obtain ⟨w4,hw4⟩:∃ w4,w1.alloc (.cells (xs.map ZD).toArray 70)=w4:=⟨_,rfl⟩
 have s1:w1.heap.size=N + 1:=by rw [← hw1,← hN];exact Array.size_push _
 have b1:Below N w w1:=by rw [← hw1,← hN];exact (Below.refl _ w).alloc (Nat.le_refl _) _
 have b4:Below (N + 1) w1 w4:=by rw [← hw4];exact (Below.refl _ w1).alloc (by omega) _
 have vs1:Vb w1 N [.string (crcm.mk s)] 9:=by rw [← hw1,← hN];exact Vb.new w _ _
 have vx4:Vb w4 (N + 1) (xs.map ZD) 70:=by have:=Vb.new w1 (xs.map ZD) 70;rw [s1,hw4] at this;exact this
 have vs4:Vb w4 N [.string (crcm.mk s)] 9:=(b4.block _ (by omega)).trans vs1
 have b04:Below N w w4:=b1.trans (b4.mono (by omega))
 have vg4:Lg w4 g p l:=(b04.block _ (by omega)).trans hg
 have vl4:Vb w4 gl [dptr g] 171:=(b04.block _ (by omega)).trans hl
 have hd4:Dk w4 p b d:=⟨(b04.block _ (by omega)).trans hd.blk,by rw [← hN] at b04;exact hd.map.below b04⟩
 have hA:Apart [p,b] w w4:=by rw [← hN] at b04;exact .of_below b04 _
 have hgout:g ∉ [p,b]:=qW hg hd;have hlout:gl ∉ [p,b]:=qT hl hd
 have hstep:∀ x ∈ xs,Step w4 p b x:=by
  intro x hx;rw [hxs] at hx
  rcases List.mem_cons.1 hx with rfl | hx
  ·exact ⟨qm Tryz.func204 (by kernel_rfl) rfl,λd w' h1 h2 h3=>⟨vd.ok_append h1 _ s,wal_a11 (vl4.apart h3 hlout) (vg4.apart h3 hgout) (vs4.apart h3 (by simp;omega)) h2 h1 hml hs⟩⟩
  rcases List.mem_cons.1 hx with rfl | hx
  ·exact ⟨qm Tryz.func206 (by kernel_rfl) rfl,λd w' h1 h2 h3=>⟨vd.ok_sync h1 _,wal_a12 (vl4.apart h3 hlout) (vg4.apart h3 hgout) h2 h1 hml⟩⟩
  cases hx
 have hops:xs.map (·.2.2)=wl.appendOps l.name s:=by rw [hxs];rfl
 have hlen:xs.length=2:=by rw [hxs];rfl
 have hcall:=Y5 (G:=N + 1) xs vx4 (by simp;omega) hstep hd4 hok (by omega)
 rw [hops,hlen] at hcall;rw [hxs] at hw4;simp only [List.map_cons,List.map_nil,ZD] at hw4;clear hops hlen hstep vx4 vl4 vs4 vs1 b4 b1 b04 vg4 hd4 hml hd hg hok hxs hl;unfold dptr at *
 go_enter Tryz.func202,Tryz.ntmps202
 go_wp2_with fail;refine hcall.mono ?_;rintro e w5 ⟨rfl,h1,h2,h3⟩;go_wp2_with fail;go_ret;exact ⟨rfl,h1,hA.trans h2⟩
theorem xX (v:Value) (ls:List (List UInt8)) (hg:Lg w g p l) (hd:Dk w p b d) (hok:vd.Ok d) (hv:Strs w v ls) (hf:(crcm.flat ls).length≤1000000000) (hl:ls.length≤1000000000) (ht:TabAt w) (hm:l.name.length≤200) :
  Calls Tryz.prog 108 #[.pointer (some ⟨g,0,none⟩),v] w (λe w'=>e=.returned (.int .i64 ((wl.reset d l ls).2.2:Nat))∧Dk w' p b (wl.reset d l ls).1∧Lg w' g p (wl.reset d l ls).2.1∧Apart [p,b,g] w w'):=by
 have hc:=yY v ls ls.length (λs d=>wl.write d l.name s) 222 #[.pointer (some ⟨g,0,none⟩)] #[] hg hd hv hf hl ht (qm Tryz.func222 (by kernel_rfl) rfl)
  (λs hs w1 h1 h2 _=>(Y4 s h2 h1 hok hm hs).mono (by rintro e w2 ⟨a,b,c,_⟩;exact ⟨a,b,c⟩))
 rw [show wl.change d l ls ls.length (λs d=>wl.write d l.name s)=wl.reset d l ls from rfl] at hc
 obtain ⟨A,c,rfl,hcells⟩:=hv;clear hcells hg hd hok hf ht
 go_enter Tryz.func108,Tryz.ntmps108
 go_wp2_with fail;refine hc.mono ?_;rintro e w2 ⟨rfl,h1,h2,h3⟩;go_wp2_with fail;go_ret;exact ⟨rfl,h1,h2,h3⟩
theorem j6 (v:Value) (ls:List (List UInt8)) (hg:Lg w g p l) (hd:Dk w p b d) (hok:vd.Ok d) (hv:Strs w v ls) (hf:(crcm.flat ls).length≤1000000000) (hl:ls.length≤1000000000) (ht:TabAt w) (hm:l.name.length≤200) (hmn:l.many≤1000000000) :
  Calls Tryz.prog 97 #[.pointer (some ⟨g,0,none⟩),v] w (λe w'=>e=.returned (.int .i64 ((wl.append d l ls).2.2:Nat))∧Dk w' p b (wl.append d l ls).1∧Lg w' g p (wl.append d l ls).2.1∧Apart [p,b,g] w w'):=by
 obtain ⟨W,hW⟩:∃ W,w.alloc (.cells #[.pointer (some ⟨g,0,none⟩)] 171)=W:=⟨_,rfl⟩
 have hb:Below w.heap.size w W:=by rw [← hW];exact (Below.refl _ w).alloc (Nat.le_refl _) _
 have vl:Vb W w.heap.size [dptr g] 171:=by rw [← hW];exact Vb.new w _ _
 have hpl:=hd.blk.lt;have hbl:=hd.map.lt;have hgW:Lg W g p l:=(hb.block _ hg.lt).trans hg;have hdW:Dk W p b d:=⟨(hb.block _ hpl).trans hd.blk,hd.map.below hb⟩;have hd2:=hdW.drew;have hg2:Lg W.drew g p l:=hgW
 have hc:=yY v ls (l.many + ls.length) (λs d=>wl.run (wl.appendOps l.name s) d) 202 #[] #[.pointer (some ⟨w.heap.size,0,none⟩)] hg2 hd2 (hv.below hb.drew) hf hl (ht.below hb.drew ht.1) (qm Tryz.func202 (by kernel_rfl) rfl)
  (λs hs w1 h1 h2 h3=>KN s ((show Vb W.drew _ _ _ from vl).apart h3 (by simp)) h2 h1 hok hm hs)
 rw [show wl.change d l ls (l.many + ls.length) (λs d=>wl.run (wl.appendOps l.name s) d)=wl.append d l ls from rfl] at hc
 obtain ⟨A,c,rfl,hcells⟩:=hv
 have e1:IntKind.i64.wrap ((l.many:Int) + (ls.length:Int))=((l.many + ls.length:Nat):Int):=by rw [IntKind.wrap_i64];omega
 obtain ⟨M2,hM2⟩:∃ M2,l.many + ls.length=M2:=⟨_,rfl⟩;rw [hM2] at hc e1;have q0:=vl.cell 0 _ rfl;have q2:=hgW.cell 2 _ rfl;have hA:Apart [p,b,g] w W.drew:=.of_below hb.drew _
 have MK:Hid (∀ w',Apart [] W w'→w'.cell? ⟨w.heap.size,0,none⟩=some (.pointer (some ⟨g,0,none⟩))∧w'.cell? ⟨g,2,none⟩=some (.int .i64 (l.many:Int))):=Uq λ_ h=>⟨(vl.apart h (by simp)).cell 0 _ rfl,(hgW.apart h (by simp)).cell 2 _ rfl⟩
 have hX:Apart [] W W.drew:=.drew _ _;clear hcells hg hd hok hf ht vl hgW hdW hd2 hg2 hM2;unfold dptr at *
 go_enter Tryz.func97,Tryz.ntmps97
 go_wp2_with fail;clear MK hX
 go_region_with (first | (go_at_call 201;refine hc.mono ?_;rintro e w2 ⟨rfl,h1,h2,h3⟩))
 all_goals (go_wp2;go_ret;exact ⟨rfl,h1,h2,hA.trans h3⟩)
end
end Go.Proofs.YtppibhieabideaaGreatDoor
namespace Go.Proofs.YtppibhieabideaaGreatDoor.crcm
def pairs:Nat→Nat→List UInt8→List (Nat × List UInt8)
 | 0,_,_=>[]
 | f + 1,k,s=>if (get s).2.2=0 then (k + (get s).2.1,(get s).1) :: pairs f (k + (get s).2.1) (s.drop (get s).2.1) else []
theorem JA:∀ (f g k:Nat) (s:List UInt8),s.length≤f→s.length≤g→pairs f k s=pairs g k s:=by
 intro f
 induction f with
 | zero=>
  intro g k s hf hg
  have:s=[]:=List.eq_nil_of_length_eq_zero (by omega)
  subst this
  cases g with
  | zero=>rfl
  | succ g=>rfl
 | succ f ih=>
  intro g k s hf hg
  cases g with
  | zero=>
   have:s=[]:=List.eq_nil_of_length_eq_zero (by omega)
   subst this
   rfl
  | succ g=>
   unfold pairs
   by_cases h:(get s).2.2=0
   ·obtain ⟨h6,hle,_⟩:=get_ok h
    rw [if_pos h,if_pos h,ih g _ (s.drop (get s).2.1) (by rw [List.length_drop];omega) (by rw [List.length_drop];omega)]
   ·rw [if_neg h,if_neg h]
def pairsFrom (k:Nat) (s:List UInt8):List (Nat × List UInt8):=pairs s.length k s
theorem pairsFrom_step {k:Nat} {s:List UInt8} (h:(get s).2.2=0):pairsFrom k s=(k + (get s).2.1,(get s).1) :: pairsFrom (k + (get s).2.1) (s.drop (get s).2.1):=by
 obtain ⟨h6,hle,_⟩:=get_ok h;unfold pairsFrom
 obtain ⟨n,hn⟩:∃ n,s.length=n + 1:=⟨s.length - 1,by omega⟩
 rw [hn]
 conv=>lhs;unfold pairs
 rw [if_pos h,JA n (s.drop (get s).2.1).length _ _ (by rw [List.length_drop];omega) (Nat.le_refl _)]
theorem pairsFrom_stop {k:Nat} {s:List UInt8} (h:(get s).2.2 ≠ 0):pairsFrom k s=[]:=by
 unfold pairsFrom
 cases s.length with
 | zero=>rfl
 | succ n=>unfold pairs;rw [if_neg h]
def lastEnd (d:Nat) (ps:List (Nat × List UInt8)):Nat:=ps.foldl (λ_ p=>p.1) d
theorem lastEnd_snoc (d:Nat) (ps:List (Nat × List UInt8)) (x:Nat × List UInt8):lastEnd d (ps ++ [x])=x.1:=by simp [lastEnd]
theorem pairs_all:∀ (n:Nat) (k:Nat) (s:List UInt8),s.length≤n→(pairsFrom k s).map (·.2)=(allOf s).1∧lastEnd k (pairsFrom k s)=k + (allOf s).2∧(pairsFrom k s).length≤s.length:=by
 intro n
 induction n with
 | zero=>
  intro k s hs
  have:s=[]:=List.eq_nil_of_length_eq_zero (by omega)
  subst this;exact ⟨rfl,rfl,Nat.le_refl _⟩
 | succ n ih=>
  intro k s hs
  by_cases h:(get s).2.2=0
  ·obtain ⟨h6,hle,_⟩:=get_ok h
   obtain ⟨h1,h2,h3⟩:=ih (k + (get s).2.1) (s.drop (get s).2.1) (by rw [List.length_drop];omega)
   rw [List.length_drop] at h3;rw [pairsFrom_step h,Zv h]
   refine ⟨by rw [List.map_cons,h1],?_,by rw [List.length_cons];omega⟩
   show lastEnd (k + (get s).2.1) _=_
   rw [h2]
   show _=k + ((get s).2.1 + _)
   omega
  ·rw [pairsFrom_stop h,YT h];exact ⟨rfl,rfl,Nat.zero_le _⟩
end Go.Proofs.YtppibhieabideaaGreatDoor.crcm
namespace Go.Proofs.YtppibhieabideaaGreatDoor
set_option maxHeartbeats 4000000
open Go Go.RowKit
set_option maxRecDepth 100000
attribute [local go_sem] Oper.semAt_some
def encP (x:Nat × List UInt8):Array Value:=#[.int .i64 (x.1:Int),.string (crcm.mk x.2)]
def KeepS (n₀ Bs:Nat) (W W':World):Prop:=Below n₀ W W'∧W'.heap[Bs]?=W.heap[Bs]?
theorem AbidesFrom.mono {β:Type} {B B':Nat} {J:β→World→Prop} (h:AbidesFrom B J) (hB:B≤B'):AbidesFrom B' J:=
 λs X Y row hs hg hr=>h s X Y row hs hg (λr e=>⟨Nat.le_trans hB (hr r e).1,(hr r e).2⟩)
set_option maxRecDepth 100000 in
theorem Xk (n:Nat) (hn:1≤n) (l Bs n₀:Nat) (s:ByteArray) (hs:s.size≤10000000) (hn₀:0 < n₀) (J Jx:List (Nat × List UInt8)→World→Prop)
  (W:World) (hJ:AbidesFrom W.heap.size J)
  (hY:∀ pre x W1,J pre W1→pre.length < (crcm.pairsFrom 0 s.data.toList).length→YieldAt Fence.wide (n - 1) Tryz.prog l (encP x) W1 λe W'=>
   (e=.returned (.bool true)∧J (pre ++ [x]) W'∧KeepS n₀ Bs W1 W')∨(e=.returned (.bool false)∧Jx (pre ++ [x]) W'))
  (hBs:W.heap[Bs]?=some (.cells #[.string s] 9 (0,0))) (hsz1:n₀≤W.heap.size) (ht:TabAt W) (h0:J [] W) :
  CallsIn Fence.wide n Tryz.prog 286 #[.func (.yield l) #[] #[],.pointer (some ⟨Bs,0,none⟩)] W λe W'=>(∃ v,e=.returned v) ∧
   ((∃ ys,ys=crcm.pairsFrom 0 s.data.toList∧J ys W')∨(∃ pre,pre <+: crcm.pairsFrom 0 s.data.toList∧Jx pre W')):=by
 refine callsIn_of_wp Tryz.func286 rfl trivial ?_ rfl;simp only [Tryz.ntmps286,List.size_toArray,List.length_cons,List.length_nil,Nat.reduceAdd,Nat.reduceSub,Array.replicate_succ,Array.replicate_zero,List.push_toArray,List.append_toArray,List.nil_append,List.cons_append];have Hl:=Uq (crcm.size_len s)
 gi_wp2
 gi_loopw [3] (λat_ wr=>∃ (k:Nat) (pre:List (Nat × List UInt8)),k≤s.size∧at_=.int .i64 k∧crcm.pairsFrom 0 s.data.toList=pre ++ crcm.pairsFrom k (s.data.toList.drop k)∧J pre wr∧KeepS n₀ Bs W wr)
  (λat_ _=>s.size - (intOf at_).toNat)
 case atStart=>exact ⟨0,[],Nat.zero_le _,rfl,rfl,h0,Below.refl _ _,rfl⟩
 case round=>
  obtain ⟨k,pre,hk,rfl,hall,hJs,hkeep⟩:=hrel;have htr:=ht.below hkeep.1 hn₀;have hsz0:n₀≤wr.heap.size:=Nat.le_trans hsz1 hkeep.1.size;have hbs:wr.heap[Bs]?=some (.cells #[.string s] 9 (0,0)):=hkeep.2.trans hBs;have hcb:=cell_of_one hbs;have HA:=Uq hall;clear hall
  have hsz:(s.extract k s.size).size≤maxLen:=Q6 _ _ _ (by omega)
  have hdl:(s.data.toList.drop k).length=s.size - k:=by rw [List.length_drop,Hl.out]
  have hex:(s.extract k s.size).data.toList=s.data.toList.drop k:=by
   rw [Lib.extract_data,List.take_of_length_le (by omega)]
  obtain ⟨t,m,er,hg⟩:∃ t n er,crcm.get (s.data.toList.drop k)=(t,n,er):=⟨_,_,_,rfl⟩
  by_cases he:er=0
  ·subst he
   have h0:(crcm.get (s.data.toList.drop k)).2.2=0:=by rw [hg]
   have hok:=crcm.get_ok h0;have hst:=crcm.pairsFrom_step (k:=k) h0;rw [hg] at hok hst;simp only [hdl] at hok;have o1:=hok.1;have o2:=hok.2.1;clear hok
   have hg2:crcm.get (s.extract k s.size).data.toList=(t,m,0):=by rw [hex];exact hg
   have Hg:=Uq hg2
   have hstep:crcm.pairsFrom 0 s.data.toList=(pre ++ [(k + m,t)]) ++ crcm.pairsFrom (k + m) (s.data.toList.drop (k + m)):=by
    rw [HA.out,hst];simp only [List.drop_drop,List.append_assoc,List.cons_append,List.nil_append]
   have hlen:pre.length < (crcm.pairsFrom 0 s.data.toList).length:=by rw [hstep];simp only [List.length_append,List.length_cons,List.length_nil];omega
   have HS:=Uq hstep;obtain ⟨en,hen⟩:∃ en,k + m=en:=⟨_,rfl⟩
   have heni:(k:Int) + (m:Int)=(en:Int):=by omega
   have Hen:=Uq hen;have hY':=hY;have HY:=Uq hY';have hJ':=hJ;have HJ:=Uq hJ';clear hstep hst hg2 hg hex hdl h0 hY hJ hY' hJ' hen
   gi_wp2_with (refine ⟨trivial,?_⟩;gi_at_call 73;refine (callsIn_wide.2 (xB _ _ hsz htr)).mono ?_;unfold Qf;rw [Hg.out];rintro e w1 ⟨rfl,hb1⟩;have hJ1:=(AbidesFrom.mono HJ.out hkeep.1.size) pre wr w1 none hJs (Qv hb1 none) (by intro r e;cases e);obtain ⟨fn,tmps,assign,body,hy,hR⟩:=HY.out pre (en,t) w1 hJ1 hlen;dsimp only [encP] at hy)
   refine hR.mono ?_;have hk1:KeepS n₀ Bs wr w1:=⟨hb1.mono hsz0,hb1.block Bs (lt_of_block hbs)⟩
   rintro e W3 (⟨rfl,hJ3,hk3⟩ | ⟨rfl,hJx3⟩)
   ·gi_wp2
    go_roundw
    case rel=>exact ⟨en,pre ++ [(en,t)],by rw [← Hen.out];omega,rfl,by rw [HS.out,Hen.out],hJ3,hkeep.1.trans (hk1.1.trans hk3.1),hk3.2.trans (hk1.2.trans hkeep.2)⟩
    case measure=>simp [intOf];omega
   ·gi_wp2
    refine bodyPost_ret (results_none rfl _ _ _) rfl ?_
    exact ⟨⟨_,rfl⟩,.inr ⟨pre ++ [(en,t)],⟨_,by rw [HS.out,Hen.out]⟩,hJx3⟩⟩
  ·have h0:(crcm.get (s.data.toList.drop k)).2.2 ≠ 0:=by rw [hg];exact he
   have hst:=crcm.pairsFrom_stop (k:=k) h0
   have hg2:crcm.get (s.extract k s.size).data.toList=(t,m,er):=by rw [hex];exact hg
   have Hg:=Uq hg2
   have hstep:crcm.pairsFrom 0 s.data.toList=pre:=by
    rw [HA.out,hst,List.append_nil]
   have HS:=Uq hstep
   have hb:((er:Int) != 0)=true:=by rw [bne_iff_ne];omega
   have hJ':=hJ;have HJ:=Uq hJ';clear hstep hst hg2 hg hex hdl h0 hJ hJ' hY
   gi_wp2_with (refine ⟨trivial,?_⟩;gi_at_call 73;refine (callsIn_wide.2 (xB _ _ hsz htr)).mono ?_;unfold Qf;rw [Hg.out];rintro e w1 ⟨rfl,hb1⟩)
   refine bodyPost_ret (results_none rfl _ _ _) rfl ?_
   exact ⟨⟨_,rfl⟩,.inl ⟨_,HS.out.symm,(AbidesFrom.mono HJ.out hkeep.1.size) pre wr w1 none hJs (Qv hb1 none) (by intro r e;cases e)⟩⟩
attribute [local go_sem] Oper.semAt_some
theorem KeepS.trans {n₀ Bs:Nat} {A B C:World} (h:KeepS n₀ Bs A B) (k:KeepS n₀ Bs B C):KeepS n₀ Bs A C:=⟨h.1.trans k.1,k.2.trans h.2⟩
theorem KT (n:Nat) (hn:1≤n) (Bs n₀:Nat) (s:ByteArray) (hs:s.size≤10000000) (hn₀:0 < n₀) (w:World) (hsz:n₀≤w.heap.size) (hb:w.heap[Bs]?=some (.cells #[.string s] 9 (0,0))) (ht:TabAt w) :
  SeqStopsK Fence.wide n Tryz.prog 286 #[.pointer (some ⟨Bs,0,none⟩)] encP (KeepS n₀ Bs) (λys=>ys=crcm.pairsFrom 0 s.data.toList) (λpre=>pre <+: crcm.pairsFrom 0 s.data.toList) (crcm.pairsFrom 0 s.data.toList).length w:=
 λl J Jx W hW hJ _ hY h0=>Xk n hn l Bs n₀ s hs hn₀ J Jx W hJ hY ((hW.block Bs (lt_of_block hb)).trans hb) (Nat.le_trans hsz hW.size) (ht.below hW ht.1) h0
theorem Vr (n:Nat) (s:ByteArray) (w:World) :
  CallsIn Fence.wide n Tryz.prog 182 #[.string s] w λe w'=>e=.returned (.func (.func 286) #[] #[.pointer (some ⟨w.heap.size,0,none⟩)])∧w'=w.alloc (.cells #[.string s] 9):=by
 refine callsIn_of_wp Tryz.func182 rfl trivial ?_ rfl;simp only [Tryz.ntmps182,List.size_toArray,List.length_cons,List.length_nil,Nat.reduceAdd,Nat.reduceSub,Array.replicate_succ,Array.replicate_zero,List.push_toArray,List.append_toArray,List.nil_append,List.cons_append]
 gi_wp2
 go_ret;exact ⟨rfl,rfl⟩
theorem Q9 {W:World} {base:Nat} {e:TypeId} {size k:Nat} {v:Value} {xs:List Value} (hr:W.ownsRow base e size v k xs) {B:Nat} (h:B < base):some B ≠ v.ownBlock:=by
 intro e';have:=(hr.lt B e'.symm).1;omega
theorem yn {W w1:World} {B base:Nat} {t e:TypeId} {size k:Nat} {u v:Value} {xs:List Value} {tmp:Obj} (hv:Boxed W B t u) (h:B < base) (hrow:W.ownsRow base e size v k xs) (hg:(W.alloc tmp).grownBy w1 v.ownBlock):Boxed w1 B t u:=
 (hv.alloc tmp).kept hg (Q9 hrow h)
theorem ju {W w1:World} {base:Nat} {e:TypeId} {size k:Nat} {v:Value} {xs:List Value} {tmp:Obj} (hrow:W.ownsRow base e size v k xs) (hgrow:(W.alloc tmp).grownBy w1 v.ownBlock):KeepsOthers W w1:=by
 refine (KeepsOthers.alloc W tmp).trans (KeepsOthers.of_grownBy hgrow λj o ej hj=>?_)
 rcases (hrow.alloc tmp).2 with ⟨rfl,_⟩ | ⟨g,cap,cur,rfl,_,hgb,_⟩
 ·simp [Value.ownBlock] at ej
 ·obtain rfl:g=j:=by simpa [Value.ownBlock] using ej
  rw [hgb] at hj;cases hj;rfl
theorem jv {W w1:World} {base n₀:Nat} {e:TypeId} {size k:Nat} {v:Value} {xs:List Value} {tmp:Obj} (hrow:W.ownsRow base e size v k xs) (hgrow:(W.alloc tmp).grownBy w1 v.ownBlock) (h:n₀≤base) (hn:n₀≤W.heap.size):Below n₀ W w1:=
 ((Below.refl n₀ W).alloc hn tmp).grown hgrow (by simp;omega) λj ej=>Nat.le_trans h (hrow.lt j ej).1
theorem xK {β:Type} (B:Nat) (t:TypeId) (f:β→Value):Own (λs W=>Boxed W B t (f s)):=λs X Y row h hg hrow=>
 h.kept hg (λe'=>by
  obtain ⟨o,ho,hc⟩:=hrow B e'.symm
  rw [show X.heap[B]?=_ from h] at ho;cases ho;cases hc)
theorem kt {w:World} {base base':Nat} {e:TypeId} {size n:Nat} {v:Value} {xs:List Value} (h:w.ownsRow base e size v n xs) (hb:base'≤base):w.ownsRow base' e size v n xs:=by
 refine ⟨h.1,?_⟩
 rcases h.2 with h | ⟨g,cap,cur,e1,h1,r⟩
 ·exact .inl h
 ·exact .inr ⟨g,cap,cur,e1,Nat.le_trans hb h1,r⟩
def StrsB (B:Nat) (w:World) (v:Value) (ls:List (List UInt8)):Prop:=
 ∃ A c,v=.slice A ls.length c∧∀ k,k < ls.length→∃ ad,A=some ad∧B≤ad.block∧w.cell? (ad.add k)=some (.string (crcm.mk (ls.getD k [])))
theorem YW {w:World} {base:Nat} {e:TypeId} {v:Value} {n:Nat} {ls:List (List UInt8)} (hn:n=ls.length) (h:w.ownsRow base e 1 v n (ls.map strV)):StrsB base w v ls:=by
 obtain ⟨A,c,e1,hc⟩:=zo hn h
 refine ⟨A,c,e1,λk hk=>?_⟩
 obtain ⟨ad,e2,h2⟩:=hc k hk;refine ⟨ad,e2,?_,h2⟩;subst e2
 exact (h.lt ad.block (by rw [e1];rfl)).1
set_option maxRecDepth 100000 in
theorem all_own (s:ByteArray) (w:World) (hs:s.size≤10000000) (ht:TabAt w) :
  Calls Tryz.prog 75 #[.string s] w λe w'=>∃ v,e=.returned (.tuple #[v,.int .i64 ((crcm.allOf s.data.toList).2:Nat)])∧w'.ownsRow w.heap.size 9 1 v (crcm.allOf s.data.toList).1.length ((crcm.allOf s.data.toList).1.map strV)∧Below w.heap.size w w':=by
 obtain ⟨i0,hi,hz0,hz1,hz2⟩:=info_parts yF;refine (callsIn_wide (n:=3)).1 ?_;refine callsIn_of_wp_marks Tryz.func75 rfl trivial ?_ rfl;simp only [Tryz.ntmps75,List.size_toArray,List.length_cons,List.length_nil,Nat.reduceAdd,Nat.reduceSub,Array.replicate_succ,Array.replicate_zero,List.push_toArray,List.append_toArray,List.nil_append,List.cons_append]
 gi_wp2_with (refine ⟨trivial,?_⟩;gi_at_call 182;refine (Vr _ _ _).mono ?_;rintro e w' ⟨rfl,rfl⟩)
 have hpa:=crcm.pairs_all s.data.toList.length 0 s.data.toList (Nat.le_refl _);rw [crcm.size_len] at hpa;have Hpa:=Uq hpa
 have hnp:(crcm.pairsFrom 0 s.data.toList).length≤10000000:=by have:=hpa.2.2;omega
 clear hpa;have bO:=Boxed.new w 22 (.slice none 0 0);have bE:=Boxed.new (w.alloc (.cells #[.slice none 0 0] 22)) 3 (.int .i64 0);have bS:=Boxed.new ((w.alloc (.cells #[.slice none 0 0] 22)).alloc (.cells #[.int .i64 0] 3)) 9 (.string s);simp only [World.size_alloc] at bE bS
 have hB0:Below w.heap.size w (((w.alloc (.cells #[.slice none 0 0] 22)).alloc (.cells #[.int .i64 0] 3)).alloc (.cells #[.string s] 9)):=(((Below.refl _ w).alloc (Nat.le_refl _) _).alloc (by simp) _).alloc (by simp;omega) _
 have ht0:=ht.below hB0 ht.1
 refine wpIn_rangeFunc_ownG rfl (by decide) (gf:=286) (lb:=#[.pointer (some ⟨w.heap.size + 1 + 1,0,none⟩)]) rfl trivial (enters_of Tryz.func286 (by kernel_rfl) rfl)
  (KT 2 (by decide) (w.heap.size + 1 + 1) w.heap.size s hs ht.1 _ (by simp;omega) bS ht0) KeepS.trans
  (λW l o o' hl h h1 h2=>⟨belowK_b (w:=(((w.alloc (.cells #[.slice none 0 0] 22)).alloc (.cells #[.int .i64 0] 3)).alloc (.cells #[.string s] 9))) (by simp;omega) W l o o' hl h h1 h2,World.putObj_heap_other (by simp at hl;omega)⟩) (Below.refl _ _) (λ_=>rfl)
  (λpre W=>(∃ v,Boxed W w.heap.size 22 v∧W.ownsRow (w.heap.size + 3) 9 1 v pre.length ((pre.map (·.2)).map strV)∧True)∧Boxed W (w.heap.size + 1) 3 (.int .i64 (crcm.lastEnd 0 pre:Nat))∧Boxed W (w.heap.size + 1 + 1) 9 (.string s)∧Below w.heap.size w W)
  (λ_ _ _=>False)
  (OwnFrom.and (Own.from (holdsRow_own (w.heap.size + 3) w.heap.size 22 9 1 (λpre:List (Nat × List UInt8)=>pre.length) (λpre=>(pre.map (·.2)).map strV) (λ_ _=>True)) _) (OwnFrom.and (Own.from (xK _ _ (λpre:List (Nat × List UInt8)=>Value.int .i64 (crcm.lastEnd 0 pre:Nat))) _) (OwnFrom.and (Own.from (xK _ _ (λ_:List (Nat × List UInt8)=>Value.string s)) _) (ownFrom_below (Nat.le_refl _) (by simp;omega)))))
  (λ_ _ _ _ _ hs _ _=>hs)
  ⟨⟨_,(bO.alloc _).alloc _,World.ownsRow_nil _ _ _ _,trivial⟩,bE.alloc _,bS,hB0⟩
  (λx=>{ tmps:=#[.string s,undef,.pointer (some ⟨w.heap.size,0,none⟩),.pointer (some ⟨w.heap.size + 1,0,none⟩),.int .i64 (x.1:Int),.string (crcm.mk x.2),.string s,.func (.func 286) #[] #[.pointer (some ⟨w.heap.size + 1 + 1,0,none⟩)],.int .i64 (x.1:Int),.string (crcm.mk x.2),undef,undef,undef,undef,undef,undef,undef],defers:=[] }) ?assign ?body ?done ?stop
 case assign=>
  intro l x W K hK;dsimp only [encP]
  gi_wp2
  exact hK
 case body=>
  rintro l pre x W ⟨⟨v,hv,hrow,_⟩,hE,hS,hB⟩ hlt;have hc:=hv.cell
  have hsz3:w.heap.size + 3≤W.heap.size:=by have:=hS.lt;omega
  gi_wp2_with (gi_at_builtin;refine wpListIn_append_own _ rfl _ _ 22 rfl (w.heap.size + 3) 9 i0 (.string .empty) 1 16 Tryz.underlying22 hi hz0 hz1 hz2 rfl (by decide) _ _ _ rfl (hrow.alloc _) ⟨W.heap.size,0,none⟩ 1 1 [strV x.2] rfl rfl (cell_one_new _ _ _) (KV _) (by unfold maxLen;omega) (by omega) (by simp;omega) ?_;intro v' w1 hown' hgrow _;obtain ⟨g',cap',rfl⟩:=ownsRow_succ hown';have hv1:=yn hv (by omega) hrow hgrow;have hE1:=yn hE (by omega) hrow hgrow;have hS1:=yn hS (by omega) hrow hgrow;have hc1:=hv1.cell;have hf1:=hv1.frozen;have he1:=hE1.cell;have hef:=hE1.frozen)
  have hgr:(W.alloc (.cells #[strV x.2] 9)).grownBy w1 v.ownBlock:=hgrow;have hko:=ju hrow hgr
  have hbl:=jv hrow hgr (Nat.le_add_right w.heap.size 3) (by omega)
  have hlen:pre.length + 1=(pre ++ [x]).length:=by simp
  have hmap:(pre.map (·.2)).map strV ++ [strV x.2]=((pre ++ [x]).map (·.2)).map strV:=by simp
  refine ⟨((hko.trans (KeepsOthers.setCell _ _ _)).trans (KeepsOthers.setCell _ _ _)).from _,⟨(hbl.setCell (p:=⟨w.heap.size,0,none⟩) (Nat.le_refl _) _).setCell (p:=⟨w.heap.size + 1,0,none⟩) (Nat.le_succ _) _,?_⟩,⟨_,(hv1.set _).other (by omega) _,?_,trivial⟩,?_,(hS1.other (by omega) _).other (by omega) _,hB.trans ((hbl.setCell (p:=⟨w.heap.size,0,none⟩) (Nat.le_refl _) _).setCell (p:=⟨w.heap.size + 1,0,none⟩) (Nat.le_succ _) _)⟩
  ·exact ((hS1.other (B':=w.heap.size) (by omega) _).other (B':=w.heap.size + 1) (by omega) _).trans hS.symm
  ·rw [← hlen,← hmap]
   exact (hown'.kept (grownBy_setCell' _ _ _) (.inr (Q9 hown' (by omega)).symm)).kept (grownBy_setCell' _ _ _) (.inr (Q9 hown' (by omega)).symm)
  ·rw [crcm.lastEnd_snoc]
   exact (hE1.other (by omega) _).set _
 case done=>
  rintro D ys W hD rfl ⟨⟨v,hv,hrow,_⟩,hE,hS,hB⟩ hK;have hc:=hv.cell;have hcf:=hv.frozen;have he:=hE.cell;have hef:=hE.frozen
  obtain ⟨a,n,c,rfl⟩:∃ a n c,v=.slice a n c:=by
   rcases hrow.2 with ⟨h,_⟩ | ⟨g,cap,cur,h,_⟩
   ·exact ⟨_,_,_,h⟩
   ·exact ⟨_,_,_,h⟩
  gi_wp2
  gi_region
  gi_wp2
  obtain ⟨W2,hW2⟩:∃ W2,((W.setCell ⟨w.heap.size,0,none⟩ (Value.slice a n c)).setCell ⟨w.heap.size + 1,0,none⟩ (Value.int .i64 (crcm.lastEnd 0 (crcm.pairsFrom 0 s.data.toList):Nat))).drew=W2:=⟨_,rfl⟩
  have hK2:W2.heap[D]?=some (.deferred (some [])):=by rw [← hW2];exact (((KeepsOthers.setCell _ _ _).trans (KeepsOthers.setCell _ _ _)).trans (KeepsOthers.drew _)).same D _ hK rfl
  have hv2:Boxed W2 w.heap.size 22 (.slice a n c):=by rw [← hW2];exact (hv.set _).other (by omega) _
  have he2:Boxed W2 (w.heap.size + 1) 3 (.int .i64 (crcm.lastEnd 0 (crcm.pairsFrom 0 s.data.toList):Nat)):=by rw [← hW2];exact (hE.other (by omega) _).set _
  have hr2:W2.ownsRow (w.heap.size + 3) 9 1 (.slice a n c) (crcm.pairsFrom 0 s.data.toList).length (((crcm.pairsFrom 0 s.data.toList).map (·.2)).map strV):=by
   rw [← hW2];exact ((hrow.kept (grownBy_setCell' _ _ _) (.inr (Q9 hrow (by omega)).symm)).kept (grownBy_setCell' _ _ _) (.inr (Q9 hrow (by omega)).symm)).drew
  have hb2:Below w.heap.size w W2:=by rw [← hW2];exact ((hB.setCell (p:=⟨w.heap.size,0,none⟩) (Nat.le_refl _) _).setCell (p:=⟨w.heap.size + 1,0,none⟩) (Nat.le_succ _) _).drew
  rw [hW2];clear hW2
  refine ⟨by simp,.inl ⟨_,_,rfl,run_takeDeferred hK2,?_⟩⟩
  have hc3:=cell_kept hv2.cell (grownBy_putObj' _ D (.deferred none)) (λr e=>by cases e;exact ⟨_,hK2,rfl⟩)
  have he3:=cell_kept he2.cell (grownBy_putObj' _ D (.deferred none)) (λr e=>by cases e;exact ⟨_,hK2,rfl⟩)
  have hr3:=ownsRow_putObj hr2 (.deferred none) hK2 rfl
  have hb3:Below w.heap.size w (W2.putObj D (.deferred none)):=hb2.trans (belowK_b (w:=w) (Nat.le_refl _) W2 D _ _ (by simp at hD;omega) hK2 rfl rfl)
  refine ⟨.tuple #[.slice a n c,.int .i64 (crcm.lastEnd 0 (crcm.pairsFrom 0 s.data.toList):Nat)],?_,.slice a n c,?_,?_,hb3⟩
  ·simp [results,Tryz.f75,go_sem,hc3,he3]
  ·rw [Hpa.out.2.1,Nat.zero_add]
  ·rw [← Hpa.out.1]
   refine kt ?_ (show w.heap.size≤w.heap.size + 3 by omega)
   rw [List.length_map];exact hr3
 case stop=>
  rintro D c pre W _ _ h _;exact h.elim
namespace wl
def openE (n:vd.Name):Bool:=decide (n ≠ []) && decide (n.length≤59)
def mend (d:vd.Disk) (n:vd.Name):vd.Disk × Nat:=
 if (vd.read d n).2=3∨(crcm.allOf (vd.read d n).1).2 < (vd.read d n).1.length then write d n ((vd.read d n).1.take (crcm.allOf (vd.read d n).1).2) else vd.sync d n
def open_ (d:vd.Disk) (n:vd.Name):vd.Disk × List (List UInt8) × Nat:=
 if openE n=false then (d,[],1) else
 if (vd.read d n).2 ≠ 0∧(vd.read d n).2 ≠ 3 then (d,[],(vd.read d n).2) else
 if (mend d n).2 ≠ 0 then ((mend d n).1,[],(mend d n).2) else ((mend d n).1,(crcm.allOf (vd.read d n).1).1,0)
end wl
theorem Z0 (w:World):Strs w (.slice none 0 0) []:=⟨none,0,rfl,λk hk=>by simp at hk⟩
theorem StrsB.apart {B:Nat} {S:List Nat} {w w':World} {v:Value} {ls:List (List UInt8)} (h:StrsB B w v ls) (hA:Apart S w w') (hS:∀ x ∈ S,x < B∨w.heap.size≤x):Strs w' v ls:=by
 obtain ⟨A,c,e,hc⟩:=h
 refine ⟨A,c,e,λk hk=>?_⟩
 obtain ⟨ad,e2,h1,h2⟩:=hc k hk;refine ⟨ad,e2,?_⟩;have hlt:(ad.add k).block < w.heap.size:=World.block_lt_of_cell? _ _ h2
 have hn:(ad.add k).block ∉ S:=λhx=>by
  have hb:B≤(ad.add k).block:=by rw [show (ad.add k).block=ad.block from by simp only [Addr.add];split <;> rfl];exact h1
  rcases hS _ hx with h | h <;> omega
 have:=hA.block _ hlt hn;unfold World.cell? at h2 ⊢;rw [this];exact h2
theorem Zn {w w':World} {base:Nat} {e:TypeId} {size n:Nat} {v:Value} {xs:List Value} {S:List Nat} (h:w.ownsRow base e size v n xs) (hA:Apart S w w') (hS:∀ g,v.ownBlock=some g→g ∉ S):w'.ownsRow base e size v n xs:=by
 refine ⟨h.1,?_⟩
 rcases h.2 with h | ⟨g,cap,cur,rfl,hb,hh,r⟩
 ·exact .inl h
 ·exact .inr ⟨g,cap,cur,rfl,hb,(hA.block g (Array.getElem?_eq_some_iff.1 hh).1 (hS g rfl)).trans hh,r⟩
theorem V4 {w:World} {base n:Nat} {v:Value} {xs:List Value} (h:w.ownsRow base 9 1 v n xs) {p b:Nat} {d:vd.Disk} (hd:Dk w p b d):∀ x,v.ownBlock=some x→x ∉ [p,b]:=by
 intro x hx
 rcases h.2 with ⟨rfl,_⟩ | ⟨y,cap,cur,rfl,_,hh,_⟩
 ·cases hx
 ·obtain rfl:y=x:=by simpa [Value.ownBlock] using hx
  intro hm
  rcases List.mem_cons.1 hm with rfl | hm
  ·have:=hd.blk;unfold Vb at this;rw [hh] at this
   simp at this
  rcases List.mem_cons.1 hm with rfl | hm
  ·obtain ⟨es,c,hb,_⟩:=hd.map;rw [hh] at hb;cases hb
  cases hm
def Opened (w:World) (p b:Nat) (d:vd.Disk) (n:vd.Name) (e:Ending) (w':World):Prop:=
 ∃ lv tv g,e=.returned (.tuple #[lv,tv,.int .i64 ((wl.open_ d n).2.2:Nat)])∧Dk w' p b (wl.open_ d n).1∧Apart [p,b] w w'∧vd.Ok (wl.open_ d n).1∧w.heap.size≤g∧(∀ w'',Apart [p,b,g] w' w''→Strs w'' tv (wl.open_ d n).2.1) ∧
  ((wl.open_ d n).2.2=0→lv=.pointer (some ⟨g,0,none⟩)∧Lg w' g p ⟨n,(wl.open_ d n).2.1.length,false⟩)∧((wl.open_ d n).2.2 ≠ 0→lv=.pointer none)∧w'.ownsRow w.heap.size 9 1 tv (wl.open_ d n).2.1.length ((wl.open_ d n).2.1.map strV)
theorem vd.read_len {d:vd.Disk} (hok:vd.Ok d) (n:vd.Name):(vd.read d n).1.length≤d.cap:=by
 have h1:=vd.total_del d.files n;have h2:=hok.tot;unfold vd.read
 split
 ·exact Nat.zero_le _
 ·split
  ·show (vd.at_ d.files n).1.length≤_;omega
  ·exact Nat.zero_le _
set_option maxHeartbeats 8000000 in
theorem Ve {w:World} {p b:Nat} {d:vd.Disk} (n:vd.Name) (hd:Dk w p b d) (hok:vd.Ok d) (hc:d.cap≤10000000) (hn:n.length≤200) (ht:TabAt w) (ht0:0 < w.heap.size) :
  Calls Tryz.prog 158 #[dptr p,keyV n] w (Opened w p b d n):=by
 have hnl:n.length≤maxLen:=by unfold maxLen;omega
 have hrl:=vd.read_len hok n;have hpl:=hd.blk.lt;have hbl:=hd.map.lt;have hrd:=vd_read n hd hnl;obtain ⟨Sx,hS⟩:∃ S,(vd.read d n).1=S:=⟨_,rfl⟩;obtain ⟨er,her⟩:∃ er,(vd.read d n).2=er:=⟨_,rfl⟩;obtain ⟨ts,hts⟩:∃ ts,(crcm.allOf Sx).1=ts:=⟨_,rfl⟩;obtain ⟨en,hen⟩:∃ en,(crcm.allOf Sx).2=en:=⟨_,rfl⟩;rw [hS,her] at hrd;rw [hS] at hrl;have hle:=crcm.allOf_le Sx;rw [hts,hen] at hle;obtain ⟨SL,hSL⟩:∃ SL,Sx.length=SL:=⟨_,rfl⟩;rw [hSL] at hle hrl
 have hsz:(crcm.mk Sx).size=SL:=by rw [crcm.mk_size,hSL]
 have hall:∀ w',Below w.heap.size w w'→Calls Tryz.prog 75 #[.string (crcm.mk Sx)] w' λe w2=>∃ v,e=.returned (.tuple #[v,.int .i64 (en:Nat)])∧w2.ownsRow w'.heap.size 9 1 v ts.length (ts.map strV)∧Below w'.heap.size w' w2:=by
  intro w' hb
  have:=all_own (crcm.mk Sx) w' (by rw [hsz];omega) (ht.below hb ht0)
  rw [crcm.mk_toList,hts,hen] at this;exact this
 obtain ⟨m,hm⟩:∃ m,wl.mend d n=m:=⟨_,rfl⟩
 have hmend:m=if er=3∨en < SL then wl.write d n (Sx.take en) else vd.sync d n:=by rw [← hm];unfold wl.mend;rw [her,hS,hen,hSL]
 have hres:wl.open_ d n=if wl.openE n=false then (d,[],1) else if er ≠ 0∧er ≠ 3 then (d,[],er) else if m.2 ≠ 0 then (m.1,[],m.2) else (m.1,ts,0):=by
  unfold wl.open_;rw [her,hS,hm,hts]
 have hdk:∀ w',Below w.heap.size w w'→Dk w' p b d:=λw' h=>⟨(h.block _ hpl).trans hd.blk,hd.map.below h⟩
 have hie:(crcm.mk n).toList.isEmpty=n.isEmpty:=by rw [Yt]
 obtain ⟨N,hN⟩:∃ N,n.length=N:=⟨_,rfl⟩
 have hszn:(crcm.mk n).size=N:=by rw [crcm.mk_size,hN]
 have HALL:=Uq hall;have HM:=Uq hmend;have HR:=Uq hres;have HK:=Uq hdk;have HOK:=Uq hok
 have hex:(crcm.mk Sx).extract 0 en=crcm.mk (Sx.take en):=by rw [Lib.extract_eq];show (⟨((crcm.mk Sx).data.toList.drop 0 |>.take (en - 0)).toArray⟩:ByteArray)=_;rw [crcm.mk_toList];rfl
 have htk:(Sx.take en).length≤1000000000:=by rw [List.length_take];omega
 clear hall hmend hres hdk hm hS her hts hen hSL hok hd ht;unfold dptr keyV;unfold dptr keyV at hrd
 go_enter Tryz.func158,Tryz.ntmps158
 by_cases hg:wl.openE n=true
 ·have hg':=hg;unfold wl.openE at hg;rw [Bool.and_eq_true,decide_eq_true_iff,decide_eq_true_iff,hN] at hg;obtain ⟨hne,h59⟩:=hg
  have hni:n.isEmpty=false:=by
   cases n with
   | nil=>exact absurd rfl hne
   | cons x r=>rfl
  rw [hni] at hie;have HG:=Uq hg';clear hne hni hg' hN;go_wp2_with fail;refine hrd.mono ?_;rintro e w1 ⟨rfl,hb1⟩;clear hrd
  by_cases he:er ≠ 0∧er ≠ 3
  ·have hb0:((er:Int) != 0)=true:=by simp;omega
   have hb3:((er:Int) != 3)=true:=by simp;omega
   have hR2:wl.open_ d n=(d,[],er):=by rw [HR.out,HG.out,if_neg (by simp),if_pos he]
   have HR2:=Uq hR2;clear hR2;go_wp2_with fail
   go_ret3
   unfold Opened;rw [HR2.out]
   exact ⟨_,_,_,rfl,HK.out _ hb1,.of_below hb1 _,HOK.out,Nat.le_refl _,λ_ _=>Z0 _,λh=>absurd h he.1,λ_=>rfl,World.ownsRow_nil _ _ _ _⟩
  ·have her:er=0∨er=3:=by omega
   have hR2:wl.open_ d n=if m.2 ≠ 0 then (m.1,[],m.2) else (m.1,ts,0):=by rw [HR.out,HG.out,if_neg (by simp),if_neg he]
   have HR2:=Uq hR2;have hcall:=HALL.out w1 hb1
   have htail:∀ w2 v,Below w.heap.size w w2→w2.ownsRow w1.heap.size 9 1 v ts.length (ts.map strV)→∃ A c,v=.slice A ts.length c∧(∀ w'',Apart [p,b,w2.heap.size] w2 w''→Strs w'' v ts) ∧
     ∀ W,W=w2.alloc (.cells #[dptr p,keyV n,.int .i64 (ts.length:Int),.bool false] 306)→Lg W w2.heap.size p ⟨n,ts.length,false⟩∧Dk W p b d∧Apart [p,b] w W∧Apart [p,b,w2.heap.size] w2 W∧W.ownsRow w.heap.size 9 1 v ts.length (ts.map strV):=by
    intro w2 v hb2 hv;obtain ⟨A,c,e,hA⟩:=YW rfl hv;have hs1:=hb1.size
    refine ⟨A,c,e,λw'' h=>StrsB.apart ⟨A,c,e,hA⟩ h (by simp;omega),?_⟩
    rintro W rfl;have hb3:Below w2.heap.size w2 (w2.alloc (.cells #[dptr p,keyV n,.int .i64 (ts.length:Int),.bool false] 306)):=(Below.refl _ w2).alloc (Nat.le_refl _) _;have hb03:=hb2.trans (hb3.mono hb2.size)
    exact ⟨Vb.new w2 _ _,HK.out _ hb03,.of_below hb03 _,.of_below hb3 _,kt (qJ hv hb3) (by omega)⟩
   have hwrite:∀ W g,Lg W g p ⟨n,ts.length,false⟩→Dk W p b d→Calls Tryz.prog 222 #[.pointer (some ⟨g,0,none⟩),.string (crcm.mk (Sx.take en))] W (λe w'=>e=.returned (.int .i64 ((wl.write d n (Sx.take en)).2:Nat))∧Dk w' p b (wl.write d n (Sx.take en)).1∧Apart [p,b] W w'∧vd.Ok (wl.write d n (Sx.take en)).1):=
    λW g h1 h2=>Y4 (l:=⟨n,ts.length,false⟩) _ h1 h2 HOK.out hn htk
   have hsync:∀ W,Dk W p b d→Calls Tryz.prog 207 #[.pointer (some ⟨p,0,none⟩),.string (crcm.mk n)] W (λe w'=>e=.returned (.int .i64 ((vd.sync d n).2:Nat))∧Dk w' p b (vd.sync d n).1∧Apart [p,b] W w'):=
    λW h2=>kX n h2 HOK.out hnl
   have HT:=Uq htail;have HW:=Uq hwrite;have HS:=Uq hsync
   have hmk0:∀ (D2:vd.Disk) w2 W w5 v,m=(D2,0)→Dk w5 p b D2→Apart [p,b] w W→Apart [p,b] W w5→Below w.heap.size w w2→Lg W w2.heap.size p ⟨n,ts.length,false⟩→Dk W p b d→Apart [p,b,w2.heap.size] w2 W→(∀ w'',Apart [p,b,w2.heap.size] w2 w''→Strs w'' v ts)→vd.Ok D2→W.ownsRow w.heap.size 9 1 v ts.length (ts.map strV) →
     Opened w p b d n (.returned (.tuple #[.pointer (some ⟨w2.heap.size,0,none⟩),v,.int .i64 0])) w5:=by
    intro D2 w2 W w5 v hm h1 h2 h3 h4 h5 h6 h7 h8 h9 h10;unfold Opened;rw [HR2.out,hm]
    exact ⟨_,_,w2.heap.size,rfl,h1,h2.trans h3,h9,h4.size,λw'' h=>h8 w'' ((h7.trans (h3.mono (by simp))).trans h),λ_=>⟨rfl,h5.apart h3 (qW h5 h6)⟩,λh=>absurd rfl h,Zn h10 h3 (V4 h10 h6)⟩
   have hmk1:∀ (D2:vd.Disk) (e2:Nat) W w5,m=(D2,e2)→e2 ≠ 0→Dk w5 p b D2→Apart [p,b] w W→Apart [p,b] W w5→vd.Ok D2 →
     Opened w p b d n (.returned (.tuple #[.pointer none,.slice none 0 0,.int .i64 (e2:Nat)])) w5:=by
    intro D2 e2 W w5 hm h0 h1 h2 h3 h9;unfold Opened;rw [HR2.out,hm,if_pos h0]
    exact ⟨_,_,_,rfl,h1,h2.trans h3,h9,Nat.le_refl _,λ_ _=>Z0 _,λh=>absurd h h0,λ_=>rfl,World.ownsRow_nil _ _ _ _⟩
   have HM0:=Uq hmk0;have HM1:=Uq hmk1;clear htail hwrite hsync hmk0 hmk1 hR2 he
   rcases her with rfl | rfl
   ·by_cases hlt:en < SL
    ·have hlti:(en:Int) < (SL:Int):=by omega
     have hm2:m=wl.write d n (Sx.take en):=by rw [HM.out,if_pos (.inr hlt)]
     obtain ⟨⟨D2,e2⟩,hr⟩:∃ r,wl.write d n (Sx.take en)=r:=⟨_,rfl⟩;rw [hr] at hm2;have HM2:=Uq hm2;have HRR:=Uq hr;clear hm2 hr;go_wp2_with fail;refine hcall.mono ?_;rintro e w2 ⟨v,rfl,hv,hb2⟩;have hb02:=hb1.trans (hb2.mono hb1.size);obtain ⟨A,c,rfl,hkeep,hW'⟩:=HT.out w2 v hb02 hv;obtain ⟨W,hW⟩:∃ W,w2.alloc (.cells #[.pointer (some ⟨p,0,none⟩),.string (crcm.mk n),.int .i64 (ts.length:Int),.bool false] 306)=W:=⟨_,rfl⟩;obtain ⟨hgW,hdW,hAW,hAW2,hOW⟩:=hW' W hW.symm;have hw:=HW.out W _ hgW hdW;rw [HRR.out] at hw;have HKP:=Uq hkeep;have HOW:=Uq hOW;clear hW' hcall hv hkeep hOW;go_wp2_with fail;refine hw.mono ?_;rintro e w5 ⟨rfl,h1,h2,h3⟩
     by_cases h0:e2=0
     ·subst h0;go_wp2_with fail
      go_ret3
      exact HM0.out D2 w2 W w5 _ HM2.out h1 hAW h2 hb02 hgW hdW hAW2 HKP.out h3 HOW.out
     ·have h0i:¬ (e2:Int)=0:=by omega
      go_wp2_with fail
      go_ret3
      exact HM1.out D2 e2 W w5 HM2.out h0 h1 hAW h2 h3
    ·have hlti:¬ (en:Int) < (SL:Int):=by omega
     have hm2:m=vd.sync d n:=by rw [HM.out,if_neg (by omega)]
     obtain ⟨⟨D2,e2⟩,hr⟩:∃ r,vd.sync d n=r:=⟨_,rfl⟩;rw [hr] at hm2;have HM2:=Uq hm2;have HRR:=Uq hr;clear hm2 hr;go_wp2_with fail;refine hcall.mono ?_;rintro e w2 ⟨v,rfl,hv,hb2⟩;have hb02:=hb1.trans (hb2.mono hb1.size);obtain ⟨A,c,rfl,hkeep,hW'⟩:=HT.out w2 v hb02 hv;obtain ⟨W,hW⟩:∃ W,w2.alloc (.cells #[.pointer (some ⟨p,0,none⟩),.string (crcm.mk n),.int .i64 (ts.length:Int),.bool false] 306)=W:=⟨_,rfl⟩;obtain ⟨hgW,hdW,hAW,hAW2,hOW⟩:=hW' W hW.symm;have hw:=HS.out W hdW;rw [HRR.out] at hw;have HKP:=Uq hkeep;have HOW:=Uq hOW;clear hW' hcall hv hkeep hOW;go_wp2_with fail;refine hw.mono ?_;rintro e w5 ⟨rfl,h1,h2⟩
     have h3:vd.Ok D2:=by have:=vd.ok_sync HOK.out n;rw [HRR.out] at this;exact this
     by_cases h0:e2=0
     ·subst h0;go_wp2_with fail
      go_ret3
      exact HM0.out D2 w2 W w5 _ HM2.out h1 hAW h2 hb02 hgW hdW hAW2 HKP.out h3 HOW.out
     ·have h0i:¬ (e2:Int)=0:=by omega
      go_wp2_with fail
      go_ret3
      exact HM1.out D2 e2 W w5 HM2.out h0 h1 hAW h2 h3
   ·have hm2:m=wl.write d n (Sx.take en):=by rw [HM.out,if_pos (.inl rfl)]
    obtain ⟨⟨D2,e2⟩,hr⟩:∃ r,wl.write d n (Sx.take en)=r:=⟨_,rfl⟩;rw [hr] at hm2;have HM2:=Uq hm2;have HRR:=Uq hr;clear hm2 hr;go_wp2_with fail;refine hcall.mono ?_;rintro e w2 ⟨v,rfl,hv,hb2⟩;have hb02:=hb1.trans (hb2.mono hb1.size);obtain ⟨A,c,rfl,hkeep,hW'⟩:=HT.out w2 v hb02 hv;obtain ⟨W,hW⟩:∃ W,w2.alloc (.cells #[.pointer (some ⟨p,0,none⟩),.string (crcm.mk n),.int .i64 (ts.length:Int),.bool false] 306)=W:=⟨_,rfl⟩;obtain ⟨hgW,hdW,hAW,hAW2,hOW⟩:=hW' W hW.symm;have hw:=HW.out W _ hgW hdW;rw [HRR.out] at hw;have HKP:=Uq hkeep;have HOW:=Uq hOW;clear hW' hcall hv hkeep hOW;go_wp2_with fail;refine hw.mono ?_;rintro e w5 ⟨rfl,h1,h2,h3⟩
    by_cases h0:e2=0
    ·subst h0;go_wp2_with fail
     go_ret3
     exact HM0.out D2 w2 W w5 _ HM2.out h1 hAW h2 hb02 hgW hdW hAW2 HKP.out h3 HOW.out
    ·have h0i:¬ (e2:Int)=0:=by omega
     go_wp2_with fail
     go_ret3
     exact HM1.out D2 e2 W w5 HM2.out h0 h1 hAW h2 h3
 ·have hR2:wl.open_ d n=(d,[],1):=by rw [HR.out,if_pos (by simpa using hg)]
  have HR2:=Uq hR2
  have hfin:Opened w p b d n (.returned (.tuple #[.pointer none,.slice none 0 0,.int .i64 1])) w:=by
   unfold Opened;rw [hR2]
   exact ⟨_,_,_,rfl,HK.out w (Below.refl _ _),.refl _ _,HOK.out,Nat.le_refl _,λ_ _=>Z0 _,λh=>absurd h (by simp),λ_=>rfl,World.ownsRow_nil _ _ _ _⟩
  have HFIN:=Uq hfin;clear hR2 hfin
  by_cases hne:n=[]
  ·rw [hne,show ([]:List UInt8).isEmpty=true from rfl,← hne] at hie
   clear hne hg;go_wp2_with fail
   go_ret3
   exact HFIN.out
  ·have hni:n.isEmpty=false:=by
    cases n with
    | nil=>exact absurd rfl hne
    | cons x r=>rfl
   rw [hni] at hie
   have h59:59 < N:=by
    unfold wl.openE at hg
    rcases Nat.lt_or_ge 59 N with h | h
    ·exact h
    ·exact absurd (by rw [Bool.and_eq_true,decide_eq_true_iff,decide_eq_true_iff,hN];exact ⟨hne,h⟩) hg
   clear hne hni hg hN;go_wp2_with fail
   go_ret3
   exact HFIN.out
end Go.Proofs.YtppibhieabideaaGreatDoor
