/- KcDisk, KcClone, KcEqual, KcBase, KcRead, KcOn, KcCrash, KcWay: one behind the other. -/
import Derived.Test.YtmcibggjolckoaaGreatDoorGm17
import Derived.Test.YtmcibggjolckoaaGreatDoorGm19
import Derived.BigQuiet
import Derived.Deep.QuietTactic
namespace Go.Proofs.YtmcibggjolckoaaGreatDoor
open Go Go.RowKit
set_option maxRecDepth 100000
namespace wl
open vd
theorem two_open {c:Nat} {k:Int} {n:Name} {a:List (List UInt8)} {B:Nat} {M:Files} (hn:openE n=true) (ha:∀ t ∈ a,t.length≤65535) (hM:Two n (crcm.flat a) B M):open_ ⟨c,M,false,0,k⟩ n=(⟨c,M,false,0,k⟩,a,0):=by
 have hat:∀ (f:File) (r:Files),at_ ((n,f) :: r) n=f:=fun f r=>by unfold at_;rw [if_pos rfl]
 have hhs:∀ (f:File) (r:Files),has ((n,f) :: r) n=true:=fun f r=>by unfold has;rw [if_pos rfl]
 have hpt:∀ (f g:File) (r:Files),vd.put ((n,f) :: r) n g=(n,g) :: r:=fun f g r=>by unfold vd.put;rw [if_pos rfl]
 have hop:∀ R:Files,M=(n,(crcm.flat a,(crcm.flat a).length)) :: R→open_ ⟨c,M,false,0,k⟩ n=(⟨c,M,false,0,k⟩,a,0):=by
  rintro R rfl
  rw [open_whole ⟨rfl,rfl⟩ hn (hhs _ _) a (by show crcm.allOf (at_ ((n,_) :: R) n).1=(a,(at_ ((n,_) :: R) n).1.length);rw [hat];exact allOf_whole a ha)]
  show (({ (⟨c,_,false,0,k⟩:Disk) with files:=vd.put ((n,(crcm.flat a,(crcm.flat a).length)) :: R) n ((at_ ((n,(crcm.flat a,(crcm.flat a).length)) :: R) n).1,(at_ ((n,(crcm.flat a,(crcm.flat a).length)) :: R) n).1.length) }:Disk),_,_)=_
  rw [hat,hpt]
 rcases hM with h | ⟨g,h,_⟩
 ·exact hop [] h
 ·exact hop _ h
theorem two_crash {n:Name} {S:List UInt8} {B:Nat} {M:Files} (keep:Int) (h:Two n S B M):Two n S B (mapF (fun _ f=>trim keep f) M):=by
 have ht:trim keep (S,S.length)=(S,S.length):=by
  unfold trim
  have:=stay_le keep (S,S.length)
  have h0:stay keep (S,S.length)=0:=by dsimp only at this;omega
  rw [h0]
  simp
 rcases h with rfl | ⟨g,rfl,hg⟩
 ·left
  show [(n,trim keep (S,S.length))]=_
  rw [ht]
 ·right
  refine ⟨trim keep g,?_,?_⟩
  ·show [(n,trim keep (S,S.length)),(n ++ [43],trim keep g)]=_
   rw [ht]
  ·unfold trim
   have:(g.1.take (g.2 + stay keep g)).length≤g.1.length:=by rw [List.length_take];omega
   exact Nat.le_trans this hg
theorem reset_two {c:Nat} {k:Int} {n:Name} {a b:List (List UInt8)} {l:L} {B:Nat} {M:Files} (j:Nat) (hok:Ok ⟨c,M,false,j,k⟩) (hl:l.off=false) (hln:l.name=n) (hn:openE n=true) (hb:∀ t ∈ b,t.length≤65535)
  (hM:Two n (crcm.flat a) B M) (hB:(crcm.flat b).length≤B) (hr:(crcm.flat a).length + (crcm.flat b).length≤c) :
  ∃ d2 l2 e,reset ⟨c,M,false,j,k⟩ l b=(d2,l2,e) ∧
   ((e=0∧∃ M' j',d2=⟨c,M',false,j',k⟩∧Two n (crcm.flat b) B M'∧l2=⟨n,b.length,false⟩∧(j=0→j'=0)) ∨
   (e=6∧j ≠ 0∧∃ M' j' T,d2=⟨c,M',true,j',k⟩∧(T=a∨T=b)∧Two n (crcm.flat T) B M')):=by
 obtain ⟨l1,l2,l3⟩:=l
 dsimp only at hl hln
 subst hl hln
 have hres:reset ⟨c,M,false,j,k⟩ ⟨l1,l2,false⟩ b=((write ⟨c,M,false,j,k⟩ l1 (crcm.flat b)).1,told ⟨l1,l2,false⟩ (write ⟨c,M,false,j,k⟩ l1 (crcm.flat b)).2 b.length,(write ⟨c,M,false,j,k⟩ l1 (crcm.flat b)).2):=by
  unfold reset change
  rw [if_neg (by simp),bytes_fit b hb]
  show (if (0:Nat) ≠ 0 then _ else _)=_
  rw [if_neg (by simp)]
 by_cases hj:j=0
 ·subst hj
  have hdel:vd.del M (l1 ++ [43])=[(l1,(crcm.flat a,(crcm.flat a).length))]:=by
   have hne:¬ l1=l1 ++ [43]:=fun e=>by have:=congrArg List.length e;simp at this
   rcases hM with rfl | ⟨g,rfl,_⟩
   ·unfold vd.del;rw [if_neg hne];rfl
   ·unfold vd.del;rw [if_neg hne];unfold vd.del;rw [if_pos rfl]
  have hlen:M.length < 200:=by rcases hM with rfl | ⟨g,rfl,_⟩ <;> simp
  have ht:total [(l1,(crcm.flat a,(crcm.flat a).length))]=(crcm.flat a).length:=by unfold total;simp
  have h1:=reset_log (d:=⟨c,M,false,0,k⟩) ⟨rfl,rfl⟩ hok (l:=⟨l1,l2,false⟩) rfl hn b hb hlen (by show total (vd.del M (l1 ++ [43])) + _≤c;rw [hdel,ht];exact hr)
  refine ⟨_,_,_,h1,.inl ⟨rfl,_,0,rfl,?_,rfl,fun _=>rfl⟩⟩
  left
  show vd.put (vd.del M (l1 ++ [43])) l1 _=_
  rw [hdel]
  unfold vd.put
  rw [if_pos rfl]
 ·obtain ⟨M',j',h1,h2,T,hT,hM'⟩:=write_cut2 (k:=k) j hn hM hB hr
  obtain ⟨r,hrr⟩:∃ r,write ⟨c,M,false,j,k⟩ l1 (crcm.flat b)=r:=⟨_,rfl⟩
  rw [hrr] at h1 h2 hT hres
  refine ⟨_,_,_,hres,?_⟩
  rcases h2 with h2 | h2
  ·left
   refine ⟨h2,M',j',?_,?_,?_,fun h=>absurd h hj⟩
   ·rw [h1,h2];rfl
   ·rcases hT with rfl | ⟨h,_⟩
    ·exact hM'
    ·rw [h2] at h;cases h
   ·rw [h2];rfl
  ·right
   refine ⟨h2,hj,M',j',?_⟩
   rcases hT with rfl | ⟨_,rfl⟩
   ·exact ⟨b,by rw [h1,h2];rfl,.inr rfl,hM'⟩
   ·exact ⟨a,by rw [h1,h2];rfl,.inl rfl,hM'⟩
end wl
end Go.Proofs.YtmcibggjolckoaaGreatDoor
namespace Go.Proofs.YtmcibggjolckoaaGreatDoor
open Go Go.RowKit Go.Deep
set_option maxRecDepth 100000
set_option maxHeartbeats 2000000 in
theorem mclone_any (A:Option Addr) (n c:Nat) (xs:List Value) (w:World) (hlen:xs.length=n * 9) (hcells:0 < n→∃ ad,A=some ad∧∀ j u,xs[j]?=some u→w.cell? (ad.add j)=some u) (hone:∀ u ∈ xs,u.oneCell'=true) (hl:n≤100000) :
  Calls Tryz.prog 47 #[.slice A n c] w fun e w'=>∃ B d,e=.returned (.slice B n d)∧w'.ownsRow w.heap.size 83 9 (.slice B n d) n xs∧Below w.heap.size w w':=by
 obtain ⟨i0,hi,hz0,hz1,hz2⟩:=info_parts info_msg
 have q22:∀ (w:World) (a:Option Addr) (n c n' c':Nat),(binOp .eql 61 (.slice a n c) (.slice none n' c')).run Tryz.prog w=.ok (.bool a.isNone) w:=fun w a n c n' c'=>Lib.run_eql_slice_nil w _ _ a n c n' c' Tryz.underlying61
 cases A with
 | none=>
  have hz:n=0:=by
   rcases Nat.eq_zero_or_pos n with h | h
   ·exact h
   ·obtain ⟨ad,e,_⟩:=hcells h;cases e
  subst hz
  obtain rfl:xs=[]:=List.eq_nil_of_length_eq_zero (by omega)
  clear hcells hlen hl hone
  go_enter Tryz.func47,Tryz.ntmps47
  go_wp2
  go_ret
  exact ⟨none,0,rfl,World.ownsRow_nil _ _ _ _,Below.refl _ _⟩
 | some a=>
  have hown0:=World.ownsRow_made (base:=w.heap.size) (e:=83) (size:=9) w #[] 0 (Nat.le_refl _) (by unfold maxLen;omega) rfl
  have hb0:Below w.heap.size w (w.alloc (.cells #[] 83)):=(Below.refl _ w).alloc (Nat.le_refl _) _
  have hcells2:0 < n→∃ ad,some a=some ad∧∀ j u,xs[j]?=some u→(w.alloc (.cells #[] 83)).cell? (ad.add j)=some u:=fun h=>by
   obtain ⟨ad,e,hh⟩:=hcells h
   exact ⟨ad,e,fun j u hj=>cell_later hb0 (hh j u hj)⟩
  have HB0:=Lib.hid hb0
  have HO:=Lib.hid hown0
  have HC:=Lib.hid hcells2
  have HL:=Lib.hid hlen
  have H1:=Lib.hid hone
  clear hcells hcells2 hlen hb0 hown0 hone
  go_enter Tryz.func47,Tryz.ntmps47
  go_wp2_with (at_builtin;refine wpList_append_opt _ rfl (.tmp 5) (.tmp 6) 61 rfl w.heap.size 83 i0 _ 9 88 Tryz.underlying61 hi hz0 hz1 hz2 rfl (by decide) (.slice (some ⟨w.heap.size,0,none⟩) 0 0) 0 [] rfl HO.out (some a) n c xs rfl HL.out HC.out H1.out (by unfold maxLen;omega) (by omega) (by simp) ?_;intro v' w' hown' hg')
  have HOWN:=Lib.hid hown'
  have HBF:Hid (Below w.heap.size w w'):=Lib.hid (HB0.out.grown hg' (by simp) (fun j hj=>by have e:w.heap.size=j:=(by injection hj);omega))
  clear hown' hg'
  go_wp2
  go_ret
  rw [Nat.zero_add,List.nil_append] at HOWN
  obtain ⟨B,d,rfl⟩:=owns_slice HOWN.out
  exact ⟨B,d,rfl,HOWN.out,HBF.out⟩
end Go.Proofs.YtmcibggjolckoaaGreatDoor
namespace Go.Proofs.YtmcibggjolckoaaGreatDoor
open Go Go.RowKit
set_option maxRecDepth 100000
set_option maxHeartbeats 4000000 in
theorem equal_len (A B:Option Addr) (c d n:Nat) (la lb:List rl.Ent) (w:World) (hn:la.length=n) (hm:lb.length=n) (hl:n≤100000)
  (hA:∀ k,k < n→∃ b o,A=some ⟨b,o,none⟩∧EntsAt w b o la) (hB:∀ k,k < n→∃ b o,B=some ⟨b,o,none⟩∧EntsAt w b o lb) :
  Calls Tryz.prog 69 #[.slice A n c,.slice B n d] w fun e w'=>e=.returned (.bool (decide (la=lb)))∧Below w.heap.size w w':=by
 have e3:((n:Int) != (n:Int))=false:=by simp
 have hgn:∀ k,k < n→la.getD k rl.e0=lb.getD k rl.e0∨la ≠ lb:=fun k _=>by
  by_cases h:la=lb
  ·exact .inl (by rw [h])
  ·exact .inr h
 have HGN:=Lib.hid hgn
 have HA:=Lib.hid hA
 have HB:=Lib.hid hB
 have Hn:=Lib.hid hn
 have Hm:=Lib.hid hm
 clear hA hB hn hm hgn
 go_enter Tryz.func69,Tryz.ntmps69
 go_wp2
 obtain ⟨W,hW⟩:∃ W,w=W:=⟨_,rfl⟩
 have hbw:Below w.heap.size w W:=by rw [← hW];exact Below.refl _ _
 have HBW:=Lib.hid hbw
 rw [hW]
 clear hbw
 go_loopw [5,13] (fun _ i wr=>∃ k q:Nat,k≤n∧i=.int .i64 k∧W.drewN q=wr∧∀ j,j < k→la.getD j rl.e0=lb.getD j rl.e0) (fun _ i _=>n - (intOf i).toNat)
 case atStart=>exact ⟨0,0,Nat.zero_le _,rfl,rfl,fun j h=>by omega⟩
 case round=>
  obtain ⟨k,q,hk,rfl,rfl,hle⟩:=hrel
  have HL:=Lib.hid hle
  clear hle
  by_cases hlt:k < n
  ·obtain ⟨b,o,rfl,hA⟩:=HA.out k hlt
   obtain ⟨b',o',rfl,hB⟩:=HB.out k hlt
   obtain ⟨x0,x1⟩:=hA k (by rw [Hn.out];exact hlt)
   obtain ⟨y0,y1⟩:=hB k (by rw [Hm.out];exact hlt)
   have x0':=cell_later HBW.out x0
   have x1':=cell_later HBW.out x1
   have y0':=cell_later HBW.out y0
   have y1':=cell_later HBW.out y1
   have hor:=HGN.out k hlt
   obtain ⟨x,hx⟩:∃ x,la.getD k rl.e0=x:=⟨_,rfl⟩
   obtain ⟨y,hy⟩:∃ x,lb.getD k rl.e0=x:=⟨_,rfl⟩
   rw [hx] at x0' x1' hor
   rw [hy] at y0' y1' hor
   have HX:=Lib.hid hx
   have HY:=Lib.hid hy
   have HO:=Lib.hid hor
   clear hA hB x0 x1 y0 y1 hx hy hor
   have hi:(k:Int) < (n:Int):=by omega
   by_cases hxy:x=y
   ·subst hxy
    have f1:((x.1:Int) == (x.1:Int))=true:=by simp
    have f2:(x.2 == x.2)=true:=by simp
    have hml:(crcm.mk x.2).toList=x.2:=by rw [ByteArray.toList_eq];rfl
    go_wp2
    go_quiet (fail)
    go_wp2
    go_roundw
    case rel=>exact ⟨k + 1,_,by omega,by go_num,rfl,fun j hj=>by
     rcases Nat.lt_succ_iff_lt_or_eq.1 hj with h | rfl
     ·exact HL.out j h
     ·rw [HX.out,HY.out]⟩
    case measure=>simp [intOf];omega
   ·have hno:decide (la=lb)=false:=by
     rw [decide_eq_false_iff_not]
     rcases HO.out with h | h
     ·exact absurd h hxy
     ·exact h
    have HNO:=Lib.hid hno
    clear hno
    by_cases h1:x.1=y.1
    ·have h2:¬ x.2=y.2:=fun h=>hxy (Prod.ext h1 h)
     have f1:((x.1:Int) == (y.1:Int))=true:=by rw [h1];simp
     have f2:(x.2 == y.2)=false:=by rw [beq_eq_false_iff_ne];exact h2
     have hml:(crcm.mk x.2).toList=x.2:=by rw [ByteArray.toList_eq];rfl
     have hml2:(crcm.mk y.2).toList=y.2:=by rw [ByteArray.toList_eq];rfl
     clear h1 h2 hxy
     go_wp2
     go_quiet (fail)
     go_wp2
     go_ret
     exact ⟨by rw [HNO.out];rfl,by rw [hW];exact below_drewN (below_drewN (Below.refl _ _) _) _⟩
    ·have f1:((x.1:Int) == (y.1:Int))=false:=by rw [beq_eq_false_iff_ne];omega
     clear h1 hxy
     go_wp2
     go_quiet (fail)
     go_wp2
     go_ret
     exact ⟨by rw [HNO.out];rfl,by rw [hW];exact below_drewN (below_drewN (Below.refl _ _) _) _⟩
  ·have hyes:decide (la=lb)=true:=by
    rw [decide_eq_true_iff]
    exact ents_ext (by rw [Hn.out,Hm.out]) (fun j hj=>HL.out j (by rw [Hn.out] at hj;omega))
   have HY:=Lib.hid hyes
   clear hyes
   go_wp2
   go_ret
   exact ⟨by rw [HY.out];rfl,by rw [hW];exact below_drewN (Below.refl _ _) _⟩
set_option maxHeartbeats 2000000 in
theorem equal_any (u v:Value) (la lb:List rl.Ent) (w:World) (hu:Ents w u la) (hv:Ents w v lb) (h1:la.length≤100000) :
  Calls Tryz.prog 69 #[u,v] w fun e w'=>e=.returned (.bool (decide (la=lb)))∧Below w.heap.size w w':=by
 obtain ⟨A,c,rfl,_,_,hA⟩:=hu
 obtain ⟨B,d,rfl,_,_,hB⟩:=hv
 by_cases hl:la.length=lb.length
 ·have h:=equal_len A B c d la.length la lb w rfl hl.symm h1 (fun k hk=>hA (by omega)) (fun k hk=>hB (by omega))
  rw [← hl]
  exact h
 ·have hno:decide (la=lb)=false:=by
   rw [decide_eq_false_iff_not]
   intro h
   exact hl (by rw [h])
  rw [hno]
  obtain ⟨n,hn⟩:∃ n,la.length=n:=⟨_,rfl⟩
  obtain ⟨m,hm⟩:∃ n,lb.length=n:=⟨_,rfl⟩
  rw [hn,hm] at hl
  rw [hn,hm]
  have hne:((n:Int) != (m:Int))=true:=by simp;omega
  clear hA hB hno hn hm h1
  go_enter Tryz.func69,Tryz.ntmps69
  go_wp2
  go_ret
  exact ⟨rfl,Below.refl _ _⟩
set_option maxHeartbeats 4000000 in
theorem csame_any (T T':Nat) (V V':Int) (u v:Value) (la lb:List rl.Ent) (w:World) (hu:Ents w u la) (hv:Ents w v lb) (h1:la.length≤100000) :
  Calls Tryz.prog 52 #[.agg #[.int .u64 (T:Int),.int .i64 V,u],.agg #[.int .u64 (T':Int),.int .i64 V',v]] w fun e w'=>e=.returned (.bool (decide (T=T') && decide (V=V') && decide (la=lb)))∧Below w.heap.size w w':=by
 obtain ⟨A,c,hu2⟩:=hu.form
 obtain ⟨B,d,hv2⟩:=hv.form
 subst hu2 hv2
 obtain ⟨L,hL⟩:∃ L,la.length=L:=⟨_,rfl⟩
 obtain ⟨L2,hL2⟩:∃ L,lb.length=L:=⟨_,rfl⟩
 have hb:=below_two w [.int .u64 (T:Int),.int .i64 V,.slice A L c] [.int .u64 (T':Int),.int .i64 V',.slice B L2 d] 46 46
 have ba:=(Blk.new w [.int .u64 (T:Int),.int .i64 V,.slice A L c] 46).alloc (.cells #[.int .u64 (T':Int),.int .i64 V',.slice B L2 d] 46)
 have bb:=Blk.new (w.alloc (.cells #[.int .u64 (T:Int),.int .i64 V,.slice A L c] 46)) [.int .u64 (T':Int),.int .i64 V',.slice B L2 d] 46
 simp only [World.size_alloc] at bb
 obtain ⟨W,hW⟩:∃ W,(w.alloc (.cells #[.int .u64 (T:Int),.int .i64 V,.slice A L c] 46)).alloc (.cells #[.int .u64 (T':Int),.int .i64 V',.slice B L2 d] 46)=W:=⟨_,rfl⟩
 simp only [List.toArray] at hb ba bb
 rw [hW] at hb ba bb
 have heq:=equal_any (.slice A L c) (.slice B L2 d) la lb W (by rw [← hL];exact hu.below hb) (by rw [← hL2];exact hv.below hb) h1
 have a0:=ba.cell 0 _ rfl
 have a1:=ba.cell 1 _ rfl
 have a2:=ba.cell 2 _ rfl
 have b0:=bb.cell 0 _ rfl
 have b1:=bb.cell 1 _ rfl
 have b2:=bb.cell 2 _ rfl
 have HW:=Lib.hid hW
 have Hb:=Lib.hid hb
 have HE:=Lib.hid heq
 rw [hL,hL2]
 obtain ⟨r,hr⟩:∃ r,(decide (T=T') && decide (V=V') && decide (la=lb))=r:=⟨_,rfl⟩
 rw [hr]
 clear hu hv ba bb hb hW heq hL hL2
 go_enter Tryz.func52,Tryz.ntmps52
 go_upto_region 1 with fail
 rw [HW.out]
 by_cases hT:T=T'
 ·have e1:((T:Int) == (T':Int))=true:=by rw [hT];simp
  have d1:decide (T=T')=true:=decide_eq_true hT
  rw [d1] at hr
  clear hT d1
  by_cases hV:V=V'
  ·have e2:(V == V')=true:=by rw [hV];simp
   have d2:decide (V=V')=true:=decide_eq_true hV
   rw [d2] at hr
   have HR:=Lib.hid hr
   clear hV d2 hr
   go_wp2_with (first | (go_at_call 69;refine HE.out.mono ?_;rintro e w1 ⟨rfl,hb1⟩))
   go_ret
   exact ⟨by rw [← HR.out];simp,Hb.out.trans (hb1.mono Hb.out.size)⟩
  ·have e2:(V == V')=false:=by simp;exact hV
   have d2:decide (V=V')=false:=decide_eq_false hV
   rw [d2] at hr
   have HR:=Lib.hid hr
   clear hV d2 hr
   go_wp2_with fail
   go_ret
   exact ⟨by rw [← HR.out];simp,Hb.out⟩
 ·have e1:((T:Int) == (T':Int))=false:=by simp;omega
  have d1:decide (T=T')=false:=decide_eq_false hT
  rw [d1] at hr
  have HR:=Lib.hid hr
  clear hT d1 hr
  go_wp2_with fail
  go_ret
  exact ⟨by rw [← HR.out];simp,Hb.out⟩
end Go.Proofs.YtmcibggjolckoaaGreatDoor
namespace Go.Proofs.YtmcibggjolckoaaGreatDoor
open Go Go.RowKit Go.Deep
set_option maxRecDepth 100000
theorem ne_of_type {w:World} {x y:Nat} {vs us:List Value} {t u:TypeId} (h:Vb w x vs t) (k:Vb w y us u) (ht:t ≠ u):x ≠ y:=by
 rintro rfl
 unfold Vb at h k
 rw [h] at k
 injection k with k
 injection k with _ k _
 exact ht k
theorem ne_map {w:World} {x b:Nat} {vs:List Value} {t:TypeId} {M:vd.Files} (h:Vb w x vs t) (k:FMap w b M):x ≠ b:=by
 rintro rfl
 obtain ⟨es,c,hb,_⟩:=k
 unfold Vb at h
 rw [h] at hb
 cases hb
def NotEnt (w:World) (x:Nat):Prop:=∀ cur,w.heap[x]? ≠ some (.cells cur 35 (0,0))
theorem notEnt_of {w:World} {x:Nat} {vs:List Value} {t:TypeId} (h:Vb w x vs t) (ht:t ≠ 35):NotEnt w x:=fun cur e=>by
 unfold Vb at h
 rw [h] at e
 injection e with e
 injection e with _ e _
 exact ht e
theorem notEnt_map {w:World} {b:Nat} {M:vd.Files} (h:FMap w b M):NotEnt w b:=fun cur e=>by
 obtain ⟨es,c,hb,_⟩:=h
 rw [hb] at e
 cases e
theorem EntsB.re {a b:Nat} {w:World} {v:Value} {ls:List rl.Ent} (h:EntsB a w v ls):EntsB b w v ls:=⟨h.1,fun k o n c e h0=>by
 obtain ⟨h1,h2⟩:=h.2 k o n c e h0
 refine ⟨h1,?_⟩
 rcases h2 with h2 | h2
 ·omega
 ·exact .inr h2⟩
def Way (base:Nat) (w:World) (v:Value) (ms:List rf.Msg):Prop:=
 ∃ evs:List Value,evs.length=ms.length∧w.ownsRow base 83 9 v ms.length ((ms.zip evs).flatMap fun p=>msgC p.1 p.2)∧∀ p ∈ ms.zip evs,EntsB 0 w p.2 p.1.ents
theorem Way.form {base:Nat} {w:World} {v:Value} {ms:List rf.Msg} (h:Way base w v ms):∃ A c,v=.slice A ms.length c:=by
 obtain ⟨evs,_,h,_⟩:=h
 exact owns_slice h
theorem Way.nil (base:Nat) (w:World):Way base w (.slice none 0 0) []:=⟨[],rfl,World.ownsRow_nil _ _ _ _,fun p hp=>by cases hp⟩
theorem Way.later {base:Nat} {w w':World} {v:Value} {ms:List rf.Msg} (h:Way base w v ms) (hb:Below w.heap.size w w'):Way base w' v ms:=by
 obtain ⟨evs,h1,h2,h3⟩:=h
 exact ⟨evs,h1,owns_below h2 hb,fun p hp=>(h3 p hp).later hb⟩
theorem Way.apart {base:Nat} {S:List Nat} {w w':World} {v:Value} {ms:List rf.Msg} (h:Way base w v ms) (hA:Apart S w w') (hE:∀ x ∈ S,NotEnt w x) (hS:∀ x ∈ S,∀ cur,w.heap[x]? ≠ some (.cells cur 83 (0,0))):Way base w' v ms:=by
 obtain ⟨evs,h1,h2,h3⟩:=h
 refine ⟨evs,h1,owns_apart h2 hA fun g hg hgS=>?_,fun p hp=>(h3 p hp).apart hA hE⟩
 rcases h2.2 with ⟨rfl,_⟩ | ⟨y,cap,cur,rfl,_,hh,_⟩
 ·cases hg
 ·obtain rfl:y=g:=by simpa [Value.ownBlock] using hg
  exact hS y hgS cur hh
structure Kept (B:Nat) (d:vd.Disk) (a:List (List UInt8)) (s:cl.St):Prop where
 wide:∀ t ∈ a,t.length≤65535
 frm:rl.from_ a=((s.t,s.v,s.l),0)
 two:wl.Two RAFT (crcm.flat a) B d.files
 flat:(crcm.flat a).length≤B
 many:a.length≤10000
 cap:2 * B≤d.cap
structure Fp where
 q:Nat
 p:Nat
 b:Nat
 s:Nat
 g:Nat
 A:Option Addr
 c:Nat
 sv:Value
 a:List (List UInt8)
 d:vd.Disk
def Fp.ev (f:Fp) (x:rf.Node):Value:=.slice f.A x.log.length f.c
def peerC (x:rf.Node) (f:Fp) (up:Bool):List Value:=ndC x (f.ev x) ++ [dptr f.p,f.sv,.bool up]
structure PeerOk (B:Nat) (w0 w:World) (P:cl.Nd) (f:Fp):Prop where
 blk:Vb w f.q (peerC P.x f P.up) 67
 ents:EntsB 0 w (f.ev P.x) P.x.log
 ok:NOk P.x
 disk:Ldk w0 w f.p f.b f.d
 hq:w0.heap.size≤f.q
 kept:Kept B f.d f.a P.s
 sv:∃ o,f.sv=.pointer o
 up:P.up=true→f.d.off=false∧f.sv=.pointer (some ⟨f.s,0,none⟩)∧kSt w f.s f.g∧Lg w f.g f.p ⟨RAFT,f.a.length,false⟩∧w0.heap.size≤f.g∧w0.heap.size≤f.s
def Fp.blocks (f:Fp) (up:Bool):List Nat:=if up then [f.q,f.p,f.b,f.s,f.g] else [f.q,f.p,f.b]
theorem PeerOk.apart {B:Nat} {w0 w w':World} {P:cl.Nd} {f:Fp} {S:List Nat} (h:PeerOk B w0 w P f) (hA:Apart S w w') (hE:∀ x ∈ S,NotEnt w x) (hS:∀ x ∈ S,w0.heap.size≤x) (hx:∀ y ∈ f.blocks P.up,y ∉ S):PeerOk B w0 w' P f:=by
 have hq:f.q ∉ S:=hx _ (by unfold Fp.blocks;split <;> simp)
 have hp:f.p ∉ S:=hx _ (by unfold Fp.blocks;split <;> simp)
 have hb:f.b ∉ S:=hx _ (by unfold Fp.blocks;split <;> simp)
 refine ⟨h.blk.apart hA hq,h.ents.apart hA hE,h.ok,h.disk.next hA hS (h.disk.dk.apart hA hp hb) h.disk.ok rfl,h.hq,h.kept,h.sv,fun hu=>?_⟩
 obtain ⟨u2,u3,u4,u5,u6,u7⟩:=h.up hu
 have hs:f.s ∉ S:=hx _ (by unfold Fp.blocks;rw [hu];simp)
 have hg:f.g ∉ S:=hx _ (by unfold Fp.blocks;rw [hu];simp)
 exact ⟨u2,u3,Vb.apart u4 hA hs,Vb.apart u5 hA hg,u6,u7⟩
theorem PeerOk.later {B:Nat} {w0 w w':World} {P:cl.Nd} {f:Fp} (h:PeerOk B w0 w P f) (hb:Below w.heap.size w w'):PeerOk B w0 w' P f:=
 h.apart (Apart.of_below hb []) (fun x hx=>by cases hx) (fun x hx=>by cases hx) (fun _ _ hx=>by cases hx)
structure CluAt (B:Nat) (w0 w:World) (c R:Nat) (C:cl.Clu) (F:Nat→Fp) (k:Nat) (wv:Value):Prop where
 bel:Below w0.heap.size w0 w
 blk:Vb w c [.slice (some ⟨R,0,none⟩) C.n k,wv] 63
 hc:w0.heap.size≤c
 hR:w0.heap.size≤R
 row:∃ us:List Value,Vb w R us 64∧∀ i,i < C.n→us[i]?=some (.pointer (some ⟨(F i).q,0,none⟩))
 n7:C.n≤7
 peers:∀ i,i < C.n→PeerOk B w0 w (C.p i) (F i)
 way:Way w0.heap.size w wv C.way
 w200:C.way.length≤2000
 sep:∀ i j,i < C.n→j < C.n→i ≠ j→(F i).q ≠ (F j).q∧(F i).p ≠ (F j).p∧(F i).b ≠ (F j).b∧((C.p i).up=true→(C.p j).up=true→(F i).s ≠ (F j).s∧(F i).g ≠ (F j).g)
section
variable {B:Nat} {w0 w:World} {c R:Nat} {C:cl.Clu} {F:Nat→Fp} {k:Nat} {wv:Value}
theorem CluAt.c0 (h:CluAt B w0 w c R C F k wv):w.cell? ⟨c,0,none⟩=some (.slice (some ⟨R,0,none⟩) C.n k):=h.blk.cell 0 _ rfl
theorem CluAt.c1 (h:CluAt B w0 w c R C F k wv):w.cell? ⟨c,1,none⟩=some wv:=h.blk.cell 1 _ rfl
theorem CluAt.at_ (h:CluAt B w0 w c R C F k wv) {i:Nat} (hi:i < C.n):w.cell? ⟨R,i,none⟩=some (.pointer (some ⟨(F i).q,0,none⟩)):=by
 obtain ⟨us,h1,h2⟩:=h.row
 exact h1.cell i _ (h2 i hi)
theorem CluAt.upc (h:CluAt B w0 w c R C F k wv) {i:Nat} (hi:i < C.n):w.cell? ⟨(F i).q,32,none⟩=some (.bool (C.p i).up):=
 (h.peers i hi).blk.cell 32 _ (by unfold peerC;rw [List.getElem?_append_right (by rw [ndC_len (h.peers i hi).ok];omega),ndC_len (h.peers i hi).ok];rfl)
theorem CluAt.later {w':World} (h:CluAt B w0 w c R C F k wv) (hb:Below w.heap.size w w'):CluAt B w0 w' c R C F k wv:=by
 obtain ⟨us,h1,h2⟩:=h.row
 exact ⟨h.bel.trans (hb.mono h.bel.size),(hb.block _ h.blk.lt).trans h.blk,h.hc,h.hR,⟨us,(hb.block _ h1.lt).trans h1,h2⟩,h.n7,fun i hi=>(h.peers i hi).later hb,h.way.later hb,h.w200,h.sep⟩
theorem CluAt.two (h:CluAt B w0 w c R C F k wv) {i j x:Nat} (hi:i < C.n) (hj:j < C.n) (hne:j ≠ i) (hx:x=(F i).q∨x=(F i).p∨x=(F i).b∨((C.p i).up=true∧x=(F i).g)):x ∉ (F j).blocks (C.p j).up:=by
 have pi:=h.peers i hi
 have pj:=h.peers j hj
 obtain ⟨s1,s2,s3,s4⟩:=h.sep i j hi hj (fun e=>hne e.symm)
 intro hm
 have hm2:x=(F j).q∨x=(F j).p∨x=(F j).b∨((C.p j).up=true∧(x=(F j).s∨x=(F j).g)):=by
  unfold Fp.blocks at hm
  split at hm
  ·rename_i hu
   simp only [List.mem_cons,List.not_mem_nil,or_false] at hm
   rcases hm with e | e | e | e | e
   ·exact .inl e
   ·exact .inr (.inl e)
   ·exact .inr (.inr (.inl e))
   ·exact .inr (.inr (.inr ⟨hu,.inl e⟩))
   ·exact .inr (.inr (.inr ⟨hu,.inr e⟩))
  ·simp only [List.mem_cons,List.not_mem_nil,or_false] at hm
   rcases hm with e | e | e
   ·exact .inl e
   ·exact .inr (.inl e)
   ·exact .inr (.inr (.inl e))
 clear hm
 rcases hx with rfl | rfl | rfl | ⟨hu,rfl⟩
 ·rcases hm2 with e | e | e | ⟨hv,e | e⟩
  ·exact s1 e
  ·exact ne_of_type pi.blk pj.disk.dk.blk (by decide) e
  ·exact ne_map pi.blk pj.disk.dk.map e
  ·obtain ⟨_,_,v3,v4,_⟩:=pj.up hv
   exact ne_of_type pi.blk v3 (by decide) e
  ·obtain ⟨_,_,v3,v4,_⟩:=pj.up hv
   exact ne_of_type pi.blk v4 (by decide) e
 ·rcases hm2 with e | e | e | ⟨hv,e | e⟩
  ·exact ne_of_type pj.blk pi.disk.dk.blk (by decide) e.symm
  ·exact s2 e
  ·exact ne_map pi.disk.dk.blk pj.disk.dk.map e
  ·obtain ⟨_,_,v3,v4,_⟩:=pj.up hv
   exact ne_of_type pi.disk.dk.blk v3 (by decide) e
  ·obtain ⟨_,_,v3,v4,_⟩:=pj.up hv
   exact ne_of_type pi.disk.dk.blk v4 (by decide) e
 ·rcases hm2 with e | e | e | ⟨hv,e | e⟩
  ·exact ne_map pj.blk pi.disk.dk.map e.symm
  ·exact ne_map pj.disk.dk.blk pi.disk.dk.map e.symm
  ·exact s3 e
  ·obtain ⟨_,_,v3,v4,_⟩:=pj.up hv
   exact ne_map v3 pi.disk.dk.map e.symm
  ·obtain ⟨_,_,v3,v4,_⟩:=pj.up hv
   exact ne_map v4 pi.disk.dk.map e.symm
 ·obtain ⟨_,_,u3,u4,_⟩:=pi.up hu
  rcases hm2 with e | e | e | ⟨hv,e | e⟩
  ·exact ne_of_type pj.blk u4 (by decide) e.symm
  ·exact ne_of_type pj.disk.dk.blk u4 (by decide) e.symm
  ·exact ne_map u4 pj.disk.dk.map e
  ·obtain ⟨_,_,v3,v4,_⟩:=pj.up hv
   exact ne_of_type u4 v3 (by decide) e
  ·exact (s4 hu hv).2 e
theorem CluAt.peer {w':World} {i:Nat} {P:cl.Nd} {f:Fp} {S:List Nat} (h:CluAt B w0 w c R C F k wv) (hi:i < C.n) (hA:Apart S w w') (hS:∀ x ∈ S,x=(F i).q∨x=(F i).p∨x=(F i).b∨((C.p i).up=true∧x=(F i).g))
  (hp:PeerOk B w0 w' P f) (hq:f.q=(F i).q∧f.p=(F i).p∧f.b=(F i).b) (hsg:P.up=true→((C.p i).up=true∧f.s=(F i).s∧f.g=(F i).g)∨(w.heap.size≤f.s∧w.heap.size≤f.g)) :
  CluAt B w0 w' c R { C with p:=cl.upd C.p i P } (cl.upd F i f) k wv:=by
 have pi:=h.peers i hi
 have hno:∀ x ∈ S,NotEnt w x:=fun x hx=>by
  rcases hS x hx with rfl | rfl | rfl | ⟨hu,rfl⟩
  ·exact notEnt_of pi.blk (by decide)
  ·exact notEnt_of pi.disk.dk.blk (by decide)
  ·exact notEnt_map pi.disk.dk.map
  ·exact notEnt_of (pi.up hu).2.2.2.1 (by decide)
 have hge:∀ x ∈ S,w0.heap.size≤x:=fun x hx=>by
  rcases hS x hx with rfl | rfl | rfl | ⟨hu,rfl⟩
  ·exact pi.hq
  ·exact pi.disk.hp
  ·exact pi.disk.hb
  ·exact (pi.up hu).2.2.2.2.1
 have htype:∀ x ∈ S,∀ vs t,Vb w x vs t→t=67∨t=90∨t=121:=fun x hx vs t hv=>by
  have key:∀ us u,Vb w x us u→t=u:=fun us u hu=>by
   unfold Vb at hv hu
   rw [hv] at hu
   injection hu with hu
   injection hu
  rcases hS x hx with rfl | rfl | rfl | ⟨hu,rfl⟩
  ·exact .inl (key _ _ pi.blk)
  ·exact .inr (.inl (key _ _ pi.disk.dk.blk))
  ·exact absurd rfl (ne_map hv pi.disk.dk.map)
  ·exact .inr (.inr (key _ _ (pi.up hu).2.2.2.1))
 obtain ⟨us,r1,r2⟩:=h.row
 have hcS:c ∉ S:=fun hx=>by rcases htype c hx _ _ h.blk with e | e | e <;> exact absurd e (by decide)
 have hRS:R ∉ S:=fun hx=>by rcases htype R hx _ _ r1 with e | e | e <;> exact absurd e (by decide)
 have eF:∀ j,(cl.upd F i f j).q=(F j).q∧(cl.upd F i f j).p=(F j).p∧(cl.upd F i f j).b=(F j).b:=fun j=>by
  by_cases hj:j=i
  ·subst hj;rw [cl.upd_same];exact hq
  ·rw [cl.upd_other _ _ hj];exact ⟨rfl,rfl,rfl⟩
 refine ⟨h.bel.trans (hA.below _ h.bel.size hge),h.blk.apart hA hcS,h.hc,h.hR,⟨us,r1.apart hA hRS,fun j hj=>by rw [(eF j).1];exact r2 j hj⟩,h.n7,fun j hj=>?_,h.way.apart hA hno fun x hx cur e=>?_,h.w200,fun j l hj hl hne=>?_⟩
 ·show PeerOk B w0 w' (cl.upd C.p i P j) (cl.upd F i f j)
  by_cases hji:j=i
  ·subst hji
   rw [cl.upd_same,cl.upd_same]
   exact hp
  ·rw [cl.upd_other _ _ hji,cl.upd_other _ _ hji]
   exact (h.peers j hj).apart hA hno hge fun y hy hyS=>h.two hi hj hji (hS y hyS) hy
 ·have hv:Vb w x cur.toList 83:=by unfold Vb;rw [Array.toArray_toList];exact e
  rcases htype x hx _ _ hv with e | e | e <;> exact absurd e (by decide)
 ·obtain ⟨s1,s2,s3,s4⟩:=h.sep j l hj hl hne
  refine ⟨by rw [(eF j).1,(eF l).1];exact s1,by rw [(eF j).2.1,(eF l).2.1];exact s2,by rw [(eF j).2.2,(eF l).2.2];exact s3,fun hu hv=>?_⟩
  have hu2:(cl.upd C.p i P j).up=true:=hu
  have hv2:(cl.upd C.p i P l).up=true:=hv
  by_cases hji:j=i
  ·subst hji
   have hlj:l ≠ j:=fun e=>hne e.symm
   rw [cl.upd_same] at hu2
   rw [cl.upd_other _ _ hlj] at hv2
   rw [cl.upd_same,cl.upd_other _ _ hlj]
   rcases hsg hu2 with ⟨g1,g2,g3⟩ | ⟨g1,g2⟩
   ·rw [g2,g3];exact s4 g1 hv2
   ·obtain ⟨_,_,v3,v4,_⟩:=(h.peers l hl).up hv2
    have:=Vb.lt v3
    have:=Vb.lt v4
    omega
  ·rw [cl.upd_other _ _ hji] at hu2
   rw [cl.upd_other F _ hji]
   by_cases hli:l=i
   ·subst hli
    rw [cl.upd_same] at hv2
    rw [cl.upd_same]
    rcases hsg hv2 with ⟨g1,g2,g3⟩ | ⟨g1,g2⟩
    ·rw [g2,g3];exact s4 hu2 g1
    ·obtain ⟨_,_,v3,v4,_⟩:=(h.peers j hj).up hu2
     have:=Vb.lt v3
     have:=Vb.lt v4
     omega
   ·rw [cl.upd_other _ _ hli] at hv2
    rw [cl.upd_other F _ hli]
    exact s4 hu2 hv2
def cptr (c:Nat):Value:=.pointer (some ⟨c,0,none⟩)
theorem has_any (i:Int) (h:CluAt B w0 w c R C F k wv):Calls Tryz.prog 37 #[cptr c,.int .i64 i] w fun e w'=>e=.returned (.bool (decide (0≤i) && decide (i < (C.n:Int))))∧Below w.heap.size w w':=by
 have c0:=h.c0
 obtain ⟨n,hn⟩:∃ n,C.n=n:=⟨_,rfl⟩
 rw [hn] at c0 ⊢
 unfold cptr
 clear h hn
 obtain ⟨r,hr⟩:∃ r,(decide (0≤i) && decide (i < (n:Int)))=r:=⟨_,rfl⟩
 rw [hr]
 by_cases h1:0≤i
 ·rw [decide_eq_true h1,Bool.true_and] at hr
  have e1:decide (0≤i)=true:=decide_eq_true h1
  have HR:=Lib.hid hr
  clear hr
  go_enter Tryz.func37,Tryz.ntmps37
  go_wp2
  go_ret
  exact ⟨by rw [← HR.out];rfl,Below.refl _ _⟩
 ·rw [decide_eq_false h1,Bool.false_and] at hr
  have e1:decide (0≤i)=false:=decide_eq_false h1
  have HR:=Lib.hid hr
  clear hr
  go_enter Tryz.func37,Tryz.ntmps37
  go_wp2
  go_ret
  exact ⟨by rw [← HR.out];rfl,Below.refl _ _⟩
end
end Go.Proofs.YtmcibggjolckoaaGreatDoor
namespace Go.Proofs.YtmcibggjolckoaaGreatDoor
open Go Go.RowKit Go.Deep
set_option maxRecDepth 100000
section
variable {B:Nat} {w0 w:World} {c R:Nat} {C:cl.Clu} {F:Nat→Fp} {k:Nat} {wv:Value}
theorem waiting_any (h:CluAt B w0 w c R C F k wv):Calls Tryz.prog 25 #[cptr c] w fun e w'=>e=.returned (.int .i64 (C.way.length:Int))∧w=w':=by
 have c1:=h.c1
 obtain ⟨A,d,hf⟩:=h.way.form
 subst hf
 obtain ⟨n,hn⟩:∃ n,C.way.length=n:=⟨_,rfl⟩
 rw [hn] at c1 ⊢
 unfold cptr
 clear h hn
 go_enter Tryz.func25,Tryz.ntmps25
 go_wp2
 go_ret
 exact ⟨rfl,rfl⟩
theorem has_yes {i:Nat} (h:CluAt B w0 w c R C F k wv) (hi:i < C.n):Calls Tryz.prog 37 #[cptr c,.int .i64 (i:Int)] w fun e w'=>e=.returned (.bool true)∧Below w.heap.size w w':=by
 have hd:(decide (0≤(i:Int)) && decide ((i:Int) < (C.n:Int)))=true:=by simp;omega
 have:=has_any (i:Int) h
 rw [hd] at this
 exact this
theorem up_yes {i:Nat} (h:CluAt B w0 w c R C F k wv) (hi:i < C.n):Calls Tryz.prog 20 #[cptr c,.int .i64 (i:Int)] w fun e w'=>e=.returned (.bool (C.p i).up)∧Below w.heap.size w w':=by
 have H:=Lib.hid (has_yes h hi)
 have K:Hid (∀ w',Below w.heap.size w w'→w'.cell? ⟨c,0,none⟩=some (.slice (some ⟨R,0,none⟩) C.n k)∧w'.cell? ⟨R,i,none⟩=some (.pointer (some ⟨(F i).q,0,none⟩))∧w'.cell? ⟨(F i).q,32,none⟩=some (.bool (C.p i).up)):=Lib.hid fun w' hb=>⟨(h.later hb).c0,(h.later hb).at_ hi,(h.later hb).upc hi⟩
 obtain ⟨b,hb⟩:∃ b,(C.p i).up=b:=⟨_,rfl⟩
 obtain ⟨q,hq⟩:∃ q,(F i).q=q:=⟨_,rfl⟩
 obtain ⟨n,hn⟩:∃ n,C.n=n:=⟨_,rfl⟩
 rw [hb,hq,hn] at K
 rw [hn] at hi
 rw [hb]
 have hin:(i:Int) < (n:Int):=by omega
 clear h hb hq hn
 unfold cptr at H ⊢
 go_enter Tryz.func20,Tryz.ntmps20
 go_wp2_with (go_at_call 37;refine H.out.mono ?_;rintro e w1 ⟨rfl,hb1⟩;obtain ⟨k0,k1,k2⟩:=K.out w1 hb1)
 go_ret
 exact ⟨by cases b <;> rfl,hb1⟩
theorem CluAt.dsk (h:CluAt B w0 w c R C F k wv) {i:Nat} (hi:i < C.n):w.cell? ⟨(F i).q,30,none⟩=some (dptr (F i).p):=
 (h.peers i hi).blk.cell 30 _ (by unfold peerC;rw [List.getElem?_append_right (by rw [ndC_len (h.peers i hi).ok];omega),ndC_len (h.peers i hi).ok];rfl)
theorem CluAt.sto (h:CluAt B w0 w c R C F k wv) {i:Nat} (hi:i < C.n):w.cell? ⟨(F i).q,31,none⟩=some (F i).sv:=
 (h.peers i hi).blk.cell 31 _ (by unfold peerC;rw [List.getElem?_append_right (by rw [ndC_len (h.peers i hi).ok];omega),ndC_len (h.peers i hi).ok];rfl)
end
end Go.Proofs.YtmcibggjolckoaaGreatDoor
namespace Go.Proofs.YtmcibggjolckoaaGreatDoor
open Go Go.RowKit Go.Deep
set_option maxRecDepth 100000
section
variable {B:Nat} {w0 w:World} {c R:Nat} {C:cl.Clu} {F:Nat→Fp} {k:Nat} {wv:Value}
theorem on_down {i:Nat} (fv:Value) (h:CluAt B w0 w c R C F k wv) (hi:i < C.n) (hu:(C.p i).up=false):Calls Tryz.prog 32 #[cptr c,.int .i64 (i:Int),fv] w fun e w'=>e=.returned (.int .i64 6)∧Below w.heap.size w w':=by
 have H:=Lib.hid (has_yes h hi)
 have K:Hid (∀ w',Below w.heap.size w w'→w'.cell? ⟨c,0,none⟩=some (.slice (some ⟨R,0,none⟩) C.n k)∧w'.cell? ⟨R,i,none⟩=some (.pointer (some ⟨(F i).q,0,none⟩))∧w'.cell? ⟨(F i).q,32,none⟩=some (.bool false)):=Lib.hid fun w' hb=>⟨(h.later hb).c0,(h.later hb).at_ hi,by rw [← hu];exact (h.later hb).upc hi⟩
 obtain ⟨q,hq⟩:∃ q,(F i).q=q:=⟨_,rfl⟩
 obtain ⟨n,hn⟩:∃ n,C.n=n:=⟨_,rfl⟩
 rw [hq,hn] at K
 rw [hn] at hi
 have hin:(i:Int) < (n:Int):=by omega
 clear h hq hn hu
 unfold cptr at H ⊢
 go_enter Tryz.func32,Tryz.ntmps32
 go_wp2_with (go_at_call 37;refine H.out.mono ?_;rintro e w1 ⟨rfl,hb1⟩;obtain ⟨k0,k1,k2⟩:=K.out w1 hb1)
 go_ret
 exact ⟨rfl,hb1⟩
theorem on_up {i:Nat} (G:Nat) (caps:Array Value) (Post:Int→World→World→Prop) (h:CluAt B w0 w c R C F k wv) (hi:i < C.n) (hu:(C.p i).up=true)
  (eg:∀ args w,(callFunc G args).run Tryz.prog w=.ok (.enter G args) w)
  (hcall:∀ w1,Below w.heap.size w w1→Calls Tryz.prog G (#[] ++ #[.pointer (some ⟨(F i).q,0,none⟩)] ++ caps) w1 (fun e w2=>∃ z:Int,e=.returned (.int .i64 z)∧Post z w1 w2)) :
  Calls Tryz.prog 32 #[cptr c,.int .i64 (i:Int),.func (.func G) #[] caps] w fun e w2=>∃ z w1,e=.returned (.int .i64 z)∧Below w.heap.size w w1∧Post z w1 w2:=by
 have H:=Lib.hid (has_yes h hi)
 have K:Hid (∀ w',Below w.heap.size w w'→w'.cell? ⟨c,0,none⟩=some (.slice (some ⟨R,0,none⟩) C.n k)∧w'.cell? ⟨R,i,none⟩=some (.pointer (some ⟨(F i).q,0,none⟩))∧w'.cell? ⟨(F i).q,32,none⟩=some (.bool true)):=Lib.hid fun w' hb=>⟨(h.later hb).c0,(h.later hb).at_ hi,by rw [← hu];exact (h.later hb).upc hi⟩
 obtain ⟨q,hq⟩:∃ q,(F i).q=q:=⟨_,rfl⟩
 obtain ⟨n,hn⟩:∃ n,C.n=n:=⟨_,rfl⟩
 rw [hq,hn] at K
 rw [hq] at hcall
 rw [hn] at hi
 have HC:=Lib.hid hcall
 have hin:(i:Int) < (n:Int):=by omega
 clear h hq hn hu hcall
 unfold cptr at H ⊢
 go_enter Tryz.func32,Tryz.ntmps32
 go_upto_region 5 with (go_at_call 37;refine H.out.mono ?_;rintro e w1 ⟨rfl,hb1⟩;obtain ⟨k0,k1,k2⟩:=K.out w1 hb1)
 have hcall:=HC.out w1 hb1
 have HB1:=Lib.hid hb1
 clear hb1
 go_wp2_with fail
 refine hcall.mono ?_
 rintro e w2 ⟨z,rfl,hP⟩
 go_wp2_with fail
 go_ret
 exact ⟨z,w1,rfl,HB1.out,hP⟩
end
end Go.Proofs.YtmcibggjolckoaaGreatDoor
namespace Go.Proofs.YtmcibggjolckoaaGreatDoor
open Go Go.RowKit Go.Deep
set_option maxRecDepth 100000
theorem Vb.cellsAt {g:Nat} {t:TypeId}:∀ (vs:List Value) (o:Nat) (w:World) (us:List Value),Vb w g us t→o + vs.length≤us.length→Vb (w.setCells g o vs) g (us.take o ++ vs ++ us.drop (o + vs.length)) t
 | [],o,w,us,h,_=>by
  show Vb w g _ t
  rw [List.append_nil,List.length_nil,Nat.add_zero,List.take_append_drop]
  exact h
 | v :: r,o,w,us,h,hl=>by
  have hl2:o + 1 + r.length≤us.length:=by rw [List.length_cons] at hl;omega
  have ih:=Vb.cellsAt r (o + 1) (w.setCell ⟨g,o,none⟩ v) (us.set o v) (h.set o v) (by rw [List.length_set];exact hl2)
  have e1:(us.set o v).take (o + 1)=us.take o ++ [v]:=by
   rw [List.take_add_one,List.take_set_of_le (Nat.le_refl _),List.getElem?_set_self (by omega)]
   rfl
  have e2:(us.set o v).drop (o + 1 + r.length)=us.drop (o + (v :: r).length):=by
   rw [List.drop_set_of_lt (by omega),List.length_cons,show o + 1 + r.length=o + (r.length + 1) by omega]
  rw [e1,e2] at ih
  show Vb ((w.setCell ⟨g,o,none⟩ v).setCells g (o + 1) r) g _ t
  rw [show us.take o ++ (v :: r)=us.take o ++ [v] ++ r by simp]
  exact ih
theorem apart_cells (g:Nat):∀ (vs:List Value) (o:Nat) (w:World),Apart [g] w (w.setCells g o vs)
 | [],_,_=>Apart.refl _ _
 | v :: r,o,w=>(Apart.setCell w g o v).trans (apart_cells g r (o + 1) _)
theorem Vb.there {w:World} {g:Nat} {us:List Value} {t:TypeId} (h:Vb w g us t) {o n:Nat} (hl:o + n≤us.length):w.there g o n:=fun j hj=>by
 refine ⟨?_,Blk.free h (o + j)⟩
 have:=h.cell (o + j) _ (List.getElem?_eq_getElem (by omega))
 rw [this]
 rfl
section
variable {w0 w:World} {p b:Nat} {d:vd.Disk}
theorem ld_fuse (n k:Int) (h:Ldk w0 w p b d) (hn:n≤9223372036854775807) :
  Calls Tryz.prog 39 #[.pointer (some ⟨p,0,none⟩),.int .i64 n,.int .i64 k] w (fun e w'=>e=.returned (.tuple #[])∧Ldk w0 w' p b { d with left:=(max n 0).toNat,keep:=k }∧Apart [p] w w'):=
 (vd_fuse h.dk n k).mono (by
  rintro e w' ⟨h1,h2,h3⟩
  exact ⟨h1,h.next h3 (by have:=h.hp;simp;omega) h2 ⟨h.ok.cap,h.ok.tot,h.ok.nod,h.ok.syn,h.ok.nam,by show (max n 0).toNat≤_;omega⟩ rfl,h3⟩)
theorem ld_on (h:Ldk w0 w p b d) :
  Calls Tryz.prog 40 #[.pointer (some ⟨p,0,none⟩)] w (fun e w'=>e=.returned (.tuple #[])∧Ldk w0 w' p b { d with off:=false,left:=0 }∧Apart [p] w w'):=
 (vd_on h.dk).mono (by
  rintro e w' ⟨h1,h2,h3⟩
  exact ⟨h1,h.next h3 (by have:=h.hp;simp;omega) h2 ⟨h.ok.cap,h.ok.tot,h.ok.nod,h.ok.syn,h.ok.nam,by show 0≤_;omega⟩ rfl,h3⟩)
theorem ld_crash (keep:Int) (h:Ldk w0 w p b d) :
  Calls Tryz.prog 56 #[.pointer (some ⟨p,0,none⟩),.int .i64 keep] w (fun e w'=>e=.returned (.tuple #[])∧Ldk w0 w' p b (vd.crash d keep)∧Apart [p,b] w w'):=
 (vd_crash keep h.dk h.ok).mono (by
  rintro e w' ⟨h1,h2,h3⟩
  exact ⟨h1,h.next h3 (by have:=h.hp;have:=h.hb;simp;omega) h2 (vd.ok_crash h.ok keep) rfl,h3⟩)
end
theorem Kept.crash {B:Nat} {d:vd.Disk} {a:List (List UInt8)} {s:cl.St} (h:Kept B d a s) (keep:Int):Kept B (vd.crash d keep) a s:=
 ⟨h.wide,h.frm,wl.two_crash keep h.two,h.flat,h.many,h.cap⟩
def Fp.down (f:Fp) (d:vd.Disk):Fp:={ f with A:=none,c:=0,d:=d }
theorem zero_ok:NOk zeroN:=⟨rfl,rfl,rfl,by intro x hx;simp [zeroN] at hx;omega,by intro x hx;simp [zeroN] at hx;omega⟩
structure PeerB (B:Nat) (w0 w:World) (P:cl.Nd) (f:Fp):Prop where
 blk:Vb w f.q (peerC P.x f P.up) 67
 ok:NOk P.x
 disk:Ldk w0 w f.p f.b f.d
 hq:w0.heap.size≤f.q
 kept:Kept B f.d f.a P.s
 sv:∃ o,f.sv=.pointer o
theorem PeerOk.base {B:Nat} {w0 w:World} {P:cl.Nd} {f:Fp} (h:PeerOk B w0 w P f):PeerB B w0 w P f:=⟨h.blk,h.ok,h.disk,h.hq,h.kept,h.sv⟩
set_option maxHeartbeats 4000000 in
theorem crash_any {B:Nat} {w0 w:World} {P:cl.Nd} {f:Fp} (keep:Int) (h:PeerB B w0 w P f) :
  Calls Tryz.prog 44 #[.pointer (some ⟨f.q,0,none⟩),.int .i64 keep] w fun e w'=>e=.returned (.tuple #[])∧PeerOk B w0 w' ⟨P.s,false,zeroN⟩ (f.down (vd.crash f.d keep))∧Apart [f.q,f.p,f.b] w w':=by
 have hql:=h.blk.lt
 have h30:w.cell? ⟨f.q,30,none⟩=some (dptr f.p):=h.blk.cell 30 _ (by unfold peerC;rw [List.getElem?_append_right (by rw [ndC_len h.ok];omega),ndC_len h.ok];rfl)
 have HD:=Lib.hid (ld_crash keep h.disk)
 have hqp:f.q ≠ f.p:=ne_of_type h.blk h.disk.dk.blk (by decide)
 have hqb:f.q ≠ f.b:=ne_map h.blk h.disk.dk.map
 have HH:=Lib.hid h
 have HQ:Hid (f.q ∉ [f.p,f.b]):=Lib.hid (by simp [hqp,hqb])
 obtain ⟨q,hq⟩:∃ q,f.q=q:=⟨_,rfl⟩
 rw [hq] at h30 ⊢
 have HQE:=Lib.hid hq
 unfold dptr at h30
 clear h hqp hqb hql hq
 go_enter Tryz.func44,Tryz.ntmps44
 go_upto_region 1 with (go_at_call 56;refine HD.out.mono ?_;rintro e w1 ⟨rfl,hd1,hA1⟩)
 have hb1:Vb w1 f.q (peerC P.x f P.up) 67:=HH.out.blk.apart hA1 HQ.out
 have hset:(peerC P.x f P.up).set 32 (.bool false)=peerC P.x f false:=by
  have hl:=ndC_len HH.out.ok (f.ev P.x)
  unfold peerC
  rw [List.set_append_right _ _ (by omega),hl]
  rfl
 have hlen:(peerC P.x f false).length=33:=by unfold peerC;rw [List.length_append,ndC_len HH.out.ok];rfl
 have c32:w1.cell? ⟨f.q,32,none⟩=some (.bool P.up):=hb1.cell 32 _ (by unfold peerC;rw [List.getElem?_append_right (by rw [ndC_len HH.out.ok];omega),ndC_len HH.out.ok];rfl)
 have f32:=Blk.free hb1 32
 have hb2:=hb1.set 32 (.bool false)
 rw [hset] at hb2
 have hov:=Vb.cellsAt (ndC zeroN nilV) 0 _ _ hb2 (by rw [hlen];decide)
 have hth:=hb2.there (o:=0) (n:=(ndC zeroN nilV).toArray.size) (by rw [hlen];decide)
 have hA2:=(Apart.setCell w1 f.q 32 (.bool false)).trans (apart_cells f.q (ndC zeroN nilV) 0 (w1.setCell ⟨f.q,32,none⟩ (.bool false)))
 have hdrop:(peerC P.x f false).take 0 ++ ndC zeroN nilV ++ (peerC P.x f false).drop (0 + (ndC zeroN nilV).length)=peerC zeroN (f.down (vd.crash f.d keep)) false:=by
  have hl:=ndC_len HH.out.ok (f.ev P.x)
  have hz:(ndC zeroN nilV).length=30:=rfl
  rw [hz,List.take_zero,List.nil_append,Nat.zero_add]
  unfold peerC
  rw [List.drop_append_of_le_length (by omega),List.drop_of_length_le (by omega),List.nil_append]
  rfl
 rw [hdrop] at hov
 have hfin:PeerOk B w0 ((w1.setCell ⟨f.q,32,none⟩ (.bool false)).setCells f.q 0 (ndC zeroN nilV)) ⟨P.s,false,zeroN⟩ (f.down (vd.crash f.d keep)):=by
  refine ⟨hov,EntsB.nil 0 _,zero_ok,?_,HH.out.hq,HH.out.kept.crash keep,HH.out.sv,fun h=>by cases h⟩
  have hqp:f.p ∉ [f.q]:=by have:=HQ.out;simp at this ⊢;omega
  have hqb:f.b ∉ [f.q]:=by have:=HQ.out;simp at this ⊢;omega
  exact hd1.next hA2 (by have:=HH.out.hq;simp;omega) (hd1.dk.apart hA2 hqp hqb) hd1.ok rfl
 have hap:Apart [f.q,f.p,f.b] w ((w1.setCell ⟨f.q,32,none⟩ (.bool false)).setCells f.q 0 (ndC zeroN nilV)):=
  hA1.then hA2 (fun x hx=>.inl (by simp at hx ⊢;omega)) (fun x hx=>.inl (by simp at hx ⊢;omega))
 have HF:=Lib.hid hfin
 have HAP:=Lib.hid hap
 rw [HQE.out] at c32 f32 hth HF HAP
 have HTH:=Lib.hid hth
 clear hb1 hset hlen hb2 hov hA2 hdrop hfin hap hd1 hA1 hth
 go_upto_region 2 with fail
 clear c32 f32
 go_wp2_with (refine wpList_store_mid rfl 50 (.tmp 16) (.tmp 14) rfl q 0 (ndC zeroN nilV).toArray rfl rfl HTH.out (by rw [node_size];rfl) (ndC_one rfl) ?_)
 go_end0
 exact ⟨rfl,HF.out,HAP.out⟩
end Go.Proofs.YtmcibggjolckoaaGreatDoor
namespace Go.Proofs.YtmcibggjolckoaaGreatDoor
open Go Go.RowKit Go.Deep
set_option maxRecDepth 100000
def flatM (l:List (rf.Msg × Value)):List Value:=l.flatMap fun p=>msgC p.1 p.2
theorem flatM_len (l:List (rf.Msg × Value)):(flatM l).length=l.length * 9:=by
 induction l with
 | nil=>rfl
 | cons x r ih=>
  have e:flatM (x :: r)=msgC x.1 x.2 ++ flatM r:=rfl
  rw [e,List.length_append,ih,List.length_cons]
  show 9 + _=_
  omega
theorem flatM_drop (l:List (rf.Msg × Value)) (k:Nat):(flatM l).drop (k * 9)=flatM (l.drop k):=by
 induction k generalizing l with
 | zero=>rw [Nat.zero_mul];rfl
 | succ k ih=>
  cases l with
  | nil=>simp [flatM]
  | cons x r=>
   have e:flatM (x :: r)=msgC x.1 x.2 ++ flatM r:=rfl
   have h9:(msgC x.1 x.2).length=9:=rfl
   rw [e,List.drop_append,List.drop_of_length_le (by rw [h9];omega),List.nil_append,h9,show (k + 1) * 9 - 9=k * 9 by omega,ih]
   rfl
theorem zip_len {ms:List rf.Msg} {evs:List Value} (h:evs.length=ms.length):(ms.zip evs).length=ms.length:=by rw [List.length_zip];omega
theorem flatM_one {w:World} {base:Nat} {l:List (rf.Msg × Value)} (h:∀ p ∈ l,EntsB base w p.2 p.1.ents):∀ u ∈ flatM l,u.oneCell'=true:=by
 intro u hu
 unfold flatM at hu
 obtain ⟨p,hp,hm⟩:=List.mem_flatMap.1 hu
 obtain ⟨A,c,e⟩:=(h p hp).form
 rw [e] at hm
 simp only [msgC,List.mem_cons,List.not_mem_nil,or_false] at hm
 rcases hm with rfl | rfl | rfl | rfl | rfl | rfl | rfl | rfl | rfl <;> rfl
theorem Way.cells {base:Nat} {w:World} {A:Option Addr} {c n:Nat} {ms:List rf.Msg} (h:Way base w (.slice A n c) ms):n=ms.length∧∃ evs:List Value,evs.length=ms.length∧w.ownsRow base 83 9 (.slice A n c) ms.length (flatM (ms.zip evs))∧(∀ p ∈ ms.zip evs,EntsB 0 w p.2 p.1.ents) ∧
  (0 < n→∃ g,A=some ⟨g,0,none⟩∧∀ j u,(flatM (ms.zip evs))[j]?=some u→w.cell? ⟨g,j,none⟩=some u):=by
 obtain ⟨A',c',hf⟩:=h.form
 obtain ⟨evs,h1,h2,h3⟩:=h
 have hn:n=ms.length:=by injection hf
 refine ⟨hn,evs,h1,h2,h3,fun h0=>?_⟩
 rcases h2.2 with ⟨e1,e2⟩ | ⟨g,cap,cur,e1,_,hh,_⟩
 ·omega
 ·refine ⟨g,by injection e1,fun j u hj=>?_⟩
  have hc:=h2.cells (g:=g) (by rw [e1];rfl) j u hj
  rw [addr_add,Nat.zero_add] at hc
  exact hc
section
variable {B:Nat} {w0 w:World} {c R:Nat} {C:cl.Clu} {F:Nat→Fp} {k:Nat} {wv:Value}
theorem CluAt.setWay {w':World} {S:List Nat} {v':Value} {ms':List rf.Msg} (h:CluAt B w0 w c R C F k wv) (hA:Apart S w w') (hS:∀ x ∈ S,w0.heap.size≤x∧∃ cur,w.heap[x]?=some (.cells cur 83 (0,0)))
  (hv:Way w0.heap.size w' v' ms') (hl:ms'.length≤2000):CluAt B w0 (w'.setCell ⟨c,1,none⟩ v') c R { C with way:=ms' } F k v':=by
 have hty:∀ x ∈ S,∀ vs t,Vb w x vs t→t=83:=fun x hx vs t ht=>by
  obtain ⟨_,cur,e⟩:=hS x hx
  unfold Vb at ht
  rw [ht] at e
  injection e with e
  injection e
 have hno:∀ x ∈ S,NotEnt w x:=fun x hx cur2 e2=>by
  obtain ⟨_,cur,e⟩:=hS x hx
  rw [e] at e2
  injection e2 with e2
  injection e2 with _ e2 _
  exact absurd e2 (by decide)
 have hge:∀ x ∈ S,w0.heap.size≤x:=fun x hx=>(hS x hx).1
 have hmap:∀ x ∈ S,∀ b M,FMap w b M→x ≠ b:=fun x hx b M hb e=>by
  subst e
  obtain ⟨_,cur,e⟩:=hS x hx
  obtain ⟨es,cc,hb2,_⟩:=hb
  rw [e] at hb2
  cases hb2
 obtain ⟨us,r1,r2⟩:=h.row
 have hcS:c ∉ S:=fun hx=>absurd (hty c hx _ _ h.blk) (by decide)
 have hRS:R ∉ S:=fun hx=>absurd (hty R hx _ _ r1) (by decide)
 have hA2:=Apart.setCell w' c 1 v'
 have hb1:=h.blk.apart hA hcS
 have hne2:∀ x ∈ [c],NotEnt w' x:=fun x hx=>by
  obtain rfl:x=c:=by simpa using hx
  exact notEnt_of hb1 (by decide)
 have hge2:∀ x ∈ [c],w0.heap.size≤x:=fun x hx=>by
  obtain rfl:x=c:=by simpa using hx
  exact h.hc
 refine ⟨(h.bel.trans (hA.below _ h.bel.size hge)).trans (hA2.below _ (Nat.le_trans h.bel.size hA.size) hge2),hb1.set 1 v',h.hc,h.hR,⟨us,(r1.apart hA hRS).apart hA2 (fun hx=>?_),r2⟩,h.n7,fun j hj=>?_,hv.apart hA2 hne2 fun x hx cur e=>?_,hl,h.sep⟩
 ·have:R=c:=by simpa using hx
  exact ne_of_type r1 h.blk (by decide) this
 ·have pj:=h.peers j hj
  have p1:=pj.apart hA hno hge fun y hy hyS=>by
   unfold Fp.blocks at hy
   split at hy
   ·rename_i hu
    obtain ⟨_,_,v3,v4,_⟩:=pj.up hu
    simp only [List.mem_cons,List.not_mem_nil,or_false] at hy
    rcases hy with rfl | rfl | rfl | rfl | rfl
    ·exact absurd (hty _ hyS _ _ pj.blk) (by decide)
    ·exact absurd (hty _ hyS _ _ pj.disk.dk.blk) (by decide)
    ·exact hmap _ hyS _ _ pj.disk.dk.map rfl
    ·exact absurd (hty _ hyS _ _ v3) (by decide)
    ·exact absurd (hty _ hyS _ _ v4) (by decide)
   ·simp only [List.mem_cons,List.not_mem_nil,or_false] at hy
    rcases hy with rfl | rfl | rfl
    ·exact absurd (hty _ hyS _ _ pj.blk) (by decide)
    ·exact absurd (hty _ hyS _ _ pj.disk.dk.blk) (by decide)
    ·exact hmap _ hyS _ _ pj.disk.dk.map rfl
  refine p1.apart hA2 hne2 hge2 fun y hy hyc=>?_
  obtain rfl:y=c:=by simpa using hyc
  unfold Fp.blocks at hy
  split at hy
  ·rename_i hu
   obtain ⟨_,_,v3,v4,_⟩:=p1.up hu
   simp only [List.mem_cons,List.not_mem_nil,or_false] at hy
   rcases hy with e | e | e | e | e
   ·exact ne_of_type hb1 p1.blk (by decide) e
   ·exact ne_of_type hb1 p1.disk.dk.blk (by decide) e
   ·exact ne_map hb1 p1.disk.dk.map e
   ·exact ne_of_type hb1 v3 (by decide) e
   ·exact ne_of_type hb1 v4 (by decide) e
  ·simp only [List.mem_cons,List.not_mem_nil,or_false] at hy
   rcases hy with e | e | e
   ·exact ne_of_type hb1 p1.blk (by decide) e
   ·exact ne_of_type hb1 p1.disk.dk.blk (by decide) e
   ·exact ne_map hb1 p1.disk.dk.map e
 ·obtain rfl:x=c:=by simpa using hx
  unfold Vb at hb1
  rw [hb1] at e
  injection e with e
  injection e with _ e _
  exact absurd e (by decide)
theorem CluAt.wayRow (h:CluAt B w0 w c R C F k wv) {g:Nat} (hg:wv.ownBlock=some g):w0.heap.size≤g∧∃ cur,w.heap[g]?=some (.cells cur 83 (0,0)):=by
 obtain ⟨evs,_,h2,_⟩:=h.way
 rcases h2.2 with ⟨e1,_⟩ | ⟨y,cap,cur,e1,hb,hh,_⟩
 ·rw [e1] at hg;cases hg
 ·obtain rfl:y=g:=by rw [e1] at hg;simpa [Value.ownBlock] using hg
  exact ⟨hb,cur,hh⟩
end
theorem Sent.way {base b2:Nat} {w:World} {sv:Value} {ms:List rf.Msg} (h:Sent base w sv ms) (hb:b2≤base):Way b2 w sv ms:=by
 obtain ⟨evs,h1,h2,h3⟩:=h
 refine ⟨evs,h1,⟨h2.1,?_⟩,fun p hp=>(h3 p hp).re⟩
 rcases h2.2 with h4 | ⟨g,cap,cur,e,hg,hr⟩
 ·exact .inl h4
 ·exact .inr ⟨g,cap,cur,e,Nat.le_trans hb hg,hr⟩
def MineT (t:TypeId):Prop:=t=67∨t=90∨t=121∨t=63∨t=83
def Mine (o:Obj):Prop:=∃ cur t z,o=.cells cur t z∧MineT t
structure Stay (F:Nat→Fp) (n:Nat) (w w':World):Prop where
 os:w'.os=w.os
 tape:w'.tape=w.tape
 output:w'.output=w.output
 size:w.heap.size≤w'.heap.size
 block:∀ x o,w.heap[x]?=some o→¬ Mine o→(∀ i,i < n→x ≠ (F i).b)→w'.heap[x]?=some o
theorem Stay.refl (F:Nat→Fp) (n:Nat) (w:World):Stay F n w w:=⟨rfl,rfl,rfl,Nat.le_refl _,fun _ _ h _ _=>h⟩
theorem Stay.trans {F:Nat→Fp} {n:Nat} {a b c:World} (h:Stay F n a b) (k:Stay F n b c):Stay F n a c:=
 ⟨k.os.trans h.os,k.tape.trans h.tape,k.output.trans h.output,Nat.le_trans h.size k.size,fun x o hx hm hb=>k.block x o (h.block x o hx hm hb) hm hb⟩
theorem Stay.of_apart {F:Nat→Fp} {n:Nat} {S:List Nat} {w w':World} (hA:Apart S w w') (hS:∀ x ∈ S,(∃ vs t,Vb w x vs t∧MineT t)∨∃ i,i < n∧x=(F i).b):Stay F n w w':=
 ⟨hA.os,hA.tape,hA.output,hA.size,fun x o hx hm hb=>by
  have hlt:x < w.heap.size:=(Array.getElem?_eq_some_iff.1 hx).1
  rw [hA.block x hlt (fun hxs=>?_)]
  ·exact hx
  ·rcases hS x hxs with ⟨vs,t,h1,h2⟩ | ⟨i,hi,e⟩
   ·unfold Vb at h1
    rw [hx] at h1
    injection h1 with h1
    exact hm ⟨_,_,_,h1,h2⟩
   ·exact hb i hi e⟩
theorem Stay.of_below {F:Nat→Fp} {n:Nat} {w w':World} (h:Below w.heap.size w w'):Stay F n w w':=Stay.of_apart (Apart.of_below h []) fun _ hx=>by cases hx
theorem Stay.fp {F F':Nat→Fp} {n:Nat} {w w':World} (h:Stay F n w w') (e:∀ i,i < n→(F' i).b=(F i).b):Stay F' n w w':=
 ⟨h.os,h.tape,h.output,h.size,fun x o hx hm hb=>h.block x o hx hm fun i hi=>by rw [← e i hi];exact hb i hi⟩
theorem Stay.apart {F:Nat→Fp} {n:Nat} {w w':World} (h:Stay F n w w'):∃ S,Apart S w w'∧∀ x ∈ S,∃ o,w.heap[x]?=some o∧(Mine o∨∃ i,i < n∧x=(F i).b):=by
 classical
 refine ⟨(List.range w.heap.size).filter (fun x=>decide (w'.heap[x]? ≠ w.heap[x]?)),⟨h.os,h.tape,h.output,h.size,fun k hk hn=>?_⟩,fun x hx=>?_⟩
 ·by_cases he:w'.heap[k]?=w.heap[k]?
  ·exact he
  ·exact absurd (List.mem_filter.2 ⟨List.mem_range.2 hk,decide_eq_true he⟩) hn
 ·obtain ⟨h1,h2⟩:=List.mem_filter.1 hx
  have h3:=List.mem_range.1 h1
  refine ⟨_,Array.getElem?_eq_getElem h3,?_⟩
  by_cases hm:Mine w.heap[x]
  ·exact .inl hm
  ·by_cases hb:∃ i,i < n∧x=(F i).b
   ·exact .inr hb
   ·exact absurd (by rw [Array.getElem?_eq_getElem h3];exact h.block x _ (Array.getElem?_eq_getElem h3) hm fun i hi e=>hb ⟨i,hi,e⟩) (of_decide_eq_true h2)
theorem Vb.stay {F:Nat→Fp} {n:Nat} {w w':World} {x:Nat} {vs:List Value} {t:TypeId} (h:Vb w x vs t) (hs:Stay F n w w') (ht:¬ MineT t) (hb:∀ i,i < n→∃ M,FMap w (F i).b M):Vb w' x vs t:=by
 unfold Vb at h ⊢
 refine hs.block x _ h ?_ fun i hi e=>?_
 ·rintro ⟨cur,t',z,e,ht'⟩
  injection e with _ e _
  exact ht (e ▸ ht')
 ·obtain ⟨M,hM⟩:=hb i hi
  exact ne_map (w:=w) h hM e
end Go.Proofs.YtmcibggjolckoaaGreatDoor
