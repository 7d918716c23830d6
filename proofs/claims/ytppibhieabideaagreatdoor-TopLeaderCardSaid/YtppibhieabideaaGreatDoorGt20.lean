/- A part of the walk of the program, and of its plain law. -/
import Derived.Test.YtppibhieabideaaGreatDoorGt19
namespace Go.Proofs.YtppibhieabideaaGreatDoor
set_option maxHeartbeats 4000000
open Go Go.RowKit
set_option maxRecDepth 100000
namespace wl
open vd
def One (n:Name) (S:List UInt8) (M:Files):Prop:=has M n=true∧at_ M n=(S,S.length)∧has M (n ++ [43])=false
theorem del_none (M:Files) (n:Name) (h:has M n=false):vd.del M n=M:=by
 induction M with
 | nil=>rfl
 | cons x r ih=>
  obtain ⟨m,g⟩:=x;unfold has at h
  by_cases h1:m=n
  ·rw [if_pos h1] at h;cases h
  ·rw [if_neg h1] at h;unfold vd.del;rw [if_neg h1,ih h]
theorem put_len (M:Files) (n:Name) (f:File) (h:has M n=true):(put M n f).length=M.length:=by
 induction M with
 | nil=>cases h
 | cons x r ih=>
  obtain ⟨m,g⟩:=x;unfold has at h;unfold put
  by_cases h1:m=n
  ·rw [if_pos h1];rfl
  ·rw [if_neg h1] at h ⊢;rw [List.length_cons,List.length_cons,ih h]
theorem put_one {n:Name} {S T:List UInt8} {M:Files} (h:One n S M):One n T (put M n (T,T.length)):=
 ⟨by rw [has_put];simp,by rw [at_put,if_pos rfl],by rw [has_put,h.2.2];simp⟩
theorem put_total {n:Name} {S T:List UInt8} {M:Files} (h:One n S M):total (put M n (T,T.length)) + S.length=total M + T.length:=by
 have:=total_put M n (T,T.length);rw [h.2.1] at this;exact this
theorem put_apart {n k:Name} {f:File} {M:Files} (h:k ≠ n):at_ (put M n f) k=at_ M k∧has (put M n f) k=has M k:=by
 refine ⟨by rw [at_put,if_neg h],?_⟩
 rw [has_put]
 simp [h]
theorem reset_one {c:Nat} {k:Int} {n:Name} {a b:List (List UInt8)} {l:L} {M:Files} (hok:Ok ⟨c,M,false,0,k⟩) (hl:l.off=false) (hln:l.name=n) (hn:openE n=true) (hb:∀ t ∈ b,t.length≤65535)
  (hM:One n (crcm.flat a) M) (hlen:M.length < 200) (hr:total M + (crcm.flat b).length≤c) :
  reset ⟨c,M,false,0,k⟩ l b=(⟨c,put M n (crcm.flat b,(crcm.flat b).length),false,0,k⟩,{ l with many:=b.length },0):=by
 subst hln;have hd:vd.del M (l.name ++ [43])=M:=del_none _ _ hM.2.2
 have h1:=XB (d:=⟨c,M,false,0,k⟩) ⟨rfl,rfl⟩ hok (l:=l) hl hn b hb hlen (by show total (vd.del M (l.name ++ [43])) + _≤c;rw [hd];exact hr)
 rw [h1]
 show ((⟨c,put (vd.del M (l.name ++ [43])) l.name _,false,0,k⟩:Disk),_,_)=_
 rw [hd]
theorem VZ (M:Files) (n:Name) (f:File) (h:has M n=true) (ha:at_ M n=f):put M n f=M:=by
 induction M with
 | nil=>cases h
 | cons x r ih=>
  obtain ⟨m,g⟩:=x;unfold has at h;unfold at_ at ha;unfold put
  by_cases h1:m=n
  ·rw [if_pos h1] at ha ⊢;rw [ha]
  ·rw [if_neg h1] at h ha ⊢;rw [ih h ha]
theorem has_mapF (φ:Name→File→File) (M:Files) (n:Name):has (mapF φ M) n=has M n:=by
 induction M with
 | nil=>rfl
 | cons x r ih=>
  show (if x.1=n then true else has (mapF φ r) n)=(if x.1=n then true else has r n)
  rw [ih]
theorem at_mapF (φ:Name→File→File) (M:Files) (n:Name) (h:has M n=true):at_ (mapF φ M) n=φ n (at_ M n):=by
 induction M with
 | nil=>cases h
 | cons x r ih=>
  obtain ⟨m,g⟩:=x;unfold has at h
  show (if m=n then φ m g else at_ (mapF φ r) n)=φ n (if m=n then g else at_ r n)
  by_cases h1:m=n
  ·rw [if_pos h1,if_pos h1,h1]
  ·rw [if_neg h1] at h;rw [if_neg h1,if_neg h1];exact ih h
theorem trim_whole (keep:Int) (S:List UInt8):trim keep (S,S.length)=(S,S.length):=by
 unfold trim;have:=stay_le keep (S,S.length)
 have h0:stay keep (S,S.length)=0:=by dsimp only at this;omega
 rw [h0]
 simp
theorem one_crash {n:Name} {S:List UInt8} {M:Files} (keep:Int) (h:One n S M):One n S (mapF (λ_ f=>trim keep f) M):=
 ⟨by rw [has_mapF];exact h.1,by rw [at_mapF _ _ _ h.1,h.2.1];exact trim_whole keep S,by rw [has_mapF];exact h.2.2⟩
theorem crash_total (keep:Int) (M:Files):total (mapF (λ_ f=>trim keep f) M)≤total M:=total_mapF _ _ (λx _=>trim_len keep x.2)
theorem mapF_len (φ:Name→File→File) (M:Files):(mapF φ M).length=M.length:=List.length_map _
theorem one_open {c:Nat} {k:Int} {n:Name} {a:List (List UInt8)} {M:Files} (hn:openE n=true) (ha:∀ t ∈ a,t.length≤65535) (hM:One n (crcm.flat a) M):open_ ⟨c,M,false,0,k⟩ n=(⟨c,M,false,0,k⟩,a,0):=by
 rw [JC ⟨rfl,rfl⟩ hn hM.1 a (by show crcm.allOf (at_ M n).1=(a,(at_ M n).1.length);rw [hM.2.1];exact jR a ha)]
 show ((⟨c,put M n ((at_ M n).1,(at_ M n).1.length),false,0,k⟩:Disk),_,_)=_
 rw [hM.2.1,VZ _ _ _ hM.1 hM.2.1]
end wl
end Go.Proofs.YtppibhieabideaaGreatDoor
namespace Go.Proofs.YtppibhieabideaaGreatDoor
set_option maxHeartbeats 4000000
open Go Go.RowKit Go.Deep
set_option maxRecDepth 100000
set_option maxHeartbeats 2000000 in
theorem Qi (A:Option Addr) (n c:Nat) (xs:List Value) (w:World) (hlen:xs.length=n * 9) (hcells:0 < n→∃ ad,A=some ad∧∀ j u,xs[j]?=some u→w.cell? (ad.add j)=some u) (hone:∀ u ∈ xs,u.oneCell'=true) (hl:n≤100000) :
  Calls Tryz.prog 155 #[.slice A n c] w λe w'=>∃ B d,e=.returned (.slice B n d)∧w'.ownsRow w.heap.size 229 9 (.slice B n d) n xs∧Below w.heap.size w w':=by
 obtain ⟨i0,hi,hz0,hz1,hz2⟩:=info_parts zN
 have q22:∀ (w:World) (a:Option Addr) (n c n' c':Nat),(binOp .eql 91 (.slice a n c) (.slice none n' c')).run Tryz.prog w=.ok (.bool a.isNone) w:=λw a n c n' c'=>Lib.run_eql_slice_nil w _ _ a n c n' c' Tryz.underlying91
 cases A with
 | none=>
  have hz:n=0:=by
   rcases Nat.eq_zero_or_pos n with h | h
   ·exact h
   ·obtain ⟨ad,e,_⟩:=hcells h;cases e
  subst hz
  obtain rfl:xs=[]:=List.eq_nil_of_length_eq_zero (by omega)
  clear hcells hlen hl hone
  go_enter Tryz.func155,Tryz.ntmps155
  go_wp2;go_ret;exact ⟨none,0,rfl,World.ownsRow_nil _ _ _ _,Below.refl _ _⟩
 | some a=>
  have hown0:=World.ownsRow_made (base:=w.heap.size) (e:=229) (size:=9) w #[] 0 (Nat.le_refl _) (by unfold maxLen;omega) rfl
  have hb0:Below w.heap.size w (w.alloc (.cells #[] 229)):=(Below.refl _ w).alloc (Nat.le_refl _) _
  have hcells2:0 < n→∃ ad,some a=some ad∧∀ j u,xs[j]?=some u→(w.alloc (.cells #[] 229)).cell? (ad.add j)=some u:=λh=>by
   obtain ⟨ad,e,hh⟩:=hcells h
   exact ⟨ad,e,λj u hj=>cell_later hb0 (hh j u hj)⟩
  have HB0:=Uq hb0;have HO:=Uq hown0;have HC:=Uq hcells2;have HL:=Uq hlen;have H1:=Uq hone;clear hcells hcells2 hlen hb0 hown0 hone
  go_enter Tryz.func155,Tryz.ntmps155
  go_wp2_with (at_builtin;refine qo _ rfl (.tmp 5) (.tmp 6) 91 rfl w.heap.size 229 i0 _ 9 88 Tryz.underlying91 hi hz0 hz1 hz2 rfl (by decide) (.slice (some ⟨w.heap.size,0,none⟩) 0 0) 0 [] rfl HO.out (some a) n c xs rfl HL.out HC.out H1.out (by unfold maxLen;omega) (by omega) (by simp) ?_;intro v' w' hown' hg')
  have HOWN:=Uq hown'
  have HBF:Hid (Below w.heap.size w w'):=Uq (HB0.out.grown hg' (by simp) (λj hj=>by have e:w.heap.size=j:=(by injection hj);omega))
  clear hown' hg';go_wp2;go_ret;rw [Nat.zero_add,List.nil_append] at HOWN;obtain ⟨B,d,rfl⟩:=ql HOWN.out;exact ⟨B,d,rfl,HOWN.out,HBF.out⟩
end Go.Proofs.YtppibhieabideaaGreatDoor
namespace Go.Proofs.YtppibhieabideaaGreatDoor
set_option maxHeartbeats 4000000
open Go Go.RowKit
set_option maxRecDepth 100000
theorem vn (A B:Option Addr) (c d n:Nat) (la lb:List rl.Ent) (w:World) (hn:la.length=n) (hm:lb.length=n) (hl:n≤100000)
  (hA:∀ k,k < n→∃ b o,A=some ⟨b,o,none⟩∧EntsAt w b o la) (hB:∀ k,k < n→∃ b o,B=some ⟨b,o,none⟩∧EntsAt w b o lb) :
  Calls Tryz.prog 271 #[.slice A n c,.slice B n d] w λe w'=>e=.returned (.bool (decide (la=lb)))∧Below w.heap.size w w':=by
 have e3:((n:Int) != (n:Int))=false:=by simp
 have hgn:∀ k,k < n→la.getD k rl.e0=lb.getD k rl.e0∨la ≠ lb:=λk _=>by
  by_cases h:la=lb
  ·exact .inl (by rw [h])
  ·exact .inr h
 have HGN:=Uq hgn;have HA:=Uq hA;have HB:=Uq hB;have Hn:=Uq hn;have Hm:=Uq hm;clear hA hB hn hm hgn
 go_enter Tryz.func271,Tryz.ntmps271
 go_wp2;obtain ⟨W,hW⟩:∃ W,w=W:=⟨_,rfl⟩
 have hbw:Below w.heap.size w W:=by rw [← hW];exact Below.refl _ _
 have HBW:=Uq hbw;rw [hW];clear hbw
 go_loopw [5,13] (λ_ i wr=>∃ k q:Nat,k≤n∧i=.int .i64 k∧W.drewN q=wr∧∀ j,j < k→la.getD j rl.e0=lb.getD j rl.e0) (λ_ i _=>n - (intOf i).toNat)
 case atStart=>exact ⟨0,0,Nat.zero_le _,rfl,rfl,λj h=>by omega⟩
 case round=>
  obtain ⟨k,q,hk,rfl,rfl,hle⟩:=hrel;have HL:=Uq hle;clear hle
  by_cases hlt:k < n
  ·obtain ⟨b,o,rfl,hA⟩:=HA.out k hlt;obtain ⟨b',o',rfl,hB⟩:=HB.out k hlt
   obtain ⟨x0,x1⟩:=hA k (by rw [Hn.out];exact hlt)
   obtain ⟨y0,y1⟩:=hB k (by rw [Hm.out];exact hlt)
   have x0':=cell_later HBW.out x0;have x1':=cell_later HBW.out x1;have y0':=cell_later HBW.out y0;have y1':=cell_later HBW.out y1;have hor:=HGN.out k hlt;obtain ⟨x,hx⟩:∃ x,la.getD k rl.e0=x:=⟨_,rfl⟩;obtain ⟨y,hy⟩:∃ x,lb.getD k rl.e0=x:=⟨_,rfl⟩;rw [hx] at x0' x1' hor;rw [hy] at y0' y1' hor;have HX:=Uq hx;have HY:=Uq hy;have HO:=Uq hor;clear hA hB x0 x1 y0 y1 hx hy hor
   have hi:(k:Int) < (n:Int):=by omega
   by_cases hxy:x=y
   ·subst hxy
    have f1:((x.1:Int) == (x.1:Int))=true:=by simp
    have f2:(x.2 == x.2)=true:=by simp
    have hml:(crcm.mk x.2).toList=x.2:=by rw [ByteArray.toList_eq];rfl
    go_wp2
    go_quiet (fail)
    go_wp2;go_roundw
    case rel=>exact ⟨k + 1,_,by omega,by go_num,rfl,λj hj=>by
     rcases Nat.lt_succ_iff_lt_or_eq.1 hj with h | rfl
     ·exact HL.out j h
     ·rw [HX.out,HY.out]⟩
    case measure=>simp [intOf];omega
   ·have hno:decide (la=lb)=false:=by
     rw [decide_eq_false_iff_not]
     rcases HO.out with h | h
     ·exact absurd h hxy
     ·exact h
    have HNO:=Uq hno;clear hno
    by_cases h1:x.1=y.1
    ·have h2:¬ x.2=y.2:=λh=>hxy (Prod.ext h1 h)
     have f1:((x.1:Int) == (y.1:Int))=true:=by rw [h1];simp
     have f2:(x.2 == y.2)=false:=by rw [beq_eq_false_iff_ne];exact h2
     have hml:(crcm.mk x.2).toList=x.2:=by rw [ByteArray.toList_eq];rfl
     have hml2:(crcm.mk y.2).toList=y.2:=by rw [ByteArray.toList_eq];rfl
     clear h1 h2 hxy;go_wp2
     go_quiet (fail)
     go_wp2;go_ret
     exact ⟨by rw [HNO.out];rfl,by rw [hW];exact below_drewN (below_drewN (Below.refl _ _) _) _⟩
    ·have f1:((x.1:Int) == (y.1:Int))=false:=by rw [beq_eq_false_iff_ne];omega
     clear h1 hxy;go_wp2
     go_quiet (fail)
     go_wp2;go_ret
     exact ⟨by rw [HNO.out];rfl,by rw [hW];exact below_drewN (below_drewN (Below.refl _ _) _) _⟩
  ·have hyes:decide (la=lb)=true:=by
    rw [decide_eq_true_iff]
    exact uM (by rw [Hn.out,Hm.out]) (λj hj=>HL.out j (by rw [Hn.out] at hj;omega))
   have HY:=Uq hyes;clear hyes;go_wp2;go_ret
   exact ⟨by rw [HY.out];rfl,by rw [hW];exact below_drewN (Below.refl _ _) _⟩
set_option maxHeartbeats 2000000 in
theorem vo (u v:Value) (la lb:List rl.Ent) (w:World) (hu:Ents w u la) (hv:Ents w v lb) (h1:la.length≤100000) :
  Calls Tryz.prog 271 #[u,v] w λe w'=>e=.returned (.bool (decide (la=lb)))∧Below w.heap.size w w':=by
 obtain ⟨A,c,rfl,_,_,hA⟩:=hu;obtain ⟨B,d,rfl,_,_,hB⟩:=hv
 by_cases hl:la.length=lb.length
 ·have h:=vn A B c d la.length la lb w rfl hl.symm h1 (λk hk=>hA (by omega)) (λk hk=>hB (by omega))
  rw [← hl];exact h
 ·have hno:decide (la=lb)=false:=by
   rw [decide_eq_false_iff_not];intro h
   exact hl (by rw [h])
  rw [hno];obtain ⟨n,hn⟩:∃ n,la.length=n:=⟨_,rfl⟩;obtain ⟨m,hm⟩:∃ n,lb.length=n:=⟨_,rfl⟩;rw [hn,hm] at hl;rw [hn,hm]
  have hne:((n:Int) != (m:Int))=true:=by simp;omega
  clear hA hB hno hn hm h1
  go_enter Tryz.func271,Tryz.ntmps271
  go_wp2;go_ret;exact ⟨rfl,Below.refl _ _⟩
theorem vw (T T':Nat) (V V':Int) (u v:Value) (la lb:List rl.Ent) (w:World) (hu:Ents w u la) (hv:Ents w v lb) (h1:la.length≤100000) :
  Calls Tryz.prog 153 #[.agg #[.int .u64 (T:Int),.int .i64 V,u],.agg #[.int .u64 (T':Int),.int .i64 V',v]] w λe w'=>e=.returned (.bool (decide (T=T') && decide (V=V') && decide (la=lb)))∧Below w.heap.size w w':=by
 obtain ⟨A,c,hu2⟩:=hu.form;obtain ⟨B,d,hv2⟩:=hv.form;subst hu2 hv2;obtain ⟨L,hL⟩:∃ L,la.length=L:=⟨_,rfl⟩;obtain ⟨L2,hL2⟩:∃ L,lb.length=L:=⟨_,rfl⟩;have hb:=vR w [.int .u64 (T:Int),.int .i64 V,.slice A L c] [.int .u64 (T':Int),.int .i64 V',.slice B L2 d] 96 96;have ba:=(Blk.new w [.int .u64 (T:Int),.int .i64 V,.slice A L c] 96).alloc (.cells #[.int .u64 (T':Int),.int .i64 V',.slice B L2 d] 96);have bb:=Blk.new (w.alloc (.cells #[.int .u64 (T:Int),.int .i64 V,.slice A L c] 96)) [.int .u64 (T':Int),.int .i64 V',.slice B L2 d] 96;simp only [World.size_alloc] at bb;obtain ⟨W,hW⟩:∃ W,(w.alloc (.cells #[.int .u64 (T:Int),.int .i64 V,.slice A L c] 96)).alloc (.cells #[.int .u64 (T':Int),.int .i64 V',.slice B L2 d] 96)=W:=⟨_,rfl⟩;simp only [List.toArray] at hb ba bb;rw [hW] at hb ba bb
 have heq:=vo (.slice A L c) (.slice B L2 d) la lb W (by rw [← hL];exact hu.below hb) (by rw [← hL2];exact hv.below hb) h1
 have a0:=ba.cell 0 _ rfl;have a1:=ba.cell 1 _ rfl;have a2:=ba.cell 2 _ rfl;have b0:=bb.cell 0 _ rfl;have b1:=bb.cell 1 _ rfl;have b2:=bb.cell 2 _ rfl;have HW:=Uq hW;have Hb:=Uq hb;have HE:=Uq heq;rw [hL,hL2];obtain ⟨r,hr⟩:∃ r,(decide (T=T') && decide (V=V') && decide (la=lb))=r:=⟨_,rfl⟩;rw [hr];clear hu hv ba bb hb hW heq hL hL2
 go_enter Tryz.func153,Tryz.ntmps153
 go_upto_region 1 with fail;rw [HW.out]
 by_cases hT:T=T'
 ·have e1:((T:Int) == (T':Int))=true:=by rw [hT];simp
  have d1:decide (T=T')=true:=decide_eq_true hT;rw [d1] at hr;clear hT d1
  by_cases hV:V=V'
  ·have e2:(V == V')=true:=by rw [hV];simp
   have d2:decide (V=V')=true:=decide_eq_true hV;rw [d2] at hr;have HR:=Uq hr;clear hV d2 hr
   go_wp2_with (first | (go_at_call 271;refine HE.out.mono ?_;rintro e w1 ⟨rfl,hb1⟩))
   go_ret
   exact ⟨by rw [← HR.out];simp,Hb.out.trans (hb1.mono Hb.out.size)⟩
  ·have e2:(V == V')=false:=by simp;exact hV
   have d2:decide (V=V')=false:=decide_eq_false hV;rw [d2] at hr;have HR:=Uq hr;clear hV d2 hr;go_wp2_with fail;go_ret
   exact ⟨by rw [← HR.out];simp,Hb.out⟩
 ·have e1:((T:Int) == (T':Int))=false:=by simp;omega
  have d1:decide (T=T')=false:=decide_eq_false hT;rw [d1] at hr;have HR:=Uq hr;clear hT d1 hr;go_wp2_with fail;go_ret
  exact ⟨by rw [← HR.out];simp,Hb.out⟩
end Go.Proofs.YtppibhieabideaaGreatDoor
namespace Go.Proofs.YtppibhieabideaaGreatDoor
set_option maxHeartbeats 4000000
open Go Go.RowKit Go.Deep
set_option maxRecDepth 100000
theorem qa {w:World} {x y:Nat} {vs us:List Value} {t u:TypeId} (h:Vb w x vs t) (k:Vb w y us u) (ht:t ≠ u):x ≠ y:=by
 rintro rfl;unfold Vb at h k;rw [h] at k
 injection k with k
 injection k with _ k _
 exact ht k
theorem qf {w:World} {x b:Nat} {vs:List Value} {t:TypeId} {M:vd.Files} (h:Vb w x vs t) (k:FMap w b M):x ≠ b:=by
 rintro rfl;obtain ⟨es,c,hb,_⟩:=k;unfold Vb at h;rw [h] at hb
 cases hb
def qK (w:World) (x:Nat):Prop:=∀ cur,w.heap[x]? ≠ some (.cells cur 36 (0,0))
theorem qv {w:World} {x:Nat} {vs:List Value} {t:TypeId} (h:Vb w x vs t) (ht:t ≠ 36):qK w x:=λcur e=>by
 unfold Vb at h;rw [h] at e
 injection e with e
 injection e with _ e _
 exact ht e
theorem QY {w:World} {b:Nat} {M:vd.Files} (h:FMap w b M):qK w b:=λcur e=>by
 obtain ⟨es,c,hb,_⟩:=h;rw [hb] at e
 cases e
theorem EntsB.re {a b:Nat} {w:World} {v:Value} {ls:List rl.Ent} (h:EntsB a w v ls):EntsB b w v ls:=⟨h.1,λk o n c e h0=>by
 obtain ⟨h1,h2⟩:=h.2 k o n c e h0;refine ⟨h1,?_⟩
 rcases h2 with h2 | h2
 ·omega
 ·exact .inr h2⟩
def Way (base:Nat) (w:World) (v:Value) (ms:List rf.Msg):Prop:=
 ∃ evs:List Value,evs.length=ms.length∧w.ownsRow base 229 9 v ms.length ((ms.zip evs).flatMap λp=>msgC p.1 p.2)∧∀ p ∈ ms.zip evs,EntsB 0 w p.2 p.1.ents
theorem Way.form {base:Nat} {w:World} {v:Value} {ms:List rf.Msg} (h:Way base w v ms):∃ A c,v=.slice A ms.length c:=by
 obtain ⟨evs,_,h,_⟩:=h;exact ql h
theorem Way.nil (base:Nat) (w:World):Way base w (.slice none 0 0) []:=⟨[],rfl,World.ownsRow_nil _ _ _ _,λp hp=>by cases hp⟩
theorem Way.later {base:Nat} {w w':World} {v:Value} {ms:List rf.Msg} (h:Way base w v ms) (hb:Below w.heap.size w w'):Way base w' v ms:=by
 obtain ⟨evs,h1,h2,h3⟩:=h
 exact ⟨evs,h1,qJ h2 hb,λp hp=>(h3 p hp).later hb⟩
theorem Way.apart {base:Nat} {S:List Nat} {w w':World} {v:Value} {ms:List rf.Msg} (h:Way base w v ms) (hA:Apart S w w') (hE:∀ x ∈ S,qK w x) (hS:∀ x ∈ S,∀ cur,w.heap[x]? ≠ some (.cells cur 229 (0,0))):Way base w' v ms:=by
 obtain ⟨evs,h1,h2,h3⟩:=h
 refine ⟨evs,h1,Zn h2 hA λg hg hgS=>?_,λp hp=>(h3 p hp).apart hA hE⟩
 rcases h2.2 with ⟨rfl,_⟩ | ⟨y,cap,cur,rfl,_,hh,_⟩
 ·cases hg
 ·obtain rfl:y=g:=by simpa [Value.ownBlock] using hg
  exact hS y hgS cur hh
structure Kept (B:Nat) (d:vd.Disk) (a:List (List UInt8)) (s:cl.St):Prop where
 wide:∀ t ∈ a,t.length≤65535
 frm:rl.from_ a=((s.t,s.v,s.l),0)
 one:wl.One RAFT (crcm.flat a) d.files
 flat:(crcm.flat a).length≤B
 many:a.length≤10000
 cap:2 * B≤d.cap
 room:vd.total d.files + 2 * B≤(crcm.flat a).length + d.cap
 few:d.files.length < 200
 calm:d.left=0
structure Fp where
 q:Nat
 p:Nat
 b:Nat
 s:Nat
 g:Nat
 A:Option Addr
 c:Nat
 sv:Value
 a:List (List UInt8)
 d:vd.Disk
def Fp.ev (f:Fp) (x:rf.Node):Value:=.slice f.A x.log.length f.c
def qr (x:rf.Node) (f:Fp) (up:Bool):List Value:=ndC x (f.ev x) ++ [dptr f.p,f.sv,.bool up]
structure PeerOk (B:Nat) (w0 w:World) (P:cl.Nd) (f:Fp):Prop where
 blk:Vb w f.q (qr P.x f P.up) 103
 ents:EntsB 0 w (f.ev P.x) P.x.log
 ok:NOk P.x
 disk:Ldk w0 w f.p f.b f.d
 hq:w0.heap.size≤f.q
 kept:Kept B f.d f.a P.s
 sv:∃ o,f.sv=.pointer o
 dn:P.up=false→f.g=f.p
 up:P.up=true→f.d.off=false∧f.sv=.pointer (some ⟨f.s,0,none⟩)∧kSt w f.s f.g∧Lg w f.g f.p ⟨RAFT,f.a.length,false⟩∧w0.heap.size≤f.g∧w0.heap.size≤f.s
def Fp.blocks (f:Fp) (up:Bool):List Nat:=if up then [f.q,f.p,f.b,f.s,f.g] else [f.q,f.p,f.b]
theorem PeerOk.apart {B:Nat} {w0 w w':World} {P:cl.Nd} {f:Fp} {S:List Nat} (h:PeerOk B w0 w P f) (hA:Apart S w w') (hE:∀ x ∈ S,qK w x) (hS:∀ x ∈ S,w0.heap.size≤x) (hx:∀ y ∈ f.blocks P.up,y ∉ S):PeerOk B w0 w' P f:=by
 have hq:f.q ∉ S:=hx _ (by unfold Fp.blocks;split <;> simp)
 have hp:f.p ∉ S:=hx _ (by unfold Fp.blocks;split <;> simp)
 have hb:f.b ∉ S:=hx _ (by unfold Fp.blocks;split <;> simp)
 refine ⟨h.blk.apart hA hq,h.ents.apart hA hE,h.ok,h.disk.next hA hS (h.disk.dk.apart hA hp hb) h.disk.ok rfl,h.hq,h.kept,h.sv,h.dn,λhu=>?_⟩
 obtain ⟨u2,u3,u4,u5,u6,u7⟩:=h.up hu
 have hs:f.s ∉ S:=hx _ (by unfold Fp.blocks;rw [hu];simp)
 have hg:f.g ∉ S:=hx _ (by unfold Fp.blocks;rw [hu];simp)
 exact ⟨u2,u3,Vb.apart u4 hA hs,Vb.apart u5 hA hg,u6,u7⟩
theorem PeerOk.later {B:Nat} {w0 w w':World} {P:cl.Nd} {f:Fp} (h:PeerOk B w0 w P f) (hb:Below w.heap.size w w'):PeerOk B w0 w' P f:=
 h.apart (Apart.of_below hb []) (λx hx=>by cases hx) (λx hx=>by cases hx) (λ_ _ hx=>by cases hx)
structure CluAt (B:Nat) (w0 w:World) (c R:Nat) (C:cl.Clu) (F:Nat→Fp) (k:Nat) (wv:Value):Prop where
 bel:Below w0.heap.size w0 w
 blk:Vb w c [.slice (some ⟨R,0,none⟩) C.n k,wv] 93
 hc:w0.heap.size≤c
 hR:w0.heap.size≤R
 row:∃ us:List Value,Vb w R us 94∧∀ i,i < C.n→us[i]?=some (.pointer (some ⟨(F i).q,0,none⟩))
 n7:C.n≤7
 peers:∀ i,i < C.n→PeerOk B w0 w (C.p i) (F i)
 way:Way w0.heap.size w wv C.way
 w200:C.way.length≤2000
 sep:∀ i j,i < C.n→j < C.n→i ≠ j→(F i).q ≠ (F j).q∧(F i).p ≠ (F j).p∧(F i).b ≠ (F j).b∧((C.p i).up=true→(C.p j).up=true→(F i).s ≠ (F j).s∧(F i).g ≠ (F j).g)
section
variable {B:Nat} {w0 w:World} {c R:Nat} {C:cl.Clu} {F:Nat→Fp} {k:Nat} {wv:Value}
theorem CluAt.c0 (h:CluAt B w0 w c R C F k wv):w.cell? ⟨c,0,none⟩=some (.slice (some ⟨R,0,none⟩) C.n k):=h.blk.cell 0 _ rfl
theorem CluAt.c1 (h:CluAt B w0 w c R C F k wv):w.cell? ⟨c,1,none⟩=some wv:=h.blk.cell 1 _ rfl
theorem CluAt.at_ (h:CluAt B w0 w c R C F k wv) {i:Nat} (hi:i < C.n):w.cell? ⟨R,i,none⟩=some (.pointer (some ⟨(F i).q,0,none⟩)):=by
 obtain ⟨us,h1,h2⟩:=h.row;exact h1.cell i _ (h2 i hi)
theorem CluAt.upc (h:CluAt B w0 w c R C F k wv) {i:Nat} (hi:i < C.n):w.cell? ⟨(F i).q,32,none⟩=some (.bool (C.p i).up):=
 (h.peers i hi).blk.cell 32 _ (by unfold qr;rw [List.getElem?_append_right (by rw [qe (h.peers i hi).ok];omega),qe (h.peers i hi).ok];rfl)
theorem CluAt.later {w':World} (h:CluAt B w0 w c R C F k wv) (hb:Below w.heap.size w w'):CluAt B w0 w' c R C F k wv:=by
 obtain ⟨us,h1,h2⟩:=h.row
 exact ⟨h.bel.trans (hb.mono h.bel.size),(hb.block _ h.blk.lt).trans h.blk,h.hc,h.hR,⟨us,(hb.block _ h1.lt).trans h1,h2⟩,h.n7,λi hi=>(h.peers i hi).later hb,h.way.later hb,h.w200,h.sep⟩
theorem CluAt.two (h:CluAt B w0 w c R C F k wv) {i j x:Nat} (hi:i < C.n) (hj:j < C.n) (hne:j ≠ i) (hx:x=(F i).q∨x=(F i).p∨x=(F i).b∨((C.p i).up=true∧x=(F i).g)):x ∉ (F j).blocks (C.p j).up:=by
 have pi:=h.peers i hi;have pj:=h.peers j hj
 obtain ⟨s1,s2,s3,s4⟩:=h.sep i j hi hj (λe=>hne e.symm)
 intro hm
 have hm2:x=(F j).q∨x=(F j).p∨x=(F j).b∨((C.p j).up=true∧(x=(F j).s∨x=(F j).g)):=by
  unfold Fp.blocks at hm
  split at hm
  ·rename_i hu
   simp only [List.mem_cons,List.not_mem_nil,or_false] at hm
   rcases hm with e | e | e | e | e
   ·exact .inl e
   ·exact .inr (.inl e)
   ·exact .inr (.inr (.inl e))
   ·exact .inr (.inr (.inr ⟨hu,.inl e⟩))
   ·exact .inr (.inr (.inr ⟨hu,.inr e⟩))
  ·simp only [List.mem_cons,List.not_mem_nil,or_false] at hm
   rcases hm with e | e | e
   ·exact .inl e
   ·exact .inr (.inl e)
   ·exact .inr (.inr (.inl e))
 clear hm
 rcases hx with rfl | rfl | rfl | ⟨hu,rfl⟩
 ·rcases hm2 with e | e | e | ⟨hv,e | e⟩
  ·exact s1 e
  ·exact qa pi.blk pj.disk.dk.blk (by decide) e
  ·exact qf pi.blk pj.disk.dk.map e
  ·obtain ⟨_,_,v3,v4,_⟩:=pj.up hv
   exact qa pi.blk v3 (by decide) e
  ·obtain ⟨_,_,v3,v4,_⟩:=pj.up hv
   exact qa pi.blk v4 (by decide) e
 ·rcases hm2 with e | e | e | ⟨hv,e | e⟩
  ·exact qa pj.blk pi.disk.dk.blk (by decide) e.symm
  ·exact s2 e
  ·exact qf pi.disk.dk.blk pj.disk.dk.map e
  ·obtain ⟨_,_,v3,v4,_⟩:=pj.up hv
   exact qa pi.disk.dk.blk v3 (by decide) e
  ·obtain ⟨_,_,v3,v4,_⟩:=pj.up hv
   exact qa pi.disk.dk.blk v4 (by decide) e
 ·rcases hm2 with e | e | e | ⟨hv,e | e⟩
  ·exact qf pj.blk pi.disk.dk.map e.symm
  ·exact qf pj.disk.dk.blk pi.disk.dk.map e.symm
  ·exact s3 e
  ·obtain ⟨_,_,v3,v4,_⟩:=pj.up hv;exact qf v3 pi.disk.dk.map e.symm
  ·obtain ⟨_,_,v3,v4,_⟩:=pj.up hv;exact qf v4 pi.disk.dk.map e.symm
 ·obtain ⟨_,_,u3,u4,_⟩:=pi.up hu
  rcases hm2 with e | e | e | ⟨hv,e | e⟩
  ·exact qa pj.blk u4 (by decide) e.symm
  ·exact qa pj.disk.dk.blk u4 (by decide) e.symm
  ·exact qf u4 pj.disk.dk.map e
  ·obtain ⟨_,_,v3,v4,_⟩:=pj.up hv
   exact qa u4 v3 (by decide) e
  ·exact (s4 hu hv).2 e
theorem CluAt.peer {w':World} {i:Nat} {P:cl.Nd} {f:Fp} {S:List Nat} (h:CluAt B w0 w c R C F k wv) (hi:i < C.n) (hA:Apart S w w') (hS:∀ x ∈ S,x=(F i).q∨x=(F i).p∨x=(F i).b∨((C.p i).up=true∧x=(F i).g))
  (hp:PeerOk B w0 w' P f) (hq:f.q=(F i).q∧f.p=(F i).p∧f.b=(F i).b) (hsg:P.up=true→((C.p i).up=true∧f.s=(F i).s∧f.g=(F i).g)∨(w.heap.size≤f.s∧w.heap.size≤f.g)) :
  CluAt B w0 w' c R { C with p:=cl.upd C.p i P } (cl.upd F i f) k wv:=by
 have pi:=h.peers i hi
 have hno:∀ x ∈ S,qK w x:=λx hx=>by
  rcases hS x hx with rfl | rfl | rfl | ⟨hu,rfl⟩
  ·exact qv pi.blk (by decide)
  ·exact qv pi.disk.dk.blk (by decide)
  ·exact QY pi.disk.dk.map
  ·exact qv (pi.up hu).2.2.2.1 (by decide)
 have hge:∀ x ∈ S,w0.heap.size≤x:=λx hx=>by
  rcases hS x hx with rfl | rfl | rfl | ⟨hu,rfl⟩
  ·exact pi.hq
  ·exact pi.disk.hp
  ·exact pi.disk.hb
  ·exact (pi.up hu).2.2.2.2.1
 have htype:∀ x ∈ S,∀ vs t,Vb w x vs t→t=103∨t=177∨t=306:=λx hx vs t hv=>by
  have key:∀ us u,Vb w x us u→t=u:=λus u hu=>by
   unfold Vb at hv hu;rw [hv] at hu
   injection hu with hu
   injection hu
  rcases hS x hx with rfl | rfl | rfl | ⟨hu,rfl⟩
  ·exact .inl (key _ _ pi.blk)
  ·exact .inr (.inl (key _ _ pi.disk.dk.blk))
  ·exact absurd rfl (qf hv pi.disk.dk.map)
  ·exact .inr (.inr (key _ _ (pi.up hu).2.2.2.1))
 obtain ⟨us,r1,r2⟩:=h.row
 have hcS:c ∉ S:=λhx=>by rcases htype c hx _ _ h.blk with e | e | e <;> exact absurd e (by decide)
 have hRS:R ∉ S:=λhx=>by rcases htype R hx _ _ r1 with e | e | e <;> exact absurd e (by decide)
 have eF:∀ j,(cl.upd F i f j).q=(F j).q∧(cl.upd F i f j).p=(F j).p∧(cl.upd F i f j).b=(F j).b:=λj=>by
  by_cases hj:j=i
  ·subst hj;rw [cl.upd_same];exact hq
  ·rw [cl.upd_other _ _ hj];exact ⟨rfl,rfl,rfl⟩
 refine ⟨h.bel.trans (hA.below _ h.bel.size hge),h.blk.apart hA hcS,h.hc,h.hR,⟨us,r1.apart hA hRS,λj hj=>by rw [(eF j).1];exact r2 j hj⟩,h.n7,λj hj=>?_,h.way.apart hA hno λx hx cur e=>?_,h.w200,λj l hj hl hne=>?_⟩
 ·show PeerOk B w0 w' (cl.upd C.p i P j) (cl.upd F i f j)
  by_cases hji:j=i
  ·subst hji;rw [cl.upd_same,cl.upd_same];exact hp
  ·rw [cl.upd_other _ _ hji,cl.upd_other _ _ hji]
   exact (h.peers j hj).apart hA hno hge λy hy hyS=>h.two hi hj hji (hS y hyS) hy
 ·have hv:Vb w x cur.toList 229:=by unfold Vb;rw [Array.toArray_toList];exact e
  rcases htype x hx _ _ hv with e | e | e <;> exact absurd e (by decide)
 ·obtain ⟨s1,s2,s3,s4⟩:=h.sep j l hj hl hne
  refine ⟨by rw [(eF j).1,(eF l).1];exact s1,by rw [(eF j).2.1,(eF l).2.1];exact s2,by rw [(eF j).2.2,(eF l).2.2];exact s3,λhu hv=>?_⟩
  have hu2:(cl.upd C.p i P j).up=true:=hu;have hv2:(cl.upd C.p i P l).up=true:=hv
  by_cases hji:j=i
  ·subst hji
   have hlj:l ≠ j:=λe=>hne e.symm
   rw [cl.upd_same] at hu2;rw [cl.upd_other _ _ hlj] at hv2;rw [cl.upd_same,cl.upd_other _ _ hlj]
   rcases hsg hu2 with ⟨g1,g2,g3⟩ | ⟨g1,g2⟩
   ·rw [g2,g3];exact s4 g1 hv2
   ·obtain ⟨_,_,v3,v4,_⟩:=(h.peers l hl).up hv2;have:=Vb.lt v3;have:=Vb.lt v4;omega
  ·rw [cl.upd_other _ _ hji] at hu2;rw [cl.upd_other F _ hji]
   by_cases hli:l=i
   ·subst hli;rw [cl.upd_same] at hv2;rw [cl.upd_same]
    rcases hsg hv2 with ⟨g1,g2,g3⟩ | ⟨g1,g2⟩
    ·rw [g2,g3];exact s4 hu2 g1
    ·obtain ⟨_,_,v3,v4,_⟩:=(h.peers j hj).up hu2;have:=Vb.lt v3;have:=Vb.lt v4;omega
   ·rw [cl.upd_other _ _ hli] at hv2;rw [cl.upd_other F _ hli];exact s4 hu2 hv2
def cptr (c:Nat):Value:=.pointer (some ⟨c,0,none⟩)
theorem has_any (i:Int) (h:CluAt B w0 w c R C F k wv):Calls Tryz.prog 52 #[cptr c,.int .i64 i] w λe w'=>e=.returned (.bool (decide (0≤i) && decide (i < (C.n:Int))))∧Below w.heap.size w w':=by
 have c0:=h.c0;obtain ⟨n,hn⟩:∃ n,C.n=n:=⟨_,rfl⟩;rw [hn] at c0 ⊢;unfold cptr;clear h hn;obtain ⟨r,hr⟩:∃ r,(decide (0≤i) && decide (i < (n:Int)))=r:=⟨_,rfl⟩;rw [hr]
 by_cases h1:0≤i
 ·rw [decide_eq_true h1,Bool.true_and] at hr;have e1:decide (0≤i)=true:=decide_eq_true h1;have HR:=Uq hr;clear hr
  go_enter Tryz.func52,Tryz.ntmps52
  go_wp2;go_ret
  exact ⟨by rw [← HR.out];rfl,Below.refl _ _⟩
 ·rw [decide_eq_false h1,Bool.false_and] at hr;have e1:decide (0≤i)=false:=decide_eq_false h1;have HR:=Uq hr;clear hr
  go_enter Tryz.func52,Tryz.ntmps52
  go_wp2;go_ret
  exact ⟨by rw [← HR.out];rfl,Below.refl _ _⟩
end
section
variable {B:Nat} {w0 w:World} {c R:Nat} {C:cl.Clu} {F:Nat→Fp} {k:Nat} {wv:Value}
theorem ZP {i:Nat} (h:CluAt B w0 w c R C F k wv) (hi:i < C.n):Calls Tryz.prog 52 #[cptr c,.int .i64 (i:Int)] w λe w'=>e=.returned (.bool true)∧Below w.heap.size w w':=by
 have hd:(decide (0≤(i:Int)) && decide ((i:Int) < (C.n:Int)))=true:=by simp;omega
 have:=has_any (i:Int) h;rw [hd] at this;exact this
theorem Jg {i:Nat} (h:CluAt B w0 w c R C F k wv) (hi:i < C.n):Calls Tryz.prog 156 #[cptr c,.int .i64 (i:Int)] w λe w'=>e=.returned (.bool (C.p i).up)∧Below w.heap.size w w':=by
 have H:=Uq (ZP h hi)
 have K:Hid (∀ w',Below w.heap.size w w'→w'.cell? ⟨c,0,none⟩=some (.slice (some ⟨R,0,none⟩) C.n k)∧w'.cell? ⟨R,i,none⟩=some (.pointer (some ⟨(F i).q,0,none⟩))∧w'.cell? ⟨(F i).q,32,none⟩=some (.bool (C.p i).up)):=Uq λw' hb=>⟨(h.later hb).c0,(h.later hb).at_ hi,(h.later hb).upc hi⟩
 obtain ⟨b,hb⟩:∃ b,(C.p i).up=b:=⟨_,rfl⟩;obtain ⟨q,hq⟩:∃ q,(F i).q=q:=⟨_,rfl⟩;obtain ⟨n,hn⟩:∃ n,C.n=n:=⟨_,rfl⟩;rw [hb,hq,hn] at K;rw [hn] at hi;rw [hb]
 have hin:(i:Int) < (n:Int):=by omega
 clear h hb hq hn;unfold cptr at H ⊢
 go_enter Tryz.func156,Tryz.ntmps156
 go_wp2_with (go_at_call 52;refine H.out.mono ?_;rintro e w1 ⟨rfl,hb1⟩;obtain ⟨k0,k1,k2⟩:=K.out w1 hb1)
 go_ret
 exact ⟨by cases b <;> rfl,hb1⟩
theorem CluAt.dsk (h:CluAt B w0 w c R C F k wv) {i:Nat} (hi:i < C.n):w.cell? ⟨(F i).q,30,none⟩=some (dptr (F i).p):=
 (h.peers i hi).blk.cell 30 _ (by unfold qr;rw [List.getElem?_append_right (by rw [qe (h.peers i hi).ok];omega),qe (h.peers i hi).ok];rfl)
theorem CluAt.sto (h:CluAt B w0 w c R C F k wv) {i:Nat} (hi:i < C.n):w.cell? ⟨(F i).q,31,none⟩=some (F i).sv:=
 (h.peers i hi).blk.cell 31 _ (by unfold qr;rw [List.getElem?_append_right (by rw [qe (h.peers i hi).ok];omega),qe (h.peers i hi).ok];rfl)
theorem uV {i:Nat} (h:CluAt B w0 w c R C F k wv) (hi:i < C.n):Calls Tryz.prog 114 #[cptr c,.int .i64 (i:Int)] w λe w'=>e=.returned (.pointer (some ⟨(F i).p,0,none⟩))∧Below w.heap.size w w':=by
 have H:=Uq (ZP h hi)
 have K:Hid (∀ w',Below w.heap.size w w'→w'.cell? ⟨c,0,none⟩=some (.slice (some ⟨R,0,none⟩) C.n k)∧w'.cell? ⟨R,i,none⟩=some (.pointer (some ⟨(F i).q,0,none⟩))∧w'.cell? ⟨(F i).q,30,none⟩=some (dptr (F i).p)):=Uq λw' hb=>⟨(h.later hb).c0,(h.later hb).at_ hi,(h.later hb).dsk hi⟩
 obtain ⟨p,hb⟩:∃ b,(F i).p=b:=⟨_,rfl⟩;obtain ⟨q,hq⟩:∃ q,(F i).q=q:=⟨_,rfl⟩;obtain ⟨n,hn⟩:∃ n,C.n=n:=⟨_,rfl⟩;rw [hb,hq,hn] at K;rw [hn] at hi;rw [hb]
 have hin:(i:Int) < (n:Int):=by omega
 clear h hb hq hn;unfold cptr at H ⊢;unfold dptr at K
 go_enter Tryz.func114,Tryz.ntmps114
 go_wp2_with (go_at_call 52;refine H.out.mono ?_;rintro e w1 ⟨rfl,hb1⟩;obtain ⟨k0,k1,k2⟩:=K.out w1 hb1)
 go_ret;exact ⟨rfl,hb1⟩
end
section
variable {B:Nat} {w0 w:World} {c R:Nat} {C:cl.Clu} {F:Nat→Fp} {k:Nat} {wv:Value}
theorem Km {i:Nat} (fv:Value) (h:CluAt B w0 w c R C F k wv) (hi:i < C.n) (hu:(C.p i).up=false):Calls Tryz.prog 44 #[cptr c,.int .i64 (i:Int),fv] w λe w'=>e=.returned (.int .i64 6)∧Below w.heap.size w w':=by
 have H:=Uq (ZP h hi)
 have K:Hid (∀ w',Below w.heap.size w w'→w'.cell? ⟨c,0,none⟩=some (.slice (some ⟨R,0,none⟩) C.n k)∧w'.cell? ⟨R,i,none⟩=some (.pointer (some ⟨(F i).q,0,none⟩))∧w'.cell? ⟨(F i).q,32,none⟩=some (.bool false)):=Uq λw' hb=>⟨(h.later hb).c0,(h.later hb).at_ hi,by rw [← hu];exact (h.later hb).upc hi⟩
 obtain ⟨q,hq⟩:∃ q,(F i).q=q:=⟨_,rfl⟩;obtain ⟨n,hn⟩:∃ n,C.n=n:=⟨_,rfl⟩;rw [hq,hn] at K;rw [hn] at hi
 have hin:(i:Int) < (n:Int):=by omega
 clear h hq hn hu;unfold cptr at H ⊢
 go_enter Tryz.func44,Tryz.ntmps44
 go_wp2_with (go_at_call 52;refine H.out.mono ?_;rintro e w1 ⟨rfl,hb1⟩;obtain ⟨k0,k1,k2⟩:=K.out w1 hb1)
 go_ret;exact ⟨rfl,hb1⟩
theorem jb {i:Nat} (G:Nat) (caps:Array Value) (Post:Int→World→World→Prop) (h:CluAt B w0 w c R C F k wv) (hi:i < C.n) (hu:(C.p i).up=true)
  (eg:∀ args w,(callFunc G args).run Tryz.prog w=.ok (.enter G args) w)
  (hcall:∀ w1,Below w.heap.size w w1→Calls Tryz.prog G (#[] ++ #[.pointer (some ⟨(F i).q,0,none⟩)] ++ caps) w1 (λe w2=>∃ z:Int,e=.returned (.int .i64 z)∧Post z w1 w2)) :
  Calls Tryz.prog 44 #[cptr c,.int .i64 (i:Int),.func (.func G) #[] caps] w λe w2=>∃ z w1,e=.returned (.int .i64 z)∧Below w.heap.size w w1∧Post z w1 w2:=by
 have H:=Uq (ZP h hi)
 have K:Hid (∀ w',Below w.heap.size w w'→w'.cell? ⟨c,0,none⟩=some (.slice (some ⟨R,0,none⟩) C.n k)∧w'.cell? ⟨R,i,none⟩=some (.pointer (some ⟨(F i).q,0,none⟩))∧w'.cell? ⟨(F i).q,32,none⟩=some (.bool true)):=Uq λw' hb=>⟨(h.later hb).c0,(h.later hb).at_ hi,by rw [← hu];exact (h.later hb).upc hi⟩
 obtain ⟨q,hq⟩:∃ q,(F i).q=q:=⟨_,rfl⟩;obtain ⟨n,hn⟩:∃ n,C.n=n:=⟨_,rfl⟩;rw [hq,hn] at K;rw [hq] at hcall;rw [hn] at hi;have HC:=Uq hcall
 have hin:(i:Int) < (n:Int):=by omega
 clear h hq hn hu hcall;unfold cptr at H ⊢
 go_enter Tryz.func44,Tryz.ntmps44
 go_upto_region 5 with (go_at_call 52;refine H.out.mono ?_;rintro e w1 ⟨rfl,hb1⟩;obtain ⟨k0,k1,k2⟩:=K.out w1 hb1)
 have hcall:=HC.out w1 hb1;have HB1:=Uq hb1;clear hb1;go_wp2_with fail;refine hcall.mono ?_;rintro e w2 ⟨z,rfl,hP⟩;go_wp2_with fail;go_ret;exact ⟨z,w1,rfl,HB1.out,hP⟩
end
theorem Vb.cellsAt {g:Nat} {t:TypeId}:∀ (vs:List Value) (o:Nat) (w:World) (us:List Value),Vb w g us t→o + vs.length≤us.length→Vb (w.setCells g o vs) g (us.take o ++ vs ++ us.drop (o + vs.length)) t
 | [],o,w,us,h,_=>by
  show Vb w g _ t
  rw [List.append_nil,List.length_nil,Nat.add_zero,List.take_append_drop];exact h
 | v :: r,o,w,us,h,hl=>by
  have hl2:o + 1 + r.length≤us.length:=by rw [List.length_cons] at hl;omega
  have ih:=Vb.cellsAt r (o + 1) (w.setCell ⟨g,o,none⟩ v) (us.set o v) (h.set o v) (by rw [List.length_set];exact hl2)
  have e1:(us.set o v).take (o + 1)=us.take o ++ [v]:=by
   rw [List.take_add_one,List.take_set_of_le (Nat.le_refl _),List.getElem?_set_self (by omega)]
   rfl
  have e2:(us.set o v).drop (o + 1 + r.length)=us.drop (o + (v :: r).length):=by
   rw [List.drop_set_of_lt (by omega),List.length_cons,show o + 1 + r.length=o + (r.length + 1) by omega]
  rw [e1,e2] at ih
  show Vb ((w.setCell ⟨g,o,none⟩ v).setCells g (o + 1) r) g _ t
  rw [show us.take o ++ (v :: r)=us.take o ++ [v] ++ r by simp]
  exact ih
theorem qS (g:Nat):∀ (vs:List Value) (o:Nat) (w:World),Apart [g] w (w.setCells g o vs)
 | [],_,_=>Apart.refl _ _
 | v :: r,o,w=>(Apart.setCell w g o v).trans (qS g r (o + 1) _)
theorem Vb.there {w:World} {g:Nat} {us:List Value} {t:TypeId} (h:Vb w g us t) {o n:Nat} (hl:o + n≤us.length):w.there g o n:=λj hj=>by
 refine ⟨?_,Blk.free h (o + j)⟩
 have:=h.cell (o + j) _ (List.getElem?_eq_getElem (by omega))
 rw [this]
 rfl
section
variable {w0 w:World} {p b:Nat} {d:vd.Disk}
theorem xA (n k:Int) (h:Ldk w0 w p b d) (hn:n≤9223372036854775807) :
  Calls Tryz.prog 116 #[.pointer (some ⟨p,0,none⟩),.int .i64 n,.int .i64 k] w (λe w'=>e=.returned (.tuple #[])∧Ldk w0 w' p b { d with left:=(max n 0).toNat,keep:=k }∧Apart [p] w w'):=
 (vd_fuse h.dk n k).mono (by
  rintro e w' ⟨h1,h2,h3⟩
  exact ⟨h1,h.next h3 (by have:=h.hp;simp;omega) h2 ⟨h.ok.cap,h.ok.tot,h.ok.nod,h.ok.syn,h.ok.nam,by show (max n 0).toNat≤_;omega⟩ rfl,h3⟩)
theorem ld_on (h:Ldk w0 w p b d) :
  Calls Tryz.prog 53 #[.pointer (some ⟨p,0,none⟩)] w (λe w'=>e=.returned (.tuple #[])∧Ldk w0 w' p b { d with off:=false,left:=0 }∧Apart [p] w w'):=
 (vd_on h.dk).mono (by
  rintro e w' ⟨h1,h2,h3⟩
  exact ⟨h1,h.next h3 (by have:=h.hp;simp;omega) h2 ⟨h.ok.cap,h.ok.tot,h.ok.nod,h.ok.syn,h.ok.nam,by show 0≤_;omega⟩ rfl,h3⟩)
theorem uq (keep:Int) (h:Ldk w0 w p b d) :
  Calls Tryz.prog 157 #[.pointer (some ⟨p,0,none⟩),.int .i64 keep] w (λe w'=>e=.returned (.tuple #[])∧Ldk w0 w' p b (vd.crash d keep)∧Apart [p,b] w w'):=
 (ZA keep h.dk h.ok).mono (by
  rintro e w' ⟨h1,h2,h3⟩
  exact ⟨h1,h.next h3 (by have:=h.hp;have:=h.hb;simp;omega) h2 (vd.ok_crash h.ok keep) rfl,h3⟩)
end
theorem Kept.crash {B:Nat} {d:vd.Disk} {a:List (List UInt8)} {s:cl.St} (h:Kept B d a s) (keep:Int):Kept B (vd.crash d keep) a s:=
 ⟨h.wide,h.frm,wl.one_crash keep h.one,h.flat,h.many,h.cap,by have h1:=wl.crash_total keep d.files;have h2:=h.room;show vd.total (vd.mapF (λ_ f=>vd.trim keep f) d.files) + 2 * B≤(crcm.flat a).length + d.cap;omega,by show (vd.mapF (λ_ f=>vd.trim keep f) d.files).length < 200;rw [wl.mapF_len];exact h.few,h.calm⟩
def Fp.down (f:Fp) (d:vd.Disk):Fp:={ f with A:=none,c:=0,d:=d,g:=f.p }
theorem kS:NOk qi:=⟨rfl,rfl,rfl,by intro x hx;simp [qi] at hx;omega,by intro x hx;simp [qi] at hx;omega⟩
structure PeerB (B:Nat) (w0 w:World) (P:cl.Nd) (f:Fp):Prop where
 blk:Vb w f.q (qr P.x f P.up) 103
 ok:NOk P.x
 disk:Ldk w0 w f.p f.b f.d
 hq:w0.heap.size≤f.q
 kept:Kept B f.d f.a P.s
 sv:∃ o,f.sv=.pointer o
theorem PeerOk.base {B:Nat} {w0 w:World} {P:cl.Nd} {f:Fp} (h:PeerOk B w0 w P f):PeerB B w0 w P f:=⟨h.blk,h.ok,h.disk,h.hq,h.kept,h.sv⟩
theorem vy {B:Nat} {w0 w:World} {P:cl.Nd} {f:Fp} (keep:Int) (h:PeerB B w0 w P f) :
  Calls Tryz.prog 51 #[.pointer (some ⟨f.q,0,none⟩),.int .i64 keep] w λe w'=>e=.returned (.tuple #[])∧PeerOk B w0 w' ⟨P.s,false,qi⟩ (f.down (vd.crash f.d keep))∧Apart [f.q,f.p,f.b] w w':=by
 have hql:=h.blk.lt
 have h30:w.cell? ⟨f.q,30,none⟩=some (dptr f.p):=h.blk.cell 30 _ (by unfold qr;rw [List.getElem?_append_right (by rw [qe h.ok];omega),qe h.ok];rfl)
 have HD:=Uq (uq keep h.disk)
 have hqp:f.q ≠ f.p:=qa h.blk h.disk.dk.blk (by decide)
 have hqb:f.q ≠ f.b:=qf h.blk h.disk.dk.map;have HH:=Uq h
 have HQ:Hid (f.q ∉ [f.p,f.b]):=Uq (by simp [hqp,hqb])
 obtain ⟨q,hq⟩:∃ q,f.q=q:=⟨_,rfl⟩;rw [hq] at h30 ⊢;have HQE:=Uq hq;unfold dptr at h30;clear h hqp hqb hql hq
 go_enter Tryz.func51,Tryz.ntmps51
 go_upto_region 1 with (go_at_call 157;refine HD.out.mono ?_;rintro e w1 ⟨rfl,hd1,hA1⟩)
 have hb1:Vb w1 f.q (qr P.x f P.up) 103:=HH.out.blk.apart hA1 HQ.out
 have hset:(qr P.x f P.up).set 32 (.bool false)=qr P.x f false:=by
  have hl:=qe HH.out.ok (f.ev P.x);unfold qr
  rw [List.set_append_right _ _ (by omega),hl]
  rfl
 have hlen:(qr P.x f false).length=33:=by unfold qr;rw [List.length_append,qe HH.out.ok];rfl
 have c32:w1.cell? ⟨f.q,32,none⟩=some (.bool P.up):=hb1.cell 32 _ (by unfold qr;rw [List.getElem?_append_right (by rw [qe HH.out.ok];omega),qe HH.out.ok];rfl)
 have f32:=Blk.free hb1 32;have hb2:=hb1.set 32 (.bool false);rw [hset] at hb2
 have hov:=Vb.cellsAt (ndC qi nilV) 0 _ _ hb2 (by rw [hlen];decide)
 have hth:=hb2.there (o:=0) (n:=(ndC qi nilV).toArray.size) (by rw [hlen];decide)
 have hA2:=(Apart.setCell w1 f.q 32 (.bool false)).trans (qS f.q (ndC qi nilV) 0 (w1.setCell ⟨f.q,32,none⟩ (.bool false)))
 have hdrop:(qr P.x f false).take 0 ++ ndC qi nilV ++ (qr P.x f false).drop (0 + (ndC qi nilV).length)=qr qi (f.down (vd.crash f.d keep)) false:=by
  have hl:=qe HH.out.ok (f.ev P.x);have hz:(ndC qi nilV).length=30:=rfl;rw [hz,List.take_zero,List.nil_append,Nat.zero_add];unfold qr
  rw [List.drop_append_of_le_length (by omega),List.drop_of_length_le (by omega),List.nil_append]
  rfl
 rw [hdrop] at hov
 have hfin:PeerOk B w0 ((w1.setCell ⟨f.q,32,none⟩ (.bool false)).setCells f.q 0 (ndC qi nilV)) ⟨P.s,false,qi⟩ (f.down (vd.crash f.d keep)):=by
  refine ⟨hov,EntsB.nil 0 _,kS,?_,HH.out.hq,HH.out.kept.crash keep,HH.out.sv,λ_=>rfl,λh=>by cases h⟩
  have hqp:f.p ∉ [f.q]:=by have:=HQ.out;simp at this ⊢;omega
  have hqb:f.b ∉ [f.q]:=by have:=HQ.out;simp at this ⊢;omega
  exact hd1.next hA2 (by have:=HH.out.hq;simp;omega) (hd1.dk.apart hA2 hqp hqb) hd1.ok rfl
 have hap:Apart [f.q,f.p,f.b] w ((w1.setCell ⟨f.q,32,none⟩ (.bool false)).setCells f.q 0 (ndC qi nilV)):=
  hA1.then hA2 (λx hx=>.inl (by simp at hx ⊢;omega)) (λx hx=>.inl (by simp at hx ⊢;omega))
 have HF:=Uq hfin;have HAP:=Uq hap;rw [HQE.out] at c32 f32 hth HF HAP;have HTH:=Uq hth;clear hb1 hset hlen hb2 hov hA2 hdrop hfin hap hd1 hA1 hth;go_upto_region 2 with fail;clear c32 f32
 go_wp2_with (refine wpList_store_mid rfl 100 (.tmp 16) (.tmp 14) rfl q 0 (ndC qi nilV).toArray rfl rfl HTH.out (by rw [qc];rfl) (qy rfl) ?_)
 go_end0;exact ⟨rfl,HF.out,HAP.out⟩
def qq (l:List (rf.Msg × Value)):List Value:=l.flatMap λp=>msgC p.1 p.2
theorem QR (l:List (rf.Msg × Value)):(qq l).length=l.length * 9:=by
 induction l with
 | nil=>rfl
 | cons x r ih=>
  have e:qq (x :: r)=msgC x.1 x.2 ++ qq r:=rfl;rw [e,List.length_append,ih,List.length_cons]
  show 9 + _=_
  omega
theorem QC (l:List (rf.Msg × Value)) (k:Nat):(qq l).drop (k * 9)=qq (l.drop k):=by
 induction k generalizing l with
 | zero=>rw [Nat.zero_mul];rfl
 | succ k ih=>
  cases l with
  | nil=>simp [qq]
  | cons x r=>
   have e:qq (x :: r)=msgC x.1 x.2 ++ qq r:=rfl;have h9:(msgC x.1 x.2).length=9:=rfl
   rw [e,List.drop_append,List.drop_of_length_le (by rw [h9];omega),List.nil_append,h9,show (k + 1) * 9 - 9=k * 9 by omega,ih]
   rfl
theorem Zw {ms:List rf.Msg} {evs:List Value} (h:evs.length=ms.length):(ms.zip evs).length=ms.length:=by rw [List.length_zip];omega
theorem zk {w:World} {base:Nat} {l:List (rf.Msg × Value)} (h:∀ p ∈ l,EntsB base w p.2 p.1.ents):∀ u ∈ qq l,u.oneCell'=true:=by
 intro u hu;unfold qq at hu;obtain ⟨p,hp,hm⟩:=List.mem_flatMap.1 hu;obtain ⟨A,c,e⟩:=(h p hp).form;rw [e] at hm;simp only [msgC,List.mem_cons,List.not_mem_nil,or_false] at hm
 rcases hm with rfl | rfl | rfl | rfl | rfl | rfl | rfl | rfl | rfl <;> rfl
theorem Way.cells {base:Nat} {w:World} {A:Option Addr} {c n:Nat} {ms:List rf.Msg} (h:Way base w (.slice A n c) ms):n=ms.length∧∃ evs:List Value,evs.length=ms.length∧w.ownsRow base 229 9 (.slice A n c) ms.length (qq (ms.zip evs))∧(∀ p ∈ ms.zip evs,EntsB 0 w p.2 p.1.ents) ∧
  (0 < n→∃ g,A=some ⟨g,0,none⟩∧∀ j u,(qq (ms.zip evs))[j]?=some u→w.cell? ⟨g,j,none⟩=some u):=by
 obtain ⟨A',c',hf⟩:=h.form;obtain ⟨evs,h1,h2,h3⟩:=h
 have hn:n=ms.length:=by injection hf
 refine ⟨hn,evs,h1,h2,h3,λh0=>?_⟩
 rcases h2.2 with ⟨e1,e2⟩ | ⟨g,cap,cur,e1,_,hh,_⟩
 ·omega
 ·refine ⟨g,by injection e1,λj u hj=>?_⟩
  have hc:=h2.cells (g:=g) (by rw [e1];rfl) j u hj
  rw [qn,Nat.zero_add] at hc;exact hc
section
variable {B:Nat} {w0 w:World} {c R:Nat} {C:cl.Clu} {F:Nat→Fp} {k:Nat} {wv:Value}
theorem CluAt.setWay {w':World} {S:List Nat} {v':Value} {ms':List rf.Msg} (h:CluAt B w0 w c R C F k wv) (hA:Apart S w w') (hS:∀ x ∈ S,w0.heap.size≤x∧∃ cur,w.heap[x]?=some (.cells cur 229 (0,0)))
  (hv:Way w0.heap.size w' v' ms') (hl:ms'.length≤2000):CluAt B w0 (w'.setCell ⟨c,1,none⟩ v') c R { C with way:=ms' } F k v':=by
 have hty:∀ x ∈ S,∀ vs t,Vb w x vs t→t=229:=λx hx vs t ht=>by
  obtain ⟨_,cur,e⟩:=hS x hx;unfold Vb at ht;rw [ht] at e
  injection e with e
  injection e
 have hno:∀ x ∈ S,qK w x:=λx hx cur2 e2=>by
  obtain ⟨_,cur,e⟩:=hS x hx;rw [e] at e2
  injection e2 with e2
  injection e2 with _ e2 _
  exact absurd e2 (by decide)
 have hge:∀ x ∈ S,w0.heap.size≤x:=λx hx=>(hS x hx).1
 have hmap:∀ x ∈ S,∀ b M,FMap w b M→x ≠ b:=λx hx b M hb e=>by
  subst e;obtain ⟨_,cur,e⟩:=hS x hx;obtain ⟨es,cc,hb2,_⟩:=hb;rw [e] at hb2
  cases hb2
 obtain ⟨us,r1,r2⟩:=h.row
 have hcS:c ∉ S:=λhx=>absurd (hty c hx _ _ h.blk) (by decide)
 have hRS:R ∉ S:=λhx=>absurd (hty R hx _ _ r1) (by decide)
 have hA2:=Apart.setCell w' c 1 v';have hb1:=h.blk.apart hA hcS
 have hne2:∀ x ∈ [c],qK w' x:=λx hx=>by
  obtain rfl:x=c:=by simpa using hx
  exact qv hb1 (by decide)
 have hge2:∀ x ∈ [c],w0.heap.size≤x:=λx hx=>by
  obtain rfl:x=c:=by simpa using hx
  exact h.hc
 refine ⟨(h.bel.trans (hA.below _ h.bel.size hge)).trans (hA2.below _ (Nat.le_trans h.bel.size hA.size) hge2),hb1.set 1 v',h.hc,h.hR,⟨us,(r1.apart hA hRS).apart hA2 (λhx=>?_),r2⟩,h.n7,λj hj=>?_,hv.apart hA2 hne2 λx hx cur e=>?_,hl,h.sep⟩
 ·have:R=c:=by simpa using hx
  exact qa r1 h.blk (by decide) this
 ·have pj:=h.peers j hj
  have p1:=pj.apart hA hno hge λy hy hyS=>by
   unfold Fp.blocks at hy
   split at hy
   ·rename_i hu
    obtain ⟨_,_,v3,v4,_⟩:=pj.up hu;simp only [List.mem_cons,List.not_mem_nil,or_false] at hy
    rcases hy with rfl | rfl | rfl | rfl | rfl
    ·exact absurd (hty _ hyS _ _ pj.blk) (by decide)
    ·exact absurd (hty _ hyS _ _ pj.disk.dk.blk) (by decide)
    ·exact hmap _ hyS _ _ pj.disk.dk.map rfl
    ·exact absurd (hty _ hyS _ _ v3) (by decide)
    ·exact absurd (hty _ hyS _ _ v4) (by decide)
   ·simp only [List.mem_cons,List.not_mem_nil,or_false] at hy
    rcases hy with rfl | rfl | rfl
    ·exact absurd (hty _ hyS _ _ pj.blk) (by decide)
    ·exact absurd (hty _ hyS _ _ pj.disk.dk.blk) (by decide)
    ·exact hmap _ hyS _ _ pj.disk.dk.map rfl
  refine p1.apart hA2 hne2 hge2 λy hy hyc=>?_
  obtain rfl:y=c:=by simpa using hyc
  unfold Fp.blocks at hy
  split at hy
  ·rename_i hu
   obtain ⟨_,_,v3,v4,_⟩:=p1.up hu;simp only [List.mem_cons,List.not_mem_nil,or_false] at hy
   rcases hy with e | e | e | e | e
   ·exact qa hb1 p1.blk (by decide) e
   ·exact qa hb1 p1.disk.dk.blk (by decide) e
   ·exact qf hb1 p1.disk.dk.map e
   ·exact qa hb1 v3 (by decide) e
   ·exact qa hb1 v4 (by decide) e
  ·simp only [List.mem_cons,List.not_mem_nil,or_false] at hy
   rcases hy with e | e | e
   ·exact qa hb1 p1.blk (by decide) e
   ·exact qa hb1 p1.disk.dk.blk (by decide) e
   ·exact qf hb1 p1.disk.dk.map e
 ·obtain rfl:x=c:=by simpa using hx
  unfold Vb at hb1;rw [hb1] at e
  injection e with e
  injection e with _ e _
  exact absurd e (by decide)
theorem CluAt.wayRow (h:CluAt B w0 w c R C F k wv) {g:Nat} (hg:wv.ownBlock=some g):w0.heap.size≤g∧∃ cur,w.heap[g]?=some (.cells cur 229 (0,0)):=by
 obtain ⟨evs,_,h2,_⟩:=h.way
 rcases h2.2 with ⟨e1,_⟩ | ⟨y,cap,cur,e1,hb,hh,_⟩
 ·rw [e1] at hg;cases hg
 ·obtain rfl:y=g:=by rw [e1] at hg;simpa [Value.ownBlock] using hg
  exact ⟨hb,cur,hh⟩
end
theorem Sent.way {base b2:Nat} {w:World} {sv:Value} {ms:List rf.Msg} (h:Sent base w sv ms) (hb:b2≤base):Way b2 w sv ms:=by
 obtain ⟨evs,h1,h2,h3⟩:=h
 refine ⟨evs,h1,⟨h2.1,?_⟩,λp hp=>(h3 p hp).re⟩
 rcases h2.2 with h4 | ⟨g,cap,cur,e,hg,hr⟩
 ·exact .inl h4
 ·exact .inr ⟨g,cap,cur,e,Nat.le_trans hb hg,hr⟩
section
variable {B:Nat} {w0 w:World} {c R:Nat} {C:cl.Clu} {F:Nat→Fp} {k:Nat} {wv:Value}
theorem CluAt.notof (h:CluAt B w0 w c R C F k wv) {x:Nat} {vs:List Value} {t:TypeId} (hv:Vb w x vs t) (h1:t ≠ 177) (h2:t ≠ 306):∀ i,i < C.n→x ≠ (F i).p∧x ≠ (F i).b∧x ≠ (F i).g:=λi hi=>by
 have pi:=h.peers i hi;refine ⟨qa hv pi.disk.dk.blk h1,qf hv pi.disk.dk.map,?_⟩
 cases hu:(C.p i).up with
 | true=>
  obtain ⟨_,_,_,u4,_⟩:=pi.up hu;exact qa hv u4 h2
 | false=>rw [pi.dn hu];exact qa hv pi.disk.dk.blk h1
end
def zT (t:TypeId):Prop:=t=103∨t=93∨t=229
def Mine (o:Obj):Prop:=∃ cur t z,o=.cells cur t z∧zT t
structure Stay (F:Nat→Fp) (n:Nat) (w w':World):Prop where
 os:w'.os=w.os
 tape:w'.tape=w.tape
 output:w'.output=w.output
 size:w.heap.size≤w'.heap.size
 block:∀ x o,w.heap[x]?=some o→¬ Mine o→(∀ i,i < n→x ≠ (F i).p∧x ≠ (F i).b∧x ≠ (F i).g)→w'.heap[x]?=some o
theorem Stay.refl (F:Nat→Fp) (n:Nat) (w:World):Stay F n w w:=⟨rfl,rfl,rfl,Nat.le_refl _,λ_ _ h _ _=>h⟩
theorem Stay.trans {F:Nat→Fp} {n:Nat} {a b c:World} (h:Stay F n a b) (k:Stay F n b c):Stay F n a c:=
 ⟨k.os.trans h.os,k.tape.trans h.tape,k.output.trans h.output,Nat.le_trans h.size k.size,λx o hx hm hb=>k.block x o (h.block x o hx hm hb) hm hb⟩
theorem Stay.of_apart {F:Nat→Fp} {n:Nat} {S:List Nat} {w w':World} (hA:Apart S w w') (hS:∀ x ∈ S,(∃ vs t,Vb w x vs t∧zT t)∨∃ i,i < n∧(x=(F i).p∨x=(F i).b∨x=(F i).g)):Stay F n w w':=
 ⟨hA.os,hA.tape,hA.output,hA.size,λx o hx hm hb=>by
  have hlt:x < w.heap.size:=(Array.getElem?_eq_some_iff.1 hx).1
  rw [hA.block x hlt (λhxs=>?_)]
  ·exact hx
  ·rcases hS x hxs with ⟨vs,t,h1,h2⟩ | ⟨i,hi,e | e | e⟩
   ·unfold Vb at h1;rw [hx] at h1
    injection h1 with h1
    exact hm ⟨_,_,_,h1,h2⟩
   ·exact (hb i hi).1 e
   ·exact (hb i hi).2.1 e
   ·exact (hb i hi).2.2 e⟩
theorem Stay.of_below {F:Nat→Fp} {n:Nat} {w w':World} (h:Below w.heap.size w w'):Stay F n w w':=Stay.of_apart (Apart.of_below h []) λ_ hx=>by cases hx
theorem Stay.fp {F F':Nat→Fp} {n:Nat} {w w':World} (h:Stay F n w w') (e:∀ i,i < n→(F' i).p=(F i).p∧(F' i).b=(F i).b∧(F' i).g=(F i).g):Stay F' n w w':=
 ⟨h.os,h.tape,h.output,h.size,λx o hx hm hb=>h.block x o hx hm λi hi=>by rw [← (e i hi).1,← (e i hi).2.1,← (e i hi).2.2];exact hb i hi⟩
theorem Vb.stay {F:Nat→Fp} {n:Nat} {w w':World} {x:Nat} {vs:List Value} {t:TypeId} (h:Vb w x vs t) (hs:Stay F n w w') (ht:¬ zT t) (hb:∀ i,i < n→x ≠ (F i).p∧x ≠ (F i).b∧x ≠ (F i).g):Vb w' x vs t:=by
 unfold Vb at h ⊢;refine hs.block x _ h ?_ hb;rintro ⟨cur,t',z,e,ht'⟩
 injection e with _ e _
 exact ht (e ▸ ht')
end Go.Proofs.YtppibhieabideaaGreatDoor
