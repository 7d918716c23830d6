/- WlCut, SvCut: one behind the other. -/
import Derived.Test.YtmcibggjolckoaaGreatDoorGm6
namespace Go.Proofs.YtmcibggjolckoaaGreatDoor
open Go Go.RowKit
set_option maxRecDepth 100000
namespace vd
theorem trim_whole (k:Int) (S:List UInt8):trim k (S,S.length)=(S,S.length):=by
 have h:=stay_le k (S,S.length)
 have h2:stay k (S,S.length)=0:=by simp at h;exact h
 unfold trim
 rw [h2]
 simp
theorem err_up {d:Disk} (h:d.off=false) {n:Name} (hn:good n=true):nameErr d.off [n]=0:=by unfold nameErr;rw [h];simp [hn]
theorem there_up {d:Disk} (h:d.off=false) {n:Name} (hn:good n=true) (hh:has d.files n=true) (f2:Files) (a:Bool):there d n f2 a=(done d f2 a,doneE d):=by
 unfold there;rw [err_up h hn,hh];rfl
theorem there_gone {d:Disk} (h:d.off=false) {n:Name} (hn:good n=true) (hh:has d.files n=false) (f2:Files) (a:Bool):there d n f2 a=(d,3):=by
 unfold there;rw [err_up h hn,hh];rfl
theorem done_on {d:Disk} (h:d.left ≠ 1) (f2:Files) (a:Bool):done d f2 a={ less d with files:=f2 }∧doneE d=0:=by
 refine ⟨?_,by unfold doneE;rw [if_neg h]⟩
 unfold done
 have:goes d a=true:=by unfold goes;rw [decide_eq_true h];rfl
 rw [this]
 show (if d.left=1 then _ else _)=_
 rw [if_neg h];rfl
theorem done_last {d:Disk} (h:d.left=1) (f2:Files) (a:Bool):(∃ M,(M=f2∨(a=false∧M=d.files))∧done d f2 a=⟨d.cap,mapF (fun _ f=>trim d.keep f) M,true,0,d.keep⟩)∧doneE d=6:=by
 refine ⟨?_,by unfold doneE;rw [if_pos h]⟩
 have hl:(less d).left=0:=by show d.left - 1=0;rw [h]
 cases hg:goes d a with
 | true=>
  refine ⟨f2,.inl rfl,?_⟩
  unfold done
  rw [hg]
  show (if d.left=1 then _ else _)=_
  rw [if_pos h]
  show (⟨d.cap,mapF _ f2,true,d.left - 1,d.keep⟩:Disk)=_
  rw [h]
 | false=>
  have ha:a=false:=by
   cases a with
   | false=>rfl
   | true=>unfold goes at hg;simp at hg
  refine ⟨d.files,.inr ⟨ha,rfl⟩,?_⟩
  unfold done
  rw [hg]
  show (if d.left=1 then _ else _)=_
  rw [if_pos h]
  show (⟨d.cap,mapF _ d.files,true,d.left - 1,d.keep⟩:Disk)=_
  rw [h]
end vd
namespace wl
open vd
theorem run_stop {f:Op1} {r:List Op1} {d d':Disk} {e:Nat} (h:f d=(d',e)) (h0:e ≠ 0):run (f :: r) d=(d',e):=by
 show (if (f d).2 ≠ 0 then f d else run r (f d).1)=_
 rw [h,if_pos h0]
structure Cut (c:Nat) (k:Int) (n:Name) (good:List UInt8) (P:List UInt8→Prop) (r:Disk × Nat):Prop where
 here:∃ M j,r.1=⟨c,M,decide (r.2 ≠ 0),j,k⟩∧has M n=true∧((r.2=0∧at_ M n=(good,good.length))∨(r.2=6∧∃ S,P S∧at_ M n=(S,S.length)))
end wl
end Go.Proofs.YtmcibggjolckoaaGreatDoor
namespace Go.Proofs.YtmcibggjolckoaaGreatDoor
open Go Go.RowKit
set_option maxRecDepth 100000
namespace wl
open vd
def tailOps (o n:Name) (s:List UInt8):List Op1:=[fun d=>vd.create d o,fun d=>vd.append d o s,fun d=>vd.sync d o,fun d=>vd.rename d o n]
def Left (c:Nat) (k:Int) (n o:Name) (S s:List UInt8) (B:Nat) (r:Disk × Nat):Prop:=
 ∃ M j,r.1=⟨c,M,decide (r.2 ≠ 0),j,k⟩∧(r.2=0∨r.2=6)∧∃ T,(T=s∨(r.2=6∧T=S))∧(M=[(n,(T,T.length))]∨∃ g:File,M=[(n,(T,T.length)),(o,g)]∧g.1.length≤B)
theorem tail_cut {c:Nat} {k:Int} {n:Name} {S s:List UInt8} {B:Nat} (j:Nat) (hn:openE n=true) (hB:s.length≤B) (hr:S.length + s.length≤c) :
  Left c k n (n ++ [43]) S s B (run (tailOps (n ++ [43]) n s) ⟨c,[(n,(S,S.length))],false,j,k⟩):=by
 obtain ⟨g1,g2,g3⟩:=good_of hn
 obtain ⟨o,ho⟩:∃ o,n ++ [43]=o:=⟨_,rfl⟩
 rw [ho] at g2 g3 ⊢
 have at2:∀ f g:File,at_ [(n,f),(o,g)] o=g:=fun f g=>by unfold at_;rw [if_neg g3];unfold at_;rw [if_pos rfl]
 have has2:∀ f g:File,has [(n,f),(o,g)] o=true:=fun f g=>by unfold has;rw [if_neg g3];unfold has;rw [if_pos rfl]
 have put2:∀ f g h:File,vd.put [(n,f),(o,g)] o h=[(n,f),(o,h)]:=fun f g h=>by unfold vd.put;rw [if_neg g3];unfold vd.put;rw [if_pos rfl]
 have no2:∀ f:File,has [(n,f)] o=false:=fun f=>by unfold has;rw [if_neg g3];rfl
 have hcr:∀ (x:File) (r:Files) (e:Nat),(x=(S,S.length)∨x=(s,s.length))→(r=[]∨∃ g:File,r=[(o,g)]∧g.1.length≤B)→e=6→Left c k n o S s B (⟨c,mapF (fun _ f=>trim k f) ((n,x) :: r),true,0,k⟩,e):=by
  rintro x r e hx hrr rfl
  have hx2:∃ T,(T=s∨T=S)∧trim k x=(T,T.length):=by
   rcases hx with rfl | rfl
   ·exact ⟨S,.inr rfl,trim_whole _ _⟩
   ·exact ⟨s,.inl rfl,trim_whole _ _⟩
  obtain ⟨T,hT,hx3⟩:=hx2
  refine ⟨_,0,rfl,.inr rfl,T,by rcases hT with h | h;exact .inl h;exact .inr ⟨rfl,h⟩,?_⟩
  show (n,trim k x) :: mapF (fun _ f=>trim k f) r=_∨∃ g:File,(n,trim k x) :: mapF (fun _ f=>trim k f) r=_∧_
  rw [hx3]
  rcases hrr with rfl | ⟨g,rfl,hg⟩
  ·exact .inl rfl
  ·exact .inr ⟨trim k g,rfl,Nat.le_trans (trim_len k g) hg⟩
 have a1:vd.create ⟨c,[(n,(S,S.length))],false,j,k⟩ o=(done ⟨c,[(n,(S,S.length))],false,j,k⟩ [(n,(S,S.length)),(o,([],0))] false,doneE ⟨c,[(n,(S,S.length))],false,j,k⟩):=by
  have hp:vd.put [(n,(S,S.length))] o ([],0)=[(n,(S,S.length)),(o,([],0))]:=by unfold vd.put;rw [if_neg g3];rfl
  unfold vd.create
  rw [err_up rfl g2]
  show (if (0:Nat) ≠ 0 then _ else if has [(n,(S,S.length))] o=true then _ else if 200≤[(n,(S,S.length))].length then _ else (done _ (vd.put [(n,(S,S.length))] o ([],0)) false,_))=_
  rw [if_neg (by simp),no2,if_neg (by simp),if_neg (by simp),hp]
 unfold tailOps
 by_cases h1:j=1
 ·obtain ⟨⟨M,hM,h2⟩,h3⟩:=done_last (d:=⟨c,[(n,(S,S.length))],false,j,k⟩) h1 [(n,(S,S.length)),(o,([],0))] false
  rw [h2,h3] at a1
  rw [run_stop a1 (by simp)]
  rcases hM with rfl | ⟨_,rfl⟩
  ·exact hcr _ _ _ (.inl rfl) (.inr ⟨_,rfl,Nat.zero_le _⟩) rfl
  ·exact hcr _ _ _ (.inl rfl) (.inl rfl) rfl
 obtain ⟨h2,h3⟩:=done_on (d:=⟨c,[(n,(S,S.length))],false,j,k⟩) h1 [(n,(S,S.length)),(o,([],0))] false
 rw [h2,h3] at a1
 have a1':vd.create ⟨c,[(n,(S,S.length))],false,j,k⟩ o=(⟨c,[(n,(S,S.length)),(o,([],0))],false,j - 1,k⟩,0):=a1
 rw [run_ok a1']
 obtain ⟨j1,hj1⟩:∃ j1,j - 1=j1:=⟨_,rfl⟩
 rw [hj1]
 have a2:vd.append ⟨c,[(n,(S,S.length)),(o,([],0))],false,j1,k⟩ o s=(done ⟨c,[(n,(S,S.length)),(o,([],0))],false,j1,k⟩ [(n,(S,S.length)),(o,(s,0))] true,doneE ⟨c,[(n,(S,S.length)),(o,([],0))],false,j1,k⟩):=by
  unfold vd.append
  rw [if_neg (by show ¬ (_∧_∧c < total [(n,(S,S.length)),(o,([],0))] + s.length);rw [show total [(n,(S,S.length)),(o,([],0))]=S.length from by simp [total]];omega)]
  rw [there_up rfl g2 (has2 _ _)]
  show (done _ (vd.put [(n,(S,S.length)),(o,([],0))] o ((at_ [(n,(S,S.length)),(o,([],0))] o).1 ++ s,(at_ [(n,(S,S.length)),(o,([],0))] o).2)) true,_)=_
  rw [at2,put2];rfl
 by_cases h4:j1=1
 ·obtain ⟨⟨M,hM,h5⟩,h6⟩:=done_last (d:=⟨c,[(n,(S,S.length)),(o,([],0))],false,j1,k⟩) h4 [(n,(S,S.length)),(o,(s,0))] true
  rw [h5,h6] at a2
  rw [run_stop a2 (by simp)]
  rcases hM with rfl | ⟨h,_⟩
  ·exact hcr _ _ _ (.inl rfl) (.inr ⟨_,rfl,hB⟩) rfl
  ·cases h
 obtain ⟨h5,h6⟩:=done_on (d:=⟨c,[(n,(S,S.length)),(o,([],0))],false,j1,k⟩) h4 [(n,(S,S.length)),(o,(s,0))] true
 rw [h5,h6] at a2
 have a2':vd.append ⟨c,[(n,(S,S.length)),(o,([],0))],false,j1,k⟩ o s=(⟨c,[(n,(S,S.length)),(o,(s,0))],false,j1 - 1,k⟩,0):=a2
 rw [run_ok a2']
 obtain ⟨j2,hj2⟩:∃ j2,j1 - 1=j2:=⟨_,rfl⟩
 rw [hj2]
 have a3:vd.sync ⟨c,[(n,(S,S.length)),(o,(s,0))],false,j2,k⟩ o=(done ⟨c,[(n,(S,S.length)),(o,(s,0))],false,j2,k⟩ [(n,(S,S.length)),(o,(s,s.length))] false,doneE ⟨c,[(n,(S,S.length)),(o,(s,0))],false,j2,k⟩):=by
  unfold vd.sync
  rw [there_up rfl g2 (has2 _ _)]
  show (done _ (vd.put [(n,(S,S.length)),(o,(s,0))] o ((at_ [(n,(S,S.length)),(o,(s,0))] o).1,(at_ [(n,(S,S.length)),(o,(s,0))] o).1.length)) false,_)=_
  rw [at2,put2]
 by_cases h7:j2=1
 ·obtain ⟨⟨M,hM,h8⟩,h9⟩:=done_last (d:=⟨c,[(n,(S,S.length)),(o,(s,0))],false,j2,k⟩) h7 [(n,(S,S.length)),(o,(s,s.length))] false
  rw [h8,h9] at a3
  rw [run_stop a3 (by simp)]
  rcases hM with rfl | ⟨_,rfl⟩
  ·exact hcr _ _ _ (.inl rfl) (.inr ⟨_,rfl,hB⟩) rfl
  ·exact hcr _ _ _ (.inl rfl) (.inr ⟨_,rfl,hB⟩) rfl
 obtain ⟨h8,h9⟩:=done_on (d:=⟨c,[(n,(S,S.length)),(o,(s,0))],false,j2,k⟩) h7 [(n,(S,S.length)),(o,(s,s.length))] false
 rw [h8,h9] at a3
 have a3':vd.sync ⟨c,[(n,(S,S.length)),(o,(s,0))],false,j2,k⟩ o=(⟨c,[(n,(S,S.length)),(o,(s,s.length))],false,j2 - 1,k⟩,0):=a3
 rw [run_ok a3']
 obtain ⟨j3,hj3⟩:∃ j3,j2 - 1=j3:=⟨_,rfl⟩
 rw [hj3]
 have hdel:vd.del [(n,(S,S.length)),(o,(s,s.length))] o=[(n,(S,S.length))]:=by
  unfold vd.del;rw [if_neg g3]
  unfold vd.del;rw [if_pos rfl]
 have a4:vd.rename ⟨c,[(n,(S,S.length)),(o,(s,s.length))],false,j3,k⟩ o n=(done ⟨c,[(n,(S,S.length)),(o,(s,s.length))],false,j3,k⟩ [(n,(s,s.length))] false,doneE ⟨c,[(n,(S,S.length)),(o,(s,s.length))],false,j3,k⟩):=by
  unfold vd.rename
  have:nameErr false [o,n]=0:=by unfold nameErr;simp [g1,g2]
  show (if nameErr false [o,n] ≠ 0 then _ else there _ _ _ _)=_
  rw [this,if_neg (by simp),there_up rfl g2 (has2 _ _)]
  show (done _ (vd.put (vd.del [(n,(S,S.length)),(o,(s,s.length))] o) n (at_ [(n,(S,S.length)),(o,(s,s.length))] o)) false,_)=_
  rw [at2,hdel]
  unfold vd.put;rw [if_pos rfl]
 by_cases h10:j3=1
 ·obtain ⟨⟨M,hM,h11⟩,h12⟩:=done_last (d:=⟨c,[(n,(S,S.length)),(o,(s,s.length))],false,j3,k⟩) h10 [(n,(s,s.length))] false
  rw [h11,h12] at a4
  rw [run_stop a4 (by simp)]
  rcases hM with rfl | ⟨_,rfl⟩
  ·exact hcr _ _ _ (.inr rfl) (.inl rfl) rfl
  ·exact hcr _ _ _ (.inl rfl) (.inr ⟨_,rfl,hB⟩) rfl
 obtain ⟨h11,h12⟩:=done_on (d:=⟨c,[(n,(S,S.length)),(o,(s,s.length))],false,j3,k⟩) h10 [(n,(s,s.length))] false
 rw [h11,h12] at a4
 have a4':vd.rename ⟨c,[(n,(S,S.length)),(o,(s,s.length))],false,j3,k⟩ o n=(⟨c,[(n,(s,s.length))],false,j3 - 1,k⟩,0):=a4
 rw [run_ok a4']
 exact ⟨_,_,rfl,.inl rfl,s,.inl rfl,.inl rfl⟩
def Two (n:Name) (S:List UInt8) (B:Nat) (M:Files):Prop:=M=[(n,(S,S.length))]∨∃ g:File,M=[(n,(S,S.length)),(n ++ [43],g)]∧g.1.length≤B
theorem write_cut2 {c:Nat} {k:Int} {n:Name} {S s:List UInt8} {B:Nat} {M:Files} (j:Nat) (hn:openE n=true) (hM:Two n S B M) (hB:s.length≤B) (hr:S.length + s.length≤c) :
  Left c k n (n ++ [43]) S s B (write ⟨c,M,false,j,k⟩ n s):=by
 obtain ⟨g1,g2,g3⟩:=good_of hn
 have ht:=fun j=>tail_cut (c:=c) (k:=k) (S:=S) (B:=B) j hn hB hr
 unfold write
 rcases hM with rfl | ⟨g,rfl,hg⟩
 ·have a0:del ⟨c,[(n,(S,S.length))],false,j,k⟩ (n ++ [43])=(⟨c,[(n,(S,S.length))],false,j,k⟩,0):=by
   unfold del vd.delete
   rw [there_gone rfl g2 (by show has [(n,(S,S.length))] (n ++ [43])=false;unfold has;rw [if_neg g3];rfl)];rfl
  rw [show run (writeOps (n ++ [43]) n s) _=_ from run_ok a0]
  exact ht j
 ·obtain ⟨o,ho⟩:∃ o,n ++ [43]=o:=⟨_,rfl⟩
  rw [ho] at g2 g3 ht ⊢
  have hdel:vd.del [(n,(S,S.length)),(o,g)] o=[(n,(S,S.length))]:=by
   unfold vd.del;rw [if_neg g3]
   unfold vd.del;rw [if_pos rfl]
  have hhas:has [(n,(S,S.length)),(o,g)] o=true:=by unfold has;rw [if_neg g3];unfold has;rw [if_pos rfl]
  have a0:vd.delete ⟨c,[(n,(S,S.length)),(o,g)],false,j,k⟩ o=(done ⟨c,[(n,(S,S.length)),(o,g)],false,j,k⟩ [(n,(S,S.length))] false,doneE ⟨c,[(n,(S,S.length)),(o,g)],false,j,k⟩):=by
   unfold vd.delete
   rw [there_up rfl g2 hhas]
   show (done _ (vd.del [(n,(S,S.length)),(o,g)] o) false,_)=_
   rw [hdel]
  by_cases h1:j=1
  ·obtain ⟨⟨M,hM,h2⟩,h3⟩:=done_last (d:=⟨c,[(n,(S,S.length)),(o,g)],false,j,k⟩) h1 [(n,(S,S.length))] false
   rw [h2,h3] at a0
   have a1:del ⟨c,[(n,(S,S.length)),(o,g)],false,j,k⟩ o=(⟨c,mapF (fun _ f=>trim k f) M,true,0,k⟩,6):=by
    unfold del;rw [a0];rfl
   rw [show run (writeOps o n s) _=_ from run_stop a1 (by simp)]
   refine ⟨_,0,rfl,.inr rfl,S,.inr ⟨rfl,rfl⟩,?_⟩
   rcases hM with rfl | ⟨_,rfl⟩
   ·exact .inl (by show [(n,trim k (S,S.length))]=_;rw [trim_whole])
   ·exact .inr ⟨trim k g,by show [(n,trim k (S,S.length)),(o,trim k g)]=_;rw [trim_whole],Nat.le_trans (trim_len k g) hg⟩
  ·obtain ⟨h2,h3⟩:=done_on (d:=⟨c,[(n,(S,S.length)),(o,g)],false,j,k⟩) h1 [(n,(S,S.length))] false
   rw [h2,h3] at a0
   have a1:del ⟨c,[(n,(S,S.length)),(o,g)],false,j,k⟩ o=(⟨c,[(n,(S,S.length))],false,j - 1,k⟩,0):=by
    unfold del;rw [a0];rfl
   rw [show run (writeOps o n s) _=_ from run_ok a1]
   exact ht (j - 1)
end wl
end Go.Proofs.YtmcibggjolckoaaGreatDoor
