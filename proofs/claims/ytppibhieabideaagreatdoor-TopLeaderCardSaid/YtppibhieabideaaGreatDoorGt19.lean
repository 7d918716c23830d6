/- A part of the walk of the program, and of its plain law. -/
import Derived.Test.YtppibhieabideaaGreatDoorGt18
namespace Go.Proofs.YtppibhieabideaaGreatDoor
namespace cl
open rl (Ent e0)
set_option maxRecDepth 100000
structure Nd where
 s:St
 up:Bool
 x:rf.Node
structure Clu where
 n:Nat
 p:Nat→Nd
 way:List rf.Msg
def Clu.sts (C:Clu):Nat→St:=λi=>(C.p i).s
def last (l:List rf.Msg):List rf.Msg:=l.drop (l.length - 200)
def changed (C:Clu) (i:Nat) (x:rf.Node) (out:List rf.Msg):Clu:={ C with p:=upd C.p i ⟨stOf x,true,x⟩,way:=last (C.way ++ out) }
def fallen (C:Clu) (i:Nat) (s:St) (z:rf.Node):Clu:={ C with p:=upd C.p i ⟨s,false,z⟩ }
def started (C:Clu) (i:Nat):Clu:={ C with p:=upd C.p i ⟨(C.p i).s,true,rf.new (i:Int) (C.n:Int) (C.p i).s.t (C.p i).s.v (C.p i).s.l⟩ }
structure Inv (C:Clu) (g:Gh):Prop where
 core:Core C.n C.sts g
 up:∀ i,i < C.n→(C.p i).up=true→UpOk C.n C.sts g i (C.p i).x
 way:∀ m ∈ C.way,MsgOk C.n C.sts g m
structure Lim (M K:Nat) (C:Clu):Prop where
 st:∀ i,i < C.n→(C.p i).s.l.length≤M∧(C.p i).s.t≤K∧Short (C.p i).s.l∧-1≤(C.p i).s.v∧(C.p i).s.v≤6
 up:∀ i,i < C.n→(C.p i).up=true→NdLim M K (C.p i).x
 way:∀ m ∈ C.way,MsgLim M K m
theorem Lim.mono {M K M' K':Nat} {C:Clu} (h:Lim M K C) (hM:M≤M') (hK:K≤K'):Lim M' K' C:=
 ⟨λi hi=>⟨Nat.le_trans (h.st i hi).1 hM,Nat.le_trans (h.st i hi).2.1 hK,(h.st i hi).2.2⟩,λi hi hu=>(h.up i hi hu).mono hM hK,λm hm=>(h.way m hm).mono hM hK⟩
def Onward (C C':Clu):Prop:=C'.n=C.n∧∀ g,Inv C g→∃ g',Inv C' g'∧Le C.sts g C'.sts g'
theorem Q8 (C:Clu) (i:Nat) (d:Nd):(λj=>(upd C.p i d j).s)=upd C.sts i d.s:=by
 funext j
 by_cases hj:j=i
 ·subst hj;rw [upd_same,upd_same]
 ·rw [upd_other _ _ hj,upd_other _ _ hj];rfl
theorem jf {l:List rf.Msg} {m:rf.Msg} (h:m ∈ last l):m ∈ l:=by
 unfold last at h;exact List.mem_of_mem_drop h
theorem jq {C:Clu} {g g':Gh} {i:Nat} {x:rf.Node} {out:List rf.Msg} (h:Inv C g) (hg:Goes C.n C.sts g i x out g'):Inv (changed C i x out) g':=by
 have e:(changed C i x out).sts=upd C.sts i (stOf x):=Q8 C i _
 refine ⟨by rw [e];exact hg.core,λj hj hu=>?_,λm hm=>?_⟩
 ·rw [e]
  by_cases hji:j=i
  ·subst hji
   have e2:((changed C j x out).p j).x=x:=by show (upd C.p j _ j).x=x;rw [upd_same]
   rw [e2];exact hg.up
  ·have e2:(changed C i x out).p j=C.p j:=upd_other _ _ hji;rw [e2] at hu ⊢;exact (h.up j hj hu).other hji hg
 ·rw [e]
  have hm2:m ∈ last (C.way ++ out):=by
   unfold changed at hm;exact hm
  have hm3:=jf hm2
  rcases List.mem_append.1 hm3 with h1 | h1
  ·exact (h.way m h1).later hg.le
  ·exact hg.out m h1
theorem YB {C:Clu} {g:Gh} {i:Nat} (h:Inv C g) (z:rf.Node):Inv (fallen C i (C.p i).s z) g:=by
 have e:(fallen C i (C.p i).s z).sts=C.sts:=by
  have h1:(fallen C i (C.p i).s z).sts=upd C.sts i (C.p i).s:=Q8 C i _;rw [h1];exact Yb i _ rfl
 refine ⟨by rw [e];exact h.core,λj hj hu=>?_,λm hm=>by rw [e];exact h.way m hm⟩
 rw [e]
 by_cases hji:j=i
 ·subst hji
  have e2:((fallen C j (C.p j).s z).p j).up=false:=by show (upd C.p j _ j).up=false;rw [upd_same]
  rw [e2] at hu
  cases hu
 ·have e2:(fallen C i (C.p i).s z).p j=C.p j:=upd_other _ _ hji;rw [e2] at hu ⊢;exact h.up j hj hu
theorem inv_cut {C:Clu} {g g':Gh} {i:Nat} {x:rf.Node} {out:List rf.Msg} (h:Inv C g) (hg:Goes C.n C.sts g i x out g') (z:rf.Node):Inv (fallen C i (stOf x) z) g':=by
 have e:(fallen C i (stOf x) z).sts=upd C.sts i (stOf x):=Q8 C i _
 refine ⟨by rw [e];exact hg.core,λj hj hu=>?_,λm hm=>by rw [e];exact (h.way m hm).later hg.le⟩
 rw [e]
 by_cases hji:j=i
 ·subst hji
  have e2:((fallen C j (stOf x) z).p j).up=false:=by show (upd C.p j _ j).up=false;rw [upd_same]
  rw [e2] at hu
  cases hu
 ·have e2:(fallen C i (stOf x) z).p j=C.p j:=upd_other _ _ hji;rw [e2] at hu ⊢;exact (h.up j hj hu).other hji hg
inductive After (C:Clu) (i:Nat) (x:rf.Node) (out:List rf.Msg):Clu→Prop
 | ok:After C i x out (changed C i x out)
 | old (z:rf.Node):After C i x out (fallen C i (C.p i).s z)
 | new (z:rf.Node):After C i x out (fallen C i (stOf x) z)
theorem After.inv {C C':Clu} {g g':Gh} {i:Nat} {x:rf.Node} {out:List rf.Msg} (h:After C i x out C') (hI:Inv C g) (hG:Goes C.n C.sts g i x out g'):∃ g2,Inv C' g2∧Le C.sts g C'.sts g2:=by
 cases h with
 | ok=>exact ⟨g',jq hI hG,by rw [show (changed C i x out).sts=_ from Q8 C i _];exact hG.le⟩
 | old z=>exact ⟨g,YB hI z,by
   rw [show (fallen C i (C.p i).s z).sts=upd C.sts i (C.p i).s from Q8 C i _,Yb i (C.p i).s rfl]
   exact Le.refl _ _⟩
 | new z=>exact ⟨g',inv_cut hI hG z,by rw [show (fallen C i (stOf x) z).sts=_ from Q8 C i _];exact hG.le⟩
theorem After.n {C C':Clu} {i:Nat} {x:rf.Node} {out:List rf.Msg} (h:After C i x out C'):C'.n=C.n:=by cases h <;> rfl
theorem After.onward {C C':Clu} {i:Nat} {x:rf.Node} {out:List rf.Msg} (h:After C i x out C') (hg:∀ g,Inv C g→∃ g',Goes C.n C.sts g i x out g'):Onward C C':=
 ⟨h.n,λg hI=>by
  obtain ⟨g',hG⟩:=hg g hI
  exact h.inv hI hG⟩
theorem After.lim {C C':Clu} {M K M' K' i:Nat} {r:rf.Node × List rf.Msg} (h:After C i r.1 r.2 C') (hL:Lim M K C) (hM:M≤M') (hK:K≤K') (hb:BothLim M' K' r):Lim M' K' C':=by
 have hL2:=hL.mono hM hK;have hst:(stOf r.1).l.length≤M'∧(stOf r.1).t≤K'∧Short (stOf r.1).l∧-1≤(stOf r.1).v∧(stOf r.1).v≤6:=⟨hb.1.len,hb.1.term,hb.1.text,hb.1.vote⟩
 cases h with
 | ok=>
  refine ⟨λj hj=>?_,λj hj hu=>?_,λm hm=>?_⟩
  ·by_cases hji:j=i
   ·subst hji
    rw [show (changed C j r.1 r.2).p j=⟨stOf r.1,true,r.1⟩ from upd_same _ _ _]
    exact hst
   ·rw [show (changed C i r.1 r.2).p j=C.p j from upd_other _ _ hji]
    exact hL2.st j hj
  ·by_cases hji:j=i
   ·subst hji
    rw [show (changed C j r.1 r.2).p j=⟨stOf r.1,true,r.1⟩ from upd_same _ _ _]
    exact hb.1
   ·have e2:(changed C i r.1 r.2).p j=C.p j:=upd_other _ _ hji;rw [e2] at hu ⊢;exact hL2.up j hj hu
  ·have hm2:m ∈ last (C.way ++ r.2):=hm;have hm3:=jf hm2
   rcases List.mem_append.1 hm3 with h1 | h1
   ·exact hL2.way m h1
   ·exact hb.2 m h1
 | old z=>
  refine ⟨λj hj=>?_,λj hj hu=>?_,hL2.way⟩
  ·by_cases hji:j=i
   ·subst hji
    rw [show (fallen C j (C.p j).s z).p j=⟨(C.p j).s,false,z⟩ from upd_same _ _ _]
    exact hL2.st j hj
   ·rw [show (fallen C i (C.p i).s z).p j=C.p j from upd_other _ _ hji]
    exact hL2.st j hj
  ·by_cases hji:j=i
   ·subst hji
    rw [show (fallen C j (C.p j).s z).p j=⟨(C.p j).s,false,z⟩ from upd_same _ _ _] at hu
    cases hu
   ·have e2:(fallen C i (C.p i).s z).p j=C.p j:=upd_other _ _ hji;rw [e2] at hu ⊢;exact hL2.up j hj hu
 | new z=>
  refine ⟨λj hj=>?_,λj hj hu=>?_,hL2.way⟩
  ·by_cases hji:j=i
   ·subst hji
    rw [show (fallen C j (stOf r.1) z).p j=⟨stOf r.1,false,z⟩ from upd_same _ _ _]
    exact hst
   ·rw [show (fallen C i (stOf r.1) z).p j=C.p j from upd_other _ _ hji]
    exact hL2.st j hj
  ·by_cases hji:j=i
   ·subst hji
    rw [show (fallen C j (stOf r.1) z).p j=⟨stOf r.1,false,z⟩ from upd_same _ _ _] at hu
    cases hu
   ·have e2:(fallen C i (stOf r.1) z).p j=C.p j:=upd_other _ _ hji;rw [e2] at hu ⊢;exact hL2.up j hj hu
theorem lim_way {C:Clu} {M K:Nat} {w:List rf.Msg} (h:Lim M K C) (hw:∀ m ∈ w,m ∈ C.way):Lim M K { C with way:=w }:=⟨h.st,h.up,λm hm=>h.way m (hw m hm)⟩
theorem lim_start {C:Clu} {M K i:Nat} (h:Lim M K C) (hi:i < C.n):Lim M K (started C i):=by
 have e:∀ j,((started C i).p j).s=(C.p j).s:=λj=>by
  by_cases hji:j=i
  ·subst hji
   rw [show (started C j).p j=_ from upd_same _ _ _]
  ·rw [show (started C i).p j=C.p j from upd_other _ _ hji]
 refine ⟨λj hj=>by rw [e];exact h.st j hj,λj hj hu=>?_,h.way⟩
 by_cases hji:j=i
 ·subst hji
  rw [show ((started C j).p j).x=rf.new (j:Int) (C.n:Int) (C.p j).s.t (C.p j).s.v (C.p j).s.l from by rw [show (started C j).p j=_ from upd_same _ _ _]]
  have q:=h.st j hj
  exact ⟨q.1,λh1=>absurd (show (0:Int)=1 from h1) (by decide),q.2.1,Int.le_refl _,(by decide:(0:Int)≤100),q.2.2.1,q.2.2.2⟩
 ·have e2:(started C i).p j=C.p j:=upd_other _ _ hji;rw [e2] at hu ⊢;exact h.up j hj hu
theorem lim_fall {C:Clu} {M K i:Nat} (h:Lim M K C) (z:rf.Node):Lim M K (fallen C i (C.p i).s z):=by
 refine ⟨λj hj=>?_,λj hj hu=>?_,h.way⟩
 ·by_cases hji:j=i
  ·subst hji
   rw [show (fallen C j (C.p j).s z).p j=⟨(C.p j).s,false,z⟩ from upd_same _ _ _]
   exact h.st j hj
  ·rw [show (fallen C i (C.p i).s z).p j=C.p j from upd_other _ _ hji]
   exact h.st j hj
 ·by_cases hji:j=i
  ·subst hji
   rw [show (fallen C j (C.p j).s z).p j=⟨(C.p j).s,false,z⟩ from upd_same _ _ _] at hu
   cases hu
  ·have e2:(fallen C i (C.p i).s z).p j=C.p j:=upd_other _ _ hji;rw [e2] at hu ⊢;exact h.up j hj hu
theorem onward_tick {C C':Clu} {M K i:Nat} (hL:Lim M K C) (hK:K + 1 < 18446744073709551616) (h7:C.n≤7) (hi:i < C.n) (hu:(C.p i).up=true) (h:After C i (rf.tick (C.p i).x).1 (rf.tick (C.p i).x).2 C'):Onward C C':=
 h.onward λg hI=>X7 hI.core hi h7 (hI.up i hi hu) (by have:=(hL.up i hi hu).term;omega)
theorem onward_propose {C C':Clu} {i:Nat} {text:List UInt8} (h7:C.n≤7) (hi:i < C.n) (hu:(C.p i).up=true) (h:After C i (rf.propose (C.p i).x text).1 (rf.propose (C.p i).x text).2.1 C'):Onward C C':=
 h.onward λ_ hI=>Ky hI.core hi h7 (hI.up i hi hu) text
theorem onward_way {C:Clu} {w:List rf.Msg} (hw:∀ m ∈ w,m ∈ C.way):Onward C { C with way:=w }:=⟨rfl,λg h=>⟨g,⟨h.core,h.up,λm hm=>h.way m (hw m hm)⟩,Le.refl _ _⟩⟩
theorem onward_step {C C':Clu} {i:Nat} {m:rf.Msg} {w:List rf.Msg} (h7:C.n≤7) (hi:i < C.n) (hu:(C.p i).up=true) (hm:m ∈ C.way) (hw:∀ m ∈ w,m ∈ C.way) (h:After { C with way:=w } i (rf.step (C.p i).x m).1 (rf.step (C.p i).x m).2 C'):Onward C C':=by
 refine ⟨h.n,λg hI=>?_⟩
 have hI2:Inv { C with way:=w } g:=⟨hI.core,hI.up,λm hm=>hI.way m (hw m hm)⟩
 obtain ⟨g',hG⟩:=X8 hI.core hi h7 (hI.up i hi hu) (hI.way m hm);exact h.inv hI2 hG
theorem onward_fall {C:Clu} {i:Nat} (z:rf.Node):Onward C (fallen C i (C.p i).s z):=by
 refine ⟨rfl,λg hI=>⟨g,YB hI z,?_⟩⟩
 rw [show (fallen C i (C.p i).s z).sts=upd C.sts i (C.p i).s from Q8 C i _,Yb i (C.p i).s rfl]
 exact Le.refl _ _
theorem KY (C:Clu) (i:Nat):(started C i).sts=C.sts:=by
 have h1:(started C i).sts=upd C.sts i (C.p i).s:=Q8 C i _;rw [h1];exact Yb i _ rfl
theorem onward_start {C:Clu} {i:Nat}:Onward C (started C i):=by
 have e:=KY C i
 refine ⟨rfl,λg hI=>⟨g,⟨by rw [e];exact hI.core,λj hj hu=>?_,λm hm=>by rw [e];exact hI.way m hm⟩,by rw [e];exact Le.refl _ _⟩⟩
 rw [e]
 by_cases hji:j=i
 ·subst hji
  have e2:((started C j).p j).x=rf.new (j:Int) (C.n:Int) (C.p j).s.t (C.p j).s.v (C.p j).s.l:=by show (upd C.p j _ j).x=_;rw [upd_same]
  rw [e2]
  refine ⟨rfl,rfl,rfl,λh=>absurd (show (0:Int)=1 from h) (by decide),λh=>absurd (show (0:Int)=2 from h) (by decide),.inl rfl,⟨?_,?_⟩⟩
  ·show (List.replicate 7 false).length=7;rfl
  ·show (List.replicate 7 0).length=7;rfl
 ·have e2:(started C i).p j=C.p j:=upd_other _ _ hji;rw [e2] at hu ⊢;exact hI.up j hj hu
def fresh (n:Nat):Clu:=⟨n,λi=>⟨⟨0,-1,[]⟩,true,rf.new (i:Int) (n:Int) 0 (-1) []⟩,[]⟩
def gh0:Gh:=⟨λ_=>[],λ_=>none,λ_ _=>none,λ_ _=>[],λ_ _=>0⟩
theorem inv_fresh (n:Nat):Inv (fresh n) gh0:=by
 have nof:∀ l:Log,l=[]→Fits gh0 l:=λl hl k hk=>by rw [hl] at hk;exact absurd hk (Nat.not_lt_zero _)
 have noo:∀ {t k:Nat},¬ Own gh0 t k:=λh=>by
  have h1:=h.1;have h2:_≤0:=h.2.1;omega
 refine ⟨⟨λh=>(by cases h),λh=>(by cases h),λ_ h=>absurd rfl h,λh=>(by cases h),λ_=>rfl,λ_=>nof _ rfl,λ_ k hk=>absurd hk (Nat.not_lt_zero _),λ_=>nof _ rfl,λ_ k hk=>absurd hk (Nat.not_lt_zero _),λh=>absurd h (Nat.not_lt_zero _),λ_ _=>Nat.zero_le _,λ_ ho _=>absurd ho noo,λ_ _ ho=>absurd ho noo,λh=>(by cases h),λ_=>Ag.zero _ _⟩,λi _ _=>⟨rfl,rfl,rfl,λh=>absurd (show (0:Int)=1 from h) (by decide),λh=>absurd (show (0:Int)=2 from h) (by decide),.inl rfl,⟨?_,?_⟩⟩,λm hm=>by cases hm⟩
 ·show (List.replicate 7 false).length=7;rfl
 ·show (List.replicate 7 0).length=7;rfl
end cl
end Go.Proofs.YtppibhieabideaaGreatDoor
