/- A part of the walk of the program, and of its plain law. -/
import Derived.BigQuiet
import Derived.Test.YtppibhieabideaaGreatDoorGt3
import Derived.Deep.RegionHeld3
namespace Go.Proofs.YtppibhieabideaaGreatDoor
set_option maxHeartbeats 4000000
open Go Go.RowKit Go.Lib
set_option maxRecDepth 100000
namespace vd
theorem put_names (M:Files) (n:Name) (f:File):(put M n f).map (·.1)=if has M n then M.map (·.1) else M.map (·.1) ++ [n]:=by
 induction M with
 | nil=>rfl
 | cons x r ih=>
  obtain ⟨m,g⟩:=x;unfold put has
  by_cases h:m=n
  ·rw [if_pos h,if_pos h];rfl
  ·rw [if_neg h,if_neg h,List.map_cons,ih]
   cases has r n <;> rfl
theorem kD (M:Files) (n:Name):has M n=true ↔ n ∈ M.map (·.1):=by
 induction M with
 | nil=>simp [has]
 | cons x r ih=>
  obtain ⟨m,g⟩:=x;unfold has
  by_cases h:m=n
  ·simp [h]
  ·rw [if_neg h,ih]
   simp
   intro e;exact absurd e.symm h
theorem xn {M:Files} {n:Name} {f:File} {x:Name × File} (h:x ∈ put M n f):x=(n,f)∨x ∈ M:=by
 induction M with
 | nil=>simp [put] at h;exact .inl h
 | cons y r ih=>
  obtain ⟨m,g⟩:=y;unfold put at h
  by_cases hm:m=n
  ·rw [if_pos hm] at h
   rcases List.mem_cons.1 h with e | e
   ·exact .inl (by rw [e,hm])
   ·exact .inr (List.mem_cons_of_mem _ e)
  ·rw [if_neg hm] at h
   rcases List.mem_cons.1 h with e | e
   ·exact .inr (by rw [e];simp)
   ·rcases ih e with e | e
    ·exact .inl e
    ·exact .inr (List.mem_cons_of_mem _ e)
theorem yT (M:Files) (n:Name):(del M n).Sublist M:=by
 induction M with
 | nil=>exact List.Sublist.refl _
 | cons y r ih=>
  obtain ⟨m,g⟩:=y;unfold del
  by_cases hm:m=n
  ·rw [if_pos hm];exact List.sublist_cons_self _ _
  ·rw [if_neg hm];exact ih.cons_cons _
theorem ok_put {d:Disk} (h:Ok d) (n:Name) (f:File) (hn:n.length≤60) (hs:f.2≤f.1.length) (ht:total d.files + f.1.length≤(at_ d.files n).1.length + d.cap):Ok { d with files:=put d.files n f } where
 cap:=h.cap
 tot:=by
  have:=total_put d.files n f
  show total (put d.files n f)≤d.cap
  omega
 nod:=by
  show ((put d.files n f).map (·.1)).Nodup
  rw [put_names]
  cases hh:has d.files n with
  | true=>exact h.nod
  | false=>
   have:¬ n ∈ d.files.map (·.1):=λe=>by rw [(kD _ _).2 e] at hh;cases hh
   rw [if_neg (by simp),List.nodup_append]
   refine ⟨h.nod,by simp,?_⟩
   intro a ha b hb e
   simp at hb
   subst hb;subst e;exact this ha
 syn:=by
  rintro x hx
  rcases xn hx with rfl | hx
  ·exact hs
  ·exact h.syn x hx
 nam:=by
  rintro x hx
  rcases xn hx with rfl | hx
  ·exact hn
  ·exact h.nam x hx
 lef:=h.lef
theorem ok_del {d:Disk} (h:Ok d) (n:Name):Ok { d with files:=del d.files n } where
 cap:=h.cap
 tot:=by
  have:=total_del d.files n;have:=h.tot
  show total (del d.files n)≤d.cap
  omega
 nod:=((yT d.files n).map _).nodup h.nod
 syn:=λx hx=>h.syn x ((yT _ _).subset hx)
 nam:=λx hx=>h.nam x ((yT _ _).subset hx)
 lef:=h.lef
theorem at_syn {d:Disk} (h:Ok d) (n:Name):(at_ d.files n).2≤(at_ d.files n).1.length:=by
 have:∀ M:Files,(∀ x ∈ M,x.2.2≤x.2.1.length)→(at_ M n).2≤(at_ M n).1.length:=by
  intro M
  induction M with
  | nil=>intro _;exact Nat.le_refl _
  | cons y r ih=>
   intro hs;obtain ⟨m,g⟩:=y;unfold at_
   by_cases hm:m=n
   ·rw [if_pos hm];exact hs (m,g) (by simp)
   ·rw [if_neg hm];exact ih (λx hx=>hs x (by simp [hx]))
 exact this _ h.syn
theorem good_len {n:Name} (h:good n=true):n.length≤60:=by
 unfold good at h;rw [Bool.and_eq_true,decide_eq_true_iff,decide_eq_true_iff] at h;exact h.2
def sync (d:Disk) (n:Name):Disk × Nat:=there d n (put d.files n ((at_ d.files n).1,(at_ d.files n).1.length)) false
def delete (d:Disk) (n:Name):Disk × Nat:=there d n (del d.files n) false
def append (d:Disk) (n:Name) (s:List UInt8):Disk × Nat:=
 if has d.files n=true∧d.off=false∧d.cap < total d.files + s.length then (d,2)
 else there d n (put d.files n ((at_ d.files n).1 ++ s,(at_ d.files n).2)) true
def rename (d:Disk) (n m:Name):Disk × Nat:=
 if nameErr d.off [n,m] ≠ 0 then (d,nameErr d.off [n,m]) else there d n (put (del d.files n) m (at_ d.files n)) false
def create (d:Disk) (n:Name):Disk × Nat:=
 if nameErr d.off [n] ≠ 0 then (d,nameErr d.off [n]) else if has d.files n then (d,4) else if 200≤d.files.length then (d,2)
 else (done d (put d.files n ([],0)) false,doneE d)
def read (d:Disk) (n:Name):List UInt8 × Nat:=
 if nameErr d.off [n] ≠ 0 then ([],nameErr d.off [n]) else if has d.files n then ((at_ d.files n).1,0) else ([],3)
end vd
structure Bx (w W:World) (p b:Nat) (d:vd.Disk) (n:vd.Name):Prop where
 below:Below w.heap.size w W
 size:w.heap.size + 2≤W.heap.size
 one:Vb W w.heap.size [dptr p] 66
 two:Vb W (w.heap.size + 1) [keyV n] 9
 disk:Dk W p b d
theorem Bx.new {w:World} {p b:Nat} {d:vd.Disk} (n:vd.Name) (hd:Dk w p b d):Bx w ((w.alloc (.cells #[dptr p] 66)).alloc (.cells #[keyV n] 9)) p b d n:=by
 have hb1:Below w.heap.size w (w.alloc (.cells #[dptr p] 66)):=(Below.refl _ w).alloc (Nat.le_refl _) _;have hs1:(w.alloc (.cells #[dptr p] 66)).heap.size=w.heap.size + 1:=Array.size_push _
 have hb2:Below (w.heap.size + 1) (w.alloc (.cells #[dptr p] 66)) ((w.alloc (.cells #[dptr p] 66)).alloc (.cells #[keyV n] 9)):=(Below.refl _ _).alloc (by rw [hs1];omega) _
 have hbW:=hb1.trans (hb2.mono (show w.heap.size≤w.heap.size + 1 by omega))
 have hv1:=Vb.new (w.alloc (.cells #[dptr p] 66)) [keyV n] 9;rw [hs1] at hv1
 refine ⟨hbW,?_,(hb2.block _ (by omega)).trans (Vb.new w [dptr p] 66),hv1,⟨(hbW.block p hd.blk.lt).trans hd.blk,hd.map.below hbW⟩⟩
 show _≤(Array.push _ _).size
 rw [Array.size_push,hs1];omega
section
variable {w:World} {p b:Nat} {d:vd.Disk}
theorem kX (n:vd.Name) (hd:Dk w p b d) (ho:vd.Ok d) (hn:n.length≤maxLen) :
  Calls Tryz.prog 207 #[dptr p,keyV n] w (λe w'=>e=.returned (.int .i64 ((vd.sync d n).2:Nat))∧Dk w' p b (vd.sync d n).1∧Apart [p,b] w w'):=by
 have hx:=Bx.new n hd
 have hcall:=Zy n (vd.put d.files n ((vd.at_ d.files n).1,(vd.at_ d.files n).1.length)) false 320 #[.pointer (some ⟨w.heap.size,0,none⟩),.pointer (some ⟨w.heap.size + 1,0,none⟩)] hn hx.disk ho
  (qm Tryz.func320 (by kernel_rfl) rfl)
  (λ_ hg=>vd.ok_put ho n _ (vd.good_len (vd.err_zero hg).2) (Nat.le_refl _) (by have:=ho.tot;show _ + (vd.at_ d.files n).1.length≤_;omega))
  (λ_ _ w1 h1 hA=>Vi h1 (hx.one.apart hA (by have:=hd.blk.lt;simp;omega)) (hx.two.apart hA (by have:=hd.blk.lt;simp;omega)) hn ho.cap ho.tot rfl)
 have hA:=Apart.of_below hx.below [p,b];have q0:=hx.one.cell 0 _ rfl;have q1:=hx.two.cell 0 _ rfl;have HR:Hid (vd.sync d n=vd.there d n (vd.put d.files n ((vd.at_ d.files n).1,(vd.at_ d.files n).1.length)) false):=Uq rfl;obtain ⟨r,hr⟩:∃ r,vd.there d n (vd.put d.files n ((vd.at_ d.files n).1,(vd.at_ d.files n).1.length)) false=r:=⟨_,rfl⟩;rw [hr] at HR hcall;obtain ⟨W,hW⟩:∃ W,(w.alloc (.cells #[dptr p] 66)).alloc (.cells #[keyV n] 9)=W:=⟨_,rfl⟩;rw [hW] at hcall q0 q1 hA;clear hx hr;unfold dptr keyV at *
 go_enter Tryz.func207,Tryz.ntmps207
 go_wp2_with fail;refine hcall.mono ?_;rintro e w2 ⟨rfl,h1,h2⟩;go_wp2_with fail;go_ret;rw [HR.out];exact ⟨rfl,h1,hA.trans h2⟩
theorem Xe (n:vd.Name) (hd:Dk w p b d) (ho:vd.Ok d) (hn:n.length≤maxLen) :
  Calls Tryz.prog 231 #[dptr p,keyV n] w (λe w'=>e=.returned (.int .i64 ((vd.delete d n).2:Nat))∧Dk w' p b (vd.delete d n).1∧Apart [p,b] w w'):=by
 have hx:=Bx.new n hd
 have hcall:=Zy n (vd.del d.files n) false 346 #[.pointer (some ⟨w.heap.size,0,none⟩),.pointer (some ⟨w.heap.size + 1,0,none⟩)] hn hx.disk ho
  (qm Tryz.func346 (by kernel_rfl) rfl)
  (λ_ _=>vd.ok_del ho n)
  (λhh _ w1 h1 hA=>Jd h1 (hx.one.apart hA (by have:=hd.blk.lt;simp;omega)) (hx.two.apart hA (by have:=hd.blk.lt;simp;omega)) hn ho.cap ho.tot hh)
 have hA:=Apart.of_below hx.below [p,b];have q0:=hx.one.cell 0 _ rfl;have q1:=hx.two.cell 0 _ rfl;have HR:Hid (vd.delete d n=vd.there d n (vd.del d.files n) false):=Uq rfl;obtain ⟨r,hr⟩:∃ r,vd.there d n (vd.del d.files n) false=r:=⟨_,rfl⟩;rw [hr] at HR hcall;obtain ⟨W,hW⟩:∃ W,(w.alloc (.cells #[dptr p] 66)).alloc (.cells #[keyV n] 9)=W:=⟨_,rfl⟩;rw [hW] at hcall q0 q1 hA;clear hx hr;unfold dptr keyV at *
 go_enter Tryz.func231,Tryz.ntmps231
 go_wp2_with fail;refine hcall.mono ?_;rintro e w2 ⟨rfl,h1,h2⟩;go_wp2_with fail;go_ret;rw [HR.out];exact ⟨rfl,h1,hA.trans h2⟩
structure Bx3 (w W:World) (p b:Nat) (d:vd.Disk) (n:vd.Name) (s:List UInt8):Prop where
 below:Below w.heap.size w W
 size:w.heap.size + 3≤W.heap.size
 one:Vb W w.heap.size [dptr p] 66
 two:Vb W (w.heap.size + 1) [keyV n] 9
 three:Vb W (w.heap.size + 2) [.string (crcm.mk s)] 9
 disk:Dk W p b d
theorem Bx3.new {w:World} {p b:Nat} {d:vd.Disk} (n:vd.Name) (s:List UInt8) (hd:Dk w p b d):Bx3 w (((w.alloc (.cells #[dptr p] 66)).alloc (.cells #[keyV n] 9)).alloc (.cells #[.string (crcm.mk s)] 9)) p b d n s:=by
 have h:=Bx.new n hd
 have hs1:((w.alloc (.cells #[dptr p] 66)).alloc (.cells #[keyV n] 9)).heap.size=w.heap.size + 2:=by show (Array.push (Array.push _ _) _).size=_;rw [Array.size_push,Array.size_push]
 obtain ⟨W,hW⟩:∃ W,(w.alloc (.cells #[dptr p] 66)).alloc (.cells #[keyV n] 9)=W:=⟨_,rfl⟩;rw [hW] at h hs1 ⊢;have hb:Below W.heap.size W (W.alloc (.cells #[.string (crcm.mk s)] 9)):=(Below.refl _ W).alloc (Nat.le_refl _) _;have hv:=Vb.new W [.string (crcm.mk s)] 9;rw [hs1] at hv
 refine ⟨h.below.trans (hb.mono (by omega)),?_,(hb.block _ (by omega)).trans h.one,(hb.block _ (by omega)).trans h.two,hv,⟨(hb.block p h.disk.blk.lt).trans h.disk.blk,h.disk.map.below hb⟩⟩
 show _≤(Array.push _ _).size
 rw [Array.size_push,hs1];omega
theorem Y9 (n:vd.Name) (s:List UInt8) (hd:Dk w p b d) (ho:vd.Ok d) (hn:n.length≤maxLen) (hs:s.length≤1000000000) :
  Calls Tryz.prog 205 #[dptr p,keyV n,.string (crcm.mk s)] w (λe w'=>e=.returned (.int .i64 ((vd.append d n s).2:Nat))∧Dk w' p b (vd.append d n s).1∧Apart [p,b] w w'):=by
 have hx:=Bx3.new n s hd;have htot:=ho.tot;have hcap:=ho.cap;obtain ⟨W,hW⟩:∃ W,((w.alloc (.cells #[dptr p] 66)).alloc (.cells #[keyV n] 9)).alloc (.cells #[.string (crcm.mk s)] 9)=W:=⟨_,rfl⟩;rw [hW] at hx;have hA:=Apart.of_below hx.below [p,b];have q0:=hx.one.cell 0 _ rfl;have q1:=hx.two.cell 0 _ rfl;have q2:=hx.three.cell 0 _ rfl;have q3:=hx.disk.blk.cell 0 _ rfl;have q4:=hx.disk.blk.cell 1 _ rfl;have q5:=hx.disk.blk.cell 2 _ rfl;have q6:=hx.disk.blk.cell 3 _ rfl;have hZ:Below W.heap.size W (W.alloc (.cells #[.string ⟨#[]⟩,.int .i64 0] 357)):=(Below.refl _ _).alloc (Nat.le_refl _) _;have hl:=(hx.disk.map.below ((Below.refl _ W).drew)).look_ok Tryz.underlying175 Tryz.underlying9 (Qy _) n hn;have hl2:=(hx.disk.map.below hZ.drew).look_ok Tryz.underlying175 Tryz.underlying9 (Qy _) n hn;have z0:=cell_later hZ q0;have z1:=cell_later hZ q1;have z5:=cell_later hZ q5;obtain ⟨g,hg⟩:∃ g,vd.at_ d.files n=g:=⟨_,rfl⟩
 rw [hg,show qF g=.agg #[.string (crcm.mk g.1),.int .i64 (g.2:Int)] from rfl,keyV] at hl hl2
 obtain ⟨hv,hhv⟩:∃ x,vd.has d.files n=x:=⟨_,rfl⟩;rw [hhv] at hl hl2;have HHV:=Uq hhv;clear hhv;obtain ⟨V,hV⟩:∃ V,(W.alloc (.cells #[.string (crcm.mk g.1),.int .i64 (g.2:Int)] 357)).drew=V:=⟨_,rfl⟩
 have hVb:Below W.heap.size W V:=by rw [← hV];exact ((Below.refl _ _).alloc (Nat.le_refl _) _).drew
 have v0:=cell_later hVb q0;have v1:=cell_later hVb q1;have v2:=cell_later hVb q2;have v3:=cell_later hVb q3;have v4:=cell_later hVb q4;have v6:=cell_later hVb q6;obtain ⟨T,hT⟩:∃ T,vd.total d.files=T:=⟨_,rfl⟩;obtain ⟨S,hS⟩:∃ S,s.length=S:=⟨_,rfl⟩
 have hsz:(crcm.mk s).size=S:=by rw [crcm.mk_size,hS]
 rw [hT] at htot q4 v4;rw [hS] at hs
 have e1:IntKind.i64.wrap ((T:Int) + (S:Int))=(T:Int) + S:=by rw [IntKind.wrap_i64];omega
 have hdV:∀ V,Below W.heap.size W V→Dk V p b d:=λV hVb=>⟨(hVb.block p hx.disk.blk.lt).trans hx.disk.blk,hx.disk.map.below hVb⟩
 have hoff:∀ R,R=vd.there d n (vd.put d.files n ((vd.at_ d.files n).1 ++ s,(vd.at_ d.files n).2)) true→¬ (vd.has d.files n=true∧d.off=false∧d.cap < T + S)→vd.append d n s=R:=by
  rintro R rfl hno;unfold vd.append;rw [hT,hS,if_neg hno]
 have hfull:vd.has d.files n=true∧d.off=false∧d.cap < T + S→vd.append d n s=(d,2):=by
  intro h;unfold vd.append;rw [hT,hS,if_pos h]
 have hcall:¬ (vd.has d.files n=true∧d.off=false∧d.cap < T + S)→∀ V,Below W.heap.size W V→Calls Tryz.prog 318 #[dptr p,keyV n,.bool true,.func (.func 319) #[] #[.pointer (some ⟨w.heap.size + 1 + 1,0,none⟩),.pointer (some ⟨w.heap.size,0,none⟩),.pointer (some ⟨w.heap.size + 1,0,none⟩)]] V (λe w'=>e=.returned (.int .i64 ((vd.append d n s).2:Nat))∧Dk w' p b (vd.append d n s).1∧Apart [p,b] V w'):=by
  intro hno V hVb;rw [hoff _ rfl hno]
  have hsp:vd.has d.files n=true→vd.nameErr d.off [n]=0→vd.total d.files + s.length≤d.cap:=by
   intro h1 h2;rw [hT,hS]
   rcases Nat.lt_or_ge d.cap (T + S) with h | h
   ·exact absurd ⟨h1,(vd.err_zero h2).1,h⟩ hno
   ·exact h
  refine Zy n _ true _ _ hn (hdV V hVb) ho (qm Tryz.func319 (by kernel_rfl) rfl) ?_ ?_
  ·intro h1 hg;have:=hsp h1 hg;refine vd.ok_put ho n _ (vd.good_len (vd.err_zero hg).2) ?_ ?_
   ·have:=vd.at_syn ho n
    show (vd.at_ d.files n).2≤((vd.at_ d.files n).1 ++ s).length
    rw [List.length_append];omega
   ·show _ + ((vd.at_ d.files n).1 ++ s).length≤_
    rw [List.length_append];omega
  ·intro hh hg w1 h1 hA1;have hpl:=hd.blk.lt
   have k:∀ {g:Nat} {x:Value} {t:TypeId},Vb W g [x] t→w.heap.size≤g→Vb w1 g [x] t:=λh hg=>(show Vb V _ _ _ from (hVb.block _ h.lt).trans h).apart hA1 (by simp;omega)
   exact Jf h1 (k hx.three (by omega)) (k hx.one (by omega)) (k hx.two (by omega)) hn ho.cap ho.tot rfl (hsp hh hg)
 have HC:=Uq hcall;have HF:=Uq hfull;have HD:=Uq hdV;clear hcall hfull hdV hoff hT hS hg hd ho hx;unfold dptr keyV at *
 go_enter Tryz.func205,Tryz.ntmps205
 go_wp2_with fail;go_region
 all_goals go_step
 all_goals go_step
 all_goals go_step
 cases hv with
 | true=>
  cases hof:d.off with
  | false=>
   rw [hof] at v6
   by_cases hc:d.cap < T + S
   ·have hci:(d.cap:Int) < (T:Int) + (S:Int):=by omega
    have hf:=HF.out ⟨HHV.out,hof,hc⟩;have HF2:=Uq hf;have HOF:=Uq hof;clear hf hof
    go_quiet (fail)
    go_wp2_with fail;go_ret;rw [HF2.out];exact ⟨rfl,HD.out _ (below_drewN hVb _),hA.trans (Apart.of_below (below_drewN hVb _) _)⟩
   ·have hci:¬ (d.cap:Int) < (T:Int) + (S:Int):=by omega
    have hcl:=HC.out (λh=>hc h.2.2)
    clear hof
    go_quiet (fail)
    go_wp2_with fail;refine (hcl _ (below_drewN hVb _)).mono ?_;rintro e w2 ⟨rfl,h1,h2⟩;go_wp2_with fail;go_ret;exact ⟨rfl,h1,(hA.trans (Apart.of_below (below_drewN hVb _) _)).trans h2⟩
  | true=>
   rw [hof] at v6
   have hcl:=HC.out (λh=>by rw [hof] at h;cases h.2.1)
   clear hof
   go_quiet (fail)
   go_wp2_with fail;refine (hcl _ (below_drewN hVb _)).mono ?_;rintro e w2 ⟨rfl,h1,h2⟩;go_wp2_with fail;go_ret;exact ⟨rfl,h1,(hA.trans (Apart.of_below (below_drewN hVb _) _)).trans h2⟩
 | false=>
  have hcl:=HC.out (λh=>by rw [HHV.out] at h;cases h.1)
  go_quiet (fail)
  go_wp2_with fail;refine (hcl _ (below_drewN hVb _)).mono ?_;rintro e w2 ⟨rfl,h1,h2⟩;go_wp2_with fail;go_ret;exact ⟨rfl,h1,(hA.trans (Apart.of_below (below_drewN hVb _) _)).trans h2⟩
theorem yz {off:Bool} {n m:vd.Name} (h:vd.nameErr off [n,m]=0):vd.nameErr off [n]=0∧vd.good m=true:=by
 unfold vd.nameErr at h ⊢
 cases ho:off with
 | true=>rw [ho] at h;simp at h
 | false=>
  rw [ho] at h
  cases h1:vd.good n <;> cases h2:vd.good m <;> simp [h1,h2] at h ⊢
theorem Xd (n m:vd.Name) (hd:Dk w p b d) (ho:vd.Ok d) (hn:n.length≤maxLen) (hm:m.length≤maxLen) :
  Calls Tryz.prog 341 #[dptr p,keyV n,keyV m] w (λe w'=>e=.returned (.int .i64 ((vd.rename d n m).2:Nat))∧Dk w' p b (vd.rename d n m).1∧Apart [p,b] w w'):=by
 have hx:=Bx3.new n m hd;have htot:=ho.tot;have hcap:=ho.cap;obtain ⟨W,hW⟩:∃ W,((w.alloc (.cells #[dptr p] 66)).alloc (.cells #[keyV n] 9)).alloc (.cells #[.string (crcm.mk m)] 9)=W:=⟨_,rfl⟩;rw [hW] at hx;have hA:=Apart.of_below hx.below [p,b];have q0:=hx.one.cell 0 _ rfl;have q1:=hx.two.cell 0 _ rfl;have q2:=hx.three.cell 0 _ rfl
 have hsW:W.heap.size=w.heap.size + 3:=by rw [← hW];show (Array.push (Array.push (Array.push _ _) _) _).size=_;rw [Array.size_push,Array.size_push,Array.size_push]
 obtain ⟨V,hV⟩:∃ V,W.alloc (.cells #[.string (crcm.mk n),.string (crcm.mk m)] 9)=V:=⟨_,rfl⟩
 have hVb:Below W.heap.size W V:=by rw [← hV];exact (Below.refl _ W).alloc (Nat.le_refl _) _
 have hvV:Vb V W.heap.size [.string (crcm.mk n),.string (crcm.mk m)] 9:=by rw [← hV];exact Vb.new W _ _
 have hdV:Dk V p b d:=⟨(hVb.block p hx.disk.blk.lt).trans hx.disk.blk,hx.disk.map.below hVb⟩;have hAV:=hA.trans (Apart.of_below hVb [p,b]);have v0:=cell_later hVb q0;have v1:=cell_later hVb q1;have v2:=cell_later hVb q2
 have hst:Strs V (.slice (some ⟨W.heap.size,0,none⟩) 2 2) [n,m]:=⟨some ⟨W.heap.size,0,none⟩,2,rfl,λk hk=>by
  have:k=0∨k=1:=by simp at hk;omega
  rcases this with rfl | rfl
  ·exact ⟨_,rfl,hvV.cell 0 _ rfl⟩
  ·exact ⟨_,rfl,hvV.cell 1 _ rfl⟩⟩
 have hcn:=Zz hdV _ [n,m] hst (by simp) (by simp;exact ⟨hn,hm⟩)
 obtain ⟨er,her⟩:∃ er,vd.nameErr d.off [n,m]=er:=⟨_,rfl⟩;rw [her] at hcn
 have hres:vd.rename d n m=if er ≠ 0 then (d,er) else vd.there d n (vd.put (vd.del d.files n) m (vd.at_ d.files n)) false:=by rw [← her];rfl
 have hcall:er=0→Calls Tryz.prog 318 #[dptr p,keyV n,.bool false,.func (.func 408) #[] #[.pointer (some ⟨w.heap.size,0,none⟩),.pointer (some ⟨w.heap.size + 1,0,none⟩),.pointer (some ⟨w.heap.size + 1 + 1,0,none⟩)]] V (λe w'=>e=.returned (.int .i64 ((vd.rename d n m).2:Nat))∧Dk w' p b (vd.rename d n m).1∧Apart [p,b] V w'):=by
  intro h0;have h02:=yz (her.trans h0)
  rw [hres,if_neg (by rw [h0];simp)]
  refine Zy n _ false _ _ hn hdV ho (qm Tryz.func408 (by kernel_rfl) rfl) ?_ ?_
  ·intro h1 hg;refine vd.ok_put (vd.ok_del ho n) m _ (vd.good_len h02.2) (vd.at_syn ho n) ?_;have:=vd.total_del d.files n
   show vd.total (vd.del d.files n) + _≤_ + d.cap
   omega
  ·intro hh hg w1 h1 hA1;have hpl:=hd.blk.lt
   have k:∀ {g:Nat} {x:Value} {t:TypeId},Vb W g [x] t→w.heap.size≤g→Vb w1 g [x] t:=λh hg=>(show Vb V _ _ _ from (hVb.block _ h.lt).trans h).apart hA1 (by simp;omega)
   exact Jc h1 (k hx.one (by omega)) (k hx.two (by omega)) (k hx.three (by omega)) hn hm ho.cap ho.tot hh rfl
 have HC:=Uq hcall;have HD:=Uq hdV;have HR:=Uq hres;clear hcall hdV ho hx hres her hst hvV hVb hd hA hsW;unfold dptr keyV at *
 go_enter Tryz.func341,Tryz.ntmps341
 go_wp2_with fail;refine hcn.mono ?_;rintro e w2 ⟨rfl,rfl⟩
 by_cases he:er=0
 ·have hcl:=HC.out he
  have hei:(er:Int)=0:=by omega
  have HE:=Uq he;clear he;go_wp2_with fail;refine hcl.mono ?_;rintro e w3 ⟨rfl,h1,h2⟩;go_wp2_with fail;go_ret;exact ⟨rfl,h1,hAV.trans h2⟩
 ·have hei:¬ (er:Int)=0:=by omega
  go_wp2_with fail;go_ret;rw [HR.out,if_pos he];exact ⟨rfl,HD.out,hAV⟩
theorem vd_read (n:vd.Name) (hd:Dk w p b d) (hn:n.length≤maxLen) :
  Calls Tryz.prog 195 #[dptr p,keyV n] w (λe w'=>e=.returned (.tuple #[.string (crcm.mk (vd.read d n).1),.int .i64 ((vd.read d n).2:Nat)])∧Below w.heap.size w w'):=by
 obtain ⟨W,hW⟩:∃ W,w.alloc (.cells #[.string (crcm.mk n)] 9)=W:=⟨_,rfl⟩
 have hb:Below w.heap.size w W:=by rw [← hW];exact (Below.refl _ w).alloc (Nat.le_refl _) _
 have hv:Vb W w.heap.size [.string (crcm.mk n)] 9:=by rw [← hW];exact Vb.new w _ _
 have hd1:Dk W p b d:=⟨(hb.block p hd.blk.lt).trans hd.blk,hd.map.below hb⟩
 have hst:Strs W (.slice (some ⟨w.heap.size,0,none⟩) 1 1) [n]:=⟨some ⟨w.heap.size,0,none⟩,1,rfl,λk hk=>by
  obtain rfl:k=0:=by simp at hk;omega
  exact ⟨_,rfl,hv.cell 0 _ rfl⟩⟩
 have hcn:=Zz hd1 _ [n] hst (by simp) (by simp;exact hn)
 have hl:=hd1.map.look_ok Tryz.underlying175 Tryz.underlying9 (Qy _) n hn;have q2:=hd1.blk.cell 2 _ rfl;obtain ⟨er,her⟩:∃ er,vd.nameErr d.off [n]=er:=⟨_,rfl⟩;obtain ⟨g,hg⟩:∃ g,vd.at_ d.files n=g:=⟨_,rfl⟩;obtain ⟨hs,hh⟩:∃ x,vd.has d.files n=x:=⟨_,rfl⟩
 have hres:vd.read d n=if er ≠ 0 then ([],er) else if hs then (g.1,0) else ([],3):=by rw [← her,← hg,← hh];rfl
 rw [her] at hcn
 rw [hg,hh,show qF g=.agg #[.string (crcm.mk g.1),.int .i64 (g.2:Int)] from rfl,keyV] at hl
 have hb2:Below w.heap.size w (W.alloc (.cells #[.string (crcm.mk g.1),.int .i64 (g.2:Int)] 357)):=hb.trans ((Below.refl _ W).alloc hb.size _);have hv2:=Vb.new W [.string (crcm.mk g.1),.int .i64 (g.2:Int)] 357;have HR:=Uq hres;clear hres her hg hh hst hd1 hv;unfold dptr keyV;unfold dptr at hcn
 go_enter Tryz.func195,Tryz.ntmps195
 go_wp2_with fail;refine hcn.mono ?_;rintro e w2 ⟨rfl,rfl⟩;clear hcn
 by_cases he:er=0
 ·subst he
  cases hs with
  | true=>
   go_wp2_with fail
   go_ret2
   rw [HR.out];exact ⟨rfl,hb2⟩
  | false=>
   go_wp2_with fail
   go_ret2
   rw [HR.out];exact ⟨rfl,hb2⟩
 ·have hei:¬ (er:Int)=0:=by omega
  clear hl;go_wp2_with fail
  go_ret2
  rw [HR.out,if_pos he];exact ⟨rfl,hb⟩
end
section
variable {w:World} {p b:Nat} {d:vd.Disk}
theorem FMap.len {M:vd.Files} {P:Program} {t k e:TypeId} (h:FMap w b M) (ht:P.underlying t=some (.map k e)) (ty:TypeId):(Builtin.len_ #[t] ty #[.map (some b)]).run P w=.ok (.int .i64 (M.length:Int)) w:=by
 obtain ⟨es,clock,hb,hkv,hs,hl⟩:=h
 have hlen:es.size=M.length:=by
  have:=congrArg List.length hkv
  simpa using this
 simp [Builtin.len_,run_underlying ht,MapKept.run_getObj_map hb,goInt,Result.andThen,hlen]
theorem Xf (n:vd.Name) (hd:Dk w p b d) (ho:vd.Ok d) (hn:n.length≤maxLen) :
  Calls Tryz.prog 216 #[dptr p,keyV n] w (λe w'=>e=.returned (.int .i64 ((vd.create d n).2:Nat))∧Dk w' p b (vd.create d n).1∧Apart [p,b] w w'):=by
 have hx:=Bx.new n hd;obtain ⟨W,hW⟩:∃ W,(w.alloc (.cells #[dptr p] 66)).alloc (.cells #[keyV n] 9)=W:=⟨_,rfl⟩;rw [hW] at hx;have hA:=Apart.of_below hx.below [p,b];have q0:=hx.one.cell 0 _ rfl;have q1:=hx.two.cell 0 _ rfl;obtain ⟨V,hV⟩:∃ V,W.alloc (.cells #[.string (crcm.mk n)] 9)=V:=⟨_,rfl⟩
 have hVb:Below W.heap.size W V:=by rw [← hV];exact (Below.refl _ W).alloc (Nat.le_refl _) _
 have hvV:Vb V W.heap.size [.string (crcm.mk n)] 9:=by rw [← hV];exact Vb.new W _ _
 have hdV:Dk V p b d:=⟨(hVb.block p hx.disk.blk.lt).trans hx.disk.blk,hx.disk.map.below hVb⟩;have hAV:=hA.trans (Apart.of_below hVb [p,b]);have v0:=cell_later hVb q0;have v1:=cell_later hVb q1;have v2:=hdV.blk.cell 2 _ rfl
 have hst:Strs V (.slice (some ⟨W.heap.size,0,none⟩) 1 1) [n]:=⟨some ⟨W.heap.size,0,none⟩,1,rfl,λk hk=>by
  obtain rfl:k=0:=by simp at hk;omega
  exact ⟨_,rfl,hvV.cell 0 _ rfl⟩⟩
 have hcn:=Zz hdV _ [n] hst (by simp) (by simp;exact hn)
 obtain ⟨g,hg⟩:∃ g,vd.at_ d.files n=g:=⟨_,rfl⟩;obtain ⟨er,her⟩:∃ er,vd.nameErr d.off [n]=er:=⟨_,rfl⟩;obtain ⟨hs,hh⟩:∃ x,vd.has d.files n=x:=⟨_,rfl⟩;obtain ⟨N,hN⟩:∃ x,d.files.length=x:=⟨_,rfl⟩;rw [her] at hcn;have hZ:Below V.heap.size V (V.alloc (.cells #[.string ⟨#[]⟩,.int .i64 0] 357)):=(Below.refl _ _).alloc (Nat.le_refl _) _;have hl:=(hdV.map.below ((Below.refl _ V).drew)).look_ok Tryz.underlying175 Tryz.underlying9 (Qy _) n hn;have hl2:=(hdV.map.below hZ.drew).look_ok Tryz.underlying175 Tryz.underlying9 (Qy _) n hn;have z0:=cell_later hZ v0;have z1:=cell_later hZ v1;have z2:=cell_later hZ v2
 rw [hg,hh,show qF g=.agg #[.string (crcm.mk g.1),.int .i64 (g.2:Int)] from rfl,keyV] at hl hl2
 obtain ⟨U,hU⟩:∃ U,(V.alloc (.cells #[.string (crcm.mk g.1),.int .i64 (g.2:Int)] 357)).drew=U:=⟨_,rfl⟩
 have hUb:Below V.heap.size V U:=by rw [← hU];exact ((Below.refl _ _).alloc (Nat.le_refl _) _).drew
 have hdU:Dk U p b d:=⟨(hUb.block p hdV.blk.lt).trans hdV.blk,hdV.map.below hUb⟩;have hAU:=hAV.trans (Apart.of_below hUb [p,b]);have u0:=cell_later hUb v0;have u1:=cell_later hUb v1;have u2:=cell_later hUb v2;have hlen:=hdU.map.len Tryz.underlying175 3;rw [hN] at hlen
 have hres:vd.create d n=if er ≠ 0 then (d,er) else if hs then (d,4) else if 200≤N then (d,2) else (vd.done d (vd.put d.files n ([],0)) false,vd.doneE d):=by rw [← her,← hh,← hN];rfl
 have hcall:er=0→hs=false→Calls Tryz.prog 329 #[dptr p,.bool false,.func (.func 330) #[] #[.pointer (some ⟨w.heap.size,0,none⟩),.pointer (some ⟨w.heap.size + 1,0,none⟩)]] U (λe w'=>e=.returned (.int .i64 (vd.doneE d:Nat))∧Dk w' p b (vd.done d (vd.put d.files n ([],0)) false)∧Apart [p,b] U w'):=by
  intro h0 hf;have htot:=ho.tot
  refine Vk _ false _ _ hdU ho (vd.ok_put ho n _ (vd.good_len (vd.err_zero (her.trans h0)).2) (Nat.le_refl _) (by show _ + 0≤_;omega)) (qm Tryz.func330 (by kernel_rfl) rfl) ?_
  intro w1 h1 hA1;have hpl:=hd.blk.lt
  have k:∀ {g:Nat} {x:Value} {t:TypeId},Vb W g [x] t→w.heap.size≤g→Vb w1 g [x] t:=λh hg=>(show Vb U _ _ _ from (hUb.block _ (Nat.lt_of_lt_of_le h.lt hVb.size)).trans ((hVb.block _ h.lt).trans h)).apart hA1 (by simp;omega)
  exact Je h1 (k hx.one (by omega)) (k hx.two (by omega)) hn ho.cap ho.tot
 have HC:=Uq hcall;have HD:=Uq hdV;have HDU:=Uq hdU;have HR:=Uq hres;clear hcall hdV hdU ho hx hres her hst hvV hVb hd hA hg hh hN hUb;unfold dptr keyV at *
 go_enter Tryz.func216,Tryz.ntmps216
 go_wp2_with fail;refine hcn.mono ?_;rintro e w2 ⟨rfl,rfl⟩;go_wp2_with fail;go_region
 all_goals go_step
 by_cases he:er=0
 ·have hei:(er:Int)=0:=by omega
  subst he
  cases hs with
  | true=>
   clear hlen
   all_goals (go_wp2_with fail;go_ret;rw [HR.out];exact ⟨rfl,HDU.out,hAU⟩)
  | false=>
   by_cases h200:200≤N
   ·have hni:(200:Int)≤(N:Int):=by omega
    go_wp2_with fail;go_ret
    rw [HR.out,if_neg (by simp),if_neg (by simp),if_pos h200]
    exact ⟨rfl,HDU.out,hAU⟩
   ·have hni:¬ (200:Int)≤(N:Int):=by omega
    have hcl:=HC.out rfl rfl;go_wp2_with fail;refine hcl.mono ?_;rintro e w3 ⟨rfl,h1,h2⟩;go_wp2_with fail;go_ret
    rw [HR.out,if_neg (by simp),if_neg (by simp),if_neg h200]
    exact ⟨rfl,h1,hAU.trans h2⟩
 ·have hei:¬ (er:Int)=0:=by omega
  clear hlen;go_wp2_with fail;go_ret;rw [HR.out,if_pos he];exact ⟨rfl,HDU.out,hAU⟩
end
end Go.Proofs.YtppibhieabideaaGreatDoor
namespace Go.Proofs.YtppibhieabideaaGreatDoor
set_option maxHeartbeats 4000000
open Go Go.RowKit
set_option maxRecDepth 100000
namespace wl
structure L where
 name:vd.Name
 many:Nat
 off:Bool
end wl
def lgV (p:Nat) (l:wl.L):List Value:=[dptr p,keyV l.name,.int .i64 (l.many:Int),.bool l.off]
abbrev Lg (w:World) (g p:Nat) (l:wl.L):Prop:=Vb w g (lgV p l) 306
section
variable {w:World} {p b gl g go gs:Nat} {d:vd.Disk} {l:wl.L} {n s:List UInt8}
theorem Dk.drew (h:Dk w p b d):Dk w.drew p b d:=⟨h.blk,h.map.below ((Below.refl _ w).drew)⟩
theorem qT {g:Nat} {x:Value} {t:TypeId} (h:Vb w g [x] t) (hd:Dk w p b d):g ∉ [p,b]:=by
 intro hx
 rcases List.mem_cons.1 hx with rfl | hx
 ·have h1:=hd.blk;unfold Vb at h1 h;rw [h] at h1
  injection h1 with e
  simp [zO] at e
 ·rcases List.mem_cons.1 hx with rfl | hx
  ·obtain ⟨es,c,hb,_⟩:=hd.map;unfold Vb at h;rw [h] at hb
   cases hb
  ·cases hx
theorem qW {g:Nat} {q:Nat} {l:wl.L} (h:Lg w g q l) (hd:Dk w p b d):g ∉ [p,b]:=by
 intro hx
 rcases List.mem_cons.1 hx with rfl | hx
 ·have h1:=hd.blk;unfold Vb at h1;unfold Lg Vb at h;rw [h] at h1
  injection h1 with e
  simp [zO,lgV] at e
 ·rcases List.mem_cons.1 hx with rfl | hx
  ·obtain ⟨es,c,hb,_⟩:=hd.map;unfold Lg Vb at h;rw [h] at hb
   cases hb
  ·cases hx
def wl.del (d:vd.Disk) (n:vd.Name):vd.Disk × Nat:=((vd.delete d n).1,if (vd.delete d n).2=3 then 0 else (vd.delete d n).2)
theorem wal_w2 (hl:Vb w gl [dptr g] 171) (hg:Lg w g p l) (ho:Vb w go [keyV n] 9) (hd:Dk w p b d) (hok:vd.Ok d) (hn:n.length≤maxLen) :
  Calls Tryz.prog 337 #[.pointer (some ⟨gl,0,none⟩),.pointer (some ⟨go,0,none⟩)] w (λe w'=>e=.returned (.int .i64 ((vd.create d n).2:Nat))∧Dk w' p b (vd.create d n).1∧Apart [p,b] w w'):=by
 have q0:=hl.cell 0 _ rfl;have q1:=hg.cell 0 _ rfl;have q2:=ho.cell 0 _ rfl;have hc:=Xf n hd.drew hok hn
 have MK:Hid (∀ w',Apart [p,b] w w'→w'.cell? ⟨gl,0,none⟩=some (.pointer (some ⟨g,0,none⟩))∧w'.cell? ⟨g,0,none⟩=some (.pointer (some ⟨p,0,none⟩))∧w'.cell? ⟨go,0,none⟩=some (.string (crcm.mk n))):=Uq λ_ h=>⟨(hl.apart h (qT hl hd)).cell 0 _ rfl,(hg.apart h (qW hg hd)).cell 0 _ rfl,(ho.apart h (qT ho hd)).cell 0 _ rfl⟩
 have hW:Apart [p,b] w w.drew:=.drew _ _;clear hok;unfold dptr keyV at *
 go_enter Tryz.func337,Tryz.ntmps337
 go_wp2_with fail
 go_region_held3 (λw'=>w'.cell? ⟨gl,0,none⟩=some (.pointer (some ⟨g,0,none⟩))∧w'.cell? ⟨g,0,none⟩=some (.pointer (some ⟨p,0,none⟩))∧w'.cell? ⟨go,0,none⟩=some (.string (crcm.mk n))) (exact MK.out _ hW) (first | (go_at_call 216;refine hc.mono ?_;rintro e w2 ⟨rfl,h1,h2⟩;have hW:=hW.trans h2))
 all_goals (go_wp2;go_ret;exact ⟨rfl,h1,(Apart.drew _ _).trans h2⟩)
theorem wal_w3 (hl:Vb w gl [dptr g] 171) (hg:Lg w g p l) (ho:Vb w go [keyV n] 9) (hs:Vb w gs [.string (crcm.mk s)] 9) (hd:Dk w p b d) (hok:vd.Ok d) (hn:n.length≤maxLen) (hsl:s.length≤1000000000) :
  Calls Tryz.prog 338 #[.pointer (some ⟨gl,0,none⟩),.pointer (some ⟨go,0,none⟩),.pointer (some ⟨gs,0,none⟩)] w (λe w'=>e=.returned (.int .i64 ((vd.append d n s).2:Nat))∧Dk w' p b (vd.append d n s).1∧Apart [p,b] w w'):=by
 have q0:=hl.cell 0 _ rfl;have q1:=hg.cell 0 _ rfl;have q2:=ho.cell 0 _ rfl;have q3:=hs.cell 0 _ rfl;have hc:=Y9 n s hd.drew hok hn hsl
 have MK:Hid (∀ w',Apart [p,b] w w'→w'.cell? ⟨gl,0,none⟩=some (.pointer (some ⟨g,0,none⟩))∧w'.cell? ⟨g,0,none⟩=some (.pointer (some ⟨p,0,none⟩))∧w'.cell? ⟨go,0,none⟩=some (.string (crcm.mk n))∧w'.cell? ⟨gs,0,none⟩=some (.string (crcm.mk s))):=Uq λ_ h=>⟨(hl.apart h (qT hl hd)).cell 0 _ rfl,(hg.apart h (qW hg hd)).cell 0 _ rfl,(ho.apart h (qT ho hd)).cell 0 _ rfl,(hs.apart h (qT hs hd)).cell 0 _ rfl⟩
 have hW:Apart [p,b] w w.drew:=.drew _ _;clear hok;unfold dptr keyV at *
 go_enter Tryz.func338,Tryz.ntmps338
 go_wp2_with fail
 go_region_held3 (λw'=>w'.cell? ⟨gl,0,none⟩=some (.pointer (some ⟨g,0,none⟩))∧w'.cell? ⟨g,0,none⟩=some (.pointer (some ⟨p,0,none⟩))∧w'.cell? ⟨go,0,none⟩=some (.string (crcm.mk n))∧w'.cell? ⟨gs,0,none⟩=some (.string (crcm.mk s))) (exact MK.out _ hW) (first | (go_at_call 205;refine hc.mono ?_;rintro e w2 ⟨rfl,h1,h2⟩;have hW:=hW.trans h2))
 all_goals (go_wp2;go_ret;exact ⟨rfl,h1,(Apart.drew _ _).trans h2⟩)
theorem wal_w4 (hl:Vb w gl [dptr g] 171) (hg:Lg w g p l) (ho:Vb w go [keyV n] 9) (hd:Dk w p b d) (hok:vd.Ok d) (hn:n.length≤maxLen) :
  Calls Tryz.prog 339 #[.pointer (some ⟨gl,0,none⟩),.pointer (some ⟨go,0,none⟩)] w (λe w'=>e=.returned (.int .i64 ((vd.sync d n).2:Nat))∧Dk w' p b (vd.sync d n).1∧Apart [p,b] w w'):=by
 have q0:=hl.cell 0 _ rfl;have q1:=hg.cell 0 _ rfl;have q2:=ho.cell 0 _ rfl;have hc:=kX n hd.drew hok hn
 have MK:Hid (∀ w',Apart [p,b] w w'→w'.cell? ⟨gl,0,none⟩=some (.pointer (some ⟨g,0,none⟩))∧w'.cell? ⟨g,0,none⟩=some (.pointer (some ⟨p,0,none⟩))∧w'.cell? ⟨go,0,none⟩=some (.string (crcm.mk n))):=Uq λ_ h=>⟨(hl.apart h (qT hl hd)).cell 0 _ rfl,(hg.apart h (qW hg hd)).cell 0 _ rfl,(ho.apart h (qT ho hd)).cell 0 _ rfl⟩
 have hW:Apart [p,b] w w.drew:=.drew _ _;clear hok;unfold dptr keyV at *
 go_enter Tryz.func339,Tryz.ntmps339
 go_wp2_with fail
 go_region_held3 (λw'=>w'.cell? ⟨gl,0,none⟩=some (.pointer (some ⟨g,0,none⟩))∧w'.cell? ⟨g,0,none⟩=some (.pointer (some ⟨p,0,none⟩))∧w'.cell? ⟨go,0,none⟩=some (.string (crcm.mk n))) (exact MK.out _ hW) (first | (go_at_call 207;refine hc.mono ?_;rintro e w2 ⟨rfl,h1,h2⟩;have hW:=hW.trans h2))
 all_goals (go_wp2;go_ret;exact ⟨rfl,h1,(Apart.drew _ _).trans h2⟩)
theorem wal_w5 (hl:Vb w gl [dptr g] 171) (hg:Lg w g p l) (ho:Vb w go [keyV n] 9) (hd:Dk w p b d) (hok:vd.Ok d) (hn:n.length≤maxLen) (hm:l.name.length≤maxLen) :
  Calls Tryz.prog 340 #[.pointer (some ⟨gl,0,none⟩),.pointer (some ⟨go,0,none⟩)] w (λe w'=>e=.returned (.int .i64 ((vd.rename d n l.name).2:Nat))∧Dk w' p b (vd.rename d n l.name).1∧Apart [p,b] w w'):=by
 have q0:=hl.cell 0 _ rfl;have q1:=hg.cell 0 _ rfl;have q2:=ho.cell 0 _ rfl;have q1b:=hg.cell 1 _ rfl;have hc:=Xd n l.name hd.drew hok hn hm
 have MK:Hid (∀ w',Apart [p,b] w w'→w'.cell? ⟨gl,0,none⟩=some (.pointer (some ⟨g,0,none⟩))∧w'.cell? ⟨g,0,none⟩=some (.pointer (some ⟨p,0,none⟩))∧w'.cell? ⟨go,0,none⟩=some (.string (crcm.mk n))∧w'.cell? ⟨g,1,none⟩=some (.string (crcm.mk l.name))):=Uq λ_ h=>⟨(hl.apart h (qT hl hd)).cell 0 _ rfl,(hg.apart h (qW hg hd)).cell 0 _ rfl,(ho.apart h (qT ho hd)).cell 0 _ rfl,(hg.apart h (qW hg hd)).cell 1 _ rfl⟩
 have hW:Apart [p,b] w w.drew:=.drew _ _;clear hok;unfold dptr keyV at *
 go_enter Tryz.func340,Tryz.ntmps340
 go_wp2_with fail
 go_region_held3 (λw'=>w'.cell? ⟨gl,0,none⟩=some (.pointer (some ⟨g,0,none⟩))∧w'.cell? ⟨g,0,none⟩=some (.pointer (some ⟨p,0,none⟩))∧w'.cell? ⟨go,0,none⟩=some (.string (crcm.mk n))∧w'.cell? ⟨g,1,none⟩=some (.string (crcm.mk l.name))) (exact MK.out _ hW) (first | (go_at_call 341;refine hc.mono ?_;rintro e w2 ⟨rfl,h1,h2⟩;have hW:=hW.trans h2))
 all_goals (go_wp2;go_ret;exact ⟨rfl,h1,(Apart.drew _ _).trans h2⟩)
theorem wal_a11 (hl:Vb w gl [dptr g] 171) (hg:Lg w g p l) (hs:Vb w gs [.string (crcm.mk s)] 9) (hd:Dk w p b d) (hok:vd.Ok d) (hm:l.name.length≤maxLen) (hsl:s.length≤1000000000) :
  Calls Tryz.prog 204 #[.pointer (some ⟨gl,0,none⟩),.pointer (some ⟨gs,0,none⟩)] w (λe w'=>e=.returned (.int .i64 ((vd.append d l.name s).2:Nat))∧Dk w' p b (vd.append d l.name s).1∧Apart [p,b] w w'):=by
 have q0:=hl.cell 0 _ rfl;have q1:=hg.cell 0 _ rfl;have q1b:=hg.cell 1 _ rfl;have q3:=hs.cell 0 _ rfl;have hc:=Y9 l.name s hd.drew hok hm hsl
 have MK:Hid (∀ w',Apart [p,b] w w'→w'.cell? ⟨gl,0,none⟩=some (.pointer (some ⟨g,0,none⟩))∧w'.cell? ⟨g,0,none⟩=some (.pointer (some ⟨p,0,none⟩))∧w'.cell? ⟨g,1,none⟩=some (.string (crcm.mk l.name))∧w'.cell? ⟨gs,0,none⟩=some (.string (crcm.mk s))):=Uq λ_ h=>⟨(hl.apart h (qT hl hd)).cell 0 _ rfl,(hg.apart h (qW hg hd)).cell 0 _ rfl,(hg.apart h (qW hg hd)).cell 1 _ rfl,(hs.apart h (qT hs hd)).cell 0 _ rfl⟩
 have hW:Apart [p,b] w w.drew:=.drew _ _;clear hok;unfold dptr keyV at *
 go_enter Tryz.func204,Tryz.ntmps204
 go_wp2_with fail
 go_region_held3 (λw'=>w'.cell? ⟨gl,0,none⟩=some (.pointer (some ⟨g,0,none⟩))∧w'.cell? ⟨g,0,none⟩=some (.pointer (some ⟨p,0,none⟩))∧w'.cell? ⟨g,1,none⟩=some (.string (crcm.mk l.name))∧w'.cell? ⟨gs,0,none⟩=some (.string (crcm.mk s))) (exact MK.out _ hW) (first | (go_at_call 205;refine hc.mono ?_;rintro e w2 ⟨rfl,h1,h2⟩;have hW:=hW.trans h2))
 all_goals (go_wp2;go_ret;exact ⟨rfl,h1,(Apart.drew _ _).trans h2⟩)
theorem wal_a12 (hl:Vb w gl [dptr g] 171) (hg:Lg w g p l) (hd:Dk w p b d) (hok:vd.Ok d) (hm:l.name.length≤maxLen) :
  Calls Tryz.prog 206 #[.pointer (some ⟨gl,0,none⟩)] w (λe w'=>e=.returned (.int .i64 ((vd.sync d l.name).2:Nat))∧Dk w' p b (vd.sync d l.name).1∧Apart [p,b] w w'):=by
 have q0:=hl.cell 0 _ rfl;have q1:=hg.cell 0 _ rfl;have q1b:=hg.cell 1 _ rfl;have hc:=kX l.name hd.drew hok hm
 have MK:Hid (∀ w',Apart [p,b] w w'→w'.cell? ⟨gl,0,none⟩=some (.pointer (some ⟨g,0,none⟩))∧w'.cell? ⟨g,0,none⟩=some (.pointer (some ⟨p,0,none⟩))∧w'.cell? ⟨g,1,none⟩=some (.string (crcm.mk l.name))):=Uq λ_ h=>⟨(hl.apart h (qT hl hd)).cell 0 _ rfl,(hg.apart h (qW hg hd)).cell 0 _ rfl,(hg.apart h (qW hg hd)).cell 1 _ rfl⟩
 have hW:Apart [p,b] w w.drew:=.drew _ _;clear hok;unfold dptr keyV at *
 go_enter Tryz.func206,Tryz.ntmps206
 go_wp2_with fail
 go_region_held3 (λw'=>w'.cell? ⟨gl,0,none⟩=some (.pointer (some ⟨g,0,none⟩))∧w'.cell? ⟨g,0,none⟩=some (.pointer (some ⟨p,0,none⟩))∧w'.cell? ⟨g,1,none⟩=some (.string (crcm.mk l.name))) (exact MK.out _ hW) (first | (go_at_call 207;refine hc.mono ?_;rintro e w2 ⟨rfl,h1,h2⟩;have hW:=hW.trans h2))
 all_goals (go_wp2;go_ret;exact ⟨rfl,h1,(Apart.drew _ _).trans h2⟩)
theorem wal_w1 (hl:Vb w gl [dptr g] 171) (hg:Lg w g p l) (ho:Vb w go [keyV n] 9) (hd:Dk w p b d) (hok:vd.Ok d) (hn:n.length≤maxLen) :
  Calls Tryz.prog 336 #[.pointer (some ⟨gl,0,none⟩),.pointer (some ⟨go,0,none⟩)] w (λe w'=>e=.returned (.int .i64 ((wl.del d n).2:Nat))∧Dk w' p b (wl.del d n).1∧Apart [p,b] w w'):=by
 have q0:=hl.cell 0 _ rfl;have q1:=hg.cell 0 _ rfl;have q2:=ho.cell 0 _ rfl;have hc:=Xe n hd.drew hok hn;obtain ⟨er,her⟩:∃ er,(vd.delete d n).2=er:=⟨_,rfl⟩
 have hres:wl.del d n=((vd.delete d n).1,if er=3 then 0 else er):=by rw [← her];rfl
 rw [her] at hc;clear her
 have MK:Hid (∀ w',Apart [p,b] w w'→w'.cell? ⟨gl,0,none⟩=some (.pointer (some ⟨g,0,none⟩))∧w'.cell? ⟨g,0,none⟩=some (.pointer (some ⟨p,0,none⟩))∧w'.cell? ⟨go,0,none⟩=some (.string (crcm.mk n))):=Uq λ_ h=>⟨(hl.apart h (qT hl hd)).cell 0 _ rfl,(hg.apart h (qW hg hd)).cell 0 _ rfl,(ho.apart h (qT ho hd)).cell 0 _ rfl⟩
 have hW:Apart [p,b] w w.drew:=.drew _ _;clear hok;unfold dptr keyV at *
 go_enter Tryz.func336,Tryz.ntmps336
 go_wp2_with fail
 go_region_held3 (λw'=>w'.cell? ⟨gl,0,none⟩=some (.pointer (some ⟨g,0,none⟩))∧w'.cell? ⟨g,0,none⟩=some (.pointer (some ⟨p,0,none⟩))∧w'.cell? ⟨go,0,none⟩=some (.string (crcm.mk n))) (exact MK.out _ hW) (first | (go_at_call 231;refine hc.mono ?_;rintro e w2 ⟨rfl,h1,h2⟩;have hW:=hW.trans h2))
 all_goals (
  by_cases h3:er=3
  ·have h3i:(er:Int)=3:=by omega
   have HR:=Uq (hres.trans (by rw [if_pos h3]):wl.del d n=((vd.delete d n).1,0))
   clear hres;go_wp2;go_ret;rw [HR.out];exact ⟨rfl,h1,(Apart.drew _ _).trans h2⟩
  ·have h3i:¬ (er:Int)=3:=by omega
   have HR:=Uq (hres.trans (by rw [if_neg h3]):wl.del d n=((vd.delete d n).1,er))
   clear hres;go_wp2;go_ret;rw [HR.out]
   exact ⟨rfl,h1,(Apart.drew _ _).trans h2⟩)
end
namespace wl
abbrev Op1:=vd.Disk→vd.Disk × Nat
def run:List Op1→Op1
 | [],d=>(d,0)
 | f :: r,d=>if (f d).2 ≠ 0 then f d else run r (f d).1
end wl
def Step (w0:World) (p b:Nat) (x:Nat × Array Value × wl.Op1):Prop:=
 (∀ args w,(callFunc x.1 args).run Tryz.prog w=.ok (.enter x.1 args) w) ∧
 ∀ d w,vd.Ok d→Dk w p b d→Apart [p,b] w0 w→vd.Ok (x.2.2 d).1 ∧
  Calls Tryz.prog x.1 x.2.1 w (λe w'=>e=.returned (.int .i64 ((x.2.2 d).2:Nat))∧Dk w' p b (x.2.2 d).1∧Apart [p,b] w w')
def ZD (x:Nat × Array Value × wl.Op1):Value:=.func (.func x.1) #[] x.2.1
theorem Y5 {w:World} {p b G:Nat} {d:vd.Disk} (xs:List (Nat × Array Value × wl.Op1)) (hG:Vb w G (xs.map ZD) 70) (hGo:G ∉ [p,b]) (hx:∀ x ∈ xs,Step w p b x) (hd:Dk w p b d) (hok:vd.Ok d) (hl:xs.length≤1000) :
  Calls Tryz.prog 203 #[.slice (some ⟨G,0,none⟩) xs.length xs.length] w (λe w'=>e=.returned (.int .i64 ((wl.run (xs.map (·.2.2)) d).2:Nat))∧Dk w' p b (wl.run (xs.map (·.2.2)) d).1∧Apart [p,b] w w'∧vd.Ok (wl.run (xs.map (·.2.2)) d).1):=by
 obtain ⟨R,hR⟩:∃ R,wl.run (xs.map (·.2.2)) d=R:=⟨_,rfl⟩
 rw [hR];obtain ⟨n,hn⟩:∃ n,xs.length=n:=⟨_,rfl⟩;rw [hn] at hl ⊢
 have hcell:∀ k (x:Nat × Array Value × wl.Op1),xs[k]?=some x→∀ wr,Apart [p,b] w wr→wr.cell? ⟨G,k,none⟩=some (.func (.func x.1) #[] x.2.1):=λk x hk wr hA=>(hG.apart hA hGo).cell k _ (by rw [List.getElem?_map,hk];rfl)
 have HC:=Uq hcell;have HN:=Uq hn;have HX:=Uq hx;have HRR:=Uq hR;have hd0:=Uq hd;have hok0:=Uq hok;clear hcell hn hx hR hG hGo hd hok
 go_enter Tryz.func203,Tryz.ntmps203
 go_wp2_with fail
 go_loopw [8] (λi wr=>∃ (k:Nat) (d':vd.Disk),k≤n∧i=.int .i64 k∧wl.run ((xs.drop k).map (·.2.2)) d'=R∧vd.Ok d'∧Dk wr p b d'∧Apart [p,b] w wr) (λi _=>n - (intOf i).toNat)
 case atStart=>exact ⟨0,d,Nat.zero_le _,rfl,HRR.out,hok0.out,hd0.out,.refl _ _⟩
 case round=>
  obtain ⟨k,d',hk,rfl,hrun,hok,hd,hA⟩:=hrel
  by_cases hlt:k < n
  ·obtain ⟨x,hx⟩:∃ x,xs[k]?=some x:=⟨xs[k]'(by rw [HN.out];exact hlt),List.getElem?_eq_getElem (by rw [HN.out];exact hlt)⟩
   have c0:=HC.out k x hx wr hA;obtain ⟨e1,e2⟩:=HX.out x (List.mem_of_getElem? hx);obtain ⟨hok2,hcall⟩:=e2 d' wr hok hd hA
   have hdr:xs.drop k=x :: xs.drop (k + 1):=by
    obtain ⟨h1,h2⟩:=List.getElem?_eq_some_iff.1 hx;rw [← h2];exact List.drop_eq_getElem_cons h1
   rw [hdr] at hrun;obtain ⟨F,caps,op⟩:=x;obtain ⟨er,her⟩:∃ er,(op d').2=er:=⟨_,rfl⟩
   have hstep:R=if er ≠ 0 then op d' else wl.run ((xs.drop (k + 1)).map (·.2.2)) (op d').1:=by rw [← her,← hrun];rfl
   simp only [her] at hcall;simp only at c0 e1 hok2;have HS:=Uq hstep;have HE:=Uq her;have HO:=Uq hok2;have HXX:=Uq hx;clear hstep her hrun hdr hx hok2 hok hd e2
   by_cases h0:er=0
   ·have hei:(er:Int)=0:=by omega
    go_wp2_with fail;refine hcall.mono ?_;rintro e w2 ⟨rfl,h1,h2⟩;go_wp2_with fail;go_roundw
    case rel=>exact ⟨k + 1,(op d').1,by omega,by go_num,by rw [HS.out,if_neg (by rw [h0];simp)],HO.out,h1,hA.trans h2⟩
    case measure=>simp [intOf];omega
   ·have hei:¬ (er:Int)=0:=by omega
    go_wp2_with fail;refine hcall.mono ?_;rintro e w2 ⟨rfl,h1,h2⟩;go_wp2_with fail;go_ret;rw [HS.out,if_pos h0,HE.out];exact ⟨rfl,h1,hA.trans h2,HO.out⟩
  ·obtain rfl:k=n:=by omega
   have hdn:xs.drop k=[]:=List.drop_eq_nil_of_le (by rw [HN.out];exact Nat.le_refl _)
   rw [hdn] at hrun;have hRd:R=(d',0):=hrun.symm;have HRd:=Uq hRd;have HO:=Uq hok;have HDD:=Uq hd;clear hrun hdn hRd hok hd;go_wp2_with fail;go_ret;rw [HRd.out];exact ⟨rfl,HDD.out,hA,HO.out⟩
end Go.Proofs.YtppibhieabideaaGreatDoor
