/- VdOps, VdCreate, WlSteps, WlRun, WlWrite: one behind the other. -/
import Derived.BigQuiet
import Derived.Test.YtmcibggjolckoaaGreatDoorGm3
import Derived.Deep.RegionHeld3
namespace Go.Proofs.YtmcibggjolckoaaGreatDoor
open Go Go.RowKit Go.Lib
set_option maxRecDepth 100000
namespace vd
theorem put_names (M:Files) (n:Name) (f:File):(put M n f).map (·.1)=if has M n then M.map (·.1) else M.map (·.1) ++ [n]:=by
 induction M with
 | nil=>rfl
 | cons x r ih=>
  obtain ⟨m,g⟩:=x
  unfold put has
  by_cases h:m=n
  ·rw [if_pos h,if_pos h];rfl
  ·rw [if_neg h,if_neg h,List.map_cons,ih]
   cases has r n <;> rfl
theorem has_names (M:Files) (n:Name):has M n=true ↔ n ∈ M.map (·.1):=by
 induction M with
 | nil=>simp [has]
 | cons x r ih=>
  obtain ⟨m,g⟩:=x
  unfold has
  by_cases h:m=n
  ·simp [h]
  ·rw [if_neg h,ih]
   simp
   intro e;exact absurd e.symm h
theorem put_mem {M:Files} {n:Name} {f:File} {x:Name × File} (h:x ∈ put M n f):x=(n,f)∨x ∈ M:=by
 induction M with
 | nil=>simp [put] at h;exact .inl h
 | cons y r ih=>
  obtain ⟨m,g⟩:=y
  unfold put at h
  by_cases hm:m=n
  ·rw [if_pos hm] at h
   rcases List.mem_cons.1 h with e | e
   ·exact .inl (by rw [e,hm])
   ·exact .inr (List.mem_cons_of_mem _ e)
  ·rw [if_neg hm] at h
   rcases List.mem_cons.1 h with e | e
   ·exact .inr (by rw [e];simp)
   ·rcases ih e with e | e
    ·exact .inl e
    ·exact .inr (List.mem_cons_of_mem _ e)
theorem del_sub (M:Files) (n:Name):(del M n).Sublist M:=by
 induction M with
 | nil=>exact List.Sublist.refl _
 | cons y r ih=>
  obtain ⟨m,g⟩:=y
  unfold del
  by_cases hm:m=n
  ·rw [if_pos hm];exact List.sublist_cons_self _ _
  ·rw [if_neg hm];exact ih.cons_cons _
theorem ok_put {d:Disk} (h:Ok d) (n:Name) (f:File) (hn:n.length≤60) (hs:f.2≤f.1.length) (ht:total d.files + f.1.length≤(at_ d.files n).1.length + d.cap):Ok { d with files:=put d.files n f } where
 cap:=h.cap
 tot:=by
  have:=total_put d.files n f
  show total (put d.files n f)≤d.cap
  omega
 nod:=by
  show ((put d.files n f).map (·.1)).Nodup
  rw [put_names]
  cases hh:has d.files n with
  | true=>exact h.nod
  | false=>
   have:¬ n ∈ d.files.map (·.1):=fun e=>by rw [(has_names _ _).2 e] at hh;cases hh
   rw [if_neg (by simp),List.nodup_append]
   refine ⟨h.nod,by simp,?_⟩
   intro a ha b hb e
   simp at hb
   subst hb
   subst e
   exact this ha
 syn:=by
  rintro x hx
  rcases put_mem hx with rfl | hx
  ·exact hs
  ·exact h.syn x hx
 nam:=by
  rintro x hx
  rcases put_mem hx with rfl | hx
  ·exact hn
  ·exact h.nam x hx
 lef:=h.lef
theorem ok_del {d:Disk} (h:Ok d) (n:Name):Ok { d with files:=del d.files n } where
 cap:=h.cap
 tot:=by
  have:=total_del d.files n
  have:=h.tot
  show total (del d.files n)≤d.cap
  omega
 nod:=((del_sub d.files n).map _).nodup h.nod
 syn:=fun x hx=>h.syn x ((del_sub _ _).subset hx)
 nam:=fun x hx=>h.nam x ((del_sub _ _).subset hx)
 lef:=h.lef
theorem at_syn {d:Disk} (h:Ok d) (n:Name):(at_ d.files n).2≤(at_ d.files n).1.length:=by
 have:∀ M:Files,(∀ x ∈ M,x.2.2≤x.2.1.length)→(at_ M n).2≤(at_ M n).1.length:=by
  intro M
  induction M with
  | nil=>intro _;exact Nat.le_refl _
  | cons y r ih=>
   intro hs
   obtain ⟨m,g⟩:=y
   unfold at_
   by_cases hm:m=n
   ·rw [if_pos hm];exact hs (m,g) (by simp)
   ·rw [if_neg hm];exact ih (fun x hx=>hs x (by simp [hx]))
 exact this _ h.syn
theorem good_len {n:Name} (h:good n=true):n.length≤60:=by
 unfold good at h
 rw [Bool.and_eq_true,decide_eq_true_iff,decide_eq_true_iff] at h
 exact h.2
def sync (d:Disk) (n:Name):Disk × Nat:=there d n (put d.files n ((at_ d.files n).1,(at_ d.files n).1.length)) false
def delete (d:Disk) (n:Name):Disk × Nat:=there d n (del d.files n) false
def append (d:Disk) (n:Name) (s:List UInt8):Disk × Nat:=
 if has d.files n=true∧d.off=false∧d.cap < total d.files + s.length then (d,2)
 else there d n (put d.files n ((at_ d.files n).1 ++ s,(at_ d.files n).2)) true
def rename (d:Disk) (n m:Name):Disk × Nat:=
 if nameErr d.off [n,m] ≠ 0 then (d,nameErr d.off [n,m]) else there d n (put (del d.files n) m (at_ d.files n)) false
def create (d:Disk) (n:Name):Disk × Nat:=
 if nameErr d.off [n] ≠ 0 then (d,nameErr d.off [n]) else if has d.files n then (d,4) else if 200≤d.files.length then (d,2)
 else (done d (put d.files n ([],0)) false,doneE d)
def read (d:Disk) (n:Name):List UInt8 × Nat:=
 if nameErr d.off [n] ≠ 0 then ([],nameErr d.off [n]) else if has d.files n then ((at_ d.files n).1,0) else ([],3)
end vd
structure Bx (w W:World) (p b:Nat) (d:vd.Disk) (n:vd.Name):Prop where
 below:Below w.heap.size w W
 size:w.heap.size + 2≤W.heap.size
 one:Vb W w.heap.size [dptr p] 57
 two:Vb W (w.heap.size + 1) [keyV n] 9
 disk:Dk W p b d
theorem Bx.new {w:World} {p b:Nat} {d:vd.Disk} (n:vd.Name) (hd:Dk w p b d):Bx w ((w.alloc (.cells #[dptr p] 57)).alloc (.cells #[keyV n] 9)) p b d n:=by
 have hb1:Below w.heap.size w (w.alloc (.cells #[dptr p] 57)):=(Below.refl _ w).alloc (Nat.le_refl _) _
 have hs1:(w.alloc (.cells #[dptr p] 57)).heap.size=w.heap.size + 1:=Array.size_push _
 have hb2:Below (w.heap.size + 1) (w.alloc (.cells #[dptr p] 57)) ((w.alloc (.cells #[dptr p] 57)).alloc (.cells #[keyV n] 9)):=(Below.refl _ _).alloc (by rw [hs1];omega) _
 have hbW:=hb1.trans (hb2.mono (show w.heap.size≤w.heap.size + 1 by omega))
 have hv1:=Vb.new (w.alloc (.cells #[dptr p] 57)) [keyV n] 9
 rw [hs1] at hv1
 refine ⟨hbW,?_,(hb2.block _ (by omega)).trans (Vb.new w [dptr p] 57),hv1,⟨(hbW.block p hd.blk.lt).trans hd.blk,hd.map.below hbW⟩⟩
 show _≤(Array.push _ _).size
 rw [Array.size_push,hs1];omega
section
variable {w:World} {p b:Nat} {d:vd.Disk}
set_option maxHeartbeats 4000000 in
theorem vd_sync (n:vd.Name) (hd:Dk w p b d) (ho:vd.Ok d) (hn:n.length≤maxLen) :
  Calls Tryz.prog 75 #[dptr p,keyV n] w (fun e w'=>e=.returned (.int .i64 ((vd.sync d n).2:Nat))∧Dk w' p b (vd.sync d n).1∧Apart [p,b] w w'):=by
 have hx:=Bx.new n hd
 have hcall:=vd_there n (vd.put d.files n ((vd.at_ d.files n).1,(vd.at_ d.files n).1.length)) false 102 #[.pointer (some ⟨w.heap.size,0,none⟩),.pointer (some ⟨w.heap.size + 1,0,none⟩)] hn hx.disk ho
  (enters_any Tryz.func102 (by kernel_rfl) rfl)
  (fun _ hg=>vd.ok_put ho n _ (vd.good_len (vd.err_zero hg).2) (Nat.le_refl _) (by have:=ho.tot;show _ + (vd.at_ d.files n).1.length≤_;omega))
  (fun _ _ w1 h1 hA=>vd_sync1 h1 (hx.one.apart hA (by have:=hd.blk.lt;simp;omega)) (hx.two.apart hA (by have:=hd.blk.lt;simp;omega)) hn ho.cap ho.tot rfl)
 have hA:=Apart.of_below hx.below [p,b]
 have q0:=hx.one.cell 0 _ rfl
 have q1:=hx.two.cell 0 _ rfl
 have HR:Hid (vd.sync d n=vd.there d n (vd.put d.files n ((vd.at_ d.files n).1,(vd.at_ d.files n).1.length)) false):=Lib.hid rfl
 obtain ⟨r,hr⟩:∃ r,vd.there d n (vd.put d.files n ((vd.at_ d.files n).1,(vd.at_ d.files n).1.length)) false=r:=⟨_,rfl⟩
 rw [hr] at HR hcall
 obtain ⟨W,hW⟩:∃ W,(w.alloc (.cells #[dptr p] 57)).alloc (.cells #[keyV n] 9)=W:=⟨_,rfl⟩
 rw [hW] at hcall q0 q1 hA
 clear hx hr
 unfold dptr keyV at *
 go_enter Tryz.func75,Tryz.ntmps75
 go_wp2_with fail
 refine hcall.mono ?_
 rintro e w2 ⟨rfl,h1,h2⟩
 go_wp2_with fail
 go_ret
 rw [HR.out]
 exact ⟨rfl,h1,hA.trans h2⟩
set_option maxHeartbeats 4000000 in
theorem vd_delete (n:vd.Name) (hd:Dk w p b d) (ho:vd.Ok d) (hn:n.length≤maxLen) :
  Calls Tryz.prog 93 #[dptr p,keyV n] w (fun e w'=>e=.returned (.int .i64 ((vd.delete d n).2:Nat))∧Dk w' p b (vd.delete d n).1∧Apart [p,b] w w'):=by
 have hx:=Bx.new n hd
 have hcall:=vd_there n (vd.del d.files n) false 112 #[.pointer (some ⟨w.heap.size,0,none⟩),.pointer (some ⟨w.heap.size + 1,0,none⟩)] hn hx.disk ho
  (enters_any Tryz.func112 (by kernel_rfl) rfl)
  (fun _ _=>vd.ok_del ho n)
  (fun hh _ w1 h1 hA=>vd_delete1 h1 (hx.one.apart hA (by have:=hd.blk.lt;simp;omega)) (hx.two.apart hA (by have:=hd.blk.lt;simp;omega)) hn ho.cap ho.tot hh)
 have hA:=Apart.of_below hx.below [p,b]
 have q0:=hx.one.cell 0 _ rfl
 have q1:=hx.two.cell 0 _ rfl
 have HR:Hid (vd.delete d n=vd.there d n (vd.del d.files n) false):=Lib.hid rfl
 obtain ⟨r,hr⟩:∃ r,vd.there d n (vd.del d.files n) false=r:=⟨_,rfl⟩
 rw [hr] at HR hcall
 obtain ⟨W,hW⟩:∃ W,(w.alloc (.cells #[dptr p] 57)).alloc (.cells #[keyV n] 9)=W:=⟨_,rfl⟩
 rw [hW] at hcall q0 q1 hA
 clear hx hr
 unfold dptr keyV at *
 go_enter Tryz.func93,Tryz.ntmps93
 go_wp2_with fail
 refine hcall.mono ?_
 rintro e w2 ⟨rfl,h1,h2⟩
 go_wp2_with fail
 go_ret
 rw [HR.out]
 exact ⟨rfl,h1,hA.trans h2⟩
structure Bx3 (w W:World) (p b:Nat) (d:vd.Disk) (n:vd.Name) (s:List UInt8):Prop where
 below:Below w.heap.size w W
 size:w.heap.size + 3≤W.heap.size
 one:Vb W w.heap.size [dptr p] 57
 two:Vb W (w.heap.size + 1) [keyV n] 9
 three:Vb W (w.heap.size + 2) [.string (crcm.mk s)] 9
 disk:Dk W p b d
theorem Bx3.new {w:World} {p b:Nat} {d:vd.Disk} (n:vd.Name) (s:List UInt8) (hd:Dk w p b d):Bx3 w (((w.alloc (.cells #[dptr p] 57)).alloc (.cells #[keyV n] 9)).alloc (.cells #[.string (crcm.mk s)] 9)) p b d n s:=by
 have h:=Bx.new n hd
 have hs1:((w.alloc (.cells #[dptr p] 57)).alloc (.cells #[keyV n] 9)).heap.size=w.heap.size + 2:=by show (Array.push (Array.push _ _) _).size=_;rw [Array.size_push,Array.size_push]
 obtain ⟨W,hW⟩:∃ W,(w.alloc (.cells #[dptr p] 57)).alloc (.cells #[keyV n] 9)=W:=⟨_,rfl⟩
 rw [hW] at h hs1 ⊢
 have hb:Below W.heap.size W (W.alloc (.cells #[.string (crcm.mk s)] 9)):=(Below.refl _ W).alloc (Nat.le_refl _) _
 have hv:=Vb.new W [.string (crcm.mk s)] 9
 rw [hs1] at hv
 refine ⟨h.below.trans (hb.mono (by omega)),?_,(hb.block _ (by omega)).trans h.one,(hb.block _ (by omega)).trans h.two,hv,⟨(hb.block p h.disk.blk.lt).trans h.disk.blk,h.disk.map.below hb⟩⟩
 show _≤(Array.push _ _).size
 rw [Array.size_push,hs1];omega
set_option maxHeartbeats 4000000 in
theorem vd_append (n:vd.Name) (s:List UInt8) (hd:Dk w p b d) (ho:vd.Ok d) (hn:n.length≤maxLen) (hs:s.length≤1000000000) :
  Calls Tryz.prog 97 #[dptr p,keyV n,.string (crcm.mk s)] w (fun e w'=>e=.returned (.int .i64 ((vd.append d n s).2:Nat))∧Dk w' p b (vd.append d n s).1∧Apart [p,b] w w'):=by
 have hx:=Bx3.new n s hd
 have htot:=ho.tot
 have hcap:=ho.cap
 obtain ⟨W,hW⟩:∃ W,((w.alloc (.cells #[dptr p] 57)).alloc (.cells #[keyV n] 9)).alloc (.cells #[.string (crcm.mk s)] 9)=W:=⟨_,rfl⟩
 rw [hW] at hx
 have hA:=Apart.of_below hx.below [p,b]
 have q0:=hx.one.cell 0 _ rfl
 have q1:=hx.two.cell 0 _ rfl
 have q2:=hx.three.cell 0 _ rfl
 have q3:=hx.disk.blk.cell 0 _ rfl
 have q4:=hx.disk.blk.cell 1 _ rfl
 have q5:=hx.disk.blk.cell 2 _ rfl
 have q6:=hx.disk.blk.cell 3 _ rfl
 have hZ:Below W.heap.size W (W.alloc (.cells #[.string ⟨#[]⟩,.int .i64 0] 124)):=(Below.refl _ _).alloc (Nat.le_refl _) _
 have hl:=(hx.disk.map.below ((Below.refl _ W).drew)).look_ok Tryz.underlying88 Tryz.underlying9 (zero_file _) n hn
 have hl2:=(hx.disk.map.below hZ.drew).look_ok Tryz.underlying88 Tryz.underlying9 (zero_file _) n hn
 have z0:=cell_later hZ q0
 have z1:=cell_later hZ q1
 have z5:=cell_later hZ q5
 obtain ⟨g,hg⟩:∃ g,vd.at_ d.files n=g:=⟨_,rfl⟩
 rw [hg,show fileV g=.agg #[.string (crcm.mk g.1),.int .i64 (g.2:Int)] from rfl,keyV] at hl hl2
 obtain ⟨hv,hhv⟩:∃ x,vd.has d.files n=x:=⟨_,rfl⟩
 rw [hhv] at hl hl2
 have HHV:=Lib.hid hhv
 clear hhv
 obtain ⟨V,hV⟩:∃ V,(W.alloc (.cells #[.string (crcm.mk g.1),.int .i64 (g.2:Int)] 124)).drew=V:=⟨_,rfl⟩
 have hVb:Below W.heap.size W V:=by rw [← hV];exact ((Below.refl _ _).alloc (Nat.le_refl _) _).drew
 have v0:=cell_later hVb q0
 have v1:=cell_later hVb q1
 have v2:=cell_later hVb q2
 have v3:=cell_later hVb q3
 have v4:=cell_later hVb q4
 have v6:=cell_later hVb q6
 obtain ⟨T,hT⟩:∃ T,vd.total d.files=T:=⟨_,rfl⟩
 obtain ⟨S,hS⟩:∃ S,s.length=S:=⟨_,rfl⟩
 have hsz:(crcm.mk s).size=S:=by rw [crcm.mk_size,hS]
 rw [hT] at htot q4 v4
 rw [hS] at hs
 have e1:IntKind.i64.wrap ((T:Int) + (S:Int))=(T:Int) + S:=by rw [IntKind.wrap_i64];omega
 have hdV:∀ V,Below W.heap.size W V→Dk V p b d:=fun V hVb=>⟨(hVb.block p hx.disk.blk.lt).trans hx.disk.blk,hx.disk.map.below hVb⟩
 have hoff:∀ R,R=vd.there d n (vd.put d.files n ((vd.at_ d.files n).1 ++ s,(vd.at_ d.files n).2)) true→¬ (vd.has d.files n=true∧d.off=false∧d.cap < T + S)→vd.append d n s=R:=by
  rintro R rfl hno
  unfold vd.append
  rw [hT,hS,if_neg hno]
 have hfull:vd.has d.files n=true∧d.off=false∧d.cap < T + S→vd.append d n s=(d,2):=by
  intro h
  unfold vd.append
  rw [hT,hS,if_pos h]
 have hcall:¬ (vd.has d.files n=true∧d.off=false∧d.cap < T + S)→∀ V,Below W.heap.size W V→Calls Tryz.prog 101 #[dptr p,keyV n,.bool true,.func (.func 115) #[] #[.pointer (some ⟨w.heap.size + 1 + 1,0,none⟩),.pointer (some ⟨w.heap.size,0,none⟩),.pointer (some ⟨w.heap.size + 1,0,none⟩)]] V (fun e w'=>e=.returned (.int .i64 ((vd.append d n s).2:Nat))∧Dk w' p b (vd.append d n s).1∧Apart [p,b] V w'):=by
  intro hno V hVb
  rw [hoff _ rfl hno]
  have hsp:vd.has d.files n=true→vd.nameErr d.off [n]=0→vd.total d.files + s.length≤d.cap:=by
   intro h1 h2
   rw [hT,hS]
   rcases Nat.lt_or_ge d.cap (T + S) with h | h
   ·exact absurd ⟨h1,(vd.err_zero h2).1,h⟩ hno
   ·exact h
  refine vd_there n _ true _ _ hn (hdV V hVb) ho (enters_any Tryz.func115 (by kernel_rfl) rfl) ?_ ?_
  ·intro h1 hg
   have:=hsp h1 hg
   refine vd.ok_put ho n _ (vd.good_len (vd.err_zero hg).2) ?_ ?_
   ·have:=vd.at_syn ho n
    show (vd.at_ d.files n).2≤((vd.at_ d.files n).1 ++ s).length
    rw [List.length_append];omega
   ·show _ + ((vd.at_ d.files n).1 ++ s).length≤_
    rw [List.length_append];omega
  ·intro hh hg w1 h1 hA1
   have hpl:=hd.blk.lt
   have k:∀ {g:Nat} {x:Value} {t:TypeId},Vb W g [x] t→w.heap.size≤g→Vb w1 g [x] t:=fun h hg=>(show Vb V _ _ _ from (hVb.block _ h.lt).trans h).apart hA1 (by simp;omega)
   exact vd_append1 h1 (k hx.three (by omega)) (k hx.one (by omega)) (k hx.two (by omega)) hn ho.cap ho.tot rfl (hsp hh hg)
 have HC:=Lib.hid hcall
 have HF:=Lib.hid hfull
 have HD:=Lib.hid hdV
 clear hcall hfull hdV hoff hT hS hg hd ho hx
 unfold dptr keyV at *
 go_enter Tryz.func97,Tryz.ntmps97
 go_wp2_with fail
 go_region
 all_goals go_step
 all_goals go_step
 all_goals go_step
 cases hv with
 | true=>
  cases hof:d.off with
  | false=>
   rw [hof] at v6
   by_cases hc:d.cap < T + S
   ·have hci:(d.cap:Int) < (T:Int) + (S:Int):=by omega
    have hf:=HF.out ⟨HHV.out,hof,hc⟩
    have HF2:=Lib.hid hf
    have HOF:=Lib.hid hof
    clear hf hof
    go_quiet (fail)
    go_wp2_with fail
    go_ret
    rw [HF2.out]
    exact ⟨rfl,HD.out _ (below_drewN hVb _),hA.trans (Apart.of_below (below_drewN hVb _) _)⟩
   ·have hci:¬ (d.cap:Int) < (T:Int) + (S:Int):=by omega
    have hcl:=HC.out (fun h=>hc h.2.2)
    clear hof
    go_quiet (fail)
    go_wp2_with fail
    refine (hcl _ (below_drewN hVb _)).mono ?_
    rintro e w2 ⟨rfl,h1,h2⟩
    go_wp2_with fail
    go_ret
    exact ⟨rfl,h1,(hA.trans (Apart.of_below (below_drewN hVb _) _)).trans h2⟩
  | true=>
   rw [hof] at v6
   have hcl:=HC.out (fun h=>by rw [hof] at h;cases h.2.1)
   clear hof
   go_quiet (fail)
   go_wp2_with fail
   refine (hcl _ (below_drewN hVb _)).mono ?_
   rintro e w2 ⟨rfl,h1,h2⟩
   go_wp2_with fail
   go_ret
   exact ⟨rfl,h1,(hA.trans (Apart.of_below (below_drewN hVb _) _)).trans h2⟩
 | false=>
  have hcl:=HC.out (fun h=>by rw [HHV.out] at h;cases h.1)
  go_quiet (fail)
  go_wp2_with fail
  refine (hcl _ (below_drewN hVb _)).mono ?_
  rintro e w2 ⟨rfl,h1,h2⟩
  go_wp2_with fail
  go_ret
  exact ⟨rfl,h1,(hA.trans (Apart.of_below (below_drewN hVb _) _)).trans h2⟩
theorem nameErr_two {off:Bool} {n m:vd.Name} (h:vd.nameErr off [n,m]=0):vd.nameErr off [n]=0∧vd.good m=true:=by
 unfold vd.nameErr at h ⊢
 cases ho:off with
 | true=>rw [ho] at h;simp at h
 | false=>
  rw [ho] at h
  cases h1:vd.good n <;> cases h2:vd.good m <;> simp [h1,h2] at h ⊢
set_option maxHeartbeats 4000000 in
theorem vd_rename (n m:vd.Name) (hd:Dk w p b d) (ho:vd.Ok d) (hn:n.length≤maxLen) (hm:m.length≤maxLen) :
  Calls Tryz.prog 100 #[dptr p,keyV n,keyV m] w (fun e w'=>e=.returned (.int .i64 ((vd.rename d n m).2:Nat))∧Dk w' p b (vd.rename d n m).1∧Apart [p,b] w w'):=by
 have hx:=Bx3.new n m hd
 have htot:=ho.tot
 have hcap:=ho.cap
 obtain ⟨W,hW⟩:∃ W,((w.alloc (.cells #[dptr p] 57)).alloc (.cells #[keyV n] 9)).alloc (.cells #[.string (crcm.mk m)] 9)=W:=⟨_,rfl⟩
 rw [hW] at hx
 have hA:=Apart.of_below hx.below [p,b]
 have q0:=hx.one.cell 0 _ rfl
 have q1:=hx.two.cell 0 _ rfl
 have q2:=hx.three.cell 0 _ rfl
 have hsW:W.heap.size=w.heap.size + 3:=by rw [← hW];show (Array.push (Array.push (Array.push _ _) _) _).size=_;rw [Array.size_push,Array.size_push,Array.size_push]
 obtain ⟨V,hV⟩:∃ V,W.alloc (.cells #[.string (crcm.mk n),.string (crcm.mk m)] 9)=V:=⟨_,rfl⟩
 have hVb:Below W.heap.size W V:=by rw [← hV];exact (Below.refl _ W).alloc (Nat.le_refl _) _
 have hvV:Vb V W.heap.size [.string (crcm.mk n),.string (crcm.mk m)] 9:=by rw [← hV];exact Vb.new W _ _
 have hdV:Dk V p b d:=⟨(hVb.block p hx.disk.blk.lt).trans hx.disk.blk,hx.disk.map.below hVb⟩
 have hAV:=hA.trans (Apart.of_below hVb [p,b])
 have v0:=cell_later hVb q0
 have v1:=cell_later hVb q1
 have v2:=cell_later hVb q2
 have hst:Strs V (.slice (some ⟨W.heap.size,0,none⟩) 2 2) [n,m]:=⟨some ⟨W.heap.size,0,none⟩,2,rfl,fun k hk=>by
  have:k=0∨k=1:=by simp at hk;omega
  rcases this with rfl | rfl
  ·exact ⟨_,rfl,hvV.cell 0 _ rfl⟩
  ·exact ⟨_,rfl,hvV.cell 1 _ rfl⟩⟩
 have hcn:=vd_named hdV _ [n,m] hst (by simp) (by simp;exact ⟨hn,hm⟩)
 obtain ⟨er,her⟩:∃ er,vd.nameErr d.off [n,m]=er:=⟨_,rfl⟩
 rw [her] at hcn
 have hres:vd.rename d n m=if er ≠ 0 then (d,er) else vd.there d n (vd.put (vd.del d.files n) m (vd.at_ d.files n)) false:=by rw [← her];rfl
 have hcall:er=0→Calls Tryz.prog 101 #[dptr p,keyV n,.bool false,.func (.func 116) #[] #[.pointer (some ⟨w.heap.size,0,none⟩),.pointer (some ⟨w.heap.size + 1,0,none⟩),.pointer (some ⟨w.heap.size + 1 + 1,0,none⟩)]] V (fun e w'=>e=.returned (.int .i64 ((vd.rename d n m).2:Nat))∧Dk w' p b (vd.rename d n m).1∧Apart [p,b] V w'):=by
  intro h0
  have h02:=nameErr_two (her.trans h0)
  rw [hres,if_neg (by rw [h0];simp)]
  refine vd_there n _ false _ _ hn hdV ho (enters_any Tryz.func116 (by kernel_rfl) rfl) ?_ ?_
  ·intro h1 hg
   refine vd.ok_put (vd.ok_del ho n) m _ (vd.good_len h02.2) (vd.at_syn ho n) ?_
   have:=vd.total_del d.files n
   show vd.total (vd.del d.files n) + _≤_ + d.cap
   omega
  ·intro hh hg w1 h1 hA1
   have hpl:=hd.blk.lt
   have k:∀ {g:Nat} {x:Value} {t:TypeId},Vb W g [x] t→w.heap.size≤g→Vb w1 g [x] t:=fun h hg=>(show Vb V _ _ _ from (hVb.block _ h.lt).trans h).apart hA1 (by simp;omega)
   exact vd_rename1 h1 (k hx.one (by omega)) (k hx.two (by omega)) (k hx.three (by omega)) hn hm ho.cap ho.tot hh rfl
 have HC:=Lib.hid hcall
 have HD:=Lib.hid hdV
 have HR:=Lib.hid hres
 clear hcall hdV ho hx hres her hst hvV hVb hd hA hsW
 unfold dptr keyV at *
 go_enter Tryz.func100,Tryz.ntmps100
 go_wp2_with fail
 refine hcn.mono ?_
 rintro e w2 ⟨rfl,rfl⟩
 by_cases he:er=0
 ·have hcl:=HC.out he
  have hei:(er:Int)=0:=by omega
  have HE:=Lib.hid he
  clear he
  go_wp2_with fail
  refine hcl.mono ?_
  rintro e w3 ⟨rfl,h1,h2⟩
  go_wp2_with fail
  go_ret
  exact ⟨rfl,h1,hAV.trans h2⟩
 ·have hei:¬ (er:Int)=0:=by omega
  go_wp2_with fail
  go_ret
  rw [HR.out,if_pos he]
  exact ⟨rfl,HD.out,hAV⟩
set_option maxHeartbeats 4000000 in
theorem vd_read (n:vd.Name) (hd:Dk w p b d) (hn:n.length≤maxLen) :
  Calls Tryz.prog 72 #[dptr p,keyV n] w (fun e w'=>e=.returned (.tuple #[.string (crcm.mk (vd.read d n).1),.int .i64 ((vd.read d n).2:Nat)])∧Below w.heap.size w w'):=by
 obtain ⟨W,hW⟩:∃ W,w.alloc (.cells #[.string (crcm.mk n)] 9)=W:=⟨_,rfl⟩
 have hb:Below w.heap.size w W:=by rw [← hW];exact (Below.refl _ w).alloc (Nat.le_refl _) _
 have hv:Vb W w.heap.size [.string (crcm.mk n)] 9:=by rw [← hW];exact Vb.new w _ _
 have hd1:Dk W p b d:=⟨(hb.block p hd.blk.lt).trans hd.blk,hd.map.below hb⟩
 have hst:Strs W (.slice (some ⟨w.heap.size,0,none⟩) 1 1) [n]:=⟨some ⟨w.heap.size,0,none⟩,1,rfl,fun k hk=>by
  obtain rfl:k=0:=by simp at hk;omega
  exact ⟨_,rfl,hv.cell 0 _ rfl⟩⟩
 have hcn:=vd_named hd1 _ [n] hst (by simp) (by simp;exact hn)
 have hl:=hd1.map.look_ok Tryz.underlying88 Tryz.underlying9 (zero_file _) n hn
 have q2:=hd1.blk.cell 2 _ rfl
 obtain ⟨er,her⟩:∃ er,vd.nameErr d.off [n]=er:=⟨_,rfl⟩
 obtain ⟨g,hg⟩:∃ g,vd.at_ d.files n=g:=⟨_,rfl⟩
 obtain ⟨hs,hh⟩:∃ x,vd.has d.files n=x:=⟨_,rfl⟩
 have hres:vd.read d n=if er ≠ 0 then ([],er) else if hs then (g.1,0) else ([],3):=by rw [← her,← hg,← hh];rfl
 rw [her] at hcn
 rw [hg,hh,show fileV g=.agg #[.string (crcm.mk g.1),.int .i64 (g.2:Int)] from rfl,keyV] at hl
 have hb2:Below w.heap.size w (W.alloc (.cells #[.string (crcm.mk g.1),.int .i64 (g.2:Int)] 124)):=hb.trans ((Below.refl _ W).alloc hb.size _)
 have hv2:=Vb.new W [.string (crcm.mk g.1),.int .i64 (g.2:Int)] 124
 have HR:=Lib.hid hres
 clear hres her hg hh hst hd1 hv
 unfold dptr keyV
 unfold dptr at hcn
 go_enter Tryz.func72,Tryz.ntmps72
 go_wp2_with fail
 refine hcn.mono ?_
 rintro e w2 ⟨rfl,rfl⟩
 clear hcn
 by_cases he:er=0
 ·subst he
  cases hs with
  | true=>
   go_wp2_with fail
   go_ret2
   rw [HR.out]
   exact ⟨rfl,hb2⟩
  | false=>
   go_wp2_with fail
   go_ret2
   rw [HR.out]
   exact ⟨rfl,hb2⟩
 ·have hei:¬ (er:Int)=0:=by omega
  clear hl
  go_wp2_with fail
  go_ret2
  rw [HR.out,if_pos he]
  exact ⟨rfl,hb⟩
end
end Go.Proofs.YtmcibggjolckoaaGreatDoor
namespace Go.Proofs.YtmcibggjolckoaaGreatDoor
open Go Go.RowKit Go.Lib
set_option maxRecDepth 100000
section
variable {w:World} {p b:Nat} {d:vd.Disk}
theorem FMap.len {M:vd.Files} {P:Program} {t k e:TypeId} (h:FMap w b M) (ht:P.underlying t=some (.map k e)) (ty:TypeId):(Builtin.len_ #[t] ty #[.map (some b)]).run P w=.ok (.int .i64 (M.length:Int)) w:=by
 obtain ⟨es,clock,hb,hkv,hs,hl⟩:=h
 have hlen:es.size=M.length:=by
  have:=congrArg List.length hkv
  simpa using this
 simp [Builtin.len_,run_underlying ht,MapKept.run_getObj_map hb,goInt,Result.andThen,hlen]
set_option maxHeartbeats 4000000 in
theorem vd_create (n:vd.Name) (hd:Dk w p b d) (ho:vd.Ok d) (hn:n.length≤maxLen) :
  Calls Tryz.prog 95 #[dptr p,keyV n] w (fun e w'=>e=.returned (.int .i64 ((vd.create d n).2:Nat))∧Dk w' p b (vd.create d n).1∧Apart [p,b] w w'):=by
 have hx:=Bx.new n hd
 obtain ⟨W,hW⟩:∃ W,(w.alloc (.cells #[dptr p] 57)).alloc (.cells #[keyV n] 9)=W:=⟨_,rfl⟩
 rw [hW] at hx
 have hA:=Apart.of_below hx.below [p,b]
 have q0:=hx.one.cell 0 _ rfl
 have q1:=hx.two.cell 0 _ rfl
 obtain ⟨V,hV⟩:∃ V,W.alloc (.cells #[.string (crcm.mk n)] 9)=V:=⟨_,rfl⟩
 have hVb:Below W.heap.size W V:=by rw [← hV];exact (Below.refl _ W).alloc (Nat.le_refl _) _
 have hvV:Vb V W.heap.size [.string (crcm.mk n)] 9:=by rw [← hV];exact Vb.new W _ _
 have hdV:Dk V p b d:=⟨(hVb.block p hx.disk.blk.lt).trans hx.disk.blk,hx.disk.map.below hVb⟩
 have hAV:=hA.trans (Apart.of_below hVb [p,b])
 have v0:=cell_later hVb q0
 have v1:=cell_later hVb q1
 have v2:=hdV.blk.cell 2 _ rfl
 have hst:Strs V (.slice (some ⟨W.heap.size,0,none⟩) 1 1) [n]:=⟨some ⟨W.heap.size,0,none⟩,1,rfl,fun k hk=>by
  obtain rfl:k=0:=by simp at hk;omega
  exact ⟨_,rfl,hvV.cell 0 _ rfl⟩⟩
 have hcn:=vd_named hdV _ [n] hst (by simp) (by simp;exact hn)
 obtain ⟨g,hg⟩:∃ g,vd.at_ d.files n=g:=⟨_,rfl⟩
 obtain ⟨er,her⟩:∃ er,vd.nameErr d.off [n]=er:=⟨_,rfl⟩
 obtain ⟨hs,hh⟩:∃ x,vd.has d.files n=x:=⟨_,rfl⟩
 obtain ⟨N,hN⟩:∃ x,d.files.length=x:=⟨_,rfl⟩
 rw [her] at hcn
 have hZ:Below V.heap.size V (V.alloc (.cells #[.string ⟨#[]⟩,.int .i64 0] 124)):=(Below.refl _ _).alloc (Nat.le_refl _) _
 have hl:=(hdV.map.below ((Below.refl _ V).drew)).look_ok Tryz.underlying88 Tryz.underlying9 (zero_file _) n hn
 have hl2:=(hdV.map.below hZ.drew).look_ok Tryz.underlying88 Tryz.underlying9 (zero_file _) n hn
 have z0:=cell_later hZ v0
 have z1:=cell_later hZ v1
 have z2:=cell_later hZ v2
 rw [hg,hh,show fileV g=.agg #[.string (crcm.mk g.1),.int .i64 (g.2:Int)] from rfl,keyV] at hl hl2
 obtain ⟨U,hU⟩:∃ U,(V.alloc (.cells #[.string (crcm.mk g.1),.int .i64 (g.2:Int)] 124)).drew=U:=⟨_,rfl⟩
 have hUb:Below V.heap.size V U:=by rw [← hU];exact ((Below.refl _ _).alloc (Nat.le_refl _) _).drew
 have hdU:Dk U p b d:=⟨(hUb.block p hdV.blk.lt).trans hdV.blk,hdV.map.below hUb⟩
 have hAU:=hAV.trans (Apart.of_below hUb [p,b])
 have u0:=cell_later hUb v0
 have u1:=cell_later hUb v1
 have u2:=cell_later hUb v2
 have hlen:=hdU.map.len Tryz.underlying88 3
 rw [hN] at hlen
 have hres:vd.create d n=if er ≠ 0 then (d,er) else if hs then (d,4) else if 200≤N then (d,2) else (vd.done d (vd.put d.files n ([],0)) false,vd.doneE d):=by rw [← her,← hh,← hN];rfl
 have hcall:er=0→hs=false→Calls Tryz.prog 113 #[dptr p,.bool false,.func (.func 114) #[] #[.pointer (some ⟨w.heap.size,0,none⟩),.pointer (some ⟨w.heap.size + 1,0,none⟩)]] U (fun e w'=>e=.returned (.int .i64 (vd.doneE d:Nat))∧Dk w' p b (vd.done d (vd.put d.files n ([],0)) false)∧Apart [p,b] U w'):=by
  intro h0 hf
  have htot:=ho.tot
  refine vd_act _ false _ _ hdU ho (vd.ok_put ho n _ (vd.good_len (vd.err_zero (her.trans h0)).2) (Nat.le_refl _) (by show _ + 0≤_;omega)) (enters_any Tryz.func114 (by kernel_rfl) rfl) ?_
  intro w1 h1 hA1
  have hpl:=hd.blk.lt
  have k:∀ {g:Nat} {x:Value} {t:TypeId},Vb W g [x] t→w.heap.size≤g→Vb w1 g [x] t:=fun h hg=>(show Vb U _ _ _ from (hUb.block _ (Nat.lt_of_lt_of_le h.lt hVb.size)).trans ((hVb.block _ h.lt).trans h)).apart hA1 (by simp;omega)
  exact vd_create1 h1 (k hx.one (by omega)) (k hx.two (by omega)) hn ho.cap ho.tot
 have HC:=Lib.hid hcall
 have HD:=Lib.hid hdV
 have HDU:=Lib.hid hdU
 have HR:=Lib.hid hres
 clear hcall hdV hdU ho hx hres her hst hvV hVb hd hA hg hh hN hUb
 unfold dptr keyV at *
 go_enter Tryz.func95,Tryz.ntmps95
 go_wp2_with fail
 refine hcn.mono ?_
 rintro e w2 ⟨rfl,rfl⟩
 go_wp2_with fail
 go_region
 all_goals go_step
 by_cases he:er=0
 ·have hei:(er:Int)=0:=by omega
  subst he
  cases hs with
  | true=>
   clear hlen
   all_goals (go_wp2_with fail;go_ret;rw [HR.out];exact ⟨rfl,HDU.out,hAU⟩)
  | false=>
   by_cases h200:200≤N
   ·have hni:(200:Int)≤(N:Int):=by omega
    go_wp2_with fail
    go_ret
    rw [HR.out,if_neg (by simp),if_neg (by simp),if_pos h200]
    exact ⟨rfl,HDU.out,hAU⟩
   ·have hni:¬ (200:Int)≤(N:Int):=by omega
    have hcl:=HC.out rfl rfl
    go_wp2_with fail
    refine hcl.mono ?_
    rintro e w3 ⟨rfl,h1,h2⟩
    go_wp2_with fail
    go_ret
    rw [HR.out,if_neg (by simp),if_neg (by simp),if_neg h200]
    exact ⟨rfl,h1,hAU.trans h2⟩
 ·have hei:¬ (er:Int)=0:=by omega
  clear hlen
  go_wp2_with fail
  go_ret
  rw [HR.out,if_pos he]
  exact ⟨rfl,HDU.out,hAU⟩
end
end Go.Proofs.YtmcibggjolckoaaGreatDoor
namespace Go.Proofs.YtmcibggjolckoaaGreatDoor
open Go Go.RowKit
set_option maxRecDepth 100000
namespace wl
structure L where
 name:vd.Name
 many:Nat
 off:Bool
end wl
def lgV (p:Nat) (l:wl.L):List Value:=[dptr p,keyV l.name,.int .i64 (l.many:Int),.bool l.off]
abbrev Lg (w:World) (g p:Nat) (l:wl.L):Prop:=Vb w g (lgV p l) 121
section
variable {w:World} {p b gl g go gs:Nat} {d:vd.Disk} {l:wl.L} {n s:List UInt8}
theorem Dk.drew (h:Dk w p b d):Dk w.drew p b d:=⟨h.blk,h.map.below ((Below.refl _ w).drew)⟩
theorem box_out {g:Nat} {x:Value} {t:TypeId} (h:Vb w g [x] t) (hd:Dk w p b d):g ∉ [p,b]:=by
 intro hx
 rcases List.mem_cons.1 hx with rfl | hx
 ·have h1:=hd.blk
  unfold Vb at h1 h
  rw [h] at h1
  injection h1 with e
  simp [diskV] at e
 ·rcases List.mem_cons.1 hx with rfl | hx
  ·obtain ⟨es,c,hb,_⟩:=hd.map
   unfold Vb at h
   rw [h] at hb
   cases hb
  ·cases hx
theorem log_out {g:Nat} {q:Nat} {l:wl.L} (h:Lg w g q l) (hd:Dk w p b d):g ∉ [p,b]:=by
 intro hx
 rcases List.mem_cons.1 hx with rfl | hx
 ·have h1:=hd.blk
  unfold Vb at h1
  unfold Lg Vb at h
  rw [h] at h1
  injection h1 with e
  simp [diskV,lgV] at e
 ·rcases List.mem_cons.1 hx with rfl | hx
  ·obtain ⟨es,c,hb,_⟩:=hd.map
   unfold Lg Vb at h
   rw [h] at hb
   cases hb
  ·cases hx
def wl.del (d:vd.Disk) (n:vd.Name):vd.Disk × Nat:=((vd.delete d n).1,if (vd.delete d n).2=3 then 0 else (vd.delete d n).2)
set_option maxHeartbeats 4000000 in
theorem wal_w2 (hl:Vb w gl [dptr g] 97) (hg:Lg w g p l) (ho:Vb w go [keyV n] 9) (hd:Dk w p b d) (hok:vd.Ok d) (hn:n.length≤maxLen) :
  Calls Tryz.prog 94 #[.pointer (some ⟨gl,0,none⟩),.pointer (some ⟨go,0,none⟩)] w (fun e w'=>e=.returned (.int .i64 ((vd.create d n).2:Nat))∧Dk w' p b (vd.create d n).1∧Apart [p,b] w w'):=by
 have q0:=hl.cell 0 _ rfl
 have q1:=hg.cell 0 _ rfl
 have q2:=ho.cell 0 _ rfl
 have hc:=vd_create n hd.drew hok hn
 have MK:Hid (∀ w',Apart [p,b] w w'→w'.cell? ⟨gl,0,none⟩=some (.pointer (some ⟨g,0,none⟩))∧w'.cell? ⟨g,0,none⟩=some (.pointer (some ⟨p,0,none⟩))∧w'.cell? ⟨go,0,none⟩=some (.string (crcm.mk n))):=Lib.hid fun _ h=>⟨(hl.apart h (box_out hl hd)).cell 0 _ rfl,(hg.apart h (log_out hg hd)).cell 0 _ rfl,(ho.apart h (box_out ho hd)).cell 0 _ rfl⟩
 have hW:Apart [p,b] w w.drew:=.drew _ _
 clear hok
 unfold dptr keyV at *
 go_enter Tryz.func94,Tryz.ntmps94
 go_wp2_with fail
 go_region_held3 (fun w'=>w'.cell? ⟨gl,0,none⟩=some (.pointer (some ⟨g,0,none⟩))∧w'.cell? ⟨g,0,none⟩=some (.pointer (some ⟨p,0,none⟩))∧w'.cell? ⟨go,0,none⟩=some (.string (crcm.mk n))) (exact MK.out _ hW) (first | (go_at_call 95;refine hc.mono ?_;rintro e w2 ⟨rfl,h1,h2⟩;have hW:=hW.trans h2))
 all_goals (go_wp2;go_ret;exact ⟨rfl,h1,(Apart.drew _ _).trans h2⟩)
set_option maxHeartbeats 4000000 in
theorem wal_w3 (hl:Vb w gl [dptr g] 97) (hg:Lg w g p l) (ho:Vb w go [keyV n] 9) (hs:Vb w gs [.string (crcm.mk s)] 9) (hd:Dk w p b d) (hok:vd.Ok d) (hn:n.length≤maxLen) (hsl:s.length≤1000000000) :
  Calls Tryz.prog 96 #[.pointer (some ⟨gl,0,none⟩),.pointer (some ⟨go,0,none⟩),.pointer (some ⟨gs,0,none⟩)] w (fun e w'=>e=.returned (.int .i64 ((vd.append d n s).2:Nat))∧Dk w' p b (vd.append d n s).1∧Apart [p,b] w w'):=by
 have q0:=hl.cell 0 _ rfl
 have q1:=hg.cell 0 _ rfl
 have q2:=ho.cell 0 _ rfl
 have q3:=hs.cell 0 _ rfl
 have hc:=vd_append n s hd.drew hok hn hsl
 have MK:Hid (∀ w',Apart [p,b] w w'→w'.cell? ⟨gl,0,none⟩=some (.pointer (some ⟨g,0,none⟩))∧w'.cell? ⟨g,0,none⟩=some (.pointer (some ⟨p,0,none⟩))∧w'.cell? ⟨go,0,none⟩=some (.string (crcm.mk n))∧w'.cell? ⟨gs,0,none⟩=some (.string (crcm.mk s))):=Lib.hid fun _ h=>⟨(hl.apart h (box_out hl hd)).cell 0 _ rfl,(hg.apart h (log_out hg hd)).cell 0 _ rfl,(ho.apart h (box_out ho hd)).cell 0 _ rfl,(hs.apart h (box_out hs hd)).cell 0 _ rfl⟩
 have hW:Apart [p,b] w w.drew:=.drew _ _
 clear hok
 unfold dptr keyV at *
 go_enter Tryz.func96,Tryz.ntmps96
 go_wp2_with fail
 go_region_held3 (fun w'=>w'.cell? ⟨gl,0,none⟩=some (.pointer (some ⟨g,0,none⟩))∧w'.cell? ⟨g,0,none⟩=some (.pointer (some ⟨p,0,none⟩))∧w'.cell? ⟨go,0,none⟩=some (.string (crcm.mk n))∧w'.cell? ⟨gs,0,none⟩=some (.string (crcm.mk s))) (exact MK.out _ hW) (first | (go_at_call 97;refine hc.mono ?_;rintro e w2 ⟨rfl,h1,h2⟩;have hW:=hW.trans h2))
 all_goals (go_wp2;go_ret;exact ⟨rfl,h1,(Apart.drew _ _).trans h2⟩)
set_option maxHeartbeats 4000000 in
theorem wal_w4 (hl:Vb w gl [dptr g] 97) (hg:Lg w g p l) (ho:Vb w go [keyV n] 9) (hd:Dk w p b d) (hok:vd.Ok d) (hn:n.length≤maxLen) :
  Calls Tryz.prog 98 #[.pointer (some ⟨gl,0,none⟩),.pointer (some ⟨go,0,none⟩)] w (fun e w'=>e=.returned (.int .i64 ((vd.sync d n).2:Nat))∧Dk w' p b (vd.sync d n).1∧Apart [p,b] w w'):=by
 have q0:=hl.cell 0 _ rfl
 have q1:=hg.cell 0 _ rfl
 have q2:=ho.cell 0 _ rfl
 have hc:=vd_sync n hd.drew hok hn
 have MK:Hid (∀ w',Apart [p,b] w w'→w'.cell? ⟨gl,0,none⟩=some (.pointer (some ⟨g,0,none⟩))∧w'.cell? ⟨g,0,none⟩=some (.pointer (some ⟨p,0,none⟩))∧w'.cell? ⟨go,0,none⟩=some (.string (crcm.mk n))):=Lib.hid fun _ h=>⟨(hl.apart h (box_out hl hd)).cell 0 _ rfl,(hg.apart h (log_out hg hd)).cell 0 _ rfl,(ho.apart h (box_out ho hd)).cell 0 _ rfl⟩
 have hW:Apart [p,b] w w.drew:=.drew _ _
 clear hok
 unfold dptr keyV at *
 go_enter Tryz.func98,Tryz.ntmps98
 go_wp2_with fail
 go_region_held3 (fun w'=>w'.cell? ⟨gl,0,none⟩=some (.pointer (some ⟨g,0,none⟩))∧w'.cell? ⟨g,0,none⟩=some (.pointer (some ⟨p,0,none⟩))∧w'.cell? ⟨go,0,none⟩=some (.string (crcm.mk n))) (exact MK.out _ hW) (first | (go_at_call 75;refine hc.mono ?_;rintro e w2 ⟨rfl,h1,h2⟩;have hW:=hW.trans h2))
 all_goals (go_wp2;go_ret;exact ⟨rfl,h1,(Apart.drew _ _).trans h2⟩)
set_option maxHeartbeats 4000000 in
theorem wal_w5 (hl:Vb w gl [dptr g] 97) (hg:Lg w g p l) (ho:Vb w go [keyV n] 9) (hd:Dk w p b d) (hok:vd.Ok d) (hn:n.length≤maxLen) (hm:l.name.length≤maxLen) :
  Calls Tryz.prog 99 #[.pointer (some ⟨gl,0,none⟩),.pointer (some ⟨go,0,none⟩)] w (fun e w'=>e=.returned (.int .i64 ((vd.rename d n l.name).2:Nat))∧Dk w' p b (vd.rename d n l.name).1∧Apart [p,b] w w'):=by
 have q0:=hl.cell 0 _ rfl
 have q1:=hg.cell 0 _ rfl
 have q2:=ho.cell 0 _ rfl
 have q1b:=hg.cell 1 _ rfl
 have hc:=vd_rename n l.name hd.drew hok hn hm
 have MK:Hid (∀ w',Apart [p,b] w w'→w'.cell? ⟨gl,0,none⟩=some (.pointer (some ⟨g,0,none⟩))∧w'.cell? ⟨g,0,none⟩=some (.pointer (some ⟨p,0,none⟩))∧w'.cell? ⟨go,0,none⟩=some (.string (crcm.mk n))∧w'.cell? ⟨g,1,none⟩=some (.string (crcm.mk l.name))):=Lib.hid fun _ h=>⟨(hl.apart h (box_out hl hd)).cell 0 _ rfl,(hg.apart h (log_out hg hd)).cell 0 _ rfl,(ho.apart h (box_out ho hd)).cell 0 _ rfl,(hg.apart h (log_out hg hd)).cell 1 _ rfl⟩
 have hW:Apart [p,b] w w.drew:=.drew _ _
 clear hok
 unfold dptr keyV at *
 go_enter Tryz.func99,Tryz.ntmps99
 go_wp2_with fail
 go_region_held3 (fun w'=>w'.cell? ⟨gl,0,none⟩=some (.pointer (some ⟨g,0,none⟩))∧w'.cell? ⟨g,0,none⟩=some (.pointer (some ⟨p,0,none⟩))∧w'.cell? ⟨go,0,none⟩=some (.string (crcm.mk n))∧w'.cell? ⟨g,1,none⟩=some (.string (crcm.mk l.name))) (exact MK.out _ hW) (first | (go_at_call 100;refine hc.mono ?_;rintro e w2 ⟨rfl,h1,h2⟩;have hW:=hW.trans h2))
 all_goals (go_wp2;go_ret;exact ⟨rfl,h1,(Apart.drew _ _).trans h2⟩)
set_option maxHeartbeats 4000000 in
theorem wal_w1 (hl:Vb w gl [dptr g] 97) (hg:Lg w g p l) (ho:Vb w go [keyV n] 9) (hd:Dk w p b d) (hok:vd.Ok d) (hn:n.length≤maxLen) :
  Calls Tryz.prog 92 #[.pointer (some ⟨gl,0,none⟩),.pointer (some ⟨go,0,none⟩)] w (fun e w'=>e=.returned (.int .i64 ((wl.del d n).2:Nat))∧Dk w' p b (wl.del d n).1∧Apart [p,b] w w'):=by
 have q0:=hl.cell 0 _ rfl
 have q1:=hg.cell 0 _ rfl
 have q2:=ho.cell 0 _ rfl
 have hc:=vd_delete n hd.drew hok hn
 obtain ⟨er,her⟩:∃ er,(vd.delete d n).2=er:=⟨_,rfl⟩
 have hres:wl.del d n=((vd.delete d n).1,if er=3 then 0 else er):=by rw [← her];rfl
 rw [her] at hc
 clear her
 have MK:Hid (∀ w',Apart [p,b] w w'→w'.cell? ⟨gl,0,none⟩=some (.pointer (some ⟨g,0,none⟩))∧w'.cell? ⟨g,0,none⟩=some (.pointer (some ⟨p,0,none⟩))∧w'.cell? ⟨go,0,none⟩=some (.string (crcm.mk n))):=Lib.hid fun _ h=>⟨(hl.apart h (box_out hl hd)).cell 0 _ rfl,(hg.apart h (log_out hg hd)).cell 0 _ rfl,(ho.apart h (box_out ho hd)).cell 0 _ rfl⟩
 have hW:Apart [p,b] w w.drew:=.drew _ _
 clear hok
 unfold dptr keyV at *
 go_enter Tryz.func92,Tryz.ntmps92
 go_wp2_with fail
 go_region_held3 (fun w'=>w'.cell? ⟨gl,0,none⟩=some (.pointer (some ⟨g,0,none⟩))∧w'.cell? ⟨g,0,none⟩=some (.pointer (some ⟨p,0,none⟩))∧w'.cell? ⟨go,0,none⟩=some (.string (crcm.mk n))) (exact MK.out _ hW) (first | (go_at_call 93;refine hc.mono ?_;rintro e w2 ⟨rfl,h1,h2⟩;have hW:=hW.trans h2))
 all_goals (
  by_cases h3:er=3
  ·have h3i:(er:Int)=3:=by omega
   have HR:=Lib.hid (hres.trans (by rw [if_pos h3]):wl.del d n=((vd.delete d n).1,0))
   clear hres
   go_wp2
   go_ret
   rw [HR.out]
   exact ⟨rfl,h1,(Apart.drew _ _).trans h2⟩
  ·have h3i:¬ (er:Int)=3:=by omega
   have HR:=Lib.hid (hres.trans (by rw [if_neg h3]):wl.del d n=((vd.delete d n).1,er))
   clear hres
   go_wp2
   go_ret
   rw [HR.out]
   exact ⟨rfl,h1,(Apart.drew _ _).trans h2⟩)
end
end Go.Proofs.YtmcibggjolckoaaGreatDoor
namespace Go.Proofs.YtmcibggjolckoaaGreatDoor
open Go Go.RowKit
set_option maxRecDepth 100000
namespace wl
abbrev Op1:=vd.Disk→vd.Disk × Nat
def run:List Op1→Op1
 | [],d=>(d,0)
 | f :: r,d=>if (f d).2 ≠ 0 then f d else run r (f d).1
end wl
def Step (w0:World) (p b:Nat) (x:Nat × Array Value × wl.Op1):Prop:=
 (∀ args w,(callFunc x.1 args).run Tryz.prog w=.ok (.enter x.1 args) w) ∧
 ∀ d w,vd.Ok d→Dk w p b d→Apart [p,b] w0 w→vd.Ok (x.2.2 d).1 ∧
  Calls Tryz.prog x.1 x.2.1 w (fun e w'=>e=.returned (.int .i64 ((x.2.2 d).2:Nat))∧Dk w' p b (x.2.2 d).1∧Apart [p,b] w w')
def stepV (x:Nat × Array Value × wl.Op1):Value:=.func (.func x.1) #[] x.2.1
set_option maxHeartbeats 4000000 in
theorem wal_steps {w:World} {p b G:Nat} {d:vd.Disk} (xs:List (Nat × Array Value × wl.Op1)) (hG:Vb w G (xs.map stepV) 142) (hGo:G ∉ [p,b]) (hx:∀ x ∈ xs,Step w p b x) (hd:Dk w p b d) (hok:vd.Ok d) (hl:xs.length≤1000) :
  Calls Tryz.prog 91 #[.slice (some ⟨G,0,none⟩) xs.length xs.length] w (fun e w'=>e=.returned (.int .i64 ((wl.run (xs.map (·.2.2)) d).2:Nat))∧Dk w' p b (wl.run (xs.map (·.2.2)) d).1∧Apart [p,b] w w'∧vd.Ok (wl.run (xs.map (·.2.2)) d).1):=by
 obtain ⟨R,hR⟩:∃ R,wl.run (xs.map (·.2.2)) d=R:=⟨_,rfl⟩
 rw [hR]
 obtain ⟨n,hn⟩:∃ n,xs.length=n:=⟨_,rfl⟩
 rw [hn] at hl ⊢
 have hcell:∀ k (x:Nat × Array Value × wl.Op1),xs[k]?=some x→∀ wr,Apart [p,b] w wr→wr.cell? ⟨G,k,none⟩=some (.func (.func x.1) #[] x.2.1):=fun k x hk wr hA=>(hG.apart hA hGo).cell k _ (by rw [List.getElem?_map,hk];rfl)
 have HC:=Lib.hid hcell
 have HN:=Lib.hid hn
 have HX:=Lib.hid hx
 have HRR:=Lib.hid hR
 have hd0:=Lib.hid hd
 have hok0:=Lib.hid hok
 clear hcell hn hx hR hG hGo hd hok
 go_enter Tryz.func91,Tryz.ntmps91
 go_wp2_with fail
 go_loopw [8] (fun i wr=>∃ (k:Nat) (d':vd.Disk),k≤n∧i=.int .i64 k∧wl.run ((xs.drop k).map (·.2.2)) d'=R∧vd.Ok d'∧Dk wr p b d'∧Apart [p,b] w wr) (fun i _=>n - (intOf i).toNat)
 case atStart=>exact ⟨0,d,Nat.zero_le _,rfl,HRR.out,hok0.out,hd0.out,.refl _ _⟩
 case round=>
  obtain ⟨k,d',hk,rfl,hrun,hok,hd,hA⟩:=hrel
  by_cases hlt:k < n
  ·obtain ⟨x,hx⟩:∃ x,xs[k]?=some x:=⟨xs[k]'(by rw [HN.out];exact hlt),List.getElem?_eq_getElem (by rw [HN.out];exact hlt)⟩
   have c0:=HC.out k x hx wr hA
   obtain ⟨e1,e2⟩:=HX.out x (List.mem_of_getElem? hx)
   obtain ⟨hok2,hcall⟩:=e2 d' wr hok hd hA
   have hdr:xs.drop k=x :: xs.drop (k + 1):=by
    obtain ⟨h1,h2⟩:=List.getElem?_eq_some_iff.1 hx
    rw [← h2];exact List.drop_eq_getElem_cons h1
   rw [hdr] at hrun
   obtain ⟨F,caps,op⟩:=x
   obtain ⟨er,her⟩:∃ er,(op d').2=er:=⟨_,rfl⟩
   have hstep:R=if er ≠ 0 then op d' else wl.run ((xs.drop (k + 1)).map (·.2.2)) (op d').1:=by rw [← her,← hrun];rfl
   simp only [her] at hcall
   simp only at c0 e1 hok2
   have HS:=Lib.hid hstep
   have HE:=Lib.hid her
   have HO:=Lib.hid hok2
   have HXX:=Lib.hid hx
   clear hstep her hrun hdr hx hok2 hok hd e2
   by_cases h0:er=0
   ·have hei:(er:Int)=0:=by omega
    go_wp2_with fail
    refine hcall.mono ?_
    rintro e w2 ⟨rfl,h1,h2⟩
    go_wp2_with fail
    go_roundw
    case rel=>exact ⟨k + 1,(op d').1,by omega,by go_num,by rw [HS.out,if_neg (by rw [h0];simp)],HO.out,h1,hA.trans h2⟩
    case measure=>simp [intOf];omega
   ·have hei:¬ (er:Int)=0:=by omega
    go_wp2_with fail
    refine hcall.mono ?_
    rintro e w2 ⟨rfl,h1,h2⟩
    go_wp2_with fail
    go_ret
    rw [HS.out,if_pos h0,HE.out]
    exact ⟨rfl,h1,hA.trans h2,HO.out⟩
  ·obtain rfl:k=n:=by omega
   have hdn:xs.drop k=[]:=List.drop_eq_nil_of_le (by rw [HN.out];exact Nat.le_refl _)
   rw [hdn] at hrun
   have hRd:R=(d',0):=hrun.symm
   have HRd:=Lib.hid hRd
   have HO:=Lib.hid hok
   have HDD:=Lib.hid hd
   clear hrun hdn hRd hok hd
   go_wp2_with fail
   go_ret
   rw [HRd.out]
   exact ⟨rfl,HDD.out,hA,HO.out⟩
end Go.Proofs.YtmcibggjolckoaaGreatDoor
namespace Go.Proofs.YtmcibggjolckoaaGreatDoor
open Go Go.RowKit
set_option maxRecDepth 100000
namespace vd
theorem ok_left {d:Disk} (h:Ok d):Ok (less d):=⟨h.cap,h.tot,h.nod,h.syn,h.nam,by show d.left - 1≤_;have:=h.lef;omega⟩
theorem ok_done {d:Disk} {f2:Files} (h:Ok d) (h2:Ok { d with files:=f2 }) (a:Bool):Ok (done d f2 a):=by
 have h3:Ok { less d with files:=f2 }:=⟨h2.cap,h2.tot,h2.nod,h2.syn,h2.nam,(ok_left h).lef⟩
 have h4:Ok (if goes d a then { less d with files:=f2 } else less d):=by
  cases goes d a
  ·exact ok_left h
  ·exact h3
 unfold done
 by_cases h1:d.left=1
 ·rw [if_pos h1];exact ok_crash h4 _
 ·rw [if_neg h1];exact h4
theorem ok_there {d:Disk} {n:Name} {f2:Files} (h:Ok d) (h2:has d.files n=true→nameErr d.off [n]=0→Ok { d with files:=f2 }) (a:Bool):Ok (there d n f2 a).1:=by
 unfold there
 by_cases h1:nameErr d.off [n]=0
 ·rw [if_neg (by rw [h1];simp)]
  cases hh:has d.files n with
  | true=>exact ok_done h (h2 hh h1) a
  | false=>exact h
 ·rw [if_pos h1];exact h
theorem ok_sync {d:Disk} (h:Ok d) (n:Name):Ok (sync d n).1:=
 ok_there h (fun _ hg=>ok_put h n _ (good_len (err_zero hg).2) (Nat.le_refl _) (by have:=h.tot;show _ + (at_ d.files n).1.length≤_;omega)) _
theorem ok_delete {d:Disk} (h:Ok d) (n:Name):Ok (delete d n).1:=ok_there h (fun _ _=>ok_del h n) _
theorem ok_append {d:Disk} (h:Ok d) (n:Name) (s:List UInt8):Ok (append d n s).1:=by
 unfold append
 by_cases hf:has d.files n=true∧d.off=false∧d.cap < total d.files + s.length
 ·rw [if_pos hf];exact h
 ·rw [if_neg hf]
  refine ok_there h (fun h1 h2=>?_) _
  have hsp:total d.files + s.length≤d.cap:=by
   rcases Nat.lt_or_ge d.cap (total d.files + s.length) with k | k
   ·exact absurd ⟨h1,(err_zero h2).1,k⟩ hf
   ·exact k
  refine ok_put h n _ (good_len (err_zero h2).2) ?_ ?_
  ·have:=at_syn h n
   show (at_ d.files n).2≤((at_ d.files n).1 ++ s).length
   rw [List.length_append];omega
  ·show _ + ((at_ d.files n).1 ++ s).length≤_
   rw [List.length_append];omega
theorem ok_rename {d:Disk} (h:Ok d) (n m:Name):Ok (rename d n m).1:=by
 unfold rename
 by_cases h0:nameErr d.off [n,m]=0
 ·rw [if_neg (by rw [h0];simp)]
  refine ok_there h (fun _ _=>?_) _
  refine ok_put (ok_del h n) m _ (good_len (nameErr_two h0).2) (at_syn h n) ?_
  have:=total_del d.files n
  have:=h.tot
  show total (del d.files n) + _≤_ + d.cap
  omega
 ·rw [if_pos h0];exact h
theorem ok_create {d:Disk} (h:Ok d) (n:Name):Ok (create d n).1:=by
 unfold create
 by_cases h0:nameErr d.off [n]=0
 ·rw [if_neg (by rw [h0];simp)]
  cases has d.files n with
  | true=>exact h
  | false=>
   rw [if_neg (by simp)]
   by_cases h2:200≤d.files.length
   ·rw [if_pos h2];exact h
   ·rw [if_neg h2]
    refine ok_done h (ok_put h n _ (good_len (err_zero h0).2) (Nat.le_refl _) ?_) _
    have:=h.tot
    show _ + 0≤_
    omega
 ·rw [if_pos h0];exact h
end vd
namespace wl
def writeOps (o n:vd.Name) (s:List UInt8):List Op1:=[fun d=>del d o,fun d=>vd.create d o,fun d=>vd.append d o s,fun d=>vd.sync d o,fun d=>vd.rename d o n]
def write (d:vd.Disk) (n:vd.Name) (s:List UInt8):vd.Disk × Nat:=run (writeOps (n ++ [43]) n s) d
end wl
set_option maxHeartbeats 4000000 in
theorem wal_write {w:World} {p b g:Nat} {d:vd.Disk} {l:wl.L} (s:List UInt8) (hg:Lg w g p l) (hd:Dk w p b d) (hok:vd.Ok d) (hm:l.name.length≤200) (hs:s.length≤1000000000) :
  Calls Tryz.prog 74 #[.pointer (some ⟨g,0,none⟩),.string (crcm.mk s)] w (fun e w'=>e=.returned (.int .i64 ((wl.write d l.name s).2:Nat))∧Dk w' p b (wl.write d l.name s).1∧Apart [p,b] w w'∧vd.Ok (wl.write d l.name s).1):=by
 obtain ⟨o,ho⟩:∃ o,l.name ++ [43]=o:=⟨_,rfl⟩
 have hcat:crcm.mk l.name ++ ⟨#[43]⟩=crcm.mk o:=by rw [← ho,← crcm.mk_append];rfl
 have hol:o.length≤maxLen:=by rw [← ho,List.length_append];unfold maxLen;simp;omega
 have hml:l.name.length≤maxLen:=by unfold maxLen;omega
 have hz1:(crcm.mk l.name).size=l.name.length:=crcm.mk_size _
 have hz2:ByteArray.size ⟨#[43]⟩=1:=rfl
 have hno:¬ 9223372036854775807 < l.name.length + 1:=by omega
 have hpl:=hd.blk.lt
 have hbl:=hd.map.lt
 have hgl:=hg.lt
 obtain ⟨N,hN⟩:∃ N,w.heap.size=N:=⟨_,rfl⟩
 obtain ⟨w1,hw1⟩:∃ w1,w.alloc (.cells #[.pointer (some ⟨g,0,none⟩)] 97)=w1:=⟨_,rfl⟩
 obtain ⟨w2,hw2⟩:∃ w2,w1.alloc (.cells #[.string (crcm.mk s)] 9)=w2:=⟨_,rfl⟩
 obtain ⟨w3,hw3⟩:∃ w3,w2.alloc (.cells #[.string (crcm.mk o)] 9)=w3:=⟨_,rfl⟩
 obtain ⟨xs,hxs⟩:∃ xs,xs=[((92,#[.pointer (some ⟨N,0,none⟩),.pointer (some ⟨N + 2,0,none⟩)],fun d=>wl.del d o):Nat × Array Value × wl.Op1),
  (94,#[.pointer (some ⟨N,0,none⟩),.pointer (some ⟨N + 2,0,none⟩)],fun d=>vd.create d o),
  (96,#[.pointer (some ⟨N,0,none⟩),.pointer (some ⟨N + 2,0,none⟩),.pointer (some ⟨N + 1,0,none⟩)],fun d=>vd.append d o s),
  (98,#[.pointer (some ⟨N,0,none⟩),.pointer (some ⟨N + 2,0,none⟩)],fun d=>vd.sync d o),
  (99,#[.pointer (some ⟨N,0,none⟩),.pointer (some ⟨N + 2,0,none⟩)],fun d=>vd.rename d o l.name)]:=⟨_,rfl⟩
 obtain ⟨w4,hw4⟩:∃ w4,w3.alloc (.cells (xs.map stepV).toArray 142)=w4:=⟨_,rfl⟩
 have s1:w1.heap.size=N + 1:=by rw [← hw1,← hN];exact Array.size_push _
 have s2:w2.heap.size=N + 2:=by rw [← hw2];show (Array.push _ _).size=_;rw [Array.size_push,s1]
 have s3:w3.heap.size=N + 3:=by rw [← hw3];show (Array.push _ _).size=_;rw [Array.size_push,s2]
 have b1:Below N w w1:=by rw [← hw1,← hN];exact (Below.refl _ w).alloc (Nat.le_refl _) _
 have b2:Below (N + 1) w1 w2:=by rw [← hw2];exact (Below.refl _ w1).alloc (by omega) _
 have b3:Below (N + 2) w2 w3:=by rw [← hw3];exact (Below.refl _ w2).alloc (by omega) _
 have b4:Below (N + 3) w3 w4:=by rw [← hw4];exact (Below.refl _ w3).alloc (by omega) _
 have vl1:Vb w1 N [dptr g] 97:=by rw [← hw1,← hN];exact Vb.new w _ _
 have vs2:Vb w2 (N + 1) [.string (crcm.mk s)] 9:=by have:=Vb.new w1 [.string (crcm.mk s)] 9;rw [s1,hw2] at this;exact this
 have vo3:Vb w3 (N + 2) [keyV o] 9:=by have:=Vb.new w2 [keyV o] 9;rw [s2] at this;rw [← hw3];exact this
 have vx4:Vb w4 (N + 3) (xs.map stepV) 142:=by have:=Vb.new w3 (xs.map stepV) 142;rw [s3,hw4] at this;exact this
 have vl4:Vb w4 N [dptr g] 97:=(b4.block _ (by omega)).trans ((b3.block _ (by omega)).trans ((b2.block _ (by omega)).trans vl1))
 have vs4:Vb w4 (N + 1) [.string (crcm.mk s)] 9:=(b4.block _ (by omega)).trans ((b3.block _ (by omega)).trans vs2)
 have vo4:Vb w4 (N + 2) [keyV o] 9:=(b4.block _ (by omega)).trans vo3
 have b04:Below N w w4:=((b1.trans (b2.mono (by omega))).trans (b3.mono (by omega))).trans (b4.mono (by omega))
 have vg4:Lg w4 g p l:=(b04.block _ (by omega)).trans hg
 have hd4:Dk w4 p b d:=⟨(b04.block _ (by omega)).trans hd.blk,by rw [← hN] at b04;exact hd.map.below b04⟩
 have hA:Apart [p,b] w w4:=by rw [← hN] at b04;exact .of_below b04 _
 have hgout:g ∉ [p,b]:=log_out hg hd
 have hstep:∀ x ∈ xs,Step w4 p b x:=by
  have k1:∀ w',Apart [p,b] w4 w'→Vb w' N [dptr g] 97:=fun w' h=>vl4.apart h (by simp;omega)
  have k2:∀ w',Apart [p,b] w4 w'→Vb w' (N + 2) [keyV o] 9:=fun w' h=>vo4.apart h (by simp;omega)
  have k3:∀ w',Apart [p,b] w4 w'→Vb w' (N + 1) [.string (crcm.mk s)] 9:=fun w' h=>vs4.apart h (by simp;omega)
  have k4:∀ w',Apart [p,b] w4 w'→Lg w' g p l:=fun w' h=>vg4.apart h hgout
  intro x hx
  rw [hxs] at hx
  rcases List.mem_cons.1 hx with rfl | hx
  ·exact ⟨enters_any Tryz.func92 (by kernel_rfl) rfl,fun d w' h1 h2 h3=>⟨vd.ok_delete h1 o,wal_w1 (k1 w' h3) (k4 w' h3) (k2 w' h3) h2 h1 hol⟩⟩
  rcases List.mem_cons.1 hx with rfl | hx
  ·exact ⟨enters_any Tryz.func94 (by kernel_rfl) rfl,fun d w' h1 h2 h3=>⟨vd.ok_create h1 o,wal_w2 (k1 w' h3) (k4 w' h3) (k2 w' h3) h2 h1 hol⟩⟩
  rcases List.mem_cons.1 hx with rfl | hx
  ·exact ⟨enters_any Tryz.func96 (by kernel_rfl) rfl,fun d w' h1 h2 h3=>⟨vd.ok_append h1 o s,wal_w3 (k1 w' h3) (k4 w' h3) (k2 w' h3) (k3 w' h3) h2 h1 hol hs⟩⟩
  rcases List.mem_cons.1 hx with rfl | hx
  ·exact ⟨enters_any Tryz.func98 (by kernel_rfl) rfl,fun d w' h1 h2 h3=>⟨vd.ok_sync h1 o,wal_w4 (k1 w' h3) (k4 w' h3) (k2 w' h3) h2 h1 hol⟩⟩
  rcases List.mem_cons.1 hx with rfl | hx
  ·exact ⟨enters_any Tryz.func99 (by kernel_rfl) rfl,fun d w' h1 h2 h3=>⟨vd.ok_rename h1 o l.name,wal_w5 (k1 w' h3) (k4 w' h3) (k2 w' h3) h2 h1 hol hml⟩⟩
  cases hx
 have hops:xs.map (·.2.2)=wl.writeOps o l.name s:=by rw [hxs];rfl
 have hlen:xs.length=5:=by rw [hxs];rfl
 have hcall:=wal_steps (G:=N + 3) xs vx4 (by simp;omega) hstep hd4 hok (by omega)
 rw [hops,hlen] at hcall
 have hres:wl.write d l.name s=wl.run (wl.writeOps o l.name s) d:=by rw [← ho];rfl
 rw [← hres] at hcall
 rw [hxs] at hw4
 simp only [List.map_cons,List.map_nil,stepV] at hw4
 have q1:=vg4.cell 1 _ rfl
 have r1:=(show Vb w2 N _ _ from (b2.block _ (by omega)).trans vl1).cell 0 _ rfl
 have r2:=(show Lg w2 g p l from ((b2.block _ (by omega)).trans ((b1.block _ (by omega)).trans hg))).cell 1 _ rfl
 clear hops hlen hres hstep vx4 vl4 vs4 vo4 vo3 vs2 vl1 b4 b3 b2 b1 b04 vg4 hd4 ho hol hml hd hg hok hxs
 unfold dptr keyV at *
 rw [hz2] at *
 go_enter Tryz.func74,Tryz.ntmps74
 go_wp2_with fail
 refine hcall.mono ?_
 rintro e w5 ⟨rfl,h1,h2,h3⟩
 go_wp2_with fail
 go_ret
 exact ⟨rfl,h1,hA.trans h2,h3⟩
end Go.Proofs.YtmcibggjolckoaaGreatDoor
