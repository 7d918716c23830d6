/- A part of the walk of the program, and of its plain law. -/
import Derived.Maps.Keyed
import Derived.StringKeys
import Derived.WideKeyElems
import Derived.MapKept
import Derived.Carry
import Derived.Laws.AppendOwn
import Derived.Test.YtppibhieabideaaGreatDoorGt1
import Derived.WalkKit
import Derived.WalkSmall
import Derived.WalkSpells
import Derived.ProofKit
import Derived.Lib.Hide
import Derived.Lib.MinMax
import Derived.Test.YtppibhieabideaaGreatDoorProg
import Derived.BigRegion
import Derived.Maps.RangeRun
import Derived.SliceStrings
namespace Go.Proofs.YtppibhieabideaaGreatDoor
set_option maxHeartbeats 4000000
open Go Go.RowKit
open Go.MapKept (Stamped stamped_empty stamped_push stamped_modify stamped_erase)
set_option maxRecDepth 100000
namespace vd
abbrev Name:=List UInt8
abbrev File:=List UInt8 × Nat
abbrev Files:=List (Name × File)
def at_:Files→Name→File
 | [],_=>([],0)
 | (n,f) :: r,k=>if n=k then f else at_ r k
def has:Files→Name→Bool
 | [],_=>false
 | (n,_) :: r,k=>if n=k then true else has r k
def put:Files→Name→File→Files
 | [],k,f=>[(k,f)]
 | (n,g) :: r,k,f=>if n=k then (n,f) :: r else (n,g) :: put r k f
def del:Files→Name→Files
 | [],_=>[]
 | (n,g) :: r,k=>if n=k then r else (n,g) :: del r k
theorem none_here {M:Files} {k:Name} (h:∀ x ∈ M,x.1 ≠ k) (f:File):has M k=false∧at_ M k=([],0)∧put M k f=M ++ [(k,f)]∧del M k=M:=by
 induction M with
 | nil=>exact ⟨rfl,rfl,rfl,rfl⟩
 | cons x r ih=>
  obtain ⟨n,g⟩:=x
  obtain ⟨h1,h2,h3,h4⟩:=ih (λx hx=>h x (by simp [hx]))
  have hn:¬ n=k:=h (n,g) (by simp)
  refine ⟨?_,?_,?_,?_⟩
  ·unfold has;rw [if_neg hn,h1]
  ·unfold at_;rw [if_neg hn,h2]
  ·unfold put;rw [if_neg hn,h3];rfl
  ·unfold del;rw [if_neg hn,h4]
theorem one_here {M:Files} {k:Name} {j:Nat} {g:File} (hd:(M.map (·.1)).Nodup) (h:M[j]?=some (k,g)) (f:File):has M k=true∧at_ M k=g∧put M k f=M.set j (k,f)∧del M k=M.eraseIdx j:=by
 induction M generalizing j with
 | nil=>simp at h
 | cons x r ih=>
  obtain ⟨n,e⟩:=x;rw [List.map_cons,List.nodup_cons] at hd
  cases j with
  | zero=>
   simp at h
   obtain ⟨rfl,rfl⟩:=h;refine ⟨?_,?_,?_,?_⟩
   ·unfold has;rw [if_pos rfl]
   ·unfold at_;rw [if_pos rfl]
   ·unfold put;rw [if_pos rfl];rfl
   ·unfold del;rw [if_pos rfl];rfl
  | succ j=>
   have h':r[j]?=some (k,g):=by simpa using h
   obtain ⟨h1,h2,h3,h4⟩:=ih hd.2 h'
   have hn:¬ n=k:=by
    rintro rfl;exact hd.1 (List.mem_map.2 ⟨(n,g),List.mem_of_getElem? h',rfl⟩)
   refine ⟨?_,?_,?_,?_⟩
   ·unfold has;rw [if_neg hn,h1]
   ·unfold at_;rw [if_neg hn,h2]
   ·unfold put;rw [if_neg hn,h3];rfl
   ·unfold del;rw [if_neg hn,h4];rfl
end vd
def qF (f:vd.File):Value:=.agg #[.string (crcm.mk f.1),.int .i64 (f.2:Int)]
def keyV (n:vd.Name):Value:=.string (crcm.mk n)
theorem jn {a b:vd.Name} (h:keyV a=keyV b):a=b:=by
 unfold keyV at h
 injection h with h
 rw [← crcm.mk_toList a,h,crcm.mk_toList]
def zw (x:vd.Name × vd.File):Value × Value:=(keyV x.1,qF x.2)
def FMap (w:World) (b:Nat) (M:vd.Files):Prop:=
 ∃ es clock,w.heap[b]?=some (.map es clock)∧(es.toList.map λe=>(e.key,e.val))=M.map zw∧Stamped es clock∧∀ x ∈ M,x.1.length≤maxLen
theorem FMap.lt {w:World} {b:Nat} {M:vd.Files} (h:FMap w b M):b < w.heap.size:=by
 obtain ⟨es,clock,hb,_⟩:=h;exact (Array.getElem?_eq_some_iff.1 hb).1
theorem FMap.below {w w':World} {b:Nat} {M:vd.Files} (h:FMap w b M) (hb:Below w.heap.size w w'):FMap w' b M:=by
 have hlt:=h.lt;obtain ⟨es,clock,he,r⟩:=h;exact ⟨es,clock,(hb.block b hlt).trans he,r⟩
theorem FMap.made (w:World):FMap (w.alloc (.map #[] 0)) w.heap.size []:=
 ⟨#[],0,(MapKept.heap_alloc w _).1,rfl,stamped_empty 0,λx hx=>by cases hx⟩
section
variable {P:Program} {k:TypeId} {w:World} {b:Nat} {M:vd.Files} {es:Array MapEntry} {clock:Nat}
theorem zL (hkv:(es.toList.map λe=>(e.key,e.val))=M.map zw) (hs:Stamped es clock):(M.map (·.1)).Nodup:=by
 have h3:=hs.2.2
 have e1:es.toList.map (·.key)=M.map (λx=>keyV x.1):=by
  have:=congrArg (List.map Prod.fst) hkv
  simpa [List.map_map,Function.comp_def,zw] using this
 rw [e1] at h3
 have:(M.map (·.1)).map keyV=M.map (λx=>keyV x.1):=by rw [List.map_map];rfl
 rw [← this] at h3
 generalize M.map (·.1)=l at h3
 clear hkv hs e1 this
 induction l with
 | nil=>exact List.nodup_nil
 | cons x r ih=>
  rw [List.map_cons,List.nodup_cons] at h3;rw [List.nodup_cons]
  exact ⟨λhx=>h3.1 (List.mem_map.2 ⟨x,hx,rfl⟩),ih h3.2⟩
theorem Kv (hkv:(es.toList.map λe=>(e.key,e.val))=M.map zw) {j:Nat} {e:MapEntry} (h:es.toList[j]?=some e) {n:vd.Name} (hk:e.key=keyV n):∃ g,M[j]?=some (n,g)∧e.val=qF g:=by
 have h1:(es.toList.map λe=>(e.key,e.val))[j]?=some (e.key,e.val):=by rw [List.getElem?_map,h];rfl
 rw [hkv,List.getElem?_map] at h1
 cases hm:M[j]? with
 | none=>rw [hm] at h1;cases h1
 | some x=>
  rw [hm] at h1;obtain ⟨m,g⟩:=x;have h2:(keyV m,qF g)=(e.key,e.val):=Option.some.inj h1
  have h3:keyV m=keyV n:=by rw [← hk];exact (Prod.mk.inj h2).1
  have:=jn h3;subst this;exact ⟨g,rfl,(Prod.mk.inj h2).2.symm⟩
theorem yQ (hkv:(es.toList.map λe=>(e.key,e.val))=M.map zw) {n:vd.Name} (h:∀ e ∈ es.toList,e.key ≠ keyV n):∀ x ∈ M,x.1 ≠ n:=by
 rintro ⟨m,g⟩ hx rfl;have hm:zw (m,g) ∈ M.map zw:=List.mem_map.2 ⟨_,hx,rfl⟩;rw [← hkv] at hm;obtain ⟨e,he,hee⟩:=List.mem_map.1 hm;exact h e he (Prod.mk.inj hee).1
theorem yR (hk:P.underlying k=some .string) (hkv:(es.toList.map λe=>(e.key,e.val))=M.map zw) (hl:∀ x ∈ M,x.1.length≤maxLen):∀ e ∈ es.toList,∃ l,keyOf P k e.key=some l:=by
 intro e he
 have hm:(e.key,e.val) ∈ es.toList.map λe=>(e.key,e.val):=List.mem_map.2 ⟨e,he,rfl⟩
 rw [hkv] at hm;obtain ⟨x,hx,hxe⟩:=List.mem_map.1 hm;have:e.key=keyV x.1:=(Prod.mk.inj hxe).1.symm;rw [this]
 exact ⟨_,WideMaps.keyOf_string_mk hk (by rw [crcm.mk_size];exact hl x hx)⟩
end
section
variable {P:Program} {t k e:TypeId} {w:World} {b:Nat} {M:vd.Files}
theorem FMap.look_ok (h:FMap w b M) (ht:P.underlying t=some (.map k e)) (hk:P.underlying k=some .string) (hz:(zeroValue e).run P w=.ok (qF ([],0)) w) (n:vd.Name) (hn:n.length≤maxLen) :
  (Instr.lookup t (.map (some b)) (keyV n) true).run P w=.ok (.tuple #[qF (vd.at_ M n),.bool (vd.has M n)]) w:=by
 obtain ⟨es,clock,hb,hkv,hs,hl⟩:=h
 have hkey:keyOf P k (keyV n)=some _:=WideMaps.keyOf_string_mk hk (by rw [crcm.mk_size];exact hn)
 rcases (WideMaps.string_law hk).find w hkey es.toList (yR hk hkv hl) with ⟨h1,h2⟩ | ⟨j,e0,h1,h2,h3⟩
 ·obtain ⟨g1,g2,_⟩:=vd.none_here (yQ hkv h2) ([],0);rw [g1,g2]
  simp [Instr.lookup,run_underlying ht,MapKept.run_getObj_map hb,(WideMaps.string_law hk).check w _ hkey,h1,hz,Result.andThen]
 ·obtain ⟨g,hg,hv⟩:=Kv hkv h2 h3;obtain ⟨g1,g2,_⟩:=vd.one_here (zL hkv hs) hg ([],0);rw [g1,g2]
  simp [Instr.lookup,run_underlying ht,MapKept.run_getObj_map hb,(WideMaps.string_law hk).check w _ hkey,h1,hv,Result.andThen]
theorem FMap.look (h:FMap w b M) (ht:P.underlying t=some (.map k e)) (hk:P.underlying k=some .string) (hz:(zeroValue e).run P w=.ok (qF ([],0)) w) (n:vd.Name) (hn:n.length≤maxLen) :
  (Instr.lookup t (.map (some b)) (keyV n) false).run P w=.ok (qF (vd.at_ M n)) w:=by
 obtain ⟨es,clock,hb,hkv,hs,hl⟩:=h
 have hkey:keyOf P k (keyV n)=some _:=WideMaps.keyOf_string_mk hk (by rw [crcm.mk_size];exact hn)
 rcases (WideMaps.string_law hk).find w hkey es.toList (yR hk hkv hl) with ⟨h1,h2⟩ | ⟨j,e0,h1,h2,h3⟩
 ·obtain ⟨g1,g2,_⟩:=vd.none_here (yQ hkv h2) ([],0);rw [g2]
  simp [Instr.lookup,run_underlying ht,MapKept.run_getObj_map hb,(WideMaps.string_law hk).check w _ hkey,h1,hz,Result.andThen]
 ·obtain ⟨g,hg,hv⟩:=Kv hkv h2 h3;obtain ⟨g1,g2,_⟩:=vd.one_here (zL hkv hs) hg ([],0);rw [g2]
  simp [Instr.lookup,run_underlying ht,MapKept.run_getObj_map hb,(WideMaps.string_law hk).check w _ hkey,h1,hv,Result.andThen]
theorem qZ (w:World) (b:Nat) (o:Obj):w.grownBy (ChangeMaps.setBlock w b o) (some b):=
 ⟨rfl,rfl,rfl,by simp [ChangeMaps.setBlock],λi _ hne=>by
  have hbi:b ≠ i:=λe=>hne (by rw [e])
  simp [ChangeMaps.setBlock,hbi]⟩
theorem Qm {w:World} {b:Nat} (o:Obj) (h:b < w.heap.size):(ChangeMaps.setBlock w b o).heap[b]?=some o:=by
 simp [ChangeMaps.setBlock,h]
def SameBorn (w w':World) (b:Nat):Prop:=∀ es clock,w.heap[b]?=some (.map es clock)→∃ es',w'.heap[b]?=some (.map es' clock)∧es'.toList.map (·.born)=es.toList.map (·.born)
theorem SameBorn.trans {w w' w'':World} {b:Nat} (h:SameBorn w w' b) (k:SameBorn w' w'' b):SameBorn w w'' b:=λes clock he=>by
 obtain ⟨es1,h1,h2⟩:=h es clock he;obtain ⟨es2,h3,h4⟩:=k es1 clock h1;exact ⟨es2,h3,h4.trans h2⟩
theorem SameBorn.of_eq {w w':World} {b:Nat} (h:w'.heap[b]?=w.heap[b]?):SameBorn w w' b:=λes _ he=>⟨es,h.trans he,rfl⟩
theorem FMap.update (h:FMap w b M) (ht:P.underlying t=some (.map k e)) (hk:P.underlying k=some .string) (n:vd.Name) (f:vd.File) (hn:n.length≤maxLen) :
  ∃ w',(Instr.mapUpdate t (.map (some b)) (keyV n) (qF f)).run P w=.ok () w'∧FMap w' b (vd.put M n f)∧w.grownBy w' (some b)∧(vd.has M n=true→SameBorn w w' b):=by
 have hlt:=h.lt;obtain ⟨es,clock,hb,hkv,hs,hl⟩:=h
 have hkey:keyOf P k (keyV n)=some _:=WideMaps.keyOf_string_mk hk (by rw [crcm.mk_size];exact hn)
 rcases (WideMaps.string_law hk).find w hkey es.toList (yR hk hkv hl) with ⟨h1,h2⟩ | ⟨j,e0,h1,h2,h3⟩
 ·obtain ⟨g1,_,g3,_⟩:=vd.none_here (yQ hkv h2) f
  refine ⟨ChangeMaps.setBlock w b (.map (es.push ⟨keyV n,qF f,clock⟩) (clock + 1)),?_,⟨_,_,Qm _ hlt,?_,stamped_push hs h2,?_⟩,qZ _ _ _,λhh=>by rw [g1] at hh;cases hh⟩
  ·simp [Instr.mapUpdate,run_underlying ht,MapKept.run_getObj_map hb,(WideMaps.string_law hk).check w false hkey,h1,MapKept.run_setObj_map _ hb,Result.andThen,ChangeMaps.setBlock]
  ·rw [g3,Array.toList_push,List.map_append,hkv,List.map_append];rfl
  ·rw [g3];intro x hx
   rcases List.mem_append.1 hx with hx | hx
   ·exact hl x hx
   ·simp at hx;subst hx;exact hn
 ·obtain ⟨g,hg,hv⟩:=Kv hkv h2 h3;obtain ⟨_,_,g3,_⟩:=vd.one_here (zL hkv hs) hg f
  have hj:es[j]?=some e0:=by simpa using h2
  have hkeyf:∀ e',es[j]?=some e'→({ e' with key:=keyV n,val:=qF f }:MapEntry).key=e'.key:=λe' he'=>by rw [hj] at he';cases he';exact h3.symm
  refine ⟨ChangeMaps.setBlock w b (.map (es.modify j (λe'=>{ e' with key:=keyV n,val:=qF f })) clock),?_,⟨_,_,Qm _ hlt,?_,stamped_modify hs _ _ (λ_ _=>rfl) (λe' _ he'=>hkeyf e' he'),?_⟩,qZ _ _ _,λ_ es1 clock1 he1=>?_⟩
  ·simp [Instr.mapUpdate,run_underlying ht,MapKept.run_getObj_map hb,(WideMaps.string_law hk).check w false hkey,h1,hj,h3,(WideMaps.string_law hk).stays w hkey,MapKept.run_setObj_map _ hb,Result.andThen,ChangeMaps.setBlock]
  ·rw [g3,Array.toList_modify,ChangeMaps.modify_eq_set _ _ _ _ h2,List.map_set,hkv,List.map_set]
   rfl
  ·rw [g3];intro x hx
   rcases List.mem_or_eq_of_mem_set hx with hx | rfl
   ·exact hl x hx
   ·exact hn
  ·rw [hb] at he1
   cases he1
   refine ⟨_,Qm _ hlt,?_⟩;rw [Array.toList_modify,ChangeMaps.modify_eq_set _ _ _ _ h2,List.map_set]
   apply List.ext_getElem?
   intro q;rw [List.getElem?_set]
   by_cases hq:j=q
   ·subst hq;rw [if_pos rfl,List.getElem?_map,h2]
    simp
    exact (List.getElem?_eq_some_iff.1 h2).1
   ·rw [if_neg hq]
theorem FMap.delete (h:FMap w b M) (ht:P.underlying t=some (.map k e)) (hk:P.underlying k=some .string) (ty:TypeId) (n:vd.Name) (hn:n.length≤maxLen) :
  ∃ w',(Builtin.delete_ #[t,k] ty #[.map (some b),keyV n]).run P w=.ok (.tuple #[]) w'∧FMap w' b (vd.del M n)∧w.grownBy w' (some b):=by
 have hlt:=h.lt;obtain ⟨es,clock,hb,hkv,hs,hl⟩:=h
 have hkey:keyOf P k (keyV n)=some _:=WideMaps.keyOf_string_mk hk (by rw [crcm.mk_size];exact hn)
 rcases (WideMaps.string_law hk).find w hkey es.toList (yR hk hkv hl) with ⟨h1,h2⟩ | ⟨j,e0,h1,h2,h3⟩
 ·obtain ⟨_,_,_,g4⟩:=vd.none_here (yQ hkv h2) ([],0);refine ⟨ChangeMaps.setBlock w b (.map es clock),?_,⟨_,_,Qm _ hlt,?_,hs,?_⟩,qZ _ _ _⟩
  ·simp [Builtin.delete_,run_underlying ht,MapKept.run_getObj_map hb,(WideMaps.string_law hk).check w _ hkey,h1,MapKept.run_setObj_map _ hb,Result.andThen,ChangeMaps.setBlock]
  ·rw [g4,hkv]
  ·rw [g4];exact hl
 ·obtain ⟨g,hg,hv⟩:=Kv hkv h2 h3;obtain ⟨_,_,_,g4⟩:=vd.one_here (zL hkv hs) hg ([],0)
  have hjs:j < es.size:=by simpa using (List.getElem?_eq_some_iff.1 h2).1
  have hsub:(es.eraseIdxIfInBounds j).toList=es.toList.eraseIdx j:=by
   unfold Array.eraseIdxIfInBounds;rw [dif_pos hjs]
   simp
  refine ⟨ChangeMaps.setBlock w b (.map (es.eraseIdxIfInBounds j) clock),?_,⟨_,_,Qm _ hlt,?_,stamped_erase hs j,?_⟩,qZ _ _ _⟩
  ·simp [Builtin.delete_,run_underlying ht,MapKept.run_getObj_map hb,(WideMaps.string_law hk).check w _ hkey,h1,MapKept.run_setObj_map _ hb,Result.andThen,ChangeMaps.setBlock]
  ·rw [g4,hsub,ChangeMaps.map_eraseIdx,hkv,ChangeMaps.map_eraseIdx]
  ·rw [g4];intro x hx;exact hl x ((List.eraseIdx_sublist _ _).subset hx)
end
def Vb (w:World) (g:Nat) (vs:List Value) (t:TypeId):Prop:=w.heap[g]?=some (.cells vs.toArray t (0,0))
theorem Vb.cell {w:World} {g:Nat} {vs:List Value} {t:TypeId} (h:Vb w g vs t) (j:Nat) (u:Value) (hj:vs[j]?=some u):w.cell? ⟨g,j,none⟩=some u:=by
 rw [cell_of_row w g j _ _ (0,0) h];simpa using hj
theorem Vb.free {w:World} {g:Nat} {vs:List Value} {t:TypeId} (h:Vb w g vs t) (j:Nat):w.frozen? ⟨g,j,none⟩=false:=by
 unfold Vb at h;simp [World.frozen?,h]
theorem Vb.lt {w:World} {g:Nat} {vs:List Value} {t:TypeId} (h:Vb w g vs t):g < w.heap.size:=(Array.getElem?_eq_some_iff.1 h).1
theorem Vb.set {w:World} {g:Nat} {vs:List Value} {t:TypeId} (h:Vb w g vs t) (j:Nat) (u:Value):Vb (w.setCell ⟨g,j,none⟩ u) g (vs.set j u) t:=by
 unfold Vb at h ⊢;simp only [World.setCell,Array.getElem?_modify,h,if_true]
 simp
theorem Vb.new (w:World) (vs:List Value) (t:TypeId):Vb (w.alloc (.cells vs.toArray t)) w.heap.size vs t:=heap_alloc_new w _
structure Apart (S:List Nat) (w w':World):Prop where
 os:w'.os=w.os
 tape:w'.tape=w.tape
 output:w'.output=w.output
 size:w.heap.size≤w'.heap.size
 block:∀ k,k < w.heap.size→k ∉ S→w'.heap[k]?=w.heap[k]?
theorem Apart.refl (S:List Nat) (w:World):Apart S w w:=⟨rfl,rfl,rfl,Nat.le_refl _,λ_ _ _=>rfl⟩
theorem Apart.trans {S:List Nat} {a b c:World} (h:Apart S a b) (k:Apart S b c):Apart S a c:=
 ⟨k.os.trans h.os,k.tape.trans h.tape,k.output.trans h.output,Nat.le_trans h.size k.size,λi hi hn=>(k.block i (Nat.lt_of_lt_of_le hi h.size) hn).trans (h.block i hi hn)⟩
theorem Apart.mono {S T:List Nat} {w w':World} (h:Apart S w w') (hs:∀ x ∈ S,x ∈ T):Apart T w w':=
 ⟨h.os,h.tape,h.output,h.size,λk hk hn=>h.block k hk (λhx=>hn (hs k hx))⟩
theorem Apart.then {S T U:List Nat} {a b c:World} (h:Apart S a b) (k:Apart T b c) (hs:∀ x ∈ S,x ∈ U∨a.heap.size≤x) (ht:∀ x ∈ T,x ∈ U∨a.heap.size≤x):Apart U a c:=
 ⟨k.os.trans h.os,k.tape.trans h.tape,k.output.trans h.output,Nat.le_trans h.size k.size,λi hi hn=>
  (k.block i (Nat.lt_of_lt_of_le hi h.size) (λhx=>by rcases ht i hx with h | h;exact hn h;omega)).trans (h.block i hi (λhx=>by rcases hs i hx with h | h;exact hn h;omega))⟩
theorem Apart.of_below {w w':World} (h:Below w.heap.size w w') (S:List Nat):Apart S w w':=⟨h.os,h.tape,h.output,h.size,λk hk _=>h.block k hk⟩
theorem Apart.of_grown {w w':World} {b:Nat} (h:w.grownBy w' (some b)):Apart [b] w w':=
 ⟨h.os,h.tape,h.output,h.size,λk hk hn=>h.block k hk (λe=>hn (by cases e;simp))⟩
theorem Apart.below {S:List Nat} {w w':World} (h:Apart S w w') (n:Nat) (hn:n≤w.heap.size) (hs:∀ x ∈ S,n≤x):Below n w w':=
 ⟨h.os,h.tape,h.output,h.size,λk hk=>h.block k (Nat.lt_of_lt_of_le hk hn) (λhx=>by have:=hs k hx;omega)⟩
theorem Apart.setCell (w:World) (g j:Nat) (v:Value):Apart [g] w (w.setCell ⟨g,j,none⟩ v):=
 ⟨rfl,rfl,rfl,by simp [World.setCell],λk _ hn=>Below.heap_setCell _ _ _ k (λe=>hn (by simp [show k=g from e]))⟩
theorem Apart.drew (w:World) (S:List Nat):Apart S w w.drew:=⟨rfl,rfl,rfl,Nat.le_refl _,λ_ _ _=>rfl⟩
theorem Vb.apart {w w':World} {g:Nat} {vs:List Value} {t:TypeId} {S:List Nat} (h:Vb w g vs t) (ha:Apart S w w') (hn:g ∉ S):Vb w' g vs t:=(ha.block g h.lt hn).trans h
theorem FMap.apart {w w':World} {b:Nat} {M:vd.Files} {S:List Nat} (h:FMap w b M) (ha:Apart S w w') (hn:b ∉ S):FMap w' b M:=by
 have hlt:=h.lt;obtain ⟨es,clock,hb,r⟩:=h;exact ⟨es,clock,(ha.block b hlt hn).trans hb,r⟩
namespace vd
structure Disk where
 cap:Nat
 files:Files
 off:Bool
 left:Nat
 keep:Int
def total (M:Files):Nat:=(M.map (·.2.1.length)).sum
theorem total_put (M:Files) (n:Name) (f:File):total (put M n f) + (at_ M n).1.length=total M + f.1.length:=by
 induction M with
 | nil=>simp [put,at_,total]
 | cons x r ih=>
  obtain ⟨m,g⟩:=x
  by_cases h:m=n
  ·simp [total,put,at_,h];omega
  ·simp [total,put,at_,h] at ih ⊢;omega
theorem total_del (M:Files) (n:Name):total (del M n) + (at_ M n).1.length=total M:=by
 induction M with
 | nil=>simp [del,at_,total]
 | cons x r ih=>
  obtain ⟨m,g⟩:=x
  by_cases h:m=n
  ·simp [total,del,at_,h];omega
  ·simp [total,del,at_,h] at ih ⊢;omega
theorem del_put (M:Files) (n:Name) (f:File):has M n=true→del (put M n f) n=del M n:=by
 intro h
 induction M with
 | nil=>simp [has] at h
 | cons x r ih=>
  obtain ⟨m,g⟩:=x;unfold has at h
  by_cases h1:m=n
  ·simp [put,del,h1]
  ·rw [if_neg h1] at h
   simp [put,del,h1,ih h]
theorem at_put (M:Files) (n k:Name) (f:File):at_ (put M n f) k=if k=n then f else at_ M k:=by
 induction M with
 | nil=>simp only [put,at_];by_cases h:n=k <;> simp [h,eq_comm]
 | cons x r ih=>
  obtain ⟨m,g⟩:=x;unfold put
  by_cases h1:m=n
  ·rw [if_pos h1];subst h1;unfold at_
   by_cases h2:m=k
   ·rw [if_pos h2,if_pos h2.symm]
   ·rw [if_neg h2,if_neg (λe=>h2 e.symm),if_neg h2]
  ·rw [if_neg h1];unfold at_
   by_cases h2:m=k
   ·rw [if_pos h2,if_pos h2,if_neg (λe=>h1 (h2.trans e))]
   ·rw [if_neg h2,if_neg h2,ih]
theorem has_put (M:Files) (n k:Name) (f:File):has (put M n f) k=(decide (k=n) || has M k):=by
 induction M with
 | nil=>simp only [put,has];by_cases h:n=k <;> simp [h,eq_comm]
 | cons x r ih=>
  obtain ⟨m,g⟩:=x;unfold put
  by_cases h1:m=n
  ·rw [if_pos h1];subst h1;unfold has
   by_cases h2:m=k
   ·simp [h2]
   ·simp [h2];exact λe=>absurd e.symm h2
  ·rw [if_neg h1];unfold has
   by_cases h2:m=k
   ·simp [h2]
   ·rw [if_neg h2,if_neg h2,ih]
def setF (M:Files) (n:Name) (f:File) (gone:Bool):Files:=if gone then del (put M n f) n else put M n f
end vd
def zO (b:Nat) (d:vd.Disk):List Value:=[.int .i64 (d.cap:Int),.int .i64 (vd.total d.files:Int),.map (some b),.bool d.off,.int .i64 (d.left:Int),.int .i64 d.keep]
structure Dk (w:World) (p b:Nat) (d:vd.Disk):Prop where
 blk:Vb w p (zO b d) 177
 map:FMap w b d.files
theorem Dk.ne {w:World} {p b:Nat} {d:vd.Disk} (h:Dk w p b d):p ≠ b:=by
 rintro rfl;obtain ⟨es,c,hb,_⟩:=h.map;have:=h.blk;unfold Vb at this;rw [this] at hb
 cases hb
theorem Dk.apart {w w':World} {p b:Nat} {d:vd.Disk} {S:List Nat} (h:Dk w p b d) (ha:Apart S w w') (hp:p ∉ S) (hb:b ∉ S):Dk w' p b d:=⟨h.blk.apart ha hp,h.map.apart ha hb⟩
theorem Qy (w:World):(zeroValue 357).run Tryz.prog w=.ok (qF ([],0)) w:=by kernel_rfl
end Go.Proofs.YtppibhieabideaaGreatDoor
namespace Go.Proofs.YtppibhieabideaaGreatDoor
set_option maxHeartbeats 4000000
open Go Go.RowKit Go.Lib
set_option maxRecDepth 100000
theorem field_s (s:ByteArray) (n:Int) (w:World):(Instr.field 357 (.agg #[.string s,.int .i64 n]) 0).run Tryz.prog w=.ok (.string s) w:=by kernel_rfl
theorem Zi {w:World} {p b:Nat} {d:vd.Disk} (n:vd.Name) (f:vd.File) (gone:Bool) (hd:Dk w p b d) (hn:n.length≤maxLen) (hc:d.cap≤1000000000) (ht:vd.total d.files≤d.cap) (hf:vd.total d.files + f.1.length≤(vd.at_ d.files n).1.length + d.cap)
  (hg:gone=true→f.1=[]) :
  Calls Tryz.prog 273 #[.pointer (some ⟨p,0,none⟩),keyV n,qF f,.bool gone] w
   (λe w'=>e=.returned (.tuple #[])∧Dk w' p b { d with files:=vd.setF d.files n f gone }∧Apart [p,b] w w'∧(vd.has d.files n=true→gone=false→SameBorn w w' b)):=by
 have hpb:=hd.ne;have hpl:=hd.blk.lt;have hbl:=hd.map.lt;have htp:=vd.total_put d.files n f;obtain ⟨fo,hfo⟩:∃ fo,fo=vd.at_ d.files n:=⟨_,rfl⟩;rw [← hfo] at htp hf
 have hcap2:vd.total (vd.put d.files n f)≤d.cap:=by omega
 obtain ⟨T,hT⟩:∃ T,T=vd.total d.files:=⟨_,rfl⟩;obtain ⟨T',hT'⟩:∃ T',T'=vd.total (vd.put d.files n f):=⟨_,rfl⟩;rw [← hT] at htp hf ht;rw [← hT'] at htp hcap2;obtain ⟨F,hF⟩:∃ F,F=f.1.length:=⟨_,rfl⟩;obtain ⟨O,hO⟩:∃ O,O=fo.1.length:=⟨_,rfl⟩;rw [← hF,← hO] at htp hf
 have hFs:(crcm.mk f.1).size=F:=by rw [crcm.mk_size,hF]
 have hOs:(crcm.mk fo.1).size=O:=by rw [crcm.mk_size,hO]
 have hOT:O≤T:=by
  have:=vd.total_del d.files n;rw [← hfo,← hO,← hT] at this;omega
 have e1:IntKind.i64.wrap ((F:Int) - (O:Int))=(F:Int) - O:=by rw [IntKind.wrap_i64];omega
 have e2:IntKind.i64.wrap ((T:Int) + ((F:Int) - O))=(T':Int):=by
  rw [IntKind.wrap_i64];omega
 unfold keyV
 rw [show qF f=.agg #[.string (crcm.mk f.1),.int .i64 (f.2:Int)] from rfl]
 obtain ⟨W,hW⟩:∃ W,W=w.alloc (.cells #[.string (crcm.mk f.1),.int .i64 (f.2:Int)] 357):=⟨_,rfl⟩
 have hb1:Below w.heap.size w W:=by rw [hW];exact (Below.refl _ w).alloc (Nat.le_refl _) _
 have hA1:Apart [p,b] w W:=.of_below hb1 _;have hd1:Dk W p b d:=⟨(hb1.block p hpl).trans hd.blk,hd.map.below hb1⟩
 have hsz:W.heap.size=w.heap.size + 1:=by rw [hW];exact Array.size_push _
 have hB1:Vb W w.heap.size [.string (crcm.mk f.1),.int .i64 (f.2:Int)] 357:=by rw [hW];exact Vb.new w _ _
 have c0:=hB1.cell 0 _ rfl;have c1:=hB1.cell 1 _ rfl;have q1:=hd1.blk.cell 1 _ rfl;have q2:=hd1.blk.cell 2 _ rfl;have z1:=hd1.blk.free 1;have hl:=(hd1.map.below ((Below.refl _ W).drew)).look Tryz.underlying175 Tryz.underlying9 (Qy _) n hn;rw [← hfo] at hl
 rw [show qF fo=.agg #[.string (crcm.mk fo.1),.int .i64 (fo.2:Int)] from rfl,keyV] at hl
 rw [← hT] at q1;have hfl:=field_s (crcm.mk fo.1) (fo.2:Int) W.drew
 go_enter Tryz.func273,Tryz.ntmps273
 go_wp2_with fail;rw [← hW];have HT':Hid (T'=vd.total (vd.put d.files n f)):=hT';clear hW htp hf hT hF hO hfo hT';go_region;obtain ⟨W2,hW2⟩:∃ W2,(W.setCell ⟨p,1,none⟩ (.int .i64 (T':Int))).drew=W2:=⟨_,rfl⟩
 have hA2:Apart [p] W W2:=by rw [← hW2];exact (Apart.setCell W p 1 _).trans (.drew _ _)
 have hv2:Vb W2 p (zO b { d with files:=vd.put d.files n f }) 177:=by
  have:=hd1.blk.set 1 (.int .i64 (T':Int));rw [HT'.out] at this;rw [← hW2,HT'.out];exact this
 have hm2:FMap W2 b d.files:=hd1.map.apart hA2 (by simp;exact λe=>hpb e.symm)
 have hB2:Vb W2 w.heap.size [.string (crcm.mk f.1),.int .i64 (f.2:Int)] 357:=hB1.apart hA2 (by simp;omega)
 rw [hW2];clear hW2 c0 c1 q1 q2 z1 hl hfl;have c0:=hB2.cell 0 _ rfl;have c1:=hB2.cell 1 _ rfl;have q2:=hv2.cell 2 _ rfl;have hsz2:=hA2.size;obtain ⟨W3,hu,hM3,hg3,hsb3⟩:=(hm2.below ((Below.refl _ W2).drew)).update Tryz.underlying175 Tryz.underlying9 n f hn
 rw [keyV,show qF f=.agg #[.string (crcm.mk f.1),.int .i64 (f.2:Int)] from rfl] at hu
 have hA3:Apart [p,b] W2 W3:=(Apart.drew W2 _).trans ((Apart.of_grown hg3).mono (by simp))
 have hd3:Dk W3 p b { d with files:=vd.put d.files n f }:=⟨hv2.apart ((Apart.drew W2 [b]).trans (.of_grown hg3)) (by simp;exact hpb),hM3⟩
 have hA3':=(hA1.trans (hA2.mono (by simp))).trans hA3
 have q3:=hd3.blk.cell 2 _ rfl;go_wp2_with fail;go_region
 cases gone with
 | false=>
  go_wp2_with fail;go_end0
  exact ⟨rfl,hd3,hA3',λhh=>(SameBorn.of_eq (hb1.block b hbl)).trans ((SameBorn.of_eq (hA2.block b (by omega) (by simp;exact λe=>hpb e.symm))).trans (hsb3 hh))⟩
 | true=>
  obtain ⟨W4,hdl,hM4,hg4⟩:=hM3.delete Tryz.underlying175 Tryz.underlying9 0 n hn;rw [keyV] at hdl
  have hd4:Dk W4 p b { d with files:=vd.setF d.files n f true }:=by
   refine ⟨?_,hM4⟩
   have h1:=hd3.blk.apart (Apart.of_grown hg4) (by simp;exact hpb)
   have h2:=vd.total_del (vd.put d.files n f) n;rw [vd.at_put,if_pos rfl,hg rfl] at h2
   have h3:vd.total (vd.setF d.files n f true)=vd.total (vd.put d.files n f):=by simpa [vd.setF] using h2
   unfold zO at h1 ⊢;rw [h3];exact h1
  have hA4:=hA3'.trans ((Apart.of_grown hg4).mono (by simp))
  go_wp2_with fail;go_end0;exact ⟨rfl,hd4,hA4⟩
end Go.Proofs.YtppibhieabideaaGreatDoor
namespace Go.Proofs.YtppibhieabideaaGreatDoor
set_option maxHeartbeats 4000000
open Go Go.RowKit Go.MapKept
set_option maxRecDepth 100000
def It (w:World) (r b:Nat) (M:vd.Files) (done:vd.Name→Bool):Prop:=
 ∃ es clock since seen c0,w.heap[r]?=some (.mapIter (some b) since seen c0)∧w.heap[b]?=some (.map es clock)∧(es.toList.map λe=>(e.key,e.val))=M.map zw∧Stamped es clock ∧
  (∀ x ∈ es.toList,x.born < since)∧since≤c0∧since≤clock∧∀ x ∈ es.toList,∀ n,x.key=keyV n→seen.contains x.born=done n
theorem It.lt {w:World} {r b:Nat} {M:vd.Files} {done:vd.Name→Bool} (h:It w r b M done):r < w.heap.size∧b < w.heap.size∧r ≠ b:=by
 obtain ⟨es,clock,since,seen,c0,hr,hb,_⟩:=h;refine ⟨(Array.getElem?_eq_some_iff.1 hr).1,(Array.getElem?_eq_some_iff.1 hb).1,?_⟩;rintro rfl;rw [hr] at hb
 cases hb
theorem It.begin {w w0:World} {b:Nat} {M:vd.Files} (h:FMap w b M) {P:Program} {t k e:TypeId} (ht:P.underlying t=some (.map k e)) (e0:w0=w) :
  ∃ w',(Instr.range t (.map (some b))).run P w0=.ok (.pointer (some ⟨w.heap.size,0,none⟩)) w'∧It w' w.heap.size b M (λ_=>false)∧Below w.heap.size w w'∧w'.heap.size=w.heap.size + 1:=by
 subst e0;have hlt:=h.lt;obtain ⟨es,clock,hb,hkv,hs,hl⟩:=h
 refine ⟨_,run_range_map w0 t k e b es clock ht hb,⟨es,clock,clock,#[],clock,heap_alloc_new _ _,?_,hkv,hs,hs.1,Nat.le_refl _,Nat.le_refl _,λx _ n _=>by simp⟩,(Below.refl _ w0).alloc (Nat.le_refl _) _,Array.size_push _⟩
 rw [((Below.refl w0.heap.size w0).alloc (Nat.le_refl _) _).block b hlt];exact hb
theorem It.step {w:World} {r b:Nat} {M:vd.Files} {done:vd.Name→Bool} (h:It w r b M done) {P:Program} (ty:TypeId) :
  ((∀ x ∈ M,done x.1=true)∧(Instr.next (.pointer (some ⟨r,0,none⟩)) false ty).run P w=.ok (.tuple #[.bool false]) w) ∨
  ∃ n g w',(n,g) ∈ M∧done n=false∧(Instr.next (.pointer (some ⟨r,0,none⟩)) false ty).run P w=.ok (.tuple #[.bool true,keyV n,qF g]) w'∧It w' r b M (λm=>decide (m=n) || done m) ∧
   Apart [r] w w'∧w'.heap.size=w.heap.size∧(Instr.entry (.pointer (some ⟨r,0,none⟩))).run P w'=.ok (.tuple #[keyV n,qF g]) w':=by
 obtain ⟨hrl,hbl,hrb⟩:=h.lt;obtain ⟨es,clock,since,seen,c0,hr,hb,hkv,hs,hold,hsc,hcl,hdone⟩:=h
 rcases run_next_at (P:=P) w ty r b since c0 seen es clock hr hb hold hsc with ⟨h0,hrun⟩ | ⟨e,he,w1,hw1,hrun⟩
 ·refine .inl ⟨?_,hrun⟩;rintro ⟨n,g⟩ hx
  have hm:zw (n,g) ∈ es.toList.map λe=>(e.key,e.val):=by rw [hkv];exact List.mem_map.2 ⟨_,hx,rfl⟩
  obtain ⟨e,he,hee⟩:=List.mem_map.1 hm;have hk:e.key=keyV n:=(Prod.mk.inj hee).1;rw [← hdone e he n hk]
  by_cases hc:seen.contains e.born=true
  ·exact hc
  ·have:e ∈ leftOf es seen:=by
    unfold leftOf;rw [Array.mem_filter]
    exact ⟨by simpa using he,by simpa using hc⟩
   rw [Array.eq_empty_of_size_eq_zero h0] at this
   simp at this
 ·have he':e ∈ es.toList∧seen.contains e.born=false:=by
   have:e ∈ leftOf es seen:=by simpa using he
   unfold leftOf at this;rw [Array.mem_filter] at this
   exact ⟨by simpa using this.1,by simpa using this.2⟩
  have hm:(e.key,e.val) ∈ M.map zw:=by rw [← hkv];exact List.mem_map.2 ⟨e,he'.1,rfl⟩
  obtain ⟨⟨n,g⟩,hx,hxe⟩:=List.mem_map.1 hm;have hk:e.key=keyV n:=(Prod.mk.inj hxe).1.symm;have hv:e.val=qF g:=(Prod.mk.inj hxe).2.symm
  have h1:w1.heap=w.heap:=by rcases hw1 with rfl | rfl <;> rfl
  have hA1:Apart [r] w w1:=by rcases hw1 with rfl | rfl;exact .refl _ _;exact .drew _ _
  have hA2:Apart [r] w1 (ChangeMaps.setBlock w1 r (.mapIter (some b) since (seen.push e.born) clock)):=.of_grown (qZ _ _ _);have hA:=hA1.trans hA2
  have hr2:=Qm (w:=w1) (b:=r) (.mapIter (some b) since (seen.push e.born) clock) (by rw [h1];exact hrl)
  have hb2:(ChangeMaps.setBlock w1 r (.mapIter (some b) since (seen.push e.born) clock)).heap[b]?=some (.map es clock):=(hA.block b hbl (by simp;exact λe=>hrb e.symm)).trans hb
  refine .inr ⟨n,g,_,hx,?_,?_,⟨es,clock,since,seen.push e.born,clock,hr2,hb2,hkv,hs,hold,hcl,hcl,?_⟩,hA,by simp [ChangeMaps.setBlock,h1],?_⟩
  ·rw [← hdone e he'.1 n hk];exact he'.2
  ·rw [hrun,hk,hv]
  ·intro x hxm m hkm;rw [Array.contains_push,hdone x hxm m hkm]
   by_cases hmn:m=n
   ·have:x=e:=by
     have hp:=hs.2.2;have h2:=(stamped_iff es clock).1 hs
     exact entry_eq_of_key h2.2.2 hxm he'.1 (by rw [hkm,hk,hmn])
    subst this
    simp [hmn]
   ·have hne:¬ x.born=e.born:=by
     intro hbb;have h2:=find_born x es.toList hs.2.1 hxm;have h3:=find_born e es.toList hs.2.1 he'.1;rw [hbb,h3] at h2
     cases h2
     rw [hk] at hkm;exact hmn (jn hkm).symm
    simp [hmn,hne]
  ·rw [run_entry_at _ r b since seen es clock e hr2 hb2 he'.1 hs.2.1,hk,hv]
theorem It.stays {w w':World} {r b:Nat} {M:vd.Files} {done:vd.Name→Bool} (h:It w r b M done) {S:List Nat} (hA:Apart S w w') (hr:r ∉ S) {n:vd.Name} {f:vd.File} (hn:vd.has M n=true) (hsb:SameBorn w w' b) (hM:FMap w' b (vd.put M n f)):It w' r b (vd.put M n f) done:=by
 obtain ⟨hrl,hbl,hrb⟩:=h.lt;obtain ⟨es,clock,since,seen,c0,hr1,hb,hkv,hs,hold,hsc,hcl,hdone⟩:=h;obtain ⟨es',hb',hbs⟩:=hsb es clock hb;obtain ⟨es2,clock2,hb2,hkv2,hs2,hl2⟩:=hM;rw [hb'] at hb2
 cases hb2
 have hnd:=zL hkv hs
 have hnames:(vd.put M n f).map (·.1)=M.map (·.1):=by
  clear hkv2 hl2 hkv hnd hdone
  induction M with
  | nil=>simp [vd.has] at hn
  | cons x q ih=>
   obtain ⟨m,g⟩:=x;unfold vd.put
   by_cases h1:m=n
   ·rw [if_pos h1];rfl
   ·unfold vd.has at hn;rw [if_neg h1] at hn;rw [if_neg h1,List.map_cons,List.map_cons,ih hn]
 have hkeys:es'.toList.map (·.key)=es.toList.map (·.key):=by
  have e1:=congrArg (List.map Prod.fst) hkv;have e2:=congrArg (List.map Prod.fst) hkv2;have e3:=congrArg (List.map keyV) hnames;simp only [List.map_map,Function.comp_def,zw] at e1 e2 e3;rw [e2,e1,e3]
 refine ⟨es',clock,since,seen,c0,(hA.block r hrl hr).trans hr1,hb',hkv2,hs2,?_,hsc,hcl,?_⟩
 ·intro x hx
  have:x.born ∈ es'.toList.map (·.born):=List.mem_map.2 ⟨x,hx,rfl⟩
  rw [hbs] at this;obtain ⟨y,hy,hyx⟩:=List.mem_map.1 this;rw [← hyx];exact hold y hy
 ·intro x hx m hk;obtain ⟨j,hj⟩:=List.getElem?_of_mem hx
  have g1:(es'.toList.map (·.born))[j]?=some x.born:=by rw [List.getElem?_map,hj];rfl
  have g2:(es'.toList.map (·.key))[j]?=some x.key:=by rw [List.getElem?_map,hj];rfl
  rw [hbs,List.getElem?_map] at g1;rw [hkeys,List.getElem?_map] at g2
  cases hy:es.toList[j]? with
  | none=>rw [hy] at g1;cases g1
  | some y=>
   rw [hy] at g1 g2;rw [← Option.some.inj g1];exact hdone y (List.mem_of_getElem? hy) m ((Option.some.inj g2).trans hk)
theorem It.apart {w w':World} {r b:Nat} {M:vd.Files} {done:vd.Name→Bool} (h:It w r b M done) {S:List Nat} (hA:Apart S w w') (hr:r ∉ S) (hb:b ∉ S):It w' r b M done:=by
 obtain ⟨hrl,hbl,hrb⟩:=h.lt;obtain ⟨es,clock,since,seen,c0,hr1,hb1,rest⟩:=h;exact ⟨es,clock,since,seen,c0,(hA.block r hrl hr).trans hr1,(hA.block b hbl hb).trans hb1,rest⟩
end Go.Proofs.YtppibhieabideaaGreatDoor
namespace Go.Proofs.YtppibhieabideaaGreatDoor
set_option maxHeartbeats 4000000
open Go Go.RowKit Go.ChangeShapes
set_option maxRecDepth 100000
def Strs (w:World) (v:Value) (ls:List (List UInt8)):Prop:=
 ∃ A c,v=.slice A ls.length c∧∀ k,k < ls.length→∃ ad,A=some ad∧w.cell? (ad.add k)=some (.string (crcm.mk (ls.getD k [])))
theorem Strs.below {w w':World} {v:Value} {ls:List (List UInt8)} (h:Strs w v ls) (hb:Below w.heap.size w w'):Strs w' v ls:=by
 obtain ⟨A,c,e,hc⟩:=h
 exact ⟨A,c,e,λk hk=>by obtain ⟨ad,e2,h2⟩:=hc k hk;exact ⟨ad,e2,cell_later hb h2⟩⟩
theorem Yt (l:List UInt8):(crcm.mk l).toList=l:=by rw [ByteArray.toList_eq];rfl
def Texts (w:World) (v:Value) (ls:List (List UInt8)):Prop:=Strs w v ls∧ls.length≤maxLen∧(∀ t ∈ ls,t.length≤maxLen)∧∃ A c,v=.slice A ls.length c∧ls.length≤c
theorem texts_of_reading {H:Type} {enc:TypeId × Value→H} {P:Program} {w:World} {base:Nat} {held:Bool} {t e:TypeId} {a:Option Addr} {len cap:Nat} {d:DataW H} {ps:List MemPlace}
  (ht:P.underlying t=some (.slice e)) (he:P.underlying e=some .string) (hc:P.cellsOf e=1) (h:DataW.Trod enc P w base (λ_=>true) held t (.slice a len cap) d ps) :
  ∃ ls,Texts w (.slice a len cap) ls:=by
 obtain ⟨fuel,hf⟩:=h
 rcases open_strings ht he hc hf with ⟨hcs,_⟩ | ⟨a',len',cap',ss,hcs,_,hl,hm,hz,_,hcell,hws⟩
 ·obtain ⟨rfl,rfl,rfl⟩:a=none∧len=0∧cap=0:=by simpa [Value.cells] using hcs
  exact ⟨[],⟨none,0,rfl,λk hk=>by simp at hk⟩,Nat.zero_le _,(λt ht=>by cases ht),none,0,rfl,Nat.le_refl _⟩
 ·obtain ⟨rfl,rfl,rfl⟩:a=some a'∧len=len'∧cap=cap':=by simpa [Value.cells] using hcs
  simp only [if_true] at hz
  have hlen:((ss.take len).map λs=>s.data.toList).length=len:=by rw [List.length_map,List.length_take];omega
  have hk:∀ k,k < len→∃ s,ss[k]?=some s:=λk hk=>⟨ss[k]'(by omega),List.getElem?_eq_getElem (by omega)⟩
  refine ⟨(ss.take len).map λs=>s.data.toList,⟨some a',cap,by rw [hlen],λk hkl=>⟨a',rfl,?_⟩⟩,by rw [hlen];omega,?_,some a',cap,by rw [hlen],by rw [hlen];exact hl⟩
  ·rw [hlen] at hkl;obtain ⟨s,hs⟩:=hk k hkl
   have h1:=hcell k (by omega)
   have e1:ss.getD k ByteArray.empty=s:=by rw [List.getD_eq_getElem?_getD,hs];rfl
   have e2:((ss.take len).map λs=>s.data.toList).getD k []=s.data.toList:=by
    rw [List.getD_eq_getElem?_getD,List.getElem?_map,List.getElem?_take_of_lt hkl,hs];rfl
   rw [h1,e1,e2,crcm.mk_of]
  ·intro t ht;obtain ⟨s,hs,rfl⟩:=List.mem_map.1 ht;have:=hws s (List.mem_of_mem_take hs);rw [crcm.size_len];exact this
end Go.Proofs.YtppibhieabideaaGreatDoor
namespace Go.Proofs.YtppibhieabideaaGreatDoor
set_option maxHeartbeats 4000000
open Go Go.RowKit Go.Lib
set_option maxRecDepth 100000
theorem kW {a b:Value} (h:a=b):Ending.returned a=Ending.returned b:=by rw [h]
def dptr (p:Nat):Value:=.pointer (some ⟨p,0,none⟩)
theorem Vj (c:Nat) (w:World) (hc:c≤1000000000) :
  Calls Tryz.prog 31 #[.int .i64 (c:Int)] w (λe w'=>∃ p b,e=.returned (dptr p)∧w.heap.size≤p∧w.heap.size≤b∧Dk w' p b ⟨c,[],false,0,0⟩∧Below w.heap.size w w'):=by
 have e1:max (c:Int) 0=c:=by omega
 have hmk:=run_makeMap (P:=Tryz.prog) 175 w
 go_enter Tryz.func31,Tryz.ntmps31
 go_wp2_with fail;go_ret;have hb1:Below w.heap.size w (w.alloc (.map #[] 0)):=(Below.refl _ w).alloc (Nat.le_refl _) _;have hsz:(w.alloc (.map #[] 0)).heap.size=w.heap.size + 1:=Array.size_push _;have hv:=Vb.new (w.alloc (.map #[] 0)) (zO w.heap.size ⟨c,[],false,0,0⟩) 177;have hb2:=(Below.refl (w.alloc (.map #[] 0)).heap.size (w.alloc (.map #[] 0))).alloc (Nat.le_refl _) (.cells (zO w.heap.size ⟨c,[],false,0,0⟩).toArray 177);have hm:=(FMap.made w).below hb2;rw [hsz] at hv
 exact ⟨w.heap.size + 1,w.heap.size,rfl,by omega,by omega,⟨hv,hm⟩,hb1.trans (hb2.mono (by omega))⟩
theorem vd_up {w:World} {p b:Nat} {d:vd.Disk} (hd:Dk w p b d) :
  Calls Tryz.prog 235 #[dptr p] w (λe w'=>e=.returned (.bool (!d.off))∧w'=w):=by
 have q:=hd.blk.cell 3 _ rfl;unfold dptr
 go_enter Tryz.func235,Tryz.ntmps235
 go_wp2;go_ret;exact ⟨rfl,rfl⟩
theorem vd_on {w:World} {p b:Nat} {d:vd.Disk} (hd:Dk w p b d) :
  Calls Tryz.prog 53 #[dptr p] w (λe w'=>e=.returned (.tuple #[])∧Dk w' p b { d with off:=false,left:=0 }∧Apart [p] w w'):=by
 have q:=hd.blk.cell 3 _ rfl;have q4:=hd.blk.cell 4 _ rfl;have z:=hd.blk.free 3;have z4:=hd.blk.free 4;have hpb:=hd.ne;have h1:=Apart.setCell w p 3 (.bool false);have h2:=Apart.setCell (w.setCell ⟨p,3,none⟩ (.bool false)) p 4 (.int .i64 0);have hA:=h1.trans h2;have hb:=(hd.blk.set 3 (.bool false)).set 4 (.int .i64 0)
 have hm:=hd.map.apart hA (by simp;exact λe=>hpb e.symm)
 unfold dptr
 go_enter Tryz.func53,Tryz.ntmps53
 go_wp2;go_end0;exact ⟨rfl,⟨hb,hm⟩,hA⟩
theorem vd_fuse {w:World} {p b:Nat} {d:vd.Disk} (hd:Dk w p b d) (n k:Int) :
  Calls Tryz.prog 116 #[dptr p,.int .i64 n,.int .i64 k] w (λe w'=>e=.returned (.tuple #[])∧Dk w' p b { d with left:=(max n 0).toNat,keep:=k }∧Apart [p] w w'):=by
 have q:=hd.blk.cell 4 _ rfl;have q4:=hd.blk.cell 5 _ rfl;have z:=hd.blk.free 4;have z4:=hd.blk.free 5;have hpb:=hd.ne;obtain ⟨m,hm⟩:∃ m,m=(max n 0).toNat:=⟨_,rfl⟩
 have hm2:max n 0=(m:Int):=by omega
 have h1:=Apart.setCell w p 4 (.int .i64 (m:Int));have h2:=Apart.setCell (w.setCell ⟨p,4,none⟩ (.int .i64 (m:Int))) p 5 (.int .i64 k);have hA:=h1.trans h2;have hb:=(hd.blk.set 4 (.int .i64 (m:Int))).set 5 (.int .i64 k)
 have hmm:=hd.map.apart hA (by simp;exact λe=>hpb e.symm)
 rw [← hm];clear hm;unfold dptr
 go_enter Tryz.func116,Tryz.ntmps116
 go_wp2;go_end0;exact ⟨rfl,⟨hb,hmm⟩,hA⟩
namespace vd
def good (s:Name):Bool:=decide (s ≠ []) && decide (s.length≤60)
def nameErr (off:Bool) (l:List Name):Nat:=if off then 6 else if l.all good then 0 else 1
end vd
theorem Zz {w:World} {p b:Nat} {d:vd.Disk} (hd:Dk w p b d) (v:Value) (l:List vd.Name) (hv:Strs w v l) (hl:l.length≤1000) (hs:∀ x ∈ l,x.length≤maxLen) :
  Calls Tryz.prog 310 #[dptr p,v] w (λe w'=>e=.returned (.int .i64 (vd.nameErr d.off l:Nat))∧w'=w):=by
 obtain ⟨A,c,rfl,hcells⟩:=hv;have q:=hd.blk.cell 3 _ rfl
 have hsn:∀ k,k < l.length→l.take (k + 1)=l.take k ++ [l.getD k []]:=λk h=>by rw [List.take_add_one,List.getD_eq_getElem?_getD,List.getElem?_eq_getElem h];rfl
 have hin:∀ k,k < l.length→l.getD k [] ∈ l:=λk h=>by rw [List.getD_eq_getElem?_getD,List.getElem?_eq_getElem h];exact List.getElem_mem h
 obtain ⟨n,hn⟩:∃ n,l.length=n:=⟨_,rfl⟩
 have htk:l.take n=l:=by rw [← hn];exact List.take_length
 rw [hn] at hcells hsn hin hl ⊢;have HC:=Uq hcells;have HIN:=Uq hin;have HSN:=Uq hsn;have HTK:=Uq htk;have HS:=Uq hs;clear hcells hin hsn htk hs hn;unfold dptr
 go_enter Tryz.func310,Tryz.ntmps310
 cases ho:d.off with
 | true=>
  rw [ho] at q;go_wp2_with fail;go_ret;exact ⟨rfl,rfl⟩
 | false=>
  rw [ho] at q;clear ho;go_wp2_with fail
  go_loop [13] (λi=>∃ k:Nat,k≤n∧i=.int .i64 k∧(l.take k).all vd.good=true) (λi=>n - (intOf i).toNat)
  case atStart=>exact ⟨0,Nat.zero_le _,rfl,rfl⟩
  case round=>
   obtain ⟨k,hk,rfl,hall⟩:=hrel;have HALL:=Uq hall;clear hall
   by_cases hlt:k < n
   ·obtain ⟨ad,rfl,c0⟩:=HC.out k hlt;have hs:=HSN.out k hlt;have hmem:=HIN.out k hlt;obtain ⟨t,ht⟩:∃ t,l.getD k []=t:=⟨_,rfl⟩;rw [ht] at c0 hs hmem;have hlen:=HS.out t hmem;unfold maxLen at hlen;obtain ⟨N,hN⟩:∃ N,t.length=N:=⟨_,rfl⟩
    have hsz:(crcm.mk t).size=N:=by rw [crcm.mk_size,hN]
    rw [hN] at hlen
    have hie:(crcm.mk t).toList.isEmpty=t.isEmpty:=by rw [Yt]
    by_cases hg:vd.good t=true
    ·have hne:t.isEmpty=false:=by
      cases t with
      | nil=>revert hg;decide
      | cons x r=>rfl
     rw [hne] at hie;clear hne
     have h60:N≤60:=by
      unfold vd.good at hg;rw [Bool.and_eq_true,decide_eq_true_iff,decide_eq_true_iff,hN] at hg;exact hg.2
     have HG:=Uq hg;have HSS:=Uq hs;clear hg hs ht hN;go_wp2
     go_round
     case rel=>exact ⟨k + 1,by omega,by go_num,by rw [HSS.out,List.all_append,HALL.out,List.all_cons,HG.out];rfl⟩
     case measure=>simp [intOf];omega
    ·have hno:l.all vd.good=false:=by
      rw [List.all_eq_false];exact ⟨t,hmem,hg⟩
     have HNO:=Uq hno
     by_cases hne:t=[]
     ·rw [hne,show ([]:List UInt8).isEmpty=true from rfl,← hne] at hie
      clear hg hs ht hN hno hne;go_wp2;go_ret
      exact ⟨kW (by unfold vd.nameErr;rw [HNO.out];rfl),rfl⟩
     ·have h60:60 < N:=by
       unfold vd.good at hg;rw [Bool.and_eq_true,decide_eq_true_iff,decide_eq_true_iff,hN] at hg
       rcases Nat.lt_or_ge 60 N with h | h
       ·exact h
       ·exact absurd ⟨hne,h⟩ hg
      have hni:t.isEmpty=false:=by
       cases t with
       | nil=>exact absurd rfl hne
       | cons x r=>rfl
      rw [hni] at hie;clear hg hs ht hN hno hni hne;go_wp2;go_ret
      exact ⟨kW (by unfold vd.nameErr;rw [HNO.out];rfl),rfl⟩
   ·obtain rfl:k=n:=by omega
    have hall:=HALL.out;rw [HTK.out] at hall;have HALL2:=Uq hall;clear hall;go_wp2;go_ret
    exact ⟨kW (by unfold vd.nameErr;rw [HALL2.out];rfl),rfl⟩
end Go.Proofs.YtppibhieabideaaGreatDoor
