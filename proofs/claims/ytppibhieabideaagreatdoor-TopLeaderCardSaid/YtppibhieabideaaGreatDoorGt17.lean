/- A part of the walk of the program, and of its plain law. -/
import Derived.Test.YtppibhieabideaaGreatDoorGt16
import Derived.Deep.Slices
import Derived.ChangeSame
namespace Go.Proofs.YtppibhieabideaaGreatDoor
open Go Go.RowKit
set_option maxRecDepth 100000
theorem sv_strs {w:World} {v:Value} {ls:List (List UInt8)} (h:Strs w v ls):Strs w v ls:=h
theorem strs_sv {w:World} {v:Value} {ls:List (List UInt8)} (h:Strs w v ls):Strs w v ls:=h
def RAFT:vd.Name:=[82,65,70,84]
theorem KL:wl.openE RAFT=true:=by decide
theorem EntsB.apart {base:Nat} {S:List Nat} {w w':World} {v:Value} {ls:List rl.Ent} (h:EntsB base w v ls) (hA:Apart S w w') (hS:∀ x ∈ S,∀ cur,w.heap[x]? ≠ some (.cells cur 36 (0,0))):EntsB base w' v ls:=by
 obtain ⟨⟨A,c,rfl,h1,h2,h3⟩,h4⟩:=h
 have hsame:∀ b o n c',(Value.slice A ls.length c)=.slice (some ⟨b,o,none⟩) n c'→0 < ls.length→w'.heap[b]?=w.heap[b]?:=by
  intro b o n c' e h0;obtain ⟨hlt,hh⟩:=h4 b o n c' e h0
  refine hA.block b hlt (λhx=>?_)
  rcases hh with h5 | ⟨cur,h5⟩
  ·omega
  ·exact hS b hx cur h5
 refine ⟨⟨A,c,rfl,h1,h2,λh0=>?_⟩,λb o n c' e h0=>?_⟩
 ·obtain ⟨b,o,rfl,hA⟩:=h3 h0;have e:=hsame b o _ _ rfl h0
  refine ⟨b,o,rfl,λk hk=>?_⟩
  rw [World.cell?_of_block (w:=w) (w':=w') (a:=⟨b,o + k * 2,none⟩) e,World.cell?_of_block (w:=w) (w':=w') (a:=⟨b,o + k * 2 + 1,none⟩) e];exact hA k hk
 ·have e2:=hsame b o n c' e h0;obtain ⟨hlt,hh⟩:=h4 b o n c' e h0
  exact ⟨Nat.lt_of_lt_of_le hlt hA.size,by rw [e2];exact hh⟩
theorem K3 {P:Program} {fn:Func} {p u v:Tmp} {ty:TypeId} (h:fn.results=#[.tmp u,.cell p ty,.tmp v]) (tmps:Array Value) (w:World) (g:Nat) (t:TypeId) (cs:Array Value) (fr:Nat × Nat) (d:TypeDesc)
  (hp:tmps.getD p undef=.pointer (some ⟨g,0,none⟩)) (hg:w.heap[g]?=some (.cells cs t fr))
  (hu:P.underlying ty=some d) (hd:(match d with | .struct _ | .array _ _=>true | _=>false)=true) (hi:(P.info? ty).map (·.size)=some cs.size) :
  (results fn tmps).run P w=.ok (.tuple #[tmps.getD u undef,.agg cs,tmps.getD v undef]) w:=by
 have hp':tmps[p]?.getD undef=.pointer (some ⟨g,0,none⟩):=by simpa using hp
 simp [results,h,hp',asAddr,run_loadVar_row w g t ty cs fr d hg hu hd hi]
section
variable {w0 w:World} {p b g s:Nat} {d:vd.Disk} {l:wl.L}
abbrev kSt (w:World) (s g:Nat):Prop:=Vb w s [.pointer (some ⟨g,0,none⟩)] 244
set_option maxHeartbeats 8000000 in
theorem XD {d2:vd.Disk} {ts:List (List UInt8)} {T:Nat} {V:Int} {es:List rl.Ent} (h:Ldk w0 w p b d) (ht:TabAt w0) (hq:wl.open_ d RAFT=(d2,ts,0)) (hf:rl.from_ ts=((T,V,es),0)) (hl:ts.length≤10000) (hall:∀ t ∈ ts,t.length≤maxLen) :
  Calls Tryz.prog 54 #[.pointer (some ⟨p,0,none⟩)] w (λe w'=>∃ s g u,e=.returned (.tuple #[.pointer (some ⟨s,0,none⟩),stV T V u,.int .i64 0])∧Ldk w0 w' p b d2∧Apart [p,b] w w'∧w.heap.size≤g∧w.heap.size≤s∧kSt w' s g∧Lg w' g p ⟨RAFT,ts.length,false⟩∧EntsB 0 w' u es):=by
 obtain ⟨W,hW⟩:∃ W,w.alloc (.cells #[.int .u64 0,.int .i64 0,.slice none 0 0] 96)=W:=⟨_,rfl⟩
 have hb:Below w.heap.size w W:=by rw [← hW];exact (Below.refl _ w).alloc (Nat.le_refl _) _
 have hv:Vb W w.heap.size [.int .u64 0,.int .i64 0,.slice none 0 0] 96:=by rw [← hW];exact Vb.new w _ _
 have hdW:=h.later hb
 have hO:=xz RAFT hdW (by unfold RAFT;simp) ht
 have HQ:=Uq hq;have HF:=Uq hf;have HALL:=Uq hall;have hpl:=h.dk.blk.lt;have hbl:=h.dk.map.lt;have H:=Uq h;clear hq hf hall h
 go_enter Tryz.func54,Tryz.ntmps54
 go_wp2_with fail;refine hO.mono ?_;rintro e w1 h1;obtain ⟨A,c,g,rfl,hd1,hA1,hg1,hk1,hl1⟩:=h1.ok HQ.out
 have hv1:Vb w1 w.heap.size _ _:=hv.apart hA1 (by simp;omega)
 have hfr:=uI (.slice A ts.length c) ts w1 (sv_strs (hk1 w1 (.refl _ _))) hl HALL.out;unfold Q7 at hfr;rw [HF.out] at hfr;have R1:=Uq (And.intro hd1 (And.intro hl1 hv1));have hgs:=hb.size;clear hO h1 hk1 hd1 hl1 hv hv1 hdW;go_wp2_with fail;refine hfr.mono ?_;rintro e w2 ⟨u,rfl,hE,hb2⟩;obtain ⟨A2,c2,rfl⟩:∃ A c,u=.slice A es.length c:=hE.form;unfold stV;obtain ⟨hd1,hl1,hv1⟩:=R1.out;have hv2:Vb w2 w.heap.size _ _:=(hb2.block _ hv1.lt).trans hv1;have hd2:=hd1.later hb2;have hl2:Lg w2 g p _:=(hb2.block _ (Vb.lt hl1)).trans hl1;have hA2:Apart [p,b] w w2:=((Apart.of_below hb _).trans hA1).trans (.of_below hb2 _);obtain ⟨W2,hW2⟩:∃ W2,w2.alloc (.cells #[.int .u64 (T:Int),.int .i64 V,.slice A2 es.length c2] 96)=W2:=⟨_,rfl⟩
 have hb3:Below w2.heap.size w2 W2:=by rw [← hW2];exact (Below.refl _ w2).alloc (Nat.le_refl _) _
 have hs3:W2.heap.size=w2.heap.size + 1:=by rw [← hW2];exact Array.size_push _
 have hv3:Vb W2 w.heap.size _ _:=(hb3.block _ hv2.lt).trans hv2
 have hx3:Vb W2 w2.heap.size [.int .u64 (T:Int),.int .i64 V,.slice A2 es.length c2] 96:=by rw [← hW2];exact Vb.new w2 _ _
 have q0:=hx3.cell 0 _ rfl;have q1:=hx3.cell 1 _ rfl;have q2:=hx3.cell 2 _ rfl;have y0:=hv3.cell 0 _ rfl;have y1:=hv3.cell 1 _ rfl;have y2:=hv3.cell 2 _ rfl;have z0:=hv3.free 0;have z1:=hv3.free 1;have z2:=hv3.free 2;have hb4:Below W2.heap.size W2 (W2.alloc (.cells #[.pointer (some ⟨g,0,none⟩)] 244)):=(Below.refl _ W2).alloc (Nat.le_refl _) _;have hv4:Vb (W2.alloc (.cells #[.pointer (some ⟨g,0,none⟩)] 244)) w.heap.size _ _:=(hb4.block _ hv3.lt).trans hv3;have v0:=hv4.cell 0 _ rfl;have v1:=hv4.cell 1 _ rfl;have v2:=hv4.cell 2 _ rfl;have f0:=hv4.free 0;have f1:=hv4.free 1;have f2:=hv4.free 2;have x0:=cell_later hb4 q0;have x1:=cell_later hb4 q1;have x2:=cell_later hb4 q2;obtain ⟨W3,hW3⟩:∃ W3,W2.alloc (.cells #[.pointer (some ⟨g,0,none⟩)] 244)=W3:=⟨_,rfl⟩
 have hst3:Vb W3 (w2.heap.size + 1) [.pointer (some ⟨g,0,none⟩)] 244:=by
  have:=Vb.new W2 [.pointer (some ⟨g,0,none⟩)] 244;rw [hs3] at this;rw [← hW3];exact this
 rw [hW3] at hb4 hv4 v0 v1 v2 f0 f1 f2 x0 x1 x2
 have hws:w.heap.size < w2.heap.size:=by have:=hv2.lt;exact this
 have hgne:g ≠ w.heap.size:=by have:W.heap.size=w.heap.size + 1:=by { rw [← hW];exact Array.size_push _ };omega
 obtain ⟨W5,hW5⟩:∃ W5,(((W3.setCell ⟨w.heap.size,0,none⟩ (.int .u64 (T:Int))).setCell ⟨w.heap.size,1,none⟩ (.int .i64 V)).setCell ⟨w.heap.size,2,none⟩ (.slice A2 es.length c2)).drew=W5:=⟨_,rfl⟩
 have hA5:Apart [w.heap.size] W3 W5:=by
  rw [← hW5];exact (((Apart.setCell W3 w.heap.size 0 _).trans (Apart.setCell _ w.heap.size 1 _)).trans (Apart.setCell _ w.heap.size 2 _)).trans (.drew _ _)
 have hx5:Vb W5 w.heap.size [.int .u64 (T:Int),.int .i64 V,.slice A2 es.length c2] 96:=by
  rw [← hW5];exact ((hv4.set 0 _).set 1 _).set 2 _
 have hd3:=(hd2.later hb3).later hb4
 have hd5:Ldk w0 W5 p b d2:=hd3.next hA5 (by have:=H.out.bel.size;simp;omega) (hd3.dk.apart hA5 (by simp;omega) (by simp;omega)) hd3.ok rfl
 have hl3:Lg W3 g p _:=(hb4.block _ (Vb.lt (show Lg W2 g p _ from (hb3.block _ (Vb.lt hl2)).trans hl2))).trans ((hb3.block _ (Vb.lt hl2)).trans hl2)
 have hl5:Lg W5 g p ⟨RAFT,ts.length,false⟩:=hl3.apart hA5 (by simpa using hgne)
 have hst5:kSt W5 (w2.heap.size + 1) g:=hst3.apart hA5 (by simp;omega)
 have hE3:EntsB 0 W3 (.slice A2 es.length c2) es:=(hE.later hb3).later hb4
 have hE5:EntsB 0 W5 (.slice A2 es.length c2) es:=hE3.apart hA5 (by
  intro x hx cur e
  obtain rfl:x=w.heap.size:=by simpa using hx
  unfold Vb at hv4;rw [hv4] at e
  injection e with e
  injection e with _ e _
  exact absurd e (by decide))
 have hA05:Apart [p,b] w W5:=(((hA2.trans (.of_below hb3 _)).trans (.of_below hb4 _))).then hA5 (by simp) (by simp)
 have R2:=Uq (And.intro hd5 (And.intro hl5 (And.intro hA05 (And.intro hE5 (And.intro hst5 hx5)))))
 have hsb:w.heap.size≤w2.heap.size + 1:=by omega
 have hgb:w.heap.size≤g:=by have:=hb.size;omega
 have HSB:=Uq hsb;have HGB:=Uq hgb;clear hx5 hd3 hd5 hl3 hl5 hst5 hE3 hE5 hA05 hA5 hst3 hgne hsb hgb;clear hfr hd1 hl1 hv1 hv2 hd2 hl2 hA2 hE hA1 hv3 hv4 hb4;go_wp2_with fail;go_region
 all_goals go_wp2
 all_goals
  obtain ⟨hd5,hl5,hA05,hE5,hst5,hx5⟩:=R2.out;refine bodyPost_ret (K3 rfl _ _ w.heap.size _ _ (0,0) _ rfl hx5 Tryz.underlying96 rfl Qh) rfl ?_;exact ⟨w2.heap.size + 1,g,.slice A2 es.length c2,rfl,hd5,hA05,HGB.out,HSB.out,hst5,hl5,hE5⟩
end
end Go.Proofs.YtppibhieabideaaGreatDoor
namespace Go.Proofs.YtppibhieabideaaGreatDoor
open Go Go.RowKit Go.ChangeShapes Go.WideShapes Go.Deep
set_option maxRecDepth 100000
structure LSt where
 T:Nat
 V:Int
 u:Value
 es:List rl.Ent
instance:Inhabited LSt:=⟨⟨0,0,.slice none 0 0,[]⟩⟩
structure StAt (w:World) (b o:Nat) (x:LSt):Prop where
 k0:w.cell? ⟨b,o,none⟩=some (.int .u64 (x.T:Int))
 k1:w.cell? ⟨b,o + 1,none⟩=some (.int .i64 x.V)
 k2:w.cell? ⟨b,o + 2,none⟩=some x.u
 ents:Ents w x.u x.es
 fine:Fine x.es
 top:x.T < 18446744073709551616
section
variable {w0 w:World} {p b g s:Nat} {d:vd.Disk} {l:wl.L}
set_option maxHeartbeats 8000000 in
theorem XC (T:Nat) (V:Int) (u:Value) (es:List rl.Ent) (hE:Ents w u es) (h1:-1≤V) (h2:V≤254) (hw:Writable T es) (h:Ldk w0 w p b d) (hs:kSt w s g) (hg:Lg w g p l) (hgb:w0.heap.size≤g)
  (hf:(crcm.flat (rl.texts T V es)).length≤1000000000) (hm:l.name.length≤200) (ht0:TabAt w0) :
  Calls Tryz.prog 154 #[.pointer (some ⟨s,0,none⟩),stV T V u] w (λe w'=>e=.returned (.int .i64 ((wl.reset d l (rl.texts T V es)).2.2:Nat))∧Ldk w0 w' p b (wl.reset d l (rl.texts T V es)).1∧Lg w' g p (wl.reset d l (rl.texts T V es)).2.1∧Apart [p,b,g] w w'):=by
 obtain ⟨A,c,rfl⟩:=hE.form;obtain ⟨W,hW⟩:∃ W,w.alloc (.cells #[.int .u64 (T:Int),.int .i64 V,.slice A es.length c] 96)=W:=⟨_,rfl⟩
 have hb:Below w.heap.size w W:=by rw [← hW];exact (Below.refl _ w).alloc (Nat.le_refl _) _
 have hv:Vb W w.heap.size [.int .u64 (T:Int),.int .i64 V,.slice A es.length c] 96:=by rw [← hW];exact Vb.new w _ _
 have q0:=hv.cell 0 _ rfl;have q1:=hv.cell 1 _ rfl;have q2:=hv.cell 2 _ rfl;have ht:=Jn T V _ es W (hE.below hb) h1 h2 hw
 have hlen:(rl.texts T V es).length=es.length + 1:=by unfold rl.texts;simp
 have R:=Uq (And.intro h (And.intro hs hg));have HL:=Uq hlen;have HW2:=Uq hw.2.1;unfold stV at *;clear hE h1 h2 hw h hs hg hlen
 go_enter Tryz.func154,Tryz.ntmps154
 go_wp2_with fail;refine ht.mono ?_;rintro e w1 ⟨v1,rfl,own1,hb1⟩;obtain ⟨h,hs,hg⟩:=R.out;have hb01:=hb.trans (hb1.mono hb.size);have hd1:=h.later hb01;have hs1:Vb w1 s _ _:=(hb01.block _ (Vb.lt hs)).trans hs;have hg1:Lg w1 g p l:=(hb01.block _ (Vb.lt hg)).trans hg;have c0:=hs1.cell 0 _ rfl;have hst:Strs w1 v1 (rl.texts T V es):=strs_sv (zo HL.out.symm own1)
 have hr:=uo v1 (rl.texts T V es) hd1 hg1 hgb hst hf (by rw [HL.out];have:=HW2.out;omega) hm ht0
 have hA:=Apart.of_below hb01 [p,b,g];clear ht h hs hg hd1 hs1 hg1 hst own1;go_wp2_with fail;refine hr.mono ?_;rintro e w2 ⟨rfl,hd2,hg2,hA2⟩;go_wp2_with fail;go_ret;exact ⟨rfl,hd2,hg2,hA.trans hA2⟩
end
end Go.Proofs.YtppibhieabideaaGreatDoor
namespace Go.Proofs.YtppibhieabideaaGreatDoor
namespace cl
open rl (Ent e0)
abbrev Log:=List Ent
def tm (l:Log) (k:Nat):Nat:=(l.getD k e0).1
def Ag (a b:Log) (k:Nat):Prop:=k≤a.length∧k≤b.length∧∀ j,j < k→a[j]?=b[j]?
theorem Ag.zero (a b:Log):Ag a b 0:=⟨Nat.zero_le _,Nat.zero_le _,λ_ h=>absurd h (Nat.not_lt_zero _)⟩
theorem Ag.refl (a:Log) {k:Nat} (h:k≤a.length):Ag a a k:=⟨h,h,λ_ _=>rfl⟩
theorem Ag.symm {a b:Log} {k:Nat} (h:Ag a b k):Ag b a k:=⟨h.2.1,h.1,λj hj=>(h.2.2 j hj).symm⟩
theorem Ag.trans {a b c:Log} {k:Nat} (h:Ag a b k) (g:Ag b c k):Ag a c k:=⟨h.1,g.2.1,λj hj=>(h.2.2 j hj).trans (g.2.2 j hj)⟩
theorem Ag.le {a b:Log} {k m:Nat} (h:Ag a b k) (hm:m≤k):Ag a b m:=⟨Nat.le_trans hm h.1,Nat.le_trans hm h.2.1,λj hj=>h.2.2 j (Nat.lt_of_lt_of_le hj hm)⟩
theorem Ag.tm {a b:Log} {k j:Nat} (h:Ag a b k) (hj:j < k):tm a j=tm b j:=by
 unfold cl.tm;rw [List.getD_eq_getElem?_getD,List.getD_eq_getElem?_getD,h.2.2 j hj]
theorem Ag.grow {a a' b:Log} {k:Nat} (h:Ag a b k) (hg:Ag a a' a.length):Ag a' b k:=(hg.le h.1).symm.trans h
theorem Ag.grow2 {a b b':Log} {k:Nat} (h:Ag a b k) (hg:Ag b b' b.length):Ag a b' k:=(h.symm.grow hg).symm
theorem kR (a b:Log):Ag a (a ++ b) a.length:=⟨Nat.le_refl _,by simp,λj hj=>by rw [List.getElem?_append_left hj]⟩
theorem xQ (a:Log) (k:Nat) (h:k≤a.length):Ag (a.take k) a k:=⟨by rw [List.length_take];omega,h,λj hj=>by rw [List.getElem?_take,if_pos hj]⟩
def maj (n:Nat) (p:Nat→Bool):Prop:=n < 2 * ((List.range n).filter p).length
theorem JX (l:List Nat) (p q:Nat→Bool) (h:∀ j ∈ l,¬ (p j=true∧q j=true)):(l.filter p).length + (l.filter q).length≤l.length:=by
 induction l with
 | nil=>simp
 | cons x r ih=>
  have ih:=ih (λj hj=>h j (List.mem_cons_of_mem _ hj))
  have hx:=h x List.mem_cons_self;simp only [List.filter_cons,List.length_cons]
  cases hp:p x <;> cases hq:q x <;> simp [hp,hq] at hx ⊢ <;> omega
theorem jj {n:Nat} {p q:Nat→Bool} (hp:maj n p) (hq:maj n q):∃ j,j < n∧p j=true∧q j=true:=by
 apply Classical.byContradiction
 intro hc
 have h:=JX (List.range n) p q (λj hj hh=>hc ⟨j,List.mem_range.1 hj,hh.1,hh.2⟩)
 unfold maj at hp hq;rw [List.length_range] at h;omega
theorem Qu {n:Nat} {p q:Nat→Bool} (hp:maj n p) (h:∀ j,j < n→p j=true→q j=true):maj n q:=by
 have key:∀ l:List Nat,(∀ j ∈ l,j < n)→(l.filter p).length≤(l.filter q).length:=by
  intro l hl
  induction l with
  | nil=>simp
  | cons x r ih=>
   have ih:=ih (λj hj=>hl j (List.mem_cons_of_mem _ hj))
   have hx:=h x (hl x List.mem_cons_self);simp only [List.filter_cons]
   cases hpx:p x <;> cases hqx:q x <;> simp [hpx,hqx] at hx ⊢ <;> omega
 have:=key (List.range n) (λj hj=>List.mem_range.1 hj)
 unfold maj at hp ⊢;omega
structure St where
 t:Nat
 v:Int
 l:Log
structure Gh where
 L:Nat→Log
 lead:Nat→Option Nat
 gr:Nat→Nat→Option Nat
 cand:Nat→Nat→Log
 ack:Nat→Nat→Nat
def Own (g:Gh) (t k:Nat):Prop:=0 < k∧k≤(g.L t).length∧tm (g.L t) (k - 1)=t
def Blocked (n:Nat) (s:Nat→St) (g:Gh) (t k:Nat):Prop:=maj n λj=>decide (t < (s j).t) && decide (g.ack t j < k)
def Chosen (n:Nat) (g:Gh) (t k:Nat):Prop:=Own g t k∧maj n λj=>decide (k≤g.ack t j)
def Fits (g:Gh) (l:Log):Prop:=∀ k,k < l.length→Ag l (g.L (tm l k)) (k + 1)
def CommitOk (n:Nat) (g:Gh) (T:Nat) (l:Log) (c:Nat):Prop:=c=0∨∃ t k,t≤T∧Chosen n g t k∧c≤k∧Ag (g.L t) l c
theorem uf {n:Nat} {s:Nat→St} {g:Gh} {t k:Nat} (h:Chosen n g t k) (b:Blocked n s g t k):False:=by
 obtain ⟨j,_,h1,h2⟩:=jj h.2 b
 simp at h1 h2
 omega
structure Core (n:Nat) (s:Nat→St) (g:Gh):Prop where
 grd:∀ {t j i:Nat},g.gr t j=some i→i < n∧j < n∧t≤(s j).t∧t≤(s i).t
 v1:∀ {j i:Nat},g.gr (s j).t j=some i→(s j).v=(i:Int)
 v2:∀ {j:Nat},j < n→(s j).v ≠ -1→∃ i:Nat,(s j).v=(i:Int)∧g.gr (s j).t j=some i
 ldd:∀ {t i:Nat},g.lead t=some i→i < n∧t≤(s i).t∧maj n λj=>decide (g.gr t j=some i)
 ldn:∀ {t:Nat},g.lead t=none→g.L t=[]
 fitL:∀ t,Fits g (g.L t)
 topL:∀ t k,k < (g.L t).length→tm (g.L t) k≤t
 fitS:∀ {j:Nat},j < n→Fits g (s j).l
 topS:∀ {j:Nat},j < n→∀ k,k < (s j).l.length→tm (s j).l k≤(s j).t
 ackd:∀ {t j:Nat},0 < g.ack t j→j < n∧t≤(s j).t
 ackl:∀ t j,g.ack t j≤(g.L t).length
 node:∀ {j t k:Nat},j < n→Own g t k→k≤g.ack t j→Ag (g.L t) (s j).l k∨Blocked n s g t k
 safe:∀ {t t' k:Nat},t < t'→g.lead t' ≠ none→Own g t k→Ag (g.L t) (g.L t') k∨Blocked n s g t k
 vote:∀ {t t' j i k:Nat},g.gr t' j=some i→t < t'→Own g t k→k≤g.ack t j→Ag (g.L t) (g.cand t' i) k∨Blocked n s g t k
 ackn:∀ {j:Nat},j < n→Ag (g.L (s j).t) (s j).l (g.ack (s j).t j)
structure Le (s:Nat→St) (g:Gh) (s':Nat→St) (g':Gh):Prop where
 t:∀ j,(s j).t≤(s' j).t
 L:∀ t,Ag (g.L t) (g'.L t) (g.L t).length
 lead:∀ {t i:Nat},g.lead t=some i→g'.lead t=some i
 gr:∀ {t j i:Nat},g.gr t j=some i→g'.gr t j=some i
 cand:∀ {t i:Nat},t≤(s i).t→g'.cand t i=g.cand t i
 ack:∀ t j,g.ack t j≤g'.ack t j
 ack':∀ t j,t < (s j).t→g'.ack t j=g.ack t j
theorem Le.refl (s:Nat→St) (g:Gh):Le s g s g:=⟨λ_=>Nat.le_refl _,λ_=>Ag.refl _ (Nat.le_refl _),id,id,λ_=>rfl,λ_ _=>Nat.le_refl _,λ_ _ _=>rfl⟩
theorem Le.trans {s1 s2 s3:Nat→St} {g1 g2 g3:Gh} (h:Le s1 g1 s2 g2) (k:Le s2 g2 s3 g3):Le s1 g1 s3 g3:=
 ⟨λj=>Nat.le_trans (h.t j) (k.t j),λt=>(h.L t).grow2 (k.L t),λx=>k.lead (h.lead x),λx=>k.gr (h.gr x),λ{_ i} x=>(k.cand (Nat.le_trans x (h.t i))).trans (h.cand x),λt j=>Nat.le_trans (h.ack t j) (k.ack t j),λt j x=>(k.ack' t j (Nat.lt_of_lt_of_le x (h.t j))).trans (h.ack' t j x)⟩
section
variable {n:Nat} {s s':Nat→St} {g g':Gh}
theorem Own.later {t k:Nat} (h:Own g t k) (hl:Le s g s' g'):Own g' t k:=by
 have hL:=hl.L t;have:=hL.2.1
 exact ⟨h.1,Nat.le_trans h.2.1 this,by rw [← hL.tm (j:=k - 1) (by have:=h.1;have:=h.2.1;omega)];exact h.2.2⟩
theorem Own.back {t k:Nat} (h:Own g' t k) (hl:Le s g s' g') (hk:k≤(g.L t).length):Own g t k:=
 ⟨h.1,hk,by rw [(hl.L t).tm (j:=k - 1) (by have:=h.1;omega)];exact h.2.2⟩
theorem Blocked.later {t k:Nat} (h:Blocked n s g t k) (hl:Le s g s' g'):Blocked n s' g' t k:=by
 refine Qu h λj _ hj=>?_
 simp at hj ⊢
 have:=hl.t j;rw [hl.ack' t j hj.1];omega
theorem Chosen.later {t k:Nat} (h:Chosen n g t k) (hl:Le s g s' g'):Chosen n g' t k:=by
 refine ⟨h.1.later hl,Qu h.2 λj _ hj=>?_⟩
 simp at hj ⊢
 exact Nat.le_trans hj (hl.ack t j)
theorem Fits.later {l:Log} (h:Fits g l) (hl:Le s g s' g'):Fits g' l:=λk hk=>(h k hk).grow2 (hl.L _)
theorem CommitOk.later {T T' c:Nat} {l l':Log} (h:CommitOk n g T l c) (hl:Le s g s' g') (hT:T≤T') (hc:Ag l l' c):CommitOk n g' T' l' c:=by
 rcases h with h | ⟨t,k,h1,h2,h3,h4⟩
 ·exact .inl h
 ·exact .inr ⟨t,k,Nat.le_trans h1 hT,h2.later hl,h3,(h4.trans hc).grow (hl.L t)⟩
theorem kG {a b:Log} {k:Nat} (ha:Fits g a) (hb:Fits g b) (h1:k < a.length) (h2:k < b.length) (h:tm a k=tm b k):Ag a b (k + 1):=by
 have x:=ha k h1;have y:=hb k h2;rw [h] at x;exact x.trans y.symm
theorem kH (C:Core n s g) {a:Log} (ha:Fits g a) {j k:Nat} (hj:j≤k) (hk:k < a.length):tm a j≤tm a k:=by
 have x:=ha k hk
 rw [x.tm (j:=j) (by omega)]
 exact C.topL _ j (by have:=x.2.1;omega)
theorem XT (C:Core n s g) {a:Log} (ha:Fits g a) {k:Nat} (hk:k < a.length):g.lead (tm a k) ≠ none:=by
 intro h;have x:=(ha k hk).2.1;rw [C.ldn h] at x
 simp at x
theorem XJ (C:Core n s g) {a c:Log} {t k:Nat} (ha:Fits g a) (hc:Fits g c) (ho:Own g t k) (h:Ag (g.L t) a k) (hn:rl.newer a (rl.lastTerm c) c.length=true):Ag (g.L t) c k∨Blocked n s g t k:=by
 have hk0:=ho.1;have hka:=h.2.1
 have ht:tm a (k - 1)=t:=by rw [← h.tm (j:=k - 1) (by omega)];exact ho.2.2
 have hla:rl.lastTerm a=tm a (a.length - 1):=by unfold rl.lastTerm tm;rw [if_neg (by omega)]
 have hge:t≤tm a (a.length - 1):=by rw [← ht];exact kH C ha (by omega) (by omega)
 unfold rl.newer at hn;simp only [Bool.or_eq_true,Bool.and_eq_true,decide_eq_true_eq] at hn;rw [hla] at hn
 have hc0:c.length ≠ 0:=by
  intro h0
  have e:rl.lastTerm c=0:=by unfold rl.lastTerm;rw [if_pos h0]
  rw [e,h0] at hn;omega
 have hlc:rl.lastTerm c=tm c (c.length - 1):=by unfold rl.lastTerm tm;rw [if_neg hc0]
 rw [hlc] at hn
 by_cases heq:tm c (c.length - 1)=tm a (a.length - 1)
 ·have hlen:a.length≤c.length:=by omega
  have x:=ha (a.length - 1) (by omega)
  have y:=hc (c.length - 1) (by omega)
  rw [heq] at y
  rw [show a.length - 1 + 1=a.length by omega] at x
  exact .inl (h.trans ((x.trans (y.symm.le (by omega))).le hka))
 ·have hlt:t < tm c (c.length - 1):=by omega
  rcases C.safe hlt (XT C hc (by omega)) ho with h1 | h1
  ·have y:=hc (c.length - 1) (by omega)
   refine .inl ?_
   have hkc:k≤c.length:=by
    apply Classical.byContradiction
    intro hgt;have z:=y.2.1;have hkL:=h1.2.1
    have e1:tm (g.L (tm c (c.length - 1))) (c.length - 1)=tm c (c.length - 1):=(y.tm (j:=c.length - 1) (by omega)).symm
    have e2:tm (g.L (tm c (c.length - 1))) (k - 1)=t:=by rw [← h1.tm (j:=k - 1) (by omega)];exact ho.2.2
    have e3:=kH C (C.fitL (tm c (c.length - 1))) (j:=c.length - 1) (k:=k - 1) (by omega) (by omega)
    omega
   exact h1.trans (y.symm.le (by omega))
  ·exact .inr h1
end
end cl
namespace cl
open rl (Ent e0)
def upd {α:Type} (f:Nat→α) (i:Nat) (x:α):Nat→α:=λj=>if j=i then x else f j
theorem upd_same {α:Type} (f:Nat→α) (i:Nat) (x:α):upd f i x i=x:=if_pos rfl
theorem upd_other {α:Type} (f:Nat→α) (x:α) {i j:Nat} (h:j ≠ i):upd f i x j=f j:=if_neg h
section
variable {n:Nat} {s:Nat→St} {g g':Gh}
structure Turn (n:Nat) (s:Nat→St) (g:Gh) (i:Nat) (x:St) (g':Gh):Prop where
 hi:i < n
 le:Le s g (upd s i x) g'
 gr:∀ t j,t ≠ x.t∨j ≠ i→g'.gr t j=g.gr t j
 ack:∀ t j,t ≠ x.t∨j ≠ i→g'.ack t j=g.ack t j
 L:∀ t,t ≠ x.t→g'.L t=g.L t
 lead:∀ t,t ≠ x.t→g'.lead t=g.lead t
 n1:∀ {c:Nat},g'.gr x.t i=some c→c < n∧x.t≤(upd s i x c).t∧x.v=(c:Int)
 n2:x.v ≠ -1→∃ c:Nat,x.v=(c:Int)∧g'.gr x.t i=some c
 ld:∀ {c:Nat},g'.lead x.t=some c→c < n∧x.t≤(upd s i x c).t∧maj n λj=>decide (g'.gr x.t j=some c)
 ldn:g'.lead x.t=none→g'.L x.t=[]
 fitL:Fits g' (g'.L x.t)
 topL:∀ k,k < (g'.L x.t).length→tm (g'.L x.t) k≤x.t
 fitS:Fits g' x.l
 topS:∀ k,k < x.l.length→tm x.l k≤x.t
 ackl:g'.ack x.t i≤(g'.L x.t).length
 safe:∀ {t k:Nat},t < x.t→g'.lead x.t ≠ none→Own g t k→Ag (g.L t) (g'.L x.t) k∨Blocked n (upd s i x) g' t k
 node:∀ {t k:Nat},Own g' t k→k≤g'.ack t i→Ag (g'.L t) x.l k∨Blocked n (upd s i x) g' t k
 vote:∀ {t k c:Nat},g'.gr x.t i=some c→t < x.t→Own g t k→k≤g.ack t i→Ag (g.L t) (g'.cand x.t c) k∨Blocked n (upd s i x) g' t k
 ackn:Ag (g'.L x.t) x.l (g'.ack x.t i)
theorem qG {t k:Nat} {b b':Log} {s':Nat→St} (h:Ag (g.L t) b k∨Blocked n s g t k) (hl:Le s g s' g') (hb:Ag b b' b.length):Ag (g'.L t) b' k∨Blocked n s' g' t k:=by
 rcases h with h | h
 ·exact .inl ((h.grow2 hb).grow (hl.L t))
 ·exact .inr (h.later hl)
theorem Turn.core {i:Nat} {x:St} (h:Turn n s g i x g') (C:Core n s g):Core n (upd s i x) g':=by
 have hT:(s i).t≤x.t:=by have:=h.le.t i;rwa [upd_same] at this
 have tt:∀ j,(s j).t≤(upd s i x j).t:=h.le.t
 have keepL:∀ t,t ≠ x.t→∀ k,Own g' t k→Own g t k:=λt ht k ho=>by
  have e:=h.L t ht
  exact ⟨ho.1,by rw [← e];exact ho.2.1,by rw [← e];exact ho.2.2⟩
 refine ⟨?_,?_,?_,?_,?_,?_,?_,?_,?_,?_,?_,?_,?_,?_,?_⟩
 ·intro t j c hg
  by_cases he:t=x.t∧j=i
  ·obtain ⟨rfl,rfl⟩:=he;obtain ⟨h1,h2,_⟩:=h.n1 hg
   exact ⟨h1,h.hi,by rw [upd_same];exact Nat.le_refl _,h2⟩
  ·rw [h.gr t j (by omega)] at hg
   obtain ⟨h1,h2,h3,h4⟩:=C.grd hg;exact ⟨h1,h2,Nat.le_trans h3 (tt j),Nat.le_trans h4 (tt c)⟩
 ·intro j c hg
  by_cases hj:j=i
  ·subst hj;rw [upd_same] at hg ⊢;exact (h.n1 hg).2.2
  ·rw [upd_other _ _ hj] at hg ⊢;rw [h.gr _ j (.inr hj)] at hg;exact C.v1 hg
 ·intro j hjn hv
  by_cases hj:j=i
  ·subst hj;rw [upd_same] at hv ⊢;exact h.n2 hv
  ·rw [upd_other _ _ hj] at hv ⊢;obtain ⟨c,h1,h2⟩:=C.v2 hjn hv
   exact ⟨c,h1,by rw [h.gr _ j (.inr hj)];exact h2⟩
 ·intro t c hl
  by_cases ht:t=x.t
  ·subst ht;exact h.ld hl
  ·rw [h.lead t ht] at hl;obtain ⟨h1,h2,h3⟩:=C.ldd hl
   refine ⟨h1,Nat.le_trans h2 (tt c),Qu h3 λj _ hj=>?_⟩
   simp only [decide_eq_true_eq] at hj ⊢;exact h.le.gr hj
 ·intro t hl
  by_cases ht:t=x.t
  ·subst ht;exact h.ldn hl
  ·rw [h.lead t ht] at hl;rw [h.L t ht];exact C.ldn hl
 ·intro t
  by_cases ht:t=x.t
  ·subst ht;exact h.fitL
  ·rw [h.L t ht];exact (C.fitL t).later h.le
 ·intro t
  by_cases ht:t=x.t
  ·subst ht;exact h.topL
  ·rw [h.L t ht];exact C.topL t
 ·intro j hjn
  by_cases hj:j=i
  ·subst hj;rw [upd_same];exact h.fitS
  ·rw [upd_other _ _ hj];exact (C.fitS hjn).later h.le
 ·intro j hjn
  by_cases hj:j=i
  ·subst hj;rw [upd_same];exact h.topS
  ·rw [upd_other _ _ hj];exact C.topS hjn
 ·intro t j ha
  by_cases he:t=x.t∧j=i
  ·obtain ⟨rfl,rfl⟩:=he
   exact ⟨h.hi,by rw [upd_same];exact Nat.le_refl _⟩
  ·rw [h.ack t j (by omega)] at ha
   exact ⟨(C.ackd ha).1,Nat.le_trans (C.ackd ha).2 (tt j)⟩
 ·intro t j
  by_cases he:t=x.t∧j=i
  ·obtain ⟨rfl,rfl⟩:=he;exact h.ackl
  ·rw [h.ack t j (by omega)]
   exact Nat.le_trans (C.ackl t j) (h.le.L t).2.1
 ·intro j t k hjn ho hk
  by_cases hj:j=i
  ·subst hj;rw [upd_same];exact h.node ho hk
  ·rw [upd_other _ _ hj];rw [h.ack t j (.inr hj)] at hk;have ho2:=ho.back h.le (Nat.le_trans hk (C.ackl t j));exact qG (C.node hjn ho2 hk) h.le (Ag.refl _ (Nat.le_refl _))
 ·intro t t' k htt hl ho
  by_cases ht:t=x.t
  ·by_cases hk:k≤(g.L t).length
   ·have ho2:=ho.back h.le hk
    have hne:t' ≠ x.t:=by omega
    rw [h.lead t' hne] at hl;rw [h.L t' hne];exact qG (C.safe htt hl ho2) h.le (Ag.refl _ (Nat.le_refl _))
   ·right
    have hne:t' ≠ x.t:=by omega
    rw [h.lead t' hne] at hl;obtain ⟨c,hc⟩:=Option.ne_none_iff_exists'.1 hl
    refine Qu (C.ldd hc).2.2 λj hj hg=>?_
    simp only [decide_eq_true_eq,Bool.and_eq_true] at hg ⊢;have hgr:=(C.grd hg).2.2.1
    have hji:j ≠ i:=by
     rintro rfl;omega
    rw [h.ack t j (.inr hji)];have:=tt j;have:=C.ackl t j;omega
  ·have ho2:=keepL t ht k ho
   by_cases ht':t'=x.t
   ·subst ht';rw [h.L t ht];exact h.safe htt hl ho2
   ·rw [h.lead t' ht'] at hl;rw [h.L t' ht'];exact qG (C.safe htt hl ho2) h.le (Ag.refl _ (Nat.le_refl _))
 ·intro t t' j c k hg htt ho hk
  by_cases he:t'=x.t∧j=i
  ·obtain ⟨rfl,rfl⟩:=he
   have hne:t ≠ x.t:=by omega
   rw [h.ack t j (.inl hne)] at hk;rw [h.L t hne];exact h.vote hg htt (keepL t hne k ho) hk
  ·rw [h.gr t' j (by omega)] at hg
   have hd:=C.grd hg
   have hne:t ≠ x.t∨j ≠ i:=by
    by_cases hji:j=i
    ·subst hji
     left
     omega
    ·exact .inr hji
   rw [h.ack t j hne] at hk;have ho2:=ho.back h.le (Nat.le_trans hk (C.ackl t j));rw [h.le.cand hd.2.2.2];exact qG (C.vote hg htt ho2 hk) h.le (Ag.refl _ (Nat.le_refl _))
 ·intro j hjn
  by_cases hj:j=i
  ·subst hj;rw [upd_same];exact h.ackn
  ·rw [upd_other _ _ hj,h.ack _ j (.inr hj)];exact (C.ackn hjn).grow (h.le.L _)
end
end cl
namespace cl
open rl (Ent e0)
def upd2 {α:Type} (f:Nat→Nat→α) (t i:Nat) (x:α):Nat→Nat→α:=λt' i'=>if t'=t∧i'=i then x else f t' i'
theorem qC {α:Type} (f:Nat→Nat→α) (t i:Nat) (x:α):upd2 f t i x t i=x:=if_pos ⟨rfl,rfl⟩
theorem Qg {α:Type} (f:Nat→Nat→α) (x:α) {t i t' i':Nat} (h:t' ≠ t∨i' ≠ i):upd2 f t i x t' i'=f t' i':=if_neg (by omega)
section
variable {n:Nat} {s:Nat→St} {g:Gh}
theorem ZV {i:Nat} {x:St} (h:(s i).t≤x.t):∀ j,(s j).t≤(upd s i x j).t:=λj=>by
 by_cases hj:j=i
 ·subst hj;rw [upd_same];exact h
 ·rw [upd_other _ _ hj];exact Nat.le_refl _
theorem le_gr {i T c:Nat} {x:St} (h:(s i).t≤x.t) (h0:g.gr T i=none∨g.gr T i=some c):Le s g (upd s i x) { g with gr:=upd2 g.gr T i (some c) }:=
 ⟨ZV h,λ_=>Ag.refl _ (Nat.le_refl _),id,λ{t j k} hk=>by
  by_cases he:t=T∧j=i
  ·obtain ⟨rfl,rfl⟩:=he
   show upd2 g.gr t j (some c) t j=some k
   rw [qC]
   rcases h0 with h0 | h0 <;> rw [h0] at hk
   ·cases hk
   ·exact hk
  ·show upd2 g.gr T i (some c) t j=some k
   rw [Qg _ _ (by omega)];exact hk,λ_=>rfl,λ_ _=>Nat.le_refl _,λ_ _ _=>rfl⟩
theorem jT (C:Core n s g) {i T:Nat} (h:(s i).t < T) {l:Log}:Ag (g.L T) l (g.ack T i):=by
 have h0:g.ack T i=0:=by
  apply Classical.byContradiction
  intro hc
  have:=(C.ackd (t:=T) (j:=i) (by omega)).2
  omega
 rw [h0];exact Ag.zero _ _
theorem Xh (C:Core n s g) {i:Nat} (hi:i < n) {T:Nat} (h:(s i).t < T):Turn n s g i ⟨T,-1,(s i).l⟩ g:=by
 have hn:∀ c,g.gr T i ≠ some c:=λc hc=>by have:=(C.grd hc).2.2.1;omega
 have le:Le s g (upd s i ⟨T,-1,(s i).l⟩) g:=⟨ZV (Nat.le_of_lt h),λ_=>Ag.refl _ (Nat.le_refl _),id,id,λ_=>rfl,λ_ _=>Nat.le_refl _,λ_ _ _=>rfl⟩
 refine ⟨hi,le,λ_ _ _=>rfl,λ_ _ _=>rfl,λ_ _=>rfl,λ_ _=>rfl,λ{c} hc=>absurd hc (hn c),λhv=>absurd rfl hv,λ{c} hc=>?_,C.ldn,C.fitL T,C.topL T,C.fitS hi,λk hk=>Nat.le_trans (C.topS hi k hk) (Nat.le_of_lt h),C.ackl T i,λht hl ho=>qG (C.safe ht hl ho) le (Ag.refl _ (Nat.le_refl _)),λho hk=>qG (C.node hi ho hk) le (Ag.refl _ (Nat.le_refl _)),λ{t k c} hc=>absurd hc (hn c),jT C h⟩
 obtain ⟨h1,h2,h3⟩:=C.ldd hc;exact ⟨h1,Nat.le_trans h2 (ZV (Nat.le_of_lt h) c),h3⟩
theorem Ji (C:Core n s g) {i c:Nat} (hi:i < n) (hc:c < n) (ht:(s i).t≤(s c).t) (hv:(s i).v = -1∨(s i).v=(c:Int)) (hf:Fits g (g.cand (s i).t c)) (hn:rl.newer (s i).l (rl.lastTerm (g.cand (s i).t c)) (g.cand (s i).t c).length=true) :
  Turn n s g i ⟨(s i).t,c,(s i).l⟩ { g with gr:=upd2 g.gr (s i).t i (some c) }:=by
 have h0:g.gr (s i).t i=none∨g.gr (s i).t i=some c:=by
  cases e:g.gr (s i).t i with
  | none=>exact .inl rfl
  | some b=>
   have:=C.v1 e
   right
   congr 1
   omega
 have le:=le_gr (x:=⟨(s i).t,c,(s i).l⟩) (Nat.le_refl _) h0
 refine ⟨hi,le,λt j h=>Qg _ _ h,λ_ _ _=>rfl,λ_ _=>rfl,λ_ _=>rfl,λ{b} hb=>?_,λ_=>⟨c,rfl,qC _ _ _ _⟩,λ{b} hb=>?_,C.ldn,(C.fitL _).later le,C.topL _,(C.fitS hi).later le,C.topS hi,C.ackl _ i,λht hl ho=>by have h:=qG (C.safe ht hl ho) le (Ag.refl _ (Nat.le_refl _));exact h,λ{t k} ho hk=>?_,λ{t k b} hb htt ho hk=>?_,C.ackn hi⟩
 ·have e:some c=some b:=(qC g.gr (s i).t i (some c)).symm.trans hb
  injection e with e
  subst e;exact ⟨hc,Nat.le_trans ht (le.t c),rfl⟩
 ·obtain ⟨h1,h2,h3⟩:=C.ldd hb
  refine ⟨h1,Nat.le_trans h2 (le.t b),Qu h3 λj _ hj=>?_⟩
  simp only [decide_eq_true_eq] at hj ⊢;exact le.gr hj
 ·exact qG (C.node hi (ho.back le (Nat.le_trans hk (C.ackl t i))) hk) le (Ag.refl _ (Nat.le_refl _))
 ·have e:some c=some b:=(qC g.gr (s i).t i (some c)).symm.trans hb
  injection e with e
  subst e
  have hh:Ag (g.L t) (g.cand (s i).t c) k∨Blocked n s g t k:=by
   rcases C.node hi ho hk with h1 | h1
   ·exact XJ C (C.fitS hi) hf ho h1 hn
   ·exact .inr h1
  have h:=qG hh le (Ag.refl _ (Nat.le_refl _));exact h
theorem Jh (C:Core n s g) {i:Nat} (hi:i < n):Turn n s g i ⟨(s i).t + 1,i,(s i).l⟩ { g with gr:=upd2 g.gr ((s i).t + 1) i (some i),cand:=upd2 g.cand ((s i).t + 1) i (s i).l }:=by
 have hn:g.gr ((s i).t + 1) i=none:=by
  cases e:g.gr ((s i).t + 1) i with
  | none=>rfl
  | some b=>have:=(C.grd e).2.2.1;omega
 have h1:=le_gr (s:=s) (g:=g) (x:=⟨(s i).t + 1,i,(s i).l⟩) (c:=i) (Nat.le_succ _) (.inl hn)
 have le:Le s g (upd s i ⟨(s i).t + 1,i,(s i).l⟩) { g with gr:=upd2 g.gr ((s i).t + 1) i (some i),cand:=upd2 g.cand ((s i).t + 1) i (s i).l }:=
  ⟨h1.t,h1.L,id,h1.gr,λ{t j} h=>Qg _ _ (by
   by_cases hj:j=i
   ·subst hj;left;omega
   ·exact .inr hj),h1.ack,h1.ack'⟩
 refine ⟨hi,le,λt j h=>Qg _ _ h,λ_ _ _=>rfl,λ_ _=>rfl,λ_ _=>rfl,λ{b} hb=>?_,λ_=>⟨i,rfl,qC _ _ _ _⟩,λ{b} hb=>?_,C.ldn,(C.fitL _).later le,C.topL _,(C.fitS hi).later le,λk hk=>Nat.le_trans (C.topS hi k hk) (Nat.le_succ _),C.ackl _ i,λht hl ho=>by have h:=qG (C.safe ht hl ho) le (Ag.refl _ (Nat.le_refl _));exact h,λ{t k} ho hk=>?_,λ{t k b} hb htt ho hk=>?_,jT C (Nat.lt_succ_self _)⟩
 ·have e:some i=some b:=(qC g.gr ((s i).t + 1) i (some i)).symm.trans hb
  injection e with e
  subst e
  exact ⟨hi,by rw [upd_same];exact Nat.le_refl _,rfl⟩
 ·obtain ⟨h1,h2,h3⟩:=C.ldd hb
  refine ⟨h1,Nat.le_trans h2 (le.t b),Qu h3 λj _ hj=>?_⟩
  simp only [decide_eq_true_eq] at hj ⊢;exact le.gr hj
 ·exact qG (C.node hi (ho.back le (Nat.le_trans hk (C.ackl t i))) hk) le (Ag.refl _ (Nat.le_refl _))
 ·have e:some i=some b:=(qC g.gr ((s i).t + 1) i (some i)).symm.trans hb
  injection e with e
  subst e
  have hh:Ag (g.L t) (upd2 g.cand ((s i).t + 1) i (s i).l ((s i).t + 1) i) k∨Blocked n s g t k:=by
   rw [qC];exact C.node hi ho hk
  have h:=qG hh le (Ag.refl _ (Nat.le_refl _));exact h
theorem ZC {l:Log} {e:Ent} {k:Nat} (h:k < l.length):tm (l ++ [e]) k=tm l k:=by
 unfold tm;rw [List.getD_eq_getElem?_getD,List.getElem?_append_left h,← List.getD_eq_getElem?_getD]
theorem Zd {l:Log} {e:Ent}:tm (l ++ [e]) l.length=e.1:=by
 unfold tm;rw [List.getD_eq_getElem?_getD,List.getElem?_append_right (Nat.le_refl _)]
 simp
def more (g:Gh) (i T:Nat) (l:Log):Gh:={ g with L:=upd g.L T l,lead:=upd g.lead T (some i),ack:=upd2 g.ack T i l.length }
theorem Xg (C:Core n s g) {i:Nat} (hi:i < n) (text:List UInt8) (hL:(g.lead (s i).t=none∧g.cand (s i).t i=(s i).l∧maj n (λj=>decide (g.gr (s i).t j=some i)))∨(g.lead (s i).t=some i∧g.L (s i).t=(s i).l)) :
  Turn n s g i ⟨(s i).t,(s i).v,(s i).l ++ [((s i).t,text)]⟩ (more g i (s i).t ((s i).l ++ [((s i).t,text)])):=by
 obtain ⟨T,hT⟩:∃ T,(s i).t=T:=⟨_,rfl⟩;obtain ⟨l,hl⟩:∃ l,(s i).l=l:=⟨_,rfl⟩;rw [hT,hl] at hL ⊢;obtain ⟨l',hl'⟩:∃ x,l ++ [(T,text)]=x:=⟨_,rfl⟩
 have hlen:l'.length=l.length + 1:=by rw [← hl'];simp
 have hAg:Ag l l' l.length:=by rw [← hl'];exact kR _ _
 have hfl:Fits g l:=by rw [← hl];exact C.fitS hi
 have htl:∀ k,k < l.length→tm l k≤T:=by rw [← hl,← hT];exact C.topS hi
 have hold:Ag (g.L T) l (g.L T).length:=by
  rcases hL with ⟨h1,_⟩ | ⟨_,h2⟩
  ·rw [C.ldn h1];exact Ag.zero _ _
  ·rw [h2];exact Ag.refl _ (Nat.le_refl _)
 rw [hl'];have e1:(more g i T l').L T=l':=upd_same _ _ _
 have e2:∀ t,t ≠ T→(more g i T l').L t=g.L t:=λt h=>upd_other _ _ h
 have e3:(more g i T l').lead T=some i:=upd_same _ _ _
 have e4:∀ t,t ≠ T→(more g i T l').lead t=g.lead t:=λt h=>upd_other _ _ h
 have e5:(more g i T l').ack T i=l'.length:=qC _ _ _ _
 have e6:∀ t j,t ≠ T∨j ≠ i→(more g i T l').ack t j=g.ack t j:=λt j h=>Qg _ _ h
 have hle:(s i).t≤(⟨T,(s i).v,l'⟩:St).t:=Nat.le_of_eq hT
 have le:Le s g (upd s i ⟨T,(s i).v,l'⟩) (more g i T l'):=by
  refine ⟨ZV hle,λt=>?_,λ{t c} h=>?_,id,λ_=>rfl,λt j=>?_,λt j h=>?_⟩
  ·by_cases ht:t=T
   ·subst ht;rw [e1];exact hold.trans (hAg.le hold.2.1)
   ·rw [e2 t ht];exact Ag.refl _ (Nat.le_refl _)
  ·by_cases ht:t=T
   ·subst ht;rw [e3]
    rcases hL with ⟨h1,_⟩ | ⟨h1,_⟩ <;> rw [h1] at h
    ·cases h
    ·exact h
   ·rw [e4 t ht];exact h
  ·by_cases he:t=T∧j=i
   ·obtain ⟨rfl,rfl⟩:=he;rw [e5];have:=C.ackl t j;have:=hold.2.1;omega
   ·rw [e6 t j (by omega)]
    exact Nat.le_refl _
  ·refine e6 t j ?_
   by_cases hj:j=i
   ·subst hj
    left
    omega
   ·exact .inr hj
 have hfit:Fits (more g i T l') l':=by
  intro k hk
  by_cases hkl:k < l.length
  ·have h1:=hfl k hkl
   have h2:tm l' k=tm l k:=by rw [← hl'];exact ZC hkl
   rw [h2]
   by_cases ht:tm l k=T
   ·rw [ht,e1]
    exact Ag.refl _ (by omega)
   ·rw [e2 _ ht]
    exact (hAg.symm.le (by omega)).trans h1
  ·have hk2:k=l.length:=by omega
   have h2:tm l' k=T:=by rw [← hl',hk2];exact Zd
   rw [h2,e1]
   exact Ag.refl _ (by omega)
 have htop:∀ k,k < l'.length→tm l' k≤T:=by
  intro k hk
  by_cases hkl:k < l.length
  ·rw [← hl',ZC hkl];exact htl k hkl
  ·have hk2:k=l.length:=by omega
   rw [← hl',hk2,Zd];exact Nat.le_refl _
 refine ⟨hi,le,λ_ _ _=>rfl,e6,e2,e4,λ{c} hc=>?_,λhv=>?_,λ{c} hc=>?_,λh=>?_,?_,?_,hfit,htop,?_,λ{t k} ht hl2 ho=>?_,λ{t k} ho hk=>?_,λ{t k c} hc htt ho hk=>?_,?_⟩
 ·have hc2:g.gr (s i).t i=some c:=by rw [hT];exact hc
  obtain ⟨h1,_,_,h4⟩:=C.grd hc2
  exact ⟨h1,Nat.le_trans (by rw [← hT];exact h4) (le.t c),C.v1 hc2⟩
 ·obtain ⟨c,h1,h2⟩:=C.v2 hi hv
  exact ⟨c,h1,by rw [← hT];exact h2⟩
 ·have e:some i=some c:=e3.symm.trans hc
  injection e with e
  subst e
  refine ⟨hi,by rw [upd_same];exact Nat.le_refl _,?_⟩
  rcases hL with ⟨_,_,h3⟩ | ⟨h1,_⟩
  ·exact h3
  ·exact (C.ldd h1).2.2
 ·exact absurd (e3.symm.trans h) (by simp)
 ·show Fits _ ((more g i T l').L T)
  rw [e1];exact hfit
 ·show ∀ k,k < ((more g i T l').L T).length→_
  rw [e1];exact htop
 ·show (more g i T l').ack T i≤((more g i T l').L T).length
  rw [e1,e5];exact Nat.le_refl _
 ·show Ag _ ((more g i T l').L T) k∨_
  have ht':t < T:=ht;rw [e1]
  rcases hL with ⟨h1,h2,h3⟩ | ⟨h1,h2⟩
  ·by_cases hx:∃ j,j < n∧g.gr T j=some i∧k≤g.ack t j
   ·obtain ⟨j,_,hj1,hj2⟩:=hx
    rcases C.vote hj1 ht' ho hj2 with h4 | h4
    ·rw [h2] at h4;exact .inl (h4.grow2 hAg)
    ·exact .inr (h4.later le)
   ·right
    refine Qu h3 λj hjn hj=>?_
    simp only [decide_eq_true_eq,Bool.and_eq_true] at hj ⊢;have hb:=(C.grd hj).2.2.1;have hu:=ZV hle j
    rw [e6 t j (.inl (by omega))]
    have hna:¬ k≤g.ack t j:=λhh=>hx ⟨j,hjn,hj,hh⟩
    omega
  ·rcases C.safe ht' (by rw [h1];simp) ho with h4 | h4
   ·rw [h2] at h4;exact .inl (h4.grow2 hAg)
   ·exact .inr (h4.later le)
 ·by_cases ht:t=T
  ·subst ht;rw [e1]
   exact .inl (Ag.refl _ (by have h:=ho.2.1;rw [e1] at h;exact h))
  ·rw [e6 t i (.inl ht)] at hk;have ho2:=ho.back le (Nat.le_trans hk (C.ackl t i));have:=C.node hi ho2 hk;rw [hl] at this;exact qG this le hAg
 ·have ht':t < T:=htt;have h:=qG (C.vote (t':=T) (j:=i) (i:=c) hc ht' ho hk) le (Ag.refl _ (Nat.le_refl _))
  rw [e2 t (by omega)] at h
  exact h
 ·show Ag ((more g i T l').L T) l' ((more g i T l').ack T i)
  rw [e1,e5];exact Ag.refl _ (Nat.le_refl _)
end
end cl
namespace cl
open rl (Ent e0)
section
variable {n:Nat} {s:Nat→St} {g:Gh}
theorem vk {a:Log} (h:Fits g a) (k:Nat):Fits g (a.take k):=by
 intro j hj;rw [List.length_take] at hj
 have ht:tm (a.take k) j=tm a j:=by
  unfold tm
  rw [List.getD_eq_getElem?_getD,List.getElem?_take,if_pos (by omega),← List.getD_eq_getElem?_getD]
 rw [ht]
 have h1:=h j (by omega)
 refine Ag.trans ?_ h1;have h2:=xQ a (min k a.length) (Nat.min_le_right _ _)
 have h3:a.take (min k a.length)=a.take k:=by rw [← List.take_eq_take_min]
 rw [h3] at h2
 exact h2.le (by omega)
def Slice (a:Log) (p:Nat) (e:Log):Prop:=p + e.length≤a.length∧∀ j,j < e.length→e[j]?=a[p + j]?
theorem zg {l:Log} {p:Nat} (h0:p ≠ 0) (h:p≤l.length):rl.termAt l p=(tm l (p - 1),true):=by
 unfold rl.termAt
 rw [if_neg h0,if_neg (by omega)]
 rfl
structure Took (g:Gh) (l a:Log) (p:Nat) (e:Log) (l':Log):Prop where
 ag:Ag l' a (p + e.length)
 keep:∀ (b:Log) (k:Nat),Ag b l k→Ag b a k→Ag b l' k
 fits:Fits g l'
 top:∀ T,(∀ k,k < l.length→tm l k≤T)→(∀ k,k < a.length→tm a k≤T)→∀ k,k < l'.length→tm l' k≤T
theorem JH {l a e:Log} {p pt:Nat} (hl:Fits g l) (ha:Fits g a) (hs:Slice a p e) (h1:rl.termAt l p=(pt,true)) (h2:pt=(rl.termAt a p).1):Took g l a p e (rl.match_ l p pt e).1∧(rl.match_ l p pt e).2=(p + e.length,0):=by
 have hpa:p≤a.length:=by have:=hs.1;omega
 have hpl:p≤l.length:=by
  unfold rl.termAt at h1
  by_cases h0:p=0
  ·omega
  ·rw [if_neg h0] at h1
   by_cases hh:l.length < p
   ·rw [if_pos hh] at h1;simp at h1
   ·omega
 have hag:Ag l a p:=by
  by_cases h0:p=0
  ·rw [h0];exact Ag.zero _ _
  ·rw [zg h0 hpl] at h1;rw [zg h0 hpa] at h2
   have e1:tm l (p - 1)=pt:=by injection h1
   have h3:=kG hl ha (k:=p - 1) (by omega) (by omega) (by rw [e1,h2])
   rwa [show p - 1 + 1=p by omega] at h3
 obtain ⟨q,hq⟩:∃ q,rl.common (l.drop p) e=q:=⟨_,rfl⟩
 have q1:q≤l.length - p:=by rw [← hq,← List.length_drop];exact rl.common_le1 _ _
 have q2:q≤e.length:=by rw [← hq];exact rl.common_le2 _ _
 have hdrop:∀ j,tm l (p + j)=((l.drop p).getD j e0).1:=λj=>by
  unfold tm;rw [List.getD_eq_getElem?_getD,List.getD_eq_getElem?_getD,List.getElem?_drop]
 have hent:∀ j,j < e.length→tm a (p + j)=(e.getD j e0).1:=λj hj=>by
  unfold tm;rw [List.getD_eq_getElem?_getD,List.getD_eq_getElem?_getD,hs.2 j hj]
 have hagq:Ag l a (p + q):=by
  by_cases h0:q=0
  ·rw [h0];exact hag
  ·have e1:=rl.common_spec (l.drop p) e (q - 1) (by omega)
   have e2:=hdrop (q - 1)
   have e3:=hent (q - 1) (by omega)
   have h3:=kG hl ha (k:=p + (q - 1)) (by omega) (by have:=hs.1;omega) (by rw [e2,e3,e1])
   rwa [show p + (q - 1) + 1=p + q by omega] at h3
 unfold rl.match_;rw [if_pos h1,hq]
 by_cases hlt:q < e.length
 ·rw [if_pos hlt]
  have hl':l.take (p + q) ++ e.drop q=a.take (p + e.length):=by
   apply List.ext_getElem?
   intro j
   have hlen:(l.take (p + q)).length=p + q:=by rw [List.length_take];omega
   by_cases hj:j < p + q
   ·rw [List.getElem?_append_left (by omega),List.getElem?_take,if_pos hj,List.getElem?_take,if_pos (by omega)]
    exact hagq.2.2 j hj
   ·rw [List.getElem?_append_right (by omega),hlen,List.getElem?_drop,List.getElem?_take]
    by_cases hj2:j < p + e.length
    ·rw [if_pos hj2,show q + (j - (p + q))=j - p by omega,hs.2 (j - p) (by omega),show p + (j - p)=j by omega]
    ·rw [if_neg hj2,List.getElem?_eq_none (by omega)]
  dsimp only;rw [hl'];have hat:=xQ a (p + e.length) hs.1
  refine ⟨⟨hat,λb k hb1 hb2=>?_,vk ha _,λT _ h k hk=>by
   have h2:=hat.tm (j:=k) (by rw [List.length_take] at hk;omega)
   rw [h2]
   exact h k (by rw [List.length_take] at hk;omega)⟩,rfl⟩
  have hk:k≤p + q:=by
   apply Classical.byContradiction
   intro hgt;have hb3:=hb1.symm.trans hb2
   have h4:q < (l.drop p).length:=by rw [List.length_drop];have:=hb1.2.1;omega
   have h5:=rl.common_stop (l.drop p) e (by omega) (by omega)
   rw [hq] at h5
   have h6:=hb3.tm (j:=p + q) (by omega)
   rw [hdrop,hent q hlt] at h6;exact h5 h6
  exact hb2.trans (hat.symm.le (by omega))
 ·rw [if_neg hlt]
  have hqe:q=e.length:=by omega
  subst hqe
  exact ⟨⟨hagq,λb k hb1 _=>hb1,hl,λT h _=>h⟩,rfl⟩
def took (g:Gh) (i T x:Nat):Gh:={ g with ack:=upd2 g.ack T i (max (g.ack T i) x) }
theorem Vl (C:Core n s g) {i f p:Nat} {e l':Log} (hi:i < n) (hl:g.lead (s i).t=some f) (hs:Slice (g.L (s i).t) p e) (ht:Took g (s i).l (g.L (s i).t) p e l') :
  Turn n s g i ⟨(s i).t,(s i).v,l'⟩ (took g i (s i).t (p + e.length)):=by
 obtain ⟨T,hT⟩:∃ T,(s i).t=T:=⟨_,rfl⟩;rw [hT] at hl hs ht ⊢;have hle:(s i).t≤(⟨T,(s i).v,l'⟩:St).t:=Nat.le_of_eq hT;have e5:(took g i T (p + e.length)).ack T i=max (g.ack T i) (p + e.length):=qC _ _ _ _
 have e6:∀ t j,t ≠ T∨j ≠ i→(took g i T (p + e.length)).ack t j=g.ack t j:=λt j h=>Qg _ _ h
 have le:Le s g (upd s i ⟨T,(s i).v,l'⟩) (took g i T (p + e.length)):=by
  refine ⟨ZV hle,λ_=>Ag.refl _ (Nat.le_refl _),id,id,λ_=>rfl,λt j=>?_,λt j h=>?_⟩
  ·by_cases he:t=T∧j=i
   ·obtain ⟨rfl,rfl⟩:=he;rw [e5];omega
   ·rw [e6 t j (by omega)];exact Nat.le_refl _
  ·refine e6 t j ?_
   by_cases hj:j=i
   ·subst hj;left;omega
   ·exact .inr hj
 have hkeep:∀ t k,Own g t k→k≤g.ack t i→Ag (g.L t) l' k∨Blocked n (upd s i ⟨T,(s i).v,l'⟩) (took g i T (p + e.length)) t k:=by
  intro t k ho hk
  rcases C.node hi ho hk with h1 | h1
  ·have hd:=(C.ackd (t:=t) (j:=i) (by have:=ho.1;omega)).2
   by_cases h2:t=T
   ·subst h2;exact .inl (ht.keep _ _ h1 (Ag.refl _ ho.2.1))
   ·rcases C.safe (t:=t) (t':=T) (by omega) (by rw [hl];simp) ho with h3 | h3
    ·exact .inl (ht.keep _ _ h1 h3)
    ·exact .inr (h3.later le)
  ·exact .inr (h1.later le)
 refine ⟨hi,le,λ_ _ _=>rfl,e6,λ_ _=>rfl,λ_ _=>rfl,λ{c} hc=>?_,λhv=>?_,λ{c} hc=>?_,λh=>C.ldn h,?_,λk hk=>C.topL T k hk,?_,λk hk=>?_,?_,λ{t k} h1 h2 ho=>?_,λ{t k} ho hk=>?_,λ{t k c} hc htt ho hk=>?_,?_⟩
 ·have hc2:g.gr (s i).t i=some c:=by rw [hT];exact hc
  obtain ⟨h1,_,_,h4⟩:=C.grd hc2
  exact ⟨h1,Nat.le_trans (by rw [← hT];exact h4) (le.t c),C.v1 hc2⟩
 ·obtain ⟨c,h1,h2⟩:=C.v2 hi hv
  exact ⟨c,h1,by rw [← hT];exact h2⟩
 ·obtain ⟨h1,h2,h3⟩:=C.ldd hc;exact ⟨h1,Nat.le_trans h2 (le.t c),h3⟩
 ·have h:=(C.fitL T).later le;exact h
 ·exact ht.fits.later le
 ·exact ht.top T (by rw [← hT];exact C.topS hi) (C.topL T) k hk
 ·show (took g i T (p + e.length)).ack T i≤(g.L T).length
  rw [e5];have:=C.ackl T i;have:=hs.1;omega
 ·have h:=qG (C.safe h1 h2 ho) le (Ag.refl _ (Nat.le_refl _));exact h
 ·by_cases hold:k≤g.ack t i
  ·exact hkeep t k (ho.back le (Nat.le_trans hold (C.ackl t i))) hold
  ·have htT:t=T:=by
    apply Classical.byContradiction
    intro hne;rw [e6 t i (.inl hne)] at hk;exact hold hk
   subst htT;rw [e5] at hk
   exact .inl (ht.ag.symm.le (by omega))
 ·have h:=qG (C.vote (t':=T) (j:=i) (i:=c) hc htt ho hk) le (Ag.refl _ (Nat.le_refl _));exact h
 ·show Ag (g.L T) l' ((took g i T (p + e.length)).ack T i)
  rw [e5];have ho:=C.ackn hi;rw [hT] at ho;have h1:=ht.keep _ _ ho (Ag.refl _ (C.ackl T i))
  rcases Nat.le_total (g.ack T i) (p + e.length) with hx | hx
  ·rw [Nat.max_eq_right hx];exact ht.ag.symm
  ·rw [Nat.max_eq_left hx];exact h1
end
end cl
end Go.Proofs.YtppibhieabideaaGreatDoor
