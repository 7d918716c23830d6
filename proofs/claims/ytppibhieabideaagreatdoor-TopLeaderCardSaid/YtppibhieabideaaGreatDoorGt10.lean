/- A part of the walk of the program, and of its plain law. -/
import Derived.Deep.MidRow
import Derived.Deep.DeepCutAuto
import Derived.Laws.OwnMore
import Derived.Test.YtppibhieabideaaGreatDoorGt9
namespace Go.Proofs.YtppibhieabideaaGreatDoor
set_option maxHeartbeats 4000000
open Go Go.RowKit Go.Deep
set_option maxRecDepth 100000
def ndC (n:rf.Node) (ev:Value):List Value:=
 .int .i64 n.id :: .int .i64 n.many :: .int .u64 (n.term:Int) :: .int .i64 n.vote :: ev :: .int .i64 n.role :: .int .i64 n.lead :: .int .u64 (n.commit:Int) :: .int .i64 n.idle ::
  (n.votes.map (λb=>Value.bool b) ++ (n.next.map (λ(k:Nat)=>Value.int .u64 (k:Int)) ++ n.mat.map (λ(k:Nat)=>Value.int .u64 (k:Int))))
def stC (n:rf.Node) (ev sv:Value):List Value:=ndC n ev ++ [sv]
def msgC (m:rf.Msg) (ev:Value):List Value:=
 [.int .i64 m.kind,.int .i64 m.frm,.int .i64 m.dst,.int .u64 (m.term:Int),.int .u64 (m.index:Int),.int .u64 (m.at_:Int),.int .u64 (m.commit:Int),ev,.bool m.ok]
structure NOk (n:rf.Node):Prop where
 v7:n.votes.length=7
 n7:n.next.length=7
 m7:n.mat.length=7
 ms:∀ x ∈ n.mat,x≤1000000000
 ns:∀ x ∈ n.next,x≤1000000001
theorem qe {n:rf.Node} (h:NOk n) (ev:Value):(ndC n ev).length=30:=by
 simp [ndC,h.v7,h.n7,h.m7]
theorem qb {n:rf.Node} (ev sv:Value) (j:Nat) (u:Value) (h:(ndC n ev)[j]?=some u):(stC n ev sv)[j]?=some u:=by
 unfold stC
 rw [List.getElem?_append_left (by
  rcases Nat.lt_or_ge j (ndC n ev).length with h1 | h1
  ·exact h1
  ·rw [List.getElem?_eq_none h1] at h;cases h)]
 exact h
theorem Qt {n:rf.Node} (h:NOk n) (ev:Value) (i:Nat) (hi:i < 7):(ndC n ev)[9 + i]?=some (.bool (n.votes.getD i false)):=by
 have hv:=h.v7;unfold ndC
 rw [show 9 + i=i + 1 + 1 + 1 + 1 + 1 + 1 + 1 + 1 + 1 by omega]
 simp only [List.getElem?_cons_succ]
 rw [List.getElem?_append_left (by simp [hv];exact hi),List.getElem?_map,List.getD_eq_getElem?_getD]
 rw [List.getElem?_eq_getElem (by omega)]
 rfl
theorem zH {n:rf.Node} (h:NOk n) (ev:Value) (i:Nat) (hi:i < 7):(ndC n ev)[16 + i]?=some (.int .u64 ((n.next.getD i 0:Nat):Int)):=by
 have hv:=h.v7;have hn:=h.n7;unfold ndC
 rw [show 16 + i=7 + i + 1 + 1 + 1 + 1 + 1 + 1 + 1 + 1 + 1 by omega]
 simp only [List.getElem?_cons_succ]
 rw [List.getElem?_append_right (by simp [hv]),List.length_map,hv,show 7 + i - 7=i by omega,List.getElem?_append_left (by simp [hn];exact hi),List.getElem?_map,List.getD_eq_getElem?_getD]
 rw [List.getElem?_eq_getElem (by omega)]
 rfl
theorem yP {n:rf.Node} (h:NOk n) (ev:Value) (i:Nat) (hi:i < 7):(ndC n ev)[23 + i]?=some (.int .u64 ((n.mat.getD i 0:Nat):Int)):=by
 have hv:=h.v7;have hn:=h.n7;have hm:=h.m7;unfold ndC
 rw [show 23 + i=14 + i + 1 + 1 + 1 + 1 + 1 + 1 + 1 + 1 + 1 by omega]
 simp only [List.getElem?_cons_succ]
 rw [List.getElem?_append_right (by simp [hv];omega),List.length_map,hv,List.getElem?_append_right (by simp [hn];omega),List.length_map,hn,show 14 + i - 7 - 7=i by omega,List.getElem?_map,List.getD_eq_getElem?_getD]
 rw [List.getElem?_eq_getElem (by omega)]
 rfl
theorem qI {n:rf.Node} (h:NOk n) (ev sv:Value):(stC n ev sv)[30]?=some sv:=by
 unfold stC
 rw [List.getElem?_append_right (by rw [qe h];exact Nat.le_refl _),qe h]
 rfl
theorem VF {n:rf.Node} (h:NOk n) (ev sv u:Value):(stC n ev sv).set 30 u=stC n ev u:=by
 unfold stC
 rw [List.set_append_right _ _ (by rw [qe h];exact Nat.le_refl _),qe h]
 rfl
theorem QG {n:rf.Node} (h:NOk n) (ev sv:Value) (i:Nat) (hi:i < 7) (b:Bool):(stC n ev sv).set (9 + i) (.bool b)=stC { n with votes:=n.votes.set i b } ev sv:=by
 have hv:=h.v7;unfold stC
 rw [List.set_append_left _ _ (by rw [qe h];omega)]
 congr 1
 unfold ndC
 rw [show 9 + i=i + 1 + 1 + 1 + 1 + 1 + 1 + 1 + 1 + 1 by omega]
 simp only [List.set_cons_succ]
 rw [List.set_append_left _ _ (by simp [hv];exact hi),List.map_set]
theorem ZE {n:rf.Node} (h:NOk n) (ev sv:Value) (i:Nat) (hi:i < 7) (x:Nat):(stC n ev sv).set (16 + i) (.int .u64 (x:Int))=stC { n with next:=n.next.set i x } ev sv:=by
 have hv:=h.v7;have hn:=h.n7;unfold stC
 rw [List.set_append_left _ _ (by rw [qe h];omega)]
 congr 1
 unfold ndC
 rw [show 16 + i=7 + i + 1 + 1 + 1 + 1 + 1 + 1 + 1 + 1 + 1 by omega]
 simp only [List.set_cons_succ]
 rw [List.set_append_right _ _ (by simp [hv]),List.length_map,hv,show 7 + i - 7=i by omega,List.set_append_left _ _ (by simp [hn];exact hi)]
 simp only [List.map_set]
theorem Yi {n:rf.Node} (h:NOk n) (ev sv:Value) (i:Nat) (hi:i < 7) (x:Nat):(stC n ev sv).set (23 + i) (.int .u64 (x:Int))=stC { n with mat:=n.mat.set i x } ev sv:=by
 have hv:=h.v7;have hn:=h.n7;unfold stC
 rw [List.set_append_left _ _ (by rw [qe h];omega)]
 congr 1
 unfold ndC
 rw [show 23 + i=14 + i + 1 + 1 + 1 + 1 + 1 + 1 + 1 + 1 + 1 by omega]
 simp only [List.set_cons_succ]
 rw [List.set_append_right _ _ (by simp [hv];omega),List.length_map,hv,List.set_append_right _ _ (by simp [hn];omega),List.length_map,hn,show 14 + i - 7 - 7=i by omega]
 simp only [List.map_set]
structure Keeps (s:Nat) (w w':World):Prop where
 os:w'.os=w.os
 tape:w'.tape=w.tape
 output:w'.output=w.output
 size:w.heap.size≤w'.heap.size
 block:∀ k,k < w.heap.size→k ≠ s→(∀ cur,w.heap[k]? ≠ some (.cells cur 229 (0,0)))→w'.heap[k]?=w.heap[k]?
theorem Keeps.refl (s:Nat) (w:World):Keeps s w w:=⟨rfl,rfl,rfl,Nat.le_refl _,λ_ _ _ _=>rfl⟩
theorem Keeps.trans {s:Nat} {a b c:World} (h:Keeps s a b) (k:Keeps s b c):Keeps s a c:=
 ⟨k.os.trans h.os,k.tape.trans h.tape,k.output.trans h.output,Nat.le_trans h.size k.size,λi hi hs hm=>by
  have e:=h.block i hi hs hm
  exact (k.block i (Nat.lt_of_lt_of_le hi h.size) hs (λcur=>by rw [e];exact hm cur)).trans e⟩
theorem Keeps.below {s:Nat} {w w':World} (h:Below w.heap.size w w'):Keeps s w w':=⟨h.os,h.tape,h.output,h.size,λk hk _ _=>h.block k hk⟩
theorem Keeps.set (s j:Nat) (w:World) (u:Value):Keeps s w (w.setCell ⟨s,j,none⟩ u):=
 ⟨rfl,rfl,rfl,by simp [World.setCell],λk _ hne _=>Below.heap_setCell _ _ _ k hne⟩
theorem Keeps.drew (s:Nat) (w:World):Keeps s w w.drew:=Keeps.below (below_drewN (Below.refl _ w) 1)
theorem Keeps.alloc (s:Nat) (w:World) (o:Obj):Keeps s w (w.alloc o):=Keeps.below ((Below.refl _ w).alloc (Nat.le_refl _) _)
theorem Keeps.blk {s g:Nat} {w w':World} {vs:List Value} {t:TypeId} (h:Keeps s w w') (hb:Blk w g vs t) (hs:g ≠ s) (ht:t ≠ 229):Blk w' g vs t:=
 (h.block g hb.lt hs (λcur e=>by unfold Blk at hb;rw [hb] at e;injection e with e;injection e with _ e2 _;exact ht e2)).trans hb
theorem Keeps.row {s:Nat} {w w':World} {base n:Nat} {v:Value} {xs:List Value} (h:w.ownsRow base 229 9 v n xs) (hg:w.grownBy w' v.ownBlock):Keeps s w w':=
 ⟨hg.os,hg.tape,hg.output,hg.size,λk hk _ hm=>hg.block k hk (by
  intro e
  rcases h.2 with ⟨rfl,_⟩ | ⟨g,cap,cur,rfl,_,hh,_⟩
  ·cases e
  ·injection e with e
   subst e
   exact hm cur hh)⟩
def EntsB (base:Nat) (w:World) (ev:Value) (ls:List rl.Ent):Prop:=
 Ents w ev ls∧∀ b o n c,ev=.slice (some ⟨b,o,none⟩) n c→0 < ls.length→b < w.heap.size∧(b < min base 0∨∃ cur,w.heap[b]?=some (.cells cur 36 (0,0)))
theorem EntsB.form {base:Nat} {w:World} {ev:Value} {ls:List rl.Ent} (h:EntsB base w ev ls):∃ A c,ev=.slice A ls.length c:=by
 obtain ⟨⟨A,c,e,_⟩,_⟩:=h;exact ⟨A,c,e⟩
theorem Ents.lt {w:World} {b o n c:Nat} {ls:List rl.Ent} (h:Ents w (.slice (some ⟨b,o,none⟩) n c) ls) (h0:0 < ls.length):b < w.heap.size:=by
 obtain ⟨A,c',e,_,_,hc⟩:=h;obtain ⟨b',o',rfl,hA⟩:=hc h0
 injection e with e1 _ _
 injection e1 with e1
 injection e1 with e1 _ _
 subst e1;exact World.block_lt_of_cell? _ _ (hA 0 h0).1
theorem EntsB.of_owns {base base':Nat} {w:World} {ev:Value} {ls:List rl.Ent} (h:w.ownsRow base' 36 2 ev ls.length (qg ls)):EntsB base w ev ls:=
 ⟨Qw h,λb o n c e h0=>by
  subst e;refine ⟨(Qw h).lt h0,.inr ?_⟩
  rcases h.2 with ⟨e1,e2⟩ | ⟨g,cap,cur,e1,_,hh,_⟩
  ·cases e1
  ·injection e1 with e1 _ _
   injection e1 with e1
   injection e1 with e1 _ _
   subst e1
   exact ⟨cur,hh⟩⟩
theorem EntsB.keep {base s:Nat} {w w':World} {ev:Value} {ls:List rl.Ent} {vs:List Value} (h:EntsB base w ev ls) (hk:Keeps s w w') (hb:Below base w w') (hs:Blk w s vs 235):EntsB base w' ev ls:=by
 obtain ⟨⟨A,c,rfl,h1,h2,h3⟩,h4⟩:=h
 have hsame:∀ b o n c',(Value.slice A ls.length c)=.slice (some ⟨b,o,none⟩) n c'→0 < ls.length→w'.heap[b]?=w.heap[b]?:=by
  intro b o n c' e h0;obtain ⟨hlt,hh⟩:=h4 b o n c' e h0
  rcases hh with h5 | ⟨cur,h5⟩
  ·exact hb.block b (by omega)
  ·refine hk.block b hlt (λe2=>?_) (λcur2 e2=>?_)
   ·subst e2;unfold Blk at hs;rw [hs] at h5
    injection h5 with h5
    injection h5 with _ h6 _
    exact absurd h6 (by decide)
   ·rw [h5] at e2
    injection e2 with e2
    injection e2 with _ h6 _
    exact absurd h6 (by decide)
 refine ⟨⟨A,c,rfl,h1,h2,λh0=>?_⟩,λb o n c' e h0=>?_⟩
 ·obtain ⟨b,o,rfl,hA⟩:=h3 h0;have e:=hsame b o _ _ rfl h0
  refine ⟨b,o,rfl,λk hk=>?_⟩
  rw [World.cell?_of_block (w:=w) (w':=w') (a:=⟨b,o + k * 2,none⟩) e,World.cell?_of_block (w:=w) (w':=w') (a:=⟨b,o + k * 2 + 1,none⟩) e];exact hA k hk
 ·have e2:=hsame b o n c' e h0;obtain ⟨hlt,hh⟩:=h4 b o n c' e h0
  exact ⟨Nat.lt_of_lt_of_le hlt hk.size,by rw [e2];exact hh⟩
theorem EntsB.later {base:Nat} {w w':World} {ev:Value} {ls:List rl.Ent} (h:EntsB base w ev ls) (hb:Below w.heap.size w w'):EntsB base w' ev ls:=
 ⟨h.1.below hb,λb o n c e h0=>by
  obtain ⟨hlt,hh⟩:=h.2 b o n c e h0
  exact ⟨Nat.lt_of_lt_of_le hlt hb.size,by rw [hb.block b hlt];exact hh⟩⟩
def Sent (base:Nat) (w:World) (sv:Value) (ms:List rf.Msg):Prop:=
 ∃ evs:List Value,evs.length=ms.length∧w.ownsRow base 229 9 sv ms.length ((ms.zip evs).flatMap λp=>msgC p.1 p.2)∧∀ p ∈ ms.zip evs,EntsB base w p.2 p.1.ents
theorem Sent.nil (base:Nat) (w:World):Sent base w (.slice none 0 0) []:=⟨[],rfl,World.ownsRow_nil _ _ _ _,λp hp=>by cases hp⟩
theorem Sent.form {base:Nat} {w:World} {sv:Value} {ms:List rf.Msg} (h:Sent base w sv ms):∃ A c,sv=.slice A ms.length c:=by
 obtain ⟨evs,_,h,_⟩:=h;exact ql h
structure St (base:Nat) (w:World) (s:Nat) (n:rf.Node) (ev sv:Value) (ms:List rf.Msg):Prop where
 sb:base≤s
 blk:Blk w s (stC n ev sv) 235
 ents:EntsB base w ev n.log
 sent:Sent base w sv ms
 ok:NOk n
theorem Sent.keep {base s:Nat} {w w':World} {sv:Value} {ms:List rf.Msg} {vs:List Value} (h:Sent base w sv ms) (hk:Keeps s w w') (hb:Below base w w') (hs:Blk w s vs 235) (hrow:∀ k,sv.ownBlock=some k→w'.heap[k]?=w.heap[k]?):Sent base w' sv ms:=by
 obtain ⟨evs,h1,h2,h3⟩:=h
 refine ⟨evs,h1,?_,λp hp=>(h3 p hp).keep hk hb hs⟩
 refine ⟨h2.1,?_⟩
 rcases h2.2 with h4 | ⟨g,cap,cur,rfl,hg,hh,hr⟩
 ·exact .inl h4
 ·exact .inr ⟨g,cap,cur,rfl,hg,by rw [hrow g rfl];exact hh,hr⟩
theorem St.later {base s:Nat} {w w':World} {n:rf.Node} {ev sv:Value} {ms:List rf.Msg} (h:St base w s n ev sv ms) (hb:Below w.heap.size w w') (hbase:base≤w.heap.size):St base w' s n ev sv ms:=
 ⟨h.sb,h.blk.below hb,h.ents.later hb,h.sent.keep (Keeps.below hb) (hb.mono hbase) h.blk (λk hk=>by
  obtain ⟨evs,_,h2,_⟩:=h.sent
  exact hb.block k (h2.lt k hk).2),h.ok⟩
theorem St.store {base s:Nat} {w:World} {n n':rf.Node} {ev sv:Value} {ms:List rf.Msg} (h:St base w s n ev sv ms) (j:Nat) (u:Value) (hc:(stC n ev sv).set j u=stC n' ev sv) (hl:n'.log=n.log) (ho:NOk n') :
  St base (w.setCell ⟨s,j,none⟩ u) s n' ev sv ms:=by
 have hb:Below base w (w.setCell ⟨s,j,none⟩ u):=(Below.refl _ w).setCell (p:=⟨s,j,none⟩) h.sb u;have h1:=h.blk.set j u;rw [hc] at h1
 refine ⟨h.sb,h1,by rw [hl];exact h.ents.keep (Keeps.set s j w u) hb h.blk,h.sent.keep (Keeps.set s j w u) hb h.blk (λk hk=>?_),ho⟩
 obtain ⟨evs,_,h2,_⟩:=h.sent
 refine Below.heap_setCell _ _ _ k (λe=>?_)
 have hb2:=h.blk
 rcases h2.2 with ⟨rfl,_⟩ | ⟨g,cap,cur,rfl,_,hh,_⟩
 ·cases hk
 ·injection hk with hk
  subst hk;have e:g=s:=e;subst e;unfold Blk at hb2;rw [hb2] at hh
  injection hh with hh
  injection hh with _ h6 _
  exact absurd h6 (by decide)
def StTo (base:Nat) (w:World) (s:Nat) (n':rf.Node) (ms':List rf.Msg) (w':World):Prop:=
 ∃ A c B d,St base w' s n' (.slice A n'.log.length c) (.slice B ms'.length d) ms'∧Keeps s w w'∧Below base w w'
theorem St.cell {base s:Nat} {w:World} {n:rf.Node} {ev sv:Value} {ms:List rf.Msg} (h:St base w s n ev sv ms) (j:Nat) (u:Value) (hj:(stC n ev sv)[j]?=some u):w.cell? ⟨s,j,none⟩=some u:=h.blk.cell j u hj
theorem St.free {base s:Nat} {w:World} {n:rf.Node} {ev sv:Value} {ms:List rf.Msg} (h:St base w s n ev sv ms) (j:Nat):w.frozen? ⟨s,j,none⟩=false:=h.blk.free j
theorem St.to {base s:Nat} {w w':World} {n:rf.Node} {ev sv:Value} {ms:List rf.Msg} (h:St base w' s n ev sv ms) (hk:Keeps s w w') (hb:Below base w w'):StTo base w s n ms w':=by
 obtain ⟨A,c,rfl⟩:=h.ents.form;obtain ⟨B,d,rfl⟩:=h.sent.form;exact ⟨A,c,B,d,h,hk,hb⟩
structure Sx (base:Nat) (w0 w:World) (s:Nat) (n:rf.Node) (ev sv:Value) (ms:List rf.Msg):Prop where
 st:St base w s n ev sv ms
 keeps:Keeps s w0 w
 below:Below base w0 w
section
variable {base s:Nat} {w0 w w':World} {n n':rf.Node} {ev sv:Value} {ms ms':List rf.Msg}
theorem St.baseLe (h:St base w s n ev sv ms):base≤w.heap.size:=Nat.le_of_lt (Nat.lt_of_le_of_lt h.sb h.blk.lt)
theorem Sx.start (h:St base w s n ev sv ms):Sx base w w s n ev sv ms:=⟨h,Keeps.refl _ _,Below.refl _ _⟩
theorem Sx.later (h:Sx base w0 w s n ev sv ms) (hb:Below w.heap.size w w'):Sx base w0 w' s n ev sv ms:=
 ⟨h.st.later hb h.st.baseLe,h.keeps.trans (Keeps.below hb),h.below.trans (hb.mono h.st.baseLe)⟩
theorem Sx.drew (h:Sx base w0 w s n ev sv ms):Sx base w0 w.drew s n ev sv ms:=h.later (below_drewN (Below.refl _ w) 1)
theorem Sx.store (h:Sx base w0 w s n ev sv ms) (j:Nat) (u:Value) (hc:(stC n ev sv).set j u=stC n' ev sv) (hl:n'.log=n.log) (ho:NOk n'):Sx base w0 (w.setCell ⟨s,j,none⟩ u) s n' ev sv ms:=
 ⟨h.st.store j u hc hl ho,h.keeps.trans (Keeps.set s j w u),h.below.trans ((Below.refl _ w).setCell (p:=⟨s,j,none⟩) h.st.sb u)⟩
theorem Sx.to (h:Sx base w0 w s n ev sv ms):StTo base w0 s n ms w:=h.st.to h.keeps h.below
theorem Sx.call (h:Sx base w0 w s n ev sv ms) (k:StTo base w s n' ms' w'):∃ A c B d,Sx base w0 w' s n' (.slice A n'.log.length c) (.slice B ms'.length d) ms':=by
 obtain ⟨A,c,B,d,h1,h2,h3⟩:=k;exact ⟨A,c,B,d,h1,h.keeps.trans h2,h.below.trans h3⟩
theorem NOk.of {n n':rf.Node} (h:NOk n) (h1:n'.votes=n.votes) (h2:n'.next=n.next) (h3:n'.mat=n.mat):NOk n':=⟨by rw [h1];exact h.v7,by rw [h2];exact h.n7,by rw [h3];exact h.m7,by rw [h3];exact h.ms,by rw [h2];exact h.ns⟩
end
theorem qj {P:Program} {fn:Func} {p u:Tmp} {ty:TypeId} (h:fn.results=#[.cell p ty,.tmp u]) (tmps:Array Value) (w:World) (g:Nat) (t:TypeId) (cs:Array Value) (fr:Nat × Nat) (d:TypeDesc)
  (hp:tmps.getD p undef=.pointer (some ⟨g,0,none⟩)) (hg:w.heap[g]?=some (.cells cs t fr))
  (hu:P.underlying ty=some d) (hd:(match d with | .struct _ | .array _ _=>true | _=>false)=true) (hi:(P.info? ty).map (·.size)=some cs.size) :
  (results fn tmps).run P w=.ok (.tuple #[.agg cs,tmps.getD u undef]) w:=by
 have hp':tmps[p]?.getD undef=.pointer (some ⟨g,0,none⟩):=by simpa using hp
 simp [results,h,hp',asAddr,run_loadVar_row w g t ty cs fr d hg hu hd hi]
theorem qc:(Tryz.prog.info? 100).map (·.size)=some 30:=by kernel_rfl
theorem qM:(Tryz.prog.info? 229).map (·.size)=some 9:=by kernel_rfl
def ndV (n:rf.Node) (ev:Value):Value:=.agg (ndC n ev).toArray
theorem qy {n:rf.Node} {ev:Value} (h:ev.oneCell'=true):(ndC n ev).toArray.all (·.oneCell')=true:=by
 rw [Array.all_eq_true_iff_forall_mem];intro u hu;simp only [List.mem_toArray,ndC,List.mem_cons,List.mem_append,List.mem_map] at hu
 rcases hu with rfl | rfl | rfl | rfl | rfl | rfl | rfl | rfl | rfl | ⟨_,_,rfl⟩ | ⟨_,_,rfl⟩ | ⟨_,_,rfl⟩ <;> first | rfl | exact h
theorem Zx {ops:Array Oper} {rest:List Oper} {o:Oper} {a:Act} {w:World} {Q:Exit→Act→World→Prop} (hgd:o.guard=none) (x y:Operand) (ho:o.op=.store 100 x y)
  {g:Nat} {old:List Value} {t:TypeId} {n:rf.Node} {ev:Value} (hg:Blk w g old t) (hl:old.length=30) (hn:NOk n) (h1:ev.oneCell'=true) (hx:a.eval x=.pointer (some ⟨g,0,none⟩)) (hy:a.eval y=.agg (ndC n ev).toArray)
  (h:wpList Tryz.prog ops Q rest (a.put o.dst undef) (w.setRow g (ndC n ev).toArray)):wpList Tryz.prog ops Q (o :: rest) a w:=
 wpList_store_row hgd 100 x y ho g _ hx hy t old.toArray hg (by rw [qc];simp [qe hn]) (by simp [hl,qe hn]) (qy h1) h
theorem Blk.row {w:World} {g:Nat} {old:List Value} {t:TypeId} (hg:Blk w g old t) (vs:List Value):Blk (w.setRow g vs.toArray) g vs t:=by
 unfold Blk at hg ⊢;simp only [World.setRow,Array.getElem?_modify,hg,if_true]
 simp
theorem qz (w:World) (g:Nat) (cs:Array Value) (k:Nat) (hk:k ≠ g):(w.setRow g cs).heap[k]?=w.heap[k]?:=by
 simp only [World.setRow,Array.getElem?_modify]
 rw [if_neg (λe=>hk e.symm)]
theorem qk {B:Nat} (w:World) (g:Nat) (cs:Array Value) (h:B≤g):Below B w (w.setRow g cs):=
 ⟨rfl,rfl,rfl,by simp [World.setRow],λk hk=>qz w g cs k (by omega)⟩
theorem new_any (id many:Int) (T:Nat) (V:Int) (A:Option Addr) (c k:Nat) (ls:List rl.Ent) (w:World) (h1:1≤many) (h2:many≤7) (h3:0≤id) (h4:id < many) :
  Calls Tryz.prog 55 #[.int .i64 id,.int .i64 many,stV T V (.slice A k c)] w λe w'=>e=.returned (.tuple #[ndV (rf.new id many T V ls) (.slice A k c),.int .i64 0])∧Below w.heap.size w w':=by
 have b1:decide (many < 1)=false:=by simp;omega
 have b2:decide (7 < many)=false:=by simp;omega
 have b3:decide (id < 0)=false:=by simp;omega
 have b4:decide (many≤id)=false:=by simp;omega
 have ho:NOk (rf.new id many T V ls):=⟨rfl,rfl,rfl,by intro x hx;simp [rf.new] at hx;omega,by intro x hx;simp [rf.new] at hx;omega⟩
 unfold stV;obtain ⟨W1,hW1⟩:∃ W,w.alloc (.cells #[.int .u64 (T:Int),.int .i64 V,.slice A k c] 96)=W:=⟨_,rfl⟩;obtain ⟨W2,hW2⟩:∃ W,W1.alloc (.cells (ndC ⟨0,0,0,0,[],0,0,0,0,List.replicate 7 false,List.replicate 7 0,List.replicate 7 0⟩ (.slice none 0 0)).toArray 100)=W:=⟨_,rfl⟩
 have hb1:Below w.heap.size w W1:=by rw [← hW1];exact (Below.refl _ w).alloc (Nat.le_refl _) _
 have hs1:W1.heap.size=w.heap.size + 1:=by rw [← hW1];simp
 have hb2:Below w.heap.size w W2:=by rw [← hW2];exact hb1.alloc (by omega) _
 have k0:Blk W2 (w.heap.size + 1) (ndC ⟨0,0,0,0,[],0,0,0,0,List.replicate 7 false,List.replicate 7 0,List.replicate 7 0⟩ (.slice none 0 0)) 100:=by rw [← hW2,← hs1];exact Blk.new _ _ _
 have HK0:=Uq k0;have hk:=k0.row (ndC (rf.new id many T V ls) (.slice A k c))
 have bl1:Blk W1 w.heap.size [.int .u64 (T:Int),.int .i64 V,.slice A k c] 96:=by rw [← hW1];exact Blk.new _ _ _
 have bl2:Blk W2 w.heap.size [.int .u64 (T:Int),.int .i64 V,.slice A k c] 96:=by rw [← hW2];exact bl1.alloc _
 have c0:=bl2.cell 0 _ rfl;have c1:=bl2.cell 1 _ rfl;have c2:=bl2.cell 2 _ rfl
 have hb3:Below w.heap.size w (W2.setRow (w.heap.size + 1) (ndC (rf.new id many T V ls) (.slice A k c)).toArray):=hb2.trans (qk _ _ _ (by omega))
 have HB3:=Uq hb3;have HK:=Uq hk;have HW1:=Uq hW1;have HW2:=Uq hW2;clear hb1 hb2 hb3 hk k0 bl1 bl2 hW1 hW2 hs1 h1 h2 h3 h4
 go_enter Tryz.func55,Tryz.ntmps55
 go_upto_region 1 with fail;rw [HW1.out]
 rw [show W1.alloc (.cells #[.int .i64 0,.int .i64 0,.int .u64 0,.int .i64 0,.slice none 0 0,.int .i64 0,.int .i64 0,.int .u64 0,.int .i64 0,.bool false,.bool false,.bool false,.bool false,.bool false,.bool false,.bool false,.int .u64 0,.int .u64 0,.int .u64 0,.int .u64 0,.int .u64 0,.int .u64 0,.int .u64 0,.int .u64 0,.int .u64 0,.int .u64 0,.int .u64 0,.int .u64 0,.int .u64 0,.int .u64 0] 100)=W2 from HW2.out]
 go_wp2_with (refine Zx rfl (.tmp 6) (.tmp 27) rfl (n:=rf.new id many T V ls) (ev:=.slice A k c) HK0.out rfl ho rfl rfl rfl ?_)
 refine bodyPost_ret (qj rfl _ _ (w.heap.size + 1) _ _ (0,0) _ rfl HK.out Tryz.underlying100 rfl (by rw [qc];simp [qe ho])) rfl ?_
 exact ⟨rfl,HB3.out⟩
theorem Uf (w:World) (n:rf.Node) (ev:Value) (j:Nat) (u:Value) (h:(ndC n ev)[j]?=some u):(w.alloc (.cells (ndC n ev).toArray 100)).cell? ⟨w.heap.size,j,none⟩=some u:=(Blk.new w _ _).cell j u h
theorem yZ (n:rf.Node) (ev:Value) (w:World) (h0:0≤n.id) (h7:n.id < 7) :
  Calls Tryz.prog 262 #[ndV n ev] w λe w'=>e=.returned (.int .i64 (10 + 3 * n.id))∧Below w.heap.size w w':=by
 have c0:=Uf w n ev 0 _ rfl;have hb:Below w.heap.size w (w.alloc (.cells (ndC n ev).toArray 100)):=(Below.refl _ w).alloc (Nat.le_refl _) _;have HB:=Uq hb;clear hb;unfold ndV
 go_enter Tryz.func262,Tryz.ntmps262
 go_wp2;go_ret;exact ⟨rfl,HB.out⟩
def Only (s:Nat) (w w':World):Prop:=∀ k,k < w.heap.size→k ≠ s→w'.heap[k]?=w.heap[k]?
theorem Only.below {s:Nat} {w w':World} (h:Below w.heap.size w w'):Only s w w':=λk hk _=>h.block k hk
theorem Only.set {s:Nat} {w w':World} (h:Only s w w') (j:Nat) (x:Value):Only s w (w'.setCell ⟨s,j,none⟩ x):=λk hk hs=>(Below.heap_setCell _ _ _ k (λe=>hs e)).trans (h k hk hs)
theorem Only.blk {s g:Nat} {w w':World} {vs:List Value} {t:TypeId} (h:Only s w w') (hb:Blk w g vs t) (hs:g ≠ s):Blk w' g vs t:=(h g hb.lt hs).trans hb
set_option maxHeartbeats 1000000 in
theorem jP {base s:Nat} {w:World} {n:rf.Node} {ev sv:Value} {ms:List rf.Msg} (t:Nat) (h:St base w s n ev sv ms) :
  Calls Tryz.prog 269 #[.pointer (some ⟨s,0,none⟩),.int .u64 (t:Int)] w λe w'=>e=.returned (.tuple #[])∧StTo base w s (rf.back n t) ms w'∧Only s w w':=by
 have c2:=h.cell 2 _ (qb ev sv 2 _ rfl);have c3:=h.cell 3 _ (qb ev sv 3 _ rfl);have c5:=h.cell 5 _ (qb ev sv 5 _ rfl);have c6:=h.cell 6 _ (qb ev sv 6 _ rfl);have f2:=h.free 2;have f3:=h.free 3;have f5:=h.free 5;have f6:=h.free 6;have h1:=((Sx.start h).store 5 (.int .i64 0) (n':={ n with role:=0 }) rfl rfl (h.ok.of rfl rfl rfl)).store 6 (.int .i64 (-1)) (n':={ n with role:=0,lead:=-1 }) rfl rfl (h.ok.of rfl rfl rfl)
 by_cases ht:n.term < t
 ·have h2:=(h1.store 2 (.int .u64 (t:Int)) (n':={ n with role:=0,lead:=-1,term:=t }) rfl rfl (h.ok.of rfl rfl rfl)).store 3 (.int .i64 (-1)) (n':={ n with role:=0,lead:=-1,term:=t,vote:=-1 }) rfl rfl (h.ok.of rfl rfl rfl)
  have hr:rf.back n t={ n with role:=0,lead:=-1,term:=t,vote:=-1 }:=by unfold rf.back;rw [if_pos ht]
  have hi:decide ((n.term:Int) < (t:Int))=true:=by simp;exact ht
  rw [hr];have H2:=Uq h2;clear h h1 h2 hr
  go_enter Tryz.func269,Tryz.ntmps269
  go_wp2;go_end0;exact ⟨rfl,H2.out.to,((((Only.below (Below.refl _ w)).set _ _).set _ _).set _ _).set _ _⟩
 ·have hr:rf.back n t={ n with role:=0,lead:=-1 }:=by unfold rf.back;rw [if_neg ht]
  rw [hr];have H1:=Uq h1;clear h h1 hr
  go_enter Tryz.func269,Tryz.ntmps269
  go_wp2;go_end0;exact ⟨rfl,H1.out.to,((Only.below (Below.refl _ w)).set _ _).set _ _⟩
theorem zN:(Tryz.prog.info? 229).map (λi=>(i.zero,i.size,i.bytes))=some (some (.agg #[.int .i64 0,.int .i64 0,.int .i64 0,.int .u64 0,.int .u64 0,.int .u64 0,.int .u64 0,.slice none 0 0,.bool false]),9,88):=by kernel_rfl
theorem YN (w:World) (vs:List Value) (e:TypeId):∀ j u,vs[j]?=some u→(w.alloc (.cells vs.toArray e)).cell? ((⟨w.heap.size,0,none⟩:Addr).add j)=some u:=by
 intro j u hj;have h:=heap_alloc_new w (.cells vs.toArray e);rw [qn,cell_of_row _ _ _ _ _ _ h]
 simpa using hj
theorem zI {m:rf.Msg} {ev:Value} (h:ev.oneCell'=true):∀ u ∈ msgC m ev,u.oneCell'=true:=by
 intro u hu;simp only [msgC,List.mem_cons,List.not_mem_nil,or_false] at hu
 rcases hu with rfl | rfl | rfl | rfl | rfl | rfl | rfl | rfl | rfl <;> first | rfl | exact h
theorem Sent.more {base:Nat} {w':World} {ms:List rf.Msg} {m:rf.Msg} {em v':Value} (evs:List Value) (hl:evs.length=ms.length)
  (hr:w'.ownsRow base 229 9 v' (ms.length + 1) ((ms.zip evs).flatMap (λp=>msgC p.1 p.2) ++ msgC m em)) (he:∀ p ∈ ms.zip evs,EntsB base w' p.2 p.1.ents) (hm:EntsB base w' em m.ents):Sent base w' v' (ms ++ [m]):=by
 refine ⟨evs ++ [em],by simp [hl],?_,?_⟩
 ·rw [List.zip_append (by rw [hl]),List.flatMap_append,List.length_append]
  simpa using hr
 ·rw [List.zip_append (by rw [hl])]
  intro p hp
  rcases List.mem_append.1 hp with h1 | h1
  ·exact he p h1
  ·simp at h1
   subst h1;exact hm
theorem row_ne {w:World} {base s n:Nat} {v:Value} {xs vs:List Value} (h:w.ownsRow base 229 9 v n xs) (hb:Blk w s vs 235):some s ≠ v.ownBlock:=by
 rcases h.2 with ⟨rfl,_⟩ | ⟨g,cap,cur,rfl,_,hh,_⟩
 ·intro e;cases e
 ·intro e
  injection e with e
  have e:s=g:=e;subst e;unfold Blk at hb;rw [hb] at hh
  injection hh with hh
  injection hh with _ h6 _
  exact absurd h6 (by decide)
theorem Sx.grow {base s:Nat} {w0 X w3:World} {n:rf.Node} {ev sv v':Value} {ms:List rf.Msg} {m:rf.Msg} {em:Value} {o:Obj} {evs xs:List Value} (h:Sx base w0 X s n ev sv ms) (hl:evs.length=ms.length) (hx:((ms.zip evs).flatMap λp=>msgC p.1 p.2)=xs)
  (hr:X.ownsRow base 229 9 sv ms.length xs) (he:∀ p ∈ ms.zip evs,EntsB base X p.2 p.1.ents) (hm:EntsB base X em m.ents) (ho:w3.ownsRow base 229 9 v' (ms.length + 1) (xs ++ msgC m em)) (hg:(X.drew.alloc o).grownBy w3 sv.ownBlock) :
  Blk w3 s (stC n ev sv) 235∧Sx base w0 (w3.setCell ⟨s,30,none⟩ v') s n ev v' (ms ++ [m]):=by
 have hb0:Blk (X.drew.alloc o) s (stC n ev sv) 235:=Blk.alloc (w:=X.drew) h.st.blk o;have hr0:(X.drew.alloc o).ownsRow base 229 9 sv ms.length xs:=World.ownsRow.alloc (w:=X.drew) hr o;have hb3:=hb0.grown hg (row_ne hr h.st.blk)
 have hlow:∀ j,sv.ownBlock=some j→base≤j:=λj hj=>(hr.lt j hj).1
 have hB1:Below base X (X.drew.alloc o):=(below_drewN (Below.refl base X) 1).alloc h.st.baseLe o
 have hB2:Below base X w3:=hB1.grown hg (by have:=h.st.baseLe;simp;omega) hlow
 have hB3:Below base X (w3.setCell ⟨s,30,none⟩ v'):=hB2.trans ((Below.refl _ w3).setCell (p:=⟨s,30,none⟩) h.st.sb v');have hK:Keeps s X (w3.setCell ⟨s,30,none⟩ v'):=(((Keeps.drew s X).trans (Keeps.alloc s X.drew o)).trans (Keeps.row hr0 hg)).trans (Keeps.set s 30 w3 v');have h4:=hb3.set 30 v';rw [VF h.st.ok] at h4;refine ⟨hb3,⟨⟨h.st.sb,h4,h.st.ents.keep hK hB3 h.st.blk,?_,h.st.ok⟩,h.keeps.trans hK,h.below.trans hB3⟩⟩;have hne:=row_ne ho hb3
 have hr3:=ho.kept (Ql w3 ⟨s,30,none⟩ v') (.inr λe=>hne e.symm)
 subst hx
 exact Sent.more evs hl hr3 (λp hp=>(he p hp).keep hK hB3 h.st.blk) (hm.keep hK hB3 h.st.blk)
theorem QU {base s:Nat} {w:World} {n:rf.Node} {ev:Value} {A B:Option Addr} {k c d:Nat} {ms:List rf.Msg} (m:rf.Msg) (h:St base w s n ev (.slice B ms.length d) ms) (hm:EntsB base w (.slice A k c) m.ents) (hl:ms.length≤1000) :
  Calls Tryz.prog 369 #[.pointer (some ⟨s,0,none⟩),.agg #[.int .i64 m.kind,.int .i64 m.frm,.int .i64 m.dst,.int .u64 (m.term:Int),.int .u64 (m.index:Int),.int .u64 (m.at_:Int),.int .u64 (m.commit:Int),.slice A k c,.bool m.ok]] w λe w'=>e=.returned (.tuple #[])∧StTo base w s n (ms ++ [rf.stamp n m]) w':=by
 obtain ⟨i0,hi,hz0,hz1,hz2⟩:=info_parts zN;obtain ⟨W1,hW1⟩:∃ W,w.alloc (.cells #[.int .i64 m.kind,.int .i64 m.frm,.int .i64 m.dst,.int .u64 (m.term:Int),.int .u64 (m.index:Int),.int .u64 (m.at_:Int),.int .u64 (m.commit:Int),.slice A k c,.bool m.ok] 229)=W:=⟨_,rfl⟩;obtain ⟨bx,hbx⟩:∃ x,w.heap.size=x:=⟨_,rfl⟩
 have hb1:Below w.heap.size w W1:=by rw [← hW1];exact (Below.refl _ w).alloc (Nat.le_refl _) _
 have bl:Blk W1 bx [.int .i64 m.kind,.int .i64 m.frm,.int .i64 m.dst,.int .u64 (m.term:Int),.int .u64 (m.index:Int),.int .u64 (m.at_:Int),.int .u64 (m.commit:Int),.slice A k c,.bool m.ok] 229:=by rw [← hW1,← hbx];exact Blk.new w _ _
 have hx1:=(Sx.start h).later hb1
 have n1:¬ bx=s:=by have:=h.blk.lt;omega
 have n2:¬ s=bx:=λe=>n1 e.symm
 have c0:=hx1.st.cell 0 _ (qb ev _ 0 _ rfl);have c2:=hx1.st.cell 2 _ (qb ev _ 2 _ rfl);have x0:=bl.cell 0 _ rfl;have x1:=bl.cell 1 _ rfl;have x2:=bl.cell 2 _ rfl;have x3:=bl.cell 3 _ rfl;have x4:=bl.cell 4 _ rfl;have x5:=bl.cell 5 _ rfl;have x6:=bl.cell 6 _ rfl;have x7:=bl.cell 7 _ rfl;have x8:=bl.cell 8 _ rfl;have f1:=bl.free 1;have f3:=bl.free 3;have HX1:=Uq hx1;have HM:=Uq hm;have HST:=Uq h;have HB1:=Uq hb1;have HBX:=Uq hbx;have HBL:=Uq bl;have HW1:=Uq hW1;have HLen:=Uq hl;clear hb1 hx1 hm bl h hW1 hl
 go_enter Tryz.func369,Tryz.ntmps369
 go_upto_region 1 with fail;rw [HW1.out];clear HW1;go_region;obtain ⟨X2,hX2⟩:∃ X,((W1.setCell ⟨bx,1,none⟩ (.int .i64 n.id)).setCell ⟨bx,3,none⟩ (.int .u64 (n.term:Int))).drew=X:=⟨_,rfl⟩
 have hb2:Below w.heap.size w X2:=by
  rw [← hX2,HBX.out]
  exact below_drewN (((Below.setCell (p:=⟨bx,1,none⟩) (by rw [← HBX.out];exact HB1.out) (by exact Nat.le_refl bx) _).setCell (p:=⟨bx,3,none⟩) (by exact Nat.le_refl bx) _)) 1
 have bl2:Blk X2 bx [.int .i64 m.kind,.int .i64 n.id,.int .i64 m.dst,.int .u64 (n.term:Int),.int .u64 (m.index:Int),.int .u64 (m.at_:Int),.int .u64 (m.commit:Int),.slice A k c,.bool m.ok] 229:=by
  rw [← hX2];exact (HBL.out.set 1 _).set 3 _
 rw [hX2];have hx2:=(Sx.start HST.out).later hb2;have hx2a:=hx2.later ((Below.refl _ X2).alloc (Nat.le_refl _) (.cells #[.int .i64 m.kind,.int .i64 n.id,.int .i64 m.dst,.int .u64 (n.term:Int),.int .u64 (m.index:Int),.int .u64 (m.at_:Int),.int .u64 (m.commit:Int),.slice A k c,.bool m.ok] 229));have c30a:=hx2a.st.cell 30 _ (qI HST.out.ok ev _);have f30a:=hx2a.st.free 30;clear hx2a
 have n3:¬ X2.heap.size=s:=by have:=hx2.st.blk.lt;omega
 have n4:¬ s=X2.heap.size:=λe=>n3 e.symm
 have c30:=hx2.st.cell 30 _ (qI HST.out.ok ev _);have f30:=hx2.st.free 30;have x0:=bl2.cell 0 _ rfl;have x1:=bl2.cell 1 _ rfl;have x2:=bl2.cell 2 _ rfl;have x3:=bl2.cell 3 _ rfl;have x4:=bl2.cell 4 _ rfl;have x5:=bl2.cell 5 _ rfl;have x6:=bl2.cell 6 _ rfl;have x7:=bl2.cell 7 _ rfl;have x8:=bl2.cell 8 _ rfl;have HX2:=Uq hx2;obtain ⟨evs,hev1,hev2,hev3⟩:=hx2.st.sent
 obtain ⟨xs,hxs⟩:∃ xs,((ms.zip evs).flatMap λp=>msgC p.1 p.2)=xs:=⟨_,rfl⟩
 rw [hxs] at hev2;have HXS:=Uq hxs;have HR2:=Uq hev2;clear hxs;have HE3:=Uq hev3;have HE1:=Uq hev1;have HM2:=Uq (HM.out.later hb2);clear hb2 bl2 hX2 hx2 hev1 hev2 hev3;go_upto_region 2 with fail
 go_region_law (refine qA rfl (.tmp 21) (.tmp 23) 91 rfl base 229 i0 _ 9 88 Tryz.underlying91 hi hz0 hz1 hz2 rfl (by decide) (.slice B ms.length d) ms.length xs (by simp [Act.eval]) ?_ ⟨X2.heap.size,0,none⟩ 1 1 (msgC (rf.stamp n m) (.slice A k c)) (by simp [Act.eval]) rfl ?_ (zI rfl) ?_ ?_ ?_ ?_;exact World.ownsRow.alloc (w:=X2.drew) HR2.out _;exact YN X2.drew (msgC (rf.stamp n m) (.slice A k c)) _;have:=HLen.out;unfold maxLen;omega;have:=HLen.out;omega;have:=HX2.out.st.baseLe;simp;omega;intro v' w3 hown' hgrow';obtain ⟨A',c',rfl⟩:=ql hown';have hfin:=HX2.out.grow (m:=rf.stamp n m) HE1.out HXS.out HR2.out HE3.out HM2.out hown' hgrow';have c30:=hfin.1.cell 30 _ (qI HST.out.ok ev _);have f30:=hfin.1.free 30)
 all_goals
  have HF:=Uq hfin.2;clear hfin hown' hgrow' c30 f30;go_wp2;go_end0;exact ⟨rfl,HF.out.to⟩
theorem JB {s:Nat} {w:World} (F:Nat) (fst caps:Array Value) (id many:Int) (N:Nat) (hN:min many 7=(N:Int)) (hN7:N≤7) (Inv:Nat→World→Prop)
  (hc:∀ j w,Inv j w→w.cell? ⟨s,0,none⟩=some (.int .i64 id)∧w.cell? ⟨s,1,none⟩=some (.int .i64 many))
  (hskip:∀ (j:Nat) w,Inv j w→(j:Int)=id→Inv (j + 1) w)
  (eg:∀ args w,(callFunc F args).run Tryz.prog w=.ok (.enter F args) w)
  (hf:∀ (j:Nat) w,j < N→(j:Int) ≠ id→Inv j w→Calls Tryz.prog F (fst.push (.int .i64 (j:Int)) ++ caps) w (λe w2=>e=.returned (.tuple #[])∧Inv (j + 1) w2)) (h0:Inv 0 w) :
  Calls Tryz.prog 260 #[.pointer (some ⟨s,0,none⟩),.func (.func F) fst caps] w λe w'=>e=.returned (.tuple #[])∧Inv N w':=by
 obtain ⟨c0,c1⟩:=hc 0 w h0;have HC:=Uq hc;have HS:=Uq hskip;have HF:=Uq hf;have H0:=Uq h0;have HN:=Uq hN;clear hc hskip hf h0
 go_enter Tryz.func260,Tryz.ntmps260
 go_upto_region 1 with fail;clear c0 c1
 go_loopw [11] (λi wr=>∃ j:Nat,j≤N∧i=.int .i64 j∧Inv j wr) (λi _=>N - (intOf i).toNat)
 case atStart=>exact ⟨0,Nat.zero_le _,rfl,H0.out⟩
 case round=>
  obtain ⟨j,hj,rfl,hI⟩:=hrel;have HI:=Uq hI;clear hI;obtain ⟨c0,c1⟩:=HC.out j _ HI.out
  by_cases hlt:j < N
  ·by_cases hid:(j:Int)=id
   ·have hb:((j:Int) != id)=false:=by simp [hid]
    have HD:=Uq hid;clear hid;go_wp2;go_roundw
    case rel=>exact ⟨j + 1,by omega,by go_num,HS.out j _ HI.out HD.out⟩
    case measure=>simp [intOf];omega
   ·have hb:((j:Int) != id)=true:=by simp [hid]
    have hcall:=HF.out j _ hlt hid HI.out;clear hid;go_wp2_with fail;refine hcall.mono ?_;rintro e w2 ⟨rfl,hI2⟩;have HI2:=Uq hI2;clear hI2 hcall c0 c1;go_wp2_with fail;go_roundw
    case rel=>exact ⟨j + 1,by omega,by go_num,HI2.out⟩
    case measure=>simp [intOf];omega
  ·obtain rfl:j=N:=by omega
   go_wp2;go_end0;exact ⟨rfl,HI.out⟩
def cnt (P:Nat→Bool) (j:Nat):Nat:=((List.range j).filter P).length
theorem cnt_le (P:Nat→Bool) (j:Nat):cnt P j≤j:=by
 have:=List.length_filter_le P (List.range j)
 simpa [cnt] using this
theorem cnt_yes {P:Nat→Bool} {j:Nat} (h:P j=true):cnt P (j + 1)=cnt P j + 1:=by
 unfold cnt;rw [List.range_succ,List.filter_append];simp [h]
theorem cnt_no {P:Nat→Bool} {j:Nat} (h:P j=false):cnt P (j + 1)=cnt P j:=by
 unfold cnt;rw [List.range_succ,List.filter_append];simp [h]
theorem ZM {s:Nat} {w:World} (F:Nat) (caps:Array Value) (many:Int) (N:Nat) (hN:min many 7=(N:Int)) (hN7:N≤7) (P:Nat→Bool) (Inv:World→Prop)
  (hc:∀ w,Inv w→w.cell? ⟨s,1,none⟩=some (.int .i64 many))
  (eg:∀ args w,(callFunc F args).run Tryz.prog w=.ok (.enter F args) w)
  (hf:∀ (j:Nat) w,j < N→Inv w→Calls Tryz.prog F (#[.int .i64 (j:Int)] ++ caps) w (λe w2=>e=.returned (.bool (P j))∧Inv w2)) (h0:Inv w) :
  Calls Tryz.prog 374 #[.pointer (some ⟨s,0,none⟩),.func (.func F) #[] caps] w λe w'=>e=.returned (.bool (decide (many < 2 * (cnt P N:Int))))∧Inv w':=by
 have c1:=hc w h0;have HC:=Uq hc;have HF:=Uq hf;have H0:=Uq h0;have HN:=Uq hN;clear hc hf h0
 go_enter Tryz.func374,Tryz.ntmps374
 go_upto_region 3 with fail;clear c1
 go_loopw [5,13] (λn i wr=>∃ j m:Nat,j≤N∧i=.int .i64 j∧m=cnt P j∧n=.int .i64 m∧Inv wr) (λ_ i _=>N - (intOf i).toNat)
 case atStart=>exact ⟨0,0,Nat.zero_le _,rfl,rfl,rfl,H0.out⟩
 case round=>
  obtain ⟨j,m,hj,rfl,hm,rfl,hI⟩:=hrel;have HI:=Uq hI
  have hm7:m≤7:=by have:=cnt_le P j;omega
  have HM:=Uq hm;clear hI hm;have c1:=HC.out _ HI.out
  by_cases hlt:j < N
  ·have hcall:=HF.out j _ hlt HI.out;go_wp2_with fail;refine hcall.mono ?_;rintro e w2 ⟨rfl,hI2⟩;have HI2:=Uq hI2;clear hI2 hcall c1
   cases hp:P j with
   | true=>
    have hs:=cnt_yes hp;rw [← HM.out] at hs;have HS:=Uq hs;clear hp hs;go_wp2_with fail;go_roundw
    case rel=>exact ⟨j + 1,m + 1,by omega,by go_num,HS.out.symm,by go_num,HI2.out⟩
    case measure=>simp [intOf];omega
   | false=>
    have hs:=cnt_no hp;rw [← HM.out] at hs;have HS:=Uq hs;clear hp hs;go_wp2_with fail;go_roundw
    case rel=>exact ⟨j + 1,m,by omega,by go_num,HS.out.symm,by go_num,HI2.out⟩
    case measure=>simp [intOf];omega
  ·obtain rfl:j=N:=by omega
   have hw:IntKind.i64.wrap (2 * (m:Int))=2 * (m:Int):=by rw [IntKind.wrap_i64];omega
   go_wp2;go_ret
   exact ⟨Zl (congrArg Value.bool (by rw [← HM.out])),HI.out⟩
set_option maxHeartbeats 2000000 in
theorem zZ (A:Option Addr) (k c:Nat) (ls:List rl.Ent) (w:World) (hv:Ents w (.slice A k c) ls) (hl:ls.length≤100000) :
  Calls Tryz.prog 49 #[.slice A k c] w λe w'=>∃ B d,e=.returned (.slice B ls.length d)∧w'.ownsRow w.heap.size 36 2 (.slice B ls.length d) ls.length (qg ls)∧Below w.heap.size w w':=by
 obtain ⟨i0,hi,hz0,hz1,hz2⟩:=info_parts zj
 have q22:∀ (w:World) (a:Option Addr) (n c n' c':Nat),(binOp .eql 29 (.slice a n c) (.slice none n' c')).run Tryz.prog w=.ok (.bool a.isNone) w:=λw a n c n' c'=>Lib.run_eql_slice_nil w _ _ a n c n' c' Tryz.underlying29
 obtain rfl:k=ls.length:=by obtain ⟨_,_,e,_⟩:=hv;injection e
 cases A with
 | none=>
  obtain ⟨A',c',e,hc,_,h0⟩:=hv
  obtain ⟨rfl,rfl⟩:none=A'∧c=c':=by injection e with e1 _ e3;exact ⟨e1,e3⟩
  have hz:ls.length=0:=by
   rcases Nat.eq_zero_or_pos ls.length with h | h
   ·exact h
   ·obtain ⟨b,o,e,_⟩:=h0 h;cases e
  obtain rfl:ls=[]:=List.eq_nil_of_length_eq_zero hz;clear h0 e hc hl hz
  go_enter Tryz.func49,Tryz.ntmps49
  go_wp2;go_ret;exact ⟨none,0,rfl,World.ownsRow_nil _ _ _ _,Below.refl _ _⟩
 | some a=>
  obtain ⟨hlen,hcells⟩:=hv.cells;obtain ⟨n,hn⟩:∃ n,ls.length=n:=⟨_,rfl⟩;obtain ⟨xs,hxs⟩:∃ xs,qg ls=xs:=⟨_,rfl⟩
  have hone:∀ u ∈ xs,u.oneCell'=true:=by rw [← hxs];exact Qd ls
  rw [hxs] at hlen hcells ⊢;rw [hn] at hlen hcells hl ⊢
  have hown0:=World.ownsRow_made (base:=w.heap.size) (e:=36) (size:=2) w #[] 0 (Nat.le_refl _) (by unfold maxLen;omega) rfl
  have hb0:Below w.heap.size w (w.alloc (.cells #[] 36)):=(Below.refl _ w).alloc (Nat.le_refl _) _
  have hcells2:0 < n→∃ ad,some a=some ad∧∀ j u,xs[j]?=some u→(w.alloc (.cells #[] 36)).cell? (ad.add j)=some u:=λh=>by
   obtain ⟨ad,e,hh⟩:=hcells h
   exact ⟨ad,e,λj u hj=>cell_later hb0 (hh j u hj)⟩
  have HB0:=Uq hb0;have HO:=Uq hown0;have HC:=Uq hcells2;have HL:=Uq hlen;have H1:=Uq hone;clear hv hcells hcells2 hlen hb0 hown0 hone hn hxs
  go_enter Tryz.func49,Tryz.ntmps49
  go_wp2_with (at_builtin;refine qo _ rfl (.tmp 5) (.tmp 6) 29 rfl w.heap.size 36 i0 _ 2 24 Tryz.underlying29 hi hz0 hz1 hz2 rfl (by decide) (.slice (some ⟨w.heap.size,0,none⟩) 0 0) 0 [] rfl HO.out (some a) n c xs rfl HL.out HC.out H1.out (by unfold maxLen;omega) (by omega) (by simp) ?_;intro v' w' hown' hg')
  have HOWN:=Uq hown'
  have HBF:Hid (Below w.heap.size w w'):=Uq (HB0.out.grown hg' (by simp) (λj hj=>by have e:w.heap.size=j:=(by injection hj);omega))
  clear hown' hg';go_wp2;go_ret;rw [Nat.zero_add,List.nil_append] at HOWN;obtain ⟨B,d,rfl⟩:=ql HOWN.out;exact ⟨B,d,rfl,HOWN.out,HBF.out⟩
theorem ZN {base s:Nat} {w:World} {n:rf.Node} {A B:Option Addr} {c d:Nat} {ms:List rf.Msg} (tt:Nat) (h:St base w s n (.slice A n.log.length c) (.slice B ms.length d) ms) (hto:tt < 7) (hl:ms.length≤999) (hlog:n.log.length≤10000) :
  Calls Tryz.prog 261 #[.pointer (some ⟨s,0,none⟩),.int .i64 (tt:Int)] w λe w'=>e=.returned (.tuple #[])∧StTo base w s n (ms ++ [rf.stamp n (rf.putMsg n tt)]) w':=by
 obtain ⟨L,hL⟩:∃ L,n.log.length=L:=⟨_,rfl⟩;obtain ⟨nx,hnx⟩:∃ x,n.next.getD tt 0=x:=⟨_,rfl⟩
 obtain ⟨p,hp⟩:∃ p,rf.nextOf n tt=p + 1:=⟨rf.nextOf n tt - 1,by unfold rf.nextOf;omega⟩
 have hpL:p≤L:=by unfold rf.nextOf at hp;omega
 obtain ⟨p1,hp1e⟩:∃ p1:Nat,p + 1=p1:=⟨_,rfl⟩
 have hmin:min (max (nx:Int) 1) ((L:Int) + 1)=(p1:Int):=by unfold rf.nextOf at hp;rw [hnx,hL] at hp;omega
 have hwL:IntKind.u64.wrap (L:Int)=(L:Int):=qD (by omega) (by omega)
 have hwr:IntKind.u64.wrap ((L:Int) + 1)=(L:Int) + 1:=qD (by omega) (by omega)
 have hp1:IntKind.u64.wrap ((p1:Int) - 1)=(p:Int):=by rw [show (p1:Int) - 1=(p:Int) by omega];exact qD (by omega) (by omega)
 have hmsg:rf.putMsg n tt={ rf.msg0 with kind:=3,dst:=(tt:Int),index:=p,at_:=(rl.termAt n.log p).1,commit:=n.commit,ents:=(n.log.drop p).take 20 }:=by unfold rf.putMsg;rw [hp];rfl
 rw [hmsg];obtain ⟨q,hq⟩:∃ q,min 20 (L - p)=q:=⟨_,rfl⟩;rw [hL] at h;have c2:=h.cell 2 _ (qb _ _ 2 _ rfl);have c3:=h.cell 3 _ (qb _ _ 3 _ rfl);have c4:=h.cell 4 _ (qb _ _ 4 _ rfl);have c7:=h.cell 7 _ (qb _ _ 7 _ rfl);have cN:=h.cell (16 + tt) _ (qb _ _ _ _ (zH h.ok _ tt hto));rw [hnx] at cN;have HL:=Uq hL;have HH:=Uq h;have Hp:=Uq hp;have HL1:=Uq hl;have HLog:=Uq hlog;have Hq:=Uq hq;have Hpe:=Uq hp1e;clear hL h hp hmsg hl hlog hnx hq hp1e
 go_enter Tryz.func261,Tryz.ntmps261
 go_wp2_with fail
 refine (zn n.term n.vote _ n.log p w HH.out.ents.1 (by have:=HLog.out;omega) (by have:=HLog.out;have:=HL.out;omega)).mono ?_
 rintro e w1 ⟨rfl,hb1⟩;have hx:=(Sx.start HH.out).later hb1
 have hcc:c≤maxLen∧L≤c:=by
  obtain ⟨A',c',e,h1,h2,_⟩:=HH.out.ents.1
  injection e with _ _ e
  subst e;rw [HL.out] at h1;exact ⟨h2,h1⟩
 obtain ⟨hcm,hLc⟩:=hcc;unfold maxLen at hcm
 have hps:(p:Int)≤(L:Int):=by omega
 have HX:=Uq hx;clear hx hb1 c2 c3 c4 cN c7;have c7:=HX.out.st.cell 7 _ (qb _ _ 7 _ rfl)
 obtain ⟨D,hD⟩:∃ D,(if c=p then A else Option.map (λx=>x.add (p * 2)) A)=D:=⟨_,rfl⟩
 go_wp2_with fail;obtain ⟨M,hM⟩:∃ M,L - p=M:=⟨_,rfl⟩;obtain ⟨cD,hcD⟩:∃ x,c - p=x:=⟨_,rfl⟩
 have hdrop:Ents w1 (.slice D M cD) (n.log.drop p):=by
  have h1:=HX.out.st.ents.1;rw [← hM,← hcD]
  exact yl h1 p hpL D (λb o e hlt=>by
   subst e
   rw [← hD,if_neg (by omega)]
   simp [qn])
 have hqM:min (20:Int) (M:Int)=(q:Int):=by have:=Hq.out;omega
 have hqle:q≤M:=by have:=Hq.out;omega
 have hMc:M≤cD:=by omega
 have hcD2:cD≤9223372036854775807:=by omega
 have htake:=yk hdrop q hqle
 have hkeep:(n.log.drop p).take q=(n.log.drop p).take 20:=by
  have h1:(n.log.drop p).length=M:=by rw [List.length_drop,HL.out];exact hM
  have h2:=Hq.out;rw [hM] at h2
  by_cases h3:20≤M
  ·rw [show q=20 by omega]
  ·rw [List.take_of_length_le (by omega),List.take_of_length_le (by omega)]
 rw [hkeep] at htake
 have hlen:((n.log.drop p).take 20).length=q:=by obtain ⟨_,_,e,_⟩:=htake;injection e with _ e _;exact e.symm
 have hq0:(0:Int)≤(q:Int):=by omega
 have hqc:(q:Int)≤(cD:Int):=by omega
 have hq20:q≤20:=by have:=Hq.out;omega
 rw [hM,hcD];have HT:=Uq htake;have HLen:=Uq hlen;clear hdrop htake hkeep hlen hD hM hcD hLc hcm hps hmin hwL hwr;have hW:Below w1.heap.size w1 w1.drew:=below_drewN (Below.refl _ w1) 1
 have MK:Hid (∀ w',Below w1.heap.size w1 w'→w'.cell? ⟨s,7,none⟩=some (.int .u64 (n.commit:Int))):=Uq (λw' h=>cell_later h c7)
 clear c7
 go_region_held3 (λw'=>w'.cell? ⟨s,7,none⟩=some (.int .u64 (n.commit:Int)))
  (first | exact hc7 | exact MK.out _ hW)
  (first | (go_at_call 49;refine (zZ D q cD _ _ (HT.out.below hW) (by rw [HLen.out];omega)).mono ?_;rintro e w6 ⟨A6,c6,rfl,hown,hb6⟩;have hE6:EntsB base w6 (.slice A6 q c6) ((n.log.drop p).take 20):=(by have h:=EntsB.of_owns (base:=base) hown;rw [HLen.out] at h;exact h);rw [HLen.out];have hW:=hW.trans (hb6.mono hW.size)) | (go_at_call 369;refine (QU (base:=base) (n:=n) (ev:=.slice A L c) (ms:=ms) { rf.msg0 with kind:=3,dst:=(tt:Int),index:=p,at_:=(rl.termAt n.log p).1,commit:=n.commit,ents:=(n.log.drop p).take 20 } (HX.out.later hW).st hE6 (by have:=HL1.out;omega)).mono ?_;rintro e w7 ⟨rfl,hst⟩;have hc7:w7.cell? ⟨s,7,none⟩=some (.int .u64 (n.commit:Int)):=(by obtain ⟨_,_,_,_,h,_⟩:=hst;exact h.cell 7 _ (qb _ _ 7 _ rfl))))
 all_goals
  go_wp2;go_end0;refine ⟨rfl,?_⟩;obtain ⟨A7,c7,B7,d7,h1,h2,h3⟩:=hst;exact ⟨A7,c7,B7,d7,h1,HX.out.keeps.trans ((Keeps.below hW).trans h2),(HX.out.below.trans (hW.mono HX.out.st.baseLe)).trans h3⟩
end Go.Proofs.YtppibhieabideaaGreatDoor
