/- A part of the walk of the program, and of its plain law. -/
import Derived.Test.YtppibhieabideaaGreatDoorGt8
namespace Go.Proofs.YtppibhieabideaaGreatDoor
set_option maxHeartbeats 4000000
open Go Go.RowKit
set_option maxRecDepth 100000
theorem QE (w:World) (o:Obj) (i:Nat) (h:i < w.heap.size):(w.alloc o).heap[i]?=w.heap[i]?:=by
 show (w.heap.push o)[i]?=_
 rw [Array.getElem?_push,if_neg (Nat.ne_of_lt h)]
def Qs (Q:Exit→Act→World→Prop):Exit→Act→World→Prop
 | .normal,a,w=>Q .normal a w
 | _,_,_=>False
theorem Qa (Q:Exit→Act→World→Prop):∀ e a w,Qs Q e a w→Q e a w
 | .normal,_,_,h=>h
 | .ret,_,_,h=>h.elim
 | .exit _,_,_,h=>h.elim
 | .goto _,_,_,h=>h.elim
 | .panic _,_,_,h=>h.elim
 | .outgrown,_,_,h=>h.elim
def Up (tmps:Array Value) (M:Nat→World→Prop):Exit→Act→World→Prop:=λe a W=>e=.normal∧∃ D,a={ tmps:=tmps,defers:=[{ target:=.collected D,args:=#[] }] }∧M D W
theorem yW {F:Fence} {n:Nat} {P:Program} {c:Code} {K:Act→World→Prop} {R:Exit→Act→World→Prop} {w:World} {tmps:Array Value} (M:Nat→World→Prop)
  (h1:c.wpIn F n P (Exit.inBlock 0 (Up tmps M)) { tmps:=tmps,defers:=[] } w) (h2:∀ D W,M D W→K { tmps:=tmps,defers:=[{ target:=.collected D,args:=#[] }] } W):c.wpIn F n P (Exit.inBlock 0 (Exit.then K R)) { tmps:=tmps,defers:=[] } w:=by
 refine wpIn_mono h1 ?_;intro e a W h
 have key:∀ e,Up tmps M e a W→Exit.then K R .normal a W:=by
  rintro e ⟨_,D,rfl,hm⟩;exact h2 D W hm
 cases e with
 | exit id=>
  simp only [Exit.inBlock] at h ⊢
  split
  ·rename_i hi
   rw [if_pos hi] at h;exact key _ h
  ·rename_i hi
   rw [if_neg hi] at h
   exact absurd h.1 (by intro h;cases h)
 | normal=>exact key _ h
 | _=>exact absurd h.1 (by intro h;cases h)
namespace rl
theorem common_zip {a b:List Ent} (h:∀ x ∈ a.zip b,x.1.1=x.2.1):common a b=(a.zip b).length:=by
 induction a generalizing b with
 | nil=>simp [common]
 | cons x r ih=>
  cases b with
  | nil=>simp [common]
  | cons y q=>
   unfold common
   rw [if_pos (h (x,y) (by simp)),ih (λz hz=>h z (by simp;exact .inr hz))]
   simp
theorem common_zip_stop {a b:List Ent} {q:List (Ent × Ent)} {x:Ent × Ent} (hp:q ++ [x] <+: a.zip b) (h:∀ y ∈ q,y.1.1=y.2.1) (hx:x.1.1 ≠ x.2.1):common a b=q.length:=by
 induction a generalizing b q with
 | nil=>simp at hp
 | cons u r ih=>
  cases b with
  | nil=>simp at hp
  | cons v s=>
   cases q with
   | nil=>
    simp at hp
    subst hp;unfold common;rw [if_neg hx];rfl
   | cons p q=>
    simp only [List.cons_append,List.zip_cons_cons,List.cons_prefix_cons] at hp;obtain ⟨rfl,hp⟩:=hp;unfold common
    rw [if_pos (h (u,v) (by simp)),ih hp (λy hy=>h y (by simp [hy]))]
    rfl
end rl
attribute [local go_sem] Oper.semAt_some
theorem jo {β:Type} (B:Nat) (t:TypeId) (f:β→Value):Own (λs W=>Boxed W B t (f s)):=λs X Y row h hg hrow=>
 h.kept hg (λe'=>by
  obtain ⟨o,ho,hc⟩:=hrow B e'.symm
  rw [show X.heap[B]?=_ from h] at ho;cases ho;cases hc)
theorem KeepB.trans {n₀ B1 B2:Nat} {A B C:World} (h:KeepB n₀ B1 B2 A B) (k:KeepB n₀ B1 B2 B C):KeepB n₀ B1 B2 A C:=⟨h.1.trans k.1,k.2.1.trans h.2.1,k.2.2.trans h.2.2⟩
theorem yl {w:World} {A:Option Addr} {n c:Nat} {ls:List rl.Ent} (h:Ents w (.slice A n c) ls) (p:Nat) (hp:p≤n) (B:Option Addr) (hB:∀ b o,A=some ⟨b,o,none⟩→p < n→B=some ⟨b,o + p * 2,none⟩):Ents w (.slice B (n - p) (c - p)) (ls.drop p):=by
 obtain ⟨A',c',e,hl,hm,h0⟩:=h
 obtain ⟨rfl,rfl,rfl⟩:A=A'∧n=ls.length∧c=c':=by injection e with e1 e2 e3;exact ⟨e1,e2,e3⟩
 refine ⟨B,c - p,by rw [List.length_drop],by rw [List.length_drop];omega,by omega,λhlt=>?_⟩
 rw [List.length_drop] at hlt
 obtain ⟨b,o,rfl,hA⟩:=h0 (by omega)
 refine ⟨b,o + p * 2,hB b o rfl (by omega),λk hk=>?_⟩
 rw [List.length_drop] at hk
 obtain ⟨c0,c1⟩:=hA (p + k) (by omega)
 have e1:(ls.drop p).getD k rl.e0=ls.getD (p + k) rl.e0:=by
  rw [List.getD_eq_getElem?_getD,List.getD_eq_getElem?_getD,List.getElem?_drop]
 rw [e1,show o + p * 2 + k * 2=o + (p + k) * 2 from by omega]
 exact ⟨c0,c1⟩
theorem yk {w:World} {A:Option Addr} {n c:Nat} {ls:List rl.Ent} (h:Ents w (.slice A n c) ls) (p:Nat) (hp:p≤n):Ents w (.slice A p c) (ls.take p):=by
 obtain ⟨A',c',e,hl,hm,h0⟩:=h
 obtain ⟨rfl,rfl,rfl⟩:A=A'∧n=ls.length∧c=c':=by injection e with e1 e2 e3;exact ⟨e1,e2,e3⟩
 have hlt:(ls.take p).length=p:=by rw [List.length_take];omega
 refine ⟨A,c,by rw [hlt],by rw [hlt];omega,hm,λhp0=>?_⟩
 rw [hlt] at hp0
 obtain ⟨b,o,rfl,hA⟩:=h0 (by omega)
 refine ⟨b,o,rfl,λk hk=>?_⟩
 rw [hlt] at hk
 have e1:(ls.take p).getD k rl.e0=ls.getD k rl.e0:=by
  rw [List.getD_eq_getElem?_getD,List.getD_eq_getElem?_getD,List.getElem?_take_of_lt hk]
 rw [e1]
 exact hA k (by omega)
theorem Xl (n:Nat) (T:Nat) (V:Int) (v:Value) (ls:List rl.Ent) (i:Nat) (w:World) (hv:Ents w v ls) (hl:ls.length≤1000000) (hi:i < 18446744073709551616) :
  CallsIn Fence.wide n Tryz.prog 368 #[stV T V v,.int .u64 (i:Int)] w λe w'=>e=.returned (.tuple #[.int .u64 ((rl.termAt ls i).1:Nat),.bool (rl.termAt ls i).2])∧Below w.heap.size w w':=
 callsIn_wide.2 (zn T V v ls i w hv hl hi)
theorem KG (n:Nat) (hn:1≤n) (B1 B2 n₀:Nat) (la lb:List rl.Ent) (A1 A2:Option Addr) (n1 c1 n2 c2:Nat) (hl1:la.length=n1) (hl2:lb.length=n2) (h1:n1≤100000) (h2:n2≤100000) (W0 w:World)
  (hB1:Blk w B1 [.slice A1 n1 c1] 29) (hB2:Blk w B2 [.slice A2 n2 c2] 29) (hE1:Ents W0 (.slice A1 n1 c1) la) (hE2:Ents W0 (.slice A2 n2 c2) lb) (hn0:W0.heap.size=n₀) (hW0:Below n₀ W0 w) :
  SeqStopsK Fence.wide n Tryz.prog 480 #[.pointer (some ⟨B1,0,none⟩),.pointer (some ⟨B2,0,none⟩)] encB (KeepB n₀ B1 B2) (λys=>ys=la.zip lb) (λpre=>pre <+: la.zip lb) (la.zip lb).length w:=
 λl J Jx W hW hJ _ hY h0=>J8 n hn l B1 B2 n₀ la lb A1 A2 n1 c1 n2 c2 hl1 hl2 h1 h2 J Jx W0 W hJ hY (hB1.below hW) (hB2.below hW) hE1 hE2 hn0 (hW0.trans (hW.mono (by rw [← hn0];rw [← hn0] at hW0;exact hW0.size))) h0
theorem Ents.far {w:World} {v:Value} {ls:List rl.Ent} {g:Nat} {vs:List Value} {t:TypeId} (h:Ents w v ls) (hb:Blk w g vs t) (hs:∀ u ∈ vs,∀ s,u ≠ .string s) (j:Nat) (x:Value):Ents (w.setCell ⟨g,j,none⟩ x) v ls:=by
 obtain ⟨A,c,e,hl,hm,h0⟩:=h
 refine ⟨A,c,e,hl,hm,λhlt=>?_⟩
 obtain ⟨b,o,ea,hA⟩:=h0 hlt
 refine ⟨b,o,ea,λk hk=>?_⟩
 obtain ⟨c0,c1⟩:=hA k hk
 have hne:g ≠ b:=by
  rintro rfl;unfold Blk at hb;rw [cell_of_row w g _ _ _ (0,0) hb] at c1;simp only [List.getElem?_toArray] at c1;exact hs _ (List.mem_of_getElem? c1) _ rfl
 exact ⟨(Ql w ⟨g,j,none⟩ x).cell c0 (λe=>hne (by cases e;rfl)),(Ql w ⟨g,j,none⟩ x).cell c1 (λe=>hne (by cases e;rfl))⟩
theorem Ents.put {w:World} {v:Value} {ls:List rl.Ent} (h:Ents w v ls) (D:Nat) (o o':Obj) (hD:w.heap[D]?=some o) (ho:o.isCells=false):Ents (w.putObj D o') v ls:=by
 obtain ⟨A,c,e,hl,hm,h0⟩:=h
 refine ⟨A,c,e,hl,hm,λhlt=>?_⟩
 obtain ⟨b,o,ea,hA⟩:=h0 hlt
 refine ⟨b,o,ea,λk hk=>?_⟩
 obtain ⟨c0,c1⟩:=hA k hk
 exact ⟨cell_kept c0 (grownBy_putObj' _ D _) (λr e=>by cases e;exact ⟨_,hD,ho⟩),cell_kept c1 (grownBy_putObj' _ D _) (λr e=>by cases e;exact ⟨_,hD,ho⟩)⟩
theorem Blk.put {w:World} {g:Nat} {vs:List Value} {t:TypeId} (h:Blk w g vs t) (D:Nat) (o o':Obj) (hD:w.heap[D]?=some o) (ho:o.isCells=false):Blk (w.putObj D o') g vs t:=h.grown (grownBy_putObj' w D o') (λe=>by
 cases e
 unfold Blk at h;rw [h] at hD
 cases hD
 cases ho)
theorem RowT.put {w:World} {u:Value} (h:RowT w u) (D:Nat) (o o':Obj) (hD:w.heap[D]?=some o) (ho:o.isCells=false):RowT (w.putObj D o') u:=λb o2 n c e=>by
 obtain ⟨cur,hc⟩:=h b o2 n c e
 have hne:b ≠ D:=by
  rintro rfl;rw [hc] at hD
  injection hD with hD
  subst hD
  cases ho
 exact ⟨cur,(World.putObj_heap_other hne).trans hc⟩
theorem kz (T:Nat) (V:Int) (v:Value) (ls:List rl.Ent) (prev pt:Nat) (l:List rl.Ent) (w X:World) (D:Nat) (tmps:Array Value) (u:Value) (hb:Below w.heap.size w X) (hK:X.heap[D]?=some (.deferred (some []))) (hD:w.heap.size≤D)
  (hR:Blk X (w.heap.size + 1) [.int .u64 0,.int .i64 0,.slice none 0 0] 96) (hE:Ents X u (rl.match_ ls prev pt l).1) (hT:u=v∨RowT X u)
  (h8:tmps.getD 8 undef=.pointer (some ⟨w.heap.size + 1,0,none⟩)) (h9:tmps.getD 9 undef=.int .u64 ((rl.match_ ls prev pt l).2.1:Nat)) (h10:tmps.getD 10 undef=.int .i64 ((rl.match_ ls prev pt l).2.2:Nat)) :
  bodyPostM Fence.wide 3 Tryz.prog Tryz.f373 (QT T V v ls prev pt l w) Exit.ret { tmps:=tmps,defers:=[{ target:=Target.collected D,args:=#[] }] }
   (((X.setCell ⟨w.heap.size + 1,0,none⟩ (.int .u64 (T:Int))).setCell ⟨w.heap.size + 1,1,none⟩ (.int .i64 V)).setCell ⟨w.heap.size + 1,2,none⟩ u):=by
 have hne:∀ vs:List Value,vs=[.int .u64 0,.int .i64 0,.slice none 0 0]→∀ x ∈ vs,∀ s,x ≠ .string s:=by
  rintro vs rfl x hx s rfl
  simp at hx
 have hE1:=hE.far hR (hne _ rfl) 0 (.int .u64 (T:Int));have hR1:=hR.set 0 (.int .u64 (T:Int))
 have hE2:=hE1.far hR1 (by intro x hx s e;subst e;simp at hx) 1 (.int .i64 V)
 have hR2:=hR1.set 1 (.int .i64 V)
 have hE3:=hE2.far hR2 (by intro x hx s e;subst e;simp at hx) 2 u
 have hR3:=hR2.set 2 u
 have hDne:D ≠ w.heap.size + 1:=by
  rintro rfl;unfold Blk at hR;rw [hK] at hR
  cases hR
 have hK3:(((X.setCell ⟨w.heap.size + 1,0,none⟩ (.int .u64 (T:Int))).setCell ⟨w.heap.size + 1,1,none⟩ (.int .i64 V)).setCell ⟨w.heap.size + 1,2,none⟩ u).heap[D]?=some (.deferred (some [])):=by
  rw [Below.heap_setCell _ _ _ D hDne,Below.heap_setCell _ _ _ D hDne,Below.heap_setCell _ _ _ D hDne];exact hK
 have hb3:Below w.heap.size w (((X.setCell ⟨w.heap.size + 1,0,none⟩ (.int .u64 (T:Int))).setCell ⟨w.heap.size + 1,1,none⟩ (.int .i64 V)).setCell ⟨w.heap.size + 1,2,none⟩ u):=
  ((hb.setCell (p:=⟨w.heap.size + 1,0,none⟩) (Nat.le_succ _) _).setCell (p:=⟨w.heap.size + 1,1,none⟩) (Nat.le_succ _) _).setCell (p:=⟨w.heap.size + 1,2,none⟩) (Nat.le_succ _) _
 have hT3:u=v∨RowT (((X.setCell ⟨w.heap.size + 1,0,none⟩ (.int .u64 (T:Int))).setCell ⟨w.heap.size + 1,1,none⟩ (.int .i64 V)).setCell ⟨w.heap.size + 1,2,none⟩ u) u:=hT.imp id (λh=>((h.setCell _ _).setCell _ _).setCell _ _)
 obtain ⟨X3,hX3⟩:∃ X3,(((X.setCell ⟨w.heap.size + 1,0,none⟩ (.int .u64 (T:Int))).setCell ⟨w.heap.size + 1,1,none⟩ (.int .i64 V)).setCell ⟨w.heap.size + 1,2,none⟩ u)=X3:=⟨_,rfl⟩;rw [hX3] at hE3 hR3 hK3 hb3 hT3 ⊢
 have hT4:u=v∨RowT (X3.putObj D (.deferred none)) u:=hT3.imp id (λh=>h.put D _ _ hK3 rfl)
 have hR4:=hR3.put D _ (.deferred none) hK3 rfl;have hE4:=hE3.put D _ (.deferred none) hK3 rfl;have hb4:Below w.heap.size w (X3.putObj D (.deferred none)):=hb3.trans (belowK_b (w:=w) (Nat.le_refl _) X3 D _ _ hD hK3 rfl rfl)
 refine ⟨by simp,.inl ⟨_,_,rfl,run_takeDeferred hK3,?_⟩⟩
 refine ⟨_,QB rfl _ _ (w.heap.size + 1) _ _ (0,0) _ h8 hR4 Tryz.underlying96 rfl Qh,?_⟩;dsimp only;rw [h9,h10];exact ⟨u,rfl,hE4,hT4,hb4⟩
set_option maxRecDepth 100000 in
theorem JI (T:Nat) (V:Int) (A A2:Option Addr) (n c n2 c2:Nat) (ls l:List rl.Ent) (prev pt:Nat) (w:World) (hn:ls.length=n) (hn2:l.length=n2) (hv:Ents w (.slice A n c) ls) (hv2:Ents w (.slice A2 n2 c2) l) (hl:n≤10000) (hl2:n2≤10000)
  (hp:prev≤n) (hcc:c≤maxLen) (hnc:n≤c) (_hcc2:c2≤maxLen) (hnc2:n2≤c2) (hpt:rl.termAt ls prev=(pt,true)) :
  Calls Tryz.prog 373 #[stV T V (.slice A n c),.int .u64 (prev:Int),.int .u64 (pt:Int),.slice A2 n2 c2] w (QT T V (.slice A n c) ls prev pt l w):=by
 have hb:Below w.heap.size w ((w.alloc (.cells #[.int .u64 (T:Int),.int .i64 V,.slice A n c] 96)).alloc (.cells #[.int .u64 0,.int .i64 0,.slice none 0 0] 96)):=((Below.refl _ w).alloc (Nat.le_refl _) _).alloc (by simp) _
 have bs:=(Blk.new w [.int .u64 (T:Int),.int .i64 V,.slice A n c] 96).alloc (.cells #[.int .u64 0,.int .i64 0,.slice none 0 0] 96);have br:=Blk.new (w.alloc (.cells #[.int .u64 (T:Int),.int .i64 V,.slice A n c] 96)) [.int .u64 0,.int .i64 0,.slice none 0 0] 96;simp only [World.size_alloc] at br
 have hta:=Xl 2 T V (.slice A n c) ls prev _ (hv.below hb) (by omega) (by omega)
 rw [hpt] at hta
 have e1:((pt:Int) != (pt:Int))=false:=by simp
 have HTA:=Uq hta;have Hb:=Uq hb;have HBS:=Uq bs;have HBR:=Uq br;have Hv:=Uq hv;have Hv2:=Uq hv2;have Hn:=Uq hn;have Hn2:=Uq hn2;have Hpt:=Uq hpt;unfold maxLen at hcc;clear hta hb bs br hv hv2 hn hn2 hpt;unfold stV at *;refine (callsIn_wide (n:=3)).1 ?_;refine callsIn_of_wp_marks Tryz.func373 rfl trivial ?_ rfl;simp only [Tryz.ntmps373,List.size_toArray,List.length_cons,List.length_nil,Nat.reduceAdd,Nat.reduceSub,Array.replicate_succ,Array.replicate_zero,List.push_toArray,List.append_toArray,List.nil_append,List.cons_append]
 gi_wp2_with fail
 refine ⟨trivial,HTA.out.mono ?_⟩;rintro e w1 ⟨rfl,hb1⟩;have bs1:=HBS.out.below hb1;have br1:=HBR.out.below hb1;have hbw:=Hb.out.trans (hb1.mono Hb.out.size);have s0:=bs1.cell 0 _ rfl;have s1:=bs1.cell 1 _ rfl;have s2:=bs1.cell 2 _ rfl
 have hps:(prev:Int)≤(n:Int):=by omega
 have HB1:=Uq hbw;have HBS1:=Uq bs1;have HBR1:=Uq br1
 obtain ⟨B,hB⟩:∃ B,(if c=prev then A else Option.map (λx=>x.add (prev * 2)) A)=B:=⟨_,rfl⟩
 have z2:=(bs1.alloc (.cells #[.int .i64 0] 3)).cell 2 _ rfl;clear bs1 br1 hb1 hbw
 gi_wp2_with fail
 refine ⟨trivial,(vQ _ _ _ _ _ _ _ _).mono ?_⟩;rintro e w2 ⟨rfl,rfl⟩
 gi_wp2_with fail
 have bO:=Boxed.new w1 3 (.int .i64 0);have bX:=(Blk.new (w1.alloc (.cells #[.int .i64 0] 3)) [.slice B (n - prev) (c - prev)] 29).alloc (.cells #[.slice A2 n2 c2] 29);have bY:=Blk.new ((w1.alloc (.cells #[.int .i64 0] 3)).alloc (.cells #[.slice B (n - prev) (c - prev)] 29)) [.slice A2 n2 c2] 29;simp only [World.size_alloc] at bX bY;obtain ⟨S,hS⟩:∃ S,w1.heap.size=S:=⟨_,rfl⟩
 have hbS:Below S w1 (((w1.alloc (.cells #[.int .i64 0] 3)).alloc (.cells #[.slice B (n - prev) (c - prev)] 29)).alloc (.cells #[.slice A2 n2 c2] 29)):=by
  rw [← hS];exact (((Below.refl _ w1).alloc (Nat.le_refl _) _).alloc (by simp) _).alloc (by simp;omega) _
 have hszS:(((w1.alloc (.cells #[.int .i64 0] 3)).alloc (.cells #[.slice B (n - prev) (c - prev)] 29)).alloc (.cells #[.slice A2 n2 c2] 29)).heap.size=S + 1 + 1 + 1:=by
  simp [hS]
 have hdrop:Ents w (.slice B (n - prev) (c - prev)) (ls.drop prev):=yl Hv.out prev hp B (λb o e hlt=>by
  subst e
  rw [← hB,if_neg (by omega)]
  simp [qn])
 have hE1:Ents w1 (.slice B (n - prev) (c - prev)) (ls.drop prev):=hdrop.below HB1.out;have hE2:Ents w1 (.slice A2 n2 c2) l:=Hv2.out.below HB1.out
 have hld:(ls.drop prev).length=n - prev:=by rw [List.length_drop,Hn.out]
 have bO':=(bO.alloc (.cells #[.slice B (n - prev) (c - prev)] 29)).alloc (.cells #[.slice A2 n2 c2] 29);rw [hS] at bO' bX bY ⊢;obtain ⟨WB,hWB⟩:∃ WB,(((w1.alloc (.cells #[.int .i64 0] 3)).alloc (.cells #[.slice B (n - prev) (c - prev)] 29)).alloc (.cells #[.slice A2 n2 c2] 29))=WB:=⟨_,rfl⟩;rw [hWB] at bO' hbS hszS
 have bX':Blk WB (S + 1) [.slice B (n - prev) (c - prev)] 29:=by rw [← hWB];exact bX
 have bY':Blk WB (S + 1 + 1) [.slice A2 n2 c2] 29:=by rw [← hWB];exact bY
 have hgoalW:=hWB;simp only [List.toArray] at hgoalW;rw [hgoalW];clear bO bX bY hdrop hgoalW z2;have HWB:=Uq hWB;clear hWB;obtain ⟨cm,hcm⟩:∃ cm,rl.common (ls.drop prev) l=cm:=⟨_,rfl⟩;have HCM:=Uq hcm;have hc1:=rl.common_le1 (ls.drop prev) l;have hc2:=rl.common_le2 (ls.drop prev) l;rw [hcm,hld] at hc1;rw [hcm,Hn2.out] at hc2;clear hcm
 refine yW (λD W=>Boxed W S 3 (.int .i64 (cm:Nat))∧Below S w1 W∧W.heap[D]?=some (.deferred (some []))∧w.heap.size≤D) ?range ?tail
 case range=>
  refine wpIn_rangeFunc_ownH (w:=WB) rfl (by decide) (gf:=480) (lb:=#[.pointer (some ⟨S + 1,0,none⟩),.pointer (some ⟨S + 1 + 1,0,none⟩)]) rfl trivial (enters_of Tryz.func480 (by kernel_rfl) rfl)
   (KG 2 (by decide) (S + 1) (S + 1 + 1) S (ls.drop prev) l B A2 (n - prev) (c - prev) n2 c2 hld Hn2.out (by omega) (by omega) w1 WB bX' bY' hE1 hE2 hS hbS) KeepB.trans
   (λW l o o' hl h h1 h2=>⟨belowK_b (w:=WB) (by omega) W l o o' (by omega) h h1 h2,World.putObj_heap_other (by omega),World.putObj_heap_other (by omega)⟩) (Below.refl _ _) (λ_=>rfl)
   (λpre W=>Boxed W S 3 (.int .i64 (pre.length:Nat))∧Below S w1 W∧(∀ x ∈ pre,x.1.1=x.2.1)∧S + 1 + 1 + 1≤W.heap.size)
   (λc pre W=>c=.exit 0∧∃ q x,pre=q ++ [x]∧x.1.1 ≠ x.2.1∧(∀ x ∈ q,x.1.1=x.2.1)∧Boxed W S 3 (.int .i64 (q.length:Nat))∧Below S w1 W)
   ?own ?ownx ?start
   (λx a' W=>∃ p q,S + 1 + 1 + 1≤p∧S + 1 + 1 + 1≤q∧Blk W p [.int .u64 (x.1.1:Int),.string (crcm.mk x.1.2)] 36∧Blk W q [.int .u64 (x.2.1:Int),.string (crcm.mk x.2.2)] 36 ∧
    a'={ tmps:=#[.agg #[.int .u64 (T:Int),.int .i64 V,.slice A n c],.int .u64 (prev:Int),.int .u64 (pt:Int),.slice A2 n2 c2,.pointer (some ⟨w.heap.size,0,none⟩),undef,undef,undef,.pointer (some ⟨w.heap.size + 1,0,none⟩),.int .u64 0,.int .i64 0,.int .u64 (pt:Int),.bool true,.pointer (some ⟨S,0,none⟩),.pointer (some ⟨p,0,none⟩),.pointer (some ⟨q,0,none⟩),.tuple #[.int .u64 (pt:Int),.bool true],.agg #[.int .u64 (T:Int),.int .i64 V,.slice A n c],.int .u64 (prev:Int),.tuple #[.int .u64 (pt:Int),.bool true],.int .u64 (pt:Int),.bool true,.bool true,.bool false,.bool false,.int .u64 (pt:Int),.int .u64 (pt:Int),.bool false,.bool false,undef,.pointer (some ⟨w.heap.size,2,none⟩),.slice A n c,.int .u64 (prev:Int),.slice B (n - prev) (c - prev),.slice A2 n2 c2,.func (.func 480) #[] #[.pointer (some ⟨S + 1,0,none⟩),.pointer (some ⟨S + 1 + 1,0,none⟩)],.agg #[.int .u64 (x.1.1:Int),.string (crcm.mk x.1.2)],.agg #[.int .u64 (x.2.1:Int),.string (crcm.mk x.2.2)],undef,undef,undef,undef,undef,undef,undef,undef,undef,undef,undef,undef,undef,undef,undef,undef,undef,undef,undef,undef,undef,undef,undef,undef,undef,undef,undef,undef,undef,undef],defers:=[] }) ?owna ?assign ?body ?done ?stop
  case own=>exact OwnFrom.and (Own.from (jo _ _ (λpre:List (rl.Ent × rl.Ent)=>Value.int .i64 (pre.length:Nat))) _) (OwnFrom.and (ownFrom_below (by omega) (by omega)) (λ_ _ _ _ hs hg _=>⟨hs.1,Nat.le_trans hs.2 hg.size⟩))
  case ownx=>
   rintro c pre W W' row ⟨rfl,q,x,e,h1,h2,h3,h4⟩ hg hr
   exact ⟨rfl,q,x,e,h1,h2,(Own.from (jo S 3 (λ_:Unit=>Value.int .i64 (q.length:Nat))) WB.heap.size) () W W' row h3 hg hr,(ownFrom_below (β:=Unit) (by omega) (by omega)) () W W' row h4 hg hr⟩
  case start=>exact ⟨bO',hbS,(λx hx=>by cases hx),by omega⟩
  case owna=>
   rintro x a' _ W W' row ⟨p,q,hp,hq,hP,hQ,rfl⟩ hg hr
   have hk:∀ {g:Nat} {vs:List Value} {t:TypeId},Blk W g vs t→Blk W' g vs t:=λh=>h.grown hg (λe=>by
    obtain ⟨_,o,ho,hc⟩:=hr _ e.symm;unfold Blk at h
    rw [h] at ho;cases ho;cases hc)
   exact ⟨p,q,hp,hq,hk hP,hk hQ,rfl⟩
  case assign=>
   rintro l pre x W K ⟨hB0,hbel,hall,hsz⟩ hK;dsimp only [encB,entV];have hP:=(Blk.new W [.int .u64 (x.1.1:Int),.string (crcm.mk x.1.2)] 36).alloc (.cells #[.int .u64 (x.2.1:Int),.string (crcm.mk x.2.2)] 36);have hQ:=Blk.new (W.alloc (.cells #[.int .u64 (x.1.1:Int),.string (crcm.mk x.1.2)] 36)) [.int .u64 (x.2.1:Int),.string (crcm.mk x.2.2)] 36;simp only [World.size_alloc] at hQ;have hk:=hK
   gi_wp2
   refine hk _ _ (((KeepsOthers.alloc W _).trans (KeepsOthers.alloc _ _)).from _) ⟨((Below.refl S W).alloc (by omega) _).alloc (by simp;omega) _,?_,?_⟩ ⟨(hB0.alloc _).alloc _,(hbel.alloc (by omega) _).alloc (by simp;omega) _,hall,by simp;omega⟩ ⟨W.heap.size,W.heap.size + 1,by omega,by omega,hP,hQ,rfl⟩
   ·rw [QE _ _ _ (by simp;omega),QE _ _ _ (by omega)]
   ·rw [QE _ _ _ (by simp;omega),QE _ _ _ (by omega)]
  case body=>
   rintro l pre x a' W hl hloop ⟨hB0,hbel,hall,hsz⟩ ⟨p,q,hp,hq,hP,hQ,rfl⟩ hlt
   have hpl:pre.length < 100000:=by rw [List.length_zip,hld] at hlt;omega
   dsimp only;have p0:=hP.cell 0 _ rfl;have q0:=hQ.cell 0 _ rfl;have b0:=hB0.cell;have bf:=hB0.frozen
   by_cases hx:x.1.1=x.2.1
   ·have f1:((x.1.1:Int) != (x.2.1:Int))=false:=by rw [hx];simp
    gi_wp2
    refine ⟨(KeepsOthers.setCell _ _ _).from _,⟨(Below.refl S W).setCell (p:=⟨S,0,none⟩) (Nat.le_refl _) _,Below.heap_setCell _ _ _ _ (show S + 1 ≠ S by omega),Below.heap_setCell _ _ _ _ (show S + 1 + 1 ≠ S by omega)⟩,?_,hbel.setCell (p:=⟨S,0,none⟩) (Nat.le_refl _) _,λy hy=>?_,by simpa [World.setCell] using hsz⟩
    ·have:=hB0.set (.int .i64 ((pre ++ [x]).length:Nat))
     simpa using this
    ·rcases List.mem_append.1 hy with h | h
     ·exact hall y h
     ·simp at h;subst h;exact hx
   ·have f1:((x.1.1:Int) != (x.2.1:Int))=true:=by rw [bne_iff_ne];omega
    gi_wp2
    exact ⟨KeepsFrom.refl _ _,rfl,pre,x,rfl,hx,hall,hB0,hbel⟩
  case done=>
   rintro D ys W hD rfl ⟨hB0,hbel,hall,hsz⟩ hKd
   exact ⟨rfl,D,rfl,by rw [← HCM.out,rl.common_zip hall];exact hB0,hbel,hKd,by have:=HB1.out.size;omega⟩
  case stop=>
   rintro D c0 pre W hD hpre ⟨rfl,q,x,rfl,hne,hall,hB0,hbel⟩ hKd
   gi_wp2
   exact ⟨rfl,D,rfl,by rw [← HCM.out,rl.common_zip_stop hpre hall hne];exact hB0,hbel,hKd,by have:=HB1.out.size;omega⟩
 case tail=>
  rintro D W ⟨hB1,hbel,hKd,hDD⟩;have b0:=hB1.cell
  have hbel1:Below w1.heap.size w1 W:=by rw [hS];exact hbel
  have bsW:=HBS1.out.below hbel1;have brW:=HBR1.out.below hbel1;have z2:=bsW.cell 2 _ rfl;have HKD:=Uq hKd;have HBW:=Uq (HB1.out.trans (hbel1.mono HB1.out.size));have HBSW:=Uq bsW;have HBRW:=Uq brW;clear hB1 hbel hKd hbel1 bsW brW s0 s1 s2 hB hE1 hE2 hld hszS hbS bO' bX' bY' HWB HTA Hb HBS HBR HBS1 HBR1 e1 hS
  by_cases hlt:cm < n2
  ·obtain ⟨pc,hpc⟩:∃ pc,prev + cm=pc:=⟨_,rfl⟩
   have hpci:(prev:Int) + (cm:Int)=(pc:Int):=by omega
   have hpcw:IntKind.i64.wrap ((prev:Int) + (cm:Int))=(pc:Int):=by rw [hpci];simp [IntKind.wrap,IntKind.bits,IntKind.signed];omega
   have hpw:IntKind.i64.wrap (prev:Int)=(prev:Int):=by simp [IntKind.wrap,IntKind.bits,IntKind.signed];omega
   have hpcc:(pc:Int)≤(c:Int):=by omega
   have hcmn:(cm:Int)≤(n2:Int):=by omega
   have hcmlt:(cm:Int) < (n2:Int):=by omega
   obtain ⟨B2,hB2⟩:∃ B2,(if c2=cm then A2 else Option.map (λx=>x.add (cm * 2)) A2)=B2:=⟨_,rfl⟩
   have hpcw2:IntKind.i64.wrap (pc:Int)=(pc:Int):=by simp [IntKind.wrap,IntKind.bits,IntKind.signed];omega
   have z2d:W.drew.cell? ⟨w.heap.size,2,none⟩=some (.slice A n c):=z2
   have hv1:Ents W (.slice A pc c) (ls.take pc):=(yk Hv.out pc (by omega)).below HBW.out
   have hv2:Ents W (.slice B2 (n2 - cm) (c2 - cm)) (l.drop cm):=(yl Hv2.out cm (by omega) B2 (λb o e hlt=>by
    subst e
    rw [← hB2,if_neg (by omega)]
    simp [qn])).below HBW.out
   have hbd:Below W.heap.size W (W.alloc (.cells #[.slice A pc c,.slice B2 (n2 - cm) (c2 - cm)] 29)).drew:=below_drewN ((Below.refl _ W).alloc (Nat.le_refl _) _) 1;obtain ⟨k0,k1⟩:=Zu W (.slice A pc c) (.slice B2 (n2 - cm) (c2 - cm)) 29
   have hcon:=J0 (ls.take pc) (l.drop cm) A B2 pc c (n2 - cm) (c2 - cm) W.heap.size (W.alloc (.cells #[.slice A pc c,.slice B2 (n2 - cm) (c2 - cm)] 29)).drew k0 k1 (hv1.below hbd) (hv2.below hbd) (by rw [List.length_take,Hn.out];omega) (by rw [List.length_drop,Hn2.out]) (by omega) (by omega)
   obtain ⟨ns,hns⟩:∃ ns,ls.take pc ++ l.drop cm=ns:=⟨_,rfl⟩;rw [hns] at hcon;obtain ⟨nl,hnl⟩:∃ nl,ns.length=nl:=⟨_,rfl⟩;have HNS:=Uq hns;have HNL:=Uq hnl
   have hnll:nl≤20000:=by rw [← hnl,← hns,List.length_append,List.length_take,List.length_drop,Hn2.out];omega
   have HCON:=Uq hcon;have HBD:=Uq hbd;clear hv1 hv2 hcon hbd k0 k1 hns hnl
   gi_wp2
   refine wpIn_mono (Q:=Qs _) ?_ (Qa _)
   gi_region_with (refine ⟨trivial,(callsIn_wide.2 HCON.out).mono ?_⟩;rintro e W3 ⟨v3,rfl,⟨hE3,hT3⟩,hb3⟩;have hE4:=hE3;obtain ⟨A3,c3,rfl,_⟩:=hE4;rw [HNL.out] at hE3 hT3;rw [HNL.out];have hb4:=HBD.out.trans (hb3.mono HBD.out.size);have bs3:=HBSW.out.below hb4;have br3:=HBRW.out.below hb4;have g2:=bs3.cell 2 _ rfl;have gf:=bs3.free 2)
   all_goals
    clear g2 gf;have bs4:=bs3.set 2 (.slice A3 nl c3)
    have br4:=br3.other ⟨w.heap.size,2,none⟩ (.slice A3 nl c3) (show w.heap.size + 1 ≠ w.heap.size by omega)
    obtain ⟨W4,hW4⟩:∃ W4,W3.setCell ⟨w.heap.size,2,none⟩ (.slice A3 nl c3)=W4:=⟨_,rfl⟩;rw [hW4] at bs4 br4 ⊢;have t0:=bs4.cell 0 _ rfl;have t1:=bs4.cell 1 _ rfl;have t2:=bs4.cell 2 _ rfl;have f0:=br4.free 0;have f1:=br4.free 1;have f2:=br4.free 2;have r0:=br4.cell 0 _ rfl;have r1:=br4.cell 1 _ rfl;have r2:=br4.cell 2 _ rfl;have HBS3:=Uq bs3;have HBR3:=Uq br3;have HBS4:=Uq bs4;have HBR4:=Uq br4;have HB3:=Uq hb3;have HB4:=Uq hb4;have HE3:=Uq hE3;have HT3:=Uq hT3;have HW4:=Uq hW4;clear bs3 br3 bs4 br4 hb3 hb4 hE3 hT3 hW4 b0 z2 z2d hB2 hpci hpcw hpw hpcc hcmn hcmlt hpcw2;have hpc2:=hpc;clear hpc;simp only [Qs,Exit.then]
    have hfin:rl.match_ ls prev pt l=(ns,prev + n2,0):=by
     unfold rl.match_;rw [if_pos Hpt.out,HCM.out,Hn2.out,if_pos hlt,← HNS.out,hpc2]
    have HF:=Uq hfin;clear hfin hpc2
    gi_wp2
    refine kz T V (.slice A n c) ls prev pt l w W4 D _ (.slice A3 nl c3) ?_ ?_ hDD HBR4.out ?_ (.inr (by rw [← HW4.out];exact HT3.out.setCell _ _)) rfl ?_ ?_
    ·rw [← HW4.out];exact (HBW.out.trans (HB4.out.mono HBW.out.size)).setCell (p:=⟨w.heap.size,2,none⟩) (Nat.le_refl _) _
    ·rw [← HW4.out];have hlt:D < W.heap.size:=(Array.getElem?_eq_some_iff.1 HKD.out).1
     rw [Below.heap_setCell _ _ _ D (show D ≠ w.heap.size from λe=>by
      have h1:=HBSW.out;have h2:=HKD.out;unfold Blk at h1;rw [e,h1] at h2
      cases h2)]
     exact (HB4.out.block D hlt).trans HKD.out
    ·rw [HF.out,← HW4.out]
     exact HE3.out.far HBS3.out (by intro x hx s e;subst e;simp at hx) 2 _
    ·rw [HF.out]
     exact zh (by dsimp only;omega)
    ·rw [HF.out]
     rfl
  ·have y0:=HBSW.out.cell 0 _ rfl;have y1:=HBSW.out.cell 1 _ rfl;have f0:=HBRW.out.free 0;have f1:=HBRW.out.free 1;have f2:=HBRW.out.free 2;have r0:=HBRW.out.cell 0 _ rfl;have r1:=HBRW.out.cell 1 _ rfl;have r2:=HBRW.out.cell 2 _ rfl
   have hfin:rl.match_ ls prev pt l=(ls,prev + n2,0):=by
    unfold rl.match_;rw [if_pos Hpt.out,HCM.out,Hn2.out,if_neg hlt]
   have HF:=Uq hfin;clear hfin
   gi_wp2
   refine kz T V (.slice A n c) ls prev pt l w W D _ (.slice A n c) HBW.out HKD.out hDD HBRW.out ?_ (.inl rfl) rfl ?_ ?_
   ·rw [HF.out];exact Hv.out.below HBW.out
   ·rw [HF.out];exact zh (by dsimp only;omega)
   ·rw [HF.out];rfl
theorem kA (T:Nat) (V:Int) (v lv:Value) (ls l:List rl.Ent) (prev pt:Nat) (w:World) (hv:Ents w v ls) (hv2:Ents w lv l) (hl:ls.length≤10000) (hl2:l.length≤10000) (hp:prev < 18446744073709551616) :
  Calls Tryz.prog 373 #[stV T V v,.int .u64 (prev:Int),.int .u64 (pt:Int),lv] w (QT T V v ls prev pt l w):=by
 have hv':=hv;have hv2':=hv2;obtain ⟨A,c,rfl,hc,hcm,_⟩:=hv;obtain ⟨A2,c2,rfl,hc2,hcm2,_⟩:=hv2
 by_cases h:rl.termAt ls prev=(pt,true)
 ·have hpn:prev≤ls.length:=by
   by_cases hlt:ls.length < prev
   ·exfalso
    unfold rl.termAt at h
    rw [if_neg (by omega),if_pos hlt] at h
    cases h
   ·omega
  exact JI T V A A2 ls.length c l.length c2 ls l prev pt w rfl rfl hv' hv2' hl hl2 hpn hcm hc hcm2 hc2 h
 ·exact JJ T V A ls.length c ls prev pt _ l w rfl hv' hl hp h
end Go.Proofs.YtppibhieabideaaGreatDoor
namespace Go.Proofs.YtppibhieabideaaGreatDoor
set_option maxHeartbeats 4000000
namespace rf
open rl (Ent e0)
structure Node where
 id:Int
 many:Int
 term:Nat
 vote:Int
 log:List Ent
 role:Int
 lead:Int
 commit:Nat
 idle:Int
 votes:List Bool
 next:List Nat
 mat:List Nat
structure Msg where
 kind:Int
 frm:Int
 dst:Int
 term:Nat
 index:Nat
 at_:Nat
 commit:Nat
 ents:List Ent
 ok:Bool
def msg0:Msg:=⟨0,0,0,0,0,0,0,[],false⟩
def new (id many:Int) (term:Nat) (vote:Int) (log:List Ent):Node:=⟨id,many,term,vote,log,0,-1,0,0,List.replicate 7 false,List.replicate 7 0,List.replicate 7 0⟩
def size (n:Node):Nat:=(min n.many 7).toNat
def others (n:Node):List Nat:=(List.range (size n)).filter λj=>(j:Int) != n.id
def stamp (n:Node) (m:Msg):Msg:={ m with frm:=n.id,term:=n.term }
def back (n:Node) (t:Nat):Node:=if n.term < t then { n with role:=0,lead:=-1,term:=t,vote:=-1 } else { n with role:=0,lead:=-1 }
def nextOf (n:Node) (to:Nat):Nat:=min (max (n.next.getD to 0) 1) (n.log.length + 1)
def putMsg (n:Node) (to:Nat):Msg:=
 { msg0 with kind:=3,dst:=(to:Int),index:=nextOf n to - 1,at_:=(rl.termAt n.log (nextOf n to - 1)).1,commit:=n.commit,ents:=(n.log.drop (nextOf n to - 1)).take 20 }
def puts (n:Node):List Msg:=(others n).map λj=>stamp n (putMsg n j)
def count (n:Node) (p:Nat→Bool):Nat:=((List.range (size n)).filter p).length
def majority (n:Node) (p:Nat→Bool):Bool:=decide (n.many < 2 * (count n p:Int))
def tallyAt (n:Node):Nat→Node
 | 0=>n
 | i + 1=>if n.commit < i + 1 then (if (rl.termAt n.log (i + 1)).1 == n.term && majority n (λk=>decide (i + 1≤n.mat.getD k 0)) then { n with commit:=i + 1 } else tallyAt n i) else n
def tally (n:Node):Node:=tallyAt n n.log.length
def grown (n:Node) (text:List UInt8):Node:=
 { n with log:=n.log ++ [(n.term,text)],mat:=n.mat.set n.id.toNat (n.log.length + 1),next:=n.next.set n.id.toNat (n.log.length + 1 + 1) }
def add (n:Node) (text:List UInt8):Node × List Msg:=(tally (grown n text),puts (tally (grown n text)))
def led (n:Node):Node:={ n with role:=2,lead:=n.id,idle:=0,next:=List.replicate 7 (n.log.length + 1),mat:=List.replicate 7 0 }
def lead (n:Node):Node × List Msg:=add (led n) []
def elected (n:Node):Bool:=majority n λk=>n.votes.getD k false
def voted (n:Node) (i:Int):Node × List Msg:=
 if 0≤i∧i < 7 then (if elected { n with votes:=n.votes.set i.toNat true } then lead { n with votes:=n.votes.set i.toNat true } else ({ n with votes:=n.votes.set i.toNat true },[])) else (n,[])
def stood (n:Node):Node:={ n with idle:=0,role:=1,lead:=-1,term:=(n.term + 1) % 18446744073709551616,vote:=n.id,votes:=List.replicate 7 false }
def asks (n:Node):List Msg:=(others n).map λ(j:Nat)=>stamp n { msg0 with kind:=1,dst:=(j:Int),index:=n.log.length,at_:=rl.lastTerm n.log }
def stand (n:Node):Node × List Msg:=
 if (voted (stood n) n.id).1.role=2 then voted (stood n) n.id else ((voted (stood n) n.id).1,(voted (stood n) n.id).2 ++ asks (voted (stood n) n.id).1)
def tick (n:Node):Node × List Msg:=
 if n.role=2 then (if 3≤n.idle + 1 then ({ n with idle:=0 },puts { n with idle:=0 }) else ({ n with idle:=n.idle + 1 },[]))
 else (if 10 + 3 * n.id≤n.idle + 1 then stand { n with idle:=n.idle + 1 } else ({ n with idle:=n.idle + 1 },[]))
def askOk (n:Node) (m:Msg):Bool:=decide (m.term=n.term) && (decide (n.vote = -1) || decide (n.vote=m.frm)) && rl.newer n.log m.at_ m.index
def ask (n:Node) (m:Msg):Node × List Msg:=
 if askOk n m then ({ n with vote:=m.frm,idle:=0 },[stamp n { msg0 with kind:=2,dst:=m.frm,ok:=true }]) else (n,[stamp n { msg0 with kind:=2,dst:=m.frm }])
def vote (n:Node) (m:Msg):Node × List Msg:=if n.role=1∧m.term=n.term∧m.ok=true then voted n m.frm else (n,[])
def taken (n:Node) (m:Msg):Node:={ back n m.term with lead:=m.frm,idle:=0 }
def put (n:Node) (m:Msg):Node × List Msg:=
 if m.term < n.term then (n,[stamp n { msg0 with kind:=4,dst:=m.frm }])
 else match rl.match_ (taken n m).log m.index m.at_ m.ents with
  | (l,at_,0)=>({ taken n m with log:=l,commit:=max n.commit (min m.commit at_) },[stamp (taken n m) { msg0 with kind:=4,dst:=m.frm,ok:=true,index:=at_ }])
  | _=>(taken n m,[stamp (taken n m) { msg0 with kind:=4,dst:=m.frm,index:=(taken n m).log.length }])
def heardYes (n:Node) (k:Nat) (ix:Nat):Node:=
 { n with mat:=n.mat.set k (max (n.mat.getD k 0) (min ix n.log.length)),next:=n.next.set k (max (n.mat.getD k 0) (min ix n.log.length) + 1) }
def heardNo (n:Node) (k:Nat) (ix:Nat):Node:=
 { n with next:=n.next.set k (max (min (max (n.next.getD k 0) 1 - 1) (min ix n.log.length + 1)) (n.mat.getD k 0 + 1)) }
def heard (n:Node) (m:Msg):Node × List Msg:=
 if n.role=2∧m.term=n.term then
  (if m.ok=true then
   (if (tally (heardYes n m.frm.toNat m.index)).next.getD m.frm.toNat 0≤n.log.length then (tally (heardYes n m.frm.toNat m.index),[stamp n (putMsg (tally (heardYes n m.frm.toNat m.index)) m.frm.toNat)]) else (tally (heardYes n m.frm.toNat m.index),[]))
  else (heardNo n m.frm.toNat m.index,[stamp n (putMsg (heardNo n m.frm.toNat m.index) m.frm.toNat)]))
 else (n,[])
def meant (n:Node) (m:Msg):Bool:=decide (m.dst=n.id) && decide (0≤m.frm) && decide (m.frm < min n.many 7) && decide (m.frm ≠ n.id) && decide (1≤m.kind) && decide (m.kind≤4)
def fresh (n:Node) (m:Msg):Node:=if n.term < m.term then back n m.term else n
def step (n:Node) (m:Msg):Node × List Msg:=
 if meant n m=true then (if m.kind=1 then ask (fresh n m) m else if m.kind=2 then vote (fresh n m) m else if m.kind=3 then put (fresh n m) m else heard (fresh n m) m) else (n,[])
def propose (n:Node) (text:List UInt8):Node × List Msg × Nat × Int:=
 if n.role ≠ 2∨n.id < 0∨7≤n.id then (n,[],0,170) else if 60000 < text.length then (n,[],0,71) else ((add n text).1,(add n text).2,n.log.length + 1,0)
end rf
end Go.Proofs.YtppibhieabideaaGreatDoor
