/- A part of the walk of the program, and of its plain law. -/
import Derived.Deep.SlicePairs
import Derived.Lib.SmallJoins
import Derived.OpenShut
import Derived.Test.YtppibhieabideaaGreatDoorGt7
import Derived.RegionTactic
import Derived.Deep.RegionLaw
import Derived.Lib.AppendZerosOnto
import Derived.Lib.SliceRun
import Derived.Lib.Walk
import Derived.Stop.RegionWithIn
namespace Go.Proofs.YtppibhieabideaaGreatDoor
set_option maxHeartbeats 4000000
namespace crcm
end crcm
namespace rl
abbrev Ent:=Nat × List UInt8
def e0:Ent:=(0,[])
def lastTerm (ls:List Ent):Nat:=if ls.length=0 then 0 else (ls.getD (ls.length - 1) e0).1
def termAt (ls:List Ent) (i:Nat):Nat × Bool:=if i=0 then (0,true) else if ls.length < i then (0,false) else ((ls.getD (i - 1) e0).1,true)
def newer (ls:List Ent) (term i:Nat):Bool:=decide (lastTerm ls < term) || (decide (term=lastTerm ls) && decide (ls.length≤i))
def common:List Ent→List Ent→Nat
 | a :: r,b :: q=>if a.1=b.1 then common r q + 1 else 0
 | _,_=>0
theorem common_le1 (a b:List Ent):common a b≤a.length:=by
 induction a generalizing b with
 | nil=>simp [common]
 | cons x r ih=>
  cases b with
  | nil=>simp [common]
  | cons y q=>unfold common;split <;> simp;have:=ih q;omega
theorem common_le2 (a b:List Ent):common a b≤b.length:=by
 induction a generalizing b with
 | nil=>simp [common]
 | cons x r ih=>
  cases b with
  | nil=>simp [common]
  | cons y q=>unfold common;split <;> simp;have:=ih q;omega
theorem common_spec (a b:List Ent) (k:Nat) (h:k < common a b):(a.getD k e0).1=(b.getD k e0).1:=by
 induction a generalizing b k with
 | nil=>simp [common] at h
 | cons x r ih=>
  cases b with
  | nil=>simp [common] at h
  | cons y q=>
   unfold common at h
   split at h
   ·cases k with
    | zero=>simpa
    | succ k=>simpa using ih q k (by omega)
   ·omega
theorem common_stop (a b:List Ent) (h1:common a b < a.length) (h2:common a b < b.length):(a.getD (common a b) e0).1 ≠ (b.getD (common a b) e0).1:=by
 induction a generalizing b with
 | nil=>simp at h1
 | cons x r ih=>
  cases b with
  | nil=>simp at h2
  | cons y q=>
   unfold common at h1 h2 ⊢
   split
   ·rename_i e
    rw [if_pos e] at h1 h2;simp only [List.length_cons] at h1 h2
    simpa using ih q (by omega) (by omega)
   ·simpa
def match_ (ls:List Ent) (prev pt:Nat) (l:List Ent):List Ent × Nat × Nat:=
 if termAt ls prev=(pt,true) then
  (if common (ls.drop prev) l < l.length then ls.take (prev + common (ls.drop prev) l) ++ l.drop (common (ls.drop prev) l) else ls,prev + l.length,0)
 else (ls,0,3)
end rl
open Go Go.RowKit Go.Deep
set_option maxRecDepth 100000
theorem zh {a b:Int} (h:a=b):Value.int .u64 a=Value.int .u64 b:=by rw [h]
def EntsAt (w:World) (b o:Nat) (ls:List rl.Ent):Prop:=
 ∀ k,k < ls.length→w.cell? ⟨b,o + k * 2,none⟩=some (.int .u64 ((ls.getD k rl.e0).1:Int))∧w.cell? ⟨b,o + k * 2 + 1,none⟩=some (.string (crcm.mk (ls.getD k rl.e0).2))
def Fine (ls:List rl.Ent):Prop:=ls.length≤maxLen∧∀ x ∈ ls,x.1 < 18446744073709551616∧x.2.length≤maxLen
def Ents (w:World) (v:Value) (ls:List rl.Ent):Prop:=∃ A c,v=.slice A ls.length c∧ls.length≤c∧c≤maxLen∧(0 < ls.length→∃ b o,A=some ⟨b,o,none⟩∧EntsAt w b o ls)
theorem EntsAt.below {w w':World} {b o:Nat} {ls:List rl.Ent} (h:EntsAt w b o ls) (hb:Below w.heap.size w w'):EntsAt w' b o ls:=λk hk=>⟨cell_later hb (h k hk).1,cell_later hb (h k hk).2⟩
theorem Ents.below {w w':World} {v:Value} {ls:List rl.Ent} (h:Ents w v ls) (hb:Below w.heap.size w w'):Ents w' v ls:=by
 obtain ⟨A,c,e,hl,hm,h0⟩:=h
 exact ⟨A,c,e,hl,hm,λh=>by obtain ⟨b,o,e,hc⟩:=h0 h;exact ⟨b,o,e,hc.below hb⟩⟩
theorem add_zero (a:Addr):a.add 0=a:=by simp [Addr.add]
theorem qn (b o n:Nat):(⟨b,o,none⟩:Addr).add n=⟨b,o + n,none⟩:=by unfold Addr.add;split <;> simp_all
end Go.Proofs.YtppibhieabideaaGreatDoor
namespace Go.Proofs.YtppibhieabideaaGreatDoor
set_option maxHeartbeats 4000000
open Go Go.RowKit
set_option maxRecDepth 100000
theorem uG {ls:List rl.Ent} {k:Nat} (h:k < ls.length):ls.getD k rl.e0 ∈ ls:=by
 rw [List.getD_eq_getElem?_getD,List.getElem?_eq_getElem h];exact List.getElem_mem _
theorem Xo {ls:List rl.Ent} {k:Nat} (h:k < ls.length):ls.take (k + 1)=ls.take k ++ [ls.getD k rl.e0]:=by
 rw [List.take_add_one,List.getD_eq_getElem?_getD,List.getElem?_eq_getElem h];rfl
theorem qD {n:Int} (h0:0≤n) (h1:n < 18446744073709551616):IntKind.u64.wrap n=n:=by simp [IntKind.wrap,IntKind.bits,IntKind.signed];omega
def stV (T:Nat) (V:Int) (v:Value):Value:=.agg #[.int .u64 (T:Int),.int .i64 V,v]
theorem zl (w:World) (a b c:Value) (t:TypeId):(w.alloc (.cells #[a,b,c] t)).cell? ⟨w.heap.size,0,none⟩=some a∧(w.alloc (.cells #[a,b,c] t)).cell? ⟨w.heap.size,1,none⟩=some b∧(w.alloc (.cells #[a,b,c] t)).cell? ⟨w.heap.size,2,none⟩=some c:=by
 have h:=heap_alloc_new w (.cells #[a,b,c] t);exact ⟨cell_of_row _ _ 0 _ _ _ h,cell_of_row _ _ 1 _ _ _ h,cell_of_row _ _ 2 _ _ _ h⟩
theorem zn (T:Nat) (V:Int) (v:Value) (ls:List rl.Ent) (i:Nat) (w:World) (hv:Ents w v ls) (hl:ls.length≤1000000) (hi:i < 18446744073709551616) :
  Calls Tryz.prog 368 #[stV T V v,.int .u64 (i:Int)] w λe w'=>e=.returned (.tuple #[.int .u64 ((rl.termAt ls i).1:Nat),.bool (rl.termAt ls i).2])∧Below w.heap.size w w':=by
 obtain ⟨A,c,rfl,hc,hcm,h0⟩:=hv;obtain ⟨n,hn⟩:∃ n,ls.length=n:=⟨_,rfl⟩;have Hn:=Uq hn;rw [hn] at hl h0 hc ⊢;clear hn;unfold stV;have hb:Below w.heap.size w (w.alloc (.cells #[.int .u64 (T:Int),.int .i64 V,.slice A n c] 96)):=(Below.refl _ _).alloc (Nat.le_refl _) _;have Hb:=Uq hb;obtain ⟨b0,b1,b2⟩:=zl w (.int .u64 (T:Int)) (.int .i64 V) (.slice A n c) 96
 by_cases hz:i=0
 ·subst hz;have hfin:rl.termAt ls 0=(0,true):=rfl;rw [hfin];clear hfin h0
  go_enter Tryz.func368,Tryz.ntmps368
  go_wp2
  go_ret2
  exact ⟨rfl,hb⟩
 ·by_cases hlt:n < i
  ·have hfin:rl.termAt ls i=(0,false):=by unfold rl.termAt;rw [if_neg hz,if_pos (by rw [Hn.out];exact hlt)]
   rw [hfin]
   have hzz:((i:Int) == 0)=false:=by rw [beq_eq_false_iff_ne];omega
   clear hfin h0
   go_enter Tryz.func368,Tryz.ntmps368
   go_wp2
   go_ret2
   exact ⟨rfl,hb⟩
  ·obtain ⟨k,rfl⟩:∃ k,i=k + 1:=⟨i - 1,by omega⟩
   have hfin:rl.termAt ls (k + 1)=((ls.getD k rl.e0).1,true):=by unfold rl.termAt;rw [if_neg hz,if_neg (by rw [Hn.out];exact hlt)];rfl
   rw [hfin]
   obtain ⟨b,o,rfl,hA⟩:=h0 (by omega)
   obtain ⟨c0,c1⟩:=hA k (by rw [Hn.out];omega)
   have c0':=cell_later hb c0
   have hzz:(((k + 1:Nat):Int) == 0)=false:=by rw [beq_eq_false_iff_ne];omega
   have hk1:((k + 1:Nat):Int) - 1=(k:Int):=by omega
   have hk2:IntKind.u64.wrap (((k + 1:Nat):Int) - 1)=(k:Int):=by rw [hk1];exact qD (by omega) (by omega)
   clear hfin hA h0 c0 c1 hb;obtain ⟨t,ht⟩:∃ t,ls.getD k rl.e0=t:=⟨_,rfl⟩;rw [ht] at c0' ⊢;clear ht
   go_enter Tryz.func368,Tryz.ntmps368
   go_wp2
   go_ret2
   exact ⟨rfl,Hb.out⟩
theorem Q0 (T:Nat) (V:Int) (v:Value) (ls:List rl.Ent) (w:World) (hv:Ents w v ls) (hl:ls.length≤1000000) :
  Calls Tryz.prog 246 #[stV T V v] w λe w'=>e=.returned (.tuple #[.int .u64 (ls.length:Nat),.int .u64 (rl.lastTerm ls:Nat)])∧Below w.heap.size w w':=by
 obtain ⟨A,c,rfl,hc,hcm,h0⟩:=hv;obtain ⟨n,hn⟩:∃ n,ls.length=n:=⟨_,rfl⟩;have Hn:=Uq hn;rw [hn] at hl h0 hc ⊢;clear hn;unfold stV;have hb:Below w.heap.size w (w.alloc (.cells #[.int .u64 (T:Int),.int .i64 V,.slice A n c] 96)):=(Below.refl _ _).alloc (Nat.le_refl _) _;have Hb:=Uq hb;obtain ⟨b0,b1,b2⟩:=zl w (.int .u64 (T:Int)) (.int .i64 V) (.slice A n c) 96
 by_cases hz:n=0
 ·subst hz
  have hfin:rl.lastTerm ls=0:=by unfold rl.lastTerm;rw [if_pos Hn.out]
  rw [hfin];clear hfin h0
  go_enter Tryz.func246,Tryz.ntmps246
  go_wp2
  go_ret2
  exact ⟨rfl,hb⟩
 ·obtain ⟨k,hk⟩:∃ k,n=k + 1:=⟨n - 1,by omega⟩
  have hfin:rl.lastTerm ls=(ls.getD k rl.e0).1:=by unfold rl.lastTerm;rw [Hn.out,if_neg hz,hk];rfl
  rw [hfin]
  obtain ⟨b,o,rfl,hA⟩:=h0 (by omega)
  obtain ⟨c0,c1⟩:=hA k (by rw [Hn.out];omega)
  have c0':=cell_later hb c0
  have hzz:((n:Int) == 0)=false:=by rw [beq_eq_false_iff_ne];omega
  have hk1:(n:Int) - 1=(k:Int):=by omega
  have hk2:IntKind.i64.wrap ((n:Int) - 1)=(k:Int):=by rw [hk1];simp [IntKind.wrap,IntKind.bits,IntKind.signed];omega
  have hkn:(k:Int) < (n:Int):=by omega
  clear hfin hA h0 c0 c1 hb hk;obtain ⟨t,ht⟩:∃ t,ls.getD k rl.e0=t:=⟨_,rfl⟩;rw [ht] at c0' ⊢;clear ht
  go_enter Tryz.func246,Tryz.ntmps246
  go_wp2
  go_quiet (fail)
  go_wp2
  go_ret2
  exact ⟨rfl,below_drewN Hb.out _⟩
def cmpV (a b:Nat):Int:=if a < b then -1 else if b < a then 1 else 0
theorem yi (a:Nat) (w:World):Calls Tryz.prog 379 #[.int .u64 (a:Int)] w λe w'=>e=.returned (.bool false)∧w=w':=by
 have h:((a:Int) != (a:Int))=false:=by simp
 go_enter Tryz.func379,Tryz.ntmps379
 go_wp2;go_ret;exact ⟨rfl,rfl⟩
theorem yI (a b:Nat) (w:World):Calls Tryz.prog 277 #[.int .u64 (a:Int),.int .u64 (b:Int)] w λe w'=>e=.returned (.int .i64 (cmpV a b))∧w=w':=by
 unfold cmpV
 by_cases h1:a < b
 ·rw [if_pos h1]
  go_enter Tryz.func277,Tryz.ntmps277
  go_wp2_with (go_at_call 379;refine (yi _ _).mono ?_;rintro e w1 ⟨rfl,rfl⟩)
  go_ret;exact ⟨rfl,rfl⟩
 ·rw [if_neg h1]
  by_cases h2:b < a
  ·rw [if_pos h2]
   go_enter Tryz.func277,Tryz.ntmps277
   go_wp2_with (go_at_call 379;refine (yi _ _).mono ?_;rintro e w1 ⟨rfl,rfl⟩)
   go_ret;exact ⟨rfl,rfl⟩
  ·rw [if_neg h2]
   go_enter Tryz.func277,Tryz.ntmps277
   go_wp2_with (go_at_call 379;refine (yi _ _).mono ?_;rintro e w1 ⟨rfl,rfl⟩)
   go_ret;exact ⟨rfl,rfl⟩
theorem or_any (x y:Int) (g:Nat) (w:World) (h0:w.cell? ⟨g,0,none⟩=some (.int .i64 x)) (h1:w.cell? ⟨g,1,none⟩=some (.int .i64 y)) :
  Calls Tryz.prog 190 #[.slice (some ⟨g,0,none⟩) 2 2] w λe w'=>e=.returned (.int .i64 (if x=0 then y else x))∧w=w':=by
 by_cases hx:x=0
 ·subst hx;rw [if_pos rfl]
  by_cases hy:y=0
  ·subst hy
   go_enter Tryz.func190,Tryz.ntmps190
   go_wp2;refine wp_loop_rounds 3 ?_;rw [rounds_succ];go_wp2;rw [rounds_succ];go_wp2;rw [rounds_succ];go_wp2;go_ret;exact ⟨rfl,rfl⟩
  ·have hy':(y != 0)=true:=by rw [bne_iff_ne];exact hy
   go_enter Tryz.func190,Tryz.ntmps190
   go_wp2;refine wp_loop_rounds 3 ?_;rw [rounds_succ];go_wp2;rw [rounds_succ];go_wp2;go_ret;exact ⟨rfl,rfl⟩
 ·rw [if_neg hx]
  have hx':(x != 0)=true:=by rw [bne_iff_ne];exact hx
  go_enter Tryz.func190,Tryz.ntmps190
  go_wp2;refine wp_loop_rounds 3 ?_;rw [rounds_succ];go_wp2;go_ret;exact ⟨rfl,rfl⟩
theorem Zu (w:World) (a b:Value) (t:TypeId):(w.alloc (.cells #[a,b] t)).cell? ⟨w.heap.size,0,none⟩=some a∧(w.alloc (.cells #[a,b] t)).cell? ⟨w.heap.size,1,none⟩=some b:=by
 have h:=heap_alloc_new w (.cells #[a,b] t);exact ⟨cell_of_row _ _ 0 _ _ _ h,cell_of_row _ _ 1 _ _ _ h⟩
theorem XK (ls:List rl.Ent) (term i:Nat):decide ((0:Int)≤if cmpV term (rl.lastTerm ls)=0 then cmpV i ls.length else cmpV term (rl.lastTerm ls))=rl.newer ls term i:=by
 unfold rl.newer cmpV;obtain ⟨x,hx⟩:∃ x,rl.lastTerm ls=x:=⟨_,rfl⟩;rw [hx]
 by_cases h1:term < x
 ·have a1:¬ x < term:=by omega
  have a2:¬ term=x:=by omega
  simp [h1,a1,a2]
 ·by_cases h2:x < term
  ·simp [h1,h2]
  ·have a2:term=x:=by omega
   subst a2
   simp
   by_cases h3:i < ls.length
   ·have:¬ ls.length≤i:=by omega
    simp [h3,this]
   ·by_cases h4:ls.length < i
    ·have:ls.length≤i:=by omega
     simp [h3,h4,this]
    ·have:ls.length≤i:=by omega
     simp [h3,h4,this]
theorem XL (T:Nat) (V:Int) (v:Value) (ls:List rl.Ent) (term i:Nat) (w:World) (hv:Ents w v ls) (hl:ls.length≤1000000) :
  Calls Tryz.prog 372 #[stV T V v,.int .u64 (term:Int),.int .u64 (i:Int)] w λe w'=>e=.returned (.bool (rl.newer ls term i))∧Below w.heap.size w w':=by
 have hfin:=XK ls term i;obtain ⟨b0,b1,b2⟩:=zl w (.int .u64 (T:Int)) (.int .i64 V) v 96;have hb:Below w.heap.size w (w.alloc (.cells #[.int .u64 (T:Int),.int .i64 V,v] 96)):=(Below.refl _ _).alloc (Nat.le_refl _) _;have hla:=Q0 T V v ls _ (hv.below hb) hl;have Hfin:=Uq hfin;have HLA:=Uq hla;have Hb:=Uq hb;have Hv:=Uq hv;clear hfin hla hv;unfold stV at *
 go_enter Tryz.func372,Tryz.ntmps372
 go_wp2_with fail;refine HLA.out.mono ?_;rintro e w1 ⟨rfl,hb1⟩;have HB1:=Uq (Hb.out.trans (hb1.mono Hb.out.size));clear hb1;go_wp2_with fail;refine (yI _ _ _).mono ?_;rintro e w2 ⟨rfl,rfl⟩;go_wp2_with fail;refine (yI _ _ _).mono ?_;rintro e w2 ⟨rfl,rfl⟩;have hpos:=Hfin.out;obtain ⟨x,hx⟩:∃ x,cmpV term (rl.lastTerm ls)=x:=⟨_,rfl⟩;obtain ⟨y,hy⟩:∃ y,cmpV i ls.length=y:=⟨_,rfl⟩;rw [hx,hy] at hpos;simp only [hx,hy];obtain ⟨c0,c1⟩:=Zu w1 (.int .i64 x) (.int .i64 y) 3;have hor:=or_any x y _ _ c0 c1;have HOR:=Uq hor;have HP:=Uq hpos;clear hx hy hor hpos;go_wp2_with fail;refine HOR.out.mono ?_;rintro e w3 ⟨rfl,rfl⟩
 obtain ⟨z,hz⟩:∃ z,(if x=0 then y else x)=z:=⟨_,rfl⟩
 have hp2:=HP.out;rw [hz] at hp2 ⊢;clear hz;have HP2:=Uq hp2;clear hp2;go_wp2;go_ret
 exact ⟨Zl (by rw [← HP2.out];rfl),HB1.out.alloc (by have:=HB1.out.size;simpa using this) _⟩
def Blk (w:World) (g:Nat) (vs:List Value) (t:TypeId):Prop:=w.heap[g]?=some (.cells vs.toArray t (0,0))
theorem Blk.cell {w:World} {g:Nat} {vs:List Value} {t:TypeId} (h:Blk w g vs t) (j:Nat) (u:Value) (hj:vs[j]?=some u):w.cell? ⟨g,j,none⟩=some u:=by
 rw [cell_of_row w g j _ _ (0,0) h];simpa using hj
theorem Blk.free {w:World} {g:Nat} {vs:List Value} {t:TypeId} (h:Blk w g vs t) (j:Nat):w.frozen? ⟨g,j,none⟩=false:=by
 unfold Blk at h;simp [World.frozen?,h]
theorem Blk.lt {w:World} {g:Nat} {vs:List Value} {t:TypeId} (h:Blk w g vs t):g < w.heap.size:=(Array.getElem?_eq_some_iff.1 h).1
theorem Blk.set {w:World} {g:Nat} {vs:List Value} {t:TypeId} (h:Blk w g vs t) (j:Nat) (u:Value):Blk (w.setCell ⟨g,j,none⟩ u) g (vs.set j u) t:=by
 unfold Blk at h ⊢;simp only [World.setCell,Array.getElem?_modify,h,if_true]
 simp
theorem Blk.other {w:World} {g:Nat} {vs:List Value} {t:TypeId} (h:Blk w g vs t) (a:Addr) (u:Value) (hne:g ≠ a.block):Blk (w.setCell a u) g vs t:=by
 unfold Blk at h ⊢;rw [← h];exact Below.heap_setCell _ _ _ _ hne
theorem Blk.grown {w w':World} {g:Nat} {vs:List Value} {t:TypeId} {row:Option Nat} (h:Blk w g vs t) (hg:w.grownBy w' row) (hne:some g ≠ row):Blk w' g vs t:=(hg.block g h.lt hne).trans h
theorem Blk.alloc {w:World} {g:Nat} {vs:List Value} {t:TypeId} (h:Blk w g vs t) (o:Obj):Blk (w.alloc o) g vs t:=h.grown (World.grownBy_alloc w o none) (by simp)
theorem Blk.new (w:World) (vs:List Value) (t:TypeId):Blk (w.alloc (.cells vs.toArray t)) w.heap.size vs t:=heap_alloc_new w _
theorem Blk.below {w w':World} {g:Nat} {vs:List Value} {t:TypeId} (h:Blk w g vs t) (hb:Below w.heap.size w w'):Blk w' g vs t:=(hb.block g h.lt).trans h
def qg (ls:List rl.Ent):List Value:=ls.flatMap λt=>[.int .u64 (t.1:Int),.string (crcm.mk t.2)]
theorem qV (a b:List rl.Ent):qg (a ++ b)=qg a ++ qg b:=by unfold qg;rw [List.flatMap_append]
theorem ZR (a:List rl.Ent):(qg a).length=a.length * 2:=by
 induction a with
 | nil=>rfl
 | cons x r ih=>rw [show x :: r=[x] ++ r from rfl,qV,List.length_append,ih];simp [qg];omega
theorem Qd (a:List rl.Ent):∀ u ∈ qg a,u.oneCell'=true:=by
 intro u hu;obtain ⟨t,_,ht⟩:=List.mem_flatMap.1 hu
 simp at ht
 rcases ht with rfl | rfl <;> rfl
theorem Qx (ls:List rl.Ent) (k:Nat) (h:k < ls.length):(qg ls)[k * 2]?=some (.int .u64 ((ls.getD k rl.e0).1:Int))∧(qg ls)[k * 2 + 1]?=some (.string (crcm.mk (ls.getD k rl.e0).2)):=by
 induction ls generalizing k with
 | nil=>simp at h
 | cons x r ih=>
  rw [show x :: r=[x] ++ r from rfl,qV]
  cases k with
  | zero=>exact ⟨rfl,rfl⟩
  | succ k=>
   have hl:(qg [x]).length=2:=rfl
   have:=ih k (by simpa using h)
   rw [List.getElem?_append_right (by rw [hl];omega),List.getElem?_append_right (by rw [hl];omega),hl]
   rw [show (k + 1) * 2 - 2=k * 2 from by omega,show (k + 1) * 2 + 1 - 2=k * 2 + 1 from by omega]
   exact this
theorem Qw {w:World} {base:Nat} {e:TypeId} {v:Value} {ls:List rl.Ent} (h:w.ownsRow base e 2 v ls.length (qg ls)):Ents w v ls:=by
 rcases h.2 with ⟨rfl,h0⟩ | ⟨g,cap,cur,rfl,hg,hh,hcap,hmax,hcur,hrest⟩
 ·exact ⟨none,0,by rw [h0],by omega,by unfold maxLen;omega,λh=>by omega⟩
 ·refine ⟨_,cap,rfl,by omega,by omega,λ_=>⟨g,0,rfl,λk hk=>?_⟩⟩
  obtain ⟨h0,h1⟩:=Qx ls k hk;have e0:=h.cells (g:=g) rfl _ _ h0;have e1:=h.cells (g:=g) rfl _ _ h1;rw [qn] at e0 e1
  exact ⟨e0,by rw [Nat.add_assoc];exact e1⟩
theorem qA {P:Program} {ops:Array Oper} {o:Oper} {a:Act} {w:World} {K:Act→World→Prop} {Q:Exit→Act→World→Prop} {E:Prop}
  (hg:o.guard=none) (s x:Operand) (t:TypeId) (hop:o.op=Op.call { callee:=Callee.builtin Builtin.append,args:=#[s,x],argTypes:=#[t,t] })
  (base:Nat) (e:TypeId) (i:TypeInfo) (z:Value) (size bytes:Nat) (h1:P.underlying t=some (.slice e)) (h2:P.info? e=some i) (h3:i.zero=some z) (h4:i.size=size) (h5:i.bytes=bytes) (h6:z.cells.size=size) (h7:0 < size)
  (v:Value) (n:Nat) (xs:List Value) (hs:a.eval s=v) (hown:w.ownsRow base e size v n xs)
  (ad:Addr) (m c:Nat) (news:List Value) (hx:a.eval x=.slice (some ad) m c) (hn:news.length=m * size) (hc:∀ j u,news[j]?=some u→w.cell? (ad.add j)=some u) (h1c:∀ u ∈ news,u.oneCell'=true)
  (b1:n + m≤maxLen) (b2:(n + m) * bytes≤140737488355328) (hbase:base≤w.heap.size)
  (hK:∀ v' w',w'.ownsRow base e size v' (n + m) (xs ++ news)→w.grownBy w' v.ownBlock→K (a.put o.dst v') w') :
  if Region.wanted o (yielded ops a.tmps)=true then Oper.wp P o a w K Q else E:=by
 have hw:Region.wanted o (yielded ops a.tmps)=true:=by simp [Region.wanted,hg]
 rw [if_pos hw];obtain ⟨v',w',hrun,r1,r2,_⟩:=run_append_own (P:=P) w base t o.type e i z size bytes h1 h2 h3 h4 h5 h6 h7 v n xs hown ad m c news hn hc h1c b1 b2 hbase;unfold Oper.wp
 simp [execOp,hop,resolve,invoke,builtin,hs,hx,hrun,Result.andThen]
 exact hK v' w' r1 r2
theorem Zs (w:World) (x y:Value) (e:TypeId):∀ j u,[x,y][j]?=some u→(w.alloc (.cells #[x,y] e)).cell? ((⟨w.heap.size,0,none⟩:Addr).add j)=some u:=by
 intro j u hj;have h:=heap_alloc_new w (.cells #[x,y] e);rw [qn,cell_of_row _ _ _ _ _ _ h]
 simpa using hj
theorem Ql (w:World) (a:Addr) (v:Value):w.grownBy (w.setCell a v) (some a.block):=⟨rfl,rfl,rfl,by simp [World.setCell],λk _ hne=>Below.heap_setCell _ _ _ k (λe=>hne (by rw [e]))⟩
theorem yG {a b c:World} {row:Option Nat} (h:a.grownBy b row) (k:b.grownBy c row):a.grownBy c row:=
 ⟨k.os.trans h.os,k.tape.trans h.tape,k.output.trans h.output,Nat.le_trans h.size k.size,λi hi hne=>(k.block i (Nat.lt_of_lt_of_le hi h.size) hne).trans (h.block i hi hne)⟩
theorem Qh:(Tryz.prog.info? 96).map (·.size)=some 3:=by kernel_rfl
theorem ql {w:World} {base:Nat} {e:TypeId} {size n:Nat} {v:Value} {xs:List Value} (h:w.ownsRow base e size v n xs):∃ A c,v=.slice A n c:=by
 rcases h.2 with ⟨rfl,h0⟩ | ⟨g,cap,cur,rfl,_⟩
 ·exact ⟨none,0,by rw [h0]⟩
 ·exact ⟨_,_,rfl⟩
theorem uM {la lb:List rl.Ent} (hl:la.length=lb.length) (h:∀ k,k < la.length→la.getD k rl.e0=lb.getD k rl.e0):la=lb:=by
 apply List.ext_getElem hl
 intro k h1 h2;have:=h k h1
 rwa [List.getD_eq_getElem?_getD,List.getD_eq_getElem?_getD,List.getElem?_eq_getElem h1,List.getElem?_eq_getElem h2] at this
theorem vR (w:World) (vs us:List Value) (t u:TypeId):Below w.heap.size w ((w.alloc (.cells vs.toArray t)).alloc (.cells us.toArray u)):=
 ((Below.refl _ w).alloc (Nat.le_refl _) _).alloc (by simp) _
section
variable {P:Program} {w:World} {base:Nat} {e:TypeId} {size bytes:Nat} {v:Value} {n:Nat} {xs:List Value}
theorem zv (w:World) (t ty e:TypeId) (i:TypeInfo) (ht:P.underlying t=some (.slice e)) (hi:P.info? e=some i) (B A:Option Addr) (n cap c:Nat) (hB:B=none→n=0∧cap=0) (hn:n≤cap) (hcap:n≤maxLen) :
  (Builtin.append_ #[t,t] ty #[.slice B n cap,.slice A 0 c]).run P w=.ok (.slice B n cap) w:=by
 unfold maxLen at hcap
 have h63:¬ (9223372036854775807:Int) < (n:Int):=by omega
 cases B with
 | none=>
  obtain ⟨rfl,rfl⟩:=hB rfl
  cases A <;> simp [Builtin.append_,run_underlying ht,sizeOf,typeInfo,hi,Builtin.lenOf,Builtin.firstCells,loadCells,loadCellsFrom,Result.andThen]
 | some b=>
  cases A <;> simp [Builtin.append_,run_underlying ht,sizeOf,typeInfo,hi,Builtin.lenOf,Builtin.firstCells,loadCells,loadCellsFrom,hn,storeCells,Result.andThen]
theorem Yl (w:World) (base:Nat) (t ty e:TypeId) (i:TypeInfo) (z:Value) (size bytes:Nat) (ht:P.underlying t=some (.slice e)) (hi:P.info? e=some i) (hz:i.zero=some z)
  (hsize:i.size=size) (hby:i.bytes=bytes) (hzs:z.cells.size=size) (hsz:0 < size)
  (v:Value) (n:Nat) (xs:List Value) (hown:w.ownsRow base e size v n xs)
  (A:Option Addr) (m c:Nat) (news:List Value) (hl:news.length=m * size) (hA:0 < m→∃ ad,A=some ad∧∀ j u,news[j]?=some u→w.cell? (ad.add j)=some u) (h1:∀ u ∈ news,u.oneCell'=true)
  (h63:n + m≤maxLen) (hbytes:(n + m) * bytes≤140737488355328) (hbase:base≤w.heap.size) :
  ∃ v' w',(Builtin.append_ #[t,t] ty #[v,.slice A m c]).run P w=.ok v' w'∧w'.ownsRow base e size v' (n + m) (xs ++ news)∧w.grownBy w' v.ownBlock:=by
 by_cases hm:m=0
 ·subst hm
  obtain rfl:news=[]:=List.eq_nil_of_length_eq_zero (by omega)
  refine ⟨v,w,?_,by simpa using hown,⟨rfl,rfl,rfl,Nat.le_refl _,λ_ _ _=>rfl⟩⟩
  rcases hown.2 with ⟨rfl,rfl⟩ | ⟨g,cap,cur,rfl,_,_,hnc,hcm,_,_⟩
  ·exact zv w t ty e i ht hi none A 0 0 c (λ_=>⟨rfl,rfl⟩) (Nat.le_refl _) (Nat.zero_le _)
  ·exact zv w t ty e i ht hi _ A n cap c (λh=>by cases h) hnc (by omega)
 ·obtain ⟨ad,rfl,hc⟩:=hA (by omega)
  obtain ⟨v',w',h1,h2,h3,_⟩:=run_append_own (P:=P) w base t ty e i z size bytes ht hi hz hsize hby hzs hsz v n xs hown ad m c news hl hc h1 h63 hbytes hbase;exact ⟨v',w',h1,h2,h3⟩
theorem qo {ops:Array Oper} {rest:List Oper} {o:Oper} {a:Act} {Q:Exit→Act→World→Prop} (w:World) (hgd:o.guard=none) (s x:Operand) (t:TypeId)
  (ho:o.op=.call { callee:=.builtin .append,args:=#[s,x],argTypes:=#[t,t] })
  (base:Nat) (e:TypeId) (i:TypeInfo) (z:Value) (size bytes:Nat) (ht:P.underlying t=some (.slice e)) (hi:P.info? e=some i) (hz:i.zero=some z)
  (hsize:i.size=size) (hby:i.bytes=bytes) (hzs:z.cells.size=size) (hsz:0 < size)
  (v:Value) (n:Nat) (xs:List Value) (hs:a.eval s=v) (hown:w.ownsRow base e size v n xs)
  (A:Option Addr) (m c:Nat) (news:List Value) (hx:a.eval x=.slice A m c) (hl:news.length=m * size) (hA:0 < m→∃ ad,A=some ad∧∀ j u,news[j]?=some u→w.cell? (ad.add j)=some u) (h1:∀ u ∈ news,u.oneCell'=true)
  (h63:n + m≤maxLen) (hbytes:(n + m) * bytes≤140737488355328) (hbase:base≤w.heap.size)
  (h:∀ v' w',w'.ownsRow base e size v' (n + m) (xs ++ news)→w.grownBy w' v.ownBlock→wpList P ops Q rest (a.put o.dst v') w'):wpList P ops Q (o :: rest) a w:=by
 refine wpList_plain hgd λK hK=>?_
 obtain ⟨v',w',hrun,r1,r2⟩:=Yl (P:=P) w base t o.type e i z size bytes ht hi hz hsize hby hzs hsz v n xs hown A m c news hl hA h1 h63 hbytes hbase;unfold Oper.wp
 simp [execOp,ho,resolve,invoke,builtin,hs,hx,hrun,Result.andThen]
 exact hK _ _ (h v' w' r1 r2)
end
theorem Ents.cells {w:World} {A:Option Addr} {n c:Nat} {ls:List rl.Ent} (h:Ents w (.slice A n c) ls):(qg ls).length=n * 2∧(0 < n→∃ ad,A=some ad∧∀ j u,(qg ls)[j]?=some u→w.cell? (ad.add j)=some u):=by
 obtain ⟨A',c',e,_,_,h0⟩:=h
 obtain ⟨rfl,rfl,rfl⟩:A=A'∧n=ls.length∧c=c':=by injection e with e1 e2 e3;exact ⟨e1,e2,e3⟩
 refine ⟨ZR ls,λhn=>?_⟩
 obtain ⟨b,o,rfl,hA⟩:=h0 hn
 refine ⟨_,rfl,λj u hj=>?_⟩
 have hjl:j < ls.length * 2:=by rw [← ZR];exact (List.getElem?_eq_some_iff.1 hj).1
 obtain ⟨c0,c1⟩:=hA (j / 2) (by omega)
 obtain ⟨g0,g1⟩:=Qx ls (j / 2) (by omega)
 rw [qn]
 rcases Nat.mod_two_eq_zero_or_one j with e | e
 ·have:j / 2 * 2=j:=by omega
  rw [this] at c0 g0;rw [c0,← g0,hj]
 ·have:j / 2 * 2 + 1=j:=by omega
  rw [Nat.add_assoc,this] at c1;rw [this] at g1;rw [c1,← g1,hj]
theorem zj:(Tryz.prog.info? 36).map (λi=>(i.zero,i.size,i.bytes))=some (some (.agg #[.int .u64 0,.string .empty]),2,24):=by kernel_rfl
set_option maxHeartbeats 2000000 in
theorem uA (n:Nat) (w:World) (hn:n≤1000000) :
  Calls Tryz.prog 481 #[.slice none 0 0,.int .i64 (n:Int)] w λe w'=>∃ v,e=.returned v∧w'.ownsRow w.heap.size 36 2 v 0 []∧Below w.heap.size w w':=by
 obtain ⟨i0,hi,hz0,hz1,hz2⟩:=info_parts zj
 by_cases h0:n=0
 ·subst h0
  go_enter Tryz.func481,Tryz.ntmps481
  go_wp2;go_ret;exact ⟨_,rfl,World.ownsRow_nil _ _ _ _,Below.refl _ _⟩
 ·have hrz:∀ ty,(Builtin.append_ #[29,3] ty #[.slice none 0 0,.int .i64 (n:Int)]).run Tryz.prog w=.ok _ _:=λty=>
   Lib.run_append_grow_zeros w 29 3 ty 36 i0 _ .i64 .i64 Tryz.underlying29 Tryz.underlying3 hi hz0 none 0 0 [] (run_firstCells_none w.drew i0.size 0 0 0) n (by omega) (by omega) (by omega) (by omega)
    (by rw [hz2];omega) (growslice_fits (by omega) (by rw [hz2];omega))
  have hge:=grownCap_ge w (0 + n) 0 36
  have hle:=grownCap_le_maxLen w (0 + n) 0 36 (by unfold maxLen;omega)
  obtain ⟨G,hG⟩:∃ G,grownCap w (0 + n) 0 36=G:=⟨_,rfl⟩;rw [hG,Nat.zero_add] at hrz hge;rw [hG] at hle
  have hw2:Below w.heap.size w (w.drew.alloc (.cells (#[] ++ Builtin.zeroCells (Value.agg #[.int .u64 0,.string .empty]).cells n ++ Builtin.zeroCells (Value.agg #[.int .u64 0,.string .empty]).cells (G - n)) 36)):=
   (below_drewN (Below.refl _ w) 1).alloc (Nat.le_refl _) _
  have hb2:=heap_alloc_new w.drew (.cells (#[] ++ Builtin.zeroCells (Value.agg #[.int .u64 0,.string .empty]).cells n ++ Builtin.zeroCells (Value.agg #[.int .u64 0,.string .empty]).cells (G - n)) 36)
  have hsz:(#[] ++ Builtin.zeroCells (Value.agg #[.int .u64 0,.string .empty]).cells n ++ Builtin.zeroCells (Value.agg #[.int .u64 0,.string .empty]).cells (G - n)).size=G * 2:=by
   rw [Array.size_append,Array.size_append,size_zeroCells,size_zeroCells]
   simp [Value.cells]
   omega
  obtain ⟨W,hW⟩:∃ W,(w.drew.alloc (.cells (#[] ++ Builtin.zeroCells (Value.agg #[.int .u64 0,.string .empty]).cells n ++ Builtin.zeroCells (Value.agg #[.int .u64 0,.string .empty]).cells (G - n)) 36))=W:=⟨_,rfl⟩;rw [hW] at hw2 hb2
  have hrz2:∀ ty,(Builtin.append_ #[29,3] ty #[.slice none 0 0,.int .i64 (n:Int)]).run Tryz.prog w=.ok (.slice (some ⟨w.heap.size,0,none⟩) n G) W:=λty=>by rw [hrz ty,hW]
  have Hw2:=Uq hw2;have Hb2:=Uq hb2;have Hsz:=Uq hsz;unfold maxLen at hle;clear hrz hW hw2 hb2 hsz hG
  go_enter Tryz.func481,Tryz.ntmps481
  go_wp2_with (at_builtin;refine Lib.wpList_append_run _ rfl _ _ _ _ rfl _ _ rfl rfl _ _ (hrz2 _) ?_)
  go_ret
  refine ⟨_,rfl,⟨rfl,.inr ⟨w.heap.size,G,_,rfl,Nat.le_refl _,Hb2.out,Nat.zero_le _,hle,Hsz.out,by simp⟩⟩,Hw2.out⟩
def RowT (w:World) (u:Value):Prop:=∀ b o n c,u=.slice (some ⟨b,o,none⟩) n c→∃ cur,w.heap[b]?=some (.cells cur 36 (0,0))
theorem RowT.of_owns {w:World} {base n:Nat} {u:Value} {xs:List Value} (h:w.ownsRow base 36 2 u n xs):RowT w u:=λb o n c e=>by
 subst e
 rcases h.2 with ⟨e1,_⟩ | ⟨g,cap,cur,e1,_,hh,_⟩
 ·cases e1
 ·injection e1 with e1 _ _
  injection e1 with e1
  injection e1 with e1 _ _
  subst e1;exact ⟨cur,hh⟩
theorem RowT.setCell {w:World} {u:Value} (h:RowT w u) (a:Addr) (x:Value):RowT (w.setCell a x) u:=λb o n c e=>by
 obtain ⟨cur,hc⟩:=h b o n c e
 by_cases hb:b=a.block
 ·subst hb;simp only [World.setCell,Array.getElem?_modify,if_true,hc,Option.map_some];exact ⟨_,rfl⟩
 ·exact ⟨cur,(Below.heap_setCell _ _ _ b hb).trans hc⟩
theorem J0 (la lb:List rl.Ent) (A1 A2:Option Addr) (n1 c1 n2 c2 g:Nat) (w:World) (h0:w.cell? ⟨g,0,none⟩=some (.slice A1 n1 c1)) (h1:w.cell? ⟨g,1,none⟩=some (.slice A2 n2 c2))
  (hp1:Ents w (.slice A1 n1 c1) la) (hp2:Ents w (.slice A2 n2 c2) lb) (hl1:la.length=n1) (hl2:lb.length=n2) (hn1:n1≤100000) (hn2:n2≤100000) :
  Calls Tryz.prog 434 #[.slice (some ⟨g,0,none⟩) 2 2] w λe w'=>∃ v,e=.returned v∧(Ents w' v (la ++ lb)∧RowT w' v)∧Below w.heap.size w w':=by
 obtain ⟨i0,hi,hz0,hz1,hz2⟩:=info_parts zj;obtain ⟨m,hm⟩:∃ m,n1 + n2=m:=⟨_,rfl⟩
 have hmi:(n1:Int) + (n2:Int)=(m:Int):=by omega
 have hgn:=uA m w (by omega)
 have HGN:=Uq hgn;have HP1:=Uq hp1;have HP2:=Uq hp2;have Hl1:=Uq hl1;have Hl2:=Uq hl2
 have hm2:n1 + n2≤200000:=by omega
 have Hm:=Uq hm;clear hgn hp1 hp2 hl1 hl2 hm
 go_enter Tryz.func434,Tryz.ntmps434
 go_wp2;refine wp_loop_rounds 3 ?_;rw [rounds_succ];go_wp2;rw [rounds_succ];go_wp2;rw [rounds_succ];go_wp2_with fail;refine HGN.out.mono ?_;rintro e w1 ⟨v1,rfl,hown1,hb1⟩;have x0:=cell_later hb1 h0;have x1:=cell_later hb1 h1;have hq1:=HP1.out.below hb1;have HB1:=Uq hb1;have HQ1:=Uq hq1;clear hb1 hq1;go_wp2_with fail;refine wp_loop_rounds 3 ?_;rw [rounds_succ]
 go_wp2_with (at_builtin;refine qo _ rfl _ _ 29 rfl w.heap.size 36 i0 _ 2 24 Tryz.underlying29 hi hz0 hz1 hz2 rfl (by decide) v1 0 [] rfl hown1 A1 n1 c1 (qg la) rfl ?c1 ?c2 ?c3 ?c4 ?c5 ?c6 ?_)
 case c1=>exact HQ1.out.cells.1
 case c2=>exact HQ1.out.cells.2
 case c3=>exact Qd _
 case c4=>unfold maxLen;omega
 case c5=>omega
 case c6=>exact HB1.out.size
 intro v2 w2 hown2 hgrow2
 have hb2:Below w.heap.size w w2:=HB1.out.grown hgrow2 HB1.out.size (λj hj=>(hown1.lt j hj).1)
 have y0:=cell_later hb2 h0;have y1:=cell_later hb2 h1;have hq2:=HP2.out.below hb2;have HB2:=Uq hb2;have HQ2:=Uq hq2;clear hb2 hq2 hgrow2 hown1;go_wp2;rw [rounds_succ]
 go_wp2_with (at_builtin;refine qo _ rfl _ _ 29 rfl w.heap.size 36 i0 _ 2 24 Tryz.underlying29 hi hz0 hz1 hz2 rfl (by decide) v2 _ _ rfl hown2 A2 n2 c2 (qg lb) rfl ?c1 ?c2 ?c3 ?c4 ?c5 ?c6 ?_)
 case c1=>exact HQ2.out.cells.1
 case c2=>exact HQ2.out.cells.2
 case c3=>exact Qd _
 case c4=>unfold maxLen;omega
 case c5=>omega
 case c6=>exact HB2.out.size
 intro v3 w3 hown3 hgrow3
 have hb3:Below w.heap.size w w3:=HB2.out.grown hgrow3 HB2.out.size (λj hj=>(hown2.lt j hj).1)
 have HB3:=Uq hb3;clear hb3 hgrow3 hown2;go_wp2;rw [rounds_succ];go_wp2;go_ret
 have hown4:w3.ownsRow w.heap.size 36 2 v3 (la ++ lb).length (qg (la ++ lb)):=by
  rw [qV,List.length_append,Hl1.out,Hl2.out]
  simpa using hown3
 exact ⟨v3,rfl,⟨Qw hown4,RowT.of_owns hown4⟩,HB3.out⟩
attribute [local go_sem] Oper.semAt_some
def entV (t:rl.Ent):Value:=.agg #[.int .u64 (t.1:Int),.string (crcm.mk t.2)]
def encB (x:rl.Ent × rl.Ent):Array Value:=#[entV x.1,entV x.2]
def KeepB (n₀ B1 B2:Nat) (W W':World):Prop:=Below n₀ W W'∧W'.heap[B1]?=W.heap[B1]?∧W'.heap[B2]?=W.heap[B2]?
theorem AbidesFrom.kmono {β:Type} {B B':Nat} {J:β→World→Prop} (h:AbidesFrom B J) (hB:B≤B'):AbidesFrom B' J:=
 λs X Y row hs hg hr=>h s X Y row hs hg (λr e=>⟨Nat.le_trans hB (hr r e).1,(hr r e).2⟩)
theorem vQ (n:Nat) (A1 A2:Option Addr) (n1 c1 n2 c2:Nat) (w:World) :
  CallsIn Fence.wide n Tryz.prog 433 #[.slice A1 n1 c1,.slice A2 n2 c2] w λe w'=>e=.returned (.func (.func 480) #[] #[.pointer (some ⟨w.heap.size,0,none⟩),.pointer (some ⟨w.heap.size + 1,0,none⟩)])∧w'=(w.alloc (.cells #[.slice A1 n1 c1] 29)).alloc (.cells #[.slice A2 n2 c2] 29):=by
 refine callsIn_of_wp Tryz.func433 rfl trivial ?_ rfl;simp only [Tryz.ntmps433,List.size_toArray,List.length_cons,List.length_nil,Nat.reduceAdd,Nat.reduceSub,Array.replicate_succ,Array.replicate_zero,List.push_toArray,List.append_toArray,List.nil_append,List.cons_append]
 gi_wp2
 go_ret;exact ⟨rfl,rfl⟩
theorem vV {la lb:List rl.Ent} {k:Nat} (h1:k < la.length) (h2:k < lb.length):(la.zip lb).take (k + 1)=(la.zip lb).take k ++ [(la.getD k rl.e0,lb.getD k rl.e0)]:=by
 have h:k < (la.zip lb).length:=by rw [List.length_zip];omega
 rw [List.take_succ_eq_append_getElem h,List.getElem_zip,List.getD_eq_getElem?_getD,List.getD_eq_getElem?_getD,List.getElem?_eq_getElem h1,List.getElem?_eq_getElem h2]
 rfl
set_option maxRecDepth 100000 in
theorem J8 (n:Nat) (hn:1≤n) (l B1 B2 n₀:Nat) (la lb:List rl.Ent) (A1 A2:Option Addr) (n1 c1 n2 c2:Nat) (hl1:la.length=n1) (hl2:lb.length=n2) (h1:n1≤100000) (h2:n2≤100000) (J Jx:List (rl.Ent × rl.Ent)→World→Prop)
  (W0 W:World) (hJ:AbidesFrom W.heap.size J)
  (hY:∀ pre x W1,J pre W1→pre.length < (la.zip lb).length→YieldAt Fence.wide (n - 1) Tryz.prog l (encB x) W1 λe W'=>
   (e=.returned (.bool true)∧J (pre ++ [x]) W'∧KeepB n₀ B1 B2 W1 W')∨(e=.returned (.bool false)∧Jx (pre ++ [x]) W'))
  (hB1:W.heap[B1]?=some (.cells #[.slice A1 n1 c1] 29 (0,0))) (hB2:W.heap[B2]?=some (.cells #[.slice A2 n2 c2] 29 (0,0)))
  (hE1:Ents W0 (.slice A1 n1 c1) la) (hE2:Ents W0 (.slice A2 n2 c2) lb) (hn0:W0.heap.size=n₀) (hW0:Below n₀ W0 W) (h0:J [] W) :
  CallsIn Fence.wide n Tryz.prog 480 #[.func (.yield l) #[] #[],.pointer (some ⟨B1,0,none⟩),.pointer (some ⟨B2,0,none⟩)] W λe W'=>(∃ v,e=.returned v) ∧
   ((∃ ys,ys=la.zip lb∧J ys W')∨(∃ pre,pre <+: la.zip lb∧Jx pre W')):=by
 obtain ⟨m,hm⟩:∃ m,min n1 n2=m:=⟨_,rfl⟩
 have hmi:min (n1:Int) (n2:Int)=(m:Int):=by omega
 have hzl:(la.zip lb).length=m:=by rw [List.length_zip,hl1,hl2];exact hm
 have b1:=cell_of_one hB1;have b2:=cell_of_one hB2;have Hl1:=Uq hl1;have Hl2:=Uq hl2;have Hm:=Uq hm;have Hz:=Uq hzl;have HE1:=Uq hE1;have HE2:=Uq hE2;have HW0:=Uq hW0;have HY:=Uq hY;have HJ:=Uq hJ;clear hl1 hl2 hm hzl hE1 hE2 hW0 hY hJ;refine callsIn_of_wp Tryz.func480 rfl trivial ?_ rfl;simp only [Tryz.ntmps480,List.size_toArray,List.length_cons,List.length_nil,Nat.reduceAdd,Nat.reduceSub,Array.replicate_succ,Array.replicate_zero,List.push_toArray,List.append_toArray,List.nil_append,List.cons_append]
 gi_wp2
 gi_loopw [10] (λi wr=>∃ k:Nat,k≤m∧i=.int .i64 k∧J ((la.zip lb).take k) wr∧KeepB n₀ B1 B2 W wr) (λi _=>m - (intOf i).toNat)
 case atStart=>exact ⟨0,Nat.zero_le _,rfl,h0,Below.refl _ _,rfl,rfl⟩
 case round=>
  obtain ⟨k,hk,rfl,hJs,hkeep⟩:=hrel;have r1:=cell_of_one (hkeep.2.1.trans hB1);have r2:=cell_of_one (hkeep.2.2.trans hB2)
  by_cases hlt:k < m
  ·have hk1:k < n1:=by have:=Hm.out;omega
   have hk2:k < n2:=by have:=Hm.out;omega
   obtain ⟨A',c',e,_,_,hh1⟩:=HE1.out
   obtain ⟨rfl,rfl⟩:A1=A'∧c1=c':=by injection e with e1 e2 e3;exact ⟨e1,e3⟩
   obtain ⟨b,o,rfl,hA⟩:=hh1 (by rw [Hl1.out];omega)
   obtain ⟨A'',c'',e',_,_,hh2⟩:=HE2.out
   obtain ⟨rfl,rfl⟩:A2=A''∧c2=c'':=by injection e' with e1 e2 e3;exact ⟨e1,e3⟩
   obtain ⟨b',o',rfl,hB⟩:=hh2 (by rw [Hl2.out];omega)
   obtain ⟨x0,x1⟩:=hA k (by rw [Hl1.out];exact hk1)
   obtain ⟨y0,y1⟩:=hB k (by rw [Hl2.out];exact hk2)
   have hbel:Below W0.heap.size W0 wr:=by rw [hn0];exact HW0.out.trans hkeep.1
   have x0':=cell_later hbel x0;have x1':=cell_later hbel x1;have y0':=cell_later hbel y0;have y1':=cell_later hbel y1
   have hzt:=vV (la:=la) (lb:=lb) (k:=k) (by rw [Hl1.out];exact hk1) (by rw [Hl2.out];exact hk2)
   obtain ⟨x,hx⟩:∃ x,la.getD k rl.e0=x:=⟨_,rfl⟩;obtain ⟨y,hy⟩:∃ x,lb.getD k rl.e0=x:=⟨_,rfl⟩;rw [hx] at x0' x1' hzt;rw [hy] at y0' y1' hzt;have HZT:=Uq hzt
   have hlen:((la.zip lb).take k).length < (la.zip lb).length:=by rw [List.length_take,Hz.out];omega
   have HLEN:=Uq hlen
   have hi1:(k:Int) < (n1:Int):=by omega
   have hi2:(k:Int) < (n2:Int):=by omega
   have hkm:(k:Int) < (m:Int):=by omega
   clear e e' hh1 hh2 hA hB x0 x1 y0 y1 hbel hx hy hzt hlen
   gi_wp2
   have hJ1:=(AbidesFrom.kmono HJ.out hkeep.1.size) _ wr wr.drew none hJs (Qv (below_drewN (Below.refl _ wr) 1) none) (by intro r e;cases e)
   obtain ⟨fn,tmps,assign,body,hy,hR⟩:=HY.out _ (x,y) wr.drew hJ1 HLEN.out;dsimp only [encB,entV] at hy
   have hR2:=hR.mono (R':=λe W'=>∃ bb,e=.returned (.bool bb)∧((bb=true∧J ((la.zip lb).take k ++ [(x,y)]) W'∧KeepB n₀ B1 B2 wr.drew W')∨(bb=false∧Jx ((la.zip lb).take k ++ [(x,y)]) W'))) (by
    rintro e W' (⟨h1,h2,h3⟩ | ⟨h1,h2⟩)
    ·exact ⟨true,h1,.inl ⟨rfl,h2,h3⟩⟩
    ·exact ⟨false,h1,.inr ⟨rfl,h2⟩⟩)
   clear hR hJ1 HY hJs
   gi_region_with (refine hR2.mono ?_;rintro e W3 ⟨bb,rfl,hcase⟩)
   all_goals
    rcases hcase with ⟨rfl,hJ3,hk3⟩ | ⟨rfl,hJx3⟩
    ·have hkd:KeepB n₀ B1 B2 wr W3:=⟨(below_drewN (Below.refl n₀ wr) 1).trans hk3.1,hk3.2⟩
     gi_wp2
     go_roundw
     case rel=>exact ⟨k + 1,by omega,by go_num,by rw [HZT.out];exact hJ3,hkeep.1.trans hkd.1,hkd.2.1.trans hkeep.2.1,hkd.2.2.trans hkeep.2.2⟩
     case measure=>simp [intOf];omega
    ·gi_wp2
     refine bodyPost_ret (results_none rfl _ _ _) rfl ?_
     exact ⟨⟨_,rfl⟩,.inr ⟨_,by rw [← HZT.out];exact List.take_prefix _ _,hJx3⟩⟩
  ·obtain rfl:k=m:=by omega
   have htk:(la.zip lb).take k=la.zip lb:=List.take_of_length_le (by rw [Hz.out];exact Nat.le_refl _)
   rw [htk] at hJs
   gi_wp2
   refine bodyPost_end (results_none rfl _ _ _) rfl ?_;exact ⟨⟨_,rfl⟩,.inl ⟨_,rfl,hJs⟩⟩
theorem QB {P:Program} {fn:Func} {p u v:Tmp} {ty:TypeId} (h:fn.results=#[.cell p ty,.tmp u,.tmp v]) (tmps:Array Value) (w:World) (g:Nat) (t:TypeId) (cs:Array Value) (fr:Nat × Nat) (d:TypeDesc)
  (hp:tmps.getD p undef=.pointer (some ⟨g,0,none⟩)) (hg:w.heap[g]?=some (.cells cs t fr))
  (hu:P.underlying ty=some d) (hd:(match d with | .struct _ | .array _ _=>true | _=>false)=true) (hi:(P.info? ty).map (·.size)=some cs.size) :
  (results fn tmps).run P w=.ok (.tuple #[.agg cs,tmps.getD u undef,tmps.getD v undef]) w:=by
 have hp':tmps[p]?.getD undef=.pointer (some ⟨g,0,none⟩):=by simpa using hp
 simp [results,h,hp',asAddr,run_loadVar_row w g t ty cs fr d hg hu hd hi]
def QT (T:Nat) (V:Int) (v:Value) (ls:List rl.Ent) (prev pt:Nat) (l:List rl.Ent) (w:World) (e:Ending) (w':World):Prop:=
 ∃ u,e=.returned (.tuple #[stV T V u,.int .u64 ((rl.match_ ls prev pt l).2.1:Nat),.int .i64 ((rl.match_ ls prev pt l).2.2:Nat)])∧Ents w' u (rl.match_ ls prev pt l).1∧(u=v∨RowT w' u)∧Below w.heap.size w w'
set_option maxHeartbeats 2000000 in
theorem JJ (T:Nat) (V:Int) (A:Option Addr) (n c:Nat) (ls:List rl.Ent) (prev pt:Nat) (lv:Value) (l:List rl.Ent) (w:World) (hn:ls.length=n) (hv:Ents w (.slice A n c) ls) (hl:n≤10000) (hp:prev < 18446744073709551616) (hne:rl.termAt ls prev ≠ (pt,true)) :
  Calls Tryz.prog 373 #[stV T V (.slice A n c),.int .u64 (prev:Int),.int .u64 (pt:Int),lv] w (QT T V (.slice A n c) ls prev pt l w):=by
 have hfin:rl.match_ ls prev pt l=(ls,0,3):=by unfold rl.match_;rw [if_neg hne]
 have hb:Below w.heap.size w ((w.alloc (.cells #[.int .u64 (T:Int),.int .i64 V,.slice A n c] 96)).alloc (.cells #[.int .u64 0,.int .i64 0,.slice none 0 0] 96)):=((Below.refl _ w).alloc (Nat.le_refl _) _).alloc (by simp) _
 have bs:=(Blk.new w [.int .u64 (T:Int),.int .i64 V,.slice A n c] 96).alloc (.cells #[.int .u64 0,.int .i64 0,.slice none 0 0] 96);have br:=Blk.new (w.alloc (.cells #[.int .u64 (T:Int),.int .i64 V,.slice A n c] 96)) [.int .u64 0,.int .i64 0,.slice none 0 0] 96;simp only [World.size_alloc] at br
 have hta:=zn T V (.slice A n c) ls prev _ (hv.below hb) (by omega) hp
 obtain ⟨t,is,ht⟩:∃ t is,rl.termAt ls prev=(t,is):=⟨_,_,rfl⟩;rw [ht] at hta hne;have Hfin:=Uq hfin;have HTA:=Uq hta;have Hb:=Uq hb;have HBS:=Uq bs;have HBR:=Uq br;have Hv:=Uq hv;clear hfin hta hb bs br hv ht;unfold stV at *
 go_enter Tryz.func373,Tryz.ntmps373
 go_wp2_with fail;refine HTA.out.mono ?_;rintro e w1 ⟨rfl,hb1⟩;have bs1:=HBS.out.below hb1;have br1:=HBR.out.below hb1;have HB1:=Uq (Hb.out.trans (hb1.mono Hb.out.size));have s0:=bs1.cell 0 _ rfl;have s1:=bs1.cell 1 _ rfl;have s2:=bs1.cell 2 _ rfl;have f0:=br1.free 0;have f1:=br1.free 1;have f2:=br1.free 2;have r0:=br1.cell 0 _ rfl;have r1:=br1.cell 1 _ rfl;have r2:=br1.cell 2 _ rfl;have hR2:=((br1.set 0 (.int .u64 (T:Int))).set 1 (.int .i64 V)).set 2 (.slice A n c);have HR2:=Uq hR2;clear hb1 bs1 br1 hR2
 have hend:∀ X:World,X=((w1.setCell ⟨w.heap.size + 1,0,none⟩ (.int .u64 (T:Int))).setCell ⟨w.heap.size + 1,1,none⟩ (.int .i64 V)).setCell ⟨w.heap.size + 1,2,none⟩ (.slice A n c)→Below w.heap.size w X:=by
  rintro X rfl;have g:=yG (yG (Ql w1 ⟨w.heap.size + 1,0,none⟩ (.int .u64 (T:Int))) (Ql _ ⟨w.heap.size + 1,1,none⟩ (.int .i64 V))) (Ql _ ⟨w.heap.size + 1,2,none⟩ (.slice A n c))
  exact HB1.out.grown g HB1.out.size (λj hj=>by cases hj;exact Nat.le_succ _)
 have HEND:=Uq hend;clear hend
 cases is with
 | false=>
  go_wp2;refine bodyPost_ret (QB rfl _ _ (w.heap.size + 1) _ _ (0,0) _ rfl HR2.out Tryz.underlying96 rfl Qh) rfl ?_;unfold QT;rw [Hfin.out];exact ⟨_,rfl,Hv.out.below (HEND.out _ rfl),.inl rfl,HEND.out _ rfl⟩
 | true=>
  have hne':((t:Int) != (pt:Int))=true:=by
   rw [bne_iff_ne];intro h;apply hne;rw [show t=pt from by omega]
  go_wp2;refine bodyPost_ret (QB rfl _ _ (w.heap.size + 1) _ _ (0,0) _ rfl HR2.out Tryz.underlying96 rfl Qh) rfl ?_;unfold QT;rw [Hfin.out];exact ⟨_,rfl,Hv.out.below (HEND.out _ rfl),.inl rfl,HEND.out _ rfl⟩
end Go.Proofs.YtppibhieabideaaGreatDoor
