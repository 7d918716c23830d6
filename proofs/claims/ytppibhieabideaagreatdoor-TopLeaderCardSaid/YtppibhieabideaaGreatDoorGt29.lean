/- A part of the walk of the program, and of its plain law. -/
import Derived.Test.YtppibhieabideaaGreatDoorGt27
import Derived.Laws.StructEq
import Derived.WideKeyEntry
import Derived.Maps.OwnSet
namespace Go.Proofs.YtppibhieabideaaGreatDoor
set_option maxHeartbeats 4000000
open Go Go.RowKit
set_option maxRecDepth 100000
theorem jc (l:List UInt8) (hl:l.length≤1000000) (w:World) :
  Calls Tryz.prog 168 #[.string (crcm.mk l)] w λe w'=>e=.returned (.bool (ce.nameOk l))∧w=w':=by
 have hie:(crcm.mk l).toList.isEmpty=l.isEmpty:=by rw [Yt]
 obtain ⟨N,hN⟩:∃ N,l.length=N:=⟨_,rfl⟩
 have hsz:(crcm.mk l).size=N:=by rw [crcm.mk_size,hN]
 rw [hN] at hl
 cases he:l.isEmpty with
 | true=>
  have hr:ce.nameOk l=false:=by
   obtain rfl:l=[]:=List.isEmpty_iff.1 he
   rfl
  rw [he] at hie;rw [hr];clear hr he hN
  go_enter Tryz.func168,Tryz.ntmps168
  go_wp2;go_ret;exact ⟨rfl,rfl⟩
 | false=>
  have hne:l ≠ []:=λe=>by rw [e] at he;cases he
  rw [he] at hie
  by_cases h40:N≤40
  ·have hr:ce.nameOk l=true:=by unfold ce.nameOk;rw [decide_eq_true hne,decide_eq_true (by omega)];rfl
   rw [hr]
   have hd:decide ((N:Int)≤40)=true:=decide_eq_true (by omega)
   clear hr he hN hne
   go_enter Tryz.func168,Tryz.ntmps168
   go_wp2;go_ret
   exact ⟨by rw [← hd];rfl,rfl⟩
  ·have hr:ce.nameOk l=false:=by unfold ce.nameOk;rw [decide_eq_true hne,decide_eq_false (by omega)];rfl
   rw [hr]
   have hd:decide ((N:Int)≤40)=false:=decide_eq_false (by omega)
   clear hr he hN hne
   go_enter Tryz.func168,Tryz.ntmps168
   go_wp2;go_ret
   exact ⟨by rw [← hd];rfl,rfl⟩
def qt (c:ce.Cell):List Value:=[.string (crcm.mk c.row),.string (crcm.mk c.col),.int .u64 (c.ts:Int),.int .u64 (c.seq:Int),.bool c.del,.string (crcm.mk c.val)]
def qO (c:ce.Cell):Value:=.agg #[.string (crcm.mk c.row),.string (crcm.mk c.col),.int .u64 (c.ts:Int),.int .u64 (c.seq:Int),.bool c.del,.string (crcm.mk c.val)]
def ce.small (c:ce.Cell):Prop:=c.row.length≤1000000∧c.col.length≤1000000∧c.val.length≤1000000
theorem Ks (c:ce.Cell) (hc:ce.small c) (w:World) :
  Calls Tryz.prog 59 #[qO c] w λe w'=>e=.returned (.bool (ce.may c))∧Below w.heap.size w w':=by
 obtain ⟨row,col,ts,seq,del,val⟩:=c;obtain ⟨s1,s2,s3⟩:=hc;dsimp only at s1 s2 s3
 have HR:=Uq λw=>jc row s1 w
 have HC:=Uq λw=>jc col s2 w
 have hie:(crcm.mk val).toList.isEmpty=val.isEmpty:=by rw [Yt]
 obtain ⟨N,hN⟩:∃ N,val.length=N:=⟨_,rfl⟩
 have hsz:(crcm.mk val).size=N:=by rw [crcm.mk_size,hN]
 have HB:Hid (Below w.heap.size w (w.alloc (.cells #[.string (crcm.mk row),.string (crcm.mk col),.int .u64 (ts:Int),.int .u64 (seq:Int),.bool del,.string (crcm.mk val)] 46))):=Uq ((Below.refl _ w).alloc (Nat.le_refl _) _);rw [hN] at s3;unfold qO;dsimp only
 cases h1:ce.nameOk row with
 | false=>
  have hr:ce.may ⟨row,col,ts,seq,del,val⟩=false:=by unfold ce.may;dsimp only;rw [h1];rfl
  rw [hr];rw [h1] at HR;clear hN h1;clear hr
  go_enter Tryz.func59,Tryz.ntmps59
  go_wp2_with (go_at_call 168;first | (with_reducible refine (HR.out _).mono ?_;rintro e w' ⟨rfl,rfl⟩) | (with_reducible refine (HC.out _).mono ?_;rintro e w' ⟨rfl,rfl⟩))
  go_ret;exact ⟨rfl,HB.out⟩
 | true=>
  rw [h1] at HR
  cases h2:ce.nameOk col with
  | false=>
   have hr:ce.may ⟨row,col,ts,seq,del,val⟩=false:=by unfold ce.may;dsimp only;rw [h1,h2];rfl
   rw [hr];rw [h2] at HC;clear hN h1 h2;clear hr
   go_enter Tryz.func59,Tryz.ntmps59
   go_wp2_with (go_at_call 168;first | (with_reducible refine (HR.out _).mono ?_;rintro e w' ⟨rfl,rfl⟩) | (with_reducible refine (HC.out _).mono ?_;rintro e w' ⟨rfl,rfl⟩))
   go_ret;exact ⟨rfl,HB.out⟩
  | true=>
   rw [h2] at HC
   by_cases h3:N≤100
   ·have h3i:(N:Int)≤100:=by omega
    cases del with
    | false=>
     have hr:ce.may ⟨row,col,ts,seq,false,val⟩=true:=by unfold ce.may;dsimp only;rw [h1,h2,hN,decide_eq_true h3];rfl
     rw [hr];clear hN h1 h2 h3;clear hr
     go_enter Tryz.func59,Tryz.ntmps59
     go_wp2_with (go_at_call 168;first | (with_reducible refine (HR.out _).mono ?_;rintro e w' ⟨rfl,rfl⟩) | (with_reducible refine (HC.out _).mono ?_;rintro e w' ⟨rfl,rfl⟩))
     go_ret;exact ⟨rfl,HB.out⟩
    | true=>
     cases h4:val.isEmpty with
     | true=>
      have hr:ce.may ⟨row,col,ts,seq,true,val⟩=true:=by unfold ce.may;dsimp only;rw [h1,h2,hN,decide_eq_true h3,List.isEmpty_iff.1 h4];rfl
      rw [hr];rw [h4] at hie;clear hN h1 h2 h3 h4;clear hr
      go_enter Tryz.func59,Tryz.ntmps59
      go_wp2_with (go_at_call 168;first | (with_reducible refine (HR.out _).mono ?_;rintro e w' ⟨rfl,rfl⟩) | (with_reducible refine (HC.out _).mono ?_;rintro e w' ⟨rfl,rfl⟩))
      go_ret;exact ⟨rfl,HB.out⟩
     | false=>
      have hne:val ≠ []:=λe=>by rw [e] at h4;cases h4
      have hr:ce.may ⟨row,col,ts,seq,true,val⟩=false:=by unfold ce.may;dsimp only;rw [h1,h2,hN,decide_eq_true h3,decide_eq_true hne];rfl
      rw [hr];rw [h4] at hie;clear hN h1 h2 h3 h4 hne;clear hr
      go_enter Tryz.func59,Tryz.ntmps59
      go_wp2_with (go_at_call 168;first | (with_reducible refine (HR.out _).mono ?_;rintro e w' ⟨rfl,rfl⟩) | (with_reducible refine (HC.out _).mono ?_;rintro e w' ⟨rfl,rfl⟩))
      go_ret;exact ⟨rfl,HB.out⟩
   ·have hr:ce.may ⟨row,col,ts,seq,del,val⟩=false:=by unfold ce.may;dsimp only;rw [h1,h2,hN,decide_eq_false h3];rfl
    rw [hr]
    have h3i:¬ (N:Int)≤100:=by omega
    clear hN h1 h2 h3;clear hr
    go_enter Tryz.func59,Tryz.ntmps59
    go_wp2_with (go_at_call 168;first | (with_reducible refine (HR.out _).mono ?_;rintro e w' ⟨rfl,rfl⟩) | (with_reducible refine (HC.out _).mono ?_;rintro e w' ⟨rfl,rfl⟩))
    go_ret;exact ⟨rfl,HB.out⟩
theorem qd {b w:World} (h:Below b.heap.size b w) (o:Obj):Below b.heap.size b (w.alloc o):=h.alloc h.size o
section
variable {P:Program} {fn:Func} {p q r:Tmp} {ty:TypeId}
theorem xh (h:fn.results=#[.cell p ty]) (tmps:Array Value) (w:World) (g:Nat) (t:TypeId) (cs:Array Value) (fr:Nat × Nat) (d:TypeDesc)
  (hp:tmps.getD p undef=.pointer (some ⟨g,0,none⟩)) (hg:w.heap[g]?=some (.cells cs t fr))
  (hu:P.underlying ty=some d) (hd:(match d with | .struct _ | .array _ _=>true | _=>false)=true) (hi:(P.info? ty).map (·.size)=some cs.size) :
  (results fn tmps).run P w=.ok (.agg cs) w:=by
 have hp':tmps[p]?.getD undef=.pointer (some ⟨g,0,none⟩):=by simpa using hp
 simp [results,h,hp',asAddr,run_loadVar_row w g t ty cs fr d hg hu hd hi]
theorem tb_res2 (h:fn.results=#[.cell p ty,.tmp q]) (tmps:Array Value) (w:World) (g:Nat) (t:TypeId) (cs:Array Value) (fr:Nat × Nat) (d:TypeDesc)
  (hp:tmps.getD p undef=.pointer (some ⟨g,0,none⟩)) (hg:w.heap[g]?=some (.cells cs t fr))
  (hu:P.underlying ty=some d) (hd:(match d with | .struct _ | .array _ _=>true | _=>false)=true) (hi:(P.info? ty).map (·.size)=some cs.size) :
  (results fn tmps).run P w=.ok (.tuple #[.agg cs,tmps.getD q undef]) w:=by
 have hp':tmps[p]?.getD undef=.pointer (some ⟨g,0,none⟩):=by simpa using hp
 simp [results,h,hp',asAddr,run_loadVar_row w g t ty cs fr d hg hu hd hi]
theorem tb_res3 (h:fn.results=#[.cell p ty,.tmp q,.tmp r]) (tmps:Array Value) (w:World) (g:Nat) (t:TypeId) (cs:Array Value) (fr:Nat × Nat) (d:TypeDesc)
  (hp:tmps.getD p undef=.pointer (some ⟨g,0,none⟩)) (hg:w.heap[g]?=some (.cells cs t fr))
  (hu:P.underlying ty=some d) (hd:(match d with | .struct _ | .array _ _=>true | _=>false)=true) (hi:(P.info? ty).map (·.size)=some cs.size) :
  (results fn tmps).run P w=.ok (.tuple #[.agg cs,tmps.getD q undef,tmps.getD r undef]) w:=by
 have hp':tmps[p]?.getD undef=.pointer (some ⟨g,0,none⟩):=by simpa using hp
 simp [results,h,hp',asAddr,run_loadVar_row w g t ty cs fr d hg hu hd hi]
end
theorem kY {w:World} {g:Nat} {vs:List Value} {t:TypeId} (h:Vb w g vs t):w.drew.heap[g]?=some (.cells vs.toArray t (0,0)):=h
theorem size_alloc' (w:World) (o:Obj):(w.alloc o).heap.size=w.heap.size + 1:=by simp
theorem QQ (w:World) (N:Nat) (h:w.heap.size=N) (o1 o2:Obj):((w.alloc o1).alloc o2).heap[N + 1]?=some o2:=by
 have e:N + 1=(w.alloc o1).heap.size:=by rw [size_alloc',h]
 rw [e];exact heap_alloc_new _ _
def CellAt (w:World) (b o:Nat) (c:ce.Cell):Prop:=∀ j u,(qt c)[j]?=some u→w.cell? ⟨b,o + j,none⟩=some u
theorem CellAt.later {w w':World} {b o:Nat} {c:ce.Cell} (h:CellAt w b o c) (hb:Below w.heap.size w w'):CellAt w' b o c:=λj u hj=>cell_later hb (h j u hj)
def cmdV (S:Value):Array Value:=#[.int .i64 1,.int .u64 1,.int .u64 1,S,.string ⟨#[]⟩,.int .u64 0,.int .u32 0,.int .u64 0,.slice none 0 0]
theorem Qb {w:World} {b o:Nat} {c:ce.Cell} (h:CellAt w b o c):w.cell? ⟨b,o,none⟩=some (.string (crcm.mk c.row))∧w.cell? ⟨b,o + 1,none⟩=some (.string (crcm.mk c.col))∧w.cell? ⟨b,o + 2,none⟩=some (.int .u64 (c.ts:Int))∧w.cell? ⟨b,o + 3,none⟩=some (.int .u64 (c.seq:Int))∧w.cell? ⟨b,o + 4,none⟩=some (.bool c.del)∧w.cell? ⟨b,o + 5,none⟩=some (.string (crcm.mk c.val)):=
 ⟨h 0 _ rfl,h 1 _ rfl,h 2 _ rfl,h 3 _ rfl,h 4 _ rfl,h 5 _ rfl⟩
theorem vp (c:ce.Cell) (w:World) (b o k:Nat) (h:CellAt w b o c) :
  Calls Tryz.prog 365 #[.slice (some ⟨b,o,none⟩) 1 k,.slice (some ⟨b,o,none⟩) 1 k] w λe w'=>e=.returned (.bool true)∧Below w.heap.size w w':=by
 obtain ⟨c0,c1,c2,c3,c4,c5⟩:=Qb h;have e0:((crcm.mk c.row).toList == (crcm.mk c.row).toList)=true:=beq_self_eq_true _;have e1:((crcm.mk c.col).toList == (crcm.mk c.col).toList)=true:=beq_self_eq_true _;have e5:((crcm.mk c.val).toList == (crcm.mk c.val).toList)=true:=beq_self_eq_true _;clear h
 go_enter Tryz.func365,Tryz.ntmps365
 go_upto_region 4 with fail
 go_loopw [13] (λi wr=>(i=.int .i64 0∧wr=w)∨(i=.int .i64 1∧Below w.heap.size w wr)) (λi _=>1 - (intOf i).toNat)
 case atStart=>exact .inl ⟨rfl,rfl⟩
 case round=>
  rcases hrel with ⟨rfl,rfl⟩ | ⟨rfl,hB⟩
  ·go_upto_region 6 with fail;go_region
   all_goals (go_wp2_with fail)
   all_goals exact ⟨.inr ⟨rfl,below_drewN (Below.refl _ _) 1⟩,by simp [intOf]⟩
  ·have HB:=Uq hB;clear hB;go_wp2_with fail;go_ret;exact ⟨rfl,HB.out⟩
theorem jB (w:World) :
  Calls Tryz.prog 366 #[.slice none 0 0,.slice none 0 0] w λe w'=>e=.returned (.bool true)∧w=w':=by
 go_enter Tryz.func366,Tryz.ntmps366
 go_upto_region 4 with fail
 go_loopw [13] (λi wr=>i=.int .i64 0∧wr=w) (λ_ _=>0)
 case atStart=>exact ⟨rfl,rfl⟩
 case round=>
  obtain ⟨rfl,rfl⟩:=hrel;go_wp2_with fail;go_ret;exact ⟨rfl,rfl⟩
theorem K1:(Tryz.prog.info? 81).map (·.size)=some 9:=by kernel_rfl
theorem vA (A:Option Addr) (n k:Nat) (w:World) :
  Calls Tryz.prog 253 #[.agg (cmdV (.slice A n k))] w λe w'=>e=.returned (.agg (cmdV (.slice A n k)))∧Below w.heap.size w w':=by
 unfold cmdV
 go_enter Tryz.func253,Tryz.ntmps253
 go_wp2_with fail;obtain ⟨N,hN⟩:∃ N,w.heap.size=N:=⟨_,rfl⟩;rw [hN]
 refine bodyPost_ret (xh rfl _ _ (N + 1) _ _ _ _ rfl (QQ w N hN _ _) Tryz.underlying81 rfl (by rw [K1];rfl)) rfl ?_
 rw [← hN]
 exact ⟨rfl,by repeat (first | with_reducible exact Below.refl _ _ | with_reducible apply Below.drew | with_reducible apply qd)⟩
theorem Ub (c:ce.Cell) (w:World) (b o k:Nat) (h:CellAt w b o c) :
  Calls Tryz.prog 252 #[.agg (cmdV (.slice (some ⟨b,o,none⟩) 1 k)),.agg (cmdV (.slice (some ⟨b,o,none⟩) 1 k))] w λe w'=>e=.returned (.bool true)∧Below w.heap.size w w':=by
 have HE:=Uq λw' (hb:Below w.heap.size w w')=>vp c w' b o k (h.later hb)
 clear h;unfold cmdV;obtain ⟨N,hN⟩:∃ N,w.heap.size=N:=⟨_,rfl⟩;obtain ⟨X,hX⟩:∃ X,(w.alloc (.cells #[.int .i64 1,.int .u64 1,.int .u64 1,.slice (some ⟨b,o,none⟩) 1 k,.string ⟨#[]⟩,.int .u64 0,.int .u32 0,.int .u64 0,.slice none 0 0] 81)).alloc (.cells #[.int .i64 1,.int .u64 1,.int .u64 1,.slice (some ⟨b,o,none⟩) 1 k,.string ⟨#[]⟩,.int .u64 0,.int .u32 0,.int .u64 0,.slice none 0 0] 81)=X:=⟨_,rfl⟩
 have hb0:Below w.heap.size w X:=by rw [← hX];exact qd (qd (Below.refl _ _) _) _
 have v2:Vb X (N + 1) [.int .i64 1,.int .u64 1,.int .u64 1,.slice (some ⟨b,o,none⟩) 1 k,.string ⟨#[]⟩,.int .u64 0,.int .u32 0,.int .u64 0,.slice none 0 0] 81:=by rw [← hX];exact QQ w N hN _ _
 have v1:Vb X N [.int .i64 1,.int .u64 1,.int .u64 1,.slice (some ⟨b,o,none⟩) 1 k,.string ⟨#[]⟩,.int .u64 0,.int .u32 0,.int .u64 0,.slice none 0 0] 81:=by
  rw [← hX,← hN]
  exact (Below.heap_alloc _ _ _ (by rw [size_alloc'];omega)).trans (heap_alloc_new w _)
 have MK:Hid (∀ w',Below X.heap.size X w'→∀ y,y=N∨y=N + 1→w'.cell? ⟨y,4,none⟩=some (.string ⟨#[]⟩)∧w'.cell? ⟨y,5,none⟩=some (.int .u64 0)∧w'.cell? ⟨y,6,none⟩=some (.int .u32 0)∧w'.cell? ⟨y,7,none⟩=some (.int .u64 0)∧w'.cell? ⟨y,8,none⟩=some (.slice none 0 0)):=Uq λw' hb y hy=>by
  rcases hy with rfl | rfl
  ·exact ⟨cell_later hb (v1.cell 4 _ rfl),cell_later hb (v1.cell 5 _ rfl),cell_later hb (v1.cell 6 _ rfl),cell_later hb (v1.cell 7 _ rfl),cell_later hb (v1.cell 8 _ rfl)⟩
  ·exact ⟨cell_later hb (v2.cell 4 _ rfl),cell_later hb (v2.cell 5 _ rfl),cell_later hb (v2.cell 6 _ rfl),cell_later hb (v2.cell 7 _ rfl),cell_later hb (v2.cell 8 _ rfl)⟩
 have a0:=v1.cell 0 _ rfl;have a1:=v1.cell 1 _ rfl;have a2:=v1.cell 2 _ rfl;have a3:=v1.cell 3 _ rfl;have b0:=v2.cell 0 _ rfl;have b1:=v2.cell 1 _ rfl;have b2:=v2.cell 2 _ rfl;have b3:=v2.cell 3 _ rfl;have HX:=Uq hX;have HN:=Uq hN;have HB:=Uq hb0;clear hX hN hb0 v1 v2
 go_enter Tryz.func252,Tryz.ntmps252
 go_upto_region 1 with fail;rw [HX.out,HN.out]
 go_wp2_with (first
  | (go_at_call 365;refine (HE.out _ HB.out).mono ?_;rintro e w1 ⟨rfl,hb1⟩;obtain ⟨a4,a5,a6,a7,a8⟩:=MK.out _ hb1 N (.inl rfl);obtain ⟨b4,b5,b6,b7,b8⟩:=MK.out _ hb1 (N + 1) (.inr rfl);have HB1:=Uq hb1;clear hb1)
  | (go_at_call 366;refine (jB _).mono ?_;rintro e w2 ⟨rfl,rfl⟩))
 go_ret;exact ⟨rfl,HB.out.trans (HB1.out.mono HB.out.size)⟩
end Go.Proofs.YtppibhieabideaaGreatDoor
namespace Go.Proofs.YtppibhieabideaaGreatDoor
set_option maxHeartbeats 4000000
open Go Go.RowKit Go.Deep Go.ChangeMaps
set_option maxRecDepth 100000
abbrev keyE (c:ce.Cell):Value:=.agg #[.string (crcm.mk c.row),.string (crcm.mk c.col),.int .u64 (c.ts:Int),.int .u64 0,.bool false,.string ⟨#[]⟩]
theorem vG (em:Bool) (n:Nat) (s:ByteArray) (w:World):(Instr.checkKey em (n + 1) 9 (.string s)).run Tryz.prog w=.ok () w:=by
 simp only [Instr.checkKey,Sem.run_bind,run_underlying Tryz.underlying9,Result.andThen_ok,Sem.run_pure]
theorem vE (em:Bool) (n:Nat) (s:Int) (w:World):(Instr.checkKey em (n + 1) 30 (.int .u64 s)).run Tryz.prog w=.ok () w:=by
 simp only [Instr.checkKey,Sem.run_bind,run_underlying Tryz.underlying30,Result.andThen_ok,Sem.run_pure]
theorem J3 (em:Bool) (n:Nat) (s:Bool) (w:World):(Instr.checkKey em (n + 1) 4 (.bool s)).run Tryz.prog w=.ok () w:=by
 simp only [Instr.checkKey,Sem.run_bind,run_underlying Tryz.underlying4,Result.andThen_ok,Sem.run_pure]
theorem XV (em:Bool) (n:Nat) (c:ce.Cell) (w:World):(Instr.checkKey em (n + 2) 46 (keyE c)).run Tryz.prog w=.ok () w:=by
 have hu:=Tryz.underlying46;rw [Instr.checkKey];simp only [Sem.run_bind,run_underlying hu,Result.andThen_ok];rw [← Array.forIn_toList];simp only [List.forIn_cons,List.forIn_nil,Sem.run_bind,Sem.run_ite]
 have p0:∀ w:World,(part 9 #[.string (crcm.mk c.row),.string (crcm.mk c.col),.int .u64 (c.ts:Int),.int .u64 0,.bool false,.string ⟨#[]⟩] 0).run Tryz.prog w=.ok (.string (crcm.mk c.row)) w:=λw=>by simp [part,Tryz.isAgg9,Result.andThen]
 have p1:∀ w:World,(part 9 #[.string (crcm.mk c.row),.string (crcm.mk c.col),.int .u64 (c.ts:Int),.int .u64 0,.bool false,.string ⟨#[]⟩] 1).run Tryz.prog w=.ok (.string (crcm.mk c.col)) w:=λw=>by simp [part,Tryz.isAgg9,Result.andThen]
 have p2:∀ w:World,(part 30 #[.string (crcm.mk c.row),.string (crcm.mk c.col),.int .u64 (c.ts:Int),.int .u64 0,.bool false,.string ⟨#[]⟩] 2).run Tryz.prog w=.ok (.int .u64 (c.ts:Int)) w:=λw=>by simp [part,Tryz.isAgg30,Result.andThen]
 have p3:∀ w:World,(part 30 #[.string (crcm.mk c.row),.string (crcm.mk c.col),.int .u64 (c.ts:Int),.int .u64 0,.bool false,.string ⟨#[]⟩] 3).run Tryz.prog w=.ok (.int .u64 0) w:=λw=>by simp [part,Tryz.isAgg30,Result.andThen]
 have p4:∀ w:World,(part 4 #[.string (crcm.mk c.row),.string (crcm.mk c.col),.int .u64 (c.ts:Int),.int .u64 0,.bool false,.string ⟨#[]⟩] 4).run Tryz.prog w=.ok (.bool false) w:=λw=>by simp [part,Tryz.isAgg4,Result.andThen]
 have p5:∀ w:World,(part 9 #[.string (crcm.mk c.row),.string (crcm.mk c.col),.int .u64 (c.ts:Int),.int .u64 0,.bool false,.string ⟨#[]⟩] 5).run Tryz.prog w=.ok (.string ⟨#[]⟩) w:=λw=>by simp [part,Tryz.isAgg9,Result.andThen]
 simp [p0,p1,p2,p3,p4,p5,vG,vE,J3,Result.andThen]
theorem uu (c:ce.Cell) (w:World):(Op.equal 46 (keyE c) (keyE c)).run Tryz.prog w=.ok true w:=by
 have hu:=Tryz.underlying46;have e0:((crcm.mk c.row).toList == (crcm.mk c.row).toList)=true:=beq_self_eq_true _;have e1:((crcm.mk c.col).toList == (crcm.mk c.col).toList)=true:=beq_self_eq_true _
 have p0:∀ w:World,(part 9 #[.string (crcm.mk c.row),.string (crcm.mk c.col),.int .u64 (c.ts:Int),.int .u64 0,.bool false,.string ⟨#[]⟩] 0).run Tryz.prog w=.ok (.string (crcm.mk c.row)) w:=λw=>by simp [part,Tryz.isAgg9,Result.andThen]
 have p1:∀ w:World,(part 9 #[.string (crcm.mk c.row),.string (crcm.mk c.col),.int .u64 (c.ts:Int),.int .u64 0,.bool false,.string ⟨#[]⟩] 1).run Tryz.prog w=.ok (.string (crcm.mk c.col)) w:=λw=>by simp [part,Tryz.isAgg9,Result.andThen]
 have p2:∀ w:World,(part 30 #[.string (crcm.mk c.row),.string (crcm.mk c.col),.int .u64 (c.ts:Int),.int .u64 0,.bool false,.string ⟨#[]⟩] 2).run Tryz.prog w=.ok (.int .u64 (c.ts:Int)) w:=λw=>by simp [part,Tryz.isAgg30,Result.andThen]
 have p3:∀ w:World,(part 30 #[.string (crcm.mk c.row),.string (crcm.mk c.col),.int .u64 (c.ts:Int),.int .u64 0,.bool false,.string ⟨#[]⟩] 3).run Tryz.prog w=.ok (.int .u64 0) w:=λw=>by simp [part,Tryz.isAgg30,Result.andThen]
 have p4:∀ w:World,(part 4 #[.string (crcm.mk c.row),.string (crcm.mk c.col),.int .u64 (c.ts:Int),.int .u64 0,.bool false,.string ⟨#[]⟩] 4).run Tryz.prog w=.ok (.bool false) w:=λw=>by simp [part,Tryz.isAgg4,Result.andThen]
 have p5:∀ w:World,(part 9 #[.string (crcm.mk c.row),.string (crcm.mk c.col),.int .u64 (c.ts:Int),.int .u64 0,.bool false,.string ⟨#[]⟩] 5).run Tryz.prog w=.ok (.string ⟨#[]⟩) w:=λw=>by simp [part,Tryz.isAgg9,Result.andThen]
 have h:=run_equalIn_struct (P:=Tryz.prog) w 9999 46 #[.string (crcm.mk c.row),.string (crcm.mk c.col),.int .u64 (c.ts:Int),.int .u64 0,.bool false,.string ⟨#[]⟩] #[.string (crcm.mk c.row),.string (crcm.mk c.col),.int .u64 (c.ts:Int),.int .u64 0,.bool false,.string ⟨#[]⟩] (by unfold Program.fieldsOf;rw [hu]) (by kernel_rfl)
 show (Op.equalIn (9999 + 1) 46 (keyE c) (keyE c)).run Tryz.prog w=.ok true w
 unfold keyE;rw [h];unfold Program.fieldsOf;rw [hu]
 simp [Op.eqFields,p0,p1,p2,p3,p4,p5,run_equalIn_string _ _ _ _ _ Tryz.underlying9,run_equalIn_int _ _ _ _ _ _ _ Tryz.underlying30,run_equalIn_bool' _ _ _ _ _ Tryz.underlying4,Result.andThen]
theorem vz (c:ce.Cell) (w:World) (b:Nat) (hb:w.heap[b]?=some (.map #[] 0)) :
  ∃ w2 w3,(Instr.lookup 303 (.map (some b)) (keyE c) false).run Tryz.prog w=.ok (.int .i64 0) w∧(Instr.lookup 303 (.map (some b)) (keyE c) false).run Tryz.prog w2=.ok (.int .i64 0) w2∧(Instr.mapEntry 303 (.map (some b)) (keyE c)).run Tryz.prog w=.ok (.tuple #[.int .i64 0,.int .i64 0]) w2 ∧
   (Instr.entryStore 303 (.map (some b)) (.int .i64 0) (.int .i64 1)).run Tryz.prog w2=.ok () w3∧(∀ ty,(Builtin.len_ #[303] ty #[.map (some b)]).run Tryz.prog w3=.ok (.int .i64 1) w3)∧(∀ n,n≤b→Below n w w3):=by
 have hT:=Tryz.underlying303;have hz:=Tryz.zeroValue3
 have hck:∀ em w,(Instr.checkKey em 10000 46 (keyE c)).run Tryz.prog w=.ok () w:=λem w=>XV em 9998 c w
 have hfn:∀ w,(Instr.findKey 46 (keyE c) []).run Tryz.prog w=.ok none w:=λw=>by
  simp [Instr.findKey,run_underlying Tryz.underlying46,Instr.findNow,Result.andThen]
 have hf1:∀ w,(Instr.findKey 46 (keyE c) [⟨keyE c,.int .i64 0,0⟩]).run Tryz.prog w=.ok (some (0,.int .i64 0)) w:=λw=>by
  simp [Instr.findKey,run_underlying Tryz.underlying46,Instr.findNow,Instr.sameNow,Instr.findAsking,uu,Result.andThen]
 have h2:(setBlock w b (.map #[⟨keyE c,.int .i64 0,0⟩] 1)).heap[b]?=some (.map #[⟨keyE c,.int .i64 0,0⟩] 1):=heap_setBlock_same hb _;refine ⟨setBlock w b (.map #[⟨keyE c,.int .i64 0,0⟩] 1),setBlock (setBlock w b (.map #[⟨keyE c,.int .i64 0,0⟩] 1)) b (.map #[⟨keyE c,.int .i64 1,0⟩] 1),?_,?_,?_,?_,?_,?_⟩
 ·simp [Instr.lookup,run_underlying hT,MapKept.run_getObj_map hb,hck,hfn,hz,Result.andThen]
 ·simp [Instr.lookup,run_underlying hT,MapKept.run_getObj_map h2,hck,hf1,Result.andThen]
 ·simp [Instr.mapEntry,run_underlying hT,MapKept.run_getObj_map hb,hck,hfn,hz,MapKept.run_setObj_map _ hb,Result.andThen,setBlock]
  rfl
 ·simp [Instr.entryStore,MapKept.run_getObj_map h2,asInt,asIntOf,MapKept.run_setObj_map _ h2,Result.andThen]
  rfl
 ·intro ty;have h3:=heap_setBlock_same h2 (.map #[⟨keyE c,.int .i64 1,0⟩] 1)
  simp [Builtin.len_,run_underlying hT,MapKept.run_getObj_map h3,Result.andThen]
  rfl
 ·intro n hn
  refine ⟨rfl,rfl,rfl,by simp [setBlock],λi hi=>?_⟩
  rw [heap_setBlock_other h2 _ (by omega),heap_setBlock_other hb _ (by omega)]
theorem uS (c:ce.Cell) (w:World) (b k:Nat) (h:CellAt w b 0 c) :
  Calls Tryz.prog 95 #[.slice (some ⟨b,0,none⟩) 1 k] w λe w'=>e=.returned (.bool false)∧Below w.heap.size w w':=by
 have hmm:=@run_makeMap Tryz.prog;obtain ⟨N,hN⟩:∃ N,w.heap.size=N:=⟨_,rfl⟩;obtain ⟨X,hX⟩:∃ X,w.alloc (.map #[] 0)=X:=⟨_,rfl⟩
 have hb0:Below w.heap.size w X:=by rw [← hX];exact qd (Below.refl _ _) _
 have m0:X.heap[N]?=some (.map #[] 0):=by rw [← hX,← hN];exact heap_alloc_new w _
 have sX:X.heap.size=N + 1:=by rw [← hX,size_alloc',hN]
 obtain ⟨c0,c1,c2,c3,c4,c5⟩:=Qb (h.later hb0);have HX:=Uq hX;have HN:=Uq hN;have HB:=Uq hb0;have M0:=Uq m0;clear h hX hN hb0 m0
 go_enter Tryz.func95,Tryz.ntmps95
 go_upto_region 2 with fail;rw [HX.out,HN.out];go_upto_region 3 with fail;refine wp_loop_rounds 2 ?_;rw [rounds_succ];go_upto_region 5 with fail;have hb1:Below X.heap.size X (X.alloc (.cells #[.string (crcm.mk c.row),.string (crcm.mk c.col),.int .u64 (c.ts:Int),.int .u64 (c.seq:Int),.bool c.del,.string (crcm.mk c.val)] 46)):=qd (Below.refl _ _) _;have v1:Vb (X.alloc (.cells #[.string (crcm.mk c.row),.string (crcm.mk c.col),.int .u64 (c.ts:Int),.int .u64 (c.seq:Int),.bool c.del,.string (crcm.mk c.val)] 46)) X.heap.size (qt c) 46:=Vb.new X _ _;obtain ⟨w1,hw1⟩:∃ w1,X.alloc (.cells #[.string (crcm.mk c.row),.string (crcm.mk c.col),.int .u64 (c.ts:Int),.int .u64 (c.seq:Int),.bool c.del,.string (crcm.mk c.val)] 46)=w1:=⟨_,rfl⟩;rw [hw1] at hb1 v1 ⊢;rw [sX] at v1
 have m1:w1.drew.heap[N]?=some (.map #[] 0):=(hb1.block N (by omega)).trans M0.out
 have hw1:IntKind.i64.wrap 1=1:=rfl;obtain ⟨w2,w3,q1,q1',q2,q3,q4,q5⟩:=vz c w1.drew N m1;have a0:=v1.cell 0 _ rfl;have a1:=v1.cell 1 _ rfl;have a2:=v1.cell 2 _ rfl
 have hb3:Below N w w3:=by
  have h0:=HB.out;rw [HN.out] at h0
  exact (h0.trans (hb1.mono (by omega))).drew.trans (q5 N (Nat.le_refl _))
 have HB3:=Uq hb3;unfold keyE at q1 q1' q2;clear hb3 q5 m1 v1 hb1 c0 c1 c2 c3 c4 c5;go_region;go_wp2_with fail;rw [rounds_succ];go_wp2_with fail;go_ret;refine ⟨rfl,?_⟩;rw [HN.out];exact HB3.out
end Go.Proofs.YtppibhieabideaaGreatDoor
namespace Go.Proofs.YtppibhieabideaaGreatDoor
set_option maxHeartbeats 4000000
open Go Go.RowKit
set_option maxRecDepth 100000
theorem Ua (a b c d e f g h:UInt8) (w:World) :
  Calls Tryz.prog 290 #[.string (crcm.mk [a,b,c,d,e,f,g,h])] w λe' w'=>e'=.returned (.int .u64 (rl.num [a,b,c,d,e,f,g,h]:Nat))∧w=w':=by
 obtain ⟨s,hs⟩:∃ s,crcm.mk [a,b,c,d,e,f,g,h]=s:=⟨_,rfl⟩
 have hsz:s.size=8:=by rw [← hs];rfl
 have g0:∀ h:0 < s.size,s[0]=a:=by subst hs;intro h;rfl
 have g1:∀ h:1 < s.size,s[1]=b:=by subst hs;intro h;rfl
 have g2:∀ h:2 < s.size,s[2]=c:=by subst hs;intro h;rfl
 have g3:∀ h:3 < s.size,s[3]=d:=by subst hs;intro h;rfl
 have g4:∀ h:4 < s.size,s[4]=e:=by subst hs;intro h;rfl
 have g5:∀ h:5 < s.size,s[5]=f:=by subst hs;intro h;rfl
 have g6:∀ h:6 < s.size,s[6]=g:=by subst hs;intro h;rfl
 have g7:∀ h':7 < s.size,s[7]=h:=by subst hs;intro h;rfl
 have g0:=g0 (by omega)
 have g1:=g1 (by omega)
 have g2:=g2 (by omega)
 have g3:=g3 (by omega)
 have g4:=g4 (by omega)
 have g5:=g5 (by omega)
 have g6:=g6 (by omega)
 have g7:=g7 (by omega)
 rw [hs];clear hs;have la:a.toNat < 256:=a.toNat_lt;have lb:b.toNat < 256:=b.toNat_lt;have lc:c.toNat < 256:=c.toNat_lt;have ld:d.toNat < 256:=d.toNat_lt;have le:e.toNat < 256:=e.toNat_lt;have lf:f.toNat < 256:=f.toNat_lt;have lg:g.toNat < 256:=g.toNat_lt;have lh:h.toNat < 256:=h.toNat_lt;have hfin:=rl.num8 a b c d e f g h
 have o0:bits .or .u64 0 (a.toNat:Int)=(a.toNat:Int):=by have:=qE 0 0 a.toNat (by omega) (by omega) (by omega) (by omega);simpa using this
 have o1:=orn1 _ b la;obtain ⟨S1,hS1⟩:∃ S,a.toNat + 256 * b.toNat=S:=⟨_,rfl⟩;rw [hS1] at o1 hfin;obtain ⟨o1,p1⟩:=o1;clear hS1;have o2:=orn2 _ c p1;obtain ⟨S2,hS2⟩:∃ S,S1 + 65536 * c.toNat=S:=⟨_,rfl⟩;rw [hS2] at o2 hfin;obtain ⟨o2,p2⟩:=o2;clear hS2;have o3:=orn3 _ d p2;obtain ⟨S3,hS3⟩:∃ S,S2 + 16777216 * d.toNat=S:=⟨_,rfl⟩;rw [hS3] at o3 hfin;obtain ⟨o3,p3⟩:=o3;clear hS3;have o4:=orn4 _ e p3;obtain ⟨S4,hS4⟩:∃ S,S3 + 4294967296 * e.toNat=S:=⟨_,rfl⟩;rw [hS4] at o4 hfin;obtain ⟨o4,p4⟩:=o4;clear hS4;have o5:=orn5 _ f p4;obtain ⟨S5,hS5⟩:∃ S,S4 + 1099511627776 * f.toNat=S:=⟨_,rfl⟩;rw [hS5] at o5 hfin;obtain ⟨o5,p5⟩:=o5;clear hS5;have o6:=orn6 _ g p5;obtain ⟨S6,hS6⟩:∃ S,S5 + 281474976710656 * g.toNat=S:=⟨_,rfl⟩;rw [hS6] at o6 hfin;obtain ⟨o6,p6⟩:=o6;clear hS6;have o7:=orn7 _ h p6;obtain ⟨S7,hS7⟩:∃ S,S6 + 72057594037927936 * h.toNat=S:=⟨_,rfl⟩;rw [hS7] at o7 hfin;obtain ⟨o7,p7⟩:=o7;clear hS7;have HF:=Uq hfin;clear hfin
 go_enter Tryz.func290,Tryz.ntmps290
 go_wp2;refine wp_loop_rounds 9 ?_;rw [rounds_succ];go_wp2;rw [rounds_succ];go_wp2;rw [rounds_succ];go_wp2;rw [rounds_succ];go_wp2;rw [rounds_succ];go_wp2;rw [rounds_succ];go_wp2;rw [rounds_succ];go_wp2;rw [rounds_succ];go_wp2;rw [rounds_succ];go_wp2;go_ret
 exact ⟨Zl (zh (by rw [HF.out])),rfl⟩
end Go.Proofs.YtppibhieabideaaGreatDoor
namespace Go.Proofs.YtppibhieabideaaGreatDoor
set_option maxHeartbeats 4000000
open Go Go.RowKit Go.Deep
set_option maxRecDepth 100000
theorem xt (l:List UInt8) (k:Nat):(crcm.mk l).extract 0 k=crcm.mk (l.take k):=by
 rw [Lib.extract_eq];show (⟨((crcm.mk l).data.toList.drop 0 |>.take (k - 0)).toArray⟩:ByteArray)=_;rw [crcm.mk_toList,List.drop_zero,Nat.sub_zero];rfl
theorem xu (l:List UInt8) (k n:Nat) (h:l.length≤n):(crcm.mk l).extract k n=crcm.mk (l.drop k):=by
 rw [Lib.extract_eq];show (⟨((crcm.mk l).data.toList.drop k |>.take (n - k)).toArray⟩:ByteArray)=_;rw [crcm.mk_toList,List.take_of_length_le (by rw [List.length_drop];omega)];rfl
abbrev Rd (w:World) (r:Nat) (l:List UInt8):Prop:=Vb w r [.string (crcm.mk l),.int .i64 0] 404
theorem yO (n:Nat) (l:List UInt8) (r:Nat) (w:World) (hr:Rd w r l) (hn:n≤l.length) (_hl:l.length≤1000000) :
  Calls Tryz.prog 399 #[.pointer (some ⟨r,0,none⟩),.int .i64 (n:Int)] w λe w'=>e=.returned (.string (crcm.mk (l.take n)))∧Rd w' r (l.drop n)∧Apart [r] w w':=by
 have c0:=hr.cell 0 _ rfl;have c1:=hr.cell 1 _ rfl;have f0:=hr.free 0;obtain ⟨L,hL⟩:∃ L,l.length=L:=⟨_,rfl⟩
 have hsz:(crcm.mk l).size=L:=by rw [crcm.mk_size,hL]
 have h1:¬ (L:Int) < (n:Int):=by omega
 have h2:(n:Int)≤(L:Int):=by omega
 have e1:=xt l n
 have e2:=xu l n L (by omega)
 have HA:Hid (Rd (w.setCell ⟨r,0,none⟩ (.string (crcm.mk (l.drop n)))) r (l.drop n)∧Apart [r] w (w.setCell ⟨r,0,none⟩ (.string (crcm.mk (l.drop n))))):=Uq ⟨hr.set 0 _,Apart.setCell w r 0 _⟩;clear hr hL
 go_enter Tryz.func399,Tryz.ntmps399
 go_wp2;go_ret;exact ⟨rfl,HA.out.1,HA.out.2⟩
theorem byte0 (b:UInt8):∃ s:ByteArray,crcm.mk [b]=s∧s.size=1∧∀ h:0 < s.size,s[0]=b:=⟨_,rfl,rfl,λ_=>rfl⟩
theorem Kh (s l:List UInt8) (r:Nat) (w:World) (hs:s.length < 256) (hr:Rd w r (UInt8.ofNat s.length :: (s ++ l))) (hl:(s ++ l).length≤100000) :
  Calls Tryz.prog 311 #[.pointer (some ⟨r,0,none⟩)] w λe w'=>e=.returned (.string (crcm.mk s))∧Rd w' r l∧Apart [r] w w':=by
 have H1:Hid (Calls Tryz.prog 399 #[.pointer (some ⟨r,0,none⟩),.int .i64 1] w λe w'=>e=.returned (.string (crcm.mk [UInt8.ofNat s.length]))∧Rd w' r (s ++ l)∧Apart [r] w w'):=Uq (yO 1 _ r w hr (by simp) (by rw [List.length_cons];omega))
 obtain ⟨x,hx,hxs,hx0⟩:=byte0 (UInt8.ofNat s.length)
 replace hx0:=hx0 (by omega)
 have hn:(UInt8.ofNat s.length).toNat=s.length:=by rw [UInt8.toNat_ofNat'];omega
 obtain ⟨n,hsn⟩:∃ n,s.length=n:=⟨_,rfl⟩
 have H2:Hid (∀ w',Rd w' r (s ++ l)→Calls Tryz.prog 399 #[.pointer (some ⟨r,0,none⟩),.int .i64 (n:Int)] w' λe w''=>e=.returned (.string (crcm.mk s))∧Rd w'' r l∧Apart [r] w' w''):=Uq λw' h'=>by
  have h:=yO n (s ++ l) r w' h' (by rw [List.length_append];omega) (by omega)
  rw [← hsn,List.take_left,List.drop_left] at h;rw [← hsn];exact h
 rw [hx] at H1;rw [hsn] at hn hs hx hx0;clear hr hl hx hsn;obtain ⟨y,hy⟩:∃ y,UInt8.ofNat n=y:=⟨_,rfl⟩;rw [hy] at hn hx0;clear hy
 go_enter Tryz.func311,Tryz.ntmps311
 go_wp2_with (go_at_call 399;first
  | (with_reducible refine H1.out.mono ?_;rintro e w1 ⟨rfl,hr1,ha1⟩;have HR1:=Uq hr1;have HA1:=Uq ha1;clear hr1 ha1)
  | (with_reducible refine (H2.out _ HR1.out).mono ?_;rintro e w2 ⟨rfl,hr2,ha2⟩;have HR2:=Uq hr2;have HA2:=Uq ha2;clear hr2 ha2))
 go_ret;exact ⟨rfl,HR2.out,HA1.out.trans HA2.out⟩
theorem VV (n:Nat) (l:List UInt8) (r:Nat) (w:World) (hn:n < 18446744073709551616) (hr:Rd w r (ce.le8 n ++ l)) (hl:l.length≤100000) :
  Calls Tryz.prog 312 #[.pointer (some ⟨r,0,none⟩)] w λe w'=>e=.returned (.int .u64 (n:Int))∧Rd w' r l∧Apart [r] w w':=by
 have H1:Hid (Calls Tryz.prog 399 #[.pointer (some ⟨r,0,none⟩),.int .i64 8] w λe w'=>e=.returned (.string (crcm.mk (ce.le8 n)))∧Rd w' r l∧Apart [r] w w'):=Uq (by
  have h:=yO 8 _ r w hr (by rw [List.length_append,ce.le8_len];omega) (by rw [List.length_append,ce.le8_len];omega)
  exact h)
 have H2:Hid (∀ w',Calls Tryz.prog 290 #[.string (crcm.mk (ce.le8 n))] w' λe w''=>e=.returned (.int .u64 (n:Int))∧w'=w''):=Uq λw'=>by
  have h:=Ua (UInt8.ofNat n) (UInt8.ofNat (n / 256)) (UInt8.ofNat (n / 65536)) (UInt8.ofNat (n / 16777216)) (UInt8.ofNat (n / 4294967296)) (UInt8.ofNat (n / 1099511627776)) (UInt8.ofNat (n / 281474976710656)) (UInt8.ofNat (n / 72057594037927936)) w';have e:rl.num (rl.le8 n)=n:=rl.num_le8 n hn;unfold rl.le8 at e;rw [e] at h;exact h
 clear hr hl hn
 go_enter Tryz.func312,Tryz.ntmps312
 go_wp2_with (first
  | (go_at_call 399;refine H1.out.mono ?_;rintro e w1 ⟨rfl,hr1,ha1⟩;have HR1:=Uq hr1;have HA1:=Uq ha1;clear hr1 ha1)
  | (go_at_call 290;refine (H2.out _).mono ?_;rintro e w2 ⟨rfl,rfl⟩))
 go_ret;exact ⟨rfl,HR1.out,HA1.out⟩
theorem rd_flag (b:Bool) (l:List UInt8) (r:Nat) (w:World) (hr:Rd w r (ce.one b :: l)) (hl:l.length≤100000) :
  Calls Tryz.prog 313 #[.pointer (some ⟨r,0,none⟩)] w λe w'=>e=.returned (.bool b)∧Rd w' r l∧Apart [r] w w':=by
 have H1:Hid (Calls Tryz.prog 399 #[.pointer (some ⟨r,0,none⟩),.int .i64 1] w λe w'=>e=.returned (.string (crcm.mk [ce.one b]))∧Rd w' r l∧Apart [r] w w'):=Uq (yO 1 _ r w hr (by simp) (by rw [List.length_cons];omega))
 obtain ⟨x,hx,hxs,hx0⟩:=byte0 (ce.one b)
 replace hx0:=hx0 (by omega)
 rw [hx] at H1;clear hr hl hx
 cases b with
 | false=>
  have hx0:x[0]=0:=hx0
  go_enter Tryz.func313,Tryz.ntmps313
  go_wp2_with (go_at_call 399;refine H1.out.mono ?_;rintro e w1 ⟨rfl,hr1,ha1⟩;have c1:=hr1.cell 1 _ rfl;have HR1:=Uq hr1;have HA1:=Uq ha1;clear hr1 ha1)
  go_ret;exact ⟨rfl,HR1.out,HA1.out⟩
 | true=>
  have hx0:x[0]=1:=hx0
  go_enter Tryz.func313,Tryz.ntmps313
  go_wp2_with (go_at_call 399;refine H1.out.mono ?_;rintro e w1 ⟨rfl,hr1,ha1⟩;have c1:=hr1.cell 1 _ rfl;have HR1:=Uq hr1;have HA1:=Uq ha1;clear hr1 ha1)
  go_ret;exact ⟨rfl,HR1.out,HA1.out⟩
theorem Xu:(Tryz.prog.info? 46).map (·.size)=some 6:=by kernel_rfl
theorem vv (c:ce.Cell) (r:List UInt8) (hm:ce.may c=true) (hr:r.length≤1000):∃ l1 l2 l3 l4 l5:List UInt8,
  ce.enc c ++ r=UInt8.ofNat c.row.length :: (c.row ++ l1)∧l1=UInt8.ofNat c.col.length :: (c.col ++ l2)∧l2=ce.le8 c.ts ++ l3∧l3=ce.le8 c.seq ++ l4∧l4=ce.one c.del :: l5∧l5=UInt8.ofNat c.val.length :: (c.val ++ r)∧l1.length≤10000∧l2.length≤10000∧l3.length≤10000∧l4.length≤10000∧l5.length≤10000:=by
 obtain ⟨h1,h2,h3,_⟩:=ce.may_len hm;refine ⟨_,_,_,_,_,?_,rfl,rfl,rfl,rfl,rfl,?_,?_,?_,?_,?_⟩
 ·unfold ce.enc;simp
 all_goals (simp only [List.length_cons,List.length_append,ce.le8_len];omega)
set_option maxHeartbeats 8000000 in
theorem vI (c:ce.Cell) (hm:ce.may c=true) (h1:c.ts < 18446744073709551616) (h2:c.seq < 18446744073709551616) (r:List UInt8) (hr:r.length≤1000) (w:World) :
  Calls Tryz.prog 197 #[.string (crcm.mk (ce.enc c ++ r))] w λe w'=>e=.returned (.tuple #[qO c,.string (crcm.mk r),.int .i64 0])∧Below w.heap.size w w':=by
 obtain ⟨l1,l2,l3,l4,l5,e0,e1,e2,e3,e4,e5,n1,n2,n3,n4,n5⟩:=vv c r hm hr;obtain ⟨m1,m2,m3,q1,q2,q3⟩:=ce.may_len hm;obtain ⟨row,col,ts,seq,del,val⟩:=c;dsimp only at e0 e1 e2 e3 e4 e5 m1 m2 m3 h1 h2;rw [e0]
 have D1:Hid (∀ q w',Rd w' q (UInt8.ofNat row.length :: (row ++ l1))→Calls Tryz.prog 311 #[.pointer (some ⟨q,0,none⟩)] w' λe w''=>e=.returned (.string (crcm.mk row))∧Rd w'' q l1∧Apart [q] w' w''):=Uq λq w' h=>Kh row l1 q w' (by omega) h (by rw [List.length_append];omega)
 have D2:Hid (∀ q w',Rd w' q l1→Calls Tryz.prog 311 #[.pointer (some ⟨q,0,none⟩)] w' λe w''=>e=.returned (.string (crcm.mk col))∧Rd w'' q l2∧Apart [q] w' w''):=Uq λq w' h=>Kh col l2 q w' (by omega) (by rw [← e1];exact h) (by rw [List.length_append];omega)
 have D3:Hid (∀ q w',Rd w' q l2→Calls Tryz.prog 312 #[.pointer (some ⟨q,0,none⟩)] w' λe w''=>e=.returned (.int .u64 (ts:Int))∧Rd w'' q l3∧Apart [q] w' w''):=Uq λq w' h=>VV ts l3 q w' h1 (by rw [← e2];exact h) (by omega)
 have D4:Hid (∀ q w',Rd w' q l3→Calls Tryz.prog 312 #[.pointer (some ⟨q,0,none⟩)] w' λe w''=>e=.returned (.int .u64 (seq:Int))∧Rd w'' q l4∧Apart [q] w' w''):=Uq λq w' h=>VV seq l4 q w' h2 (by rw [← e3];exact h) (by omega)
 have D5:Hid (∀ q w',Rd w' q l4→Calls Tryz.prog 313 #[.pointer (some ⟨q,0,none⟩)] w' λe w''=>e=.returned (.bool del)∧Rd w'' q l5∧Apart [q] w' w''):=Uq λq w' h=>rd_flag del l5 q w' (by rw [← e4];exact h) (by omega)
 have D6:Hid (∀ q w',Rd w' q l5→Calls Tryz.prog 311 #[.pointer (some ⟨q,0,none⟩)] w' λe w''=>e=.returned (.string (crcm.mk val))∧Rd w'' q r∧Apart [q] w' w''):=Uq λq w' h=>Kh val r q w' (by omega) (by rw [← e5];exact h) (by rw [List.length_append];omega)
 have DM:Hid (∀ w',Calls Tryz.prog 59 #[qO ⟨row,col,ts,seq,del,val⟩] w' λe w''=>e=.returned (.bool true)∧Below w'.heap.size w' w''):=Uq λw'=>by
  have h:=Ks ⟨row,col,ts,seq,del,val⟩ ⟨by dsimp only;omega,by dsimp only;omega,by dsimp only;omega⟩ w'
  rw [hm] at h;exact h
 unfold qO at DM ⊢;dsimp only at DM ⊢;obtain ⟨L0,hL0⟩:∃ L0,UInt8.ofNat row.length :: (row ++ l1)=L0:=⟨_,rfl⟩;rw [hL0] at D1 ⊢;obtain ⟨N,hN⟩:∃ N,w.heap.size=N:=⟨_,rfl⟩;obtain ⟨X,hX⟩:∃ X,(w.alloc (.cells #[.string ⟨#[]⟩,.string ⟨#[]⟩,.int .u64 0,.int .u64 0,.bool false,.string ⟨#[]⟩] 46)).alloc (.cells #[.string (crcm.mk L0),.int .i64 0] 404)=X:=⟨_,rfl⟩
 have hb0:Below w.heap.size w X:=by rw [← hX];exact qd (qd (Below.refl _ _) _) _
 have v2:Rd X (N + 1) L0:=by rw [← hX];exact QQ w N hN _ _
 have v1:Vb X N [.string ⟨#[]⟩,.string ⟨#[]⟩,.int .u64 0,.int .u64 0,.bool false,.string ⟨#[]⟩] 46:=by
  rw [← hX,← hN]
  exact (Below.heap_alloc _ _ _ (by rw [size_alloc'];omega)).trans (heap_alloc_new w _)
 have HX:=Uq hX;have HN:=Uq hN;have HB:=Uq hb0;have V1:=Uq v1;have V2:=Uq v2;clear hX hN hb0 v1 v2 e0 e1 e2 e3 e4 e5 n1 n2 n3 n4 n5 m1 m2 m3 q1 q2 q3 h1 h2 hm hr hL0
 go_enter Tryz.func197,Tryz.ntmps197
 go_upto_region 2 with fail;rw [HX.out,HN.out]
 go_upto_region 3 with (go_at_call 311;with_reducible refine (D1.out _ _ V2.out).mono ?_;rintro e w1 ⟨rfl,hr1,ha1⟩;have HR:=Uq hr1;have HV:=Uq (V1.out.apart ha1 (by simp));have HA:=Uq ha1;clear hr1 ha1)
 have hs1:=HA.out.size
 have hsX:X.heap.size=N + 2:=by rw [← HX.out,size_alloc',size_alloc',HN.out]
 have HBW:Hid (Below N w w1):=Uq (by
  have h:=HB.out;rw [HN.out] at h
  exact h.trans (HA.out.below N (by omega) (by simp)))
 obtain ⟨g,hg⟩:∃ g,w1.heap.size=g:=⟨_,rfl⟩
 have hgN:N + 1 < g:=by omega
 obtain ⟨w2,hw2⟩:∃ w2,w1.alloc (.cells #[.string (crcm.mk row),.string ⟨#[]⟩,.int .u64 0,.int .u64 0,.bool false,.string ⟨#[]⟩] 46)=w2:=⟨_,rfl⟩
 have hb2:Below w1.heap.size w1 w2:=by rw [← hw2];exact qd (Below.refl _ _) _
 have C2:Vb w2 g [.string (crcm.mk row),.string ⟨#[]⟩,.int .u64 0,.int .u64 0,.bool false,.string ⟨#[]⟩] 46:=by rw [← hw2,← hg];exact Vb.new _ _ _
 have HR2:Hid (Rd w2 (N + 1) l1):=Uq ((hb2.block _ HR.out.lt).trans HR.out);have HV2:Hid (Vb w2 N [.string ⟨#[]⟩,.string ⟨#[]⟩,.int .u64 0,.int .u64 0,.bool false,.string ⟨#[]⟩] 46):=Uq ((hb2.block _ HV.out.lt).trans HV.out)
 have HB2:Hid (Below N w w2):=Uq (HBW.out.trans (hb2.mono (by omega)))
 have HC2:=Uq C2;rw [hw2,hg]
 have n1:¬ g=N:=by omega
 have n2:¬ g=N + 1:=by omega
 have n3:¬ N + 1=g:=by omega
 have n4:¬ N=g:=by omega
 clear C2 hb2 hw2 hg HR HV HA HBW hs1 hsX HX HB V1 V2 D1
 go_upto_region 4 with (go_at_call 311;with_reducible refine (D2.out _ _ HR2.out).mono ?_;rintro e w3 ⟨rfl,hr,ha⟩;have HR3:=Uq hr;have HV3:=Uq (HV2.out.apart ha (by simp));have HC3:=Uq (HC2.out.apart ha (by simpa using n2));have HB3:=Uq (HB2.out.trans (ha.below N (by have:=HB2.out.size;have:=HN.out;omega) (by simp)));have k1:=HC3.out.cell 1 _ rfl;have k2:=HC3.out.free 1;clear hr ha)
 have hA4:=Apart.setCell w3 g 1 (.string (crcm.mk col));have HC4:=Uq (HC3.out.set 1 (.string (crcm.mk col)))
 have HR4:=Uq (HR3.out.apart hA4 (by simpa using n3))
 have HV4:=Uq (HV3.out.apart hA4 (by simpa using n4))
 have HB4:Hid (Below N w (w3.setCell ⟨g,1,none⟩ (.string (crcm.mk col)))):=Uq (HB3.out.setCell (p:=⟨g,1,none⟩) (by show N≤g;omega) _)
 obtain ⟨w4,hw4⟩:∃ w4,w3.setCell ⟨g,1,none⟩ (.string (crcm.mk col))=w4:=⟨_,rfl⟩;rw [hw4] at HC4 HR4 HV4 HB4 ⊢;clear hA4 hw4 k1 k2 HC3 HR3 HV3 HB3 HR2 HV2 HC2 HB2 D2
 go_upto_region 5 with (go_at_call 312;first
  | (with_reducible refine (D3.out _ _ HR4.out).mono ?_;rintro e w5 ⟨rfl,hr,ha⟩;have HR5:=Uq hr;have HV5:=Uq (HV4.out.apart ha (by simp));have HC5:=Uq (HC4.out.apart ha (by simpa using n2));have HB5:=Uq (HB4.out.trans (ha.below N (by have:=HB4.out.size;have:=HN.out;omega) (by simp)));clear hr ha)
  | (with_reducible refine (D4.out _ _ HR5.out).mono ?_;rintro e w6 ⟨rfl,hr,ha⟩;have HR6:=Uq hr;have HV6:=Uq (HV5.out.apart ha (by simp));have HC6:=Uq (HC5.out.apart ha (by simpa using n2));have HB6:=Uq (HB5.out.trans (ha.below N (by have:=HB5.out.size;have:=HN.out;omega) (by simp)));have k1:=HC6.out.cell 2 _ rfl;have k2:=HC6.out.free 2;have k3:=HC6.out.cell 3 _ rfl;have k4:=HC6.out.free 3;clear hr ha))
 have hA7:=(Apart.setCell w6 g 2 (.int .u64 (ts:Int))).trans (Apart.setCell _ g 3 (.int .u64 (seq:Int)));have HC7:=Uq ((HC6.out.set 2 (.int .u64 (ts:Int))).set 3 (.int .u64 (seq:Int)))
 have HR7:=Uq (HR6.out.apart hA7 (by simpa using n3))
 have HV7:=Uq (HV6.out.apart hA7 (by simpa using n4))
 have HB7:Hid (Below N w ((w6.setCell ⟨g,2,none⟩ (.int .u64 (ts:Int))).setCell ⟨g,3,none⟩ (.int .u64 (seq:Int)))):=Uq ((HB6.out.setCell (p:=⟨g,2,none⟩) (by show N≤g;omega) _).setCell (p:=⟨g,3,none⟩) (by show N≤g;omega) _)
 obtain ⟨w7,hw7⟩:∃ w7,(w6.setCell ⟨g,2,none⟩ (.int .u64 (ts:Int))).setCell ⟨g,3,none⟩ (.int .u64 (seq:Int))=w7:=⟨_,rfl⟩;rw [hw7] at HC7 HR7 HV7 HB7 ⊢;clear hA7 hw7 k1 k2 k3 k4 HC4 HR4 HV4 HB4 HC5 HR5 HV5 HB5 HC6 HR6 HV6 HB6 D3 D4
 go_upto_region 6 with (go_at_call 313;with_reducible refine (D5.out _ _ HR7.out).mono ?_;rintro e w8 ⟨rfl,hr,ha⟩;have HR8:=Uq hr;have HV8:=Uq (HV7.out.apart ha (by simp));have HC8:=Uq (HC7.out.apart ha (by simpa using n2));have HB8:=Uq (HB7.out.trans (ha.below N (by have:=HB7.out.size;have:=HN.out;omega) (by simp)));have k1:=HC8.out.cell 4 _ rfl;have k2:=HC8.out.free 4;clear hr ha)
 have hA9:=Apart.setCell w8 g 4 (.bool del);have HC9:=Uq (HC8.out.set 4 (.bool del))
 have HR9:=Uq (HR8.out.apart hA9 (by simpa using n3))
 have HV9:=Uq (HV8.out.apart hA9 (by simpa using n4))
 have HB9:Hid (Below N w (w8.setCell ⟨g,4,none⟩ (.bool del))):=Uq (HB8.out.setCell (p:=⟨g,4,none⟩) (by show N≤g;omega) _)
 obtain ⟨w9,hw9⟩:∃ w9,w8.setCell ⟨g,4,none⟩ (.bool del)=w9:=⟨_,rfl⟩;rw [hw9] at HC9 HR9 HV9 HB9 ⊢;clear hA9 hw9 k1 k2 HC7 HR7 HV7 HB7 HC8 HR8 HV8 HB8 D5
 go_upto_region 7 with (go_at_call 311;with_reducible refine (D6.out _ _ HR9.out).mono ?_;rintro e w10 ⟨rfl,hr,ha⟩;have HR10:=Uq hr;have HV10:=Uq (HV9.out.apart ha (by simp));have HC10:=Uq (HC9.out.apart ha (by simpa using n2));have HB10:=Uq (HB9.out.trans (ha.below N (by have:=HB9.out.size;have:=HN.out;omega) (by simp)));have k1:=HC10.out.cell 5 _ rfl;have k2:=HC10.out.free 5;clear hr ha)
 have hA11:=Apart.setCell w10 g 5 (.string (crcm.mk val));have hC11:Vb (w10.setCell ⟨g,5,none⟩ (.string (crcm.mk val))) g [.string (crcm.mk row),.string (crcm.mk col),.int .u64 (ts:Int),.int .u64 (seq:Int),.bool del,.string (crcm.mk val)] 46:=HC10.out.set 5 (.string (crcm.mk val))
 have hR11:=HR10.out.apart hA11 (by simpa using n3)
 have hV11:=HV10.out.apart hA11 (by simpa using n4)
 have hB11:Below N w (w10.setCell ⟨g,5,none⟩ (.string (crcm.mk val))):=HB10.out.setCell (p:=⟨g,5,none⟩) (by show N≤g;omega) _
 obtain ⟨w11,hw11⟩:∃ w11,w10.setCell ⟨g,5,none⟩ (.string (crcm.mk val))=w11:=⟨_,rfl⟩;rw [hw11] at hC11 hR11 hV11 hB11 ⊢
 have MK:Hid (∀ w',Below w11.heap.size w11 w'→(w'.cell? ⟨g,0,none⟩=some (.string (crcm.mk row))∧w'.cell? ⟨g,1,none⟩=some (.string (crcm.mk col))∧w'.cell? ⟨g,2,none⟩=some (.int .u64 (ts:Int))∧w'.cell? ⟨g,3,none⟩=some (.int .u64 (seq:Int))∧w'.cell? ⟨g,4,none⟩=some (.bool del)∧w'.cell? ⟨g,5,none⟩=some (.string (crcm.mk val)))∧w'.cell? ⟨N + 1,0,none⟩=some (.string (crcm.mk r))∧w'.cell? ⟨N + 1,1,none⟩=some (.int .i64 0)∧Vb w' N [.string ⟨#[]⟩,.string ⟨#[]⟩,.int .u64 0,.int .u64 0,.bool false,.string ⟨#[]⟩] 46):=Uq λw' hb=>
  ⟨⟨cell_later hb (hC11.cell 0 _ rfl),cell_later hb (hC11.cell 1 _ rfl),cell_later hb (hC11.cell 2 _ rfl),cell_later hb (hC11.cell 3 _ rfl),cell_later hb (hC11.cell 4 _ rfl),cell_later hb (hC11.cell 5 _ rfl)⟩,cell_later hb (hR11.cell 0 _ rfl),cell_later hb (hR11.cell 1 _ rfl),(hb.block _ hV11.lt).trans hV11⟩
 have HB11:=Uq hB11;clear hA11 hw11 hC11 hR11 hV11 hB11 k1 k2 HC9 HR9 HV9 HB9 HC10 HR10 HV10 HB10 D6;obtain ⟨⟨k0,k1,k2,k3,k4,k5⟩,j0,j1,-⟩:=MK.out w11 (Below.refl _ _)
 go_upto_region 11 with (go_at_call 59;refine (DM.out _).mono ?_;rintro e w12 ⟨rfl,hb⟩;have HB12:=Uq hb;clear hb)
 obtain ⟨⟨k0,k1,k2,k3,k4,k5⟩,j0,j1,v12⟩:=MK.out w12 HB12.out;have z0:=v12.cell 0 _ rfl;have z1:=v12.cell 1 _ rfl;have z2:=v12.cell 2 _ rfl;have z3:=v12.cell 3 _ rfl;have z4:=v12.cell 4 _ rfl;have z5:=v12.cell 5 _ rfl;have y0:=v12.free 0;have y1:=v12.free 1;have y2:=v12.free 2;have y3:=v12.free 3;have y4:=v12.free 4;have y5:=v12.free 5;have HV12:=Uq v12;clear v12;go_region;have hF:=(((((HV12.out.set 0 (.string (crcm.mk row))).set 1 (.string (crcm.mk col))).set 2 (.int .u64 (ts:Int))).set 3 (.int .u64 (seq:Int))).set 4 (.bool del)).set 5 (.string (crcm.mk val))
 have hb12:Below N w w12:=HB11.out.trans (HB12.out.mono (by have:=HB11.out.size;have:=HN.out;omega))
 have hFB:=(((((hb12.setCell (p:=⟨N,0,none⟩) (Nat.le_refl _) (.string (crcm.mk row))).setCell (p:=⟨N,1,none⟩) (Nat.le_refl _) (.string (crcm.mk col))).setCell (p:=⟨N,2,none⟩) (Nat.le_refl _) (.int .u64 (ts:Int))).setCell (p:=⟨N,3,none⟩) (Nat.le_refl _) (.int .u64 (seq:Int))).setCell (p:=⟨N,4,none⟩) (Nat.le_refl _) (.bool del)).setCell (p:=⟨N,5,none⟩) (Nat.le_refl _) (.string (crcm.mk val));have HF:=Uq (kY hF);have HFB:=Uq hFB;clear hF hFB hb12;clear k0 k1 k2 k3 k4 k5 j0 j1 z0 z1 z2 z3 z4 z5 y0 y1 y2 y3 y4 y5;go_wp2_with fail
 refine bodyPost_ret (tb_res3 rfl _ _ N _ _ (0,0) _ rfl HF.out Tryz.underlying46 rfl (by rw [Xu];rfl)) rfl ?_
 refine ⟨rfl,?_⟩;rw [HN.out];exact HFB.out.drew
end Go.Proofs.YtppibhieabideaaGreatDoor
