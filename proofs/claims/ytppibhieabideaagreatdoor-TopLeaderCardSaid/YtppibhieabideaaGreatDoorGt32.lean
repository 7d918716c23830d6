/- A part of the walk of the program, and of its plain law. -/
import Derived.Test.YtppibhieabideaaGreatDoorGt31
import Derived.Shelf.SlIter.Nil
import Derived.Shelf.SortM.Plain
import Derived.Shelf.SortM.SortNone
namespace Go.Proofs.YtppibhieabideaaGreatDoor
open Go Go.RowKit Go.Deep
set_option maxRecDepth 100000
theorem YA (f:Value) (w:World) :
  Calls Tryz.prog 421 #[.slice none 0 0,f] w λe w'=>e=.returned (.int .i64 (-1))∧w=w':=by
 go_enter Tryz.func421,Tryz.ntmps421
 go_upto_region 2 with fail;refine wp_loop_rounds 1 ?_;rw [rounds_succ];go_wp2_with fail;go_ret;exact ⟨rfl,rfl⟩
theorem Kw (A:Option Addr) (k:Nat) (f:Value) (w:World) :
  Calls Tryz.prog 200 #[.slice A 0 k,f] w λe w'=>e=.returned (.int .i64 (-1))∧w=w':=by
 go_enter Tryz.func200,Tryz.ntmps200
 go_upto_region 2 with fail;refine wp_loop_rounds 1 ?_;rw [rounds_succ];go_wp2_with fail;go_ret;exact ⟨rfl,rfl⟩
theorem Y1 (A:Option Addr) (k:Nat) (f:Value) (w:World) :
  Calls Tryz.prog 94 #[.slice A 0 k,f] w λe w'=>e=.returned (.bool false)∧w=w':=by
 go_enter Tryz.func94,Tryz.ntmps94
 go_wp2_with (go_at_call 200;refine (Kw _ _ _ _).mono ?_;rintro e w1 ⟨rfl,rfl⟩)
 go_ret;exact ⟨rfl,rfl⟩
theorem Vs (c:ce.Cell) (w:World) (b k:Nat) (h:CellAt w b 0 c) :
  Calls Tryz.prog 423 #[.slice (some ⟨b,0,none⟩) 1 k] w λe w'=>e=.returned (.bool false)∧Below w.heap.size w w':=by
 obtain ⟨c0,c1,c2,c3,c4,c5⟩:=Qb h
 have hmf:∀ (fn:Fn) (first cap:Array Value) (w:World),(Instr.makeFunc fn first cap).run Tryz.prog w=.ok (.func fn first cap) w:=λ_ _ _ _=>rfl
 clear h
 go_enter Tryz.func423,Tryz.ntmps423
 go_upto_region 2 with fail;refine wp_loop_rounds 2 ?_;rw [rounds_succ]
 go_wp2_with (go_at_call 94;refine (Y1 _ _ _ _).mono ?_;rintro e w1 ⟨rfl,rfl⟩)
 rw [rounds_succ];go_wp2_with fail;go_ret;exact ⟨rfl,qd (Below.refl _ _) _⟩
def stV5 (idx:Nat) (cl:Value):List Value:=[.int .u64 (idx:Int),.int .u64 0,.slice none 0 0,.slice none 0 0,cl]
def efV (S:Value):List Value:=[.int .i64 0,.bool false,S,.slice none 0 0]
theorem size_effect':(Tryz.prog.info? 338).map (·.size)=some 4:=by kernel_rfl
structure BatAt (w:World) (N M:Nat) (st ef:List Value) (S0:Value) (w':World):Prop where
 st:Vb w' N st 206
 cm:Vb w' M (cmC 1 1 1 S0) 81
 ef:Vb w' (M + 1) ef 338
 ap:Apart [N] w w'
 top:w.heap.size=M
 low:N < M
section
variable {w w1 w2:World} {N M:Nat} {st ef:List Value} {S0:Value}
theorem BatAt.later (h:BatAt w N M st ef S0 w1) (hb:Below w1.heap.size w1 w2):BatAt w N M st ef S0 w2:=
 ⟨(hb.block _ h.st.lt).trans h.st,(hb.block _ h.cm.lt).trans h.cm,(hb.block _ h.ef.lt).trans h.ef,h.ap.trans (Apart.of_below hb [N]),h.top,h.low⟩
theorem BatAt.kept {n:Nat} (h:BatAt w N M st ef S0 w1) (hb:Below n w1 w2) (hn:M + 1 < n):BatAt w N M st ef S0 w2:=by
 have h1:=h.low;have h2:=h.top
 exact ⟨(hb.block _ (by omega)).trans h.st,(hb.block _ (by omega)).trans h.cm,(hb.block _ hn).trans h.ef,⟨hb.os.trans h.ap.os,hb.tape.trans h.ap.tape,hb.output.trans h.ap.output,Nat.le_trans h.ap.size hb.size,λk hk hkN=>(hb.block k (by omega)).trans (h.ap.block k hk hkN)⟩,h.top,h.low⟩
theorem BatAt.own (h:BatAt w N M st ef S0 w1) (x j:Nat) (v:Value) (hx:M + 1 < x):BatAt w N M st ef S0 (w1.setCell ⟨x,j,none⟩ v):=by
 have hA:=Apart.setCell w1 x j v;have:=h.low;have:=h.top
 exact ⟨h.st.apart hA (by simp;omega),h.cm.apart hA (by simp;omega),h.ef.apart hA (by simp;omega),h.ap.then hA (λy hy=>.inl hy) (λy hy=>by right;simp at hy;omega),h.top,h.low⟩
theorem BatAt.eff (h:BatAt w N M st ef S0 w1) (j:Nat) (v:Value):BatAt w N M st (ef.set j v) S0 (w1.setCell ⟨M + 1,j,none⟩ v):=by
 have hA:=Apart.setCell w1 (M + 1) j v;have:=h.low;have:=h.top
 exact ⟨h.st.apart hA (by simp;omega),h.cm.apart hA (by simp),h.ef.set j v,h.ap.then hA (λy hy=>.inl hy) (λy hy=>by right;simp at hy;omega),h.top,h.low⟩
theorem BatAt.sta (h:BatAt w N M st ef S0 w1) (j:Nat) (v:Value):BatAt w N M (st.set j v) ef S0 (w1.setCell ⟨N,j,none⟩ v):=by
 have hA:=Apart.setCell w1 N j v;have:=h.low
 exact ⟨h.st.set j v,h.cm.apart hA (by simp;omega),h.ef.apart hA (by simp;omega),h.ap.trans hA,h.top,h.low⟩
end
theorem YK {w:World} {b k:Nat} {c:ce.Cell} (h:CellAt w b 0 c) (hk:1≤k):Cut w 6 (.slice (some ⟨b,0,none⟩) 1 k) 1 (qt c):=
 ⟨⟨_,k,rfl,λe=>(by cases e),hk,λ_=>⟨b,0,rfl,λj u hj=>h j u hj⟩⟩,rfl,Qj c⟩
theorem QP {w:World} {base:Nat} {e:TypeId} {u:Value} {c:ce.Cell} (h:w.ownsRow base e 6 u 1 (qt c)):∃ b k,u=.slice (some ⟨b,0,none⟩) 1 k∧base≤b∧b < w.heap.size∧1≤k∧CellAt w b 0 c∧∀ j,w.frozen? ⟨b,j,none⟩=false:=by
 have h0:=h
 rcases h.2 with ⟨_,h0⟩ | ⟨g',cap,cur,rfl,hb,hh,hn,_⟩
 ·exact absurd h0 (by decide)
 ·refine ⟨g',cap,rfl,hb,(Array.getElem?_eq_some_iff.1 hh).1,hn,λj u hj=>?_,λj=>h.frozenAt j⟩
  have:=h0.cells (g:=g') rfl j u hj;rw [qn] at this;exact this
theorem CellAt.setSeq {w:World} {b:Nat} {c:ce.Cell} (h:CellAt w b 0 c) (n:Nat):CellAt (w.setCell ⟨b,3,none⟩ (.int .u64 (n:Int))) b 0 { c with seq:=n }:=λj u hj=>by
 have far:∀ i,i ≠ 3→w.cell? ⟨b,0 + i,none⟩=some u→(w.setCell ⟨b,3,none⟩ (.int .u64 (n:Int))).cell? ⟨b,0 + i,none⟩=some u:=λi hi hw=>by
  rw [World.cell?_setCell_other (h:=by intro e;injection e with _ e2;omega)]
  exact hw
 match j,hj with
 | 0,hj=>exact far 0 (by decide) (h 0 u hj)
 | 1,hj=>exact far 1 (by decide) (h 1 u hj)
 | 2,hj=>exact far 2 (by decide) (h 2 u hj)
 | 3,hj=>
  injection hj with hj
  subst hj;exact World.cell?_setCell_same w ⟨b,3,none⟩ _ (h 3 _ rfl)
 | 4,hj=>exact far 4 (by decide) (h 4 u hj)
 | 5,hj=>exact far 5 (by decide) (h 5 u hj)
 | j + 6,hj=>cases hj
theorem ZQ {w w':World} {b j:Nat} (e:w'.heap[b]?=w.heap[b]?):w'.frozen? ⟨b,j,none⟩=w.frozen? ⟨b,j,none⟩:=by simp [World.frozen?,e]
set_option maxHeartbeats 8000000 in
theorem Vt (c:ce.Cell) (idx:Nat) (N:Nat) (w:World) (b k:Nat) (h:CellAt w b 0 c) (hk:1≤k) (hN:Vb w N (stV5 idx (.slice none 0 0)) 206) :
  Calls Tryz.prog 361 #[.pointer (some ⟨N,0,none⟩),.agg (cmdV (.slice (some ⟨b,0,none⟩) 1 k))] w λe w'=>∃ b2 k2 b3 k3,e=.returned (.agg #[.int .i64 0,.bool false,.slice (some ⟨b2,0,none⟩) 1 k2,.slice none 0 0])∧CellAt w' b2 0 { c with seq:=idx }∧1≤k2∧w.heap.size≤b2∧Vb w' N (stV5 idx (.slice (some ⟨b3,0,none⟩) 1 k3)) 206∧Apart [N] w w':=by
 have hmf:∀ (fn:Fn) (first cap:Array Value) (w:World),(Instr.makeFunc fn first cap).run Tryz.prog w=.ok (.func fn first cap) w:=λ_ _ _ _=>rfl
 obtain ⟨i0,hi,hz0,hz1,hz2⟩:=info_parts xG;obtain ⟨M,hM⟩:∃ M,w.heap.size=M:=⟨_,rfl⟩
 have hNM:N < M:=by rw [← hM];exact hN.lt
 obtain ⟨X,hX⟩:∃ X,(w.alloc (.cells #[.int .i64 1,.int .u64 1,.int .u64 1,.slice (some ⟨b,0,none⟩) 1 k,.string ⟨#[]⟩,.int .u64 0,.int .u32 0,.int .u64 0,.slice none 0 0] 81)).alloc (.cells #[.int .i64 0,.bool false,.slice none 0 0,.slice none 0 0] 338)=X:=⟨_,rfl⟩
 have hb0:Below w.heap.size w X:=by rw [← hX];exact qd (qd (Below.refl _ _) _) _
 have v2:Vb X (M + 1) (efV (.slice none 0 0)) 338:=by rw [← hX];exact QQ w M hM _ _
 have v1:Vb X M (cmC 1 1 1 (.slice (some ⟨b,0,none⟩) 1 k)) 81:=by
  rw [← hX,← hM]
  exact (Below.heap_alloc _ _ _ (by rw [size_alloc'];omega)).trans (heap_alloc_new w _)
 have v0:Vb X N (stV5 idx (.slice none 0 0)) 206:=(hb0.block _ hN.lt).trans hN;have hca:=h.later hb0;have hb1:BatAt w N M (stV5 idx (.slice none 0 0)) (efV (.slice none 0 0)) (.slice (some ⟨b,0,none⟩) 1 k) X:=⟨v0,v1,v2,Apart.of_below hb0 [N],hM,hNM⟩;have c4:X.cell? ⟨N,4,none⟩=some (.slice none 0 0):=v0.cell 4 _ rfl;have m3:X.cell? ⟨M,3,none⟩=some (.slice (some ⟨b,0,none⟩) 1 k):=v1.cell 3 _ rfl
 have HT:=Uq λw' (hb:Below X.heap.size X w')=>Vs c w' b k (hca.later hb)
 have HX:=Uq hX;have HM:=Uq hM;have B0:=Uq hb1;have HCA:=Uq hca;have HK:=Uq hk;unfold cmdV;clear hX hM hb0 v0 v1 v2 hca h hN hk hb1
 go_enter Tryz.func361,Tryz.ntmps361
 go_upto_region 1 with fail;rw [HX.out,HM.out]
 go_upto_region 10 with (first
  | (go_at_call 421;refine (YA _ _).mono ?_;rintro e w1 ⟨rfl,rfl⟩)
  | (go_at_call 423;refine (HT.out _ (Below.refl _ _)).mono ?_;rintro e w2 ⟨rfl,hb⟩;have B2:=Uq (B0.out.later hb);have HCA2:=Uq (HCA.out.later hb);clear hb))
 have m3:w2.cell? ⟨M,3,none⟩=some (.slice (some ⟨b,0,none⟩) 1 k):=B2.out.cm.cell 3 _ rfl
 go_upto_region 11 with (go_at_call 96;refine (jL _ 1 (qt c) _ (YK HCA2.out HK.out) (by omega)).mono ?_;rintro e w3 ⟨u,rfl,ho,hb⟩;obtain ⟨b2,k2,rfl,g1,g2,g3,g4,g5⟩:=QP ho;have B3:=Uq (B2.out.later hb);have O3:=Uq g4;have F3:=Uq g5;have e2:=B3.out.ef.cell 2 _ rfl;have f2:=B3.out.ef.free 2;have hMw:M + 1 < w2.heap.size:=B2.out.ef.lt;clear hb ho g4 g5)
 have hTop:=B3.out.top;have hA4:=Apart.setCell w3 (M + 1) 2 (.slice (some ⟨b2,0,none⟩) 1 k2)
 have hn1:¬ b2=M + 1:=by omega
 have hn2:¬ b2=N:=by omega
 have hblk:=hA4.block b2 g2 (by simpa using hn1)
 have B4:Hid (BatAt w N M (stV5 idx (.slice none 0 0)) (efV (.slice (some ⟨b2,0,none⟩) 1 k2)) (.slice (some ⟨b,0,none⟩) 1 k) (w3.setCell ⟨M + 1,2,none⟩ (.slice (some ⟨b2,0,none⟩) 1 k2))):=Uq (B3.out.eff 2 (.slice (some ⟨b2,0,none⟩) 1 k2));have O4:=Uq (O3.out.block hblk);have F4:=Uq ((ZQ (j:=3) hblk).trans (F3.out 3));have hlt4:=hA4.size;obtain ⟨w4,hw4⟩:∃ w4,w3.setCell ⟨M + 1,2,none⟩ (.slice (some ⟨b2,0,none⟩) 1 k2)=w4:=⟨_,rfl⟩;rw [hw4] at B4 O4 F4 hlt4 ⊢
 have hb2M:M + 1 < b2:=by omega
 have hbw:w.heap.size≤b2:=by omega
 have hb2l:b2 < w4.heap.size:=by omega
 have HB2:=Uq (And.intro hb2M (And.intro hbw (And.intro hb2l g3)));clear hTop hA4 hblk hlt4 hw4 hb2M hbw hb2l g1 g2 g3 B3 O3 F3 e2 f2 hMw B2 HCA2 m3 HT HCA HK B0 HX c4;have q1:w4.cell? ⟨M + 1,2,none⟩=some (.slice (some ⟨b2,0,none⟩) 1 k2):=B4.out.ef.cell 2 _ rfl;have q2:w4.cell? ⟨N,0,none⟩=some (.int .u64 (idx:Int)):=B4.out.st.cell 0 _ rfl;have q3:w4.cell? ⟨b2,3,none⟩=some (.int .u64 (c.seq:Int)):=O4.out 3 _ rfl;have q4:=F4.out;go_upto_region 12 with fail;refine wp_loop_rounds 2 ?_;rw [rounds_succ];go_upto_region 14 with fail;go_region;have hn3:=HB2.out;have B5:Hid (BatAt w N M (stV5 idx (.slice none 0 0)) (efV (.slice (some ⟨b2,0,none⟩) 1 k2)) (.slice (some ⟨b,0,none⟩) 1 k) (w4.setCell ⟨b2,3,none⟩ (.int .u64 (idx:Int))).drew):=Uq ((B4.out.own b2 3 (.int .u64 (idx:Int)) hn3.1).later (below_drewN (Below.refl _ _) 1));have O5:Hid (CellAt (w4.setCell ⟨b2,3,none⟩ (.int .u64 (idx:Int))).drew b2 0 { c with seq:=idx }):=Uq (O4.out.setSeq idx);have hl5:b2 < (w4.setCell ⟨b2,3,none⟩ (.int .u64 (idx:Int))).drew.heap.size:=Nat.lt_of_lt_of_le hn3.2.2.1 (Apart.setCell w4 b2 3 (.int .u64 (idx:Int))).size;obtain ⟨w5,hw5⟩:∃ w5,(w4.setCell ⟨b2,3,none⟩ (.int .u64 (idx:Int))).drew=w5:=⟨_,rfl⟩;rw [hw5] at B5 O5 hl5 ⊢;have HB5:=Uq (And.intro hn3.1 (And.intro hn3.2.1 (And.intro hl5 hn3.2.2.2)));clear hn3 hl5 hw5 q1 q2 q3 q4 B4 O4 F4 HB2;go_wp2_with fail;rw [rounds_succ];have c4:w5.cell? ⟨N,4,none⟩=some (.slice none 0 0):=B5.out.st.cell 4 _ rfl
 go_upto_region 17 with (go_at_call 424;refine (uY _ 0 [] _ (cut_nil _ 3) (by omega)).mono ?_;rintro e w6 ⟨u,rfl,ho,hb⟩;have B6:=Uq (B5.out.later hb);have O6:=Uq (O5.out.later hb);have hs6:=hb.size;have HO6:=Uq ho;clear hb ho)
 have HS6:=Uq hs6;clear c4 hs6;have m1:w6.cell? ⟨M,1,none⟩=some (.int .u64 1):=B6.out.cm.cell 1 _ rfl;have m2:w6.cell? ⟨M,2,none⟩=some (.int .u64 1):=B6.out.cm.cell 2 _ rfl;have e0:w6.cell? ⟨M + 1,0,none⟩=some (.int .i64 0):=B6.out.ef.cell 0 _ rfl
 go_wp2_with (at_builtin;refine wpList_append_own _ rfl _ _ 204 rfl w5.heap.size 487 i0 _ 3 24 Tryz.underlying204 hi hz0 hz1 hz2 rfl (by decide) _ _ _ rfl (HO6.out.alloc _) ⟨w6.heap.size,0,none⟩ 1 1 [.int .u64 1,.int .u64 1,.int .i64 0] rfl rfl ?c1 ?c2 ?c3 ?c4 ?c5 ?_)
 case c1=>exact Zb w6 [.int .u64 1,.int .u64 1,.int .i64 0] _
 case c2=>intro x hx;simp only [List.mem_cons,List.not_mem_nil,or_false] at hx;rcases hx with rfl | rfl | rfl <;> rfl
 case c3=>unfold maxLen;omega
 case c4=>omega
 case c5=>rw [size_alloc'];have:=HS6.out;omega
 intro v7 w7 hown7 hgrow7 _;have hl7:=HO6.out.lt
 have hb7:Below w5.heap.size w6 w7:=((Below.refl _ w6).alloc HS6.out _).grown hgrow7 (by rw [size_alloc'];have:=HS6.out;omega) (λj hj=>(hl7 j hj).1)
 obtain ⟨b3,k3,rfl⟩:∃ b3 k3,v7=.slice (some ⟨b3,0,none⟩) 1 k3:=by
  rcases hown7.2 with ⟨_,h0⟩ | ⟨g',cap,cur,hv,_⟩
  ·exact absurd h0 (by decide)
  ·exact ⟨g',cap,hv⟩
 have h5:=HB5.out
 have B7:=Uq (B6.out.kept hb7 (by omega))
 have O7:=Uq (O6.out.block (hb7.block b2 h5.2.2.1))
 have hl7':b2 < w7.heap.size:=by have:=hb7.size;have:=HS6.out;omega
 have d4:w7.cell? ⟨N,4,none⟩=some (.slice none 0 0):=B7.out.st.cell 4 _ rfl;have d5:=B7.out.st.free 4;have B8:=Uq (B7.out.sta 4 (.slice (some ⟨b3,0,none⟩) 1 k3))
 have O8:=Uq (O7.out.block ((Apart.setCell w7 N 4 (.slice (some ⟨b3,0,none⟩) 1 k3)).block b2 hl7' (by simpa using hn2)))
 have H5:=Uq h5;clear hown7 hgrow7 hl7 hb7 hl7' h5 m1 m2 e0 B5 B6 O5 O6 HO6;go_upto_region 20 with fail;obtain ⟨w8,hw8⟩:∃ w8,w7.setCell ⟨N,4,none⟩ (.slice (some ⟨b3,0,none⟩) 1 k3)=w8:=⟨_,rfl⟩;rw [hw8] at B8 O8 ⊢;have e0:w8.cell? ⟨M + 1,0,none⟩=some (.int .i64 0):=B8.out.ef.cell 0 _ rfl;have e1:w8.cell? ⟨M + 1,1,none⟩=some (.bool false):=B8.out.ef.cell 1 _ rfl;have e2:w8.cell? ⟨M + 1,2,none⟩=some (.slice (some ⟨b2,0,none⟩) 1 k2):=B8.out.ef.cell 2 _ rfl;have e3:w8.cell? ⟨M + 1,3,none⟩=some (.slice none 0 0):=B8.out.ef.cell 3 _ rfl;have f0:=B8.out.ef.free 0;have f1:=B8.out.ef.free 1;have f2:=B8.out.ef.free 2;have f3:=B8.out.ef.free 3;clear hw8 B7 O7 d4 d5;go_wp2_with fail;have B9:=(((B8.out.eff 0 (.int .i64 0)).eff 1 (.bool false)).eff 2 (.slice (some ⟨b2,0,none⟩) 1 k2)).eff 3 (.slice none 0 0);have hl8:=World.block_lt_of_cell? _ _ (O8.out 0 _ rfl);have hA:=(((Apart.setCell w8 (M + 1) 0 (.int .i64 0)).trans (Apart.setCell _ (M + 1) 1 (.bool false))).trans (Apart.setCell _ (M + 1) 2 (.slice (some ⟨b2,0,none⟩) 1 k2))).trans (Apart.setCell _ (M + 1) 3 (.slice none 0 0));have hF:Vb ((((w8.setCell ⟨M + 1,0,none⟩ (.int .i64 0)).setCell ⟨M + 1,1,none⟩ (.bool false)).setCell ⟨M + 1,2,none⟩ (.slice (some ⟨b2,0,none⟩) 1 k2)).setCell ⟨M + 1,3,none⟩ (.slice none 0 0)) (M + 1) [.int .i64 0,.bool false,.slice (some ⟨b2,0,none⟩) 1 k2,.slice none 0 0] 338:=B9.ef
 refine bodyPost_ret (xh rfl _ _ (M + 1) _ _ (0,0) _ rfl hF Tryz.underlying338 rfl (by rw [size_effect'];rfl)) rfl ?_
 exact ⟨b2,k2,b3,k3,rfl,O8.out.block (hA.block b2 hl8 (by simpa using hn1)),H5.out.2.2.2,H5.out.2.1,B9.st,B9.ap⟩
abbrev JOBS:vd.Name:=[74,79,66,83]
theorem Z5 {w0 w:World} {p b:Nat} {d d2:vd.Disk} (n:vd.Name) (s:ByteArray) (hs:crcm.mk n=s) (h:Ldk w0 w p b d) (he:wl.open_ d n=(d2,[],0)) (hn:n.length≤200) (ht:TabAt w0) :
  Calls Tryz.prog 158 #[.pointer (some ⟨p,0,none⟩),.string s] w λe w'=>∃ A c g,e=.returned (.tuple #[.pointer (some ⟨g,0,none⟩),.slice A 0 c,.int .i64 0])∧Ldk w0 w' p b d2∧Lg w' g p ⟨n,0,false⟩∧w.heap.size≤g∧Apart [p,b] w w':=by
 subst hs;refine (xz n h hn ht).mono ?_;rintro e w' hL;obtain ⟨A,c,g,h1,h2,h3,h4,h5,h6⟩:=hL.own he;exact ⟨A,c,g,h1,h2,h5,h4,h3⟩
theorem uv {w0 w:World} {p b:Nat} {d d2:vd.Disk} (h:Ldk w0 w p b d) (he:wl.open_ d JOBS=(d2,[],0)) (ht:TabAt w0) :
  Calls Tryz.prog 115 #[dptr p] w λe w'=>∃ dr g,e=.returned (.tuple #[.pointer (some ⟨dr,0,none⟩),.int .i64 0])∧Ldk w0 w' p b d2∧Lg w' g p ⟨JOBS,0,false⟩∧Vb w' dr [.pointer (some ⟨g,0,none⟩),.slice none 0 0] 316∧w.heap.size≤dr∧w.heap.size≤g∧Apart [p,b] w w':=by
 have HO:=Uq (Z5 JOBS ⟨#[74,79,66,83]⟩ rfl h he (by decide) ht)
 clear h he ht;unfold dptr
 go_enter Tryz.func115,Tryz.ntmps115
 go_upto_region 4 with (go_at_call 158;refine HO.out.mono ?_;rintro e w1 ⟨A,c,g,rfl,h1,h2,h3,h4⟩;have HH:=Uq (And.intro h1 (And.intro h2 (And.intro h3 h4)));clear h1 h2 h3 h4)
 go_upto_region 6 with fail
 go_loopw [26] (λi wr=>i=.int .i64 0∧wr=w1.alloc (.cells #[.pointer (some ⟨g,0,none⟩),.slice none 0 0] 316)) (λ_ _=>0)
 case atStart=>exact ⟨rfl,rfl⟩
 case round=>
  obtain ⟨rfl,rfl⟩:=hrel;go_wp2_with fail
  go_ret2
  obtain ⟨h1,h2,h3,h4⟩:=HH.out;have hb:Below w1.heap.size w1 (w1.alloc (.cells #[.pointer (some ⟨g,0,none⟩),.slice none 0 0] 316)):=(Below.refl _ w1).alloc (Nat.le_refl _) _;exact ⟨w1.heap.size,g,rfl,h1.later hb,(hb.block _ (Vb.lt h2)).trans h2,Vb.new w1 [.pointer (some ⟨g,0,none⟩),.slice none 0 0] _,h4.size,h3,h4.trans (Apart.of_below hb _)⟩
abbrev MANI:vd.Name:=[77,65,78,73,70,69,83,84]
abbrev ELOG:vd.Name:=[76,79,71]
def engC (p:Nat) (ed lg:Value) (tb mm last:Nat):List Value:=[.slice none 0 0,.int .u64 0,.int .u64 0,dptr p,ed,lg,.map (some tb),.pointer (some ⟨mm,0,none⟩),.int .u64 (last:Int),.bool false]
section
variable {w0 w:World} {p b ge tb mm:Nat} {d d2:vd.Disk}
theorem xC {vs:List Value} (h:Ldk w0 w p b d) (hv:Vb w ge vs 173):ge ∉ [p,b]:=λhx=>by
 simp only [List.mem_cons,List.not_mem_nil,or_false] at hx
 rcases hx with e | e
 ·exact qa hv h.dk.blk (by decide) e
 ·exact qf hv h.dk.map e
theorem Kz {lg:Value} (h:Ldk w0 w p b d) (hv:Vb w ge (engC p (.pointer none) lg tb mm 0) 173) (hg:w0.heap.size≤ge) (he:wl.open_ d MANI=(d2,[],0)) (ht:TabAt w0) :
  Calls Tryz.prog 89 #[.pointer (some ⟨ge,0,none⟩)] w λe w'=>∃ g,e=.returned (.int .i64 0)∧Ldk w0 w' p b d2∧Lg w' g p ⟨MANI,0,false⟩∧Vb w' ge (engC p (.pointer (some ⟨g,0,none⟩)) lg tb mm 0) 173∧w.heap.size≤g∧Apart [p,b,ge] w w':=by
 have hlt:=hv.lt;have ho:=xC h hv
 have HO:=Uq (Z5 MANI ⟨#[77,65,78,73,70,69,83,84]⟩ rfl h he (by decide) ht)
 have c3:w.cell? ⟨ge,3,none⟩=some (.pointer (some ⟨p,0,none⟩)):=hv.cell 3 _ rfl;have HV:=Uq hv;have HG:=Uq hg;have HOU:=Uq ho;have HLT:=Uq hlt;clear h he ht hv hg ho hlt
 go_enter Tryz.func89,Tryz.ntmps89
 go_upto_region 4 with (go_at_call 158;refine HO.out.mono ?_;rintro e w1 ⟨A,c,g,rfl,h1,h2,h3,h4⟩;have HH:=Uq (And.intro h1 (And.intro h2 (And.intro h3 h4)));clear h1 h2 h3 h4)
 obtain ⟨h1,h2,h3,h4⟩:=HH.out;have hv1:=HV.out.apart h4 HOU.out;have d2':w1.cell? ⟨ge,2,none⟩=some (.int .u64 0):=hv1.cell 2 _ rfl;have d4:w1.cell? ⟨ge,4,none⟩=some (.pointer none):=hv1.cell 4 _ rfl;have d8:w1.cell? ⟨ge,8,none⟩=some (.int .u64 0):=hv1.cell 8 _ rfl;have f4:=hv1.free 4;have f8:=hv1.free 8;have HV1:=Uq hv1;clear h1 h2 h3 h4 hv1 c3;go_upto_region 6 with fail
 go_loopw [28] (λi wr=>i=.int .i64 0∧wr=w1.setCell ⟨ge,4,none⟩ (.pointer (some ⟨g,0,none⟩))) (λ_ _=>0)
 case atStart=>exact ⟨rfl,rfl⟩
 case round=>
  obtain ⟨rfl,rfl⟩:=hrel;go_wp2_with fail;go_ret;obtain ⟨h1,h2,h3,h4⟩:=HH.out;have hv2:=(HV1.out.set 4 (.pointer (some ⟨g,0,none⟩))).set 8 (.int .u64 0);have a1:=(Apart.setCell w1 ge 4 (.pointer (some ⟨g,0,none⟩))).trans (Apart.setCell (w1.setCell ⟨ge,4,none⟩ (.pointer (some ⟨g,0,none⟩))) ge 8 (.int .u64 0))
  have hpg:p ∉ [ge]:=λhx=>HOU.out (by have e:p=ge:=(by simpa using hx);simp [e])
  have hbg:b ∉ [ge]:=λhx=>HOU.out (by have e:b=ge:=(by simpa using hx);simp [e])
  have hgg:g ∉ [ge]:=λhx=>by have e:g=ge:=(by simpa using hx);have:=HLT.out;omega
  exact ⟨g,rfl,h1.next a1 (by have:=HG.out;simpa using this) (h1.dk.apart a1 hpg hbg) h1.ok rfl,Vb.apart h2 a1 hgg,hv2,h3,(h4.mono (by simp)).trans (a1.mono (by simp))⟩
theorem jC {ed:Value} (h:Ldk w0 w p b d) (hv:Vb w ge (engC p ed (.pointer none) tb mm 0) 173) (hg:w0.heap.size≤ge) (he:wl.open_ d ELOG=(d2,[],0)) (ht:TabAt w0) :
  Calls Tryz.prog 91 #[.pointer (some ⟨ge,0,none⟩)] w λe w'=>∃ g,e=.returned (.int .i64 0)∧Ldk w0 w' p b d2∧Lg w' g p ⟨ELOG,0,false⟩∧Vb w' ge (engC p ed (.pointer (some ⟨g,0,none⟩)) tb mm 0) 173∧w.heap.size≤g∧Apart [p,b,ge] w w':=by
 have hlt:=hv.lt;have ho:=xC h hv
 have HO:=Uq (Z5 ELOG ⟨#[76,79,71]⟩ rfl h he (by decide) ht)
 have c3:w.cell? ⟨ge,3,none⟩=some (.pointer (some ⟨p,0,none⟩)):=hv.cell 3 _ rfl;have HV:=Uq hv;have HG:=Uq hg;have HOU:=Uq ho;have HLT:=Uq hlt;clear h he ht hv hg ho hlt
 go_enter Tryz.func91,Tryz.ntmps91
 go_upto_region 4 with (go_at_call 158;refine HO.out.mono ?_;rintro e w1 ⟨A,c,g,rfl,h1,h2,h3,h4⟩;have HH:=Uq (And.intro h1 (And.intro h2 (And.intro h3 h4)));clear h1 h2 h3 h4)
 obtain ⟨h1,h2,h3,h4⟩:=HH.out;have hv1:=HV.out.apart h4 HOU.out;have d5:w1.cell? ⟨ge,5,none⟩=some (.pointer none):=hv1.cell 5 _ rfl;have f5:=hv1.free 5;have HV1:=Uq hv1;clear h1 h2 h3 h4 hv1 c3;go_upto_region 6 with fail
 go_loopw [29] (λi wr=>i=.int .i64 0∧wr=w1.setCell ⟨ge,5,none⟩ (.pointer (some ⟨g,0,none⟩))) (λ_ _=>0)
 case atStart=>exact ⟨rfl,rfl⟩
 case round=>
  obtain ⟨rfl,rfl⟩:=hrel;go_wp2_with fail;go_ret;obtain ⟨h1,h2,h3,h4⟩:=HH.out;have hv2:=HV1.out.set 5 (.pointer (some ⟨g,0,none⟩));have a1:=Apart.setCell w1 ge 5 (.pointer (some ⟨g,0,none⟩))
  have hpg:p ∉ [ge]:=λhx=>HOU.out (by have e:p=ge:=(by simpa using hx);simp [e])
  have hbg:b ∉ [ge]:=λhx=>HOU.out (by have e:b=ge:=(by simpa using hx);simp [e])
  have hgg:g ∉ [ge]:=λhx=>by have e:g=ge:=(by simpa using hx);have:=HLT.out;omega
  exact ⟨g,rfl,h1.next a1 (by have:=HG.out;simpa using this) (h1.dk.apart a1 hpg hbg) h1.ok rfl,Vb.apart h2 a1 hgg,hv2,h3,(h4.mono (by simp)).trans (a1.mono (by simp))⟩
theorem uO {ed lg:Value} (hv:Vb w ge (engC p ed lg tb mm 0) 173) :
  Calls Tryz.prog 90 #[.pointer (some ⟨ge,0,none⟩)] w λe w'=>e=.returned (.int .i64 0)∧w=w':=by
 have c0:w.cell? ⟨ge,0,none⟩=some (.slice none 0 0):=hv.cell 0 _ rfl;clear hv
 go_enter Tryz.func90,Tryz.ntmps90
 go_upto_region 2 with fail
 go_loopw [13] (λi wr=>i=.int .i64 0∧wr=w) (λ_ _=>0)
 case atStart=>exact ⟨rfl,rfl⟩
 case round=>
  obtain ⟨rfl,rfl⟩:=hrel;go_wp2_with fail;go_ret;exact ⟨rfl,rfl⟩
theorem vr {G n:Nat} (fs:List Nat) (T:Nat→World→Prop) (hl:fs.length=n) (hn:n≤1000) (he:∀ x ∈ fs,∀ args w,(callFunc x args).run Tryz.prog w=.ok (.enter x args) w)
  (hc:∀ j wr x,fs[j]?=some x→T j wr→wr.cell? ⟨G,j,none⟩=some (.func (.func x) #[.pointer (some ⟨ge,0,none⟩)] #[]))
  (hcall:∀ j wr x,fs[j]?=some x→T j wr→Calls Tryz.prog x #[.pointer (some ⟨ge,0,none⟩)] wr λe w'=>e=.returned (.int .i64 0)∧T (j + 1) w') (h0:T 0 w) :
  Calls Tryz.prog 88 #[.slice (some ⟨G,0,none⟩) n n] w λe w'=>e=.returned (.int .i64 0)∧T n w':=by
 have HC:=Uq hc;have HN:=Uq hl;have HX:=Uq hcall;have HE:=Uq he;have H0:=Uq h0;clear hc hl hcall he h0
 go_enter Tryz.func88,Tryz.ntmps88
 go_wp2_with fail
 go_loopw [8] (λi wr=>∃ k:Nat,k≤n∧i=.int .i64 k∧T k wr) (λi _=>n - (intOf i).toNat)
 case atStart=>exact ⟨0,Nat.zero_le _,rfl,H0.out⟩
 case round=>
  obtain ⟨k,hk,rfl,hT⟩:=hrel
  by_cases hlt:k < n
  ·obtain ⟨x,hx⟩:∃ x,fs[k]?=some x:=⟨fs[k]'(by rw [HN.out];exact hlt),List.getElem?_eq_getElem (by rw [HN.out];exact hlt)⟩
   have c0:=HC.out k wr x hx hT;have e1:=HE.out x (List.mem_of_getElem? hx);have hcall:=HX.out k wr x hx hT;have HXX:=Uq hx;clear hx hT;go_wp2_with fail;refine hcall.mono ?_;rintro e w2 ⟨rfl,hT2⟩;have HT2:=Uq hT2;clear hT2;go_wp2_with fail;go_roundw
   case rel=>exact ⟨k + 1,by omega,by go_num,HT2.out⟩
   case measure=>simp [intOf];omega
  ·obtain rfl:k=n:=by omega
   have HT:=Uq hT;clear hT;go_wp2_with fail;go_ret;exact ⟨rfl,HT.out⟩
end
end Go.Proofs.YtppibhieabideaaGreatDoor
namespace Go.Proofs.YtppibhieabideaaGreatDoor
open Go Go.RowKit Go.Deep Go.Maps Go.Sort Go.Shelf
set_option maxRecDepth 100000
def kB:Go.Shelf.Ren:=⟨fun | 7=>315 | 10=>402 | n=>n,fun | 23=>175 | 26=>9 | 3=>357 | 28=>407 | 0=>0 | 27=>406 | 33=>255 | 4=>4 | n=>n,fun | n=>n⟩
theorem keysL:Go.Proofs.SlLaysZ.n7 Tryz.prog kB:={
 mixed:=by kernel_rfl
 f7:=⟨Tryz.f315.name,by decide,Tryz.func315.trans (congrArg some (by kernel_rfl))⟩
 f10:=⟨Tryz.f402.name,by decide,Tryz.func402.trans (congrArg some (by kernel_rfl))⟩
 t0:=Tryz.underlying0
 a0:=Tryz.isAgg0
 z0:=Tryz.sizeOf0
 v0:=Tryz.zeroValue0
 t4:=Tryz.underlying4
 a4:=Tryz.isAgg4
 z4:=Tryz.sizeOf4
 v4:=Tryz.zeroValue4
 t23:=Tryz.underlying175
 a23:=Tryz.isAgg175
 z23:=Tryz.sizeOf175
 v23:=Tryz.zeroValue175
 t26:=Tryz.underlying9
 a26:=Tryz.isAgg9
 z26:=Tryz.sizeOf9
 v26:=Tryz.zeroValue9
 t27:=Tryz.underlying406
 a27:=Tryz.isAgg406
 z27:=Tryz.sizeOf406
 v27:=Tryz.zeroValue406
 t28:=Tryz.underlying407
 a28:=Tryz.isAgg407
 z28:=Tryz.sizeOf407
 v28:=Tryz.zeroValue407
 t33:=Tryz.underlying255
 a33:=Tryz.isAgg255
 z33:=Tryz.sizeOf255
 v33:=Tryz.zeroValue255 }
def yt:Go.Shelf.Ren:=⟨fun | 6=>314 | 8=>400 | 9=>401 | 11=>447 | 13=>449 | 12=>448 | 23=>493 | 24=>494 | 14=>485 | 15=>486 | 16=>487 | 17=>488 | 18=>489 | 19=>490 | 20=>476 | 21=>491 | 22=>492 | 25=>509 | 26=>510 | 27=>511 | 28=>512 | 29=>513 | 30=>506 | 31=>525 | n=>n,fun | 26=>9 | 28=>407 | 24=>22 | 0=>0 | 3=>3 | 37=>266 | 48=>78 | 50=>30 | 4=>4 | 40=>544 | 39=>543 | 45=>491 | 5=>5 | 9=>9 | 51=>557 | 55=>444 | 57=>567 | 58=>568 | 33=>255 | n=>n,fun | n=>n⟩
theorem sortedL:Go.Proofs.SlLaysZ.n6 Tryz.prog yt:={
 mixed:=by kernel_rfl
 f6:=⟨Tryz.f314.name,by decide,Tryz.func314.trans (congrArg some (by kernel_rfl))⟩
 f8:=⟨Tryz.f400.name,by decide,Tryz.func400.trans (congrArg some (by kernel_rfl))⟩
 f11:=⟨Tryz.f447.name,by decide,Tryz.func447.trans (congrArg some (by kernel_rfl))⟩
 t0:=Tryz.underlying0
 a0:=Tryz.isAgg0
 z0:=Tryz.sizeOf0
 v0:=Tryz.zeroValue0
 t24:=Tryz.underlying22
 a24:=Tryz.isAgg22
 z24:=Tryz.sizeOf22
 v24:=Tryz.zeroValue22
 t26:=Tryz.underlying9
 a26:=Tryz.isAgg9
 z26:=Tryz.sizeOf9
 v26:=Tryz.zeroValue9
 t28:=Tryz.underlying407
 a28:=Tryz.isAgg407
 z28:=Tryz.sizeOf407
 v28:=Tryz.zeroValue407
 i26:=by kernel_rfl }
def Xt:Go.Shelf.Ren:=⟨fun | 6=>401 | 8=>449 | 9=>448 | 19=>493 | 20=>494 | 21=>485 | 22=>486 | 23=>487 | 24=>488 | 25=>489 | 26=>490 | 27=>476 | 28=>491 | 29=>492 | 36=>509 | 31=>510 | 32=>511 | 37=>512 | 38=>513 | 39=>506 | 41=>525 | n=>n,fun | 27=>22 | 29=>9 | 3=>3 | 32=>266 | 26=>22 | 0=>0 | 44=>78 | 46=>30 | 4=>4 | 36=>544 | 35=>543 | 41=>491 | 5=>5 | 9=>9 | 53=>557 | 57=>444 | 63=>567 | 64=>568 | n=>n,fun | n=>n⟩
theorem sortL:Go.Proofs.SlLaysM.n6 Tryz.prog Xt:={
 mixed:=by kernel_rfl
 f6:=⟨Tryz.f401.name,by decide,Tryz.func401.trans (congrArg some (by kernel_rfl))⟩
 f8:=Tryz.func449.trans (congrArg some (by kernel_rfl))
 f9:=⟨Tryz.f448.name,by decide,Tryz.func448.trans (congrArg some (by kernel_rfl))⟩
 f19:=Tryz.func493.trans (congrArg some (by kernel_rfl))
 f20:=Tryz.func494.trans (congrArg some (by kernel_rfl))
 f21:=⟨Tryz.f485.name,by decide,Tryz.func485.trans (congrArg some (by kernel_rfl))⟩
 f22:=⟨Tryz.f486.name,by decide,Tryz.func486.trans (congrArg some (by kernel_rfl))⟩
 f23:=⟨Tryz.f487.name,by decide,Tryz.func487.trans (congrArg some (by kernel_rfl))⟩
 f24:=⟨Tryz.f488.name,by decide,Tryz.func488.trans (congrArg some (by kernel_rfl))⟩
 f25:=⟨Tryz.f489.name,by decide,Tryz.func489.trans (congrArg some (by kernel_rfl))⟩
 f26:=⟨Tryz.f490.name,by decide,Tryz.func490.trans (congrArg some (by kernel_rfl))⟩
 f27:=⟨Tryz.f476.name,by decide,Tryz.func476.trans (congrArg some (by kernel_rfl))⟩
 f28:=⟨Tryz.f491.name,by decide,Tryz.func491.trans (congrArg some (by kernel_rfl))⟩
 f29:=⟨Tryz.f492.name,by decide,Tryz.func492.trans (congrArg some (by kernel_rfl))⟩
 f31:=Tryz.func510.trans (congrArg some (by kernel_rfl))
 f32:=Tryz.func511.trans (congrArg some (by kernel_rfl))
 f36:=⟨Tryz.f509.name,by decide,Tryz.func509.trans (congrArg some (by kernel_rfl))⟩
 f37:=⟨Tryz.f512.name,by decide,Tryz.func512.trans (congrArg some (by kernel_rfl))⟩
 f38:=⟨Tryz.f513.name,by decide,Tryz.func513.trans (congrArg some (by kernel_rfl))⟩
 f39:=⟨Tryz.f506.name,by decide,Tryz.func506.trans (congrArg some (by kernel_rfl))⟩
 f41:=⟨Tryz.f525.name,by decide,Tryz.func525.trans (congrArg some (by kernel_rfl))⟩
 t0:=Tryz.underlying0
 a0:=Tryz.isAgg0
 z0:=Tryz.sizeOf0
 v0:=Tryz.zeroValue0
 t3:=Tryz.underlying3
 a3:=Tryz.isAgg3
 z3:=Tryz.sizeOf3
 v3:=Tryz.zeroValue3
 t4:=Tryz.underlying4
 a4:=Tryz.isAgg4
 z4:=Tryz.sizeOf4
 v4:=Tryz.zeroValue4
 t5:=Tryz.underlying5
 a5:=Tryz.isAgg5
 z5:=Tryz.sizeOf5
 v5:=Tryz.zeroValue5
 t9:=Tryz.underlying9
 a9:=Tryz.isAgg9
 z9:=Tryz.sizeOf9
 v9:=Tryz.zeroValue9
 t26:=Tryz.underlying22
 a26:=Tryz.isAgg22
 z26:=Tryz.sizeOf22
 v26:=Tryz.zeroValue22
 t27:=Tryz.underlying22
 a27:=Tryz.isAgg22
 z27:=Tryz.sizeOf22
 v27:=Tryz.zeroValue22
 t29:=Tryz.underlying9
 a29:=Tryz.isAgg9
 z29:=Tryz.sizeOf9
 v29:=Tryz.zeroValue9
 t32:=Tryz.underlying266
 a32:=Tryz.isAgg266
 z32:=Tryz.sizeOf266
 v32:=Tryz.zeroValue266
 t35:=Tryz.underlying543
 a35:=Tryz.isAgg543
 z35:=Tryz.sizeOf543
 v35:=Tryz.zeroValue543
 t36:=Tryz.underlying544
 a36:=Tryz.isAgg544
 z36:=Tryz.sizeOf544
 v36:=Tryz.zeroValue544
 t41:=Tryz.underlying491
 a41:=Tryz.isAgg491
 z41:=Tryz.sizeOf491
 v41:=Tryz.zeroValue491
 t44:=Tryz.underlying78
 a44:=Tryz.isAgg78
 z44:=Tryz.sizeOf78
 v44:=Tryz.zeroValue78
 t46:=Tryz.underlying30
 a46:=Tryz.isAgg30
 z46:=Tryz.sizeOf30
 v46:=Tryz.zeroValue30
 t53:=Tryz.underlying557
 a53:=Tryz.isAgg557
 z53:=Tryz.sizeOf557
 v53:=Tryz.zeroValue557
 t57:=Tryz.underlying444
 a57:=Tryz.isAgg444
 z57:=Tryz.sizeOf444
 v57:=Tryz.zeroValue444
 t63:=Tryz.underlying567
 a63:=Tryz.isAgg567
 z63:=Tryz.sizeOf567
 v63:=Tryz.zeroValue567
 t64:=Tryz.underlying568
 a64:=Tryz.isAgg568
 z64:=Tryz.sizeOf568
 v64:=Tryz.zeroValue568 }
theorem sortsL (m:Nat):AnyZ.SortsIn Tryz.prog yt Fence.wide m:=
 ⟨λblk off cap ss W hH hblk hsz=>callsIn_wide.2 (AnyM.slices_Sort_string sortL blk off cap ss W hH hblk hsz),
  λp cap W=>callsIn_wide.2 (AnyM.slices_Sort_string_none sortL p cap W)⟩
theorem ut (mb:Option Nat) (W:World):Calls Tryz.prog 315 #[.map mb] W λe w'=>e=.returned (.func (.func 402) #[] #[.pointer (some ⟨W.heap.size,0,none⟩)])∧w'=W.alloc (.cells #[.map mb] 175):=
 callsIn_wide.1 (AnyZ.keys_in keysL Fence.wide 5 trivial rfl mb W)
set_option maxHeartbeats 1000000 in
theorem Ju (b nn:Nat) (D0:DataW Unit) (R:Value→Option (DataW Unit × List MemPlace)) (w:World) (hown:w.ownsMap Tryz.prog 9 R b nn D0) (hmax:Maps.size D0≤maxLen) (hbytes:Maps.size D0 * 16≤140737488355328) :
  Calls Tryz.prog 314 #[.func (.func 402) #[] #[.pointer (some ⟨w.heap.size,0,none⟩)]] (w.alloc (.cells #[.map (some b)] 175)) λe w'=>∃ (v:Value) (ss:List (List UInt8)),e=.returned v∧ss.Perm (strKeys D0) ∧
   w'.ownsRow (w.alloc (.cells #[.map (some b)] 175)).heap.size 9 1 v ss.length ((ss.mergeSort (λx y=>decide (x≤y))).map encStr)∧(v=.slice none 0 0 ↔ ss=[])∧Below (w.alloc (.cells #[.map (some b)] 175)).heap.size (w.alloc (.cells #[.map (some b)] 175)) w':=by
 have hbl:=hown.lt
 have hseq:SeqGives Fence.wide 2 Tryz.prog 402 #[.pointer (some ⟨w.heap.size,0,none⟩)] encStr (λss=>ss.Perm (strKeys D0)) (Maps.size D0) (w.alloc (.cells #[.map (some b)] 175)):=
  AnyZ.keys_gives (ρ:=kB) { keysL with } Fence.wide _ trivial rfl (by omega) w.heap.size b nn D0 _ (by simp) (by simp) (by
   obtain ⟨es,clock,hb,Ft,hs,hD⟩:=hown
   exact ⟨es,clock,(Below.heap_alloc _ _ b hbl).trans hb,Ft,hs,hD⟩)
 exact callsIn_wide.1 (AnyZ.sorted_in sortedL Fence.wide 5 trivial trivial trivial trivial rfl (by omega) (sortsL _) (enters_of Tryz.func401 (by kernel_rfl) rfl) 402 #[.pointer (some ⟨w.heap.size,0,none⟩)] trivial (enters_of Tryz.func402 (by kernel_rfl) rfl) _ _ hmax hbytes _ hseq)
theorem Yu (x:Lit × DataW Unit):∀ l,∀ y,y ∈ DataW.insert x l→y=x∨y ∈ l
 | [],y,h=>by
  unfold DataW.insert at h;exact .inl (List.mem_singleton.1 h)
 | z :: r,y,h=>by
  unfold DataW.insert at h
  split at h
  ·rcases List.mem_cons.1 h with h | h
   ·exact .inl h
   ·exact .inr h
  ·rcases List.mem_cons.1 h with h | h
   ·exact .inr (by rw [h];exact List.mem_cons_self)
   ·rcases Yu x r y h with h | h
    ·exact .inl h
    ·exact .inr (List.mem_cons_of_mem _ h)
theorem Yx (x:Lit × DataW Unit):∀ l,(DataW.insert x l).length=l.length + 1
 | []=>rfl
 | z :: r=>by
  unfold DataW.insert
  split
  ·rfl
  ·rw [List.length_cons,Yx x r];rfl
theorem yA:∀ (l:List (Lit × DataW Unit)) y,y ∈ l.foldr DataW.insert []→y ∈ l
 | [],y,h=>h
 | x :: r,y,h=>by
  rcases Yu x _ y h with h | h
  ·rw [h];exact List.mem_cons_self
  ·exact List.mem_cons_of_mem _ (yA r y h)
theorem zJ:∀ (l:List (Lit × DataW Unit)),(l.foldr DataW.insert []).length=l.length
 | []=>rfl
 | x :: r=>by
  show (DataW.insert x (r.foldr DataW.insert [])).length=_
  rw [Yx,zJ r];rfl
theorem FMap.owns {w:World} {b:Nat} {M:vd.Files} (h:FMap w b M) (hl:M.length≤1000):∃ D0,w.ownsMap Tryz.prog 9 (λ_=>some ((.nil:DataW Unit),[])) b 1000 D0∧Maps.size D0=M.length∧(strKeys D0).length=M.length∧∀ s ∈ strKeys D0,∃ x ∈ M,x.1=s:=by
 obtain ⟨es,clock,hb,hkv,hs,hm⟩:=h;have hk:=Tryz.underlying9
 have hsz:es.size=M.length:=by
  have:=congrArg List.length hkv
  simpa using this
 have hrd:∀ x ∈ es.toList,∃ m ∈ M,WideElems.rd Tryz.prog 9 (λ_=>some ((.nil:DataW Unit),[])) x=some (.string m.1,.nil):=λx hx=>by
  have hmem:(x.key,x.val) ∈ es.toList.map λe=>(e.key,e.val):=List.mem_map.2 ⟨x,hx,rfl⟩
  rw [hkv] at hmem;obtain ⟨m,hmM,he⟩:=List.mem_map.1 hmem;refine ⟨m,hmM,?_⟩;have hkey:x.key=keyV m.1:=(Prod.mk.inj he).1.symm;unfold WideElems.rd;rw [hkey]
  have h1:keyOf Tryz.prog 9 (keyV m.1)=some (.string m.1):=by
   have:=WideMaps.keyOf_string_mk (P:=Tryz.prog) hk (s:=crcm.mk m.1) (by rw [crcm.mk_size];exact hm m hmM)
   exact this
  rw [h1]
  rfl
 refine ⟨_,⟨es,clock,hb,⟨by rw [hsz];unfold maxLen;omega,hs,λx hx=>?_⟩,by omega,rfl⟩,?_,?_,λs hs'=>?_⟩
 ·obtain ⟨m,_,e⟩:=hrd x hx;exact ⟨_,e⟩
 ·show (List.foldr DataW.insert [] _).length=M.length
  rw [zJ,List.length_map,Array.length_toList,hsz]
 ·show (List.map _ (List.foldr DataW.insert [] _)).length=M.length
  rw [List.length_map,zJ,List.length_map,Array.length_toList,hsz]
 ·obtain ⟨y,hy,rfl⟩:=List.mem_map.1 hs';obtain ⟨x,hx,rfl⟩:=List.mem_map.1 (yA _ _ hy);obtain ⟨m,hmM,e⟩:=hrd x hx;refine ⟨m,hmM,?_⟩;rw [WideElems.rg_of e]
  rfl
end Go.Proofs.YtppibhieabideaaGreatDoor
namespace Go.Proofs.YtppibhieabideaaGreatDoor
open Go Go.RowKit Go.Deep
set_option maxRecDepth 100000
def Known (n:vd.Name):Prop:=n=RAFT∨n=MANI∨n=ELOG
theorem XU {n:vd.Name} (h:Known n):n.length≤8:=by
 rcases h with rfl | rfl | rfl <;> decide
theorem kp {n:vd.Name} (h:Known n) (c:UInt8) (hc:c=115∨c=116) (w:World) :
  Calls Tryz.prog 199 #[.string (crcm.mk n),.string ⟨#[c]⟩] w λe w'=>e=.returned (.bool false)∧w=w':=by
 have key:Calls Tryz.prog 316 #[.string (crcm.mk n),.string ⟨#[c]⟩] w λe w'=>e=.returned (.bool false)∧w=w':=by
  rcases h with rfl | rfl | rfl <;> rcases hc with rfl | rfl <;>
   (go_enter Tryz.func316,Tryz.ntmps316
    unfold crcm.mk;go_wp2_with fail;go_ret;refine ⟨?_,rfl⟩
    kernel_rfl)
 have HK:=Uq key;obtain ⟨s,hs⟩:∃ s,crcm.mk n=s:=⟨_,rfl⟩;rw [hs] at HK ⊢;clear key h hc hs
 go_enter Tryz.func199,Tryz.ntmps199
 go_wp2_with (go_at_call 316;refine HK.out.mono ?_;rintro e w' ⟨rfl,rfl⟩)
 go_ret;exact ⟨rfl,rfl⟩
theorem vW (w:World):(zeroValue 51).run Tryz.prog w=.ok (.pointer none) w:=by kernel_rfl
theorem JM {w:World} {tb c:Nat} (h:w.heap[tb]?=some (.map #[] c)) (n:vd.Name) (hn:n.length≤maxLen) :
  (Instr.lookup 167 (.map (some tb)) (.string (crcm.mk n)) true).run Tryz.prog w=.ok (.tuple #[.pointer none,.bool false]) w:=by
 have hk:=Tryz.underlying9
 have hkey:keyOf Tryz.prog 9 (.string (crcm.mk n))=some _:=WideMaps.keyOf_string_mk hk (by rw [crcm.mk_size];exact hn)
 rcases (WideMaps.string_law hk).find w hkey [] (λe he=>by cases he) with ⟨h1,h2⟩ | ⟨j,e0,h1,h2,h3⟩
 ·simp [Instr.lookup,run_underlying Tryz.underlying167,MapKept.run_getObj_map h,(WideMaps.string_law hk).check w _ hkey,h1,vW w,Result.andThen]
 ·simp at h2
def KM (w:World) (v:Value) (ns:List vd.Name):Prop:=Strs w v ns∧ns.length≤200∧∀ n ∈ ns,Known n
section
variable {w:World} {p b ge tb mm last:Nat} {d:vd.Disk}
theorem xb (hd:Dk w p b d) (hf:d.files.length≤200) (hk:∀ x ∈ d.files,Known x.1) :
  Calls Tryz.prog 198 #[.pointer (some ⟨p,0,none⟩)] w λe w'=>∃ v ns,e=.returned v∧KM w' v ns∧Below w.heap.size w w':=by
 have c2:w.cell? ⟨p,2,none⟩=some (.map (some b)):=hd.blk.cell 2 _ rfl
 obtain ⟨D0,hown,hs1,hs3,hs2⟩:=hd.map.owns (by omega)
 have HK:=Uq (ut (some b) w)
 have HS:=Uq (Ju b 1000 D0 _ w hown (by rw [hs1];unfold maxLen;omega) (by rw [hs1];omega))
 have HN:Hid (∀ s ∈ strKeys D0,Known s):=Uq λs hs=>by
  obtain ⟨x,hx,rfl⟩:=hs2 s hs;exact hk x hx
 have HL:Hid ((strKeys D0).length≤200):=Uq (by omega)
 clear hd hf hk hown hs1 hs2 hs3
 go_enter Tryz.func198,Tryz.ntmps198
 go_wp2_with (first | (go_at_call 315;refine HK.out.mono ?_;rintro e w' ⟨rfl,rfl⟩) | (go_at_call 314;refine HS.out.mono ?_;rintro e w2 ⟨v,ss,rfl,hp,hr,_,hb⟩;have HP:=Uq hp;have HR:=Uq hr;have HB:=Uq hb;clear hp hr hb))
 go_ret
 have hlen:(ss.mergeSort (λx y=>decide (x≤y))).length=ss.length:=List.length_mergeSort _
 have hpp:=List.mergeSort_perm ss (λx y=>decide (x≤y))
 refine ⟨v,ss.mergeSort (λx y=>decide (x≤y)),rfl,⟨zo hlen.symm HR.out,by rw [hlen,HP.out.length_eq];exact HL.out,λn hn=>HN.out n (HP.out.mem_iff.1 (hpp.mem_iff.1 hn))⟩,?_⟩
 have hb0:Below w.heap.size w (w.alloc (.cells #[.map (some b)] 175)):=(Below.refl _ w).alloc (Nat.le_refl _) _;exact hb0.trans (HB.out.mono hb0.size)
theorem vq {ed lg:Value} (hd:Dk w p b d) (hf:d.files.length≤200) (hk:∀ x ∈ d.files,Known x.1) (hv:Vb w ge (engC p ed lg tb mm last) 173) (ht:w.heap[tb]?=some (.map #[] 0)) :
  Calls Tryz.prog 92 #[.pointer (some ⟨ge,0,none⟩)] w λe w'=>e=.returned (.int .i64 0)∧Below w.heap.size w w':=by
 have HL:=Uq (xb hd hf hk);have c3:w.cell? ⟨ge,3,none⟩=some (.pointer (some ⟨p,0,none⟩)):=hv.cell 3 _ rfl;have htl:tb < w.heap.size:=(Array.getElem?_eq_some_iff.1 ht).1
 have K:Hid (∀ w',Below w.heap.size w w'→w'.cell? ⟨ge,4 + 2,none⟩=some (.map (some tb))∧w'.heap[tb]?=some (.map #[] 0)):=Uq λw' hb=>⟨cell_later hb (hv.cell 6 _ rfl),(hb.block _ htl).trans ht⟩
 clear hd hf hk hv ht htl
 go_enter Tryz.func92,Tryz.ntmps92
 go_upto_region 1 with fail
 go_upto_region 2 with (go_at_call 198;refine HL.out.mono ?_;rintro e w1 ⟨v,ns,rfl,⟨⟨A,c,rfl,hc⟩,hl,hk⟩,hb⟩;have HC:=Uq hc;have HB:=Uq hb;have HK:=Uq hk;clear hc hb hk)
 obtain ⟨k6,k7⟩:=K.out _ HB.out;have k6:w1.cell? ⟨ge,6,none⟩=some (.map (some tb)):=k6
 have HE:=Uq λn (hn:Known n)=>JM k7 n (by have:=XU hn;unfold maxLen;omega)
 obtain ⟨n,hn⟩:∃ n,ns.length=n:=⟨_,rfl⟩;rw [hn] at hl HC ⊢;have HN:=Uq hn;clear c3 k7 hn
 go_loopw [14] (λi wr=>∃ k:Nat,k≤n∧i=.int .i64 k∧wr=w1) (λi _=>n - (intOf i).toNat)
 case atStart=>exact ⟨0,Nat.zero_le _,rfl,rfl⟩
 case round=>
  obtain ⟨k,hk,rfl,rfl⟩:=hrel
  by_cases hlt:k < n
  ·obtain ⟨ad,rfl,c0⟩:=HC.out k hlt
   have hkn:Known (ns.getD k []):=HK.out _ (by rw [List.getD_eq_getElem?_getD,List.getElem?_eq_getElem (by rw [HN.out];exact hlt)];exact List.getElem_mem _)
   have hlook:=HE.out _ hkn;have HP:=Uq (kp hkn 116 (.inr rfl) wr);obtain ⟨s,hs⟩:∃ s,crcm.mk (ns.getD k [])=s:=⟨_,rfl⟩;rw [hs] at c0 hlook HP;clear hkn hs
   go_wp2_with (go_at_call 199;refine HP.out.mono ?_;rintro e w' ⟨rfl,rfl⟩)
   go_roundw
   case rel=>exact ⟨k + 1,by omega,by go_num,trivial⟩
   case measure=>simp [intOf];omega
  ·obtain rfl:k=n:=by omega
   go_wp2_with fail;go_ret;exact ⟨rfl,HB.out⟩
end
structure EngAt (w:World) (p ge ed lg tb mm last many:Nat):Prop where
 blk:Vb w ge (engC p (.pointer (some ⟨ed,0,none⟩)) (.pointer (some ⟨lg,0,none⟩)) tb mm last) 173
 ed:Lg w ed p ⟨MANI,0,false⟩
 lg:Lg w lg p ⟨ELOG,many,false⟩
 tb:w.heap[tb]?=some (.map #[] 0)
def EStage (w0 X:World) (p b ge tb mm:Nat) (d d1 d2:vd.Disk) (j:Nat) (wr:World):Prop:=
 Apart [p,b,ge] X wr ∧
 if j=0 then Ldk w0 wr p b d∧Vb wr ge (engC p (.pointer none) (.pointer none) tb mm 0) 173
 else if j≤2 then Ldk w0 wr p b d1∧∃ ed,Lg wr ed p ⟨MANI,0,false⟩∧Vb wr ge (engC p (.pointer (some ⟨ed,0,none⟩)) (.pointer none) tb mm 0) 173∧X.heap.size≤ed
 else Ldk w0 wr p b d2∧∃ ed lg,Lg wr ed p ⟨MANI,0,false⟩∧Lg wr lg p ⟨ELOG,0,false⟩∧Vb wr ge (engC p (.pointer (some ⟨ed,0,none⟩)) (.pointer (some ⟨lg,0,none⟩)) tb mm 0) 173∧X.heap.size≤ed∧X.heap.size≤lg
theorem lg_ne {w:World} {p b ge g:Nat} {d:vd.Disk} {vs:List Value} {l:wl.L} {w0:World} (h:Ldk w0 w p b d) (hv:Vb w ge vs 173) (hg:Lg w g p l):g ∉ [p,b,ge]:=λhx=>by
 have hg:Vb w g (lgV p l) 306:=hg;simp only [List.mem_cons,List.not_mem_nil,or_false] at hx
 rcases hx with e | e | e
 ·exact qa hg h.dk.blk (by decide) e
 ·exact qf hg h.dk.map e
 ·exact qa hg hv (by decide) e
def engFs:List Nat:=[89,90,91,92]
def kK (ge:Nat):List Value:=engFs.map λx=>.func (.func x) #[.pointer (some ⟨ge,0,none⟩)] #[]
theorem vt {w0 X:World} {p b ge tb mm G:Nat} {d d1 d2:vd.Disk} (h:Ldk w0 X p b d) (hge:w0.heap.size≤ge) (h1:wl.open_ d MANI=(d1,[],0)) (h2:wl.open_ d1 ELOG=(d2,[],0)) (hk:∀ x ∈ d2.files,Known x.1) (hf:d2.files.length≤200)
  (hv:Vb X ge (engC p (.pointer none) (.pointer none) tb mm 0) 173) (htb:X.heap[tb]?=some (.map #[] 0)) (hno:tb ∉ [p,b,ge]) (hG:Vb X G (kK ge) 70) (ht:TabAt w0) :
  Calls Tryz.prog 88 #[.slice (some ⟨G,0,none⟩) 4 4] X λe w'=>e=.returned (.int .i64 0)∧EStage w0 X p b ge tb mm d d1 d2 4 w':=by
 have hGn:G ∉ [p,b,ge]:=λhx=>by
  simp only [List.mem_cons,List.not_mem_nil,or_false] at hx
  rcases hx with e | e | e
  ·exact qa hG h.dk.blk (by decide) e
  ·exact qf hG h.dk.map e
  ·exact qa hG hv (by decide) e
 have htl:tb < X.heap.size:=(Array.getElem?_eq_some_iff.1 htb).1
 refine vr (ge:=ge) engFs (EStage w0 X p b ge tb mm d d1 d2) rfl (by decide) (λx hx args w=>?_) (λj wr x hj hT=>?_) (λj wr x hj hT=>?_) ⟨Apart.refl _ _,by rw [if_pos rfl];exact ⟨h,hv⟩⟩
 ·unfold engFs at hx;simp only [List.mem_cons,List.not_mem_nil,or_false] at hx
  rcases hx with rfl | rfl | rfl | rfl <;> rfl
 ·refine (hG.apart hT.1 hGn).cell j _ ?_;unfold kK;rw [List.getElem?_map,hj]
  rfl
 ·obtain ⟨hA,hT⟩:=hT
  match j,hj with
  | 0,hj=>
   injection hj with hj
   subst hj;rw [if_pos rfl] at hT;refine (Kz hT.1 hT.2 hge h1 ht).mono ?_;rintro e w' ⟨g,rfl,k1,k2,k3,k4,k5⟩
   exact ⟨rfl,hA.trans k5,by rw [if_neg (by decide),if_pos (by decide)];exact ⟨k1,g,k2,k3,Nat.le_trans hA.size k4⟩⟩
  | 1,hj=>
   injection hj with hj
   subst hj
   rw [if_neg (by decide),if_pos (by decide)] at hT
   obtain ⟨k1,ed,k2,k3,k4⟩:=hT;refine (uO k3).mono ?_;rintro e w' ⟨rfl,rfl⟩
   exact ⟨rfl,hA,by rw [if_neg (by decide),if_pos (by decide)];exact ⟨k1,ed,k2,k3,k4⟩⟩
  | 2,hj=>
   injection hj with hj
   subst hj
   rw [if_neg (by decide),if_pos (by decide)] at hT
   obtain ⟨k1,ed,k2,k3,k4⟩:=hT;have hne:=lg_ne k1 k3 k2;refine (jC k1 k3 hge h2 ht).mono ?_;rintro e w' ⟨g,rfl,m1,m2,m3,m4,m5⟩
   exact ⟨rfl,hA.trans m5,by rw [if_neg (by decide),if_neg (by decide)];exact ⟨m1,ed,g,Vb.apart k2 m5 hne,m2,m3,k4,Nat.le_trans hA.size m4⟩⟩
  | 3,hj=>
   injection hj with hj
   subst hj
   rw [if_neg (by decide),if_neg (by decide)] at hT
   obtain ⟨k1,ed,lg,k2,k3,k4,k5,k6⟩:=hT;refine (vq k1.dk hf hk k4 ((hA.block _ htl hno).trans htb)).mono ?_;rintro e w' ⟨rfl,hb⟩
   exact ⟨rfl,hA.trans (Apart.of_below hb _),by rw [if_neg (by decide),if_neg (by decide)];exact ⟨k1.later hb,ed,lg,(hb.block _ (Vb.lt k2)).trans k2,(hb.block _ (Vb.lt k3)).trans k3,(hb.block _ k4.lt).trans k4,k5,k6⟩⟩
  | j + 4,hj=>simp [engFs] at hj
theorem mem_new (w:World):Calls Tryz.prog 17 #[] w λe w'=>e=.returned (.pointer (some ⟨w.heap.size,0,none⟩))∧w'=w.alloc (.cells #[.pointer none,.int .i64 0,.int .i64 0] 118):=by
 go_enter Tryz.func17,Tryz.ntmps17
 go_wp2_with fail;go_ret;exact ⟨rfl,rfl⟩
end Go.Proofs.YtppibhieabideaaGreatDoor
