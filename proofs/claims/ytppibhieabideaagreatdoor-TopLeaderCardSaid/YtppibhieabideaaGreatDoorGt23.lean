/- A part of the walk of the program, and of its plain law. -/
import Derived.Test.YtppibhieabideaaGreatDoorGt22
namespace Go.Proofs.YtppibhieabideaaGreatDoor
set_option maxHeartbeats 4000000
open Go Go.RowKit Go.Deep
set_option maxRecDepth 100000
set_option maxHeartbeats 8000000 in
theorem KB {B M K:Nat} {w0 w:World} {c R:Nat} {C:cl.Clu} {F:Nat→Fp} {k:Nat} {wv:Value} {i:Nat} (h:CluAt B w0 w c R C F k wv) (rd:Ready M K B C i) (ht:TabAt w0) (bx bm:Nat) (m:rf.Msg) (A2:Option Addr) (c2:Nat) (hbx:Vb w bx [cptr c] 25) (hbm:Vb w bm (msgC m (.slice A2 m.ents.length c2)) 229) (hE2:EntsB 0 w (.slice A2 m.ents.length c2) m.ents) (hlm:cl.MsgLim M K m) :
  Calls Tryz.prog 150 (#[] ++ #[.pointer (some ⟨(F i).q,0,none⟩)] ++ #[.pointer (some ⟨bm,0,none⟩),.pointer (some ⟨bx,0,none⟩)]) w λe w'=>∃ z,e=.returned (.int .i64 z)∧Turned B w0 c R C F k i (rf.step (C.p i).x m).1 (rf.step (C.p i).x m).2 z w w':=by
 have hn7:=h.n7;have hi:=rd.lt
 have hlim:=cl.step_lim (x:=(C.p i).x) (m:=m) (by have:=rd.hK;omega) rd.lim hlm
 have hsm:=Jr (C.p i).x m
 have hstep:=λW (hb:Below w.heap.size w W)=>VB (C.p i).x m (F i).A (F i).c A2 m.ents.length c2 W (((h.peers i hi).ents.re (b:=w.heap.size)).later hb).re ((hE2.re (b:=w.heap.size)).later hb).re (h.peers i hi).ok (by rw [rd.many];omega) (by rw [rd.id];omega) (by rw [rd.id];omega) (by have:=rd.lim.len;have:=rd.hM;omega) (by have:=hlm.end_;have:=rd.hM;omega) (by have:=hlm.ix;have:=rd.hM;omega)
 obtain ⟨x,hx⟩:∃ x,(rf.step (C.p i).x m).1=x:=⟨_,rfl⟩;obtain ⟨ms,hms⟩:∃ ms,(rf.step (C.p i).x m).2=ms:=⟨_,rfl⟩;unfold cl.BothLim at hlim;rw [hx,hms] at hstep;rw [hx] at hlim;rw [hms] at hsm;rw [hx,hms];have HT:=Uq hstep
 have HSZ:Hid ((Tryz.prog.info? 100).map (·.size)=some (ndC (C.p i).x ((F i).ev (C.p i).x)).length):=Uq (by rw [qc,qe (h.peers i hi).ok])
 obtain ⟨em,hem⟩:∃ v,Value.slice A2 m.ents.length c2=v:=⟨_,rfl⟩;rw [hem] at hbm
 have HSM:Hid ((Tryz.prog.info? 229).map (·.size)=some (msgC m em).length):=Uq (by rw [qM];rfl)
 have hMK:∀ w',Below w.heap.size w w'→(w'.rangeAt (F i).q 0 (ndC (C.p i).x ((F i).ev (C.p i).x))∧w'.rangeAt bm 0 (msgC m em)):=λw' hb=>⟨(h.later hb).ndRange hi,λt u ht=>by rw [Nat.zero_add];exact cell_later hb (hbm.cell t u ht)⟩
 have MK:=Uq hMK
 have hCH:=λ(W:World) (A:Option Addr) (c':Nat) (D:Option Addr) (d:Nat) (hbW:Below w.heap.size w W) ok hE hS=>(zQ (W:=W) (A:=A) (c':=c') (D:=D) (d:=d) (h.later hbW) rd ht x ms (hlim.1.mono (Nat.le_succ _) (Nat.le_succ _)) (by omega) ok hE hS)
 have HCH:=Uq hCH;have HW0:Hid (w0.heap.size≤w.heap.size):=Uq h.bel.size;obtain ⟨ev0,hev0⟩:∃ v,(F i).ev (C.p i).x=v:=⟨_,rfl⟩;obtain ⟨x0,hx0⟩:∃ v,(C.p i).x=v:=⟨_,rfl⟩;obtain ⟨q,hq⟩:∃ q,(F i).q=q:=⟨_,rfl⟩;rw [hev0,hx0,hq] at MK;rw [hev0,hx0] at HSZ
 rw [show Value.slice (F i).A (C.p i).x.log.length (F i).c=ev0 from hev0,hx0,hem] at HT
 rw [hq] at HCH ⊢;have HBX:=Uq hbx;have hW:Below w.heap.size w w.drew:=below_drewN (Below.refl _ w) 1;clear hn7 hi hlim hsm h hq hCH hbx hbm rd hstep hx hms hx0 hMK hev0 hE2 hlm hem;unfold cptr at HCH HBX
 rw [show (#[] ++ #[Value.pointer (some ⟨q,0,none⟩)] ++ #[Value.pointer (some ⟨bm,0,none⟩),.pointer (some ⟨bx,0,none⟩)]:Array Value)=#[.pointer (some ⟨q,0,none⟩),.pointer (some ⟨bm,0,none⟩),.pointer (some ⟨bx,0,none⟩)] from rfl]
 go_enter Tryz.func150,Tryz.ntmps150
 go_upto_region 1 with fail;unfold ndV msgV at HT
 refine wp_region_held_drew (S:=(λw'=>w'.rangeAt q 0 (ndC x0 ev0)∧w'.rangeAt bm 0 (msgC m em))) (by kernel_rfl) (MK.out _ hW) (λhHeld=>?_)
 (refine tk 0 ?_ ?_ ?_;rotate_left;focus (intro w hSw;(try dsimp only at hSw);go_simp;(try with_reducible rfl);done))
 (try simp only [Act.put,Ur,Us,Ut])
 (refine tk 1 ?_ ?_ ?_;rotate_left;focus (intro w hSw;(try dsimp only at hSw);go_simp;(try with_reducible rfl);done))
 (try simp only [Act.put,Ur,Us,Ut])
 (refine tk 2 ?_ ?_ ?_;rotate_left;focus (intro w hSw;(try dsimp only at hSw);go_simp;(try with_reducible rfl);done))
 (try simp only [Act.put,Ur,Us,Ut])
 refine wpAnyH_take (i:=3) (qx rfl) (by kernel_rfl) (by kernel_rfl) (by kernel_rfl) (λ_ _ _ h=>h) (yieldsIf_load_mid (by rfl) _ _ rfl _ _ rfl _ _ (λ_ h=>h.1) Tryz.underlying100 rfl HSZ.out) (by assumption) ?_
 (try simp only [Act.put,Ur,Us,Ut])
 refine wpAnyH_take (i:=4) (qx rfl) (by kernel_rfl) (by kernel_rfl) (by kernel_rfl) (λ_ _ _ h=>h) (yieldsIf_load_mid (by rfl) _ _ rfl _ _ rfl _ _ (λ_ h=>h.2) Tryz.underlying229 rfl HSM.out) (by assumption) ?_
 (try simp only [Act.put,Ur,Us,Ut])
 refine wpAnyH_ready (rs:=[5,9]) (by kernel_rfl) (by simp) ?_
 refine (AllReadyH.cons (qx rfl) (λK hK=>?_) (AllReadyH.cons (qx rfl) (λK hK=>?_) AllReadyH.nil))
 ·rw [if_pos (by rfl)]
  go_simp
  go_at_call 151
  refine (HT.out _ hW).mono ?_;rintro e w1 ⟨nv,sv,rfl,hO⟩;obtain ⟨A1,c1,D1,d1,rfl,rfl,hE1,hS1,ok1,hb1⟩:=hO
  (try unfold ndV)
  have HOK:=Uq ok1
  have HS6:Hid ((ndC x (.slice A1 x.log.length c1)).toArray.size=30):=Uq (by rw [List.size_toArray,qe ok1])
  have HLD:=Uq (Zp (w:=w) hE1 hS1 (hW.trans (hb1.mono hW.size)) (Nat.le_trans HW0.out hW.size));have HZ:Hid (Blk (w1.alloc (.cells #[.int .i64 0,.int .i64 0,.int .u64 0,.int .i64 0,.slice none 0 0,.int .i64 0,.int .i64 0,.int .u64 0,.int .i64 0,.bool false,.bool false,.bool false,.bool false,.bool false,.bool false,.bool false,.int .u64 0,.int .u64 0,.int .u64 0,.int .u64 0,.int .u64 0,.int .u64 0,.int .u64 0,.int .u64 0,.int .u64 0,.int .u64 0,.int .u64 0,.int .u64 0,.int .u64 0,.int .u64 0] 100)) w1.heap.size (ndC qi nilV) 100):=Uq (Blk.new w1 _ _);have hW:=hW.trans (hb1.mono hW.size);dsimp only
  refine hK.out _ _ (MK.out _ hW) (λhHeld=>?_)
  clear hK K
  (try simp only [Act.put,Ur,Us,Ut])
  (refine tk 6 ?_ ?_ ?_;rotate_left;focus (intro w hSw;(try dsimp only at hSw);go_simp;(try with_reducible rfl);done))
  (try simp only [Act.put,Ur,Us,Ut])
  (refine tk 7 ?_ ?_ ?_;rotate_left;focus (intro w hSw;(try dsimp only at hSw);go_simp;(try with_reducible rfl);done))
  (try simp only [Act.put,Ur,Us,Ut])
  (refine tk 8 ?_ ?_ ?_;rotate_left;focus (intro w hSw;(try dsimp only at hSw);go_simp;(try with_reducible rfl);done))
  (try simp only [Act.put,Ur,Us,Ut])
  refine wpAnyH_ready (rs:=[9]) (by kernel_rfl) (by simp) ?_
  refine (AllReadyH.cons (qx rfl) (λK hK=>?_) AllReadyH.nil)
  rw [if_pos (by rfl)]
  go_simp
  have hW:=hW.trans (((Below.refl _ w1).alloc (Nat.le_refl _) (.cells #[.int .i64 0,.int .i64 0,.int .u64 0,.int .i64 0,.slice none 0 0,.int .i64 0,.int .i64 0,.int .u64 0,.int .i64 0,.bool false,.bool false,.bool false,.bool false,.bool false,.bool false,.bool false,.int .u64 0,.int .u64 0,.int .u64 0,.int .u64 0,.int .u64 0,.int .u64 0,.int .u64 0,.int .u64 0,.int .u64 0,.int .u64 0,.int .u64 0,.int .u64 0,.int .u64 0,.int .u64 0] 100)).mono hW.size)
  (try dsimp only)
  refine hK.out _ _ (MK.out _ hW) (λhHeld=>?_)
  clear hK K
  (try simp only [Act.put,Ur,Us,Ut])
  refine wpAnyH_ready (rs:=[10]) (by kernel_rfl) (by simp) ?_
  refine (AllReadyH.cons (qx rfl) (λK hK=>?_) AllReadyH.nil)
  rw [if_pos (by rfl)]
  refine wp_store_row 100 _ _ rfl _ _ rfl rfl _ _ HZ.out (by rw [qc,HS6.out]) (by rw [HS6.out];rfl) (qy rfl) ?_
  (try simp only [Act.put])
  refine hK.out _ _ (MK.out _ HLD.out.bel) (λhHeld=>?_)
  clear hK K
  (try simp only [Act.put,Ur,Us,Ut])
  (refine tk 11 ?_ ?_ ?_;rotate_left;focus (intro w hSw;(try dsimp only at hSw);go_simp;(try with_reducible rfl);done))
  (try simp only [Act.put,Ur,Us,Ut])
  refine wpAnyH_done (by kernel_rfl) ?_ _
  obtain ⟨bn,hbn⟩:∃ b,w1.heap.size=b:=⟨_,rfl⟩;rw [hbn] at HLD ⊢;obtain ⟨W,hWW⟩:∃ W,(w1.alloc (.cells #[.int .i64 0,.int .i64 0,.int .u64 0,.int .i64 0,.slice none 0 0,.int .i64 0,.int .i64 0,.int .u64 0,.int .i64 0,.bool false,.bool false,.bool false,.bool false,.bool false,.bool false,.bool false,.int .u64 0,.int .u64 0,.int .u64 0,.int .u64 0,.int .u64 0,.int .u64 0,.int .u64 0,.int .u64 0,.int .u64 0,.int .u64 0,.int .u64 0,.int .u64 0,.int .u64 0,.int .u64 0] 100)).setRow bn (ndC x (.slice A1 x.log.length c1)).toArray=W:=⟨_,rfl⟩;rw [hWW] at HLD ⊢;clear hHeld hW hE1 hS1 hb1 ok1 HZ hbn hWW;have hc1:=HBX.out.cell 0 _ rfl;have hc2:=cell_later HLD.out.bel hc1;have hcall:=HCH.out W A1 c1 D1 d1 HLD.out.bel HOK.out HLD.out.ents HLD.out.way;have HCALL:=Uq hcall;have HBK:=Uq HLD.out.blk;have HBL:=Uq HLD.out.bel;clear hcall HLD HCH hc1 HBX MK
  go_wp2_with (first | (refine wpList_load_row rfl 100 _ rfl bn rfl _ _ _ _ HBK.out Tryz.underlying100 rfl (by rw [qc,HS6.out]) ?_) | (go_at_call 47;refine HCALL.out.mono ?_;rintro e w5 ⟨z,rfl,hT⟩;have HTT:=Uq hT;clear hT))
  go_ret;exact ⟨z,rfl,HTT.out.from_ (Stay.of_below HBL.out)⟩
 ·rw [if_pos (by rfl)]
  go_simp
  have hbz:=(Below.refl _ w.drew).alloc (Nat.le_refl _) (.cells #[.int .i64 0,.int .i64 0,.int .u64 0,.int .i64 0,.slice none 0 0,.int .i64 0,.int .i64 0,.int .u64 0,.int .i64 0,.bool false,.bool false,.bool false,.bool false,.bool false,.bool false,.bool false,.int .u64 0,.int .u64 0,.int .u64 0,.int .u64 0,.int .u64 0,.int .u64 0,.int .u64 0,.int .u64 0,.int .u64 0,.int .u64 0,.int .u64 0,.int .u64 0,.int .u64 0,.int .u64 0] 100);have hZ0:Blk (w.drew.alloc (.cells #[.int .i64 0,.int .i64 0,.int .u64 0,.int .i64 0,.slice none 0 0,.int .i64 0,.int .i64 0,.int .u64 0,.int .i64 0,.bool false,.bool false,.bool false,.bool false,.bool false,.bool false,.bool false,.int .u64 0,.int .u64 0,.int .u64 0,.int .u64 0,.int .u64 0,.int .u64 0,.int .u64 0,.int .u64 0,.int .u64 0,.int .u64 0,.int .u64 0,.int .u64 0,.int .u64 0,.int .u64 0] 100)) w.drew.heap.size (ndC qi nilV) 100:=Blk.new w.drew _ _;have hW0:=hW;have hW:=hW.trans (hbz.mono hW.size)
  (try dsimp only)
  refine hK.out _ _ (MK.out _ hW) (λhHeld=>?_)
  clear hK K
  (try simp only [Act.put,Ur,Us,Ut])
  refine wpAnyH_ready (rs:=[5]) (by kernel_rfl) (by simp) ?_
  refine (AllReadyH.cons (qx rfl) (λK hK=>?_) AllReadyH.nil)
  rw [if_pos (by rfl)]
  go_simp
  go_at_call 151
  refine (HT.out _ hW).mono ?_;rintro e w1 ⟨nv,sv,rfl,hO⟩;obtain ⟨A1,c1,D1,d1,rfl,rfl,hE1,hS1,ok1,hb1⟩:=hO
  (try unfold ndV)
  have HOK:=Uq ok1
  have HS6:Hid ((ndC x (.slice A1 x.log.length c1)).toArray.size=30):=Uq (by rw [List.size_toArray,qe ok1])
  have HZ:Hid (Blk w1 w.heap.size (ndC qi nilV) 100):=Uq (hZ0.below hb1);have HLD:=Uq (yE (w:=w) (bn:=w.heap.size) HZ.out hE1 hS1 (hW.trans (hb1.mono hW.size)) (Nat.le_refl _) (Nat.le_trans HW0.out hW.size));have hW:=hW.trans (hb1.mono hW.size);dsimp only
  refine hK.out _ _ (MK.out _ hW) (λhHeld=>?_)
  clear hK K
  (try simp only [Act.put,Ur,Us,Ut])
  (refine tk 6 ?_ ?_ ?_;rotate_left;focus (intro w hSw;(try dsimp only at hSw);go_simp;(try with_reducible rfl);done))
  (try simp only [Act.put,Ur,Us,Ut])
  (refine tk 7 ?_ ?_ ?_;rotate_left;focus (intro w hSw;(try dsimp only at hSw);go_simp;(try with_reducible rfl);done))
  (try simp only [Act.put,Ur,Us,Ut])
  (refine tk 8 ?_ ?_ ?_;rotate_left;focus (intro w hSw;(try dsimp only at hSw);go_simp;(try with_reducible rfl);done))
  (try simp only [Act.put,Ur,Us,Ut])
  refine wpAnyH_ready (rs:=[10]) (by kernel_rfl) (by simp) ?_
  refine (AllReadyH.cons (qx rfl) (λK hK=>?_) AllReadyH.nil)
  rw [if_pos (by rfl)]
  refine wp_store_row 100 _ _ rfl _ _ rfl rfl _ _ HZ.out (by rw [qc,HS6.out]) (by rw [HS6.out];rfl) (qy rfl) ?_
  (try simp only [Act.put])
  refine hK.out _ _ (MK.out _ HLD.out.bel) (λhHeld=>?_)
  clear hK K
  (try simp only [Act.put,Ur,Us,Ut])
  (refine tk 11 ?_ ?_ ?_;rotate_left;focus (intro w hSw;(try dsimp only at hSw);go_simp;(try with_reducible rfl);done))
  (try simp only [Act.put,Ur,Us,Ut])
  refine wpAnyH_done (by kernel_rfl) ?_ _
  obtain ⟨W,hWW⟩:∃ W,w1.setRow w.heap.size (ndC x (.slice A1 x.log.length c1)).toArray=W:=⟨_,rfl⟩;rw [hWW] at HLD ⊢;clear hHeld hW hW0 hbz hZ0 hE1 hS1 hb1 ok1 HZ hWW;have hc1:=HBX.out.cell 0 _ rfl;have hc2:=cell_later HLD.out.bel hc1;have hcall:=HCH.out W A1 c1 D1 d1 HLD.out.bel HOK.out HLD.out.ents HLD.out.way;have HCALL:=Uq hcall;have HBK:=Uq HLD.out.blk;have HBL:=Uq HLD.out.bel;clear hcall HLD HCH hc1 HBX MK
  go_wp2_with (first | (refine wpList_load_row rfl 100 _ rfl w.heap.size rfl _ _ _ _ HBK.out Tryz.underlying100 rfl (by rw [qc,HS6.out]) ?_) | (go_at_call 47;refine HCALL.out.mono ?_;rintro e w5 ⟨z,rfl,hT⟩;have HTT:=Uq hT;clear hT))
  go_ret;exact ⟨z,rfl,HTT.out.from_ (Stay.of_below HBL.out)⟩
def zeroM:Value:=.agg #[.int .i64 0,.int .i64 0,.int .i64 0,.int .u64 0,.int .u64 0,.int .u64 0,.int .u64 0,.slice none 0 0,.bool false]
theorem YY {P:Program} (w:World) (t e ty:TypeId) (z:Value) (ht:P.underlying t=some (.slice e)) (hv:∀ w,(zeroValue e).run P w=.ok z w) (h1:∀ u ∈ z.cells.toList,u.oneCell'=true) (b o c:Nat)
  (hc:∀ j,j < z.cells.toList.length→(w.cell? ⟨b,o + j,none⟩).isSome=true) (hf:∀ j,j < z.cells.toList.length→w.frozen? ⟨b,o + j,none⟩=false) :
  (Builtin.clear_ #[t] ty #[.slice (some ⟨b,o,none⟩) 1 c]).run P w=.ok (.tuple #[]) (w.setCells b o z.cells.toList):=by
 have hzc:(Builtin.zeroCells z.cells 1).toList=z.cells.toList:=by
  simp only [Builtin.zeroCells]
  apply List.ext_getElem
  ·simp
  ·intro i h1 h2
   have h3:i < z.cells.size:=by simpa using h2
   simp [Nat.mod_eq_of_lt h3,h3]
 have hst:=run_storeCells_cells (P:=P) b o z.cells.toList 0 w (by simpa using hc) (by simpa using hf) h1
 simp only [Nat.add_zero] at hst
 simp [Builtin.clear_,run_underlying ht,hv,hzc,hst]
theorem vY (w:World):(zeroValue 229).run Tryz.prog w=.ok zeroM w:=by rfl
theorem jh (base g n cap i:Nat) (xs:List Value) (w:World) (hown:w.ownsRow base 229 9 (.slice (some ⟨g,0,none⟩) n cap) n xs) (hi:i < n) (hone:∀ u ∈ xs,u.oneCell'=true) (hn:n≤100000) :
  Calls Tryz.prog 264 #[.slice (some ⟨g,0,none⟩) n cap,.int .i64 (i:Int),.int .i64 ((i:Int) + 1)] w λe w'=>e=.returned (.slice (some ⟨g,0,none⟩) (n - 1) cap)∧w'.ownsRow base 229 9 (.slice (some ⟨g,0,none⟩) (n - 1) cap) (n - 1) (xs.take (i * 9) ++ xs.drop ((i + 1) * 9))∧Apart [g] w w':=by
 obtain ⟨i0,hinf,hz0,hz1,hz2⟩:=info_parts zN;obtain ⟨hxl,hown2⟩:=hown
 rcases hown2 with ⟨e,_⟩ | ⟨g',cap',cur,e,hbase,hh,hnc,hcm,hcs,htake⟩
 ·cases e
 injection e with e1 _ e3
 injection e1 with e1
 injection e1 with e1
 subst e1 e3;obtain ⟨j,hj⟩:∃ j,i + 1=j:=⟨_,rfl⟩
 rw [show ((i:Int) + 1)=((j:Nat):Int) by omega]
 have hlt:i < j:=by omega
 have hjn:j≤n:=by omega
 obtain ⟨news,hnews⟩:∃ news,news=xs.drop (j * 9):=⟨_,rfl⟩
 have hlen:news.length=(n - j) * 9:=by rw [hnews,List.length_drop,hxl];omega
 have hul:cur.toList.length=cap * 9:=by rw [Array.length_toList];exact hcs
 have hv:Vb w.drew g cur.toList 229:=by
  unfold Vb;rw [Array.toArray_toList];exact hh
 have hget:∀ t u,news[t]?=some u→w.drew.cell? ⟨g,j * 9 + t,none⟩=some u:=λt u ht=>by
  refine hv.cell _ _ ?_;rw [hnews,List.getElem?_drop,← htake,List.getElem?_take] at ht
  split at ht
  ·exact ht
  ·cases ht
 obtain ⟨A,hA,hsrc⟩:∃ A:Addr,(if cap=j then some (⟨g,0,none⟩:Addr) else some ⟨g,j * 9,none⟩)=some A∧Hid (∀ t u,news[t]?=some u→w.drew.cell? (A.add t)=some u):=by
  by_cases h:cap=j
  ·refine ⟨⟨g,0,none⟩,by simp [h],λt u hu=>?_⟩
   have h0:news.length=0:=by rw [hlen,show n - j=0 by omega,Nat.zero_mul]
   rw [List.length_eq_zero_iff.1 h0] at hu
   simp at hu
  ·refine ⟨⟨g,j * 9,none⟩,by simp [h],λt u hu=>?_⟩
   rw [qn];exact hget t u hu
 have s1:Hid (news.length=(n - j) * 9):=Uq hlen
 have s2:Hid (∀ u ∈ news,u.oneCell'=true):=Uq λu hu=>hone u (by rw [hnews] at hu;exact List.mem_of_mem_drop hu)
 have s3:Hid (∀ t,t < news.length→(w.drew.cell? ⟨g,0 + i * 9 + t,none⟩).isSome=true∧w.drew.frozen? ⟨g,0 + i * 9 + t,none⟩=false):=Uq λt ht=>by
  rw [hlen] at ht;refine ⟨?_,hv.free _⟩
  rw [hv.cell (0 + i * 9 + t) _ (List.getElem?_eq_getElem (by rw [hul];omega))]
  rfl
 obtain ⟨W1,hW1⟩:∃ W1,W1=w.drew.setCells g (0 + i * 9) news:=⟨_,rfl⟩
 have hv1:Vb W1 g (cur.toList.take (i * 9) ++ news ++ cur.toList.drop (i * 9 + news.length)) 229:=by
  rw [hW1,Nat.zero_add]
  exact Vb.cellsAt news (i * 9) _ _ hv (by rw [hul,hlen];omega)
 have hl1:(cur.toList.take (i * 9) ++ news ++ cur.toList.drop (i * 9 + news.length)).length=cap * 9:=by
  rw [List.length_append,List.length_append,List.length_take,List.length_drop,hul,hlen];omega
 have hzl:zeroM.cells.toList.length=9:=by rfl
 have hcl:∀ ty,(Builtin.clear_ #[91] ty #[.slice (some ⟨g,(i + (n - j)) * 9,none⟩) (n - (i + (n - j))) (cap - (i + (n - j)))]).run Tryz.prog W1=.ok (.tuple #[]) (W1.setCells g ((i + (n - j)) * 9) zeroM.cells.toList):=λty=>by
  rw [show n - (i + (n - j))=1 by omega]
  refine YY W1 _ _ ty _ Tryz.underlying91 vY (by decide) g _ _ (λt ht=>?_) (λt _=>hv1.free _)
  rw [hzl] at ht
  rw [hv1.cell ((i + (n - j)) * 9 + t) _ (List.getElem?_eq_getElem (by rw [hl1];omega))]
  rfl
 have hv2:=Vb.cellsAt zeroM.cells.toList ((i + (n - j)) * 9) _ _ hv1 (by rw [hl1,hzl];omega)
 have hfin:(W1.setCells g ((i + (n - j)) * 9) zeroM.cells.toList).ownsRow base 229 9 (.slice (some ⟨g,0,none⟩) (n - 1) cap) (n - 1) (xs.take (i * 9) ++ xs.drop ((i + 1) * 9))∧Apart [g] w (W1.setCells g ((i + (n - j)) * 9) zeroM.cells.toList):=by
  constructor
  ·refine ⟨by rw [List.length_append,List.length_take,List.length_drop,hxl];omega,.inr ⟨g,cap,_,rfl,hbase,hv2,by omega,hcm,?_,?_⟩⟩
   ·rw [List.size_toArray,List.length_append,List.length_append,List.length_take,List.length_drop,hl1,hzl];omega
   ·have e1:i + (n - j)=n - 1:=by omega
    have e2:(cur.toList.take (i * 9) ++ news).length=(n - 1) * 9:=by rw [List.length_append,List.length_take,hul,hlen];omega
    rw [e1,List.append_assoc,List.take_append_of_le_length (by rw [List.length_take,hl1];omega),List.take_take,Nat.min_self,List.take_append_of_le_length (by omega),← e2,List.take_length,hnews,← htake,List.take_take,← hj,Nat.min_eq_left (by omega)]
  ·have h1:Apart [g] w W1:=by
    rw [hW1]
    have h0:Apart [g] w w.drew:=⟨rfl,rfl,rfl,Nat.le_refl _,λ_ _ _=>rfl⟩
    exact h0.trans (qS g news (0 + i * 9) w.drew)
   exact h1.trans (qS g _ _ _)
 have hW:Hid (W1=w.drew.setCells g (0 + i * 9) news):=Uq hW1;have HFIN:=Uq hfin
 have hic:i≤cap:=by omega
 have hjc:j≤cap:=by omega
 have hin:i≤n:=by omega
 have HJ:=Uq hj;clear hW1 hv1 hv hv2 hget hnews hlen hul hfin hl1 hzl hxl hbase hh hcs htake hone hj hi
 go_enter Tryz.func264,Tryz.ntmps264
 go_wp2_with fail
 go_region_law (refine step_append_room rfl (.tmp 22) (.tmp 25) 91 rfl 229 i0 9 Tryz.underlying91 hinf hz1 g 0 i cap (by simp [Act.eval,Act.put]) A (n - j) (cap - j) news (by simp [Act.eval,Act.put]) s1.out hsrc.out s2.out (by omega) s3.out ?_;rw [← hW.out])
 obtain ⟨m,hm⟩:∃ m,i + (n - j)=m:=⟨_,rfl⟩;rw [hm] at hcl HFIN ⊢;obtain ⟨zs,hzs⟩:∃ zs,zeroM.cells.toList=zs:=⟨_,rfl⟩;rw [hzs] at hcl HFIN;clear hzs
 have hmn:(m:Int)≤(n:Int):=by omega
 have hnc2:(n:Int)≤(cap:Int):=by omega
 have hm0:(0:Int)≤(m:Int):=by omega
 have hne:¬ cap=m:=by have:=HJ.out;omega
 have HM:Hid (m=n - 1):=Uq (by have:=HJ.out;omega)
 clear hA hsrc s1 s2 s3 hW hlt hjn hic hjc hin hm hcm hnc hn hinf hz0 hz1 hz2;go_wp2;go_ret
 exact ⟨by rw [HM.out];rfl,HFIN.out⟩
namespace cl
def off {α:Type} (l:List α) (j:Nat):List α:=l.take j ++ l.drop (j + 1)
theorem off_mem {α:Type} {l:List α} {j:Nat} {x:α} (h:x ∈ off l j):x ∈ l:=by
 rcases List.mem_append.1 h with h | h
 ·exact List.mem_of_mem_take h
 ·exact List.mem_of_mem_drop h
theorem off_len {α:Type} {l:List α} {j:Nat} (h:j < l.length):(off l j).length=l.length - 1:=by
 unfold off;rw [List.length_append,List.length_take,List.length_drop];omega
theorem off_zip {α β:Type} (l:List α) (r:List β) (j:Nat) (h:r.length=l.length):(off l j).zip (off r j)=off (l.zip r) j:=by
 unfold off
 rw [List.zip_append (by rw [List.length_take,List.length_take,h])]
 unfold List.zip;rw [List.take_zipWith,List.drop_zipWith]
end cl
theorem JV (l:List (rf.Msg × Value)) (k:Nat) (hk:k≤l.length):(qq l).take (k * 9)=qq (l.take k):=by
 have e:qq l=qq (l.take k) ++ qq (l.drop k):=by
  unfold qq;rw [← List.flatMap_append,List.take_append_drop]
 have hl:(qq (l.take k)).length=k * 9:=by rw [QR,List.length_take,Nat.min_eq_left hk]
 rw [e,List.take_append_of_le_length (by omega),← hl,List.take_length]
theorem vj (l:List (rf.Msg × Value)) (k:Nat) (hk:k≤l.length):qq (cl.off l k)=(qq l).take (k * 9) ++ (qq l).drop ((k + 1) * 9):=by
 rw [JV _ _ hk,QC];unfold qq cl.off;rw [List.flatMap_append]
theorem uJ (l:List (rf.Msg × Value)) (k t:Nat) (p:rf.Msg × Value) (hp:l[k]?=some p) (ht:t < 9):(qq l)[k * 9 + t]?=(msgC p.1 p.2)[t]?:=by
 have h1:(qq l)[k * 9 + t]?=((qq l).drop (k * 9))[t]?:=by rw [List.getElem?_drop]
 have hk:k < l.length:=by
  rcases Nat.lt_or_ge k l.length with h | h
  ·exact h
  ·rw [List.getElem?_eq_none h] at hp;cases hp
 have e:l.drop k=p :: l.drop (k + 1):=by
  rw [List.drop_eq_getElem_cons hk];rw [List.getElem?_eq_getElem hk] at hp
  injection hp with hp
  rw [hp]
 rw [h1,QC,e];have e2:qq (p :: l.drop (k + 1))=msgC p.1 p.2 ++ qq (l.drop (k + 1)):=rfl
 rw [e2,List.getElem?_append_left (by show t < (msgC p.1 p.2).length;exact ht)]
theorem yv {w:World} {g:Nat} {vs:List Value} {t:TypeId} (h:Vb w g vs t):w.setRow g vs.toArray=w:=by
 have e:(w.setRow g vs.toArray).heap=w.heap:=by
  apply Array.ext_getElem?
  intro k
  by_cases hk:k=g
  ·subst hk;rw [setRow_heap w k _ _ _ _ h];exact h.symm
  ·exact qz _ _ _ k hk
 have e2:w.setRow g vs.toArray={ w with heap:=(w.setRow g vs.toArray).heap }:=rfl;rw [e2,e]
theorem V3 {base n d:Nat} {w:World} {e:TypeId} {s:Nat} {B:Option Addr} {xs:List Value} (h:w.ownsRow base e s (.slice B n d) n xs) (h0:0 < n):∃ gb,B=some ⟨gb,0,none⟩∧base≤gb:=by
 rcases h.2 with ⟨_,e⟩ | ⟨gb,_,_,e,hb,_⟩
 ·omega
 ·injection e with e
  exact ⟨gb,e,hb⟩
section
variable {B:Nat} {w0 w:World} {c R:Nat} {C:cl.Clu} {F:Nat→Fp} {k:Nat} {wv:Value}
theorem CluAt.msg {Aw:Option Addr} {cw L:Nat} (h:CluAt B w0 w c R C F k (.slice Aw L cw)) {j:Nat} {m:rf.Msg} (hm:C.way[j]?=some m) :
  L=C.way.length∧∃ (g:Nat) (A':Option Addr) (d:Nat) (evs:List Value),Aw=some ⟨g,0,none⟩∧evs.length=C.way.length∧w.ownsRow w0.heap.size 229 9 (.slice Aw L cw) L (qq (C.way.zip evs))∧(∀ p ∈ C.way.zip evs,EntsB 0 w p.2 p.1.ents)
   ∧ evs[j]?=some (.slice A' m.ents.length d)∧(∀ t u,(qq (C.way.zip evs))[t]?=some u→w.cell? ⟨g,t,none⟩=some u)∧w.rangeAt g (j * 9) (msgC m (.slice A' m.ents.length d)):=by
 obtain ⟨hL,evs,he1,hown,hents,hcell⟩:=h.way.cells
 have hj:j < C.way.length:=by
  rcases Nat.lt_or_ge j C.way.length with h1 | h1
  ·exact h1
  ·rw [List.getElem?_eq_none h1] at hm;cases hm
 obtain ⟨g,hg,hh⟩:=hcell (by omega)
 have hev:evs[j]?=some evs[j]:=List.getElem?_eq_getElem (by omega)
 have hz:(C.way.zip evs)[j]?=some (m,evs[j]):=by
  rw [List.getElem?_zip_eq_some];exact ⟨hm,hev⟩
 have hE:=hents _ (List.mem_of_getElem? hz);obtain ⟨A',d,hf⟩:=hE.form;dsimp only at hf;rw [← hL] at hown
 refine ⟨hL,g,A',d,evs,hg,he1,hown,hents,by rw [hev,hf],hh,λt u ht=>?_⟩
 have ht9:t < 9:=by
  rcases Nat.lt_or_ge t 9 with h1 | h1
  ·exact h1
  ·rw [List.getElem?_eq_none (by show (msgC m _).length≤t;exact h1)] at ht;cases ht
 exact hh _ _ (by rw [uJ _ j t _ hz ht9];dsimp only;rw [hf];exact ht)
set_option maxHeartbeats 8000000 in
theorem Vv {j:Nat} {m:rf.Msg} (h:CluAt B w0 w c R C F k wv) (hm:C.way[j]?=some m) (hl:C.way.length≤1000) :
  Calls Tryz.prog 149 #[cptr c,.int .i64 (j:Int)] w λe w'=>∃ A' d wv',e=.returned (.tuple #[.agg (msgC m (.slice A' m.ents.length d)).toArray,.int .i64 0])∧CluAt B w0 w' c R { C with way:=cl.off C.way j } F k wv'∧EntsB 0 w' (.slice A' m.ents.length d) m.ents∧Stay F C.n w w':=by
 obtain ⟨Aw,cw,hwv⟩:=h.way.form;subst hwv
 have hj:j < C.way.length:=by
  rcases Nat.lt_or_ge j C.way.length with h1 | h1
  ·exact h1
  ·rw [List.getElem?_eq_none h1] at hm;cases hm
 obtain ⟨_,g,A',d,evs,hg,he1,hown,hents,hev,hcell,hrow⟩:=h.msg hm;subst hg;obtain ⟨ev,hevv⟩:∃ v,Value.slice A' m.ents.length d=v:=⟨_,rfl⟩;rw [hevv] at hev hrow
 have hcap:C.way.length≤cw:=by
  rcases hown.2 with ⟨e,_⟩ | ⟨_,cap,_,e,_,_,h3,_⟩
  ·cases e
  ·injection e with _ _ e3
   omega
 obtain ⟨X,bm,hX,hbm,hbX,kb⟩:=qp w (msgC rf.msg0 nilV) 229;have hXe:w.alloc (.cells #[.int .i64 0,.int .i64 0,.int .i64 0,.int .u64 0,.int .u64 0,.int .u64 0,.int .u64 0,.slice none 0 0,.bool false] 229)=X:=hX
 have hb1:Below w.heap.size w (X.setRow bm (msgC m ev).toArray):=hbX.trans (qk _ _ _ (by omega))
 obtain ⟨X1,hX1⟩:∃ W,X.setRow bm (msgC m ev).toArray=W:=⟨_,rfl⟩
 have hkb1:Vb X1 bm (msgC m ev) 229:=by rw [← hX1];exact kb.row _
 rw [hX1] at hb1;have hC1:=h.later hb1
 have hrX:X.rangeAt g (j * 9) (msgC m ev):=λt u ht=>cell_later hbX (hrow t u ht)
 obtain ⟨xs,hxs⟩:∃ xs,qq (C.way.zip evs)=xs:=⟨_,rfl⟩
 have hone:∀ u ∈ xs,u.oneCell'=true:=by rw [← hxs];exact zk hents
 have hzl:=Zw he1
 have hxl:xs.length=C.way.length * 9:=by rw [← hxs,QR,hzl]
 rw [hxs] at hcell
 have hcl:=Qi (some ⟨g,0,none⟩) C.way.length cw xs X1 hxl (λ_=>⟨_,rfl,λt u ht=>by rw [qn,Nat.zero_add];exact cell_later hb1 (hcell t u ht)⟩) hone (by omega)
 have hfin:∀ (w2 w3:World) (gb d2:Nat),Below X1.heap.size X1 w2→X1.heap.size≤gb→w3.ownsRow X1.heap.size 229 9 (.slice (some ⟨gb,0,none⟩) (C.way.length - 1) d2) (C.way.length - 1) (xs.take (j * 9) ++ xs.drop ((j + 1) * 9))→Apart [gb] w2 w3 →
   (w3.cell? ⟨c,1,none⟩=some (.slice (some ⟨g,0,none⟩) C.way.length cw)∧w3.frozen? ⟨c,1,none⟩=false)∧CluAt B w0 (w3.setCell ⟨c,1,none⟩ (.slice (some ⟨gb,0,none⟩) (C.way.length - 1) d2)) c R { C with way:=cl.off C.way j } F k (.slice (some ⟨gb,0,none⟩) (C.way.length - 1) d2)∧EntsB 0 (w3.setCell ⟨c,1,none⟩ (.slice (some ⟨gb,0,none⟩) (C.way.length - 1) d2)) ev m.ents∧Stay F C.n w (w3.setCell ⟨c,1,none⟩ (.slice (some ⟨gb,0,none⟩) (C.way.length - 1) d2))∧Vb (w3.setCell ⟨c,1,none⟩ (.slice (some ⟨gb,0,none⟩) (C.way.length - 1) d2)) bm (msgC m ev) 229:=by
  intro w2 w3 gb d2 hb2 hgb ho3 hA3
  have hb3:Below X1.heap.size X1 w3:=hb2.trans (hA3.below X1.heap.size hb2.size (λy hy=>by simp at hy;omega))
  have hC3:=hC1.later hb3;have hz:=cl.off_zip C.way evs j he1;have hbase:=hC1.bel.size
  have hwy:Way w0.heap.size w3 (.slice (some ⟨gb,0,none⟩) (C.way.length - 1) d2) (cl.off C.way j):=by
   refine ⟨cl.off evs j,by rw [cl.off_len hj,cl.off_len (by omega),he1],?_,λp hp=>?_⟩
   ·rw [hz]
    have e:=vj (C.way.zip evs) j (by omega)
    rw [hxs] at e
    show w3.ownsRow _ _ _ _ _ (qq (cl.off (C.way.zip evs) j))
    rw [e,cl.off_len hj];exact QX ho3 hbase
   ·rw [hz] at hp;exact ((hents p (cl.off_mem hp)).later hb1).later hb3
  have h9:=hC3.setWay (Apart.refl [] w3) (λy hy=>by cases hy) hwy (by rw [cl.off_len hj];omega)
  have hE3:EntsB 0 w3 ev m.ents:=by
   have hz2:(C.way.zip evs)[j]?=some (m,ev):=by rw [List.getElem?_zip_eq_some];exact ⟨hm,hev⟩
   exact ((hents _ (List.mem_of_getElem? hz2)).later hb1).later hb3
  have hA4:=Apart.setCell w3 c 1 (.slice (some ⟨gb,0,none⟩) (C.way.length - 1) d2)
  refine ⟨⟨hC3.c1,Blk.free hC3.blk 1⟩,h9,hE3.apart hA4 (λy hy=>by
   obtain rfl:y=c:=by simpa using hy
   exact qv hC3.blk (by decide)),(Stay.of_below (hb1.trans (hb3.mono hb1.size))).trans (Stay.of_apart hA4 λy hy=>?_),Vb.apart ((hb3.block _ hkb1.lt).trans hkb1) hA4 (λhx=>qa ((hb3.block _ hkb1.lt).trans hkb1) hC3.blk (by decide) (by simpa using hx))⟩
  obtain rfl:y=c:=by simpa using hy
  exact .inl ⟨_,_,hC3.blk,.inr (.inl rfl)⟩
 have c1X:=(h.later hbX).c1;have c1Y:=hC1.c1;obtain ⟨L,hLL⟩:∃ n,C.way.length=n:=⟨_,rfl⟩;have hone2:∀ u ∈ xs,u.oneCell'=true:=hone;rw [hLL] at hcl hfin c1X c1Y hj hl hcap;have HONE:=Uq hone2;have HCL:=Uq hcl;have HFIN:=Uq hfin;have HX:=Uq hXe;have HBM:=Uq hbm;have HX1:=Uq hX1;have HKB:Hid (Blk X bm (msgC rf.msg0 nilV) 229):=Uq kb;have HKB1:=Uq hkb1;have HR:=Uq hrX;have HEV:=Uq hevv
 have HSZ:Hid ((Tryz.prog.info? 229).map (·.size)=some (msgC m ev).length):=Uq (by rw [qM];rfl)
 have hoe:ev.oneCell'=true:=by rw [← hevv];rfl
 have HOE:=Uq (zI (m:=m) hoe)
 have hjL:(j:Int) < (L:Int):=by omega
 have hj0:decide ((j:Int) < 0)=false:=decide_eq_false (by omega)
 have hjl:decide ((L:Int)≤(j:Int))=false:=decide_eq_false (by omega)
 have hwr:IntKind.i64.wrap ((j:Int) + 1)=(j:Int) + 1:=Qk (by omega) (by omega)
 have HJ:=Uq hj;have HL:=Uq hl;clear h hown hents hev hcell hrow hbX kb hX hXe hbm hX1 hb1 hkb1 hC1 hrX hone hxl hcl hfin hLL hone2 he1 hxs hzl hm hj hl hoe;unfold cptr
 go_enter Tryz.func149,Tryz.ntmps149
 go_upto_region 1 with fail;rw [HX.out,HBM.out]
 go_upto_region 4 with (first | (refine wpList_load_mid rfl 229 _ rfl g (j * 9) rfl _ _ HR.out Tryz.underlying229 rfl HSZ.out ?_) | (refine wpList_store_row rfl 229 (.tmp 4) (.tmp 24) rfl bm (msgC m ev).toArray rfl rfl _ _ HKB.out (by rw [qM];rfl) rfl (by rw [Array.all_eq_true_iff_forall_mem];intro u hu;exact HOE.out u (by simpa using hu)) ?_))
 rw [HX1.out];clear c1X
 go_upto_region 5 with (first | (go_at_call 155;refine HCL.out.mono ?_;rintro e w2 ⟨B2,d2,rfl,hown2,hb2⟩;obtain ⟨gb,hB2,hgb⟩:=V3 hown2 (Nat.lt_of_le_of_lt (Nat.zero_le _) HJ.out);subst hB2;have HO2:=Uq (And.intro hown2 (And.intro hb2 hgb));clear hown2 hb2 hgb) | (go_at_call 264;refine (jh _ _ _ _ _ _ _ HO2.out.1 HJ.out HONE.out (by have:=HL.out;omega)).mono ?_;rintro e w3 ⟨rfl,hown3,hA3⟩;have HF:=Uq (HFIN.out w2 w3 gb d2 HO2.out.2.1 HO2.out.2.2 hown3 hA3);have c13:=HF.out.1.1;have f13:=HF.out.1.2;clear hown3 hA3))
 obtain ⟨W4,hW4⟩:∃ W,w3.setCell ⟨c,1,none⟩ (.slice (some ⟨gb,0,none⟩) (L - 1) d2)=W:=⟨_,rfl⟩;rw [hW4] at HF ⊢;have HB4:Hid (Blk W4 bm (msgC m ev) 229):=Uq HF.out.2.2.2.2;have hsame:W4.setRow bm (msgC m ev).toArray=W4:=yv HB4.out;have HSM:=Uq hsame;clear c1Y c13 f13 HX HX1 HKB HKB1 HR HCL HFIN HO2 hW4 hsame
 go_wp2_with (first | (refine wpList_load_row rfl 229 _ rfl bm rfl _ _ _ _ HB4.out Tryz.underlying229 rfl (by rw [qM];rfl) ?_) | (refine wpList_store_row rfl 229 (.tmp 4) (.tmp 37) rfl bm (msgC m ev).toArray rfl rfl _ _ HB4.out (by rw [qM];rfl) rfl (by rw [Array.all_eq_true_iff_forall_mem];intro u hu;exact HOE.out u (by simpa using hu)) ?_))
 rw [HSM.out]
 refine bodyPost_ret (qj rfl _ _ bm _ _ (0,0) _ rfl HB4.out Tryz.underlying229 rfl (by rw [qM];rfl)) rfl ?_
 refine ⟨A',d,_,by rw [HEV.out];rfl,HF.out.2.1,by rw [HEV.out];exact HF.out.2.2.1,HF.out.2.2.2.1⟩
end
section
variable {B:Nat} {w0 w:World} {c R:Nat} {C:cl.Clu} {F:Nat→Fp} {k:Nat} {wv:Value}
theorem take_no {i:Int} (h:CluAt B w0 w c R C F k wv) (hi:¬ (0≤i∧i < (C.way.length:Int))) :
  Calls Tryz.prog 149 #[cptr c,.int .i64 i] w λe w'=>e=.returned (.tuple #[.agg (msgC rf.msg0 nilV).toArray,.int .i64 1])∧Below w.heap.size w w':=by
 obtain ⟨X,bm,hX,hbm,hbX,kb⟩:=qp w (msgC rf.msg0 nilV) 229;have hXe:w.alloc (.cells #[.int .i64 0,.int .i64 0,.int .i64 0,.int .u64 0,.int .u64 0,.int .u64 0,.int .u64 0,.slice none 0 0,.bool false] 229)=X:=hX;obtain ⟨Aw,cw,hwv⟩:=h.way.form;subst hwv;have c1:=(h.later hbX).c1;have HB:=Uq hbX;have HX:=Uq hXe;have HBM:=Uq hbm;have HKB:Hid (Blk X bm (msgC rf.msg0 nilV) 229):=Uq kb;have HSM:=Uq (yv (w:=X) (g:=bm) kb);obtain ⟨L,hL⟩:∃ n,C.way.length=n:=⟨_,rfl⟩;rw [hL] at c1 hi;obtain ⟨m0,hm0⟩:∃ m,rf.msg0=m:=⟨_,rfl⟩;obtain ⟨n0,hn0⟩:∃ m,nilV=m:=⟨_,rfl⟩
 have HONE:Hid ((msgC m0 n0).toArray.all (·.oneCell')=true):=Uq (by rw [← hm0,← hn0,Array.all_eq_true_iff_forall_mem];intro u hu;exact zI (m:=rf.msg0) (ev:=nilV) rfl u (by simpa using hu))
 rw [hm0,hn0] at HKB HSM ⊢;unfold cptr;clear h hX hXe hbm hbX kb hL hm0 hn0
 by_cases h0:i < 0
 ·have e1:decide (i < 0)=true:=decide_eq_true h0;clear hi
  go_enter Tryz.func149,Tryz.ntmps149
  go_upto_region 1 with fail;rw [HX.out,HBM.out]
  go_wp2_with (first | (refine wpList_load_row rfl 229 _ rfl bm rfl _ _ _ _ HKB.out Tryz.underlying229 rfl (by rw [qM];rfl) ?_) | (refine wpList_store_row rfl 229 (.tmp 4) (.tmp 17) rfl bm (msgC m0 n0).toArray rfl rfl _ _ HKB.out (by rw [qM];rfl) rfl HONE.out ?_))
  rw [HSM.out]
  refine bodyPost_ret (qj rfl _ _ bm _ _ (0,0) _ rfl HKB.out Tryz.underlying229 rfl (by rw [qM];rfl)) rfl ?_
  exact ⟨rfl,HB.out⟩
 ·have e1:decide (i < 0)=false:=decide_eq_false h0
  have e2:decide ((L:Int)≤i)=true:=decide_eq_true (by omega)
  clear hi
  go_enter Tryz.func149,Tryz.ntmps149
  go_upto_region 1 with fail;rw [HX.out,HBM.out]
  go_wp2_with (first | (refine wpList_load_row rfl 229 _ rfl bm rfl _ _ _ _ HKB.out Tryz.underlying229 rfl (by rw [qM];rfl) ?_) | (refine wpList_store_row rfl 229 (.tmp 4) (.tmp 17) rfl bm (msgC m0 n0).toArray rfl rfl _ _ HKB.out (by rw [qM];rfl) rfl HONE.out ?_))
  rw [HSM.out]
  refine bodyPost_ret (qj rfl _ _ bm _ _ (0,0) _ rfl HKB.out Tryz.underlying229 rfl (by rw [qM];rfl)) rfl ?_
  exact ⟨rfl,HB.out⟩
theorem jd {w1:World} (m:rf.Msg) (ev:Value) :
  Vb ((w1.alloc (.cells #[.int .i64 0,.int .i64 0,.int .i64 0,.int .u64 0,.int .u64 0,.int .u64 0,.int .u64 0,.slice none 0 0,.bool false] 229)).setRow w1.heap.size (msgC m ev).toArray) w1.heap.size (msgC m ev) 229 ∧
  Below w1.heap.size w1 ((w1.alloc (.cells #[.int .i64 0,.int .i64 0,.int .i64 0,.int .u64 0,.int .u64 0,.int .u64 0,.int .u64 0,.slice none 0 0,.bool false] 229)).setRow w1.heap.size (msgC m ev).toArray):=by
 have hb:Blk (w1.alloc (.cells #[.int .i64 0,.int .i64 0,.int .i64 0,.int .u64 0,.int .u64 0,.int .u64 0,.int .u64 0,.slice none 0 0,.bool false] 229)) w1.heap.size (msgC rf.msg0 nilV) 229:=Blk.new w1 _ _;exact ⟨hb.row _,((Below.refl _ w1).alloc (Nat.le_refl _) _).trans (qk _ _ _ (Nat.le_refl _))⟩
end
section
variable {B M K:Nat} {w0 w:World} {c R:Nat} {C:cl.Clu} {F:Nat→Fp} {k:Nat} {wv:Value}
theorem YJ {i:Int} (h:CluAt B w0 w c R C F k wv) (hi:¬ (0≤i∧i < (C.way.length:Int))) :
  Calls Tryz.prog 43 #[cptr c,.int .i64 i] w λe w'=>e=.returned (.int .i64 1)∧Below w.heap.size w w':=by
 obtain ⟨X,bx,hX,hbx,hbX,kb⟩:=qp w [cptr c] 25;have HT:=Uq (take_no (h.later hbX) hi);have HOE:=Uq (zI (m:=rf.msg0) (ev:=nilV) rfl);obtain ⟨m,hm⟩:∃ m,rf.msg0=m:=⟨_,rfl⟩;obtain ⟨ev,hev⟩:∃ m,nilV=m:=⟨_,rfl⟩;have c0:=kb.cell 0 _ rfl;have HX:=Uq hX;have HBX:=Uq hbx;have HB:=Uq hbX;rw [hm,hev] at HT HOE;clear h hi hX hbx hbX kb;unfold cptr at HT HX c0 ⊢
 go_enter Tryz.func43,Tryz.ntmps43
 go_upto_region 1 with fail;rw [HX.out,HBX.out]
 go_wp2_with (first | (go_at_call 149;refine HT.out.mono ?_;rintro e w1 ⟨rfl,hb1⟩;have HB1:=Uq hb1;have HLD:=Uq (jd (w1:=w1) m ev);have HZ:Hid (Blk (w1.alloc (.cells #[.int .i64 0,.int .i64 0,.int .i64 0,.int .u64 0,.int .u64 0,.int .u64 0,.int .u64 0,.slice none 0 0,.bool false] 229)) w1.heap.size (msgC rf.msg0 nilV) 229):=Uq (Blk.new w1 _ _);clear hb1) | (refine wpList_store_row rfl 229 (.tmp 5) (.tmp 11) rfl w1.heap.size (msgC m ev).toArray rfl rfl _ _ HZ.out (by rw [qM];rfl) rfl (by rw [Array.all_eq_true_iff_forall_mem];intro u hu;exact HOE.out u (by simpa using hu)) ?_))
 go_ret;exact ⟨rfl,HB.out.trans ((HB1.out.trans (HLD.out.2.mono HB1.out.size)).mono HB.out.size)⟩
set_option maxHeartbeats 8000000 in
theorem ZS {j:Nat} {m:rf.Msg} {Post:Int→World→World→Prop} (h:CluAt B w0 w c R C F k wv) (hm:C.way[j]?=some m) (hl:C.way.length≤1000)
  (hon:∀ (W:World) (wv':Value) (bx bm:Nat) (A2:Option Addr) (c2:Nat),CluAt B w0 W c R { C with way:=cl.off C.way j } F k wv'→Vb W bx [cptr c] 25→Vb W bm (msgC m (.slice A2 m.ents.length c2)) 229→EntsB 0 W (.slice A2 m.ents.length c2) m.ents →
   Calls Tryz.prog 44 #[cptr c,.int .i64 m.dst,.func (.func 150) #[] #[.pointer (some ⟨bm,0,none⟩),.pointer (some ⟨bx,0,none⟩)]] W λe w2=>∃ z:Int,e=.returned (.int .i64 z)∧Post z W w2) :
  Calls Tryz.prog 43 #[cptr c,.int .i64 (j:Int)] w λe w'=>∃ (z:Int) (W:World) (wv':Value),e=.returned (.int .i64 z)∧CluAt B w0 W c R { C with way:=cl.off C.way j } F k wv'∧Stay F C.n w W∧Post z W w':=by
 obtain ⟨X,bx,hX,hbx,hbX,kb⟩:=qp w [cptr c] 25;have hvX:Vb X bx [cptr c] 25:=kb;have HT:=Uq (Vv (h.later hbX) hm hl);have HON:=Uq hon
 have HMP:=Uq ((h.later hbX).notof hvX (by decide) (by decide))
 have c0:=kb.cell 0 _ rfl;have HV:=Uq hvX;have HX:=Uq hX;have HBX:=Uq hbx;have HB:=Uq hbX;clear h hX hbx hbX kb hvX hm hl hon;unfold cptr at HT HX c0 HV HON ⊢
 go_enter Tryz.func43,Tryz.ntmps43
 go_upto_region 1 with fail;rw [HX.out,HBX.out]
 go_upto_region 2 with (first | (go_at_call 149;refine HT.out.mono ?_;rintro e w1 ⟨A',d,wv',rfl,h1,h2,h3⟩;obtain ⟨ev,hev⟩:∃ v,Value.slice A' m.ents.length d=v:=⟨_,rfl⟩;have hoe:ev.oneCell'=true:=(hev ▸ rfl);rw [hev];have HEV:=Uq hev;have HOE:=Uq (zI (m:=m) hoe);have HP1:=Uq (And.intro h1 (And.intro h2 h3));have HLD:=Uq (jd (w1:=w1) m ev);have HZ:Hid (Blk (w1.alloc (.cells #[.int .i64 0,.int .i64 0,.int .i64 0,.int .u64 0,.int .u64 0,.int .u64 0,.int .u64 0,.slice none 0 0,.bool false] 229)) w1.heap.size (msgC rf.msg0 nilV) 229):=Uq (Blk.new w1 _ _);clear h1 h2 h3 hev hoe) | (refine wpList_store_row rfl 229 (.tmp 5) (.tmp 11) rfl w1.heap.size (msgC m ev).toArray rfl rfl _ _ HZ.out (by rw [qM];rfl) rfl (by rw [Array.all_eq_true_iff_forall_mem];intro u hu;exact HOE.out u (by simpa using hu)) ?_))
 obtain ⟨bm,hbm⟩:∃ b,w1.heap.size=b:=⟨_,rfl⟩;have hlb:=HLD.out.2;rw [hbm] at HLD ⊢;obtain ⟨W,hW⟩:∃ W,(w1.alloc (.cells #[.int .i64 0,.int .i64 0,.int .i64 0,.int .u64 0,.int .u64 0,.int .u64 0,.int .u64 0,.slice none 0 0,.bool false] 229)).setRow bm (msgC m ev).toArray=W:=⟨_,rfl⟩;rw [hbm,hW] at hlb;rw [← hbm] at hlb;rw [hW] at HLD ⊢;have hvb:Vb W bm (msgC m ev) 229:=HLD.out.1
 have hvx1:Vb w1 bx [.pointer (some ⟨c,0,none⟩)] 25:=HV.out.stay HP1.out.2.2 (by unfold zT;decide) HMP.out
 have hvx:Vb W bx [.pointer (some ⟨c,0,none⟩)] 25:=(hlb.block _ hvx1.lt).trans hvx1;have hCW:=HP1.out.1.later hlb;have hEW:EntsB 0 W (.slice A' m.ents.length d) m.ents:=HP1.out.2.1.later hlb
 have hcall:=HON.out W wv' bx bm A' d hCW hvx (by rw [HEV.out];exact hvb) hEW
 have c0:=hvx.cell 0 _ rfl;have c2:=hvb.cell 2 (.int .i64 m.dst) rfl;have HCALL:=Uq hcall;have HFIN:Hid (CluAt B w0 W c R { C with way:=cl.off C.way j } F k wv'∧Stay F C.n w W):=Uq ⟨hCW,(Stay.of_below HB.out).trans (HP1.out.2.2.trans (Stay.of_below hlb))⟩;clear hcall hCW hEW hvb hvx hvx1 hlb hbm hW HLD HZ HP1 HT HON HV HMP
 go_wp2_with (go_at_call 44;refine HCALL.out.mono ?_;rintro e w2 ⟨z,rfl,hT⟩;have HTT:=Uq hT;clear hT)
 go_ret;exact ⟨z,W,wv',rfl,HFIN.out.1,HFIN.out.2,HTT.out⟩
theorem JY {j i:Nat} {m:rf.Msg} (h:CluAt B w0 w c R C F k wv) (hm:C.way[j]?=some m) (hd:m.dst=(i:Int)) (rd:Ready M K B C i) (ht:TabAt w0) (hlm:cl.MsgLim M K m) :
  Calls Tryz.prog 43 #[cptr c,.int .i64 (j:Int)] w λe w'=>∃ z:Int,e=.returned (.int .i64 z)∧Turned B w0 c R { C with way:=cl.off C.way j } F k i (rf.step (C.p i).x m).1 (rf.step (C.p i).x m).2 z w w':=by
 have hj:j < C.way.length:=by
  rcases Nat.lt_or_ge j C.way.length with h1 | h1
  ·exact h1
  ·rw [List.getElem?_eq_none h1] at hm;cases hm
 have rd2:Ready M K B { C with way:=cl.off C.way j } i:=⟨rd.lt,rd.up,rd.link,rd.id,rd.many,rd.lim,by have:=rd.w200;have e:=cl.off_len hj;show (cl.off C.way j).length≤200;omega,rd.hM,rd.hK,rd.hB⟩
 refine (ZS (Post:=λz W w2=>Turned B w0 c R { C with way:=cl.off C.way j } F k i (rf.step (C.p i).x m).1 (rf.step (C.p i).x m).2 z W w2) h hm (by have:=rd.w200;omega) λW wv' bx bm A2 c2 hC hx hb hE=>?_).mono ?_
 ·rw [hd]
  refine (jb (w:=W) 150 #[.pointer (some ⟨bm,0,none⟩),.pointer (some ⟨bx,0,none⟩)] (λz w1 w2=>Turned B w0 c R { C with way:=cl.off C.way j } F k i (rf.step (C.p i).x m).1 (rf.step (C.p i).x m).2 z w1 w2) hC rd2.lt rd2.up (λ_ _=>rfl) (λw1 hb1=>KB (hC.later hb1) rd2 ht bx bm m A2 c2 ((hb1.block _ hx.lt).trans hx) ((hb1.block _ hb.lt).trans hb) (hE.later hb1) hlm)).mono ?_
  rintro e w2 ⟨z,w1,rfl,hb1,hT⟩;exact ⟨z,rfl,hT.from_ (Stay.of_below hb1)⟩
 ·rintro e w' ⟨z,W,wv',rfl,_,h2,h3⟩;exact ⟨z,rfl,h3.from_ h2⟩
theorem KA {j i:Nat} {m:rf.Msg} (h:CluAt B w0 w c R C F k wv) (hm:C.way[j]?=some m) (hd:m.dst=(i:Int)) (hi:i < C.n) (hu:(C.p i).up=false) (hl:C.way.length≤1000) :
  Calls Tryz.prog 43 #[cptr c,.int .i64 (j:Int)] w λe w'=>e=.returned (.int .i64 6)∧∃ wv',CluAt B w0 w' c R { C with way:=cl.off C.way j } F k wv'∧Stay F C.n w w':=by
 refine (ZS (Post:=λz W w2=>z=6∧Below W.heap.size W w2) h hm hl λW wv' bx bm A2 c2 hC hx hb hE=>?_).mono ?_
 ·rw [hd];refine (Km _ hC hi hu).mono ?_;rintro e w2 ⟨rfl,h2⟩;exact ⟨6,rfl,rfl,h2⟩
 ·rintro e w' ⟨z,W,wv',rfl,h1,h2,rfl,h3⟩;exact ⟨rfl,wv',h1.later h3,h2.trans (Stay.of_below h3)⟩
end
end Go.Proofs.YtppibhieabideaaGreatDoor
