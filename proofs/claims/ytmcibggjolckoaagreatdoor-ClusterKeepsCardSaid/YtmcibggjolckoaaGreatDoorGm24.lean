/- KcDeliver1, KcDelete, KcTake, KcDrop, KcDeliver: one behind the other. -/
import Derived.Test.YtmcibggjolckoaaGreatDoorGm22
import Derived.Deep.RegionHeld
import Derived.Deep.RegionLaw
import Derived.Deep.RegionHeld3
import Derived.Test.YtmcibggjolckoaaGreatDoorGm20
namespace Go.Proofs.YtmcibggjolckoaaGreatDoor
open Go Go.RowKit Go.Deep
set_option maxRecDepth 100000
set_option maxHeartbeats 8000000 in
theorem deliver1_any {B M K:Nat} {w0 w:World} {c R:Nat} {C:cl.Clu} {F:Nat→Fp} {k:Nat} {wv:Value} {i:Nat} (h:CluAt B w0 w c R C F k wv) (rd:Ready M K B C i) (ht:TabAt w0) (bx bm:Nat) (m:rf.Msg) (A2:Option Addr) (c2:Nat) (hbx:Vb w bx [cptr c] 24) (hbm:Vb w bm (msgC m (.slice A2 m.ents.length c2)) 83) (hE2:EntsB 0 w (.slice A2 m.ents.length c2) m.ents) (hlm:cl.MsgLim M K m) :
  Calls Tryz.prog 49 (#[] ++ #[.pointer (some ⟨(F i).q,0,none⟩)] ++ #[.pointer (some ⟨bm,0,none⟩),.pointer (some ⟨bx,0,none⟩)]) w fun e w'=>∃ z,e=.returned (.int .i64 z)∧Turned B w0 c R C F k i (rf.step (C.p i).x m).1 (rf.step (C.p i).x m).2 z w w':=by
 have hn7:=h.n7
 have hi:=rd.lt
 have hlim:=cl.step_lim (x:=(C.p i).x) (m:=m) (by have:=rd.hK;omega) rd.lim hlm
 have hsm:=step_small (C.p i).x m
 have hstep:=fun W (hb:Below w.heap.size w W)=>step_any (C.p i).x m (F i).A (F i).c A2 m.ents.length c2 W (((h.peers i hi).ents.re (b:=w.heap.size)).later hb).re ((hE2.re (b:=w.heap.size)).later hb).re (h.peers i hi).ok (by rw [rd.many];omega) (by rw [rd.id];omega) (by rw [rd.id];omega) (by have:=rd.lim.len;have:=rd.hM;omega) (by have:=hlm.end_;have:=rd.hM;omega) (by have:=hlm.ix;have:=rd.hM;omega)
 obtain ⟨x,hx⟩:∃ x,(rf.step (C.p i).x m).1=x:=⟨_,rfl⟩
 obtain ⟨ms,hms⟩:∃ ms,(rf.step (C.p i).x m).2=ms:=⟨_,rfl⟩
 unfold cl.BothLim at hlim
 rw [hx,hms] at hstep
 rw [hx] at hlim
 rw [hms] at hsm
 rw [hx,hms]
 have HT:=Lib.hid hstep
 have HSZ:Hid ((Tryz.prog.info? 50).map (·.size)=some (ndC (C.p i).x ((F i).ev (C.p i).x)).length):=Lib.hid (by rw [node_size,ndC_len (h.peers i hi).ok])
 obtain ⟨em,hem⟩:∃ v,Value.slice A2 m.ents.length c2=v:=⟨_,rfl⟩
 rw [hem] at hbm
 have HSM:Hid ((Tryz.prog.info? 83).map (·.size)=some (msgC m em).length):=Lib.hid (by rw [msg_size];rfl)
 have hMK:∀ w',Below w.heap.size w w'→(w'.rangeAt (F i).q 0 (ndC (C.p i).x ((F i).ev (C.p i).x))∧w'.rangeAt bm 0 (msgC m em)):=fun w' hb=>⟨(h.later hb).ndRange hi,fun t u ht=>by rw [Nat.zero_add];exact cell_later hb (hbm.cell t u ht)⟩
 have MK:=Lib.hid hMK
 have hCH:=fun (W:World) (A:Option Addr) (c':Nat) (D:Option Addr) (d:Nat) (hbW:Below w.heap.size w W) ok hE hS=>(change_told (W:=W) (A:=A) (c':=c') (D:=D) (d:=d) (h.later hbW) rd ht x ms (hlim.1.mono (Nat.le_succ _) (Nat.le_succ _)) (by omega) ok hE hS)
 have HCH:=Lib.hid hCH
 have HW0:Hid (w0.heap.size≤w.heap.size):=Lib.hid h.bel.size
 obtain ⟨ev0,hev0⟩:∃ v,(F i).ev (C.p i).x=v:=⟨_,rfl⟩
 obtain ⟨x0,hx0⟩:∃ v,(C.p i).x=v:=⟨_,rfl⟩
 obtain ⟨q,hq⟩:∃ q,(F i).q=q:=⟨_,rfl⟩
 rw [hev0,hx0,hq] at MK
 rw [hev0,hx0] at HSZ
 rw [show Value.slice (F i).A (C.p i).x.log.length (F i).c=ev0 from hev0,hx0,hem] at HT
 rw [hq] at HCH ⊢
 have HBX:=Lib.hid hbx
 have hW:Below w.heap.size w w.drew:=below_drewN (Below.refl _ w) 1
 clear hn7 hi hlim hsm h hq hCH hbx hbm rd hstep hx hms hx0 hMK hev0 hE2 hlm hem
 unfold cptr at HCH HBX
 rw [show (#[] ++ #[Value.pointer (some ⟨q,0,none⟩)] ++ #[Value.pointer (some ⟨bm,0,none⟩),.pointer (some ⟨bx,0,none⟩)]:Array Value)=#[.pointer (some ⟨q,0,none⟩),.pointer (some ⟨bm,0,none⟩),.pointer (some ⟨bx,0,none⟩)] from rfl]
 go_enter Tryz.func49,Tryz.ntmps49
 go_upto_region 1 with fail
 unfold ndV msgV at HT
 refine wp_region_held_drew (S:=(fun w'=>w'.rangeAt q 0 (ndC x0 ev0)∧w'.rangeAt bm 0 (msgC m em))) (by kernel_rfl) (MK.out _ hW) (fun hHeld=>?_)
 (refine wpAnyH_take (i:=0) (v:=?_) (opsAt rfl) (by kernel_rfl) (by kernel_rfl) (by kernel_rfl) (fun _ _ _ h=>h) (Or.inl ⟨by rfl,?_⟩) (by assumption) ?_;rotate_left;focus (intro w hSw;(try dsimp only at hSw);go_simp;(try with_reducible rfl);done))
 (try simp only [Act.put,List.setIfInBounds_toArray,List.set_cons_zero,List.set_cons_succ])
 (refine wpAnyH_take (i:=1) (v:=?_) (opsAt rfl) (by kernel_rfl) (by kernel_rfl) (by kernel_rfl) (fun _ _ _ h=>h) (Or.inl ⟨by rfl,?_⟩) (by assumption) ?_;rotate_left;focus (intro w hSw;(try dsimp only at hSw);go_simp;(try with_reducible rfl);done))
 (try simp only [Act.put,List.setIfInBounds_toArray,List.set_cons_zero,List.set_cons_succ])
 (refine wpAnyH_take (i:=2) (v:=?_) (opsAt rfl) (by kernel_rfl) (by kernel_rfl) (by kernel_rfl) (fun _ _ _ h=>h) (Or.inl ⟨by rfl,?_⟩) (by assumption) ?_;rotate_left;focus (intro w hSw;(try dsimp only at hSw);go_simp;(try with_reducible rfl);done))
 (try simp only [Act.put,List.setIfInBounds_toArray,List.set_cons_zero,List.set_cons_succ])
 refine wpAnyH_take (i:=3) (opsAt rfl) (by kernel_rfl) (by kernel_rfl) (by kernel_rfl) (fun _ _ _ h=>h) (yieldsIf_load_mid (by rfl) _ _ rfl _ _ rfl _ _ (fun _ h=>h.1) Tryz.underlying50 rfl HSZ.out) (by assumption) ?_
 (try simp only [Act.put,List.setIfInBounds_toArray,List.set_cons_zero,List.set_cons_succ])
 refine wpAnyH_take (i:=4) (opsAt rfl) (by kernel_rfl) (by kernel_rfl) (by kernel_rfl) (fun _ _ _ h=>h) (yieldsIf_load_mid (by rfl) _ _ rfl _ _ rfl _ _ (fun _ h=>h.2) Tryz.underlying83 rfl HSM.out) (by assumption) ?_
 (try simp only [Act.put,List.setIfInBounds_toArray,List.set_cons_zero,List.set_cons_succ])
 refine wpAnyH_ready (rs:=[5,9]) (by kernel_rfl) (by simp) ?_
 refine (AllReadyH.cons (opsAt rfl) (fun K hK=>?_) (AllReadyH.cons (opsAt rfl) (fun K hK=>?_) AllReadyH.nil))
 ·rw [if_pos (by rfl)]
  go_simp
  go_at_call 50
  refine (HT.out _ hW).mono ?_
  rintro e w1 ⟨nv,sv,rfl,hO⟩
  obtain ⟨A1,c1,D1,d1,rfl,rfl,hE1,hS1,ok1,hb1⟩:=hO
  (try unfold ndV)
  have HOK:=Lib.hid ok1
  have HS6:Hid ((ndC x (.slice A1 x.log.length c1)).toArray.size=30):=Lib.hid (by rw [List.size_toArray,ndC_len ok1])
  have HLD:=Lib.hid (laid_after (w:=w) hE1 hS1 (hW.trans (hb1.mono hW.size)) (Nat.le_trans HW0.out hW.size))
  have HZ:Hid (Blk (w1.alloc (.cells #[.int .i64 0,.int .i64 0,.int .u64 0,.int .i64 0,.slice none 0 0,.int .i64 0,.int .i64 0,.int .u64 0,.int .i64 0,.bool false,.bool false,.bool false,.bool false,.bool false,.bool false,.bool false,.int .u64 0,.int .u64 0,.int .u64 0,.int .u64 0,.int .u64 0,.int .u64 0,.int .u64 0,.int .u64 0,.int .u64 0,.int .u64 0,.int .u64 0,.int .u64 0,.int .u64 0,.int .u64 0] 50)) w1.heap.size (ndC zeroN nilV) 50):=Lib.hid (Blk.new w1 _ _)
  have hW:=hW.trans (hb1.mono hW.size)
  dsimp only
  refine hK.out _ _ (MK.out _ hW) (fun hHeld=>?_)
  clear hK K
  (try simp only [Act.put,List.setIfInBounds_toArray,List.set_cons_zero,List.set_cons_succ])
  (refine wpAnyH_take (i:=6) (v:=?_) (opsAt rfl) (by kernel_rfl) (by kernel_rfl) (by kernel_rfl) (fun _ _ _ h=>h) (Or.inl ⟨by rfl,?_⟩) (by assumption) ?_;rotate_left;focus (intro w hSw;(try dsimp only at hSw);go_simp;(try with_reducible rfl);done))
  (try simp only [Act.put,List.setIfInBounds_toArray,List.set_cons_zero,List.set_cons_succ])
  (refine wpAnyH_take (i:=7) (v:=?_) (opsAt rfl) (by kernel_rfl) (by kernel_rfl) (by kernel_rfl) (fun _ _ _ h=>h) (Or.inl ⟨by rfl,?_⟩) (by assumption) ?_;rotate_left;focus (intro w hSw;(try dsimp only at hSw);go_simp;(try with_reducible rfl);done))
  (try simp only [Act.put,List.setIfInBounds_toArray,List.set_cons_zero,List.set_cons_succ])
  (refine wpAnyH_take (i:=8) (v:=?_) (opsAt rfl) (by kernel_rfl) (by kernel_rfl) (by kernel_rfl) (fun _ _ _ h=>h) (Or.inl ⟨by rfl,?_⟩) (by assumption) ?_;rotate_left;focus (intro w hSw;(try dsimp only at hSw);go_simp;(try with_reducible rfl);done))
  (try simp only [Act.put,List.setIfInBounds_toArray,List.set_cons_zero,List.set_cons_succ])
  refine wpAnyH_ready (rs:=[9]) (by kernel_rfl) (by simp) ?_
  refine (AllReadyH.cons (opsAt rfl) (fun K hK=>?_) AllReadyH.nil)
  rw [if_pos (by rfl)]
  go_simp
  have hW:=hW.trans (((Below.refl _ w1).alloc (Nat.le_refl _) (.cells #[.int .i64 0,.int .i64 0,.int .u64 0,.int .i64 0,.slice none 0 0,.int .i64 0,.int .i64 0,.int .u64 0,.int .i64 0,.bool false,.bool false,.bool false,.bool false,.bool false,.bool false,.bool false,.int .u64 0,.int .u64 0,.int .u64 0,.int .u64 0,.int .u64 0,.int .u64 0,.int .u64 0,.int .u64 0,.int .u64 0,.int .u64 0,.int .u64 0,.int .u64 0,.int .u64 0,.int .u64 0] 50)).mono hW.size)
  (try dsimp only)
  refine hK.out _ _ (MK.out _ hW) (fun hHeld=>?_)
  clear hK K
  (try simp only [Act.put,List.setIfInBounds_toArray,List.set_cons_zero,List.set_cons_succ])
  refine wpAnyH_ready (rs:=[10]) (by kernel_rfl) (by simp) ?_
  refine (AllReadyH.cons (opsAt rfl) (fun K hK=>?_) AllReadyH.nil)
  rw [if_pos (by rfl)]
  refine wp_store_row 50 _ _ rfl _ _ rfl rfl _ _ HZ.out (by rw [node_size,HS6.out]) (by rw [HS6.out];rfl) (ndC_one rfl) ?_
  (try simp only [Act.put])
  refine hK.out _ _ (MK.out _ HLD.out.bel) (fun hHeld=>?_)
  clear hK K
  (try simp only [Act.put,List.setIfInBounds_toArray,List.set_cons_zero,List.set_cons_succ])
  (refine wpAnyH_take (i:=11) (v:=?_) (opsAt rfl) (by kernel_rfl) (by kernel_rfl) (by kernel_rfl) (fun _ _ _ h=>h) (Or.inl ⟨by rfl,?_⟩) (by assumption) ?_;rotate_left;focus (intro w hSw;(try dsimp only at hSw);go_simp;(try with_reducible rfl);done))
  (try simp only [Act.put,List.setIfInBounds_toArray,List.set_cons_zero,List.set_cons_succ])
  refine wpAnyH_done (by kernel_rfl) ?_ _
  obtain ⟨bn,hbn⟩:∃ b,w1.heap.size=b:=⟨_,rfl⟩
  rw [hbn] at HLD ⊢
  obtain ⟨W,hWW⟩:∃ W,(w1.alloc (.cells #[.int .i64 0,.int .i64 0,.int .u64 0,.int .i64 0,.slice none 0 0,.int .i64 0,.int .i64 0,.int .u64 0,.int .i64 0,.bool false,.bool false,.bool false,.bool false,.bool false,.bool false,.bool false,.int .u64 0,.int .u64 0,.int .u64 0,.int .u64 0,.int .u64 0,.int .u64 0,.int .u64 0,.int .u64 0,.int .u64 0,.int .u64 0,.int .u64 0,.int .u64 0,.int .u64 0,.int .u64 0] 50)).setRow bn (ndC x (.slice A1 x.log.length c1)).toArray=W:=⟨_,rfl⟩
  rw [hWW] at HLD ⊢
  clear hHeld hW hE1 hS1 hb1 ok1 HZ hbn hWW
  have hc1:=HBX.out.cell 0 _ rfl
  have hc2:=cell_later HLD.out.bel hc1
  have hcall:=HCH.out W A1 c1 D1 d1 HLD.out.bel HOK.out HLD.out.ents HLD.out.way
  have HCALL:=Lib.hid hcall
  have HBK:=Lib.hid HLD.out.blk
  have HBL:=Lib.hid HLD.out.bel
  clear hcall HLD HCH hc1 HBX MK
  go_wp2_with (first | (refine wpList_load_row rfl 50 _ rfl bn rfl _ _ _ _ HBK.out Tryz.underlying50 rfl (by rw [node_size,HS6.out]) ?_) | (go_at_call 35;refine HCALL.out.mono ?_;rintro e w5 ⟨z,rfl,hT⟩;have HTT:=Lib.hid hT;clear hT))
  go_ret
  exact ⟨z,rfl,HTT.out.from_ (Stay.of_below HBL.out)⟩
 ·rw [if_pos (by rfl)]
  go_simp
  have hbz:=(Below.refl _ w.drew).alloc (Nat.le_refl _) (.cells #[.int .i64 0,.int .i64 0,.int .u64 0,.int .i64 0,.slice none 0 0,.int .i64 0,.int .i64 0,.int .u64 0,.int .i64 0,.bool false,.bool false,.bool false,.bool false,.bool false,.bool false,.bool false,.int .u64 0,.int .u64 0,.int .u64 0,.int .u64 0,.int .u64 0,.int .u64 0,.int .u64 0,.int .u64 0,.int .u64 0,.int .u64 0,.int .u64 0,.int .u64 0,.int .u64 0,.int .u64 0] 50)
  have hZ0:Blk (w.drew.alloc (.cells #[.int .i64 0,.int .i64 0,.int .u64 0,.int .i64 0,.slice none 0 0,.int .i64 0,.int .i64 0,.int .u64 0,.int .i64 0,.bool false,.bool false,.bool false,.bool false,.bool false,.bool false,.bool false,.int .u64 0,.int .u64 0,.int .u64 0,.int .u64 0,.int .u64 0,.int .u64 0,.int .u64 0,.int .u64 0,.int .u64 0,.int .u64 0,.int .u64 0,.int .u64 0,.int .u64 0,.int .u64 0] 50)) w.drew.heap.size (ndC zeroN nilV) 50:=Blk.new w.drew _ _
  have hW0:=hW
  have hW:=hW.trans (hbz.mono hW.size)
  (try dsimp only)
  refine hK.out _ _ (MK.out _ hW) (fun hHeld=>?_)
  clear hK K
  (try simp only [Act.put,List.setIfInBounds_toArray,List.set_cons_zero,List.set_cons_succ])
  refine wpAnyH_ready (rs:=[5]) (by kernel_rfl) (by simp) ?_
  refine (AllReadyH.cons (opsAt rfl) (fun K hK=>?_) AllReadyH.nil)
  rw [if_pos (by rfl)]
  go_simp
  go_at_call 50
  refine (HT.out _ hW).mono ?_
  rintro e w1 ⟨nv,sv,rfl,hO⟩
  obtain ⟨A1,c1,D1,d1,rfl,rfl,hE1,hS1,ok1,hb1⟩:=hO
  (try unfold ndV)
  have HOK:=Lib.hid ok1
  have HS6:Hid ((ndC x (.slice A1 x.log.length c1)).toArray.size=30):=Lib.hid (by rw [List.size_toArray,ndC_len ok1])
  have HZ:Hid (Blk w1 w.heap.size (ndC zeroN nilV) 50):=Lib.hid (hZ0.below hb1)
  have HLD:=Lib.hid (laid_before (w:=w) (bn:=w.heap.size) HZ.out hE1 hS1 (hW.trans (hb1.mono hW.size)) (Nat.le_refl _) (Nat.le_trans HW0.out hW.size))
  have hW:=hW.trans (hb1.mono hW.size)
  dsimp only
  refine hK.out _ _ (MK.out _ hW) (fun hHeld=>?_)
  clear hK K
  (try simp only [Act.put,List.setIfInBounds_toArray,List.set_cons_zero,List.set_cons_succ])
  (refine wpAnyH_take (i:=6) (v:=?_) (opsAt rfl) (by kernel_rfl) (by kernel_rfl) (by kernel_rfl) (fun _ _ _ h=>h) (Or.inl ⟨by rfl,?_⟩) (by assumption) ?_;rotate_left;focus (intro w hSw;(try dsimp only at hSw);go_simp;(try with_reducible rfl);done))
  (try simp only [Act.put,List.setIfInBounds_toArray,List.set_cons_zero,List.set_cons_succ])
  (refine wpAnyH_take (i:=7) (v:=?_) (opsAt rfl) (by kernel_rfl) (by kernel_rfl) (by kernel_rfl) (fun _ _ _ h=>h) (Or.inl ⟨by rfl,?_⟩) (by assumption) ?_;rotate_left;focus (intro w hSw;(try dsimp only at hSw);go_simp;(try with_reducible rfl);done))
  (try simp only [Act.put,List.setIfInBounds_toArray,List.set_cons_zero,List.set_cons_succ])
  (refine wpAnyH_take (i:=8) (v:=?_) (opsAt rfl) (by kernel_rfl) (by kernel_rfl) (by kernel_rfl) (fun _ _ _ h=>h) (Or.inl ⟨by rfl,?_⟩) (by assumption) ?_;rotate_left;focus (intro w hSw;(try dsimp only at hSw);go_simp;(try with_reducible rfl);done))
  (try simp only [Act.put,List.setIfInBounds_toArray,List.set_cons_zero,List.set_cons_succ])
  refine wpAnyH_ready (rs:=[10]) (by kernel_rfl) (by simp) ?_
  refine (AllReadyH.cons (opsAt rfl) (fun K hK=>?_) AllReadyH.nil)
  rw [if_pos (by rfl)]
  refine wp_store_row 50 _ _ rfl _ _ rfl rfl _ _ HZ.out (by rw [node_size,HS6.out]) (by rw [HS6.out];rfl) (ndC_one rfl) ?_
  (try simp only [Act.put])
  refine hK.out _ _ (MK.out _ HLD.out.bel) (fun hHeld=>?_)
  clear hK K
  (try simp only [Act.put,List.setIfInBounds_toArray,List.set_cons_zero,List.set_cons_succ])
  (refine wpAnyH_take (i:=11) (v:=?_) (opsAt rfl) (by kernel_rfl) (by kernel_rfl) (by kernel_rfl) (fun _ _ _ h=>h) (Or.inl ⟨by rfl,?_⟩) (by assumption) ?_;rotate_left;focus (intro w hSw;(try dsimp only at hSw);go_simp;(try with_reducible rfl);done))
  (try simp only [Act.put,List.setIfInBounds_toArray,List.set_cons_zero,List.set_cons_succ])
  refine wpAnyH_done (by kernel_rfl) ?_ _
  obtain ⟨W,hWW⟩:∃ W,w1.setRow w.heap.size (ndC x (.slice A1 x.log.length c1)).toArray=W:=⟨_,rfl⟩
  rw [hWW] at HLD ⊢
  clear hHeld hW hW0 hbz hZ0 hE1 hS1 hb1 ok1 HZ hWW
  have hc1:=HBX.out.cell 0 _ rfl
  have hc2:=cell_later HLD.out.bel hc1
  have hcall:=HCH.out W A1 c1 D1 d1 HLD.out.bel HOK.out HLD.out.ents HLD.out.way
  have HCALL:=Lib.hid hcall
  have HBK:=Lib.hid HLD.out.blk
  have HBL:=Lib.hid HLD.out.bel
  clear hcall HLD HCH hc1 HBX MK
  go_wp2_with (first | (refine wpList_load_row rfl 50 _ rfl w.heap.size rfl _ _ _ _ HBK.out Tryz.underlying50 rfl (by rw [node_size,HS6.out]) ?_) | (go_at_call 35;refine HCALL.out.mono ?_;rintro e w5 ⟨z,rfl,hT⟩;have HTT:=Lib.hid hT;clear hT))
  go_ret
  exact ⟨z,rfl,HTT.out.from_ (Stay.of_below HBL.out)⟩
end Go.Proofs.YtmcibggjolckoaaGreatDoor
namespace Go.Proofs.YtmcibggjolckoaaGreatDoor
open Go Go.RowKit Go.Deep
set_option maxRecDepth 100000
def zeroM:Value:=.agg #[.int .i64 0,.int .i64 0,.int .i64 0,.int .u64 0,.int .u64 0,.int .u64 0,.int .u64 0,.slice none 0 0,.bool false]
theorem run_clear_one {P:Program} (w:World) (t e ty:TypeId) (z:Value) (ht:P.underlying t=some (.slice e)) (hv:∀ w,(zeroValue e).run P w=.ok z w) (h1:∀ u ∈ z.cells.toList,u.oneCell'=true) (b o c:Nat)
  (hc:∀ j,j < z.cells.toList.length→(w.cell? ⟨b,o + j,none⟩).isSome=true) (hf:∀ j,j < z.cells.toList.length→w.frozen? ⟨b,o + j,none⟩=false) :
  (Builtin.clear_ #[t] ty #[.slice (some ⟨b,o,none⟩) 1 c]).run P w=.ok (.tuple #[]) (w.setCells b o z.cells.toList):=by
 have hzc:(Builtin.zeroCells z.cells 1).toList=z.cells.toList:=by
  simp only [Builtin.zeroCells]
  apply List.ext_getElem
  ·simp
  ·intro i h1 h2
   have h3:i < z.cells.size:=by simpa using h2
   simp [Nat.mod_eq_of_lt h3,h3]
 have hst:=run_storeCells_cells (P:=P) b o z.cells.toList 0 w (by simpa using hc) (by simpa using hf) h1
 simp only [Nat.add_zero] at hst
 simp [Builtin.clear_,run_underlying ht,hv,hzc,hst]
theorem zero_msg (w:World):(zeroValue 83).run Tryz.prog w=.ok zeroM w:=by rfl
set_option maxHeartbeats 4000000 in
theorem mdelete_any (base g n cap i:Nat) (xs:List Value) (w:World) (hown:w.ownsRow base 83 9 (.slice (some ⟨g,0,none⟩) n cap) n xs) (hi:i < n) (hone:∀ u ∈ xs,u.oneCell'=true) (hn:n≤100000) :
  Calls Tryz.prog 61 #[.slice (some ⟨g,0,none⟩) n cap,.int .i64 (i:Int),.int .i64 ((i:Int) + 1)] w fun e w'=>e=.returned (.slice (some ⟨g,0,none⟩) (n - 1) cap)∧w'.ownsRow base 83 9 (.slice (some ⟨g,0,none⟩) (n - 1) cap) (n - 1) (xs.take (i * 9) ++ xs.drop ((i + 1) * 9))∧Apart [g] w w':=by
 obtain ⟨i0,hinf,hz0,hz1,hz2⟩:=info_parts info_msg
 obtain ⟨hxl,hown2⟩:=hown
 rcases hown2 with ⟨e,_⟩ | ⟨g',cap',cur,e,hbase,hh,hnc,hcm,hcs,htake⟩
 ·cases e
 injection e with e1 _ e3
 injection e1 with e1
 injection e1 with e1
 subst e1 e3
 obtain ⟨j,hj⟩:∃ j,i + 1=j:=⟨_,rfl⟩
 rw [show ((i:Int) + 1)=((j:Nat):Int) by omega]
 have hlt:i < j:=by omega
 have hjn:j≤n:=by omega
 obtain ⟨news,hnews⟩:∃ news,news=xs.drop (j * 9):=⟨_,rfl⟩
 have hlen:news.length=(n - j) * 9:=by rw [hnews,List.length_drop,hxl];omega
 have hul:cur.toList.length=cap * 9:=by rw [Array.length_toList];exact hcs
 have hv:Vb w.drew g cur.toList 83:=by
  unfold Vb
  rw [Array.toArray_toList]
  exact hh
 have hget:∀ t u,news[t]?=some u→w.drew.cell? ⟨g,j * 9 + t,none⟩=some u:=fun t u ht=>by
  refine hv.cell _ _ ?_
  rw [hnews,List.getElem?_drop,← htake,List.getElem?_take] at ht
  split at ht
  ·exact ht
  ·cases ht
 obtain ⟨A,hA,hsrc⟩:∃ A:Addr,(if cap=j then some (⟨g,0,none⟩:Addr) else some ⟨g,j * 9,none⟩)=some A∧Hid (∀ t u,news[t]?=some u→w.drew.cell? (A.add t)=some u):=by
  by_cases h:cap=j
  ·refine ⟨⟨g,0,none⟩,by simp [h],fun t u hu=>?_⟩
   have h0:news.length=0:=by rw [hlen,show n - j=0 by omega,Nat.zero_mul]
   rw [List.length_eq_zero_iff.1 h0] at hu
   simp at hu
  ·refine ⟨⟨g,j * 9,none⟩,by simp [h],fun t u hu=>?_⟩
   rw [addr_add]
   exact hget t u hu
 have s1:Hid (news.length=(n - j) * 9):=Lib.hid hlen
 have s2:Hid (∀ u ∈ news,u.oneCell'=true):=Lib.hid fun u hu=>hone u (by rw [hnews] at hu;exact List.mem_of_mem_drop hu)
 have s3:Hid (∀ t,t < news.length→(w.drew.cell? ⟨g,0 + i * 9 + t,none⟩).isSome=true∧w.drew.frozen? ⟨g,0 + i * 9 + t,none⟩=false):=Lib.hid fun t ht=>by
  rw [hlen] at ht
  refine ⟨?_,hv.free _⟩
  rw [hv.cell (0 + i * 9 + t) _ (List.getElem?_eq_getElem (by rw [hul];omega))]
  rfl
 obtain ⟨W1,hW1⟩:∃ W1,W1=w.drew.setCells g (0 + i * 9) news:=⟨_,rfl⟩
 have hv1:Vb W1 g (cur.toList.take (i * 9) ++ news ++ cur.toList.drop (i * 9 + news.length)) 83:=by
  rw [hW1,Nat.zero_add]
  exact Vb.cellsAt news (i * 9) _ _ hv (by rw [hul,hlen];omega)
 have hl1:(cur.toList.take (i * 9) ++ news ++ cur.toList.drop (i * 9 + news.length)).length=cap * 9:=by
  rw [List.length_append,List.length_append,List.length_take,List.length_drop,hul,hlen];omega
 have hzl:zeroM.cells.toList.length=9:=by rfl
 have hcl:∀ ty,(Builtin.clear_ #[61] ty #[.slice (some ⟨g,(i + (n - j)) * 9,none⟩) (n - (i + (n - j))) (cap - (i + (n - j)))]).run Tryz.prog W1=.ok (.tuple #[]) (W1.setCells g ((i + (n - j)) * 9) zeroM.cells.toList):=fun ty=>by
  rw [show n - (i + (n - j))=1 by omega]
  refine run_clear_one W1 _ _ ty _ Tryz.underlying61 zero_msg (by decide) g _ _ (fun t ht=>?_) (fun t _=>hv1.free _)
  rw [hzl] at ht
  rw [hv1.cell ((i + (n - j)) * 9 + t) _ (List.getElem?_eq_getElem (by rw [hl1];omega))]
  rfl
 have hv2:=Vb.cellsAt zeroM.cells.toList ((i + (n - j)) * 9) _ _ hv1 (by rw [hl1,hzl];omega)
 have hfin:(W1.setCells g ((i + (n - j)) * 9) zeroM.cells.toList).ownsRow base 83 9 (.slice (some ⟨g,0,none⟩) (n - 1) cap) (n - 1) (xs.take (i * 9) ++ xs.drop ((i + 1) * 9))∧Apart [g] w (W1.setCells g ((i + (n - j)) * 9) zeroM.cells.toList):=by
  constructor
  ·refine ⟨by rw [List.length_append,List.length_take,List.length_drop,hxl];omega,.inr ⟨g,cap,_,rfl,hbase,hv2,by omega,hcm,?_,?_⟩⟩
   ·rw [List.size_toArray,List.length_append,List.length_append,List.length_take,List.length_drop,hl1,hzl];omega
   ·have e1:i + (n - j)=n - 1:=by omega
    have e2:(cur.toList.take (i * 9) ++ news).length=(n - 1) * 9:=by rw [List.length_append,List.length_take,hul,hlen];omega
    rw [e1,List.append_assoc,List.take_append_of_le_length (by rw [List.length_take,hl1];omega),List.take_take,Nat.min_self,List.take_append_of_le_length (by omega),← e2,List.take_length,hnews,← htake,List.take_take,← hj,Nat.min_eq_left (by omega)]
  ·have h1:Apart [g] w W1:=by
    rw [hW1]
    have h0:Apart [g] w w.drew:=⟨rfl,rfl,rfl,Nat.le_refl _,fun _ _ _=>rfl⟩
    exact h0.trans (apart_cells g news (0 + i * 9) w.drew)
   exact h1.trans (apart_cells g _ _ _)
 have hW:Hid (W1=w.drew.setCells g (0 + i * 9) news):=Lib.hid hW1
 have HFIN:=Lib.hid hfin
 have hic:i≤cap:=by omega
 have hjc:j≤cap:=by omega
 have hin:i≤n:=by omega
 have HJ:=Lib.hid hj
 clear hW1 hv1 hv hv2 hget hnews hlen hul hfin hl1 hzl hxl hbase hh hcs htake hone hj hi
 go_enter Tryz.func61,Tryz.ntmps61
 go_wp2_with fail
 go_region_law (refine step_append_room rfl (.tmp 22) (.tmp 25) 61 rfl 83 i0 9 Tryz.underlying61 hinf hz1 g 0 i cap (by simp [Act.eval,Act.put]) A (n - j) (cap - j) news (by simp [Act.eval,Act.put]) s1.out hsrc.out s2.out (by omega) s3.out ?_;rw [← hW.out])
 obtain ⟨m,hm⟩:∃ m,i + (n - j)=m:=⟨_,rfl⟩
 rw [hm] at hcl HFIN ⊢
 obtain ⟨zs,hzs⟩:∃ zs,zeroM.cells.toList=zs:=⟨_,rfl⟩
 rw [hzs] at hcl HFIN
 clear hzs
 have hmn:(m:Int)≤(n:Int):=by omega
 have hnc2:(n:Int)≤(cap:Int):=by omega
 have hm0:(0:Int)≤(m:Int):=by omega
 have hne:¬ cap=m:=by have:=HJ.out;omega
 have HM:Hid (m=n - 1):=Lib.hid (by have:=HJ.out;omega)
 clear hA hsrc s1 s2 s3 hW hlt hjn hic hjc hin hm hcm hnc hn hinf hz0 hz1 hz2
 go_wp2
 go_ret
 exact ⟨by rw [HM.out];rfl,HFIN.out⟩
end Go.Proofs.YtmcibggjolckoaaGreatDoor
namespace Go.Proofs.YtmcibggjolckoaaGreatDoor
open Go Go.RowKit Go.Deep
set_option maxRecDepth 100000
namespace cl
def off {α:Type} (l:List α) (j:Nat):List α:=l.take j ++ l.drop (j + 1)
theorem off_mem {α:Type} {l:List α} {j:Nat} {x:α} (h:x ∈ off l j):x ∈ l:=by
 rcases List.mem_append.1 h with h | h
 ·exact List.mem_of_mem_take h
 ·exact List.mem_of_mem_drop h
theorem off_len {α:Type} {l:List α} {j:Nat} (h:j < l.length):(off l j).length=l.length - 1:=by
 unfold off
 rw [List.length_append,List.length_take,List.length_drop];omega
theorem off_zip {α β:Type} (l:List α) (r:List β) (j:Nat) (h:r.length=l.length):(off l j).zip (off r j)=off (l.zip r) j:=by
 unfold off
 rw [List.zip_append (by rw [List.length_take,List.length_take,h])]
 unfold List.zip
 rw [List.take_zipWith,List.drop_zipWith]
end cl
theorem flatM_take (l:List (rf.Msg × Value)) (k:Nat) (hk:k≤l.length):(flatM l).take (k * 9)=flatM (l.take k):=by
 have e:flatM l=flatM (l.take k) ++ flatM (l.drop k):=by
  unfold flatM
  rw [← List.flatMap_append,List.take_append_drop]
 have hl:(flatM (l.take k)).length=k * 9:=by rw [flatM_len,List.length_take,Nat.min_eq_left hk]
 rw [e,List.take_append_of_le_length (by omega),← hl,List.take_length]
theorem flatM_off (l:List (rf.Msg × Value)) (k:Nat) (hk:k≤l.length):flatM (cl.off l k)=(flatM l).take (k * 9) ++ (flatM l).drop ((k + 1) * 9):=by
 rw [flatM_take _ _ hk,flatM_drop]
 unfold flatM cl.off
 rw [List.flatMap_append]
theorem flatM_at (l:List (rf.Msg × Value)) (k t:Nat) (p:rf.Msg × Value) (hp:l[k]?=some p) (ht:t < 9):(flatM l)[k * 9 + t]?=(msgC p.1 p.2)[t]?:=by
 have h1:(flatM l)[k * 9 + t]?=((flatM l).drop (k * 9))[t]?:=by rw [List.getElem?_drop]
 have hk:k < l.length:=by
  rcases Nat.lt_or_ge k l.length with h | h
  ·exact h
  ·rw [List.getElem?_eq_none h] at hp;cases hp
 have e:l.drop k=p :: l.drop (k + 1):=by
  rw [List.drop_eq_getElem_cons hk]
  rw [List.getElem?_eq_getElem hk] at hp
  injection hp with hp
  rw [hp]
 rw [h1,flatM_drop,e]
 have e2:flatM (p :: l.drop (k + 1))=msgC p.1 p.2 ++ flatM (l.drop (k + 1)):=rfl
 rw [e2,List.getElem?_append_left (by show t < (msgC p.1 p.2).length;exact ht)]
theorem setRow_same {w:World} {g:Nat} {vs:List Value} {t:TypeId} (h:Vb w g vs t):w.setRow g vs.toArray=w:=by
 have e:(w.setRow g vs.toArray).heap=w.heap:=by
  apply Array.ext_getElem?
  intro k
  by_cases hk:k=g
  ·subst hk
   rw [setRow_heap w k _ _ _ _ h]
   exact h.symm
  ·exact setRow_apart _ _ _ k hk
 have e2:w.setRow g vs.toArray={ w with heap:=(w.setRow g vs.toArray).heap }:=rfl
 rw [e2,e]
theorem own_some {base n d:Nat} {w:World} {e:TypeId} {s:Nat} {B:Option Addr} {xs:List Value} (h:w.ownsRow base e s (.slice B n d) n xs) (h0:0 < n):∃ gb,B=some ⟨gb,0,none⟩∧base≤gb:=by
 rcases h.2 with ⟨_,e⟩ | ⟨gb,_,_,e,hb,_⟩
 ·omega
 ·injection e with e
  exact ⟨gb,e,hb⟩
section
variable {B:Nat} {w0 w:World} {c R:Nat} {C:cl.Clu} {F:Nat→Fp} {k:Nat} {wv:Value}
theorem CluAt.msg {Aw:Option Addr} {cw L:Nat} (h:CluAt B w0 w c R C F k (.slice Aw L cw)) {j:Nat} {m:rf.Msg} (hm:C.way[j]?=some m) :
  L=C.way.length∧∃ (g:Nat) (A':Option Addr) (d:Nat) (evs:List Value),Aw=some ⟨g,0,none⟩∧evs.length=C.way.length∧w.ownsRow w0.heap.size 83 9 (.slice Aw L cw) L (flatM (C.way.zip evs))∧(∀ p ∈ C.way.zip evs,EntsB 0 w p.2 p.1.ents)
   ∧ evs[j]?=some (.slice A' m.ents.length d)∧(∀ t u,(flatM (C.way.zip evs))[t]?=some u→w.cell? ⟨g,t,none⟩=some u)∧w.rangeAt g (j * 9) (msgC m (.slice A' m.ents.length d)):=by
 obtain ⟨hL,evs,he1,hown,hents,hcell⟩:=h.way.cells
 have hj:j < C.way.length:=by
  rcases Nat.lt_or_ge j C.way.length with h1 | h1
  ·exact h1
  ·rw [List.getElem?_eq_none h1] at hm;cases hm
 obtain ⟨g,hg,hh⟩:=hcell (by omega)
 have hev:evs[j]?=some evs[j]:=List.getElem?_eq_getElem (by omega)
 have hz:(C.way.zip evs)[j]?=some (m,evs[j]):=by
  rw [List.getElem?_zip_eq_some];exact ⟨hm,hev⟩
 have hE:=hents _ (List.mem_of_getElem? hz)
 obtain ⟨A',d,hf⟩:=hE.form
 dsimp only at hf
 rw [← hL] at hown
 refine ⟨hL,g,A',d,evs,hg,he1,hown,hents,by rw [hev,hf],hh,fun t u ht=>?_⟩
 have ht9:t < 9:=by
  rcases Nat.lt_or_ge t 9 with h1 | h1
  ·exact h1
  ·rw [List.getElem?_eq_none (by show (msgC m _).length≤t;exact h1)] at ht;cases ht
 exact hh _ _ (by rw [flatM_at _ j t _ hz ht9];dsimp only;rw [hf];exact ht)
set_option maxHeartbeats 8000000 in
theorem take_yes {j:Nat} {m:rf.Msg} (h:CluAt B w0 w c R C F k wv) (hm:C.way[j]?=some m) (hl:C.way.length≤1000) :
  Calls Tryz.prog 48 #[cptr c,.int .i64 (j:Int)] w fun e w'=>∃ A' d wv',e=.returned (.tuple #[.agg (msgC m (.slice A' m.ents.length d)).toArray,.int .i64 0])∧CluAt B w0 w' c R { C with way:=cl.off C.way j } F k wv'∧EntsB 0 w' (.slice A' m.ents.length d) m.ents∧Stay F C.n w w':=by
 obtain ⟨Aw,cw,hwv⟩:=h.way.form
 subst hwv
 have hj:j < C.way.length:=by
  rcases Nat.lt_or_ge j C.way.length with h1 | h1
  ·exact h1
  ·rw [List.getElem?_eq_none h1] at hm;cases hm
 obtain ⟨_,g,A',d,evs,hg,he1,hown,hents,hev,hcell,hrow⟩:=h.msg hm
 subst hg
 obtain ⟨ev,hevv⟩:∃ v,Value.slice A' m.ents.length d=v:=⟨_,rfl⟩
 rw [hevv] at hev hrow
 have hcap:C.way.length≤cw:=by
  rcases hown.2 with ⟨e,_⟩ | ⟨_,cap,_,e,_,_,h3,_⟩
  ·cases e
  ·injection e with _ _ e3
   omega
 obtain ⟨X,bm,hX,hbm,hbX,kb⟩:=box_blk w (msgC rf.msg0 nilV) 83
 have hXe:w.alloc (.cells #[.int .i64 0,.int .i64 0,.int .i64 0,.int .u64 0,.int .u64 0,.int .u64 0,.int .u64 0,.slice none 0 0,.bool false] 83)=X:=hX
 have hb1:Below w.heap.size w (X.setRow bm (msgC m ev).toArray):=hbX.trans (below_setRow _ _ _ (by omega))
 obtain ⟨X1,hX1⟩:∃ W,X.setRow bm (msgC m ev).toArray=W:=⟨_,rfl⟩
 have hkb1:Vb X1 bm (msgC m ev) 83:=by rw [← hX1];exact kb.row _
 rw [hX1] at hb1
 have hC1:=h.later hb1
 have hrX:X.rangeAt g (j * 9) (msgC m ev):=fun t u ht=>cell_later hbX (hrow t u ht)
 obtain ⟨xs,hxs⟩:∃ xs,flatM (C.way.zip evs)=xs:=⟨_,rfl⟩
 have hone:∀ u ∈ xs,u.oneCell'=true:=by rw [← hxs];exact flatM_one hents
 have hzl:=zip_len he1
 have hxl:xs.length=C.way.length * 9:=by rw [← hxs,flatM_len,hzl]
 rw [hxs] at hcell
 have hcl:=mclone_any (some ⟨g,0,none⟩) C.way.length cw xs X1 hxl (fun _=>⟨_,rfl,fun t u ht=>by rw [addr_add,Nat.zero_add];exact cell_later hb1 (hcell t u ht)⟩) hone (by omega)
 have hfin:∀ (w2 w3:World) (gb d2:Nat),Below X1.heap.size X1 w2→X1.heap.size≤gb→w3.ownsRow X1.heap.size 83 9 (.slice (some ⟨gb,0,none⟩) (C.way.length - 1) d2) (C.way.length - 1) (xs.take (j * 9) ++ xs.drop ((j + 1) * 9))→Apart [gb] w2 w3 →
   (w3.cell? ⟨c,1,none⟩=some (.slice (some ⟨g,0,none⟩) C.way.length cw)∧w3.frozen? ⟨c,1,none⟩=false)∧CluAt B w0 (w3.setCell ⟨c,1,none⟩ (.slice (some ⟨gb,0,none⟩) (C.way.length - 1) d2)) c R { C with way:=cl.off C.way j } F k (.slice (some ⟨gb,0,none⟩) (C.way.length - 1) d2)∧EntsB 0 (w3.setCell ⟨c,1,none⟩ (.slice (some ⟨gb,0,none⟩) (C.way.length - 1) d2)) ev m.ents∧Stay F C.n w (w3.setCell ⟨c,1,none⟩ (.slice (some ⟨gb,0,none⟩) (C.way.length - 1) d2))∧Vb (w3.setCell ⟨c,1,none⟩ (.slice (some ⟨gb,0,none⟩) (C.way.length - 1) d2)) bm (msgC m ev) 83:=by
  intro w2 w3 gb d2 hb2 hgb ho3 hA3
  have hb3:Below X1.heap.size X1 w3:=hb2.trans (hA3.below X1.heap.size hb2.size (fun y hy=>by simp at hy;omega))
  have hC3:=hC1.later hb3
  have hz:=cl.off_zip C.way evs j he1
  have hbase:=hC1.bel.size
  have hwy:Way w0.heap.size w3 (.slice (some ⟨gb,0,none⟩) (C.way.length - 1) d2) (cl.off C.way j):=by
   refine ⟨cl.off evs j,by rw [cl.off_len hj,cl.off_len (by omega),he1],?_,fun p hp=>?_⟩
   ·rw [hz]
    have e:=flatM_off (C.way.zip evs) j (by omega)
    rw [hxs] at e
    show w3.ownsRow _ _ _ _ _ (flatM (cl.off (C.way.zip evs) j))
    rw [e,cl.off_len hj]
    exact own_base ho3 hbase
   ·rw [hz] at hp
    exact ((hents p (cl.off_mem hp)).later hb1).later hb3
  have h9:=hC3.setWay (Apart.refl [] w3) (fun y hy=>by cases hy) hwy (by rw [cl.off_len hj];omega)
  have hE3:EntsB 0 w3 ev m.ents:=by
   have hz2:(C.way.zip evs)[j]?=some (m,ev):=by rw [List.getElem?_zip_eq_some];exact ⟨hm,hev⟩
   exact ((hents _ (List.mem_of_getElem? hz2)).later hb1).later hb3
  have hA4:=Apart.setCell w3 c 1 (.slice (some ⟨gb,0,none⟩) (C.way.length - 1) d2)
  refine ⟨⟨hC3.c1,Blk.free hC3.blk 1⟩,h9,hE3.apart hA4 (fun y hy=>by
   obtain rfl:y=c:=by simpa using hy
   exact notEnt_of hC3.blk (by decide)),(Stay.of_below (hb1.trans (hb3.mono hb1.size))).trans (Stay.of_apart hA4 fun y hy=>?_),Vb.apart ((hb3.block _ hkb1.lt).trans hkb1) hA4 (fun hx=>ne_of_type ((hb3.block _ hkb1.lt).trans hkb1) hC3.blk (by decide) (by simpa using hx))⟩
  obtain rfl:y=c:=by simpa using hy
  exact .inl ⟨_,_,hC3.blk,.inr (.inr (.inr (.inl rfl)))⟩
 have c1X:=(h.later hbX).c1
 have c1Y:=hC1.c1
 obtain ⟨L,hLL⟩:∃ n,C.way.length=n:=⟨_,rfl⟩
 have hone2:∀ u ∈ xs,u.oneCell'=true:=hone
 rw [hLL] at hcl hfin c1X c1Y hj hl hcap
 have HONE:=Lib.hid hone2
 have HCL:=Lib.hid hcl
 have HFIN:=Lib.hid hfin
 have HX:=Lib.hid hXe
 have HBM:=Lib.hid hbm
 have HX1:=Lib.hid hX1
 have HKB:Hid (Blk X bm (msgC rf.msg0 nilV) 83):=Lib.hid kb
 have HKB1:=Lib.hid hkb1
 have HR:=Lib.hid hrX
 have HEV:=Lib.hid hevv
 have HSZ:Hid ((Tryz.prog.info? 83).map (·.size)=some (msgC m ev).length):=Lib.hid (by rw [msg_size];rfl)
 have hoe:ev.oneCell'=true:=by rw [← hevv];rfl
 have HOE:=Lib.hid (msgC_one (m:=m) hoe)
 have hjL:(j:Int) < (L:Int):=by omega
 have hj0:decide ((j:Int) < 0)=false:=decide_eq_false (by omega)
 have hjl:decide ((L:Int)≤(j:Int))=false:=decide_eq_false (by omega)
 have hwr:IntKind.i64.wrap ((j:Int) + 1)=(j:Int) + 1:=wrap_i64_in (by omega) (by omega)
 have HJ:=Lib.hid hj
 have HL:=Lib.hid hl
 clear h hown hents hev hcell hrow hbX kb hX hXe hbm hX1 hb1 hkb1 hC1 hrX hone hxl hcl hfin hLL hone2 he1 hxs hzl hm hj hl hoe
 unfold cptr
 go_enter Tryz.func48,Tryz.ntmps48
 go_upto_region 1 with fail
 rw [HX.out,HBM.out]
 go_upto_region 4 with (first | (refine wpList_load_mid rfl 83 _ rfl g (j * 9) rfl _ _ HR.out Tryz.underlying83 rfl HSZ.out ?_) | (refine wpList_store_row rfl 83 (.tmp 4) (.tmp 24) rfl bm (msgC m ev).toArray rfl rfl _ _ HKB.out (by rw [msg_size];rfl) rfl (by rw [Array.all_eq_true_iff_forall_mem];intro u hu;exact HOE.out u (by simpa using hu)) ?_))
 rw [HX1.out]
 clear c1X
 go_upto_region 5 with (first | (go_at_call 47;refine HCL.out.mono ?_;rintro e w2 ⟨B2,d2,rfl,hown2,hb2⟩;obtain ⟨gb,hB2,hgb⟩:=own_some hown2 (Nat.lt_of_le_of_lt (Nat.zero_le _) HJ.out);subst hB2;have HO2:=Lib.hid (And.intro hown2 (And.intro hb2 hgb));clear hown2 hb2 hgb) | (go_at_call 61;refine (mdelete_any _ _ _ _ _ _ _ HO2.out.1 HJ.out HONE.out (by have:=HL.out;omega)).mono ?_;rintro e w3 ⟨rfl,hown3,hA3⟩;have HF:=Lib.hid (HFIN.out w2 w3 gb d2 HO2.out.2.1 HO2.out.2.2 hown3 hA3);have c13:=HF.out.1.1;have f13:=HF.out.1.2;clear hown3 hA3))
 obtain ⟨W4,hW4⟩:∃ W,w3.setCell ⟨c,1,none⟩ (.slice (some ⟨gb,0,none⟩) (L - 1) d2)=W:=⟨_,rfl⟩
 rw [hW4] at HF ⊢
 have HB4:Hid (Blk W4 bm (msgC m ev) 83):=Lib.hid HF.out.2.2.2.2
 have hsame:W4.setRow bm (msgC m ev).toArray=W4:=setRow_same HB4.out
 have HSM:=Lib.hid hsame
 clear c1Y c13 f13 HX HX1 HKB HKB1 HR HCL HFIN HO2 hW4 hsame
 go_wp2_with (first | (refine wpList_load_row rfl 83 _ rfl bm rfl _ _ _ _ HB4.out Tryz.underlying83 rfl (by rw [msg_size];rfl) ?_) | (refine wpList_store_row rfl 83 (.tmp 4) (.tmp 37) rfl bm (msgC m ev).toArray rfl rfl _ _ HB4.out (by rw [msg_size];rfl) rfl (by rw [Array.all_eq_true_iff_forall_mem];intro u hu;exact HOE.out u (by simpa using hu)) ?_))
 rw [HSM.out]
 refine bodyPost_ret (results_cell_one rfl _ _ bm _ _ (0,0) _ rfl HB4.out Tryz.underlying83 rfl (by rw [msg_size];rfl)) rfl ?_
 refine ⟨A',d,_,by rw [HEV.out];rfl,HF.out.2.1,by rw [HEV.out];exact HF.out.2.2.1,HF.out.2.2.2.1⟩
end
end Go.Proofs.YtmcibggjolckoaaGreatDoor
namespace Go.Proofs.YtmcibggjolckoaaGreatDoor
open Go Go.RowKit Go.Deep
set_option maxRecDepth 100000
section
variable {B:Nat} {w0 w:World} {c R:Nat} {C:cl.Clu} {F:Nat→Fp} {k:Nat} {wv:Value}
set_option maxHeartbeats 4000000 in
theorem take_no {i:Int} (h:CluAt B w0 w c R C F k wv) (hi:¬ (0≤i∧i < (C.way.length:Int))) :
  Calls Tryz.prog 48 #[cptr c,.int .i64 i] w fun e w'=>e=.returned (.tuple #[.agg (msgC rf.msg0 nilV).toArray,.int .i64 1])∧Below w.heap.size w w':=by
 obtain ⟨X,bm,hX,hbm,hbX,kb⟩:=box_blk w (msgC rf.msg0 nilV) 83
 have hXe:w.alloc (.cells #[.int .i64 0,.int .i64 0,.int .i64 0,.int .u64 0,.int .u64 0,.int .u64 0,.int .u64 0,.slice none 0 0,.bool false] 83)=X:=hX
 obtain ⟨Aw,cw,hwv⟩:=h.way.form
 subst hwv
 have c1:=(h.later hbX).c1
 have HB:=Lib.hid hbX
 have HX:=Lib.hid hXe
 have HBM:=Lib.hid hbm
 have HKB:Hid (Blk X bm (msgC rf.msg0 nilV) 83):=Lib.hid kb
 have HSM:=Lib.hid (setRow_same (w:=X) (g:=bm) kb)
 obtain ⟨L,hL⟩:∃ n,C.way.length=n:=⟨_,rfl⟩
 rw [hL] at c1 hi
 obtain ⟨m0,hm0⟩:∃ m,rf.msg0=m:=⟨_,rfl⟩
 obtain ⟨n0,hn0⟩:∃ m,nilV=m:=⟨_,rfl⟩
 have HONE:Hid ((msgC m0 n0).toArray.all (·.oneCell')=true):=Lib.hid (by rw [← hm0,← hn0,Array.all_eq_true_iff_forall_mem];intro u hu;exact msgC_one (m:=rf.msg0) (ev:=nilV) rfl u (by simpa using hu))
 rw [hm0,hn0] at HKB HSM ⊢
 unfold cptr
 clear h hX hXe hbm hbX kb hL hm0 hn0
 by_cases h0:i < 0
 ·have e1:decide (i < 0)=true:=decide_eq_true h0
  clear hi
  go_enter Tryz.func48,Tryz.ntmps48
  go_upto_region 1 with fail
  rw [HX.out,HBM.out]
  go_wp2_with (first | (refine wpList_load_row rfl 83 _ rfl bm rfl _ _ _ _ HKB.out Tryz.underlying83 rfl (by rw [msg_size];rfl) ?_) | (refine wpList_store_row rfl 83 (.tmp 4) (.tmp 17) rfl bm (msgC m0 n0).toArray rfl rfl _ _ HKB.out (by rw [msg_size];rfl) rfl HONE.out ?_))
  rw [HSM.out]
  refine bodyPost_ret (results_cell_one rfl _ _ bm _ _ (0,0) _ rfl HKB.out Tryz.underlying83 rfl (by rw [msg_size];rfl)) rfl ?_
  exact ⟨rfl,HB.out⟩
 ·have e1:decide (i < 0)=false:=decide_eq_false h0
  have e2:decide ((L:Int)≤i)=true:=decide_eq_true (by omega)
  clear hi
  go_enter Tryz.func48,Tryz.ntmps48
  go_upto_region 1 with fail
  rw [HX.out,HBM.out]
  go_wp2_with (first | (refine wpList_load_row rfl 83 _ rfl bm rfl _ _ _ _ HKB.out Tryz.underlying83 rfl (by rw [msg_size];rfl) ?_) | (refine wpList_store_row rfl 83 (.tmp 4) (.tmp 17) rfl bm (msgC m0 n0).toArray rfl rfl _ _ HKB.out (by rw [msg_size];rfl) rfl HONE.out ?_))
  rw [HSM.out]
  refine bodyPost_ret (results_cell_one rfl _ _ bm _ _ (0,0) _ rfl HKB.out Tryz.underlying83 rfl (by rw [msg_size];rfl)) rfl ?_
  exact ⟨rfl,HB.out⟩
theorem msg_laid {w1:World} (m:rf.Msg) (ev:Value) :
  Vb ((w1.alloc (.cells #[.int .i64 0,.int .i64 0,.int .i64 0,.int .u64 0,.int .u64 0,.int .u64 0,.int .u64 0,.slice none 0 0,.bool false] 83)).setRow w1.heap.size (msgC m ev).toArray) w1.heap.size (msgC m ev) 83 ∧
  Below w1.heap.size w1 ((w1.alloc (.cells #[.int .i64 0,.int .i64 0,.int .i64 0,.int .u64 0,.int .u64 0,.int .u64 0,.int .u64 0,.slice none 0 0,.bool false] 83)).setRow w1.heap.size (msgC m ev).toArray):=by
 have hb:Blk (w1.alloc (.cells #[.int .i64 0,.int .i64 0,.int .i64 0,.int .u64 0,.int .u64 0,.int .u64 0,.int .u64 0,.slice none 0 0,.bool false] 83)) w1.heap.size (msgC rf.msg0 nilV) 83:=Blk.new w1 _ _
 exact ⟨hb.row _,((Below.refl _ w1).alloc (Nat.le_refl _) _).trans (below_setRow _ _ _ (Nat.le_refl _))⟩
set_option maxHeartbeats 4000000 in
theorem drop_told {i:Int} {z:Int} {Post:World→World→Prop} (hT:∃ (m:rf.Msg) (ev:Value),ev.oneCell'=true∧Calls Tryz.prog 48 #[cptr c,.int .i64 i] w fun e w'=>e=.returned (.tuple #[.agg (msgC m ev).toArray,.int .i64 z])∧Post w w') (hP:∀ w1 w2,Post w w1→Below w1.heap.size w1 w2→Post w w2) :
  Calls Tryz.prog 29 #[cptr c,.int .i64 i] w fun e w'=>e=.returned (.int .i64 z)∧Post w w':=by
 obtain ⟨m,ev,hoe,hT⟩:=hT
 have HT:=Lib.hid hT
 have HOE:=Lib.hid (msgC_one (m:=m) hoe)
 have HP:=Lib.hid hP
 clear hT hoe hP
 unfold cptr at HT ⊢
 go_enter Tryz.func29,Tryz.ntmps29
 go_wp2_with (first | (go_at_call 48;refine HT.out.mono ?_;rintro e w1 ⟨rfl,hp1⟩;have HP1:=Lib.hid hp1;have HLD:=Lib.hid (msg_laid (w1:=w1) m ev);have HZ:Hid (Blk (w1.alloc (.cells #[.int .i64 0,.int .i64 0,.int .i64 0,.int .u64 0,.int .u64 0,.int .u64 0,.int .u64 0,.slice none 0 0,.bool false] 83)) w1.heap.size (msgC rf.msg0 nilV) 83):=Lib.hid (Blk.new w1 _ _);clear hp1) | (refine wpList_store_row rfl 83 (.tmp 5) (.tmp 11) rfl w1.heap.size (msgC m ev).toArray rfl rfl _ _ HZ.out (by rw [msg_size];rfl) rfl (by rw [Array.all_eq_true_iff_forall_mem];intro u hu;exact HOE.out u (by simpa using hu)) ?_))
 go_ret
 exact ⟨rfl,HP.out _ _ HP1.out HLD.out.2⟩
theorem drop_no {i:Int} (h:CluAt B w0 w c R C F k wv) (hi:¬ (0≤i∧i < (C.way.length:Int))) :
  Calls Tryz.prog 29 #[cptr c,.int .i64 i] w fun e w'=>e=.returned (.int .i64 1)∧Below w.heap.size w w':=
 drop_told (Post:=fun w w'=>Below w.heap.size w w') ⟨rf.msg0,nilV,rfl,take_no h hi⟩ fun _ _ h1 h2=>h1.trans (h2.mono h1.size)
set_option maxHeartbeats 4000000 in
theorem drop_yes {j:Nat} (h:CluAt B w0 w c R C F k wv) (hj:j < C.way.length) (hl:C.way.length≤1000) :
  Calls Tryz.prog 29 #[cptr c,.int .i64 (j:Int)] w fun e w'=>e=.returned (.int .i64 0)∧∃ wv',CluAt B w0 w' c R { C with way:=cl.off C.way j } F k wv'∧Stay F C.n w w':=by
 have hm:C.way[j]?=some C.way[j]:=List.getElem?_eq_getElem hj
 obtain ⟨m,hmm⟩:∃ m,C.way[j]=m:=⟨_,rfl⟩
 rw [hmm] at hm
 have HT:=Lib.hid (take_yes h hm hl)
 clear h hj hl hm hmm
 unfold cptr at HT ⊢
 go_enter Tryz.func29,Tryz.ntmps29
 go_wp2_with (first | (go_at_call 48;refine HT.out.mono ?_;rintro e w1 ⟨A',d,wv',rfl,h1,h2,h3⟩;obtain ⟨ev,hev⟩:∃ v,Value.slice A' m.ents.length d=v:=⟨_,rfl⟩;have hoe:ev.oneCell'=true:=(hev ▸ rfl);rw [hev];have HOE:=Lib.hid (msgC_one (m:=m) hoe);have HP1:=Lib.hid (And.intro h1 h3);have HLD:=Lib.hid (msg_laid (w1:=w1) m ev);have HZ:Hid (Blk (w1.alloc (.cells #[.int .i64 0,.int .i64 0,.int .i64 0,.int .u64 0,.int .u64 0,.int .u64 0,.int .u64 0,.slice none 0 0,.bool false] 83)) w1.heap.size (msgC rf.msg0 nilV) 83):=Lib.hid (Blk.new w1 _ _);clear h1 h2 h3 hev hoe) | (refine wpList_store_row rfl 83 (.tmp 5) (.tmp 11) rfl w1.heap.size (msgC m ev).toArray rfl rfl _ _ HZ.out (by rw [msg_size];rfl) rfl (by rw [Array.all_eq_true_iff_forall_mem];intro u hu;exact HOE.out u (by simpa using hu)) ?_))
 go_ret
 exact ⟨rfl,wv',HP1.out.1.later HLD.out.2,HP1.out.2.trans (Stay.of_below HLD.out.2)⟩
end
end Go.Proofs.YtmcibggjolckoaaGreatDoor
namespace Go.Proofs.YtmcibggjolckoaaGreatDoor
open Go Go.RowKit Go.Deep
set_option maxRecDepth 100000
section
variable {B M K:Nat} {w0 w:World} {c R:Nat} {C:cl.Clu} {F:Nat→Fp} {k:Nat} {wv:Value}
theorem deliver_no {i:Int} (h:CluAt B w0 w c R C F k wv) (hi:¬ (0≤i∧i < (C.way.length:Int))) :
  Calls Tryz.prog 30 #[cptr c,.int .i64 i] w fun e w'=>e=.returned (.int .i64 1)∧Below w.heap.size w w':=by
 obtain ⟨X,bx,hX,hbx,hbX,kb⟩:=box_blk w [cptr c] 24
 have HT:=Lib.hid (take_no (h.later hbX) hi)
 have HOE:=Lib.hid (msgC_one (m:=rf.msg0) (ev:=nilV) rfl)
 obtain ⟨m,hm⟩:∃ m,rf.msg0=m:=⟨_,rfl⟩
 obtain ⟨ev,hev⟩:∃ m,nilV=m:=⟨_,rfl⟩
 have c0:=kb.cell 0 _ rfl
 have HX:=Lib.hid hX
 have HBX:=Lib.hid hbx
 have HB:=Lib.hid hbX
 rw [hm,hev] at HT HOE
 clear h hi hX hbx hbX kb
 unfold cptr at HT HX c0 ⊢
 go_enter Tryz.func30,Tryz.ntmps30
 go_upto_region 1 with fail
 rw [HX.out,HBX.out]
 go_wp2_with (first | (go_at_call 48;refine HT.out.mono ?_;rintro e w1 ⟨rfl,hb1⟩;have HB1:=Lib.hid hb1;have HLD:=Lib.hid (msg_laid (w1:=w1) m ev);have HZ:Hid (Blk (w1.alloc (.cells #[.int .i64 0,.int .i64 0,.int .i64 0,.int .u64 0,.int .u64 0,.int .u64 0,.int .u64 0,.slice none 0 0,.bool false] 83)) w1.heap.size (msgC rf.msg0 nilV) 83):=Lib.hid (Blk.new w1 _ _);clear hb1) | (refine wpList_store_row rfl 83 (.tmp 5) (.tmp 11) rfl w1.heap.size (msgC m ev).toArray rfl rfl _ _ HZ.out (by rw [msg_size];rfl) rfl (by rw [Array.all_eq_true_iff_forall_mem];intro u hu;exact HOE.out u (by simpa using hu)) ?_))
 go_ret
 exact ⟨rfl,HB.out.trans ((HB1.out.trans (HLD.out.2.mono HB1.out.size)).mono HB.out.size)⟩
set_option maxHeartbeats 8000000 in
theorem deliver_told {j:Nat} {m:rf.Msg} {Post:Int→World→World→Prop} (h:CluAt B w0 w c R C F k wv) (hm:C.way[j]?=some m) (hl:C.way.length≤1000)
  (hon:∀ (W:World) (wv':Value) (bx bm:Nat) (A2:Option Addr) (c2:Nat),CluAt B w0 W c R { C with way:=cl.off C.way j } F k wv'→Vb W bx [cptr c] 24→Vb W bm (msgC m (.slice A2 m.ents.length c2)) 83→EntsB 0 W (.slice A2 m.ents.length c2) m.ents →
   Calls Tryz.prog 32 #[cptr c,.int .i64 m.dst,.func (.func 49) #[] #[.pointer (some ⟨bm,0,none⟩),.pointer (some ⟨bx,0,none⟩)]] W fun e w2=>∃ z:Int,e=.returned (.int .i64 z)∧Post z W w2) :
  Calls Tryz.prog 30 #[cptr c,.int .i64 (j:Int)] w fun e w'=>∃ (z:Int) (W:World) (wv':Value),e=.returned (.int .i64 z)∧CluAt B w0 W c R { C with way:=cl.off C.way j } F k wv'∧Stay F C.n w W∧Post z W w':=by
 obtain ⟨X,bx,hX,hbx,hbX,kb⟩:=box_blk w [cptr c] 24
 have hvX:Vb X bx [cptr c] 24:=kb
 have HT:=Lib.hid (take_yes (h.later hbX) hm hl)
 have HON:=Lib.hid hon
 have HMP:=Lib.hid (h.later hbX).maps
 have c0:=kb.cell 0 _ rfl
 have HV:=Lib.hid hvX
 have HX:=Lib.hid hX
 have HBX:=Lib.hid hbx
 have HB:=Lib.hid hbX
 clear h hX hbx hbX kb hvX hm hl hon
 unfold cptr at HT HX c0 HV HON ⊢
 go_enter Tryz.func30,Tryz.ntmps30
 go_upto_region 1 with fail
 rw [HX.out,HBX.out]
 go_upto_region 2 with (first | (go_at_call 48;refine HT.out.mono ?_;rintro e w1 ⟨A',d,wv',rfl,h1,h2,h3⟩;obtain ⟨ev,hev⟩:∃ v,Value.slice A' m.ents.length d=v:=⟨_,rfl⟩;have hoe:ev.oneCell'=true:=(hev ▸ rfl);rw [hev];have HEV:=Lib.hid hev;have HOE:=Lib.hid (msgC_one (m:=m) hoe);have HP1:=Lib.hid (And.intro h1 (And.intro h2 h3));have HLD:=Lib.hid (msg_laid (w1:=w1) m ev);have HZ:Hid (Blk (w1.alloc (.cells #[.int .i64 0,.int .i64 0,.int .i64 0,.int .u64 0,.int .u64 0,.int .u64 0,.int .u64 0,.slice none 0 0,.bool false] 83)) w1.heap.size (msgC rf.msg0 nilV) 83):=Lib.hid (Blk.new w1 _ _);clear h1 h2 h3 hev hoe) | (refine wpList_store_row rfl 83 (.tmp 5) (.tmp 11) rfl w1.heap.size (msgC m ev).toArray rfl rfl _ _ HZ.out (by rw [msg_size];rfl) rfl (by rw [Array.all_eq_true_iff_forall_mem];intro u hu;exact HOE.out u (by simpa using hu)) ?_))
 obtain ⟨bm,hbm⟩:∃ b,w1.heap.size=b:=⟨_,rfl⟩
 have hlb:=HLD.out.2
 rw [hbm] at HLD ⊢
 obtain ⟨W,hW⟩:∃ W,(w1.alloc (.cells #[.int .i64 0,.int .i64 0,.int .i64 0,.int .u64 0,.int .u64 0,.int .u64 0,.int .u64 0,.slice none 0 0,.bool false] 83)).setRow bm (msgC m ev).toArray=W:=⟨_,rfl⟩
 rw [hbm,hW] at hlb
 rw [← hbm] at hlb
 rw [hW] at HLD ⊢
 have hvb:Vb W bm (msgC m ev) 83:=HLD.out.1
 have hvx1:Vb w1 bx [.pointer (some ⟨c,0,none⟩)] 24:=HV.out.stay HP1.out.2.2 (by decide) HMP.out
 have hvx:Vb W bx [.pointer (some ⟨c,0,none⟩)] 24:=(hlb.block _ hvx1.lt).trans hvx1
 have hCW:=HP1.out.1.later hlb
 have hEW:EntsB 0 W (.slice A' m.ents.length d) m.ents:=HP1.out.2.1.later hlb
 have hcall:=HON.out W wv' bx bm A' d hCW hvx (by rw [HEV.out];exact hvb) hEW
 have c0:=hvx.cell 0 _ rfl
 have c2:=hvb.cell 2 (.int .i64 m.dst) rfl
 have HCALL:=Lib.hid hcall
 have HFIN:Hid (CluAt B w0 W c R { C with way:=cl.off C.way j } F k wv'∧Stay F C.n w W):=Lib.hid ⟨hCW,(Stay.of_below HB.out).trans (HP1.out.2.2.trans (Stay.of_below hlb))⟩
 clear hcall hCW hEW hvb hvx hvx1 hlb hbm hW HLD HZ HP1 HT HON HV HMP
 go_wp2_with (go_at_call 32;refine HCALL.out.mono ?_;rintro e w2 ⟨z,rfl,hT⟩;have HTT:=Lib.hid hT;clear hT)
 go_ret
 exact ⟨z,W,wv',rfl,HFIN.out.1,HFIN.out.2,HTT.out⟩
theorem deliver_up {j i:Nat} {m:rf.Msg} (h:CluAt B w0 w c R C F k wv) (hm:C.way[j]?=some m) (hd:m.dst=(i:Int)) (rd:Ready M K B C i) (ht:TabAt w0) (hlm:cl.MsgLim M K m) :
  Calls Tryz.prog 30 #[cptr c,.int .i64 (j:Int)] w fun e w'=>∃ z:Int,e=.returned (.int .i64 z)∧Turned B w0 c R { C with way:=cl.off C.way j } F k i (rf.step (C.p i).x m).1 (rf.step (C.p i).x m).2 z w w':=by
 have hj:j < C.way.length:=by
  rcases Nat.lt_or_ge j C.way.length with h1 | h1
  ·exact h1
  ·rw [List.getElem?_eq_none h1] at hm;cases hm
 have rd2:Ready M K B { C with way:=cl.off C.way j } i:=⟨rd.lt,rd.up,rd.link,rd.id,rd.many,rd.lim,by have:=rd.w200;have e:=cl.off_len hj;show (cl.off C.way j).length≤200;omega,rd.hM,rd.hK,rd.hB⟩
 refine (deliver_told (Post:=fun z W w2=>Turned B w0 c R { C with way:=cl.off C.way j } F k i (rf.step (C.p i).x m).1 (rf.step (C.p i).x m).2 z W w2) h hm (by have:=rd.w200;omega) fun W wv' bx bm A2 c2 hC hx hb hE=>?_).mono ?_
 ·rw [hd]
  refine (on_up (w:=W) 49 #[.pointer (some ⟨bm,0,none⟩),.pointer (some ⟨bx,0,none⟩)] (fun z w1 w2=>Turned B w0 c R { C with way:=cl.off C.way j } F k i (rf.step (C.p i).x m).1 (rf.step (C.p i).x m).2 z w1 w2) hC rd2.lt rd2.up (fun _ _=>rfl) (fun w1 hb1=>deliver1_any (hC.later hb1) rd2 ht bx bm m A2 c2 ((hb1.block _ hx.lt).trans hx) ((hb1.block _ hb.lt).trans hb) (hE.later hb1) hlm)).mono ?_
  rintro e w2 ⟨z,w1,rfl,hb1,hT⟩
  exact ⟨z,rfl,hT.from_ (Stay.of_below hb1)⟩
 ·rintro e w' ⟨z,W,wv',rfl,_,h2,h3⟩
  exact ⟨z,rfl,h3.from_ h2⟩
theorem deliver_down {j i:Nat} {m:rf.Msg} (h:CluAt B w0 w c R C F k wv) (hm:C.way[j]?=some m) (hd:m.dst=(i:Int)) (hi:i < C.n) (hu:(C.p i).up=false) (hl:C.way.length≤1000) :
  Calls Tryz.prog 30 #[cptr c,.int .i64 (j:Int)] w fun e w'=>e=.returned (.int .i64 6)∧∃ wv',CluAt B w0 w' c R { C with way:=cl.off C.way j } F k wv'∧Stay F C.n w w':=by
 refine (deliver_told (Post:=fun z W w2=>z=6∧Below W.heap.size W w2) h hm hl fun W wv' bx bm A2 c2 hC hx hb hE=>?_).mono ?_
 ·rw [hd]
  refine (on_down _ hC hi hu).mono ?_
  rintro e w2 ⟨rfl,h2⟩
  exact ⟨6,rfl,rfl,h2⟩
 ·rintro e w' ⟨z,W,wv',rfl,h1,h2,rfl,h3⟩
  exact ⟨rfl,wv',h1.later h3,h2.trans (Stay.of_below h3)⟩
end
end Go.Proofs.YtmcibggjolckoaaGreatDoor
