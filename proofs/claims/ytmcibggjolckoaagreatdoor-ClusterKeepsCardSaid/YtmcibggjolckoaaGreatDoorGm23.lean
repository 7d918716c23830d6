/- KcPropose1, KcPropose: one behind the other. -/
import Derived.Test.YtmcibggjolckoaaGreatDoorGm22
import Derived.Deep.RegionHeld
import Derived.Deep.RegionLaw
import Derived.Deep.RegionHeld3
namespace Go.Proofs.YtmcibggjolckoaaGreatDoor
open Go Go.RowKit Go.Deep
set_option maxRecDepth 100000
theorem propose_small (n:rf.Node) (text:List UInt8)  :(rf.propose n text).2.1.length≤1000:=by
 unfold rf.propose
 split
 ·exact Nat.zero_le _
 ·split
  ·exact Nat.zero_le _
  ·have:=puts_len (rf.tally (rf.grown n text))
   show (rf.puts (rf.tally (rf.grown n text))).length≤1000
   omega
set_option maxHeartbeats 8000000 in
theorem propose1_not {B M K:Nat} {w0 w:World} {c R:Nat} {C:cl.Clu} {F:Nat→Fp} {k:Nat} {wv:Value} {i:Nat} (h:CluAt B w0 w c R C F k wv) (rd:Ready M K B C i) (ht:TabAt w0) (bx bt ba:Nat) (text:List UInt8) (hbx:Vb w bx [cptr c] 24) (hbt:Vb w bt [.string (crcm.mk text)] 9) (hba:Vb w ba [.int .u64 0] 28) (hba0:w0.heap.size≤ba) (htx:text.length≤100) (hr:(C.p i).x.role ≠ 2) :
  Calls Tryz.prog 33 (#[] ++ #[.pointer (some ⟨(F i).q,0,none⟩)] ++ #[.pointer (some ⟨bt,0,none⟩),.pointer (some ⟨ba,0,none⟩),.pointer (some ⟨bx,0,none⟩)]) w fun e w'=>e=.returned (.int .i64 170)∧Below w.heap.size w w':=by
 have hn7:=h.n7
 have hi:=rd.lt
 have hlim:=cl.propose_lim (x:=(C.p i).x) (by have:=rd.hK;omega) rd.lim htx
 have hsm:=propose_small (C.p i).x text
 have hprop:=fun W (hb:Below w.heap.size w W)=>propose_any (C.p i).x text (F i).A (F i).c W (((h.peers i hi).ents.re (b:=w.heap.size)).later hb).re (h.peers i hi).ok (by rw [rd.many];omega) (by have:=rd.lim.len;have:=rd.hM;omega)
 have hpe:rf.propose (C.p i).x text=((C.p i).x,[],0,170):=by unfold rf.propose;rw [if_pos (.inl hr)]
 obtain ⟨x,hx⟩:∃ x,(C.p i).x=x:=⟨_,rfl⟩
 obtain ⟨ms,hms⟩:∃ ms:List rf.Msg,[]=ms:=⟨_,rfl⟩
 rw [show ((C.p i).x,([]:List rf.Msg),0,(170:Int))=(x,ms,0,170) by rw [hx,hms]] at hpe
 clear hx hms
 rw [hpe] at hprop hlim hsm
 dsimp only at hprop hlim hsm
 have HT:=Lib.hid hprop
 have HSZ:Hid ((Tryz.prog.info? 50).map (·.size)=some (ndC (C.p i).x ((F i).ev (C.p i).x)).length):=Lib.hid (by rw [node_size,ndC_len (h.peers i hi).ok])
 have hMK:∀ w',Below w.heap.size w w'→(w'.rangeAt (F i).q 0 (ndC (C.p i).x ((F i).ev (C.p i).x))∧w'.cell? ⟨bt,0,none⟩=some (.string (crcm.mk text))):=fun w' hb=>⟨(h.later hb).ndRange hi,cell_later hb (hbt.cell 0 _ rfl)⟩
 have MK:=Lib.hid hMK
 have hCH:=fun (W w3:World) (A:Option Addr) (c':Nat) (D:Option Addr) (d:Nat) (hbW:Below w.heap.size w W) (hA3:Apart [ba] W w3) ok hE hS=>(change_told (W:=w3) (A:=A) (c':=c') (D:=D) (d:=d) ((h.later hbW).alien hA3 fun y hy=>by
  obtain rfl:y=ba:=by simpa using hy
  exact ⟨hba0,_,_,(hbW.block _ hba.lt).trans hba,by decide⟩) rd ht x ms (hlim.1.mono (Nat.le_refl _) (Nat.le_succ _)) hsm ok hE hS)
 have HCH:=Lib.hid hCH
 have HW0:Hid (w0.heap.size≤w.heap.size):=Lib.hid h.bel.size
 have HMP:Hid (∀ i,i < C.n→∃ M,FMap w (F i).b M):=Lib.hid h.maps
 obtain ⟨ev0,hev0⟩:∃ v,(F i).ev (C.p i).x=v:=⟨_,rfl⟩
 obtain ⟨x0,hx0⟩:∃ v,(C.p i).x=v:=⟨_,rfl⟩
 obtain ⟨q,hq⟩:∃ q,(F i).q=q:=⟨_,rfl⟩
 rw [hev0,hx0,hq] at MK
 rw [hev0,hx0] at HSZ
 rw [show Value.slice (F i).A (C.p i).x.log.length (F i).c=ev0 from hev0,hx0] at HT
 rw [hq] at HCH ⊢
 have HBX:=Lib.hid hbx
 have HBA:=Lib.hid hba
 have hW:Below w.heap.size w w.drew:=below_drewN (Below.refl _ w) 1
 clear hn7 hi hlim hsm h hq hCH hbx hbt hba rd hprop hpe hMK hev0
 unfold cptr at HCH HBX
 rw [show (#[] ++ #[Value.pointer (some ⟨q,0,none⟩)] ++ #[Value.pointer (some ⟨bt,0,none⟩),.pointer (some ⟨ba,0,none⟩),.pointer (some ⟨bx,0,none⟩)]:Array Value)=#[.pointer (some ⟨q,0,none⟩),.pointer (some ⟨bt,0,none⟩),.pointer (some ⟨ba,0,none⟩),.pointer (some ⟨bx,0,none⟩)] from rfl]
 go_enter Tryz.func33,Tryz.ntmps33
 go_upto_region 1 with fail
 unfold ndV at HT
 refine wp_region_held_drew (S:=(fun w'=>w'.rangeAt q 0 (ndC x0 ev0)∧w'.cell? ⟨bt,0,none⟩=some (.string (crcm.mk text)))) (by kernel_rfl) (MK.out _ hW) (fun hHeld=>?_)
 (refine wpAnyH_take (i:=0) (v:=?_) (opsAt rfl) (by kernel_rfl) (by kernel_rfl) (by kernel_rfl) (fun _ _ _ h=>h) (Or.inl ⟨by rfl,?_⟩) (by assumption) ?_;rotate_left;focus (intro w hSw;(try dsimp only at hSw);go_simp;(try with_reducible rfl);done))
 (try simp only [Act.put,List.setIfInBounds_toArray,List.set_cons_zero,List.set_cons_succ])
 (refine wpAnyH_take (i:=1) (v:=?_) (opsAt rfl) (by kernel_rfl) (by kernel_rfl) (by kernel_rfl) (fun _ _ _ h=>h) (Or.inl ⟨by rfl,?_⟩) (by assumption) ?_;rotate_left;focus (intro w hSw;(try dsimp only at hSw);go_simp;(try with_reducible rfl);done))
 (try simp only [Act.put,List.setIfInBounds_toArray,List.set_cons_zero,List.set_cons_succ])
 (refine wpAnyH_take (i:=2) (v:=?_) (opsAt rfl) (by kernel_rfl) (by kernel_rfl) (by kernel_rfl) (fun _ _ _ h=>h) (Or.inl ⟨by rfl,?_⟩) (by assumption) ?_;rotate_left;focus (intro w hSw;(try dsimp only at hSw);go_simp;(try with_reducible rfl);done))
 (try simp only [Act.put,List.setIfInBounds_toArray,List.set_cons_zero,List.set_cons_succ])
 refine wpAnyH_take (i:=3) (opsAt rfl) (by kernel_rfl) (by kernel_rfl) (by kernel_rfl) (fun _ _ _ h=>h) (yieldsIf_load_mid (by rfl) _ _ rfl _ _ rfl _ _ (fun _ h=>h.1) Tryz.underlying50 rfl HSZ.out) (by assumption) ?_
 (try simp only [Act.put,List.setIfInBounds_toArray,List.set_cons_zero,List.set_cons_succ])
 (refine wpAnyH_take (i:=4) (v:=?_) (opsAt rfl) (by kernel_rfl) (by kernel_rfl) (by kernel_rfl) (fun _ _ _ h=>h) (Or.inl ⟨by rfl,?_⟩) (by assumption) ?_;rotate_left;focus (intro w hSw;(try dsimp only at hSw);go_simp;(try with_reducible rfl);done))
 (try simp only [Act.put,List.setIfInBounds_toArray,List.set_cons_zero,List.set_cons_succ])
 refine wpAnyH_ready (rs:=[5,11]) (by kernel_rfl) (by simp) ?_
 refine (AllReadyH.cons (opsAt rfl) (fun K hK=>?_) (AllReadyH.cons (opsAt rfl) (fun K hK=>?_) AllReadyH.nil))
 ·rw [if_pos (by rfl)]
  go_simp
  go_at_call 34
  refine (HT.out _ hW).mono ?_
  rintro e w1 ⟨nv,sv,rfl,hO⟩
  obtain ⟨A1,c1,D1,d1,rfl,rfl,hE1,hS1,ok1,hb1⟩:=hO
  (try unfold ndV)
  have HOK:=Lib.hid ok1
  have HS6:Hid ((ndC x (.slice A1 x.log.length c1)).toArray.size=30):=Lib.hid (by rw [List.size_toArray,ndC_len ok1])
  have HLD:=Lib.hid (laid_after (w:=w) hE1 hS1 (hW.trans (hb1.mono hW.size)) (Nat.le_trans HW0.out hW.size))
  have HZ:Hid (Blk (w1.alloc (.cells #[.int .i64 0,.int .i64 0,.int .u64 0,.int .i64 0,.slice none 0 0,.int .i64 0,.int .i64 0,.int .u64 0,.int .i64 0,.bool false,.bool false,.bool false,.bool false,.bool false,.bool false,.bool false,.int .u64 0,.int .u64 0,.int .u64 0,.int .u64 0,.int .u64 0,.int .u64 0,.int .u64 0,.int .u64 0,.int .u64 0,.int .u64 0,.int .u64 0,.int .u64 0,.int .u64 0,.int .u64 0] 50)) w1.heap.size (ndC zeroN nilV) 50):=Lib.hid (Blk.new w1 _ _)
  have hW:=hW.trans (hb1.mono hW.size)
  dsimp only
  refine hK.out _ _ (MK.out _ hW) (fun hHeld=>?_)
  clear hK K
  (try simp only [Act.put,List.setIfInBounds_toArray,List.set_cons_zero,List.set_cons_succ])
  (refine wpAnyH_take (i:=6) (v:=?_) (opsAt rfl) (by kernel_rfl) (by kernel_rfl) (by kernel_rfl) (fun _ _ _ h=>h) (Or.inl ⟨by rfl,?_⟩) (by assumption) ?_;rotate_left;focus (intro w hSw;(try dsimp only at hSw);go_simp;(try with_reducible rfl);done))
  (try simp only [Act.put,List.setIfInBounds_toArray,List.set_cons_zero,List.set_cons_succ])
  (refine wpAnyH_take (i:=7) (v:=?_) (opsAt rfl) (by kernel_rfl) (by kernel_rfl) (by kernel_rfl) (fun _ _ _ h=>h) (Or.inl ⟨by rfl,?_⟩) (by assumption) ?_;rotate_left;focus (intro w hSw;(try dsimp only at hSw);go_simp;(try with_reducible rfl);done))
  (try simp only [Act.put,List.setIfInBounds_toArray,List.set_cons_zero,List.set_cons_succ])
  (refine wpAnyH_take (i:=8) (v:=?_) (opsAt rfl) (by kernel_rfl) (by kernel_rfl) (by kernel_rfl) (fun _ _ _ h=>h) (Or.inl ⟨by rfl,?_⟩) (by assumption) ?_;rotate_left;focus (intro w hSw;(try dsimp only at hSw);go_simp;(try with_reducible rfl);done))
  (try simp only [Act.put,List.setIfInBounds_toArray,List.set_cons_zero,List.set_cons_succ])
  (refine wpAnyH_take (i:=9) (v:=?_) (opsAt rfl) (by kernel_rfl) (by kernel_rfl) (by kernel_rfl) (fun _ _ _ h=>h) (Or.inl ⟨by rfl,?_⟩) (by assumption) ?_;rotate_left;focus (intro w hSw;(try dsimp only at hSw);go_simp;(try with_reducible rfl);done))
  (try simp only [Act.put,List.setIfInBounds_toArray,List.set_cons_zero,List.set_cons_succ])
  (refine wpAnyH_take (i:=10) (v:=?_) (opsAt rfl) (by kernel_rfl) (by kernel_rfl) (by kernel_rfl) (fun _ _ _ h=>h) (Or.inl ⟨by rfl,?_⟩) (by assumption) ?_;rotate_left;focus (intro w hSw;(try dsimp only at hSw);go_simp;(try with_reducible rfl);done))
  (try simp only [Act.put,List.setIfInBounds_toArray,List.set_cons_zero,List.set_cons_succ])
  refine wpAnyH_ready (rs:=[11]) (by kernel_rfl) (by simp) ?_
  refine (AllReadyH.cons (opsAt rfl) (fun K hK=>?_) AllReadyH.nil)
  rw [if_pos (by rfl)]
  go_simp
  have hW:=hW.trans (((Below.refl _ w1).alloc (Nat.le_refl _) (.cells #[.int .i64 0,.int .i64 0,.int .u64 0,.int .i64 0,.slice none 0 0,.int .i64 0,.int .i64 0,.int .u64 0,.int .i64 0,.bool false,.bool false,.bool false,.bool false,.bool false,.bool false,.bool false,.int .u64 0,.int .u64 0,.int .u64 0,.int .u64 0,.int .u64 0,.int .u64 0,.int .u64 0,.int .u64 0,.int .u64 0,.int .u64 0,.int .u64 0,.int .u64 0,.int .u64 0,.int .u64 0] 50)).mono hW.size)
  (try dsimp only)
  refine hK.out _ _ (MK.out _ hW) (fun hHeld=>?_)
  clear hK K
  (try simp only [Act.put,List.setIfInBounds_toArray,List.set_cons_zero,List.set_cons_succ])
  refine wpAnyH_ready (rs:=[12]) (by kernel_rfl) (by simp) ?_
  refine (AllReadyH.cons (opsAt rfl) (fun K hK=>?_) AllReadyH.nil)
  rw [if_pos (by rfl)]
  refine wp_store_row 50 _ _ rfl _ _ rfl rfl _ _ HZ.out (by rw [node_size,HS6.out]) (by rw [HS6.out];rfl) (ndC_one rfl) ?_
  (try simp only [Act.put])
  refine hK.out _ _ (MK.out _ HLD.out.bel) (fun hHeld=>?_)
  clear hK K
  (try simp only [Act.put,List.setIfInBounds_toArray,List.set_cons_zero,List.set_cons_succ])
  (refine wpAnyH_take (i:=13) (v:=?_) (opsAt rfl) (by kernel_rfl) (by kernel_rfl) (by kernel_rfl) (fun _ _ _ h=>h) (Or.inl ⟨by rfl,?_⟩) (by assumption) ?_;rotate_left;focus (intro w hSw;(try dsimp only at hSw);go_simp;(try with_reducible rfl);done))
  (try simp only [Act.put,List.setIfInBounds_toArray,List.set_cons_zero,List.set_cons_succ])
  (refine wpAnyH_take (i:=14) (v:=?_) (opsAt rfl) (by kernel_rfl) (by kernel_rfl) (by kernel_rfl) (fun _ _ _ h=>h) (Or.inl ⟨by rfl,?_⟩) (by assumption) ?_;rotate_left;focus (intro w hSw;(try dsimp only at hSw);go_simp;(try with_reducible rfl);done))
  (try simp only [Act.put,List.setIfInBounds_toArray,List.set_cons_zero,List.set_cons_succ])
  (refine wpAnyH_take (i:=15) (v:=?_) (opsAt rfl) (by kernel_rfl) (by kernel_rfl) (by kernel_rfl) (fun _ _ _ h=>h) (Or.inl ⟨by rfl,?_⟩) (by assumption) ?_;rotate_left;focus (intro w hSw;(try dsimp only at hSw);go_simp;(try with_reducible rfl);done))
  (try simp only [Act.put,List.setIfInBounds_toArray,List.set_cons_zero,List.set_cons_succ])
  refine wpAnyH_done (by kernel_rfl) ?_ _
  obtain ⟨bn,hbn⟩:∃ b,w1.heap.size=b:=⟨_,rfl⟩
  rw [hbn] at HLD ⊢
  obtain ⟨W,hWW⟩:∃ W,(w1.alloc (.cells #[.int .i64 0,.int .i64 0,.int .u64 0,.int .i64 0,.slice none 0 0,.int .i64 0,.int .i64 0,.int .u64 0,.int .i64 0,.bool false,.bool false,.bool false,.bool false,.bool false,.bool false,.bool false,.int .u64 0,.int .u64 0,.int .u64 0,.int .u64 0,.int .u64 0,.int .u64 0,.int .u64 0,.int .u64 0,.int .u64 0,.int .u64 0,.int .u64 0,.int .u64 0,.int .u64 0,.int .u64 0] 50)).setRow bn (ndC x (.slice A1 x.log.length c1)).toArray=W:=⟨_,rfl⟩
  rw [hWW] at HLD ⊢
  clear hHeld hW hE1 hS1 hb1 ok1 HZ hbn hWW
  clear HBA HMP HCH HBX
  have HBL:=Lib.hid HLD.out.bel
  clear HLD MK
  go_wp2_with fail
  go_ret
  exact ⟨rfl,HBL.out⟩
 ·rw [if_pos (by rfl)]
  go_simp
  have hbz:=(Below.refl _ w.drew).alloc (Nat.le_refl _) (.cells #[.int .i64 0,.int .i64 0,.int .u64 0,.int .i64 0,.slice none 0 0,.int .i64 0,.int .i64 0,.int .u64 0,.int .i64 0,.bool false,.bool false,.bool false,.bool false,.bool false,.bool false,.bool false,.int .u64 0,.int .u64 0,.int .u64 0,.int .u64 0,.int .u64 0,.int .u64 0,.int .u64 0,.int .u64 0,.int .u64 0,.int .u64 0,.int .u64 0,.int .u64 0,.int .u64 0,.int .u64 0] 50)
  have hZ0:Blk (w.drew.alloc (.cells #[.int .i64 0,.int .i64 0,.int .u64 0,.int .i64 0,.slice none 0 0,.int .i64 0,.int .i64 0,.int .u64 0,.int .i64 0,.bool false,.bool false,.bool false,.bool false,.bool false,.bool false,.bool false,.int .u64 0,.int .u64 0,.int .u64 0,.int .u64 0,.int .u64 0,.int .u64 0,.int .u64 0,.int .u64 0,.int .u64 0,.int .u64 0,.int .u64 0,.int .u64 0,.int .u64 0,.int .u64 0] 50)) w.drew.heap.size (ndC zeroN nilV) 50:=Blk.new w.drew _ _
  have hW0:=hW
  have hW:=hW.trans (hbz.mono hW.size)
  (try dsimp only)
  refine hK.out _ _ (MK.out _ hW) (fun hHeld=>?_)
  clear hK K
  (try simp only [Act.put,List.setIfInBounds_toArray,List.set_cons_zero,List.set_cons_succ])
  refine wpAnyH_ready (rs:=[5]) (by kernel_rfl) (by simp) ?_
  refine (AllReadyH.cons (opsAt rfl) (fun K hK=>?_) AllReadyH.nil)
  rw [if_pos (by rfl)]
  go_simp
  go_at_call 34
  refine (HT.out _ hW).mono ?_
  rintro e w1 ⟨nv,sv,rfl,hO⟩
  obtain ⟨A1,c1,D1,d1,rfl,rfl,hE1,hS1,ok1,hb1⟩:=hO
  (try unfold ndV)
  have HOK:=Lib.hid ok1
  have HS6:Hid ((ndC x (.slice A1 x.log.length c1)).toArray.size=30):=Lib.hid (by rw [List.size_toArray,ndC_len ok1])
  have HZ:Hid (Blk w1 w.heap.size (ndC zeroN nilV) 50):=Lib.hid (hZ0.below hb1)
  have HLD:=Lib.hid (laid_before (w:=w) (bn:=w.heap.size) HZ.out hE1 hS1 (hW.trans (hb1.mono hW.size)) (Nat.le_refl _) (Nat.le_trans HW0.out hW.size))
  have hW:=hW.trans (hb1.mono hW.size)
  dsimp only
  refine hK.out _ _ (MK.out _ hW) (fun hHeld=>?_)
  clear hK K
  (try simp only [Act.put,List.setIfInBounds_toArray,List.set_cons_zero,List.set_cons_succ])
  (refine wpAnyH_take (i:=6) (v:=?_) (opsAt rfl) (by kernel_rfl) (by kernel_rfl) (by kernel_rfl) (fun _ _ _ h=>h) (Or.inl ⟨by rfl,?_⟩) (by assumption) ?_;rotate_left;focus (intro w hSw;(try dsimp only at hSw);go_simp;(try with_reducible rfl);done))
  (try simp only [Act.put,List.setIfInBounds_toArray,List.set_cons_zero,List.set_cons_succ])
  (refine wpAnyH_take (i:=7) (v:=?_) (opsAt rfl) (by kernel_rfl) (by kernel_rfl) (by kernel_rfl) (fun _ _ _ h=>h) (Or.inl ⟨by rfl,?_⟩) (by assumption) ?_;rotate_left;focus (intro w hSw;(try dsimp only at hSw);go_simp;(try with_reducible rfl);done))
  (try simp only [Act.put,List.setIfInBounds_toArray,List.set_cons_zero,List.set_cons_succ])
  (refine wpAnyH_take (i:=8) (v:=?_) (opsAt rfl) (by kernel_rfl) (by kernel_rfl) (by kernel_rfl) (fun _ _ _ h=>h) (Or.inl ⟨by rfl,?_⟩) (by assumption) ?_;rotate_left;focus (intro w hSw;(try dsimp only at hSw);go_simp;(try with_reducible rfl);done))
  (try simp only [Act.put,List.setIfInBounds_toArray,List.set_cons_zero,List.set_cons_succ])
  (refine wpAnyH_take (i:=9) (v:=?_) (opsAt rfl) (by kernel_rfl) (by kernel_rfl) (by kernel_rfl) (fun _ _ _ h=>h) (Or.inl ⟨by rfl,?_⟩) (by assumption) ?_;rotate_left;focus (intro w hSw;(try dsimp only at hSw);go_simp;(try with_reducible rfl);done))
  (try simp only [Act.put,List.setIfInBounds_toArray,List.set_cons_zero,List.set_cons_succ])
  (refine wpAnyH_take (i:=10) (v:=?_) (opsAt rfl) (by kernel_rfl) (by kernel_rfl) (by kernel_rfl) (fun _ _ _ h=>h) (Or.inl ⟨by rfl,?_⟩) (by assumption) ?_;rotate_left;focus (intro w hSw;(try dsimp only at hSw);go_simp;(try with_reducible rfl);done))
  (try simp only [Act.put,List.setIfInBounds_toArray,List.set_cons_zero,List.set_cons_succ])
  refine wpAnyH_ready (rs:=[12]) (by kernel_rfl) (by simp) ?_
  refine (AllReadyH.cons (opsAt rfl) (fun K hK=>?_) AllReadyH.nil)
  rw [if_pos (by rfl)]
  refine wp_store_row 50 _ _ rfl _ _ rfl rfl _ _ HZ.out (by rw [node_size,HS6.out]) (by rw [HS6.out];rfl) (ndC_one rfl) ?_
  (try simp only [Act.put])
  refine hK.out _ _ (MK.out _ HLD.out.bel) (fun hHeld=>?_)
  clear hK K
  (try simp only [Act.put,List.setIfInBounds_toArray,List.set_cons_zero,List.set_cons_succ])
  (refine wpAnyH_take (i:=13) (v:=?_) (opsAt rfl) (by kernel_rfl) (by kernel_rfl) (by kernel_rfl) (fun _ _ _ h=>h) (Or.inl ⟨by rfl,?_⟩) (by assumption) ?_;rotate_left;focus (intro w hSw;(try dsimp only at hSw);go_simp;(try with_reducible rfl);done))
  (try simp only [Act.put,List.setIfInBounds_toArray,List.set_cons_zero,List.set_cons_succ])
  (refine wpAnyH_take (i:=14) (v:=?_) (opsAt rfl) (by kernel_rfl) (by kernel_rfl) (by kernel_rfl) (fun _ _ _ h=>h) (Or.inl ⟨by rfl,?_⟩) (by assumption) ?_;rotate_left;focus (intro w hSw;(try dsimp only at hSw);go_simp;(try with_reducible rfl);done))
  (try simp only [Act.put,List.setIfInBounds_toArray,List.set_cons_zero,List.set_cons_succ])
  (refine wpAnyH_take (i:=15) (v:=?_) (opsAt rfl) (by kernel_rfl) (by kernel_rfl) (by kernel_rfl) (fun _ _ _ h=>h) (Or.inl ⟨by rfl,?_⟩) (by assumption) ?_;rotate_left;focus (intro w hSw;(try dsimp only at hSw);go_simp;(try with_reducible rfl);done))
  (try simp only [Act.put,List.setIfInBounds_toArray,List.set_cons_zero,List.set_cons_succ])
  refine wpAnyH_done (by kernel_rfl) ?_ _
  obtain ⟨W,hWW⟩:∃ W,w1.setRow w.heap.size (ndC x (.slice A1 x.log.length c1)).toArray=W:=⟨_,rfl⟩
  rw [hWW] at HLD ⊢
  clear hHeld hW hW0 hbz hZ0 hE1 hS1 hb1 ok1 HZ hWW
  clear HBA HMP HCH HBX
  have HBL:=Lib.hid HLD.out.bel
  clear HLD MK
  go_wp2_with fail
  go_ret
  exact ⟨rfl,HBL.out⟩
set_option maxHeartbeats 8000000 in
theorem propose1_led {B M K:Nat} {w0 w:World} {c R:Nat} {C:cl.Clu} {F:Nat→Fp} {k:Nat} {wv:Value} {i:Nat} (h:CluAt B w0 w c R C F k wv) (rd:Ready M K B C i) (ht:TabAt w0) (bx bt ba:Nat) (text:List UInt8) (hbx:Vb w bx [cptr c] 24) (hbt:Vb w bt [.string (crcm.mk text)] 9) (hba:Vb w ba [.int .u64 0] 28) (hba0:w0.heap.size≤ba) (htx:text.length≤100) (hr:(C.p i).x.role=2) :
  Calls Tryz.prog 33 (#[] ++ #[.pointer (some ⟨(F i).q,0,none⟩)] ++ #[.pointer (some ⟨bt,0,none⟩),.pointer (some ⟨ba,0,none⟩),.pointer (some ⟨bx,0,none⟩)]) w fun e w'=>∃ z,e=.returned (.int .i64 z)∧∃ W,Below w.heap.size w W∧Turned B w0 c R C F k i (rf.propose (C.p i).x text).1 (rf.propose (C.p i).x text).2.1 z (W.setCell ⟨ba,0,none⟩ (.int .u64 (((C.p i).x.log.length + 1:Nat):Int))) w'∧Vb w' ba [.int .u64 (((C.p i).x.log.length + 1:Nat):Int)] 28:=by
 have hn7:=h.n7
 have hi:=rd.lt
 have hlim:=cl.propose_lim (x:=(C.p i).x) (by have:=rd.hK;omega) rd.lim htx
 have hsm:=propose_small (C.p i).x text
 have hprop:=fun W (hb:Below w.heap.size w W)=>propose_any (C.p i).x text (F i).A (F i).c W (((h.peers i hi).ents.re (b:=w.heap.size)).later hb).re (h.peers i hi).ok (by rw [rd.many];omega) (by have:=rd.lim.len;have:=rd.hM;omega)
 have hpe:rf.propose (C.p i).x text=((rf.add (C.p i).x text).1,(rf.add (C.p i).x text).2,(C.p i).x.log.length + 1,0):=by unfold rf.propose;rw [if_neg (by have:=rd.id;omega),if_neg (by omega)]
 obtain ⟨x,hx⟩:∃ x,(rf.add (C.p i).x text).1=x:=⟨_,rfl⟩
 obtain ⟨ms,hms⟩:∃ ms,(rf.add (C.p i).x text).2=ms:=⟨_,rfl⟩
 rw [hx,hms] at hpe
 rw [hpe]
 dsimp only
 clear hx hms
 rw [hpe] at hprop hlim hsm
 dsimp only at hprop hlim hsm
 have HT:=Lib.hid hprop
 have HSZ:Hid ((Tryz.prog.info? 50).map (·.size)=some (ndC (C.p i).x ((F i).ev (C.p i).x)).length):=Lib.hid (by rw [node_size,ndC_len (h.peers i hi).ok])
 have hMK:∀ w',Below w.heap.size w w'→(w'.rangeAt (F i).q 0 (ndC (C.p i).x ((F i).ev (C.p i).x))∧w'.cell? ⟨bt,0,none⟩=some (.string (crcm.mk text))):=fun w' hb=>⟨(h.later hb).ndRange hi,cell_later hb (hbt.cell 0 _ rfl)⟩
 have MK:=Lib.hid hMK
 have hCH:=fun (W w3:World) (A:Option Addr) (c':Nat) (D:Option Addr) (d:Nat) (hbW:Below w.heap.size w W) (hA3:Apart [ba] W w3) ok hE hS=>(change_told (W:=w3) (A:=A) (c':=c') (D:=D) (d:=d) ((h.later hbW).alien hA3 fun y hy=>by
  obtain rfl:y=ba:=by simpa using hy
  exact ⟨hba0,_,_,(hbW.block _ hba.lt).trans hba,by decide⟩) rd ht x ms (hlim.1.mono (Nat.le_refl _) (Nat.le_succ _)) hsm ok hE hS)
 have HCH:=Lib.hid hCH
 have HW0:Hid (w0.heap.size≤w.heap.size):=Lib.hid h.bel.size
 have HMP:Hid (∀ i,i < C.n→∃ M,FMap w (F i).b M):=Lib.hid h.maps
 obtain ⟨ev0,hev0⟩:∃ v,(F i).ev (C.p i).x=v:=⟨_,rfl⟩
 obtain ⟨x0,hx0⟩:∃ v,(C.p i).x=v:=⟨_,rfl⟩
 obtain ⟨q,hq⟩:∃ q,(F i).q=q:=⟨_,rfl⟩
 rw [hev0,hx0,hq] at MK
 rw [hev0,hx0] at HSZ
 rw [show Value.slice (F i).A (C.p i).x.log.length (F i).c=ev0 from hev0,hx0] at HT
 rw [hq] at HCH ⊢
 have HBX:=Lib.hid hbx
 have HBA:=Lib.hid hba
 have hW:Below w.heap.size w w.drew:=below_drewN (Below.refl _ w) 1
 rw [hx0]
 obtain ⟨N,hN⟩:∃ N,x0.log.length + 1=N:=⟨_,rfl⟩
 rw [hN] at HT ⊢
 clear hn7 hi hlim hsm h hq hN hCH hbx hbt hba rd hprop hpe hMK hev0
 unfold cptr at HCH HBX
 rw [show (#[] ++ #[Value.pointer (some ⟨q,0,none⟩)] ++ #[Value.pointer (some ⟨bt,0,none⟩),.pointer (some ⟨ba,0,none⟩),.pointer (some ⟨bx,0,none⟩)]:Array Value)=#[.pointer (some ⟨q,0,none⟩),.pointer (some ⟨bt,0,none⟩),.pointer (some ⟨ba,0,none⟩),.pointer (some ⟨bx,0,none⟩)] from rfl]
 go_enter Tryz.func33,Tryz.ntmps33
 go_upto_region 1 with fail
 unfold ndV at HT
 refine wp_region_held_drew (S:=(fun w'=>w'.rangeAt q 0 (ndC x0 ev0)∧w'.cell? ⟨bt,0,none⟩=some (.string (crcm.mk text)))) (by kernel_rfl) (MK.out _ hW) (fun hHeld=>?_)
 (refine wpAnyH_take (i:=0) (v:=?_) (opsAt rfl) (by kernel_rfl) (by kernel_rfl) (by kernel_rfl) (fun _ _ _ h=>h) (Or.inl ⟨by rfl,?_⟩) (by assumption) ?_;rotate_left;focus (intro w hSw;(try dsimp only at hSw);go_simp;(try with_reducible rfl);done))
 (try simp only [Act.put,List.setIfInBounds_toArray,List.set_cons_zero,List.set_cons_succ])
 (refine wpAnyH_take (i:=1) (v:=?_) (opsAt rfl) (by kernel_rfl) (by kernel_rfl) (by kernel_rfl) (fun _ _ _ h=>h) (Or.inl ⟨by rfl,?_⟩) (by assumption) ?_;rotate_left;focus (intro w hSw;(try dsimp only at hSw);go_simp;(try with_reducible rfl);done))
 (try simp only [Act.put,List.setIfInBounds_toArray,List.set_cons_zero,List.set_cons_succ])
 (refine wpAnyH_take (i:=2) (v:=?_) (opsAt rfl) (by kernel_rfl) (by kernel_rfl) (by kernel_rfl) (fun _ _ _ h=>h) (Or.inl ⟨by rfl,?_⟩) (by assumption) ?_;rotate_left;focus (intro w hSw;(try dsimp only at hSw);go_simp;(try with_reducible rfl);done))
 (try simp only [Act.put,List.setIfInBounds_toArray,List.set_cons_zero,List.set_cons_succ])
 refine wpAnyH_take (i:=3) (opsAt rfl) (by kernel_rfl) (by kernel_rfl) (by kernel_rfl) (fun _ _ _ h=>h) (yieldsIf_load_mid (by rfl) _ _ rfl _ _ rfl _ _ (fun _ h=>h.1) Tryz.underlying50 rfl HSZ.out) (by assumption) ?_
 (try simp only [Act.put,List.setIfInBounds_toArray,List.set_cons_zero,List.set_cons_succ])
 (refine wpAnyH_take (i:=4) (v:=?_) (opsAt rfl) (by kernel_rfl) (by kernel_rfl) (by kernel_rfl) (fun _ _ _ h=>h) (Or.inl ⟨by rfl,?_⟩) (by assumption) ?_;rotate_left;focus (intro w hSw;(try dsimp only at hSw);go_simp;(try with_reducible rfl);done))
 (try simp only [Act.put,List.setIfInBounds_toArray,List.set_cons_zero,List.set_cons_succ])
 refine wpAnyH_ready (rs:=[5,11]) (by kernel_rfl) (by simp) ?_
 refine (AllReadyH.cons (opsAt rfl) (fun K hK=>?_) (AllReadyH.cons (opsAt rfl) (fun K hK=>?_) AllReadyH.nil))
 ·rw [if_pos (by rfl)]
  go_simp
  go_at_call 34
  refine (HT.out _ hW).mono ?_
  rintro e w1 ⟨nv,sv,rfl,hO⟩
  obtain ⟨A1,c1,D1,d1,rfl,rfl,hE1,hS1,ok1,hb1⟩:=hO
  (try unfold ndV)
  have HOK:=Lib.hid ok1
  have HS6:Hid ((ndC x (.slice A1 x.log.length c1)).toArray.size=30):=Lib.hid (by rw [List.size_toArray,ndC_len ok1])
  have HLD:=Lib.hid (laid_after (w:=w) hE1 hS1 (hW.trans (hb1.mono hW.size)) (Nat.le_trans HW0.out hW.size))
  have HZ:Hid (Blk (w1.alloc (.cells #[.int .i64 0,.int .i64 0,.int .u64 0,.int .i64 0,.slice none 0 0,.int .i64 0,.int .i64 0,.int .u64 0,.int .i64 0,.bool false,.bool false,.bool false,.bool false,.bool false,.bool false,.bool false,.int .u64 0,.int .u64 0,.int .u64 0,.int .u64 0,.int .u64 0,.int .u64 0,.int .u64 0,.int .u64 0,.int .u64 0,.int .u64 0,.int .u64 0,.int .u64 0,.int .u64 0,.int .u64 0] 50)) w1.heap.size (ndC zeroN nilV) 50):=Lib.hid (Blk.new w1 _ _)
  have hW:=hW.trans (hb1.mono hW.size)
  dsimp only
  refine hK.out _ _ (MK.out _ hW) (fun hHeld=>?_)
  clear hK K
  (try simp only [Act.put,List.setIfInBounds_toArray,List.set_cons_zero,List.set_cons_succ])
  (refine wpAnyH_take (i:=6) (v:=?_) (opsAt rfl) (by kernel_rfl) (by kernel_rfl) (by kernel_rfl) (fun _ _ _ h=>h) (Or.inl ⟨by rfl,?_⟩) (by assumption) ?_;rotate_left;focus (intro w hSw;(try dsimp only at hSw);go_simp;(try with_reducible rfl);done))
  (try simp only [Act.put,List.setIfInBounds_toArray,List.set_cons_zero,List.set_cons_succ])
  (refine wpAnyH_take (i:=7) (v:=?_) (opsAt rfl) (by kernel_rfl) (by kernel_rfl) (by kernel_rfl) (fun _ _ _ h=>h) (Or.inl ⟨by rfl,?_⟩) (by assumption) ?_;rotate_left;focus (intro w hSw;(try dsimp only at hSw);go_simp;(try with_reducible rfl);done))
  (try simp only [Act.put,List.setIfInBounds_toArray,List.set_cons_zero,List.set_cons_succ])
  (refine wpAnyH_take (i:=8) (v:=?_) (opsAt rfl) (by kernel_rfl) (by kernel_rfl) (by kernel_rfl) (fun _ _ _ h=>h) (Or.inl ⟨by rfl,?_⟩) (by assumption) ?_;rotate_left;focus (intro w hSw;(try dsimp only at hSw);go_simp;(try with_reducible rfl);done))
  (try simp only [Act.put,List.setIfInBounds_toArray,List.set_cons_zero,List.set_cons_succ])
  (refine wpAnyH_take (i:=9) (v:=?_) (opsAt rfl) (by kernel_rfl) (by kernel_rfl) (by kernel_rfl) (fun _ _ _ h=>h) (Or.inl ⟨by rfl,?_⟩) (by assumption) ?_;rotate_left;focus (intro w hSw;(try dsimp only at hSw);go_simp;(try with_reducible rfl);done))
  (try simp only [Act.put,List.setIfInBounds_toArray,List.set_cons_zero,List.set_cons_succ])
  (refine wpAnyH_take (i:=10) (v:=?_) (opsAt rfl) (by kernel_rfl) (by kernel_rfl) (by kernel_rfl) (fun _ _ _ h=>h) (Or.inl ⟨by rfl,?_⟩) (by assumption) ?_;rotate_left;focus (intro w hSw;(try dsimp only at hSw);go_simp;(try with_reducible rfl);done))
  (try simp only [Act.put,List.setIfInBounds_toArray,List.set_cons_zero,List.set_cons_succ])
  refine wpAnyH_ready (rs:=[11]) (by kernel_rfl) (by simp) ?_
  refine (AllReadyH.cons (opsAt rfl) (fun K hK=>?_) AllReadyH.nil)
  rw [if_pos (by rfl)]
  go_simp
  have hW:=hW.trans (((Below.refl _ w1).alloc (Nat.le_refl _) (.cells #[.int .i64 0,.int .i64 0,.int .u64 0,.int .i64 0,.slice none 0 0,.int .i64 0,.int .i64 0,.int .u64 0,.int .i64 0,.bool false,.bool false,.bool false,.bool false,.bool false,.bool false,.bool false,.int .u64 0,.int .u64 0,.int .u64 0,.int .u64 0,.int .u64 0,.int .u64 0,.int .u64 0,.int .u64 0,.int .u64 0,.int .u64 0,.int .u64 0,.int .u64 0,.int .u64 0,.int .u64 0] 50)).mono hW.size)
  (try dsimp only)
  refine hK.out _ _ (MK.out _ hW) (fun hHeld=>?_)
  clear hK K
  (try simp only [Act.put,List.setIfInBounds_toArray,List.set_cons_zero,List.set_cons_succ])
  refine wpAnyH_ready (rs:=[12]) (by kernel_rfl) (by simp) ?_
  refine (AllReadyH.cons (opsAt rfl) (fun K hK=>?_) AllReadyH.nil)
  rw [if_pos (by rfl)]
  refine wp_store_row 50 _ _ rfl _ _ rfl rfl _ _ HZ.out (by rw [node_size,HS6.out]) (by rw [HS6.out];rfl) (ndC_one rfl) ?_
  (try simp only [Act.put])
  refine hK.out _ _ (MK.out _ HLD.out.bel) (fun hHeld=>?_)
  clear hK K
  (try simp only [Act.put,List.setIfInBounds_toArray,List.set_cons_zero,List.set_cons_succ])
  (refine wpAnyH_take (i:=13) (v:=?_) (opsAt rfl) (by kernel_rfl) (by kernel_rfl) (by kernel_rfl) (fun _ _ _ h=>h) (Or.inl ⟨by rfl,?_⟩) (by assumption) ?_;rotate_left;focus (intro w hSw;(try dsimp only at hSw);go_simp;(try with_reducible rfl);done))
  (try simp only [Act.put,List.setIfInBounds_toArray,List.set_cons_zero,List.set_cons_succ])
  (refine wpAnyH_take (i:=14) (v:=?_) (opsAt rfl) (by kernel_rfl) (by kernel_rfl) (by kernel_rfl) (fun _ _ _ h=>h) (Or.inl ⟨by rfl,?_⟩) (by assumption) ?_;rotate_left;focus (intro w hSw;(try dsimp only at hSw);go_simp;(try with_reducible rfl);done))
  (try simp only [Act.put,List.setIfInBounds_toArray,List.set_cons_zero,List.set_cons_succ])
  (refine wpAnyH_take (i:=15) (v:=?_) (opsAt rfl) (by kernel_rfl) (by kernel_rfl) (by kernel_rfl) (fun _ _ _ h=>h) (Or.inl ⟨by rfl,?_⟩) (by assumption) ?_;rotate_left;focus (intro w hSw;(try dsimp only at hSw);go_simp;(try with_reducible rfl);done))
  (try simp only [Act.put,List.setIfInBounds_toArray,List.set_cons_zero,List.set_cons_succ])
  refine wpAnyH_done (by kernel_rfl) ?_ _
  obtain ⟨bn,hbn⟩:∃ b,w1.heap.size=b:=⟨_,rfl⟩
  rw [hbn] at HLD ⊢
  obtain ⟨W,hWW⟩:∃ W,(w1.alloc (.cells #[.int .i64 0,.int .i64 0,.int .u64 0,.int .i64 0,.slice none 0 0,.int .i64 0,.int .i64 0,.int .u64 0,.int .i64 0,.bool false,.bool false,.bool false,.bool false,.bool false,.bool false,.bool false,.int .u64 0,.int .u64 0,.int .u64 0,.int .u64 0,.int .u64 0,.int .u64 0,.int .u64 0,.int .u64 0,.int .u64 0,.int .u64 0,.int .u64 0,.int .u64 0,.int .u64 0,.int .u64 0] 50)).setRow bn (ndC x (.slice A1 x.log.length c1)).toArray=W:=⟨_,rfl⟩
  rw [hWW] at HLD ⊢
  clear hHeld hW hE1 hS1 hb1 ok1 HZ hbn hWW
  obtain ⟨w3,hw3⟩:∃ w3,W.setCell ⟨ba,0,none⟩ (.int .u64 ((N:Nat):Int))=w3:=⟨_,rfl⟩
  have hvba:Vb W ba [.int .u64 0] 28:=(HLD.out.bel.block _ HBA.out.lt).trans HBA.out
  have hA3:Apart [ba] W w3:=by rw [← hw3];exact Apart.setCell W ba 0 _
  have hb3:Vb w3 ba [.int .u64 ((N:Nat):Int)] 28:=by rw [← hw3];exact hvba.set 0 _
  have hno:∀ y ∈ [ba],NotEnt W y:=fun y hy=>by
   obtain rfl:y=ba:=by simpa using hy
   exact notEnt_of hvba (by decide)
  have hnm:∀ y ∈ [ba],∀ cur,W.heap[y]? ≠ some (.cells cur 83 (0,0)):=fun y hy cur e=>by
   obtain rfl:y=ba:=by simpa using hy
   unfold Vb at hvba
   rw [e] at hvba
   injection hvba with hvba
   injection hvba with _ hvba _
   exact absurd hvba (by decide)
  have hcall:=HCH.out W w3 A1 c1 D1 d1 HLD.out.bel hA3 HOK.out (HLD.out.ents.apart hA3 hno) (HLD.out.way.apart hA3 hno hnm)
  have hblk:Blk w3 bn (ndC x (.slice A1 x.log.length c1)) 50:=Vb.apart HLD.out.blk hA3 (fun hx=>ne_of_type (vs:=ndC x (.slice A1 x.log.length c1)) HLD.out.blk hvba (by decide) (by simpa using hx))
  have hbx3:=(Vb.apart ((HLD.out.bel.block _ HBX.out.lt).trans HBX.out) hA3 (fun hx=>ne_of_type HBX.out HBA.out (by decide) (by simpa using hx))).cell 0 _ rfl
  have hcb:=hvba.cell 0 _ rfl
  have hfb:=hvba.free 0
  have HCALL:=Lib.hid hcall
  have HBK:=Lib.hid hblk
  have HBL:=Lib.hid HLD.out.bel
  have HB3:=Lib.hid hb3
  have HMW:Hid (∀ i,i < C.n→∃ M,FMap w3 (F i).b M):=Lib.hid fun j hj=>by
   obtain ⟨M,hM⟩:=HMP.out j hj
   refine ⟨M,?_⟩
   obtain ⟨es,cl,h1,h2⟩:=hM
   have hlt:=(Array.getElem?_eq_some_iff.1 h1).1
   refine ⟨es,cl,?_,h2⟩
   rw [hA3.block _ (Nat.lt_of_lt_of_le hlt HLD.out.bel.size) (fun hx=>?_),HLD.out.bel.block _ hlt]
   ·exact h1
   ·have e:(F j).b=ba:=by simpa using hx
    exact ne_map HBA.out ⟨es,cl,h1,h2⟩ e.symm
  clear hcall hblk hb3 hA3 hvba hno hnm HCH HLD HMP HBX HBA MK
  go_upto_region 5 with fail
  (try rw [hw3])
  clear hcb hfb
  go_wp2_with (first | (refine wpList_load_row rfl 50 _ rfl bn rfl _ _ _ _ HBK.out Tryz.underlying50 rfl (by rw [node_size,HS6.out]) ?_) | (go_at_call 35;refine HCALL.out.mono ?_;rintro e w5 ⟨z,rfl,hT⟩;have HTT:=Lib.hid hT;clear hT))
  go_ret
  refine ⟨z,rfl,W,HBL.out,?_,?_⟩
  ·rw [hw3];exact HTT.out
  ·obtain ⟨_,_,_,_,_,hst⟩:=HTT.out
   exact HB3.out.stay hst (by decide) HMW.out
 ·rw [if_pos (by rfl)]
  go_simp
  have hbz:=(Below.refl _ w.drew).alloc (Nat.le_refl _) (.cells #[.int .i64 0,.int .i64 0,.int .u64 0,.int .i64 0,.slice none 0 0,.int .i64 0,.int .i64 0,.int .u64 0,.int .i64 0,.bool false,.bool false,.bool false,.bool false,.bool false,.bool false,.bool false,.int .u64 0,.int .u64 0,.int .u64 0,.int .u64 0,.int .u64 0,.int .u64 0,.int .u64 0,.int .u64 0,.int .u64 0,.int .u64 0,.int .u64 0,.int .u64 0,.int .u64 0,.int .u64 0] 50)
  have hZ0:Blk (w.drew.alloc (.cells #[.int .i64 0,.int .i64 0,.int .u64 0,.int .i64 0,.slice none 0 0,.int .i64 0,.int .i64 0,.int .u64 0,.int .i64 0,.bool false,.bool false,.bool false,.bool false,.bool false,.bool false,.bool false,.int .u64 0,.int .u64 0,.int .u64 0,.int .u64 0,.int .u64 0,.int .u64 0,.int .u64 0,.int .u64 0,.int .u64 0,.int .u64 0,.int .u64 0,.int .u64 0,.int .u64 0,.int .u64 0] 50)) w.drew.heap.size (ndC zeroN nilV) 50:=Blk.new w.drew _ _
  have hW0:=hW
  have hW:=hW.trans (hbz.mono hW.size)
  (try dsimp only)
  refine hK.out _ _ (MK.out _ hW) (fun hHeld=>?_)
  clear hK K
  (try simp only [Act.put,List.setIfInBounds_toArray,List.set_cons_zero,List.set_cons_succ])
  refine wpAnyH_ready (rs:=[5]) (by kernel_rfl) (by simp) ?_
  refine (AllReadyH.cons (opsAt rfl) (fun K hK=>?_) AllReadyH.nil)
  rw [if_pos (by rfl)]
  go_simp
  go_at_call 34
  refine (HT.out _ hW).mono ?_
  rintro e w1 ⟨nv,sv,rfl,hO⟩
  obtain ⟨A1,c1,D1,d1,rfl,rfl,hE1,hS1,ok1,hb1⟩:=hO
  (try unfold ndV)
  have HOK:=Lib.hid ok1
  have HS6:Hid ((ndC x (.slice A1 x.log.length c1)).toArray.size=30):=Lib.hid (by rw [List.size_toArray,ndC_len ok1])
  have HZ:Hid (Blk w1 w.heap.size (ndC zeroN nilV) 50):=Lib.hid (hZ0.below hb1)
  have HLD:=Lib.hid (laid_before (w:=w) (bn:=w.heap.size) HZ.out hE1 hS1 (hW.trans (hb1.mono hW.size)) (Nat.le_refl _) (Nat.le_trans HW0.out hW.size))
  have hW:=hW.trans (hb1.mono hW.size)
  dsimp only
  refine hK.out _ _ (MK.out _ hW) (fun hHeld=>?_)
  clear hK K
  (try simp only [Act.put,List.setIfInBounds_toArray,List.set_cons_zero,List.set_cons_succ])
  (refine wpAnyH_take (i:=6) (v:=?_) (opsAt rfl) (by kernel_rfl) (by kernel_rfl) (by kernel_rfl) (fun _ _ _ h=>h) (Or.inl ⟨by rfl,?_⟩) (by assumption) ?_;rotate_left;focus (intro w hSw;(try dsimp only at hSw);go_simp;(try with_reducible rfl);done))
  (try simp only [Act.put,List.setIfInBounds_toArray,List.set_cons_zero,List.set_cons_succ])
  (refine wpAnyH_take (i:=7) (v:=?_) (opsAt rfl) (by kernel_rfl) (by kernel_rfl) (by kernel_rfl) (fun _ _ _ h=>h) (Or.inl ⟨by rfl,?_⟩) (by assumption) ?_;rotate_left;focus (intro w hSw;(try dsimp only at hSw);go_simp;(try with_reducible rfl);done))
  (try simp only [Act.put,List.setIfInBounds_toArray,List.set_cons_zero,List.set_cons_succ])
  (refine wpAnyH_take (i:=8) (v:=?_) (opsAt rfl) (by kernel_rfl) (by kernel_rfl) (by kernel_rfl) (fun _ _ _ h=>h) (Or.inl ⟨by rfl,?_⟩) (by assumption) ?_;rotate_left;focus (intro w hSw;(try dsimp only at hSw);go_simp;(try with_reducible rfl);done))
  (try simp only [Act.put,List.setIfInBounds_toArray,List.set_cons_zero,List.set_cons_succ])
  (refine wpAnyH_take (i:=9) (v:=?_) (opsAt rfl) (by kernel_rfl) (by kernel_rfl) (by kernel_rfl) (fun _ _ _ h=>h) (Or.inl ⟨by rfl,?_⟩) (by assumption) ?_;rotate_left;focus (intro w hSw;(try dsimp only at hSw);go_simp;(try with_reducible rfl);done))
  (try simp only [Act.put,List.setIfInBounds_toArray,List.set_cons_zero,List.set_cons_succ])
  (refine wpAnyH_take (i:=10) (v:=?_) (opsAt rfl) (by kernel_rfl) (by kernel_rfl) (by kernel_rfl) (fun _ _ _ h=>h) (Or.inl ⟨by rfl,?_⟩) (by assumption) ?_;rotate_left;focus (intro w hSw;(try dsimp only at hSw);go_simp;(try with_reducible rfl);done))
  (try simp only [Act.put,List.setIfInBounds_toArray,List.set_cons_zero,List.set_cons_succ])
  refine wpAnyH_ready (rs:=[12]) (by kernel_rfl) (by simp) ?_
  refine (AllReadyH.cons (opsAt rfl) (fun K hK=>?_) AllReadyH.nil)
  rw [if_pos (by rfl)]
  refine wp_store_row 50 _ _ rfl _ _ rfl rfl _ _ HZ.out (by rw [node_size,HS6.out]) (by rw [HS6.out];rfl) (ndC_one rfl) ?_
  (try simp only [Act.put])
  refine hK.out _ _ (MK.out _ HLD.out.bel) (fun hHeld=>?_)
  clear hK K
  (try simp only [Act.put,List.setIfInBounds_toArray,List.set_cons_zero,List.set_cons_succ])
  (refine wpAnyH_take (i:=13) (v:=?_) (opsAt rfl) (by kernel_rfl) (by kernel_rfl) (by kernel_rfl) (fun _ _ _ h=>h) (Or.inl ⟨by rfl,?_⟩) (by assumption) ?_;rotate_left;focus (intro w hSw;(try dsimp only at hSw);go_simp;(try with_reducible rfl);done))
  (try simp only [Act.put,List.setIfInBounds_toArray,List.set_cons_zero,List.set_cons_succ])
  (refine wpAnyH_take (i:=14) (v:=?_) (opsAt rfl) (by kernel_rfl) (by kernel_rfl) (by kernel_rfl) (fun _ _ _ h=>h) (Or.inl ⟨by rfl,?_⟩) (by assumption) ?_;rotate_left;focus (intro w hSw;(try dsimp only at hSw);go_simp;(try with_reducible rfl);done))
  (try simp only [Act.put,List.setIfInBounds_toArray,List.set_cons_zero,List.set_cons_succ])
  (refine wpAnyH_take (i:=15) (v:=?_) (opsAt rfl) (by kernel_rfl) (by kernel_rfl) (by kernel_rfl) (fun _ _ _ h=>h) (Or.inl ⟨by rfl,?_⟩) (by assumption) ?_;rotate_left;focus (intro w hSw;(try dsimp only at hSw);go_simp;(try with_reducible rfl);done))
  (try simp only [Act.put,List.setIfInBounds_toArray,List.set_cons_zero,List.set_cons_succ])
  refine wpAnyH_done (by kernel_rfl) ?_ _
  obtain ⟨W,hWW⟩:∃ W,w1.setRow w.heap.size (ndC x (.slice A1 x.log.length c1)).toArray=W:=⟨_,rfl⟩
  rw [hWW] at HLD ⊢
  clear hHeld hW hW0 hbz hZ0 hE1 hS1 hb1 ok1 HZ hWW
  obtain ⟨w3,hw3⟩:∃ w3,W.setCell ⟨ba,0,none⟩ (.int .u64 ((N:Nat):Int))=w3:=⟨_,rfl⟩
  have hvba:Vb W ba [.int .u64 0] 28:=(HLD.out.bel.block _ HBA.out.lt).trans HBA.out
  have hA3:Apart [ba] W w3:=by rw [← hw3];exact Apart.setCell W ba 0 _
  have hb3:Vb w3 ba [.int .u64 ((N:Nat):Int)] 28:=by rw [← hw3];exact hvba.set 0 _
  have hno:∀ y ∈ [ba],NotEnt W y:=fun y hy=>by
   obtain rfl:y=ba:=by simpa using hy
   exact notEnt_of hvba (by decide)
  have hnm:∀ y ∈ [ba],∀ cur,W.heap[y]? ≠ some (.cells cur 83 (0,0)):=fun y hy cur e=>by
   obtain rfl:y=ba:=by simpa using hy
   unfold Vb at hvba
   rw [e] at hvba
   injection hvba with hvba
   injection hvba with _ hvba _
   exact absurd hvba (by decide)
  have hcall:=HCH.out W w3 A1 c1 D1 d1 HLD.out.bel hA3 HOK.out (HLD.out.ents.apart hA3 hno) (HLD.out.way.apart hA3 hno hnm)
  have hblk:Blk w3 w.heap.size (ndC x (.slice A1 x.log.length c1)) 50:=Vb.apart HLD.out.blk hA3 (fun hx=>ne_of_type (vs:=ndC x (.slice A1 x.log.length c1)) HLD.out.blk hvba (by decide) (by simpa using hx))
  have hbx3:=(Vb.apart ((HLD.out.bel.block _ HBX.out.lt).trans HBX.out) hA3 (fun hx=>ne_of_type HBX.out HBA.out (by decide) (by simpa using hx))).cell 0 _ rfl
  have hcb:=hvba.cell 0 _ rfl
  have hfb:=hvba.free 0
  have HCALL:=Lib.hid hcall
  have HBK:=Lib.hid hblk
  have HBL:=Lib.hid HLD.out.bel
  have HB3:=Lib.hid hb3
  have HMW:Hid (∀ i,i < C.n→∃ M,FMap w3 (F i).b M):=Lib.hid fun j hj=>by
   obtain ⟨M,hM⟩:=HMP.out j hj
   refine ⟨M,?_⟩
   obtain ⟨es,cl,h1,h2⟩:=hM
   have hlt:=(Array.getElem?_eq_some_iff.1 h1).1
   refine ⟨es,cl,?_,h2⟩
   rw [hA3.block _ (Nat.lt_of_lt_of_le hlt HLD.out.bel.size) (fun hx=>?_),HLD.out.bel.block _ hlt]
   ·exact h1
   ·have e:(F j).b=ba:=by simpa using hx
    exact ne_map HBA.out ⟨es,cl,h1,h2⟩ e.symm
  clear hcall hblk hb3 hA3 hvba hno hnm HCH HLD HMP HBX HBA MK
  go_upto_region 5 with fail
  (try rw [hw3])
  clear hcb hfb
  go_wp2_with (first | (refine wpList_load_row rfl 50 _ rfl w.heap.size rfl _ _ _ _ HBK.out Tryz.underlying50 rfl (by rw [node_size,HS6.out]) ?_) | (go_at_call 35;refine HCALL.out.mono ?_;rintro e w5 ⟨z,rfl,hT⟩;have HTT:=Lib.hid hT;clear hT))
  go_ret
  refine ⟨z,rfl,W,HBL.out,?_,?_⟩
  ·rw [hw3];exact HTT.out
  ·obtain ⟨_,_,_,_,_,hst⟩:=HTT.out
   exact HB3.out.stay hst (by decide) HMW.out
end Go.Proofs.YtmcibggjolckoaaGreatDoor
namespace Go.Proofs.YtmcibggjolckoaaGreatDoor
open Go Go.RowKit Go.Deep
set_option maxRecDepth 100000
theorem Stay.put {F:Nat→Fp} {n:Nat} {w w':World} (h:Stay F n w w') {b j:Nat} {v:Value} (hb:w.heap.size≤b):Stay F n w (w'.setCell ⟨b,j,none⟩ v):=by
 have hA:=Apart.setCell w' b j v
 refine ⟨hA.os.trans h.os,hA.tape.trans h.tape,hA.output.trans h.output,Nat.le_trans h.size hA.size,fun x o hx hm hn=>?_⟩
 have hlt:x < w.heap.size:=(Array.getElem?_eq_some_iff.1 hx).1
 rw [hA.block x (Nat.lt_of_lt_of_le hlt h.size) (fun hxs=>?_)]
 ·exact h.block x o hx hm hn
 ·have:x=b:=by simpa using hxs
  omega
theorem results_cell_plain {P:Program} {fn:Func} {p u:Tmp} {ty:TypeId} (h:fn.results=#[.cell p ty,.tmp u]) (tmps:Array Value) (w:World) (a:Addr) (v:Value) (hp:tmps.getD p undef=.pointer (some a)) (hv:w.cell? a=some v) (hagg:∀ w,(isAgg ty).run P w=.ok false w) :
  (results fn tmps).run P w=.ok (.tuple #[v,tmps.getD u undef]) w:=by
 have hp':tmps[p]?.getD undef=.pointer (some a):=by simpa using hp
 simp [results,h,hp',asAddr,loadVar,hagg,hv]
theorem agg_u64 (w:World):(isAgg 28).run Tryz.prog w=.ok false w:=by rfl
section
variable {B M K:Nat} {w0 w:World} {c R:Nat} {C:cl.Clu} {F:Nat→Fp} {k:Nat} {wv:Value}
set_option maxHeartbeats 4000000 in
theorem propose_bad {i:Int} {z:Int} (hz0:z ≠ 0) (text:List UInt8) (h:CluAt B w0 w c R C F k wv)
  (hon:∀ (X:World) (bx bt ba:Nat),Below w.heap.size w X→CluAt B w0 X c R C F k wv→Vb X bx [cptr c] 24→Vb X bt [.string (crcm.mk text)] 9→Vb X ba [.int .u64 0] 28→w.heap.size≤ba→Calls Tryz.prog 32 #[cptr c,.int .i64 i,.func (.func 33) #[] #[.pointer (some ⟨bt,0,none⟩),.pointer (some ⟨ba,0,none⟩),.pointer (some ⟨bx,0,none⟩)]] X fun e w'=>e=.returned (.int .i64 z)∧Below X.heap.size X w') :
  Calls Tryz.prog 13 #[cptr c,.int .i64 i,.string (crcm.mk text)] w fun e w'=>e=.returned (.tuple #[.int .u64 0,.int .i64 z])∧Below w.heap.size w w':=by
 obtain ⟨X0,bx,hX0,hbx,hb0,k0⟩:=box_blk w [cptr c] 24
 obtain ⟨X1,bt,hX1,hbt,hb1,k1⟩:=box_blk X0 [.string (crcm.mk text)] 9
 obtain ⟨X,ba,hX,hba,hb2,k2⟩:=box_blk X1 [.int .u64 0] 28
 obtain rfl:bt=bx + 1:=by rw [← hbt,← hX0,← hbx];simp
 obtain rfl:ba=bx + 1 + 1:=by rw [← hba,← hX1,← hbt];simp
 have hb01:=hb0.trans (hb1.mono hb0.size)
 have hbX:=hb01.trans (hb2.mono hb01.size)
 have v0:Vb X bx [cptr c] 24:=(k0.below hb1).below hb2
 have v1:Vb X (bx + 1) [.string (crcm.mk text)] 9:=k1.below hb2
 have v2:Vb X (bx + 1 + 1) [.int .u64 0] 28:=k2
 have HON:=Lib.hid (hon X bx (bx + 1) (bx + 1 + 1) hbX (h.later hbX) v0 v1 v2 (by omega))
 have c0:=v0.cell 0 _ rfl
 have HV2:=Lib.hid v2
 have HX0:=Lib.hid hX0
 have HX1:=Lib.hid hX1
 have HX:=Lib.hid hX
 have HBX:=Lib.hid hbx
 have HB:=Lib.hid hbX
 have HLE:Hid (w.heap.size≤bx + 1 + 1):=Lib.hid (by omega)
 have hzb:(z == 0)=false:=by simpa using hz0
 clear h hon hX0 hX1 hX hbx hb0 hb1 hb2 hb01 hbX k0 k1 k2 v0 v1 v2 hbt hba hz0
 unfold cptr at HON c0 ⊢
 unfold cptr at HX0
 go_enter Tryz.func13,Tryz.ntmps13
 go_upto_region 1 with fail
 rw [HX0.out,HBX.out,HX1.out,HX.out]
 go_upto_region 3 with (go_at_call 32;refine HON.out.mono ?_;rintro e w2 ⟨rfl,hb1⟩;have c6:=cell_later hb1 (HV2.out.cell 0 _ rfl);have f6:=Blk.free ((hb1.block _ HV2.out.lt).trans HV2.out) 0;have HB1:=Lib.hid hb1;clear hb1)
 go_wp2_with fail
 refine bodyPost_ret (results_cell_plain rfl _ _ ⟨bx + 1 + 1,0,none⟩ (.int .u64 0) rfl (((HV2.out.apart (Apart.of_below HB1.out []) (fun hx=>by cases hx)).set 0 (.int .u64 0)).cell 0 _ rfl) agg_u64) rfl ?_
 refine ⟨rfl,HB.out.trans ((HB1.out.mono HB.out.size).trans ?_)⟩
 exact Apart.below (Apart.setCell w2 (bx + 1 + 1) 0 (.int .u64 0)) w.heap.size (Nat.le_trans HB.out.size HB1.out.size) (fun y hy=>by
  have e:y=bx + 1 + 1:=by simpa using hy
  have:=HLE.out
  omega)
theorem propose_no {i:Int} {z:Int} (hz0:z ≠ 0) (text:List UInt8) (h:CluAt B w0 w c R C F k wv) (hz:∀ fv w,CluAt B w0 w c R C F k wv→Calls Tryz.prog 32 #[cptr c,.int .i64 i,fv] w fun e w'=>e=.returned (.int .i64 z)∧Below w.heap.size w w') :
  Calls Tryz.prog 13 #[cptr c,.int .i64 i,.string (crcm.mk text)] w fun e w'=>e=.returned (.tuple #[.int .u64 0,.int .i64 z])∧Below w.heap.size w w':=
 propose_bad hz0 text h fun X _ _ _ _ hX _ _ _ _=>hz _ X hX
theorem propose_not {i:Nat} (text:List UInt8) (htx:text.length≤100) (h:CluAt B w0 w c R C F k wv) (rd:Ready M K B C i) (ht:TabAt w0) (hr:(C.p i).x.role ≠ 2) :
  Calls Tryz.prog 13 #[cptr c,.int .i64 (i:Int),.string (crcm.mk text)] w fun e w'=>e=.returned (.tuple #[.int .u64 0,.int .i64 170])∧Below w.heap.size w w':=
 propose_bad (by decide) text h fun X bx bt ba hb hX v0 v1 v2 hge=>
  (on_up (w:=X) 33 #[.pointer (some ⟨bt,0,none⟩),.pointer (some ⟨ba,0,none⟩),.pointer (some ⟨bx,0,none⟩)] (fun z w1 w2=>z=170∧Below w1.heap.size w1 w2) hX rd.lt rd.up (fun _ _=>rfl) (fun w1 hb1=>
   (propose1_not (hX.later hb1) rd ht bx bt ba text ((hb1.block _ v0.lt).trans v0) ((hb1.block _ v1.lt).trans v1) ((hb1.block _ v2.lt).trans v2) (Nat.le_trans h.bel.size hge) htx hr).mono (by rintro e w2 ⟨rfl,h2⟩;exact ⟨170,rfl,rfl,h2⟩))).mono (by
   rintro e w2 ⟨z,w1,rfl,hb1,rfl,h2⟩
   exact ⟨rfl,hb1.trans (h2.mono hb1.size)⟩)
set_option maxHeartbeats 4000000 in
theorem propose_led {i:Nat} (text:List UInt8) (htx:text.length≤100) (h:CluAt B w0 w c R C F k wv) (rd:Ready M K B C i) (ht:TabAt w0) (hr:(C.p i).x.role=2) :
  Calls Tryz.prog 13 #[cptr c,.int .i64 (i:Int),.string (crcm.mk text)] w fun e w'=>∃ z:Int,e=.returned (.tuple #[.int .u64 (if z=0 then (((C.p i).x.log.length + 1:Nat):Int) else 0),.int .i64 z])∧Turned B w0 c R C F k i (rf.propose (C.p i).x text).1 (rf.propose (C.p i).x text).2.1 z w w':=by
 obtain ⟨X0,bx,hX0,hbx,hb0,k0⟩:=box_blk w [cptr c] 24
 obtain ⟨X1,bt,hX1,hbt,hb1,k1⟩:=box_blk X0 [.string (crcm.mk text)] 9
 obtain ⟨X,ba,hX,hba,hb2,k2⟩:=box_blk X1 [.int .u64 0] 28
 obtain rfl:bt=bx + 1:=by rw [← hbt,← hX0,← hbx];simp
 obtain rfl:ba=bx + 1 + 1:=by rw [← hba,← hX1,← hbt];simp
 have hb01:=hb0.trans (hb1.mono hb0.size)
 have hbX:=hb01.trans (hb2.mono hb01.size)
 have v0:Vb X bx [cptr c] 24:=(k0.below hb1).below hb2
 have v1:Vb X (bx + 1) [.string (crcm.mk text)] 9:=k1.below hb2
 have v2:Vb X (bx + 1 + 1) [.int .u64 0] 28:=k2
 have hbase:=h.bel.size
 have hon:=on_up (w:=X) 33 #[.pointer (some ⟨bx + 1,0,none⟩),.pointer (some ⟨bx + 1 + 1,0,none⟩),.pointer (some ⟨bx,0,none⟩)] (fun z w1 w2=>∃ W,Below w1.heap.size w1 W∧Turned B w0 c R C F k i (rf.propose (C.p i).x text).1 (rf.propose (C.p i).x text).2.1 z (W.setCell ⟨bx + 1 + 1,0,none⟩ (.int .u64 (((C.p i).x.log.length + 1:Nat):Int))) w2∧Vb w2 (bx + 1 + 1) [.int .u64 (((C.p i).x.log.length + 1:Nat):Int)] 28) (h.later hbX) rd.lt rd.up (fun _ _=>rfl) (fun w1 hb1=>
   propose1_led ((h.later hbX).later hb1) rd ht bx (bx + 1) (bx + 1 + 1) text ((hb1.block _ v0.lt).trans v0) ((hb1.block _ v1.lt).trans v1) ((hb1.block _ v2.lt).trans v2) (by omega) htx hr)
 obtain ⟨N,hN⟩:∃ N,(C.p i).x.log.length + 1=N:=⟨_,rfl⟩
 obtain ⟨x,hx⟩:∃ x,(rf.propose (C.p i).x text).1=x:=⟨_,rfl⟩
 obtain ⟨ms,hms⟩:∃ x,(rf.propose (C.p i).x text).2.1=x:=⟨_,rfl⟩
 rw [hN,hx,hms] at hon ⊢
 have HON:=Lib.hid hon
 have c0:=v0.cell 0 _ rfl
 have HV2:=Lib.hid v2
 have HX0:=Lib.hid hX0
 have HX1:=Lib.hid hX1
 have HX:=Lib.hid hX
 have HBX:=Lib.hid hbx
 have HB:=Lib.hid hbX
 have HLE:Hid (w.heap.size≤bx + 1 + 1):=Lib.hid (by omega)
 have HLE0:Hid (w0.heap.size≤bx + 1 + 1):=Lib.hid (by omega)
 clear h hon hX0 hX1 hX hbx hb0 hb1 hb2 hb01 hbX k0 k1 k2 v0 v1 v2 hbt hba rd hN hx hms hr hbase
 unfold cptr at HON c0 ⊢
 unfold cptr at HX0
 go_enter Tryz.func13,Tryz.ntmps13
 go_upto_region 1 with fail
 rw [HX0.out,HBX.out,HX1.out,HX.out]
 go_upto_region 2 with (go_at_call 32;refine HON.out.mono ?_;rintro e w2 ⟨z,w1,rfl,hb1,W,hbW,hT,hv⟩;have HTT:=Lib.hid hT;have HB1:=Lib.hid (hb1.trans (hbW.mono hb1.size));have HV:=Lib.hid hv;clear hb1 hbW hT hv)
 have hfin:∀ v:Int,Turned B w0 c R C F k i x ms z w (w2.setCell ⟨bx + 1 + 1,0,none⟩ (.int .u64 v)):=by
  intro v
  obtain ⟨C',F',wv',h1,h2,h3⟩:=HTT.out
  have hA:=Apart.setCell w2 (bx + 1 + 1) 0 (.int .u64 v)
  refine ⟨C',F',wv',h1.alien hA fun y hy=>?_,h2,?_⟩
  ·obtain rfl:y=bx + 1 + 1:=by simpa using hy
   exact ⟨HLE0.out,_,_,HV.out,by decide⟩
  ·exact Stay.put ((Stay.put ((Stay.of_below HB.out).trans (Stay.of_below HB1.out)) HLE.out).trans h3) HLE.out
 have c6:=HV.out.cell 0 _ rfl
 have f6:=Blk.free HV.out 0
 have HFIN:=Lib.hid hfin
 clear hfin
 by_cases hz:z=0
 ·subst hz
  go_wp2_with fail
  refine bodyPost_ret (results_cell_plain rfl _ _ ⟨bx + 1 + 1,0,none⟩ (.int .u64 (N:Int)) rfl ((HV.out.set 0 (.int .u64 (N:Int))).cell 0 _ rfl) agg_u64) rfl ?_
  exact ⟨0,by rw [if_pos rfl];rfl,HFIN.out _⟩
 ·have hzb:(z == 0)=false:=by simpa using hz
  go_wp2_with fail
  refine bodyPost_ret (results_cell_plain rfl _ _ ⟨bx + 1 + 1,0,none⟩ (.int .u64 0) rfl ((HV.out.set 0 (.int .u64 0)).cell 0 _ rfl) agg_u64) rfl ?_
  exact ⟨z,by rw [if_neg hz];rfl,HFIN.out _⟩
end
end Go.Proofs.YtmcibggjolckoaaGreatDoor
