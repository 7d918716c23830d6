/- KcDouble, KcFall, KcStart, KcStarts: one behind the other. -/
import Derived.Test.YtmcibggjolckoaaGreatDoorGm24
import Derived.Deep.DeepCutAuto
import Derived.Deep.RegionLaw
import Derived.Deep.RegionHeld3
import Derived.Test.YtmcibggjolckoaaGreatDoorGm22
import Derived.Deep.RegionHeld
namespace Go.Proofs.YtmcibggjolckoaaGreatDoor
open Go Go.RowKit Go.Deep
set_option maxRecDepth 100000
section
variable {B:Nat} {w0 w:World} {c R:Nat} {C:cl.Clu} {F:Nat→Fp} {k:Nat} {wv:Value}
theorem double_no {i:Int} (h:CluAt B w0 w c R C F k wv) (hi:¬ (0≤i∧i < (C.way.length:Int))) :
  Calls Tryz.prog 28 #[cptr c,.int .i64 i] w fun e w'=>e=.returned (.int .i64 1)∧w=w':=by
 obtain ⟨Aw,cw,hwv⟩:=h.way.form
 subst hwv
 have c1:=h.c1
 obtain ⟨L,hL⟩:∃ n,C.way.length=n:=⟨_,rfl⟩
 rw [hL] at c1 hi
 unfold cptr
 clear h hL
 by_cases h0:i < 0
 ·have e1:decide (i < 0)=true:=decide_eq_true h0
  clear hi
  go_enter Tryz.func28,Tryz.ntmps28
  go_wp2_with fail
  go_ret
  exact ⟨rfl,rfl⟩
 ·have e1:decide (i < 0)=false:=decide_eq_false h0
  have e2:decide ((L:Int)≤i)=true:=decide_eq_true (by omega)
  clear hi
  go_enter Tryz.func28,Tryz.ntmps28
  go_wp2_with fail
  go_ret
  exact ⟨rfl,rfl⟩
set_option maxHeartbeats 8000000 in
theorem double_yes {j:Nat} {m:rf.Msg} (h:CluAt B w0 w c R C F k wv) (hm:C.way[j]?=some m) (hl:C.way.length≤1000) :
  Calls Tryz.prog 28 #[cptr c,.int .i64 (j:Int)] w fun e w'=>e=.returned (.int .i64 0)∧∃ wv',CluAt B w0 w' c R { C with way:=cl.last (C.way ++ [m]) } F k wv'∧Stay F C.n w w':=by
 obtain ⟨i0,hi0,hz0,hz1,hz2⟩:=info_parts info_msg
 obtain ⟨Aw,cw,hwv⟩:=h.way.form
 subst hwv
 have hj:j < C.way.length:=by
  rcases Nat.lt_or_ge j C.way.length with h1 | h1
  ·exact h1
  ·rw [List.getElem?_eq_none h1] at hm;cases hm
 obtain ⟨_,g,A',d,evs,hg,he1,hown,hents,hev,hcell,hrow⟩:=h.msg hm
 subst hg
 obtain ⟨ev,hevv⟩:∃ v,Value.slice A' m.ents.length d=v:=⟨_,rfl⟩
 rw [hevv] at hev hrow
 have hoe:ev.oneCell'=true:=by rw [← hevv];rfl
 have hEm:EntsB 0 w ev m.ents:=by
  have hz2:(C.way.zip evs)[j]?=some (m,ev):=by rw [List.getElem?_zip_eq_some];exact ⟨hm,hev⟩
  exact hents _ (List.mem_of_getElem? hz2)
 have hcap:C.way.length≤cw:=by
  rcases hown.2 with ⟨e,_⟩ | ⟨_,cap,_,e,_,_,h3,_⟩
  ·cases e
  ·injection e with _ _ e3
   omega
 obtain ⟨xs,hxs⟩:∃ xs,flatM (C.way.zip evs)=xs:=⟨_,rfl⟩
 rw [hxs] at hown
 have c1:=h.c1
 have hws:=h.bel.size
 have c1a:=(h.later ((Below.refl _ w).alloc (Nat.le_refl _) (.cells #[.int .i64 m.kind,.int .i64 m.frm,.int .i64 m.dst,.int .u64 (m.term:Int),.int .u64 (m.index:Int),.int .u64 (m.at_:Int),.int .u64 (m.commit:Int),ev,.bool m.ok] 83))).c1
 have hw0:Below w.heap.size w (w.drew.alloc (.cells (msgC m ev).toArray 83)):=(below_drewN (Below.refl _ w) 1).alloc (Nat.le_refl _) _
 have hgrow:∀ (w3:World) (A5:Option Addr) (c5:Nat),w3.ownsRow w0.heap.size 83 9 (.slice A5 (C.way.length + 1) c5) (C.way.length + 1) (xs ++ msgC m ev)→(w.drew.alloc (.cells (msgC m ev).toArray 83)).grownBy w3 (Value.slice (some ⟨g,0,none⟩) C.way.length cw).ownBlock →
   (w3.cell? ⟨c,1,none⟩=some (.slice (some ⟨g,0,none⟩) C.way.length cw)∧w3.frozen? ⟨c,1,none⟩=false)∧CluAt B w0 (w3.setCell ⟨c,1,none⟩ (.slice A5 (C.way.length + 1) c5)) c R { C with way:=C.way ++ [m] } F k (.slice A5 (C.way.length + 1) c5)∧Stay F C.n w (w3.setCell ⟨c,1,none⟩ (.slice A5 (C.way.length + 1) c5)):=by
  intro w3 A5 c5 ho hgr
  have hC1:=h.later hw0
  have hA5:=apart_grown hgr
  have hrowS:∀ y ∈ (Value.slice (some ⟨g,0,none⟩) C.way.length cw).ownBlock.toList,w0.heap.size≤y∧∃ cur,(w.drew.alloc (.cells (msgC m ev).toArray 83)).heap[y]?=some (.cells cur 83 (0,0)):=fun y hy=>hC1.wayRow (by simpa using hy)
  have hne5:∀ y ∈ (Value.slice (some ⟨g,0,none⟩) C.way.length cw).ownBlock.toList,NotEnt (w.drew.alloc (.cells (msgC m ev).toArray 83)) y:=fun y hy cur2 e2=>by
   obtain ⟨_,cur,e⟩:=hrowS y hy
   rw [e] at e2
   injection e2 with e2
   injection e2 with _ e2 _
   exact absurd e2 (by decide)
  have hcS:c ∉ (Value.slice (some ⟨g,0,none⟩) C.way.length cw).ownBlock.toList:=fun hx=>by
   obtain ⟨_,cur,e⟩:=hrowS c hx
   have hv:Vb (w.drew.alloc (.cells (msgC m ev).toArray 83)) c cur.toList 83:=by unfold Vb;rw [Array.toArray_toList];exact e
   exact ne_of_type hv hC1.blk (by decide) rfl
  have hb5:=hC1.blk.apart hA5 hcS
  have hway5:Way w0.heap.size w3 (.slice A5 (C.way.length + 1) c5) (C.way ++ [m]):=by
   refine ⟨evs ++ [ev],by rw [List.length_append,List.length_append,he1];rfl,?_,fun p hp=>?_⟩
   ·have e:((C.way ++ [m]).zip (evs ++ [ev])).flatMap (fun p=>msgC p.1 p.2)=xs ++ msgC m ev:=by
     rw [List.zip_append (by rw [he1]),List.flatMap_append,← hxs]
     simp [flatM]
    rw [e,List.length_append]
    exact ho
   ·rw [List.zip_append (by rw [he1])] at hp
    rcases List.mem_append.1 hp with h1 | h1
    ·exact ((hents p h1).later hw0).apart hA5 hne5
    ·simp at h1
     subst h1
     exact (hEm.later hw0).apart hA5 hne5
  refine ⟨⟨hb5.cell 1 _ rfl,Blk.free hb5 1⟩,hC1.setWay hA5 hrowS hway5 (by rw [List.length_append];simp;omega),?_⟩
  refine (Stay.of_below hw0).trans ((Stay.of_apart hA5 fun y hy=>?_).trans (Stay.of_apart (Apart.setCell w3 c 1 _) fun y hy=>?_))
  ·obtain ⟨_,cur,e⟩:=hrowS y hy
   exact .inl ⟨cur.toList,_,(by unfold Vb;rw [Array.toArray_toList];exact e),.inr (.inr (.inr (.inr rfl)))⟩
  ·obtain rfl:y=c:=by simpa using hy
   exact .inl ⟨_,_,hb5,.inr (.inr (.inr (.inl rfl)))⟩
 obtain ⟨L,hLL⟩:∃ n,C.way.length=n:=⟨_,rfl⟩
 rw [hLL] at hgrow c1 c1a hj hl hcap hown
 have x0:=hrow 0 _ rfl
 have x1:=hrow 1 _ rfl
 have x2:=hrow 2 _ rfl
 have x3:=hrow 3 _ rfl
 have x4:=hrow 4 _ rfl
 have x5:=hrow 5 _ rfl
 have x6:=hrow 6 _ rfl
 have x7:=hrow 7 _ rfl
 have x8:=hrow 8 _ rfl
 rw [Nat.add_zero] at x0
 have HG:=Lib.hid hgrow
 have HR:=Lib.hid hown
 have HC:=Lib.hid h
 have HSZ:Hid (w0.heap.size≤w.heap.size):=Lib.hid hws
 have HL:=Lib.hid hl
 have HOE:=Lib.hid hoe
 have HLL:=Lib.hid hLL
 have hjL:(j:Int) < (L:Int):=by omega
 have hj0:decide ((j:Int) < 0)=false:=decide_eq_false (by omega)
 have hjl:decide ((L:Int)≤(j:Int))=false:=decide_eq_false (by omega)
 unfold cptr
 clear h hown hents hev hcell hrow hgrow he1 hxs hm hj hl hoe hEm hws hw0 hLL hevv
 go_enter Tryz.func28,Tryz.ntmps28
 go_upto_region 3 with fail
 go_cut [] (fun wx=>∃ A5 c5,CluAt B w0 wx c R { C with way:=C.way ++ [m] } F k (.slice A5 (L + 1) c5)∧Stay F C.n w wx)
 case first=>
  go_region_law (refine step_append_own rfl (.tmp 20) (.tmp 28) 61 rfl w0.heap.size 83 i0 _ 9 88 Tryz.underlying61 hi0 hz0 hz1 hz2 rfl (by decide) (.slice (some ⟨g,0,none⟩) L cw) L xs (by simp [Act.eval]) ?_ ⟨w.heap.size,0,none⟩ 1 1 (msgC m ev) (by simp [Act.eval]) rfl ?_ (msgC_one HOE.out) ?_ ?_ ?_ ?_;exact World.ownsRow.alloc (w:=w.drew) HR.out _;exact cells_newL w.drew (msgC m ev) _;have:=HL.out;unfold maxLen;omega;have:=HL.out;omega;have:=HSZ.out;simp;omega;intro v' w3 hown' hgrow';obtain ⟨A5,c5,rfl⟩:=owns_slice hown';have hfin:=HG.out w3 A5 c5 hown' hgrow';have c13:=hfin.1.1;have f13:=hfin.1.2;have HF:=Lib.hid hfin.2;clear hfin hown' hgrow')
  all_goals
   go_wp2_with fail
   go_meet
   exact ⟨A5,c5,HF.out⟩
 case rest=>
  obtain ⟨A5,c5,hC6,hst6⟩:=hcut
  obtain ⟨W6,hW6⟩:∃ W,wc=W:=⟨_,rfl⟩
  rw [hW6] at hC6 hst6 ⊢
  obtain ⟨L1,hL1⟩:∃ n,L + 1=n:=⟨_,rfl⟩
  have hlen6:(C.way ++ [m]).length=L1:=by rw [List.length_append,HLL.out];exact hL1
  rw [hL1] at hC6
  obtain ⟨hx0,evs6,h61,hown6,hent6,hcell6⟩:=hC6.way.cells
  clear hx0
  obtain ⟨g5,hg5,hcap5⟩:∃ g5,A5=some ⟨g5,0,none⟩∧L1≤c5:=by
   rcases hown6.2 with ⟨e1,e2⟩ | ⟨g,cap,cur,e1,_,_,h3,_⟩
   ·exact absurd e2 (by show ¬ (C.way ++ [m]).length=0;omega)
   ·injection e1 with e1 _ e3
    exact ⟨g,e1,by have h3:(C.way ++ [m]).length≤cap:=h3;omega⟩
  subst hg5
  have hLb:L1≤1001:=by have:=HL.out;omega
  have hL0:0 < L1:=by omega
  obtain ⟨kk,hkk⟩:∃ k,L1 - 200=k:=⟨_,rfl⟩
  have hmax:max (0:Int) ((L1:Int) - 200)=(kk:Int):=by omega
  have hkL:(kk:Int)≤(L1:Int):=by omega
  have hk0:(0:Int)≤(kk:Int):=by omega
  have hck:¬ c5=kk:=by omega
  have hcapI:(L1:Int)≤(c5:Int):=by omega
  have hwr:IntKind.i64.wrap ((L1:Int) - 200)=(L1:Int) - 200:=wrap_i64_in (by omega) (by omega)
  obtain ⟨zs,hzs⟩:∃ zs,(C.way ++ [m]).zip evs6=zs:=⟨_,rfl⟩
  have hown6:W6.ownsRow w0.heap.size 83 9 (.slice (some ⟨g5,0,none⟩) L1 c5) (C.way ++ [m]).length (flatM ((C.way ++ [m]).zip evs6)):=hown6
  have hent6:∀ p ∈ (C.way ++ [m]).zip evs6,EntsB 0 W6 p.2 p.1.ents:=hent6
  have h61:evs6.length=(C.way ++ [m]).length:=h61
  have hcell6:0 < L1→∃ g,(some ⟨g5,0,none⟩:Option Addr)=some ⟨g,0,none⟩∧∀ j u,(flatM ((C.way ++ [m]).zip evs6))[j]?=some u→W6.cell? ⟨g,j,none⟩=some u:=hcell6
  rw [hzs] at hown6 hent6 hcell6
  have hzl:zs.length=L1:=by rw [← hzs,zip_len h61];exact hlen6
  have hcell7:∀ j u,(flatM zs)[j]?=some u→W6.cell? ⟨g5,j,none⟩=some u:=by
   obtain ⟨g',e,hh⟩:=hcell6 hL0
   injection e with e
   injection e with e
   subst e
   exact hh
  have hW:Below W6.heap.size W6 W6.drew:=below_drewN (Below.refl _ W6) 1
  have MK8:Hid (∀ w',Below W6.heap.size W6 w'→(w'.cell? ⟨c,1,none⟩=some (.slice (some ⟨g5,0,none⟩) L1 c5)∧w'.frozen? ⟨c,1,none⟩=false)):=Lib.hid fun w' hb=>⟨(hC6.later hb).c1,Blk.free (hC6.later hb).blk 1⟩
  have hend:∀ (w7:World) (B7:Option Addr) (d7:Nat),Below W6.heap.size W6 w7→w7.ownsRow W6.heap.size 83 9 (.slice B7 (L1 - kk) d7) (L1 - kk) ((flatM zs).drop (kk * 9))→CluAt B w0 (w7.setCell ⟨c,1,none⟩ (.slice B7 (L1 - kk) d7)) c R { C with way:=cl.last (C.way ++ [m]) } F k (.slice B7 (L1 - kk) d7)∧Stay F C.n w (w7.setCell ⟨c,1,none⟩ (.slice B7 (L1 - kk) d7)):=by
   intro w7 B7 d7 hb7 ho7
   have hz:((C.way ++ [m]).drop kk).zip (evs6.drop kk)=zs.drop kk:=by rw [← hzs];unfold List.zip;exact List.drop_zipWith.symm
   have hll:((C.way ++ [m]).drop kk).length=L1 - kk:=by rw [List.length_drop,hlen6]
   have hw7:Way w0.heap.size w7 (.slice B7 (L1 - kk) d7) ((C.way ++ [m]).drop kk):=by
    refine ⟨evs6.drop kk,by rw [List.length_drop,List.length_drop,h61],?_,fun p hp=>?_⟩
    ·have e:(((C.way ++ [m]).drop kk).zip (evs6.drop kk)).flatMap (fun p=>msgC p.1 p.2)=(flatM zs).drop (kk * 9):=by
      rw [hz,flatM_drop]
      rfl
     rw [e,hll]
     exact own_base ho7 hC6.bel.size
    ·rw [hz] at hp
     exact (hent6 p (List.mem_of_mem_drop hp)).later hb7
   have h9:=(hC6.later hb7).setWay (Apart.refl [] w7) (fun y hy=>by cases hy) hw7 (by rw [hll];omega)
   have elast:(C.way ++ [m]).drop kk=cl.last (C.way ++ [m]):=by unfold cl.last;rw [hlen6,hkk]
   rw [elast] at h9
   refine ⟨h9,hst6.trans ((Stay.of_below hb7).trans (Stay.of_apart (Apart.setCell w7 c 1 _) fun y hy=>?_))⟩
   obtain rfl:y=c:=by simpa using hy
   exact .inl ⟨_,_,(hC6.later hb7).blk,.inr (.inr (.inr (.inl rfl)))⟩
  have HARG:Hid (∀ w7,Below W6.heap.size W6 w7→((flatM zs).drop (kk * 9)).length=(L1 - kk) * 9∧(∀ u ∈ (flatM zs).drop (kk * 9),u.oneCell'=true)∧L1 - kk≤100000∧(0 < L1 - kk→∀ j u,((flatM zs).drop (kk * 9))[j]?=some u→w7.cell? ⟨g5,kk * 9 + j,none⟩=some u)):=Lib.hid fun w7 hb7=>by
   refine ⟨by rw [flatM_drop,flatM_len,List.length_drop,hzl],fun u hu=>flatM_one hent6 u (List.mem_of_mem_drop hu),by omega,fun _ j u hj=>?_⟩
   rw [List.getElem?_drop] at hj
   exact cell_later hb7 (hcell7 _ u hj)
  have HEND:=Lib.hid hend
  obtain ⟨k8,g8⟩:=MK8.out _ hW
  clear hend hC6 hst6 hown6 hent6 hcell6 hcell7 h61 hzl hzs hlen6 hW6 hL1 hkk hLb hL0 c1 c1a x0 x1 x2 x3 x4 x5 x6 x7 x8 HG HR HC hjL hj0 hjl
  go_upto_region 4 with fail
  go_region_with (first | (go_at_call 47;refine (mclone_any _ _ _ ((flatM zs).drop (kk * 9)) _ (HARG.out _ hW).1 (arg_far ((HARG.out _ hW).2.2.2)) (HARG.out _ hW).2.1 (HARG.out _ hW).2.2.1).mono ?_;rintro e w8 ⟨B8,d8,rfl,hown8,hb8⟩;have hown8:=own_base hown8 hW.size;have hW:=hW.trans (hb8.mono hW.size);obtain ⟨k9,g9⟩:=MK8.out _ hW))
  all_goals (
   obtain ⟨k1,k2⟩:=HEND.out w8 B8 d8 hW hown8
   have HK:=Lib.hid (And.intro k1 k2)
   clear k8 g8 k9 g9 k1 k2
   go_wp2_with fail
   go_ret
   exact ⟨rfl,_,HK.out⟩)
end
end Go.Proofs.YtmcibggjolckoaaGreatDoor
namespace Go.Proofs.YtmcibggjolckoaaGreatDoor
open Go Go.RowKit Go.Deep
set_option maxRecDepth 100000
section
variable {B:Nat} {w0 w:World} {c R:Nat} {C:cl.Clu} {F:Nat→Fp} {k:Nat} {wv:Value} {i:Nat}
def Fell (B:Nat) (w0:World) (c R:Nat) (C:cl.Clu) (F:Nat→Fp) (k:Nat) (wv:Value) (i:Nat) (keep:Int) (w w':World):Prop:=
 CluAt B w0 w' c R (cl.fallen C i (C.p i).s zeroN) (cl.upd F i ((F i).down (vd.crash (F i).d keep))) k wv∧Stay F C.n w w'
def Fused (B:Nat) (w0:World) (c R:Nat) (C:cl.Clu) (F:Nat→Fp) (k:Nat) (wv:Value) (i:Nat) (n keep:Int) (w w':World):Prop:=
 CluAt B w0 w' c R C (cl.upd F i { F i with d:={ (F i).d with left:=(max n 0).toNat,keep:=keep } }) k wv∧Stay F C.n w w'
theorem Fell.from_ {keep:Int} {v w w':World} (h:Fell B w0 c R C F k wv i keep w w') (hb:Below v.heap.size v w):Fell B w0 c R C F k wv i keep v w':=⟨h.1,(Stay.of_below hb).trans h.2⟩
theorem Fused.from_ {n keep:Int} {v w w':World} (h:Fused B w0 c R C F k wv i n keep w w') (hb:Below v.heap.size v w):Fused B w0 c R C F k wv i n keep v w':=⟨h.1,(Stay.of_below hb).trans h.2⟩
theorem CluAt.stay3 (h:CluAt B w0 w c R C F k wv) (hi:i < C.n) {w':World} (hA:Apart [(F i).q,(F i).p,(F i).b] w w'):Stay F C.n w w':=
 Stay.of_apart hA fun y hy=>by
  simp only [List.mem_cons,List.not_mem_nil,or_false] at hy
  rcases hy with e | e | e
  ·rw [e];exact .inl ⟨_,_,(h.peers i hi).blk,.inl rfl⟩
  ·rw [e];exact .inl ⟨_,_,(h.peers i hi).disk.dk.blk,.inr (.inl rfl)⟩
  ·exact .inr ⟨i,hi,e⟩
theorem fell_of (keep:Int) {w':World} (h:CluAt B w0 w c R C F k wv) (hi:i < C.n) (hp:PeerOk B w0 w' ⟨(C.p i).s,false,zeroN⟩ ((F i).down (vd.crash (F i).d keep))) (hA:Apart [(F i).q,(F i).p,(F i).b] w w'):Fell B w0 c R C F k wv i keep w w':=
 ⟨h.peer hi hA (fun y hy=>by
  simp only [List.mem_cons,List.not_mem_nil,or_false] at hy
  rcases hy with e | e | e
  ·exact .inl e
  ·exact .inr (.inl e)
  ·exact .inr (.inr (.inl e))) hp ⟨rfl,rfl,rfl⟩ (fun h=>by cases h),h.stay3 hi hA⟩
theorem crash1_any (keep:Int) (h:CluAt B w0 w c R C F k wv) (hi:i < C.n) (bk:Nat) (hbk:Vb w bk [.int .i64 keep] 3) :
  Calls Tryz.prog 43 (#[] ++ #[.pointer (some ⟨(F i).q,0,none⟩)] ++ #[.pointer (some ⟨bk,0,none⟩)]) w fun e w'=>∃ z,e=.returned (.int .i64 z)∧(z=0∧Fell B w0 c R C F k wv i keep w w'):=by
 have HC:=Lib.hid (crash_any keep (h.peers i hi).base)
 have HF:=Lib.hid fun w' hp hA=>fell_of (w':=w') keep h hi hp hA
 have c0:=hbk.cell 0 _ rfl
 obtain ⟨q,hq⟩:∃ q,(F i).q=q:=⟨_,rfl⟩
 rw [show (#[] ++ #[Value.pointer (some ⟨(F i).q,0,none⟩)] ++ #[Value.pointer (some ⟨bk,0,none⟩)]:Array Value)=#[.pointer (some ⟨(F i).q,0,none⟩),.pointer (some ⟨bk,0,none⟩)] from rfl]
 rw [hq] at HC ⊢
 clear h hbk
 go_enter Tryz.func43,Tryz.ntmps43
 go_wp2_with (go_at_call 44;refine HC.out.mono ?_;rintro e w1 ⟨rfl,hp1,hA1⟩;have HP:=Lib.hid (And.intro hp1 hA1);clear hp1 hA1)
 go_ret
 rw [← hq] at HP
 exact ⟨0,rfl,rfl,HF.out _ HP.out.1 HP.out.2⟩
theorem crash_up (keep:Int) (h:CluAt B w0 w c R C F k wv) (hi:i < C.n) (hu:(C.p i).up=true) :
  Calls Tryz.prog 23 #[cptr c,.int .i64 (i:Int),.int .i64 keep] w fun e w'=>e=.returned (.int .i64 0)∧Fell B w0 c R C F k wv i keep w w':=by
 obtain ⟨X,bx,hX,hbx,hbX,kb⟩:=box_blk w [.int .i64 keep] 3
 have hv:Vb X bx [.int .i64 keep] 3:=kb
 have HON:=Lib.hid (on_up (w:=X) 43 #[.pointer (some ⟨bx,0,none⟩)] (fun z w1 w2=>z=0∧Fell B w0 c R C F k wv i keep w1 w2) (h.later hbX) hi hu (fun _ _=>rfl) (fun w1 hb1=>crash1_any keep ((h.later hbX).later hb1) hi bx ((hb1.block _ hv.lt).trans hv)))
 have HX:=Lib.hid hX
 have HBX:=Lib.hid hbx
 have HB:=Lib.hid hbX
 clear h hi hu hX hbx hbX kb hv
 unfold cptr at HON ⊢
 go_enter Tryz.func23,Tryz.ntmps23
 go_upto_region 1 with fail
 rw [HX.out,HBX.out]
 go_wp2_with (go_at_call 32;refine HON.out.mono ?_;rintro e w2 ⟨z,w1,rfl,hb1,rfl,hT⟩;have HTT:=Lib.hid (And.intro hb1 hT);clear hb1 hT)
 go_ret
 exact ⟨rfl,HTT.out.2.from_ (HB.out.trans (HTT.out.1.mono HB.out.size))⟩
theorem crash_no (keep:Int) {i:Int} {z:Int} (h:CluAt B w0 w c R C F k wv) (hz:∀ fv w,CluAt B w0 w c R C F k wv→Calls Tryz.prog 32 #[cptr c,.int .i64 i,fv] w fun e w'=>e=.returned (.int .i64 z)∧Below w.heap.size w w') :
  Calls Tryz.prog 23 #[cptr c,.int .i64 i,.int .i64 keep] w fun e w'=>e=.returned (.int .i64 z)∧Below w.heap.size w w':=by
 obtain ⟨X,bx,hX,hbx,hbX,kb⟩:=box_blk w [.int .i64 keep] 3
 have HON:=Lib.hid fun fv=>hz fv X (h.later hbX)
 have HX:=Lib.hid hX
 have HBX:=Lib.hid hbx
 have HB:=Lib.hid hbX
 clear h hz hX hbx hbX kb
 unfold cptr at HON ⊢
 go_enter Tryz.func23,Tryz.ntmps23
 go_upto_region 1 with fail
 rw [HX.out,HBX.out]
 go_wp2_with (go_at_call 32;refine (HON.out _).mono ?_;rintro e w2 ⟨rfl,hb1⟩)
 go_ret
 exact ⟨rfl,HB.out.trans (hb1.mono HB.out.size)⟩
theorem fused_of (n keep:Int) {w':World} (h:CluAt B w0 w c R C F k wv) (hi:i < C.n) (hd:Ldk w0 w' (F i).p (F i).b { (F i).d with left:=(max n 0).toNat,keep:=keep }) (hA:Apart [(F i).p] w w'):Fused B w0 c R C F k wv i n keep w w':=by
 have pi:=h.peers i hi
 have hq:(F i).q ∉ [(F i).p]:=fun hx=>ne_of_type pi.blk pi.disk.dk.blk (by decide) (by simpa using hx)
 have hE:∀ x ∈ [(F i).p],NotEnt w x:=fun x hx=>by
  obtain rfl:x=(F i).p:=by simpa using hx
  exact notEnt_of pi.disk.dk.blk (by decide)
 have hp:PeerOk B w0 w' (C.p i) { F i with d:={ (F i).d with left:=(max n 0).toNat,keep:=keep } }:=by
  refine ⟨pi.blk.apart hA hq,pi.ents.apart hA hE,pi.ok,hd,pi.hq,⟨pi.kept.wide,pi.kept.frm,pi.kept.two,pi.kept.flat,pi.kept.many,pi.kept.cap⟩,pi.sv,fun hu=>?_⟩
  obtain ⟨u1,u2,u3,u4,u5,u6⟩:=pi.up hu
  exact ⟨u1,u2,Vb.apart u3 hA (fun hx=>ne_of_type u3 pi.disk.dk.blk (by decide) (by simpa using hx)),Vb.apart u4 hA (fun hx=>ne_of_type u4 pi.disk.dk.blk (by decide) (by simpa using hx)),u5,u6⟩
 have h1:=h.peer hi hA (fun y hy=>.inr (.inl (by simpa using hy))) hp ⟨rfl,rfl,rfl⟩ (fun hu=>.inl ⟨hu,rfl,rfl⟩)
 have e:({ C with p:=cl.upd C.p i (C.p i) }:cl.Clu)=C:=by
  have e1:cl.upd C.p i (C.p i)=C.p:=by
   funext j
   by_cases hj:j=i
   ·subst hj;rw [cl.upd_same]
   ·rw [cl.upd_other _ _ hj]
  rw [e1]
 rw [e] at h1
 exact ⟨h1,Stay.of_apart hA fun y hy=>by
  obtain rfl:y=(F i).p:=by simpa using hy
  exact .inl ⟨_,_,pi.disk.dk.blk,.inr (.inl rfl)⟩⟩
theorem fuse1_any (n keep:Int) (h:CluAt B w0 w c R C F k wv) (hi:i < C.n) (hn:n≤9223372036854775807) (bn bk:Nat) (hbn:Vb w bn [.int .i64 n] 3) (hbk:Vb w bk [.int .i64 keep] 3) :
  Calls Tryz.prog 38 (#[] ++ #[.pointer (some ⟨(F i).q,0,none⟩)] ++ #[.pointer (some ⟨bn,0,none⟩),.pointer (some ⟨bk,0,none⟩)]) w fun e w'=>∃ z,e=.returned (.int .i64 z)∧(z=0∧Fused B w0 c R C F k wv i n keep w w'):=by
 have HC:=Lib.hid fun W (hb:Below w.heap.size w W)=>ld_fuse n keep ((h.later hb).peers i hi).disk hn
 have HF:=Lib.hid fun W w' (hb:Below w.heap.size w W) hp hA=>(fused_of (w:=W) (w':=w') n keep (h.later hb) hi hp hA).from_ hb
 have MK:Hid (∀ w',Below w.heap.size w w'→w'.cell? ⟨(F i).q,30,none⟩=some (dptr (F i).p)∧w'.cell? ⟨bn,0,none⟩=some (.int .i64 n)∧w'.cell? ⟨bk,0,none⟩=some (.int .i64 keep)):=Lib.hid fun w' hb=>⟨(h.later hb).dsk hi,cell_later hb (hbn.cell 0 _ rfl),cell_later hb (hbk.cell 0 _ rfl)⟩
 have MK2:Hid (∀ W w',Below w.heap.size w W→Apart [(F i).p] W w'→w'.cell? ⟨(F i).q,30,none⟩=some (dptr (F i).p)∧w'.cell? ⟨bn,0,none⟩=some (.int .i64 n)∧w'.cell? ⟨bk,0,none⟩=some (.int .i64 keep)):=Lib.hid fun W w' hb hA=>by
  obtain ⟨k1,k2,k3⟩:=MK.out W hb
  have pi:=(h.later hb).peers i hi
  exact ⟨cell_apart k1 hA (fun hx=>ne_of_type pi.blk pi.disk.dk.blk (by decide) (by simpa using hx)),cell_apart k2 hA (fun hx=>ne_of_type ((hb.block _ hbn.lt).trans hbn) pi.disk.dk.blk (by decide) (by simpa using hx)),cell_apart k3 hA (fun hx=>ne_of_type ((hb.block _ hbk.lt).trans hbk) pi.disk.dk.blk (by decide) (by simpa using hx))⟩
 obtain ⟨q,hq⟩:∃ q,(F i).q=q:=⟨_,rfl⟩
 rw [show (#[] ++ #[Value.pointer (some ⟨(F i).q,0,none⟩)] ++ #[Value.pointer (some ⟨bn,0,none⟩),.pointer (some ⟨bk,0,none⟩)]:Array Value)=#[.pointer (some ⟨(F i).q,0,none⟩),.pointer (some ⟨bn,0,none⟩),.pointer (some ⟨bk,0,none⟩)] from rfl]
 rw [hq] at MK MK2 ⊢
 unfold dptr at MK MK2
 have hW:Below w.heap.size w w.drew:=below_drewN (Below.refl _ w) 1
 clear h hbk hbn hq
 go_enter Tryz.func38,Tryz.ntmps38
 go_upto_region 1 with fail
 go_region_held3 (fun w'=>w'.cell? ⟨q,30,none⟩=some (.pointer (some ⟨(F i).p,0,none⟩))∧w'.cell? ⟨bn,0,none⟩=some (.int .i64 n)∧w'.cell? ⟨bk,0,none⟩=some (.int .i64 keep)) (first | exact MK.out _ hW | exact MK2.out _ _ hW hA2) (first | (go_at_call 39;refine (HC.out _ hW).mono ?_;rintro e w2 ⟨rfl,hd2,hA2⟩))
 have HFF:=Lib.hid (HF.out _ _ hW hd2 hA2)
 clear hd2 hA2 hW
 go_wp2_with fail
 go_ret
 exact ⟨0,rfl,rfl,HFF.out⟩
theorem fuse_up (n keep:Int) (h:CluAt B w0 w c R C F k wv) (hi:i < C.n) (hu:(C.p i).up=true) (hn:n≤9223372036854775807) :
  Calls Tryz.prog 21 #[cptr c,.int .i64 (i:Int),.int .i64 n,.int .i64 keep] w fun e w'=>e=.returned (.int .i64 0)∧Fused B w0 c R C F k wv i n keep w w':=by
 obtain ⟨X0,bn,hX0,hbn,hb0,kn⟩:=box_blk w [.int .i64 n] 3
 obtain ⟨X,bk,hX,hbk,hb1,kk⟩:=box_blk X0 [.int .i64 keep] 3
 obtain rfl:bk=bn + 1:=by rw [← hbk,← hX0,← hbn];simp
 have hbX:=hb0.trans (hb1.mono hb0.size)
 have hvn:Vb X bn [.int .i64 n] 3:=kn.below hb1
 have hvk:Vb X (bn + 1) [.int .i64 keep] 3:=kk
 have HON:=Lib.hid (on_up (w:=X) 38 #[.pointer (some ⟨bn,0,none⟩),.pointer (some ⟨bn + 1,0,none⟩)] (fun z w1 w2=>z=0∧Fused B w0 c R C F k wv i n keep w1 w2) (h.later hbX) hi hu (fun _ _=>rfl) (fun w1 hb1=>fuse1_any n keep ((h.later hbX).later hb1) hi hn bn (bn + 1) ((hb1.block _ hvn.lt).trans hvn) ((hb1.block _ hvk.lt).trans hvk)))
 have HX0:=Lib.hid hX0
 have HX:=Lib.hid hX
 have HBN:=Lib.hid hbn
 have HB:=Lib.hid hbX
 clear h hi hu hX hX0 hbn hb0 hb1 hbX kn kk hvn hvk hbk
 unfold cptr at HON ⊢
 go_enter Tryz.func21,Tryz.ntmps21
 go_upto_region 1 with fail
 rw [HX0.out,HBN.out,HX.out]
 go_wp2_with (go_at_call 32;refine HON.out.mono ?_;rintro e w2 ⟨z,w1,rfl,hb1,rfl,hT⟩;have HTT:=Lib.hid (And.intro hb1 hT);clear hb1 hT)
 go_ret
 exact ⟨rfl,HTT.out.2.from_ (HB.out.trans (HTT.out.1.mono HB.out.size))⟩
theorem fuse_no (n keep:Int) {i:Int} {z:Int} (h:CluAt B w0 w c R C F k wv) (hz:∀ fv w,CluAt B w0 w c R C F k wv→Calls Tryz.prog 32 #[cptr c,.int .i64 i,fv] w fun e w'=>e=.returned (.int .i64 z)∧Below w.heap.size w w') :
  Calls Tryz.prog 21 #[cptr c,.int .i64 i,.int .i64 n,.int .i64 keep] w fun e w'=>e=.returned (.int .i64 z)∧Below w.heap.size w w':=by
 obtain ⟨X0,bn,hX0,hbn,hb0,kn⟩:=box_blk w [.int .i64 n] 3
 obtain ⟨X,bk,hX,hbk,hb1,kk⟩:=box_blk X0 [.int .i64 keep] 3
 obtain rfl:bk=bn + 1:=by rw [← hbk,← hX0,← hbn];simp
 have hbX:=hb0.trans (hb1.mono hb0.size)
 have HON:=Lib.hid fun fv=>hz fv X (h.later hbX)
 have HX0:=Lib.hid hX0
 have HX:=Lib.hid hX
 have HBN:=Lib.hid hbn
 have HB:=Lib.hid hbX
 clear h hz hX hX0 hbn hb0 hb1 hbX kn kk hbk
 unfold cptr at HON ⊢
 go_enter Tryz.func21,Tryz.ntmps21
 go_upto_region 1 with fail
 rw [HX0.out,HBN.out,HX.out]
 go_wp2_with (go_at_call 32;refine (HON.out _).mono ?_;rintro e w2 ⟨rfl,hb1⟩)
 go_ret
 exact ⟨rfl,HB.out.trans (hb1.mono HB.out.size)⟩
end
end Go.Proofs.YtmcibggjolckoaaGreatDoor
namespace Go.Proofs.YtmcibggjolckoaaGreatDoor
open Go Go.RowKit Go.Deep
set_option maxRecDepth 100000
theorem node_laid_after {w1:World} (x:rf.Node) (ev:Value) :
  Blk ((w1.alloc (.cells #[.int .i64 0,.int .i64 0,.int .u64 0,.int .i64 0,.slice none 0 0,.int .i64 0,.int .i64 0,.int .u64 0,.int .i64 0,.bool false,.bool false,.bool false,.bool false,.bool false,.bool false,.bool false,.int .u64 0,.int .u64 0,.int .u64 0,.int .u64 0,.int .u64 0,.int .u64 0,.int .u64 0,.int .u64 0,.int .u64 0,.int .u64 0,.int .u64 0,.int .u64 0,.int .u64 0,.int .u64 0] 50)).setRow w1.heap.size (ndC x ev).toArray) w1.heap.size (ndC x ev) 50∧Below w1.heap.size w1 ((w1.alloc (.cells #[.int .i64 0,.int .i64 0,.int .u64 0,.int .i64 0,.slice none 0 0,.int .i64 0,.int .i64 0,.int .u64 0,.int .i64 0,.bool false,.bool false,.bool false,.bool false,.bool false,.bool false,.bool false,.int .u64 0,.int .u64 0,.int .u64 0,.int .u64 0,.int .u64 0,.int .u64 0,.int .u64 0,.int .u64 0,.int .u64 0,.int .u64 0,.int .u64 0,.int .u64 0,.int .u64 0,.int .u64 0] 50)).setRow w1.heap.size (ndC x ev).toArray):=by
 have hb:Blk (w1.alloc (.cells #[.int .i64 0,.int .i64 0,.int .u64 0,.int .i64 0,.slice none 0 0,.int .i64 0,.int .i64 0,.int .u64 0,.int .i64 0,.bool false,.bool false,.bool false,.bool false,.bool false,.bool false,.bool false,.int .u64 0,.int .u64 0,.int .u64 0,.int .u64 0,.int .u64 0,.int .u64 0,.int .u64 0,.int .u64 0,.int .u64 0,.int .u64 0,.int .u64 0,.int .u64 0,.int .u64 0,.int .u64 0] 50)) w1.heap.size (ndC zeroN nilV) 50:=Blk.new w1 _ _
 exact ⟨hb.row _,((Below.refl _ w1).alloc (Nat.le_refl _) _).trans (below_setRow _ _ _ (Nat.le_refl _))⟩
theorem node_laid_before {w1:World} {base bn:Nat} (hZ:Blk w1 bn (ndC zeroN nilV) 50) (hb:base≤bn) (x:rf.Node) (ev:Value) :
  Blk (w1.setRow bn (ndC x ev).toArray) bn (ndC x ev) 50∧Below base w1 (w1.setRow bn (ndC x ev).toArray):=⟨hZ.row _,below_setRow _ _ _ hb⟩
theorem has_raw {w:World} {c n k:Nat} {RR:Option Addr} (i:Nat) (c0:w.cell? ⟨c,0,none⟩=some (.slice RR n k)) (hi:i < n):Calls Tryz.prog 37 #[cptr c,.int .i64 (i:Int)] w fun e w'=>e=.returned (.bool true)∧w=w':=by
 unfold cptr
 have e1:decide (0≤(i:Int))=true:=decide_eq_true (by omega)
 have e2:decide ((i:Int) < (n:Int))=true:=decide_eq_true (by omega)
 have HI:=Lib.hid hi
 clear hi
 go_enter Tryz.func37,Tryz.ntmps37
 go_wp2
 go_ret
 refine ⟨?_,rfl⟩
 rw [← decide_eq_true HI.out]
 rfl
set_option maxHeartbeats 8000000 in
theorem start_core {w0 w:World} {c R n k i q p b:Nat} {wv:Value} {us:List Value} {x0:rf.Node} {f0:Fp} {d d2:vd.Disk} {ts:List (List UInt8)} {T:Nat} {V:Int} {es:List rl.Ent}
  (hcb:Vb w c [.slice (some ⟨R,0,none⟩) n k,wv] 63) (hRb:Vb w R us 64) (hus:us[i]?=some (.pointer (some ⟨q,0,none⟩))) (hi:i < n) (hn7:n≤7)
  (hblk:Vb w q (peerC x0 f0 false) 67) (hp0:f0.p=p) (hq0:w0.heap.size≤q) (ok0:NOk x0) (hdisk:Ldk w0 w p b d) (ht:TabAt w0)
  (hopen:wl.open_ { d with off:=false,left:=0 } RAFT=(d2,ts,0)) (hfrm:rl.from_ ts=((T,V,es),0)) (hl:ts.length≤10000) (hall:∀ t ∈ ts,t.length≤maxLen) :
  Calls Tryz.prog 22 #[cptr c,.int .i64 (i:Int)] w fun e w'=>e=.returned (.int .i64 0)∧∃ s g A k',Vb w' q (peerC (rf.new (i:Int) (n:Int) T V es) ⟨q,p,b,s,g,A,k',.pointer (some ⟨s,0,none⟩),ts,d2⟩ true) 67∧Ldk w0 w' p b d2∧EntsB 0 w' (.slice A es.length k') es∧kSt w' s g∧Lg w' g p ⟨RAFT,ts.length,false⟩∧w.heap.size≤s∧w.heap.size≤g∧Apart [q,p,b] w w':=by
 subst hp0
 have hlx:=ndC_len ok0 (f0.ev x0)
 have c0:=hcb.cell 0 _ rfl
 have cR:=hRb.cell i _ hus
 have c30:w.cell? ⟨q,30,none⟩=some (dptr f0.p):=hblk.cell 30 _ (by unfold peerC;rw [List.getElem?_append_right (by omega),hlx];rfl)
 have c32:w.cell? ⟨q,32,none⟩=some (.bool false):=hblk.cell 32 _ (by unfold peerC;rw [List.getElem?_append_right (by omega),hlx];rfl)
 have hqp:q ≠ f0.p:=ne_of_type hblk hdisk.dk.blk (by decide)
 have hqb:q ≠ b:=ne_map hblk hdisk.dk.map
 have hcp:c ≠ f0.p:=ne_of_type hcb hdisk.dk.blk (by decide)
 have hcq:c ≠ q:=ne_of_type hcb hblk (by decide)
 have hcb2:c ≠ b:=ne_map hcb hdisk.dk.map
 have HH:=Lib.hid (has_raw (w:=w) i c0 hi)
 have HON:=Lib.hid (ld_on hdisk)
 have HOP:Hid (∀ w1,Ldk w0 w1 f0.p b { d with off:=false,left:=0 }→_):=Lib.hid fun w1 h1=>raft_open (w:=w1) h1 ht hopen hfrm hl hall
 obtain ⟨x,hx⟩:∃ x,rf.new (i:Int) (n:Int) T V es=x:=⟨_,rfl⟩
 have okx:NOk x:=by rw [← hx];exact ⟨rfl,rfl,rfl,by intro y hy;simp [rf.new] at hy;omega,by intro y hy;simp [rf.new] at hy;omega⟩
 have HNEW:Hid (∀ (A:Option Addr) (k':Nat) (W:World),Calls Tryz.prog 42 #[.int .i64 (i:Int),.int .i64 (n:Int),stV T V (.slice A es.length k')] W fun e w'=>e=.returned (.tuple #[ndV x (.slice A es.length k'),.int .i64 0])∧Below W.heap.size W w'):=Lib.hid fun A k' W=>by
  rw [← hx]
  exact new_any (i:Int) (n:Int) T V A k' es.length es W (by omega) (by omega) (by omega) (by omega)
 have HXL:Hid (x.log=es):=Lib.hid (by rw [← hx];rfl)
 have HOK:=Lib.hid okx
 have HBLK:=Lib.hid hblk
 have HCB:=Lib.hid hcb
 have HDK:=Lib.hid hdisk
 have HLX:=Lib.hid hlx
 have HQ0:Hid (∀ y ∈ [q],w0.heap.size≤y):=Lib.hid fun y hy=>by
  obtain rfl:y=q:=by simpa using hy
  exact hq0
 have HNE:=Lib.hid (And.intro hqp (And.intro hqb (And.intro hcp (And.intro hcq hcb2))))
 have hin:(i:Int) < (n:Int):=by omega
 rw [hx]
 unfold cptr at HH ⊢
 unfold dptr at c30
 clear hq0 hblk hcb hRb hus hi hn7 ok0 hdisk hopen hfrm hl hall hx okx hlx hqp hqb hcp hcq hcb2
 go_enter Tryz.func22,Tryz.ntmps22
 go_upto_region 6 with (go_at_call 37;refine HH.out.mono ?_;rintro e w1 ⟨rfl,rfl⟩)
 go_upto_region 7 with (go_at_call 40;refine HON.out.mono ?_;rintro e w1 ⟨rfl,hd1,hA1⟩;have HD1:=Lib.hid hd1;have HA1:=Lib.hid hA1;clear hd1 hA1)
 clear c32
 have c30:=cell_apart c30 HA1.out (fun hx=>HNE.out.1 (by simpa using hx))
 go_upto_region 8 with (go_at_call 41;refine (HOP.out _ HD1.out).mono ?_;rintro e w2 ⟨s,g,u,rfl,hd2,hA2,hg2,hs2,hk2,hl2,hE2⟩;obtain ⟨A,k',rfl⟩:=hE2.form;have HP2:=Lib.hid (And.intro hd2 (And.intro hA2 (And.intro hg2 (And.intro hs2 (And.intro hk2 (And.intro hl2 hE2))))));clear hd2 hA2 hg2 hs2 hk2 hl2 hE2;unfold stV)
 obtain ⟨ev,hev⟩:∃ v,Value.slice A es.length k'=v:=⟨_,rfl⟩
 rw [hev]
 have HEV:=Lib.hid hev
 clear hev
 have hs3:Vb (w2.alloc (.cells #[.int .u64 (T:Int),.int .i64 V,ev] 46)) w2.heap.size [.int .u64 (T:Int),.int .i64 V,ev] 46:=Vb.new w2 _ _
 have hb3:Below w2.heap.size w2 (w2.alloc (.cells #[.int .u64 (T:Int),.int .i64 V,ev] 46)):=(Below.refl _ w2).alloc (Nat.le_refl _) _
 obtain ⟨W3,hW3⟩:∃ W,w2.alloc (.cells #[.int .u64 (T:Int),.int .i64 V,ev] 46)=W:=⟨_,rfl⟩
 rw [hW3] at hs3 hb3 ⊢
 obtain ⟨bs,hbs⟩:∃ b,w2.heap.size=b:=⟨_,rfl⟩
 rw [hbs] at hs3 ⊢
 have hA12:Apart [f0.p,b] w w2:=(HA1.out.mono (fun y hy=>by simp at hy ⊢;exact .inl hy)).trans HP2.out.2.1
 have hA13:Apart [f0.p,b] w W3:=hA12.trans (Apart.of_below hb3 _)
 have hblk3:Vb W3 q (peerC x0 f0 false) 67:=HBLK.out.apart hA13 (by have:=HNE.out;simp;omega)
 have hcb3:Vb W3 c [.slice (some ⟨R,0,none⟩) n k,wv] 63:=HCB.out.apart hA13 (by have:=HNE.out;simp;omega)
 have hone:ev.oneCell'=true:=by rw [← HEV.out];rfl
 have MK:Hid (∀ w',Below W3.heap.size W3 w'→(w'.cell? ⟨c,0,none⟩=some (.slice (some ⟨R,0,none⟩) n k)∧w'.cell? ⟨bs,0,none⟩=some (.int .u64 (T:Int))∧w'.cell? ⟨bs,1,none⟩=some (.int .i64 V)∧w'.cell? ⟨bs,2,none⟩=some ev)):=Lib.hid fun w' hb=>⟨cell_later hb (hcb3.cell 0 _ rfl),cell_later hb (hs3.cell 0 _ rfl),cell_later hb (hs3.cell 1 _ rfl),cell_later hb (hs3.cell 2 _ rfl)⟩
 have hl30:(ndC x ev).length=30:=ndC_len HOK.out ev
 have hl33:(peerC x0 f0 false).length=33:=by unfold peerC;rw [List.length_append,HLX.out];rfl
 have hfin:∀ W,Below W3.heap.size W3 W→W.there q 0 (ndC x ev).toArray.size∧(W.setCells q 0 (ndC x ev)).cell? ⟨q,31,none⟩=some f0.sv∧(W.setCells q 0 (ndC x ev)).cell? ⟨q,32,none⟩=some (.bool false)∧(W.setCells q 0 (ndC x ev)).frozen? ⟨q,31,none⟩=false∧(W.setCells q 0 (ndC x ev)).frozen? ⟨q,32,none⟩=false ∧
   ∃ s' g' A' k'',Vb (((W.setCells q 0 (ndC x ev)).setCell ⟨q,31,none⟩ (.pointer (some ⟨s,0,none⟩))).setCell ⟨q,32,none⟩ (.bool true)) q (peerC x ⟨q,f0.p,b,s',g',A',k'',.pointer (some ⟨s',0,none⟩),ts,d2⟩ true) 67∧Ldk w0 (((W.setCells q 0 (ndC x ev)).setCell ⟨q,31,none⟩ (.pointer (some ⟨s,0,none⟩))).setCell ⟨q,32,none⟩ (.bool true)) f0.p b d2∧EntsB 0 (((W.setCells q 0 (ndC x ev)).setCell ⟨q,31,none⟩ (.pointer (some ⟨s,0,none⟩))).setCell ⟨q,32,none⟩ (.bool true)) (.slice A' es.length k'') es∧kSt (((W.setCells q 0 (ndC x ev)).setCell ⟨q,31,none⟩ (.pointer (some ⟨s,0,none⟩))).setCell ⟨q,32,none⟩ (.bool true)) s' g'∧Lg (((W.setCells q 0 (ndC x ev)).setCell ⟨q,31,none⟩ (.pointer (some ⟨s,0,none⟩))).setCell ⟨q,32,none⟩ (.bool true)) g' f0.p ⟨RAFT,ts.length,false⟩∧w.heap.size≤s'∧w.heap.size≤g'∧Apart [q,f0.p,b] w (((W.setCells q 0 (ndC x ev)).setCell ⟨q,31,none⟩ (.pointer (some ⟨s,0,none⟩))).setCell ⟨q,32,none⟩ (.bool true)):=by
  intro W hb
  have hv:=(hb.block _ hblk3.lt).trans hblk3
  have hv:Vb W q (peerC x0 f0 false) 67:=hv
  have h1:=Vb.cellsAt (ndC x ev) 0 _ _ hv (by rw [hl33,hl30];decide)
  have e1:(peerC x0 f0 false).take 0 ++ ndC x ev ++ (peerC x0 f0 false).drop (0 + (ndC x ev).length)=ndC x ev ++ [dptr f0.p,f0.sv,.bool false]:=by
   have hlx:=HLX.out
   rw [hl30,List.take_zero,List.nil_append,Nat.zero_add]
   unfold peerC
   rw [List.drop_append_of_le_length (by omega),List.drop_of_length_le (by omega),List.nil_append]
  rw [e1] at h1
  have h2:=(h1.set 31 (.pointer (some ⟨s,0,none⟩))).set 32 (.bool true)
  have e2:((ndC x ev ++ [dptr f0.p,f0.sv,.bool false]).set 31 (.pointer (some ⟨s,0,none⟩))).set 32 (.bool true)=peerC x ⟨q,f0.p,b,s,g,A,k',.pointer (some ⟨s,0,none⟩),ts,d2⟩ true:=by
   rw [List.set_append_right _ _ (by omega),hl30,List.set_append_right _ _ (by omega),hl30]
   unfold peerC Fp.ev
   dsimp only
   rw [HXL.out,HEV.out]
   rfl
  rw [e2] at h2
  have hAq:Apart [q] W (((W.setCells q 0 (ndC x ev)).setCell ⟨q,31,none⟩ (.pointer (some ⟨s,0,none⟩))).setCell ⟨q,32,none⟩ (.bool true)):=((apart_cells q (ndC x ev) 0 W).trans (Apart.setCell _ q 31 _)).trans (Apart.setCell _ q 32 _)
  obtain ⟨d2h,hA2,hg2,hs2,hk2,hl2,hE2⟩:=HP2.out
  have hbW:=hb3.trans (hb.mono hb3.size)
  have hdW:=d2h.later hbW
  have hkW:Vb W s _ _:=(hbW.block _ (Vb.lt hk2)).trans hk2
  have hlW:Vb W g _ _:=(hbW.block _ (Vb.lt hl2)).trans hl2
  have hqn:∀ y ∈ [q],NotEnt W y:=fun y hy=>by
   obtain rfl:y=q:=by simpa using hy
   exact notEnt_of hv (by decide)
  have hAll:Apart [q,f0.p,b] w (((W.setCells q 0 (ndC x ev)).setCell ⟨q,31,none⟩ (.pointer (some ⟨s,0,none⟩))).setCell ⟨q,32,none⟩ (.bool true)):=
   ((hA13.trans (Apart.of_below hb _)).mono (fun y hy=>List.mem_cons_of_mem _ hy)).trans (hAq.mono (fun y hy=>by simp at hy ⊢;exact .inl hy))
  refine ⟨hv.there (by rw [hl33,List.size_toArray,hl30];decide),h1.cell 31 _ (by rw [List.getElem?_append_right (by omega),hl30];rfl),h1.cell 32 _ (by rw [List.getElem?_append_right (by omega),hl30];rfl),Blk.free h1 31,Blk.free h1 32,s,g,A,k',h2,?_,(hE2.later hbW).apart hAq hqn,Vb.apart hkW hAq (fun hx=>ne_of_type hkW hv (by decide) (by simpa using hx)),Vb.apart hlW hAq (fun hx=>ne_of_type hlW hv (by decide) (by simpa using hx)),Nat.le_trans HA1.out.size hs2,Nat.le_trans HA1.out.size hg2,hAll⟩
  exact hdW.next hAq HQ0.out (hdW.dk.apart hAq (by simp;exact fun e=>HNE.out.1 e.symm) (by simp;exact fun e=>HNE.out.2.1 e.symm)) hdW.ok rfl
 have HFIN:=Lib.hid hfin
 have HS6:Hid ((ndC x ev).toArray.size=30):=Lib.hid (by rw [List.size_toArray,hl30])
 have HOE:=Lib.hid hone
 have HN:Hid (∀ W:World,Calls Tryz.prog 42 #[.int .i64 (i:Int),.int .i64 (n:Int),.agg #[.int .u64 (T:Int),.int .i64 V,ev]] W fun e w'=>e=.returned (.tuple #[.agg (ndC x ev).toArray,.int .i64 0])∧Below W.heap.size W w'):=Lib.hid fun W=>by
  have h:=HNEW.out A k' W
  rw [HEV.out] at h
  exact h
 have hW:Below W3.heap.size W3 W3.drew:=below_drewN (Below.refl _ W3) 1
 clear hs3 hb3 hW3 hbs hA12 hA13 hblk3 hcb3 hone hl30 hl33 hfin c0 cR c30 HP2 HD1 HA1 HNEW HH HON HOP HBLK HCB HDK HEV HXL HLX
 go_upto_region 10 with fail
 refine wp_region_held_drew (S:=(fun w'=>w'.cell? ⟨c,0,none⟩=some (.slice (some ⟨R,0,none⟩) n k)∧w'.cell? ⟨bs,0,none⟩=some (.int .u64 (T:Int))∧w'.cell? ⟨bs,1,none⟩=some (.int .i64 V)∧w'.cell? ⟨bs,2,none⟩=some ev)) (by kernel_rfl) (MK.out _ hW) (fun hHeld=>?_)
 (refine wpAnyH_take (i:=0) (v:=?_) (opsAt rfl) (by kernel_rfl) (by kernel_rfl) (by kernel_rfl) (fun _ _ _ h=>h) (Or.inl ⟨by rfl,?_⟩) (by assumption) ?_;rotate_left;focus (intro w hSw;(try dsimp only at hSw);go_simp;(try with_reducible rfl);done))
 (try simp only [Act.put,List.setIfInBounds_toArray,List.set_cons_zero,List.set_cons_succ])
 (refine wpAnyH_take (i:=1) (v:=?_) (opsAt rfl) (by kernel_rfl) (by kernel_rfl) (by kernel_rfl) (fun _ _ _ h=>h) (Or.inl ⟨by rfl,?_⟩) (by assumption) ?_;rotate_left;focus (intro w hSw;(try dsimp only at hSw);go_simp;(try with_reducible rfl);done))
 (try simp only [Act.put,List.setIfInBounds_toArray,List.set_cons_zero,List.set_cons_succ])
 (refine wpAnyH_take (i:=2) (v:=?_) (opsAt rfl) (by kernel_rfl) (by kernel_rfl) (by kernel_rfl) (fun _ _ _ h=>h) (Or.inl ⟨by rfl,?_⟩) (by assumption) ?_;rotate_left;focus (intro w hSw;(try dsimp only at hSw);go_simp;(try with_reducible rfl);done))
 (try simp only [Act.put,List.setIfInBounds_toArray,List.set_cons_zero,List.set_cons_succ])
 (refine wpAnyH_take (i:=3) (v:=?_) (opsAt rfl) (by kernel_rfl) (by kernel_rfl) (by kernel_rfl) (fun _ _ _ h=>h) (Or.inl ⟨by rfl,?_⟩) (by assumption) ?_;rotate_left;focus (intro w hSw;(try dsimp only at hSw);go_simp;(try with_reducible rfl);done))
 (try simp only [Act.put,List.setIfInBounds_toArray,List.set_cons_zero,List.set_cons_succ])
 (refine wpAnyH_take (i:=4) (v:=?_) (opsAt rfl) (by kernel_rfl) (by kernel_rfl) (by kernel_rfl) (fun _ _ _ h=>h) (Or.inl ⟨by rfl,?_⟩) (by assumption) ?_;rotate_left;focus (intro w hSw;(try dsimp only at hSw);go_simp;(try with_reducible rfl);done))
 (try simp only [Act.put,List.setIfInBounds_toArray,List.set_cons_zero,List.set_cons_succ])
 (refine wpAnyH_take (i:=5) (v:=?_) (opsAt rfl) (by kernel_rfl) (by kernel_rfl) (by kernel_rfl) (fun _ _ _ h=>h) (Or.inl ⟨by rfl,?_⟩) (by assumption) ?_;rotate_left;focus (intro w hSw;(try dsimp only at hSw);go_simp;(try with_reducible rfl);done))
 (try simp only [Act.put,List.setIfInBounds_toArray,List.set_cons_zero,List.set_cons_succ])
 (refine wpAnyH_take (i:=6) (v:=?_) (opsAt rfl) (by kernel_rfl) (by kernel_rfl) (by kernel_rfl) (fun _ _ _ h=>h) (Or.inl ⟨by rfl,?_⟩) (by assumption) ?_;rotate_left;focus (intro w hSw;(try dsimp only at hSw);go_simp;(try with_reducible rfl);done))
 (try simp only [Act.put,List.setIfInBounds_toArray,List.set_cons_zero,List.set_cons_succ])
 refine wpAnyH_ready (rs:=[7,11]) (by kernel_rfl) (by simp) ?_
 refine (AllReadyH.cons (opsAt rfl) (fun K hK=>?_) (AllReadyH.cons (opsAt rfl) (fun K hK=>?_) AllReadyH.nil))
 ·rw [if_pos (by rfl)]
  go_simp
  go_at_call 42
  refine (HN.out _).mono ?_
  rintro e w1 ⟨rfl,hb1⟩
  have HLD:=Lib.hid (node_laid_after (w1:=w1) x ev)
  have HZ:Hid (Blk (w1.alloc (.cells #[.int .i64 0,.int .i64 0,.int .u64 0,.int .i64 0,.slice none 0 0,.int .i64 0,.int .i64 0,.int .u64 0,.int .i64 0,.bool false,.bool false,.bool false,.bool false,.bool false,.bool false,.bool false,.int .u64 0,.int .u64 0,.int .u64 0,.int .u64 0,.int .u64 0,.int .u64 0,.int .u64 0,.int .u64 0,.int .u64 0,.int .u64 0,.int .u64 0,.int .u64 0,.int .u64 0,.int .u64 0] 50)) w1.heap.size (ndC zeroN nilV) 50):=Lib.hid (Blk.new w1 _ _)
  have hW:=hW.trans (hb1.mono hW.size)
  have hWF:=hW.trans (HLD.out.2.mono hW.size)
  dsimp only
  refine hK.out _ _ (MK.out _ hW) (fun hHeld=>?_)
  clear hK K
  (try simp only [Act.put,List.setIfInBounds_toArray,List.set_cons_zero,List.set_cons_succ])
  (refine wpAnyH_take (i:=8) (v:=?_) (opsAt rfl) (by kernel_rfl) (by kernel_rfl) (by kernel_rfl) (fun _ _ _ h=>h) (Or.inl ⟨by rfl,?_⟩) (by assumption) ?_;rotate_left;focus (intro w hSw;(try dsimp only at hSw);go_simp;(try with_reducible rfl);done))
  (try simp only [Act.put,List.setIfInBounds_toArray,List.set_cons_zero,List.set_cons_succ])
  (refine wpAnyH_take (i:=9) (v:=?_) (opsAt rfl) (by kernel_rfl) (by kernel_rfl) (by kernel_rfl) (fun _ _ _ h=>h) (Or.inl ⟨by rfl,?_⟩) (by assumption) ?_;rotate_left;focus (intro w hSw;(try dsimp only at hSw);go_simp;(try with_reducible rfl);done))
  (try simp only [Act.put,List.setIfInBounds_toArray,List.set_cons_zero,List.set_cons_succ])
  (refine wpAnyH_take (i:=10) (v:=?_) (opsAt rfl) (by kernel_rfl) (by kernel_rfl) (by kernel_rfl) (fun _ _ _ h=>h) (Or.inl ⟨by rfl,?_⟩) (by assumption) ?_;rotate_left;focus (intro w hSw;(try dsimp only at hSw);go_simp;(try with_reducible rfl);done))
  (try simp only [Act.put,List.setIfInBounds_toArray,List.set_cons_zero,List.set_cons_succ])
  refine wpAnyH_ready (rs:=[11]) (by kernel_rfl) (by simp) ?_
  refine (AllReadyH.cons (opsAt rfl) (fun K hK=>?_) AllReadyH.nil)
  rw [if_pos (by rfl)]
  go_simp
  have hW:=hW.trans (((Below.refl _ w1).alloc (Nat.le_refl _) (.cells #[.int .i64 0,.int .i64 0,.int .u64 0,.int .i64 0,.slice none 0 0,.int .i64 0,.int .i64 0,.int .u64 0,.int .i64 0,.bool false,.bool false,.bool false,.bool false,.bool false,.bool false,.bool false,.int .u64 0,.int .u64 0,.int .u64 0,.int .u64 0,.int .u64 0,.int .u64 0,.int .u64 0,.int .u64 0,.int .u64 0,.int .u64 0,.int .u64 0,.int .u64 0,.int .u64 0,.int .u64 0] 50)).mono hW.size)
  (try dsimp only)
  refine hK.out _ _ (MK.out _ hW) (fun hHeld=>?_)
  clear hK K
  (try simp only [Act.put,List.setIfInBounds_toArray,List.set_cons_zero,List.set_cons_succ])
  refine wpAnyH_ready (rs:=[12]) (by kernel_rfl) (by simp) ?_
  refine (AllReadyH.cons (opsAt rfl) (fun K hK=>?_) AllReadyH.nil)
  rw [if_pos (by rfl)]
  refine wp_store_row 50 _ _ rfl _ _ rfl rfl _ _ HZ.out (by rw [node_size,HS6.out]) (by rw [HS6.out];rfl) (ndC_one HOE.out) ?_
  (try simp only [Act.put])
  refine hK.out _ _ (MK.out _ hWF) (fun hHeld=>?_)
  clear hK K
  (try simp only [Act.put,List.setIfInBounds_toArray,List.set_cons_zero,List.set_cons_succ])
  (refine wpAnyH_take (i:=13) (v:=?_) (opsAt rfl) (by kernel_rfl) (by kernel_rfl) (by kernel_rfl) (fun _ _ _ h=>h) (Or.inl ⟨by rfl,?_⟩) (by assumption) ?_;rotate_left;focus (intro w hSw;(try dsimp only at hSw);go_simp;(try with_reducible rfl);done))
  (try simp only [Act.put,List.setIfInBounds_toArray,List.set_cons_zero,List.set_cons_succ])
  refine wpAnyH_done (by kernel_rfl) ?_ _
  obtain ⟨bn,hbn⟩:∃ b,w1.heap.size=b:=⟨_,rfl⟩
  have hLD1:=HLD.out.1
  rw [hbn] at hLD1 hWF ⊢
  obtain ⟨W,hWW⟩:∃ W,(w1.alloc (.cells #[.int .i64 0,.int .i64 0,.int .u64 0,.int .i64 0,.slice none 0 0,.int .i64 0,.int .i64 0,.int .u64 0,.int .i64 0,.bool false,.bool false,.bool false,.bool false,.bool false,.bool false,.bool false,.int .u64 0,.int .u64 0,.int .u64 0,.int .u64 0,.int .u64 0,.int .u64 0,.int .u64 0,.int .u64 0,.int .u64 0,.int .u64 0,.int .u64 0,.int .u64 0,.int .u64 0,.int .u64 0] 50)).setRow bn (ndC x ev).toArray=W:=⟨_,rfl⟩
  rw [hWW] at hLD1 hWF ⊢
  have HBK:=Lib.hid hLD1
  clear hHeld hW hb1 HZ hbn hWW HLD hLD1
  have hF:=HFIN.out W hWF
  have HTH:=Lib.hid hF.1
  have HC31:=Lib.hid hF.2.1
  have HC32:=Lib.hid hF.2.2.1
  have HF31:=Lib.hid hF.2.2.2.1
  have HF32:=Lib.hid hF.2.2.2.2.1
  have HEND:=Lib.hid hF.2.2.2.2.2
  clear hF hWF
  go_wp2_with (first | (refine wpList_load_row rfl 50 _ rfl bn rfl _ _ _ _ HBK.out Tryz.underlying50 rfl (by rw [node_size,HS6.out]) ?_) | (refine wpList_store_mid rfl 50 (.tmp 70) (.tmp 67) rfl q 0 (ndC x ev).toArray rfl rfl HTH.out (by rw [node_size,HS6.out]) (ndC_one HOE.out) ?_;have c31:=HC31.out;have c32:=HC32.out;have f31:=HF31.out;have f32:=HF32.out))
  go_ret
  exact ⟨rfl,HEND.out⟩
 ·rw [if_pos (by rfl)]
  go_simp
  have hbz:=(Below.refl _ W3.drew).alloc (Nat.le_refl _) (.cells #[.int .i64 0,.int .i64 0,.int .u64 0,.int .i64 0,.slice none 0 0,.int .i64 0,.int .i64 0,.int .u64 0,.int .i64 0,.bool false,.bool false,.bool false,.bool false,.bool false,.bool false,.bool false,.int .u64 0,.int .u64 0,.int .u64 0,.int .u64 0,.int .u64 0,.int .u64 0,.int .u64 0,.int .u64 0,.int .u64 0,.int .u64 0,.int .u64 0,.int .u64 0,.int .u64 0,.int .u64 0] 50)
  have hZ0:Blk (W3.drew.alloc (.cells #[.int .i64 0,.int .i64 0,.int .u64 0,.int .i64 0,.slice none 0 0,.int .i64 0,.int .i64 0,.int .u64 0,.int .i64 0,.bool false,.bool false,.bool false,.bool false,.bool false,.bool false,.bool false,.int .u64 0,.int .u64 0,.int .u64 0,.int .u64 0,.int .u64 0,.int .u64 0,.int .u64 0,.int .u64 0,.int .u64 0,.int .u64 0,.int .u64 0,.int .u64 0,.int .u64 0,.int .u64 0] 50)) W3.drew.heap.size (ndC zeroN nilV) 50:=Blk.new W3.drew _ _
  have hW0:=hW
  have hW:=hW.trans (hbz.mono hW.size)
  (try dsimp only)
  refine hK.out _ _ (MK.out _ hW) (fun hHeld=>?_)
  clear hK K
  (try simp only [Act.put,List.setIfInBounds_toArray,List.set_cons_zero,List.set_cons_succ])
  refine wpAnyH_ready (rs:=[7]) (by kernel_rfl) (by simp) ?_
  refine (AllReadyH.cons (opsAt rfl) (fun K hK=>?_) AllReadyH.nil)
  rw [if_pos (by rfl)]
  go_simp
  go_at_call 42
  refine (HN.out _).mono ?_
  rintro e w1 ⟨rfl,hb1⟩
  have HZ:Hid (Blk w1 W3.heap.size (ndC zeroN nilV) 50):=Lib.hid (hZ0.below hb1)
  have HLD:=Lib.hid (node_laid_before (base:=W3.heap.size) (bn:=W3.heap.size) HZ.out (Nat.le_refl _) x ev)
  have hW:=hW.trans (hb1.mono hW.size)
  have hWF:=hW.trans HLD.out.2
  dsimp only
  refine hK.out _ _ (MK.out _ hW) (fun hHeld=>?_)
  clear hK K
  (try simp only [Act.put,List.setIfInBounds_toArray,List.set_cons_zero,List.set_cons_succ])
  (refine wpAnyH_take (i:=8) (v:=?_) (opsAt rfl) (by kernel_rfl) (by kernel_rfl) (by kernel_rfl) (fun _ _ _ h=>h) (Or.inl ⟨by rfl,?_⟩) (by assumption) ?_;rotate_left;focus (intro w hSw;(try dsimp only at hSw);go_simp;(try with_reducible rfl);done))
  (try simp only [Act.put,List.setIfInBounds_toArray,List.set_cons_zero,List.set_cons_succ])
  (refine wpAnyH_take (i:=9) (v:=?_) (opsAt rfl) (by kernel_rfl) (by kernel_rfl) (by kernel_rfl) (fun _ _ _ h=>h) (Or.inl ⟨by rfl,?_⟩) (by assumption) ?_;rotate_left;focus (intro w hSw;(try dsimp only at hSw);go_simp;(try with_reducible rfl);done))
  (try simp only [Act.put,List.setIfInBounds_toArray,List.set_cons_zero,List.set_cons_succ])
  (refine wpAnyH_take (i:=10) (v:=?_) (opsAt rfl) (by kernel_rfl) (by kernel_rfl) (by kernel_rfl) (fun _ _ _ h=>h) (Or.inl ⟨by rfl,?_⟩) (by assumption) ?_;rotate_left;focus (intro w hSw;(try dsimp only at hSw);go_simp;(try with_reducible rfl);done))
  (try simp only [Act.put,List.setIfInBounds_toArray,List.set_cons_zero,List.set_cons_succ])
  refine wpAnyH_ready (rs:=[12]) (by kernel_rfl) (by simp) ?_
  refine (AllReadyH.cons (opsAt rfl) (fun K hK=>?_) AllReadyH.nil)
  rw [if_pos (by rfl)]
  refine wp_store_row 50 _ _ rfl _ _ rfl rfl _ _ HZ.out (by rw [node_size,HS6.out]) (by rw [HS6.out];rfl) (ndC_one HOE.out) ?_
  (try simp only [Act.put])
  refine hK.out _ _ (MK.out _ hWF) (fun hHeld=>?_)
  clear hK K
  (try simp only [Act.put,List.setIfInBounds_toArray,List.set_cons_zero,List.set_cons_succ])
  (refine wpAnyH_take (i:=13) (v:=?_) (opsAt rfl) (by kernel_rfl) (by kernel_rfl) (by kernel_rfl) (fun _ _ _ h=>h) (Or.inl ⟨by rfl,?_⟩) (by assumption) ?_;rotate_left;focus (intro w hSw;(try dsimp only at hSw);go_simp;(try with_reducible rfl);done))
  (try simp only [Act.put,List.setIfInBounds_toArray,List.set_cons_zero,List.set_cons_succ])
  refine wpAnyH_done (by kernel_rfl) ?_ _
  have hLD1:=HLD.out.1
  obtain ⟨W,hWW⟩:∃ W,w1.setRow W3.heap.size (ndC x ev).toArray=W:=⟨_,rfl⟩
  rw [hWW] at hLD1 hWF ⊢
  have HBK:=Lib.hid hLD1
  clear hHeld hW hW0 hbz hZ0 hb1 HZ hWW HLD hLD1
  have hF:=HFIN.out W hWF
  have HTH:=Lib.hid hF.1
  have HC31:=Lib.hid hF.2.1
  have HC32:=Lib.hid hF.2.2.1
  have HF31:=Lib.hid hF.2.2.2.1
  have HF32:=Lib.hid hF.2.2.2.2.1
  have HEND:=Lib.hid hF.2.2.2.2.2
  clear hF hWF
  go_wp2_with (first | (refine wpList_load_row rfl 50 _ rfl W3.heap.size rfl _ _ _ _ HBK.out Tryz.underlying50 rfl (by rw [node_size,HS6.out]) ?_) | (refine wpList_store_mid rfl 50 (.tmp 70) (.tmp 67) rfl q 0 (ndC x ev).toArray rfl rfl HTH.out (by rw [node_size,HS6.out]) (ndC_one HOE.out) ?_;have c31:=HC31.out;have c32:=HC32.out;have f31:=HF31.out;have f32:=HF32.out))
  go_ret
  exact ⟨rfl,HEND.out⟩
end Go.Proofs.YtmcibggjolckoaaGreatDoor
namespace Go.Proofs.YtmcibggjolckoaaGreatDoor
open Go Go.RowKit Go.Deep
set_option maxRecDepth 100000
section
variable {B:Nat} {w0 w:World} {c R:Nat} {C:cl.Clu} {F:Nat→Fp} {k:Nat} {wv:Value}
theorem start_up {i:Nat} (h:CluAt B w0 w c R C F k wv) (hi:i < C.n) (hu:(C.p i).up=true) :
  Calls Tryz.prog 22 #[cptr c,.int .i64 (i:Int)] w fun e w'=>e=.returned (.int .i64 5)∧Below w.heap.size w w':=by
 have H:=Lib.hid (has_yes h hi)
 have K:Hid (∀ w',Below w.heap.size w w'→w'.cell? ⟨c,0,none⟩=some (.slice (some ⟨R,0,none⟩) C.n k)∧w'.cell? ⟨R,i,none⟩=some (.pointer (some ⟨(F i).q,0,none⟩))∧w'.cell? ⟨(F i).q,32,none⟩=some (.bool true)):=Lib.hid fun w' hb=>⟨(h.later hb).c0,(h.later hb).at_ hi,by rw [← hu];exact (h.later hb).upc hi⟩
 obtain ⟨q,hq⟩:∃ q,(F i).q=q:=⟨_,rfl⟩
 obtain ⟨n,hn⟩:∃ n,C.n=n:=⟨_,rfl⟩
 rw [hq,hn] at K
 rw [hn] at hi
 have hin:(i:Int) < (n:Int):=by omega
 clear h hq hn hu
 unfold cptr at H ⊢
 go_enter Tryz.func22,Tryz.ntmps22
 go_wp2_with (go_at_call 37;refine H.out.mono ?_;rintro e w1 ⟨rfl,hb1⟩;obtain ⟨k0,k1,k2⟩:=K.out w1 hb1)
 go_ret
 exact ⟨rfl,hb1⟩
theorem CluAt.stay3' {i:Nat} (h:CluAt B w0 w c R C F k wv) (hi:i < C.n) {w':World} (hA:Apart [(F i).q,(F i).p,(F i).b] w w'):Stay F C.n w w':=
 Stay.of_apart hA fun y hy=>by
  simp only [List.mem_cons,List.not_mem_nil,or_false] at hy
  rcases hy with e | e | e
  ·rw [e];exact .inl ⟨_,_,(h.peers i hi).blk,.inl rfl⟩
  ·rw [e];exact .inl ⟨_,_,(h.peers i hi).disk.dk.blk,.inr (.inl rfl)⟩
  ·exact .inr ⟨i,hi,e⟩
theorem RAFT_open:wl.openE RAFT=true:=RAFT_ok
theorem start_yes {i:Nat} (h:CluAt B w0 w c R C F k wv) (hi:i < C.n) (hd:(C.p i).up=false) (ht:TabAt w0) :
  Calls Tryz.prog 22 #[cptr c,.int .i64 (i:Int)] w fun e w'=>e=.returned (.int .i64 0)∧∃ F',CluAt B w0 w' c R (cl.started C i) F' k wv∧FpTo F F' i∧(F' i).d.left=0∧Stay F C.n w w':=by
 have pi:=h.peers i hi
 have hk:=pi.kept
 obtain ⟨us,r1,r2⟩:=h.row
 have hop:=wl.two_open (c:=(F i).d.cap) (k:=(F i).d.keep) RAFT_open hk.wide hk.two
 have hblk:=pi.blk
 rw [hd] at hblk
 refine (start_core h.blk r1 (r2 i hi) hi h.n7 hblk rfl pi.hq pi.ok pi.disk ht hop hk.frm hk.many (fun t hm=>by have:=hk.wide t hm;unfold maxLen;omega)).mono ?_
 rintro e w' ⟨rfl,s,g,A,k',hv,hd',hE,hs,hg,h1,h2,hA⟩
 refine ⟨rfl,_,h.peer hi hA (fun y hy=>?_) (P:=⟨(C.p i).s,true,rf.new (i:Int) (C.n:Int) (C.p i).s.t (C.p i).s.v (C.p i).s.l⟩) (f:=⟨(F i).q,(F i).p,(F i).b,s,g,A,k',.pointer (some ⟨s,0,none⟩),(F i).a,⟨(F i).d.cap,(F i).d.files,false,0,(F i).d.keep⟩⟩) ?_ ⟨rfl,rfl,rfl⟩ (fun _=>.inr ⟨h1,h2⟩),?_,?_,h.stay3' hi hA⟩
 ·simp only [List.mem_cons,List.not_mem_nil,or_false] at hy
  rcases hy with e | e | e
  ·exact .inl e
  ·exact .inr (.inl e)
  ·exact .inr (.inr (.inl e))
 ·have hb:=h.bel.size
  exact ⟨hv,hE,⟨rfl,rfl,rfl,by intro y hy;simp [rf.new] at hy;omega,by intro y hy;simp [rf.new] at hy;omega⟩,hd',pi.hq,⟨hk.wide,hk.frm,hk.two,hk.flat,hk.many,hk.cap⟩,⟨_,rfl⟩,fun _=>⟨rfl,rfl,hs,hg,by show w0.heap.size≤g;omega,by show w0.heap.size≤s;omega⟩⟩
 ·exact ⟨fun j hj=>cl.upd_other _ _ hj,by rw [cl.upd_same],by rw [cl.upd_same],by rw [cl.upd_same],by rw [cl.upd_same],fun _=>by rw [cl.upd_same]⟩
 ·rw [cl.upd_same]
end
end Go.Proofs.YtmcibggjolckoaaGreatDoor
