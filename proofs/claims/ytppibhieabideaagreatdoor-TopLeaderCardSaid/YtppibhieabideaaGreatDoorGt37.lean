/- A part of the walk of the program, and of its plain law. -/
import Derived.Test.YtppibhieabideaaGreatDoorGt36
import Derived.Laws.EntriesVeiled
namespace Go.Proofs.YtppibhieabideaaGreatDoor
set_option maxHeartbeats 4000000
open Go Go.RowKit Go.Deep
set_option maxRecDepth 100000
section
variable {w0 w:World} {a:Ad} {x:rf.Node} {M:vd.Files} {K idx last many:Nat} {cl:Value}
theorem Zo {w:World} {g o:Nat} {v:Value} (h:w.cell? ⟨g,o,none⟩=some v):g < w.heap.size:=by
 apply Decidable.byContradiction
 intro hn
 have e:w.heap[g]?=none:=by simp;omega
 simp [World.cell?,e] at h
theorem Below.alloc' {b w:World} (h:Below b.heap.size b w) (o:Obj):Below b.heap.size b (w.alloc o):=h.alloc h.size o
theorem Below.store' {b w:World} (h:Below b.heap.size b w) (g j:Nat) (v:Value) (hg:b.heap.size≤g):Below b.heap.size b (w.setCell ⟨g,j,none⟩ v):=h.setCell hg v
theorem Yz {w6 w7:World} {o:Obj} (h:Below (w6.alloc o).drew.heap.size (w6.alloc o).drew w7):Below w6.heap.size w6 w7∧(∀ o2,(w7.alloc o2).heap[w6.heap.size]?=some o)∧¬ w6.heap.size=w7.heap.size∧¬ w7.heap.size=w6.heap.size:=by
 have h1:Below w6.heap.size w6 (w6.alloc o).drew:=((Below.refl _ w6).alloc (Nat.le_refl _) o).drew;have e:(w6.alloc o).drew.heap.size=w6.heap.size + 1:=size_alloc w6 o
 exact ⟨h1.trans (h.mono (by omega)),λo2=>(Below.heap_alloc w7 o2 _ (by have:=h.size;omega)).trans ((h.block _ (by omega)).trans (heap_alloc_new w6 o)),by have:=h.size;omega,by have:=h.size;omega⟩
theorem yD {w6 w7:World} {o o2:Obj} (h:Below ((w6.alloc o).alloc o2).drew.heap.size ((w6.alloc o).alloc o2).drew w7):Below w6.heap.size w6 w7∧w7.heap[w6.heap.size]?=some o∧w7.heap[w6.heap.size + 1]?=some o2:=by
 have h1:Below w6.heap.size w6 ((w6.alloc o).alloc o2).drew:=(((Below.refl _ w6).alloc (Nat.le_refl _) o).alloc (by rw [size_alloc];omega) o2).drew
 have e:((w6.alloc o).alloc o2).drew.heap.size=w6.heap.size + 1 + 1:=by show ((w6.alloc o).alloc o2).heap.size=_;rw [size_alloc,size_alloc]
 have e2:=heap_alloc_new (w6.alloc o) o2;rw [size_alloc] at e2
 exact ⟨h1.trans (h.mono (by omega)),(h.block _ (by omega)).trans ((Below.heap_alloc (w6.alloc o) o2 w6.heap.size (by rw [size_alloc];omega)).trans (heap_alloc_new w6 o)),(h.block _ (by omega)).trans e2⟩
theorem zt {w:World} {g:Nat} {t:TypeId} {a0 a1 a2 a3 a4:Value} (h:Vb w g [a0,a1,a2,a3,a4] t):w.cell? ⟨g,0,none⟩=some a0∧w.cell? ⟨g,1,none⟩=some a1∧w.cell? ⟨g,2,none⟩=some a2∧w.cell? ⟨g,3,none⟩=some a3∧w.cell? ⟨g,4,none⟩=some a4∧w.frozen? ⟨g,0,none⟩=false∧w.frozen? ⟨g,1,none⟩=false∧w.frozen? ⟨g,2,none⟩=false∧w.frozen? ⟨g,3,none⟩=false∧w.frozen? ⟨g,4,none⟩=false:=
 ⟨h.cell 0 _ rfl,h.cell 1 _ rfl,h.cell 2 _ rfl,h.cell 3 _ rfl,h.cell 4 _ rfl,h.free 0,h.free 1,h.free 2,h.free 3,h.free 4⟩
theorem zc {w:World} {g:Nat} {t:TypeId} {a0 a1 a2 a3:Value} (h:Vb w g [a0,a1,a2,a3] t):w.cell? ⟨g,0,none⟩=some a0∧w.cell? ⟨g,1,none⟩=some a1∧w.cell? ⟨g,2,none⟩=some a2∧w.cell? ⟨g,3,none⟩=some a3∧w.frozen? ⟨g,0,none⟩=false∧w.frozen? ⟨g,1,none⟩=false∧w.frozen? ⟨g,2,none⟩=false∧w.frozen? ⟨g,3,none⟩=false:=
 ⟨h.cell 0 _ rfl,h.cell 1 _ rfl,h.cell 2 _ rfl,h.cell 3 _ rfl,h.free 0,h.free 1,h.free 2,h.free 3⟩
theorem Wd.put (h:Wd w0 a x M K idx last many cl w) (i2:Nat) (cl2:Value):Wd w0 a x M K i2 last many cl2 (w.setCells a.nb 1 [.int .u64 (i2:Int),.int .u64 0,.slice none 0 0,.slice none 0 0,cl2])∧Apart [a.nb] w (w.setCells a.nb 1 [.int .u64 (i2:Int),.int .u64 0,.slice none 0 0,.slice none 0 0,cl2]):=by
 have hv:=Vb.cellsAt [.int .u64 (i2:Int),.int .u64 0,.slice none 0 0,.slice none 0 0,cl2] 1 w _ h.rest.nb (show 6≤6 from Nat.le_refl _)
 have hA:=qS a.nb [.int .u64 (i2:Int),.int .u64 0,.slice none 0 0,.slice none 0 0,cl2] 1 w;obtain ⟨W,hW⟩:∃ W,w.setCells a.nb 1 [.int .u64 (i2:Int),.int .u64 0,.slice none 0 0,.slice none 0 0,cl2]=W:=⟨_,rfl⟩;rw [hW] at hv hA ⊢;have hv:Vb W a.nb (nbC a i2 cl2) 208:=hv;have hn:=h.rest.nb
 have hne:∀ y vs t,Vb w y vs t→t ≠ 208→y ∉ [a.nb]:=λy vs t hy ht hx=>qa hy hn ht (by simpa using hx)
 obtain ⟨d,hd,hoff⟩:=h.rest.dsk
 have htb:a.tb ∉ [a.nb]:=λhx=>by
  have e:a.tb=a.nb:=by simpa using hx
  have e4:=h.rest.eng.tb;rw [e] at e4;unfold Vb at hn;rw [e4] at hn
  cases hn
 have hdb:a.db ∉ [a.nb]:=λhx=>qf hn hd.dk.map (by have e:a.db=a.nb:=(by simpa using hx);exact e.symm)
 have hE:=h.rest.eng;have hed:Vb w a.ed (lgV a.p ⟨MANI,0,false⟩) 306:=hE.ed;have hlg:Vb w a.lg (lgV a.p ⟨ELOG,many,false⟩) 306:=hE.lg;have hjg:Vb w a.jg (lgV a.dp ⟨JOBS,0,false⟩) 306:=h.rest.jg
 refine ⟨⟨h.one.outs hA λy hy=>?_,⟨h.rest.wd.apart hA (hne _ _ _ h.rest.wd (by decide)),hv,⟨hE.blk.apart hA (hne _ _ _ hE.blk (by decide)),hed.apart hA (hne _ _ _ hed (by decide)),hlg.apart hA (hne _ _ _ hlg (by decide)),(hA.block _ (Array.getElem?_eq_some_iff.1 hE.tb).1 htb).trans hE.tb⟩,h.rest.dr.apart hA (hne _ _ _ h.rest.dr (by decide)),hjg.apart hA (hne _ _ _ hjg (by decide)),⟨d,hd.next hA (by simpa using h.rest.hnb) (hd.dk.apart hA (hne _ _ _ hd.dk.blk (by decide)) hdb) hd.ok rfl,hoff⟩,h.rest.hnb,h.rest.hge,h.rest.hmm,h.rest.hlg,h.rest.ne⟩⟩,hA⟩
 obtain rfl:y=a.nb:=by simpa using hy
 exact ⟨h.rest.hnb,.inl ⟨_,_,hn,by decide,λe=>absurd e (by decide),λe=>absurd e (by decide)⟩⟩
theorem kV (u:FrameMode) (h:Wd w0 a x M K idx last many (.slice none 0 0) w) (hc:x.commit≤x.log.length) (hx:x.log.length≤10000) (hi:x.commit=idx + 1) (ht:(x.log.getD idx rl.e0).2=[]) (hl:last < idx + 1) (h100:idx≤100) :
  CallsD Tryz.prog 122 #[.pointer (some ⟨a.wd,0,none⟩)] u w λe u' w'=>u'=u∧(e=.returned (.tuple #[])∧Wd w0 a x M K (idx + 1) last many (.slice none 0 0) w'∧Apart [a.nb] w w'):=by
 have HU:=Uq (Y3 h)
 have HCM:=Uq λw' (hb:Below w.heap.size w w')=>zd (h.later hb).one hc hx
 have HK:Hid (∀ w',Below w.heap.size w w'→w'.cell? ⟨a.wd,0,none⟩=some (.pointer (some ⟨a.c,0,none⟩))∧w'.cell? ⟨a.wd,1,none⟩=some (.slice (some ⟨a.nb,0,none⟩) 1 1)∧w'.cell? ⟨a.nb,1,none⟩=some (.int .u64 (idx:Int))):=Uq λw' hb=>⟨(h.later hb).c0,(h.later hb).c1,(h.later hb).n1⟩
 have HNB:Hid (∀ w',Below w.heap.size w w'→w'.cell? ⟨a.wd,1,none⟩=some (.slice (some ⟨a.nb,0,none⟩) 1 1)∧Vb w' a.nb (nbC a idx (.slice none 0 0)) 208):=Uq λw' hb=>⟨(h.later hb).c1,(h.later hb).rest.nb⟩
 have HAP:Hid (∀ w',Calls Tryz.prog 250 #[.agg (stA idx (.slice none 0 0)),.string ⟨#[]⟩] w' λe w''=>e=.returned (.tuple #[.agg (stA (idx + 1) (.slice none 0 0)),.agg efA])∧Below w'.heap.size w' w''):=Uq λw'=>jQ idx h100 w'
 have HEF:=Uq λw' (hb:Below w.heap.size w w') (d:Value)=>yX (h.later hb) d (idx + 1) hl
 have HPUT:=Uq λw' (hb:Below w.heap.size w w')=>(h.later hb).put (idx + 1) (.slice none 0 0)
 have hL:(x.log.take x.commit).length=idx + 1:=by rw [List.length_take];omega
 have hg:(x.log.take x.commit).getD idx rl.e0=x.log.getD idx rl.e0:=by
  rw [List.getD_eq_getElem?_getD,List.getD_eq_getElem?_getD,List.getElem?_take,if_pos (by omega)]
 have HOW:Hid (∀ (w1 w5:World) D e',w5.ownsRow w1.heap.size 36 2 (.slice D (idx + 1) e') (idx + 1) (qg (x.log.take x.commit))→∃ b o t,frmE D idx e'=some ⟨b,o,none⟩∧e' - idx=e' - idx∧w5.cell? ⟨b,o,none⟩=some (.int .u64 t)∧w5.cell? ⟨b,o + 1,none⟩=some (.string ⟨#[]⟩)):=Uq λw1 w5 D e' ho=>by
  have hE:=Qw (ls:=x.log.take x.commit) (base:=w1.heap.size) (by rw [hL];exact ho)
  obtain ⟨A,c,e1,h1,h2,h3⟩:=hE
  injection e1 with q1 q2 q3
  subst q1;subst q3
  obtain ⟨b,o,rfl,h4⟩:=h3 (by omega)
  have h5:=h4 idx (by omega)
  rw [hg,ht] at h5;refine ⟨b,o + idx * 2,_,?_,rfl,h5.1,h5.2⟩;unfold frmE
  rw [if_neg (by omega)]
  simp [Addr.add]
 rw [hL] at HCM;have c1:=h.c1
 have HSL:=Uq λ(D:Option Addr) (c:Nat) (w:World)=>Z1 D idx (idx + 1) c (by omega) w
 rw [Nat.add_sub_cancel_left] at HSL;have HH:=Uq h;clear h hc hx hi hL hg ht hl;unfold cptr at HCM
 go_enter_d Tryz.func122,Tryz.ntmps122
 go_upto_region 1 with fail
 go_loopw [13] (λi wr=>(i=.int .i64 0∧wr=w)∨(i=.int .i64 1∧Wd w0 a x M K (idx + 1) last many (.slice none 0 0) wr∧Apart [a.nb] w wr)) (λi _=>1 - (intOf i).toNat)
 case atStart=>exact .inl ⟨rfl,rfl⟩
 case round=>
  rcases hrel with ⟨rfl,rfl⟩ | ⟨rfl,hD,hB⟩
  ·go_upto_region 5 with (go_at_call 143;refine HU.out.mono ?_;rintro e w1 ⟨rfl,hb⟩;have hW:=hb)
   have HSL2:=HSL.out;have hW:Below wr.heap.size wr w1.drew:=below_drewN hW 1
   go_region_held3 (λw'=>w'.cell? ⟨a.wd,0,none⟩=some (.pointer (some ⟨a.c,0,none⟩))∧w'.cell? ⟨a.wd,1,none⟩=some (.slice (some ⟨a.nb,0,none⟩) 1 1)∧w'.cell? ⟨a.nb,1,none⟩=some (.int .u64 (idx:Int))) (exact HK.out _ hW) ((go_at_call 13;refine (HCM.out _ hW).mono ?_;rintro e w5 ⟨D,e',rfl,ho,hb5⟩;have hW:=hW.trans (hb5.mono hW.size)))
   have HW:=Uq hW;obtain ⟨b,o,t,hfr,-,g0,g1⟩:=HOW.out _ _ _ _ ho;have HHELD:=HK.out _ HW.out;clear hW hb hb5 HSL2 ho;go_upto_region 6 with fail;rw [hfr]
   go_loopw [44] (λi wx=>(i=.int .i64 0∧wx=w5)∨(i=.int .i64 1∧Wd w0 a x M K (idx + 1) last many (.slice none 0 0) wx∧Apart [a.nb] wr wx)) (λi _=>1 - (intOf i).toNat)
   case atStart=>exact .inl ⟨rfl,rfl⟩
   case round=>
    rcases hrel with ⟨rfl,rfl⟩ | ⟨rfl,hD,hB⟩
    ·go_upto_region 8 with fail;have hW6:Below wr.heap.size wr (wr.alloc (.cells #[.int .u64 t,.string ⟨#[]⟩] 36)):=(Below.refl _ wr).alloc (Nat.le_refl _) _;have e4:(wr.alloc (.cells #[.int .u64 t,.string ⟨#[]⟩] 36)).cell? ⟨wr.heap.size,1,none⟩=some (.string ⟨#[]⟩):=(Vb.new wr [.int .u64 t,.string ⟨#[]⟩] 36).cell 1 _ rfl
     have hlt4:wr.heap.size < (wr.alloc (.cells #[.int .u64 t,.string ⟨#[]⟩] 36)).heap.size:=by rw [size_alloc];omega
     obtain ⟨k4,hk4⟩:∃ k4,wr.heap.size=k4:=⟨_,rfl⟩;have HW6:=Uq (HW.out.trans (hW6.mono HW.out.size));obtain ⟨w6,hw6⟩:∃ w6,wr.alloc (.cells #[.int .u64 t,.string ⟨#[]⟩] 36)=w6:=⟨_,rfl⟩;rw [hw6,hk4] at e4 hlt4;rw [hw6] at HW6 ⊢;rw [hk4]
     have HS6:Hid (∀ w',Below w6.heap.size w6 w'→w'.cell? ⟨a.wd,1,none⟩=some (.slice (some ⟨a.nb,0,none⟩) 1 1)∧w'.cell? ⟨k4,1,none⟩=some (.string ⟨#[]⟩)∧w'.cell? ⟨a.nb,1,none⟩=some (.int .u64 (idx:Int))∧w'.cell? ⟨a.nb,2,none⟩=some (.int .u64 0)∧w'.cell? ⟨a.nb,3,none⟩=some (.slice none 0 0)∧w'.cell? ⟨a.nb,4,none⟩=some (.slice none 0 0)∧w'.cell? ⟨a.nb,5,none⟩=some (.slice none 0 0)):=Uq λw' hb=>by
      obtain ⟨q1,q2⟩:=HNB.out _ (HW6.out.trans (hb.mono HW6.out.size));exact ⟨q1,(World.cell?_of_block (a:=⟨k4,1,none⟩) (hb.block _ hlt4)).trans e4,q2.cell 1 _ rfl,q2.cell 2 _ rfl,q2.cell 3 _ rfl,q2.cell 4 _ rfl,q2.cell 5 _ rfl⟩
     have HAP2:=HAP;unfold stA efA at HAP2;have hW:=below_drewN (Below.refl w6.heap.size w6) 1;clear hW6 hlt4 hw6 hk4 g0 g1 HHELD c1 e4
     go_cut [5,6] (λs5 s6 wx=>∃ k5 k6,s5=.pointer (some ⟨k5,0,none⟩)∧s6=.pointer (some ⟨k6,0,none⟩)∧Below w6.heap.size w6 wx∧w6.heap.size≤k5∧w6.heap.size≤k6∧(wx.cell? ⟨k5,0,none⟩=some (.int .u64 ((idx:Int) + 1))∧wx.cell? ⟨k5,1,none⟩=some (.int .u64 0)∧wx.cell? ⟨k5,2,none⟩=some (.slice none 0 0)∧wx.cell? ⟨k5,3,none⟩=some (.slice none 0 0)∧wx.cell? ⟨k5,4,none⟩=some (.slice none 0 0))∧(wx.cell? ⟨k6,0,none⟩=some (.int .i64 0)∧wx.cell? ⟨k6,1,none⟩=some (.bool false)∧wx.cell? ⟨k6,2,none⟩=some (.slice none 0 0)∧wx.cell? ⟨k6,3,none⟩=some (.slice none 0 0)))
     case first=>
      go_region_held3 (λw'=>w'.cell? ⟨a.wd,1,none⟩=some (.slice (some ⟨a.nb,0,none⟩) 1 1)∧w'.cell? ⟨k4,1,none⟩=some (.string ⟨#[]⟩)∧w'.cell? ⟨a.nb,1,none⟩=some (.int .u64 (idx:Int))∧w'.cell? ⟨a.nb,2,none⟩=some (.int .u64 0)∧w'.cell? ⟨a.nb,3,none⟩=some (.slice none 0 0)∧w'.cell? ⟨a.nb,4,none⟩=some (.slice none 0 0)∧w'.cell? ⟨a.nb,5,none⟩=some (.slice none 0 0)) (with_reducible exact HS6.out _ (by repeat (first | with_reducible exact hW | with_reducible exact Below.refl _ _ | with_reducible apply Below.drew | with_reducible apply Below.alloc' | with_reducible apply Below.store' | (have:=hW.size;omega)))) ((go_at_call 250;refine (HAP2.out _).mono ?_;rintro e w7 ⟨rfl,hb7⟩;first | have hW:=hW.trans (hb7.mono hW.size) | (have hq:=yD hb7;obtain ⟨hW,hV1,hV2⟩:=hq;first | ((have hy:=zt (a0:=.int .u64 0) hV1;obtain ⟨p0,p1,p2,p3,p4,f0,f1,f2,f3,f4⟩:=hy);(have hz:=zc (a0:=.int .i64 0) hV2;obtain ⟨r0,r1,r2,r3,s0,s1,s2,s3⟩:=hz)) | ((have hy:=zt (a0:=.int .u64 0) hV2;obtain ⟨p0,p1,p2,p3,p4,f0,f1,f2,f3,f4⟩:=hy);(have hz:=zc (a0:=.int .i64 0) hV1;obtain ⟨r0,r1,r2,r3,s0,s1,s2,s3⟩:=hz))) | (have hq:=Yz hb7;obtain ⟨hW,hV1,hne1,hne2⟩:=hq;first | (have hy:=zt (a0:=.int .u64 0) (hV1 (.cells #[.int .i64 0,.bool false,.slice none 0 0,.slice none 0 0] 338));obtain ⟨p0,p1,p2,p3,p4,f0,f1,f2,f3,f4⟩:=hy) | (have hz:=zc (a0:=.int .i64 0) (hV1 (.cells #[.int .u64 0,.int .u64 0,.slice none 0 0,.slice none 0 0,.slice none 0 0] 206));obtain ⟨r0,r1,r2,r3,s0,s1,s2,s3⟩:=hz;have hz2:=zc (a0:=.int .i64 0) (hV1 (.cells #[.int .u64 ((idx:Int) + 1),.int .u64 0,.slice none 0 0,.slice none 0 0,.slice none 0 0] 206));obtain ⟨r4,r5,r6,r7,s4,s5,s6,s7⟩:=hz2))))
      all_goals
       go_wp2_with fail;go_meet
       refine ⟨_,_,rfl,rfl,by repeat (first | with_reducible exact hW | with_reducible exact Below.refl _ _ | with_reducible apply Below.drew | with_reducible apply Below.alloc' | with_reducible apply Below.store' | (have:=hW.size;omega)),by have:=hW.size;omega,by have:=hW.size;omega,?_,?_⟩
       ·refine ⟨?_,?_,?_,?_,?_⟩ <;> (first | (simp [World.cell?_setCell_same',World.cell?_setCell_other, *];done) | (go_keep;done) | (go_simp;done))
       ·refine ⟨?_,?_,?_,?_⟩ <;> (first | (simp [World.cell?_setCell_same',World.cell?_setCell_other, *];done) | (go_keep;done) | (go_simp;done))
     case rest=>
      obtain ⟨k5,k6,rfl,rfl,hB6,hk5,hk6,hc5,hc6⟩:=hcut;have hlt5:=Zo hc5.1;obtain ⟨v0,v1,v2,v3,v4⟩:=hc5;obtain ⟨y0,y1,y2,y3⟩:=hc6;have t4:=(HS6.out _ hB6).2.1;have HB6:=Uq (HW6.out.trans (hB6.mono HW6.out.size));have HE6:=Uq (HEF.out _ HB6.out (.string ⟨#[]⟩));unfold efA at HE6
      rw [show ((idx + 1:Nat):Int)=(idx:Int) + 1 from rfl] at HE6
      have HV5:Hid (∀ w',Below wc.heap.size wc w'→w'.cell? ⟨k5,0,none⟩=some (.int .u64 ((idx:Int) + 1))∧w'.cell? ⟨k5,1,none⟩=some (.int .u64 0)∧w'.cell? ⟨k5,2,none⟩=some (.slice none 0 0)∧w'.cell? ⟨k5,3,none⟩=some (.slice none 0 0)∧w'.cell? ⟨k5,4,none⟩=some (.slice none 0 0)):=Uq λw' hb=>⟨(hb.cell hlt5).trans v0,(hb.cell hlt5).trans v1,(hb.cell hlt5).trans v2,(hb.cell hlt5).trans v3,(hb.cell hlt5).trans v4⟩
      clear hB6 hk5 hk6 hlt5
      go_upto_region 10 with (go_at_call 251;refine HE6.out.mono ?_;rintro e w8 ⟨rfl,hb8⟩;have HB8:=Uq (HB6.out.trans (hb8.mono HB6.out.size));obtain ⟨z0,z1,z2,z3,z4⟩:=HV5.out _ hb8)
      obtain ⟨c1,nbv⟩:=HNB.out _ HB8.out;obtain ⟨hD,hA⟩:=HPUT.out _ HB8.out;have n1:=nbv.cell 1 _ rfl;have n2:=nbv.cell 2 _ rfl;have n3:=nbv.cell 3 _ rfl;have n4:=nbv.cell 4 _ rfl;have n5:=nbv.cell 5 _ rfl;have m1:=nbv.free 1;have m2:=nbv.free 2;have m3:=nbv.free 3;have m4:=nbv.free 4;have m5:=nbv.free 5
      rw [show ((idx + 1:Nat):Int)=(idx:Int) + 1 from rfl] at hD hA
      have HD:=Uq hD;have HA:=Uq hA;clear v0 v1 v2 v3 v4 y0 y1 y2 y3 t4 hb8 hD hA nbv;go_upto_region 12 with fail;go_region;go_wp2_with fail
      exact ⟨.inr ⟨rfl,HD.out.later (Below.refl _ _).drew,((Apart.of_below HB8.out [a.nb]).trans HA.out).trans (Apart.drew _ _)⟩,by simp [intOf]⟩
    ·have HD:=Uq hD;have HB:=Uq hB;clear hD hB;go_wp2_with fail
     exact ⟨.inr ⟨rfl,HD.out,HB.out⟩,by simp [intOf]⟩
  ·have HD:=Uq hD;have HB:=Uq hB;clear hD hB;go_wp2_with fail;go_end0;exact ⟨rfl,HD.out,HB.out⟩
end
theorem J5 {w:World} {b o g j:Nat} {c:ce.Cell} {v:Value} (h:CellAt w b o c) (hn:b ≠ g):CellAt (w.setCell ⟨g,j,none⟩ v) b o c:=λi u hi=>by
 rw [World.cell?_setCell_other (h:=by intro e;injection e with e1;exact hn e1.symm)]
 exact h i u hi
theorem KE {w:World} {b o:Nat} {c:ce.Cell} {ob:Obj} (h:CellAt w b o c) (hl:b < w.heap.size):CellAt (w.alloc ob) b o c:=h.block (Below.heap_alloc w ob b hl)
theorem XS {w6:World} {o:Obj} {b:Nat} (h:(w6.alloc o).drew.heap.size≤b):w6.heap.size + 1≤b:=by
 have e:(w6.alloc o).drew.heap.size=w6.heap.size + 1:=size_alloc w6 o;omega
theorem JO {w6:World} {o o2:Obj} {b:Nat} (h:((w6.alloc o).alloc o2).drew.heap.size≤b):w6.heap.size + 1 + 1≤b:=by
 have e:((w6.alloc o).alloc o2).drew.heap.size=w6.heap.size + 1 + 1:=by show ((w6.alloc o).alloc o2).heap.size=_;rw [size_alloc,size_alloc]
 omega
theorem OneIn.apart {w w':World} {mm g:Nat} {c:ce.Cell} {vs:List Value} {t:TypeId} (h:OneIn w mm c) (hA:Apart [g] w w') (hg:Vb w g vs t) (h1:118 ≠ t) (h2:247 ≠ t):OneIn w' mm c:=by
 obtain ⟨r,n,k1,k2⟩:=h
 exact ⟨r,n,k1.apart hA (λhx=>qa k1 hg h1 (by simpa using hx)),k2.apart hA (λhx=>qa k2 hg h2 (by simpa using hx))⟩
theorem OneIn.later {w w':World} {mm:Nat} {c:ce.Cell} (h:OneIn w mm c) (hb:Below w.heap.size w w'):OneIn w' mm c:=by
 obtain ⟨r,n,k1,k2⟩:=h;exact ⟨r,n,qU k1 hb,qU k2 hb⟩
def Cel (w0:World) (a:Ad) (x:rf.Node) (c:ce.Cell) (w:World):Prop:=
 ∃ b3 k3,Wd w0 a x (M4 (ce.enc c)) (6 + (ce.enc c).length) c.seq c.seq 1 (.slice (some ⟨b3,0,none⟩) 1 k3) w∧OneIn w a.mm c
theorem Cel.later {w0 w w':World} {a:Ad} {x:rf.Node} {c:ce.Cell} (h:Cel w0 a x c w) (hb:Below w.heap.size w w'):Cel w0 a x c w':=by
 obtain ⟨b3,k3,h1,h2⟩:=h;exact ⟨b3,k3,h1.later hb,h2.later hb⟩
section
variable {w0 w:World} {a:Ad} {x:rf.Node} {idx:Nat}
set_option maxHeartbeats 8000000 in
theorem YV (u:FrameMode) (c:ce.Cell) (h:Wd w0 a x M3 0 idx 0 0 (.slice none 0 0) w) (hnil:qH w a.mm) (htab:TabAt w0) (hmay:ce.may c=true) (hts:c.ts < 18446744073709551616) (hsq:c.seq < 18446744073709551616) (hc:x.commit≤x.log.length) (hx:x.log.length≤10000) (hi:x.commit=idx + 1) (ht:(x.log.getD idx rl.e0).2=tx c) (h100:idx≤100) :
  CallsD Tryz.prog 122 #[.pointer (some ⟨a.wd,0,none⟩)] u w λe u' w'=>u'=u∧(e=.returned (.tuple #[])∧Cel w0 a x { c with seq:=idx + 1 } w'):=by
 have HLOW:Hid (∀ w',Below w.heap.size w w'→∀ y ∈ [a.p,a.b,a.lg,a.ge,a.mm],y < w'.heap.size):=Uq λw' hb y hy=>by
  obtain ⟨d,T2,m,hF,_⟩:=h.one.free2;have:=hb.size;simp only [List.mem_cons,List.not_mem_nil,or_false] at hy
  rcases hy with rfl | rfl | rfl | rfl | rfl
  ·have:=hF.disk.dk.blk.lt;omega
  ·have:=hF.disk.dk.map.lt;omega
  ·have:=Vb.lt h.rest.eng.lg;omega
  ·have:=h.rest.eng.blk.lt;omega
  ·have:=Vb.lt hnil;omega
 have HU:=Uq (Y3 h)
 have HCM:=Uq λw' (hb:Below w.heap.size w w')=>zd (h.later hb).one hc hx
 have HK:Hid (∀ w',Below w.heap.size w w'→w'.cell? ⟨a.wd,0,none⟩=some (.pointer (some ⟨a.c,0,none⟩))∧w'.cell? ⟨a.wd,1,none⟩=some (.slice (some ⟨a.nb,0,none⟩) 1 1)∧w'.cell? ⟨a.nb,1,none⟩=some (.int .u64 (idx:Int))):=Uq λw' hb=>⟨(h.later hb).c0,(h.later hb).c1,(h.later hb).n1⟩
 have HNB:Hid (∀ w',Below w.heap.size w w'→w'.cell? ⟨a.wd,1,none⟩=some (.slice (some ⟨a.nb,0,none⟩) 1 1)∧Vb w' a.nb (nbC a idx (.slice none 0 0)) 208):=Uq λw' hb=>⟨(h.later hb).c1,(h.later hb).rest.nb⟩
 obtain ⟨T,hT⟩:∃ T,tx c=T:=⟨_,rfl⟩
 have HAP:Hid (∀ w',Calls Tryz.prog 250 #[.agg (stA idx (.slice none 0 0)),.string (crcm.mk T)] w' λe w''=>∃ b2 k2 b3 k3,e=.returned (.tuple #[.agg (stA (idx + 1) (.slice (some ⟨b3,0,none⟩) 1 k3)),.agg #[.int .i64 0,.bool false,.slice (some ⟨b2,0,none⟩) 1 k2,.slice none 0 0]])∧CellAt w'' b2 0 { c with seq:=idx + 1 }∧1≤k2∧w'.heap.size≤b2∧Below w'.heap.size w' w''):=Uq λw'=>by rw [← hT];exact Vu c hmay hts hsq idx h100 w'
 have HEF:=Uq λw' (hb:Below w.heap.size w w') (d:Value)=>yJ (h.later hb) (qU hnil hb) { c with seq:=idx + 1 } hmay hts (idx + 1) (by omega) (by omega) htab d
 have hL:(x.log.take x.commit).length=idx + 1:=by rw [List.length_take];omega
 have hg:(x.log.take x.commit).getD idx rl.e0=x.log.getD idx rl.e0:=by
  rw [List.getD_eq_getElem?_getD,List.getD_eq_getElem?_getD,List.getElem?_take,if_pos (by omega)]
 have HOW:Hid (∀ (w1 w5:World) D e',w5.ownsRow w1.heap.size 36 2 (.slice D (idx + 1) e') (idx + 1) (qg (x.log.take x.commit))→∃ b o t,frmE D idx e'=some ⟨b,o,none⟩∧e' - idx=e' - idx∧w5.cell? ⟨b,o,none⟩=some (.int .u64 t)∧w5.cell? ⟨b,o + 1,none⟩=some (.string (crcm.mk T))):=Uq λw1 w5 D e' ho=>by
  have hE:=Qw (ls:=x.log.take x.commit) (base:=w1.heap.size) (by rw [hL];exact ho)
  obtain ⟨A,c,e1,h1,h2,h3⟩:=hE
  injection e1 with q1 q2 q3
  subst q1;subst q3
  obtain ⟨b,o,rfl,h4⟩:=h3 (by omega)
  have h5:=h4 idx (by omega)
  rw [hg,ht,hT] at h5;refine ⟨b,o + idx * 2,_,?_,rfl,h5.1,h5.2⟩;unfold frmE
  rw [if_neg (by omega)]
  simp [Addr.add]
 rw [hL] at HCM;have c1:=h.c1
 have HSL:=Uq λ(D:Option Addr) (c:Nat) (w:World)=>Z1 D idx (idx + 1) c (by omega) w
 rw [Nat.add_sub_cancel_left] at HSL;have HH:=Uq h;clear h hc hx hi hL hg ht hmay hts hsq hnil hT;unfold cptr at HCM
 go_enter_d Tryz.func122,Tryz.ntmps122
 go_upto_region 1 with fail
 go_loopw [13] (λi wr=>(i=.int .i64 0∧wr=w)∨(i=.int .i64 1∧Cel w0 a x { c with seq:=idx + 1 } wr)) (λi _=>1 - (intOf i).toNat)
 case atStart=>exact .inl ⟨rfl,rfl⟩
 case round=>
  rcases hrel with ⟨rfl,rfl⟩ | ⟨rfl,hD⟩
  ·go_upto_region 5 with (go_at_call 143;refine HU.out.mono ?_;rintro e w1 ⟨rfl,hb⟩;have hW:=hb)
   have HSL2:=HSL.out;have hW:Below wr.heap.size wr w1.drew:=below_drewN hW 1
   go_region_held3 (λw'=>w'.cell? ⟨a.wd,0,none⟩=some (.pointer (some ⟨a.c,0,none⟩))∧w'.cell? ⟨a.wd,1,none⟩=some (.slice (some ⟨a.nb,0,none⟩) 1 1)∧w'.cell? ⟨a.nb,1,none⟩=some (.int .u64 (idx:Int))) (exact HK.out _ hW) ((go_at_call 13;refine (HCM.out _ hW).mono ?_;rintro e w5 ⟨D,e',rfl,ho,hb5⟩;have hW:=hW.trans (hb5.mono hW.size)))
   have HW:=Uq hW;obtain ⟨b,o,t,hfr,-,g0,g1⟩:=HOW.out _ _ _ _ ho;have HHELD:=HK.out _ HW.out;clear hW hb hb5 HSL2 ho;go_upto_region 6 with fail;rw [hfr]
   go_loopw [44] (λi wx=>(i=.int .i64 0∧wx=w5)∨(i=.int .i64 1∧Cel w0 a x { c with seq:=idx + 1 } wx)) (λi _=>1 - (intOf i).toNat)
   case atStart=>exact .inl ⟨rfl,rfl⟩
   case round=>
    rcases hrel with ⟨rfl,rfl⟩ | ⟨rfl,hD⟩
    ·go_upto_region 8 with fail;have hW6:Below wr.heap.size wr (wr.alloc (.cells #[.int .u64 t,.string (crcm.mk T)] 36)):=(Below.refl _ wr).alloc (Nat.le_refl _) _;have e4:(wr.alloc (.cells #[.int .u64 t,.string (crcm.mk T)] 36)).cell? ⟨wr.heap.size,1,none⟩=some (.string (crcm.mk T)):=(Vb.new wr [.int .u64 t,.string (crcm.mk T)] 36).cell 1 _ rfl
     have hlt4:wr.heap.size < (wr.alloc (.cells #[.int .u64 t,.string (crcm.mk T)] 36)).heap.size:=by rw [size_alloc];omega
     obtain ⟨k4,hk4⟩:∃ k4,wr.heap.size=k4:=⟨_,rfl⟩;have HW6:=Uq (HW.out.trans (hW6.mono HW.out.size));obtain ⟨w6,hw6⟩:∃ w6,wr.alloc (.cells #[.int .u64 t,.string (crcm.mk T)] 36)=w6:=⟨_,rfl⟩;rw [hw6,hk4] at e4 hlt4;rw [hw6] at HW6 ⊢;rw [hk4]
     have HS6:Hid (∀ w',Below w6.heap.size w6 w'→w'.cell? ⟨a.wd,1,none⟩=some (.slice (some ⟨a.nb,0,none⟩) 1 1)∧w'.cell? ⟨k4,1,none⟩=some (.string (crcm.mk T))∧w'.cell? ⟨a.nb,1,none⟩=some (.int .u64 (idx:Int))∧w'.cell? ⟨a.nb,2,none⟩=some (.int .u64 0)∧w'.cell? ⟨a.nb,3,none⟩=some (.slice none 0 0)∧w'.cell? ⟨a.nb,4,none⟩=some (.slice none 0 0)∧w'.cell? ⟨a.nb,5,none⟩=some (.slice none 0 0)):=Uq λw' hb=>by
      obtain ⟨q1,q2⟩:=HNB.out _ (HW6.out.trans (hb.mono HW6.out.size));exact ⟨q1,(World.cell?_of_block (a:=⟨k4,1,none⟩) (hb.block _ hlt4)).trans e4,q2.cell 1 _ rfl,q2.cell 2 _ rfl,q2.cell 3 _ rfl,q2.cell 4 _ rfl,q2.cell 5 _ rfl⟩
     have HAP2:=HAP;unfold stA at HAP2;have hW:=below_drewN (Below.refl w6.heap.size w6) 1;clear hW6 hlt4 hw6 hk4 g0 g1 HHELD c1 e4
     go_cut [5,6] (λs5 s6 wx=>∃ k5 k6 b2 k2 b3 k3,s5=.pointer (some ⟨k5,0,none⟩)∧s6=.pointer (some ⟨k6,0,none⟩)∧Below w6.heap.size w6 wx∧w6.heap.size≤k5∧w6.heap.size≤k6∧(wx.cell? ⟨k5,0,none⟩=some (.int .u64 ((idx:Int) + 1))∧wx.cell? ⟨k5,1,none⟩=some (.int .u64 0)∧wx.cell? ⟨k5,2,none⟩=some (.slice none 0 0)∧wx.cell? ⟨k5,3,none⟩=some (.slice none 0 0)∧wx.cell? ⟨k5,4,none⟩=some (.slice (some ⟨b3,0,none⟩) 1 k3))∧(wx.cell? ⟨k6,0,none⟩=some (.int .i64 0)∧wx.cell? ⟨k6,1,none⟩=some (.bool false)∧wx.cell? ⟨k6,2,none⟩=some (.slice (some ⟨b2,0,none⟩) 1 k2)∧wx.cell? ⟨k6,3,none⟩=some (.slice none 0 0))∧CellAt wx b2 0 { c with seq:=idx + 1 }∧1≤k2)
     case first=>
      go_region_held3 (λw'=>w'.cell? ⟨a.wd,1,none⟩=some (.slice (some ⟨a.nb,0,none⟩) 1 1)∧w'.cell? ⟨k4,1,none⟩=some (.string (crcm.mk T))∧w'.cell? ⟨a.nb,1,none⟩=some (.int .u64 (idx:Int))∧w'.cell? ⟨a.nb,2,none⟩=some (.int .u64 0)∧w'.cell? ⟨a.nb,3,none⟩=some (.slice none 0 0)∧w'.cell? ⟨a.nb,4,none⟩=some (.slice none 0 0)∧w'.cell? ⟨a.nb,5,none⟩=some (.slice none 0 0)) (with_reducible exact HS6.out _ (by repeat (first | with_reducible exact hW | with_reducible exact Below.refl _ _ | with_reducible apply Below.drew | with_reducible apply Below.alloc' | with_reducible apply Below.store' | (have:=hW.size;omega)))) ((go_at_call 250;refine (HAP2.out _).mono ?_;rintro e w7 ⟨b2,k2,b3,k3,rfl,hca,hk2,hb2,hb7⟩;have hl7:=Zo (hca 0 _ rfl);have HCA:=Uq hca;have HK2:=Uq hk2;clear hca hk2;first | (have hW:=hW.trans (hb7.mono hW.size);have hs2:w6.heap.size≤b2:=hb2;clear hb2) | (have hq:=yD hb7;have hs2:=JO hb2;clear hb2;obtain ⟨hW,hV1,hV2⟩:=hq;first | ((have hy:=zt (a0:=.int .u64 0) hV1;obtain ⟨p0,p1,p2,p3,p4,f0,f1,f2,f3,f4⟩:=hy);(have hz:=zc (a0:=.int .i64 0) hV2;obtain ⟨r0,r1,r2,r3,s0,s1,s2,s3⟩:=hz)) | ((have hy:=zt (a0:=.int .u64 0) hV2;obtain ⟨p0,p1,p2,p3,p4,f0,f1,f2,f3,f4⟩:=hy);(have hz:=zc (a0:=.int .i64 0) hV1;obtain ⟨r0,r1,r2,r3,s0,s1,s2,s3⟩:=hz))) | (have hq:=Yz hb7;have hs2:=XS hb2;clear hb2;obtain ⟨hW,hV1,hne1,hne2⟩:=hq;first | (have hy:=zt (a0:=.int .u64 0) (hV1 (.cells #[.int .i64 0,.bool false,.slice none 0 0,.slice none 0 0] 338));obtain ⟨p0,p1,p2,p3,p4,f0,f1,f2,f3,f4⟩:=hy;have hy2:=zt (a0:=.int .u64 0) (hV1 (.cells #[.int .i64 0,.bool false,.slice (some ⟨b2,0,none⟩) 1 k2,.slice none 0 0] 338));obtain ⟨p5,p6,p7,p8,p9,f5,f6,f7,f8,f9⟩:=hy2) | (have hz:=zc (a0:=.int .i64 0) (hV1 (.cells #[.int .u64 0,.int .u64 0,.slice none 0 0,.slice none 0 0,.slice none 0 0] 206));obtain ⟨r0,r1,r2,r3,s0,s1,s2,s3⟩:=hz;have hz2:=zc (a0:=.int .i64 0) (hV1 (.cells #[.int .u64 ((idx:Int) + 1),.int .u64 0,.slice none 0 0,.slice none 0 0,.slice (some ⟨b3,0,none⟩) 1 k3] 206));obtain ⟨r4,r5,r6,r7,s4,s5,s6,s7⟩:=hz2))))
      all_goals
       go_wp2_with fail;go_meet
       refine ⟨_,_,b2,k2,b3,k3,rfl,rfl,by repeat (first | with_reducible exact hW | with_reducible exact Below.refl _ _ | with_reducible apply Below.drew | with_reducible apply Below.alloc' | with_reducible apply Below.store' | (have:=hW.size;omega)),by have:=hW.size;omega,by have:=hW.size;omega,?_,?_,?_,HK2.out⟩
       ·refine ⟨?_,?_,?_,?_,?_⟩ <;> (first | (simp [World.cell?_setCell_same',World.cell?_setCell_other, *];done) | (go_keep;done) | (go_simp;done))
       ·refine ⟨?_,?_,?_,?_⟩ <;> (first | (simp [World.cell?_setCell_same',World.cell?_setCell_other, *];done) | (go_keep;done) | (go_simp;done))
       ·repeat (first | with_reducible exact HCA.out | with_reducible apply CellAt.drew | with_reducible apply J5 | with_reducible apply KE | (simp only [size_alloc];omega) | omega)
     case rest=>
      obtain ⟨k5,k6,b2,k2,b3,k3,rfl,rfl,hB6,hk5,hk6,hc5,hc6,hca,hk2⟩:=hcut;have hlt5:=Zo hc5.1;obtain ⟨v0,v1,v2,v3,v4⟩:=hc5;obtain ⟨y0,y1,y2,y3⟩:=hc6;have t4:=(HS6.out _ hB6).2.1;have HB6:=Uq (HW6.out.trans (hB6.mono HW6.out.size));have HE6:=Uq (HEF.out _ HB6.out (.string (crcm.mk T)) b2 k2 hca hk2);unfold efV at HE6
      rw [show ((idx + 1:Nat):Int)=(idx:Int) + 1 from rfl] at HE6
      have hk5S:k5 ∉ [a.p,a.b,a.lg,a.ge,a.mm]:=λhx=>by
       have:=HLOW.out _ HW6.out k5 hx;omega
      have HV5:Hid (∀ w',Apart [a.p,a.b,a.lg,a.ge,a.mm] wc w'→w'.cell? ⟨k5,0,none⟩=some (.int .u64 ((idx:Int) + 1))∧w'.cell? ⟨k5,1,none⟩=some (.int .u64 0)∧w'.cell? ⟨k5,2,none⟩=some (.slice none 0 0)∧w'.cell? ⟨k5,3,none⟩=some (.slice none 0 0)∧w'.cell? ⟨k5,4,none⟩=some (.slice (some ⟨b3,0,none⟩) 1 k3)):=Uq λw' hb=>⟨(World.cell?_of_block (a:=⟨k5,0,none⟩) (hb.block _ hlt5 hk5S)).trans v0,(World.cell?_of_block (a:=⟨k5,1,none⟩) (hb.block _ hlt5 hk5S)).trans v1,(World.cell?_of_block (a:=⟨k5,2,none⟩) (hb.block _ hlt5 hk5S)).trans v2,(World.cell?_of_block (a:=⟨k5,3,none⟩) (hb.block _ hlt5 hk5S)).trans v3,(World.cell?_of_block (a:=⟨k5,4,none⟩) (hb.block _ hlt5 hk5S)).trans v4⟩
      clear hB6 hk5 hk6 hlt5 hca hk2 hk5S
      go_upto_region 10 with (go_at_call 251;refine HE6.out.mono ?_;rintro e w8 ⟨rfl,hd8,ho8,hb8⟩;obtain ⟨z0,z1,z2,z3,z4⟩:=HV5.out _ hb8;have HD8:=Uq hd8;have HO8:=Uq ho8)
      have c1:=HD8.out.c1;obtain ⟨hD,hA⟩:=HD8.out.put (idx + 1) (.slice (some ⟨b3,0,none⟩) 1 k3);have nbv:=HD8.out.rest.nb;have n1:=nbv.cell 1 _ rfl;have n2:=nbv.cell 2 _ rfl;have n3:=nbv.cell 3 _ rfl;have n4:=nbv.cell 4 _ rfl;have n5:=nbv.cell 5 _ rfl;have m1:=nbv.free 1;have m2:=nbv.free 2;have m3:=nbv.free 3;have m4:=nbv.free 4;have m5:=nbv.free 5
      have HCE:Hid (Cel w0 a x { c with seq:=idx + 1 } _):=Uq ⟨b3,k3,hD,HO8.out.apart hA nbv (by decide) (by decide)⟩
      rw [show ((idx + 1:Nat):Int)=(idx:Int) + 1 from rfl] at HCE
      clear v0 v1 v2 v3 v4 y0 y1 y2 y3 t4 hb8 hD hA nbv hd8 ho8;go_upto_region 12 with fail;go_region;go_wp2_with fail
      exact ⟨.inr ⟨rfl,HCE.out.later (Below.refl _ _).drew⟩,by simp [intOf]⟩
    ·have HD:=Uq hD;clear hD;go_wp2_with fail
     exact ⟨.inr ⟨rfl,HD.out⟩,by simp [intOf]⟩
  ·have HD:=Uq hD;clear hD;go_wp2_with fail;go_end0;exact ⟨rfl,HD.out⟩
end
section
variable {w0 w:World} {a:Ad} {x:rf.Node} {M:vd.Files} {K idx last many:Nat} {cl:Value}
theorem Wd.round {w':World} {x':rf.Node} (h:Wd w0 a x M K idx last many cl w) (h1:One1 100000 w0 a.c a.p a.b a.g x' M K w') (hs:Qe a.p a.b a.g w w'):Wd w0 a x' M K idx last many cl w':=
 ⟨h1,h.rest.stay h.one hs h1.bel⟩
theorem jE {m k:Nat} (h:Wd w0 a x M K idx last many cl w) (hb:w.cell? ⟨k,0,none⟩=some (.pointer (some ⟨a.c,0,none⟩))) (ha:Able m x) (hq:(rf.tick x).2=[]) (hm:m + 1≤480) (ht:TabAt w0) :
  Calls Tryz.prog 135 #[.pointer (some ⟨k,0,none⟩)] w λe w'=>e=.returned (.int .i64 0)∧Wd w0 a (rf.tick x).1 M K idx last many cl w'∧Qe a.p a.b a.g w w':=by
 have HR:=Uq (XH h.one ha hq (by omega) (by omega) ht)
 have HH:=Uq h;clear h ha hq;unfold cptr at HR
 go_enter Tryz.func135,Tryz.ntmps135
 go_wp2_with (go_at_call 10;refine HR.out.mono ?_;rintro e w1 ⟨rfl,ho,hs⟩;have HO:=Uq ho;have HS:=Uq hs;clear ho hs)
 go_ret;exact ⟨rfl,HH.out.round HO.out HS.out,HS.out⟩
end
theorem YO (w:World) (o1 o2 o4:Obj) (v:Value) (t:TypeId):((((w.alloc o1).alloc o2).alloc (.cells #[v] t)).alloc o4).cell? ⟨w.heap.size + 1 + 1,0,none⟩=some v:=by
 have e:=Vb.new ((w.alloc o1).alloc o2) [v] t;rw [size_alloc,size_alloc] at e;exact (qU e ((Below.refl _ _).alloc (Nat.le_refl _) o4)).cell 0 _ rfl
section
variable {w0 w:World} {a:Ad} {x:rf.Node} {M:vd.Files} {K idx last many:Nat} {cl:Value}
def actR:Value:=.agg #[.int .i64 7,.int .i64 0,.int .i64 0,.int .i64 0]
theorem jZ {m:Nat} (h:Wd w0 a x M K idx last many cl w) (ha:Able m x) (hq:(rf.tick x).2=[]) (hm:m + 1≤480) (ht:TabAt w0) (hc:(rf.tick x).1.commit≤(rf.tick x).1.log.length) (hx:(rf.tick x).1.log.length≤10000) (hi:(rf.tick x).1.commit=idx) :
  Calls Tryz.prog 39 #[.pointer (some ⟨a.wd,0,none⟩),actR] w λe w'=>e=.returned (.int .i64 0)∧Wd w0 a (rf.tick x).1 M K idx last many cl w'∧∃ w1 w2,Below w.heap.size w w1∧Qe a.p a.b a.g w1 w2∧Below w2.heap.size w2 w':=by
 have hmf:∀ (fn:Fn) (first cap:Array Value) (w:World),(Instr.makeFunc fn first cap).run Tryz.prog w=.ok (.func fn first cap) w:=λ_ _ _ _=>rfl
 have HH:=Uq h;have c0:=h.c0;have c2:=(h.later (Below.alloc' (Below.alloc' (Below.refl _ w) (.cells #[.pointer (some ⟨a.wd,0,none⟩)] 73)) (.cells #[.int .i64 7,.int .i64 0,.int .i64 0,.int .i64 0] 84))).c0
 have HR:=Uq λw' (hb:Below w.heap.size w w') (k:Nat) hk=>jE (k:=k) (h.later hb) hk ha hq hm ht
 have HAP:=Uq λw' (hd:Wd w0 a (rf.tick x).1 M K idx last many cl w') (u:FrameMode)=>YU u hd hc hx hi
 clear h ha hq hc hx hi;unfold actR
 go_enter_defers Tryz.func39,Tryz.ntmps39
 go_upto_region 6 with fail
 go_wp2_with (go_at_call 135;refine (HR.out _ (Below.alloc' (Below.alloc' (Below.alloc' (Below.alloc' (Below.refl _ w) _) _) _) _) _ (YO w _ _ _ _ _)).mono ?_;rintro e w1 ⟨rfl,hd,hs⟩;have HD:=Uq hd;have HS:=Uq hs;clear hd hs)
 refine leaves_cons (f:=122) (args:=#[.pointer (some ⟨a.wd,0,none⟩)]) (by simp) (by simp [go_sem]) ?_
 refine (HAP.out _ HD.out .returning).mono ?_;rintro e u' w'' ⟨rfl,rfl,hb⟩;exact ⟨_,results_tmp rfl _ _ _,rfl,HD.out.later hb,_,w1,Below.alloc' (Below.alloc' (Below.alloc' (Below.alloc' (Below.refl _ w) _) _) _) _,HS.out,hb⟩
theorem xW {m:Nat} (h:Wd w0 a x M K idx last many (.slice none 0 0) w) (ha:Able m x) (hq:(rf.tick x).2=[]) (hm:m + 1≤480) (ht:TabAt w0) (hc:(rf.tick x).1.commit≤(rf.tick x).1.log.length) (hx:(rf.tick x).1.log.length≤10000) (hi:(rf.tick x).1.commit=idx + 1) (htx:((rf.tick x).1.log.getD idx rl.e0).2=[]) (hl:last < idx + 1) (h100:idx≤100) :
  Calls Tryz.prog 39 #[.pointer (some ⟨a.wd,0,none⟩),actR] w λe w'=>e=.returned (.int .i64 0)∧Wd w0 a (rf.tick x).1 M K (idx + 1) last many (.slice none 0 0) w'∧∃ w1 w2,Below w.heap.size w w1∧Qe a.p a.b a.g w1 w2∧Apart [a.nb] w2 w':=by
 have hmf:∀ (fn:Fn) (first cap:Array Value) (w:World),(Instr.makeFunc fn first cap).run Tryz.prog w=.ok (.func fn first cap) w:=λ_ _ _ _=>rfl
 have HH:=Uq h;have c0:=h.c0;have c2:=(h.later (Below.alloc' (Below.alloc' (Below.refl _ w) (.cells #[.pointer (some ⟨a.wd,0,none⟩)] 73)) (.cells #[.int .i64 7,.int .i64 0,.int .i64 0,.int .i64 0] 84))).c0
 have HR:=Uq λw' (hb:Below w.heap.size w w') (k:Nat) hk=>jE (k:=k) (h.later hb) hk ha hq hm ht
 have HAP:=Uq λw' (hd:Wd w0 a (rf.tick x).1 M K idx last many (.slice none 0 0) w') (u:FrameMode)=>kV u hd hc hx hi htx hl h100
 clear h ha hq hc hx hi htx hl h100;unfold actR
 go_enter_defers Tryz.func39,Tryz.ntmps39
 go_upto_region 6 with fail
 go_wp2_with (go_at_call 135;refine (HR.out _ (Below.alloc' (Below.alloc' (Below.alloc' (Below.alloc' (Below.refl _ w) _) _) _) _) _ (YO w _ _ _ _ _)).mono ?_;rintro e w1 ⟨rfl,hd,hs⟩;have HD:=Uq hd;have HS:=Uq hs;clear hd hs)
 refine leaves_cons (f:=122) (args:=#[.pointer (some ⟨a.wd,0,none⟩)]) (by simp) (by simp [go_sem]) ?_
 refine (HAP.out _ HD.out .returning).mono ?_;rintro e u' w'' ⟨rfl,rfl,hd2,hb⟩;exact ⟨_,results_tmp rfl _ _ _,rfl,hd2,_,w1,Below.alloc' (Below.alloc' (Below.alloc' (Below.alloc' (Below.refl _ w) _) _) _) _,HS.out,hb⟩
end
def xs:Nat→rf.Node
 | 0=>rf.new 0 1 0 (-1) []
 | r + 1=>(rf.tick (xs r)).1
def ix (r:Nat):Nat:=if r < 10 then 0 else 1
def VC (r:Nat):Bool:=((rf.tick (xs r)).2=[]:Bool) && decide ((rf.tick (xs r)).1.id=(xs r).id) && decide ((rf.tick (xs r)).1.many=(xs r).many) && decide ((rf.tick (xs r)).1.commit≤(rf.tick (xs r)).1.log.length) && decide ((rf.tick (xs r)).1.log.length≤100) && decide ((rf.tick (xs r)).1.commit=ix (r + 1)) && decide (((rf.tick (xs r)).1.log.getD 0 rl.e0).2=[])
theorem VA:(List.range 12).all VC=true:=by kernel_rfl
theorem kT {r:Nat} (h:r < 12):(rf.tick (xs r)).2=[]∧(rf.tick (xs r)).1.id=(xs r).id∧(rf.tick (xs r)).1.many=(xs r).many∧(rf.tick (xs r)).1.commit≤(rf.tick (xs r)).1.log.length∧(rf.tick (xs r)).1.log.length≤100∧(rf.tick (xs r)).1.commit=ix (r + 1)∧((rf.tick (xs r)).1.log.getD 0 rl.e0).2=[]:=by
 have h1:=List.all_eq_true.1 VA r (List.mem_range.2 h);unfold VC at h1;simp only [Bool.and_eq_true,decide_eq_true_eq] at h1;obtain ⟨⟨⟨⟨⟨⟨a,b⟩,c⟩,d⟩,e⟩,f⟩,g⟩:=h1;exact ⟨a,b,c,d,e,f,g⟩
theorem yN:∀ r,r≤12→Able r (xs r)
 | 0,_=>⟨rfl,rfl,⟨Nat.le_refl _,λh=>absurd h (by decide),Nat.le_refl _,by decide,by decide,(λ_ h=>by cases h),by decide⟩⟩
 | r + 1,h=>(yN r (by omega)).tick (by omega) ⟨(kT (r:=r) (by omega)).2.1,(kT (r:=r) (by omega)).2.2.1⟩
section
variable {w0 w:World} {a:Ad} {M:vd.Files} {K many:Nat}
theorem Kq {x:rf.Node} {idx last:Nat} {cl:Value} {w1 w2:World} (h:Wd w0 a x M K idx last many cl w) (hn:qH w a.mm) (hb:Below w.heap.size w w1) (hs:Qe a.p a.b a.g w1 w2):qH w2 a.mm:=
 zC (a:=a) _ _ (h.later hb).one hs (qU hn hb) (by decide) (by decide) (by decide)
theorem jY {r:Nat} (hr:r < 12) (h:Wd w0 a (xs r) M K (ix r) 0 many (.slice none 0 0) w) (hn:qH w a.mm) (ht:TabAt w0) :
  Calls Tryz.prog 39 #[.pointer (some ⟨a.wd,0,none⟩),actR] w λe w'=>e=.returned (.int .i64 0)∧Wd w0 a (xs (r + 1)) M K (ix (r + 1)) 0 many (.slice none 0 0) w'∧qH w' a.mm:=by
 obtain ⟨a1,a2,a3,a4,a5,a6,a7⟩:=kT hr
 by_cases h9:r=9
 ·subst h9
  refine (xW (m:=9) (idx:=0) (last:=0) h (yN 9 (by omega)) a1 (by omega) ht a4 (by omega) a6 a7 (by omega) (by omega)).mono ?_
  rintro e w' ⟨rfl,hd,w1,w2,hb,hs,hA⟩;have hm:=Kq h hn hb hs
  exact ⟨rfl,hd,hm.apart hA λhx=>qa hn h.rest.nb (by decide) (by simpa using hx)⟩
 ·have e:ix (r + 1)=ix r:=by
   unfold ix
   by_cases h1:r < 10
   ·rw [if_pos h1,if_pos (by omega)]
   ·rw [if_neg h1,if_neg (by omega)]
  refine (jZ h (yN r (by omega)) a1 (by omega) ht a4 (by omega) (by rw [a6,e])).mono ?_
  rintro e w' ⟨rfl,hd,w1,w2,hb,hs,hb2⟩;rw [e];exact ⟨rfl,hd,qU (Kq h hn hb hs) hb2⟩
end
section
variable {w0 w w':World} {a:Ad} {x:rf.Node} {M:vd.Files} {K idx last many:Nat} {cl:Value}
theorem Wd.dsk (h:Wd w0 a x M K idx last many cl w) {d2:vd.Disk} (hA:Apart [a.dp] w w') (hd:Ldk w0 w' a.dp a.db d2) (hoff:d2.off=false):Wd w0 a x M K idx last many cl w':=by
 obtain ⟨d,hd0,_⟩:=h.rest.dsk;have hp:=hd0.dk.blk
 have hne:∀ y vs t,Vb w y vs t→t ≠ 177→y ∉ [a.dp]:=λy vs t hy ht hx=>qa hy hp ht (by simpa using hx)
 have htb:a.tb ∉ [a.dp]:=λhx=>by
  have e:a.tb=a.dp:=by simpa using hx
  have e4:=h.rest.eng.tb;rw [e] at e4;unfold Vb at hp;rw [e4] at hp
  cases hp
 have hE:=h.rest.eng;have hed:Vb w a.ed (lgV a.p ⟨MANI,0,false⟩) 306:=hE.ed;have hlg:Vb w a.lg (lgV a.p ⟨ELOG,many,false⟩) 306:=hE.lg;have hjg:Vb w a.jg (lgV a.dp ⟨JOBS,0,false⟩) 306:=h.rest.jg;obtain ⟨n1,n2,n3,n4,n5,n6⟩:=h.rest.ne
 refine ⟨h.one.outs hA λy hy=>?_,⟨h.rest.wd.apart hA (hne _ _ _ h.rest.wd (by decide)),h.rest.nb.apart hA (hne _ _ _ h.rest.nb (by decide)),⟨hE.blk.apart hA (hne _ _ _ hE.blk (by decide)),hed.apart hA (hne _ _ _ hed (by decide)),hlg.apart hA (hne _ _ _ hlg (by decide)),(hA.block _ (Array.getElem?_eq_some_iff.1 hE.tb).1 htb).trans hE.tb⟩,h.rest.dr.apart hA (hne _ _ _ h.rest.dr (by decide)),hjg.apart hA (hne _ _ _ hjg (by decide)),⟨d2,hd,hoff⟩,h.rest.hnb,h.rest.hge,h.rest.hmm,h.rest.hlg,h.rest.ne⟩⟩
 obtain rfl:y=a.dp:=by simpa using hy
 exact ⟨hd0.hp,.inl ⟨_,_,hp,by decide,λ_ e=>n4 e.symm,λe=>absurd e (by decide)⟩⟩
theorem kU (h:Wd w0 a x M K idx last many cl w) :
  Calls Tryz.prog 116 #[.pointer (some ⟨a.dp,0,none⟩),.int .i64 0,.int .i64 0] w λe w'=>e=.returned (.tuple #[])∧Wd w0 a x M K idx last many cl w'∧Apart [a.dp] w w':=by
 obtain ⟨d,hd,hoff⟩:=h.rest.dsk
 refine (xA 0 0 hd (by decide)).mono ?_
 rintro e w' ⟨rfl,h2,h3⟩;exact ⟨rfl,h.dsk h3 h2 hoff,h3⟩
theorem wd_fuse (h:Wd w0 a x M K idx last many cl w) :
  Calls Tryz.prog 117 #[.pointer (some ⟨a.c,0,none⟩),.int .i64 0,.int .i64 0,.int .i64 0] w λe w'=>e=.returned (.int .i64 0)∧Wd w0 a x M K idx last many cl w'∧Qe a.p a.b a.g w w':=by
 have hf:=uc 0 h.one;unfold cptr at hf;refine hf.mono ?_;rintro e w' ⟨rfl,h2,h3⟩;exact ⟨rfl,h.round h2 h3,h3⟩
end
section
variable {w0 w w':World} {a:Ad} {M:vd.Files} {K many r:Nat}
def SetAt (w0:World) (a:Ad) (M:vd.Files) (K many r:Nat) (w:World):Prop:=Wd w0 a (xs r) M K (ix r) 0 many (.slice none 0 0) w∧qH w a.mm
theorem SetAt.later (h:SetAt w0 a M K many r w) (hb:Below w.heap.size w w'):SetAt w0 a M K many r w':=⟨h.1.later hb,qU h.2 hb⟩
theorem VL (h:SetAt w0 a M K many r w) :
  Calls Tryz.prog 116 #[.pointer (some ⟨a.dp,0,none⟩),.int .i64 0,.int .i64 0] w λe w'=>e=.returned (.tuple #[])∧SetAt w0 a M K many r w':=
 (kU h.1).mono (by
  rintro e w' ⟨rfl,h2,h3⟩;obtain ⟨d,hd,_⟩:=h.1.rest.dsk
  exact ⟨rfl,h2,h.2.apart h3 λhx=>qa h.2 hd.dk.blk (by decide) (by simpa using hx)⟩)
theorem VK (h:SetAt w0 a M K many r w) :
  Calls Tryz.prog 117 #[.pointer (some ⟨a.c,0,none⟩),.int .i64 0,.int .i64 0,.int .i64 0] w λe w'=>e=.returned (.int .i64 0)∧SetAt w0 a M K many r w':=
 (wd_fuse h.1).mono (by
  rintro e w' ⟨rfl,h2,h3⟩
  exact ⟨rfl,h2,Kq h.1 h.2 (Below.refl _ _) h3⟩)
theorem Xw (h:SetAt w0 a M K many r w) :
  Calls Tryz.prog 118 #[.pointer (some ⟨a.wd,0,none⟩)] w λe w'=>e=.returned (.tuple #[])∧SetAt w0 a M K many r w':=
 (Vd h.1).mono (by
  rintro e w' ⟨rfl,hb⟩
  exact ⟨rfl,h.later hb⟩)
theorem xV (h:SetAt w0 a M K many 0 w) (hM:∀ y ∈ M,Known y.1) (ht:TabAt w0) :
  Calls Tryz.prog 37 #[.pointer (some ⟨a.wd,0,none⟩),.int .i64 12] w λe w'=>e=.returned (.tuple #[])∧SetAt w0 a M K many 12 w':=by
 have HD:=Uq (VL h)
 have HF:=Uq λw' (hw:SetAt w0 a M K many 0 w')=>VK hw
 have HA:=Uq λr w' (hw:SetAt w0 a M K many r w')=>Xw hw
 have HO:=Uq λr w' (hr:r < 12) (hw:SetAt w0 a M K many r w')=>jY hr hw.1 hw.2 ht
 have HC:=Uq λw' (hw:SetAt w0 a M K many 12 w')=>(Vc hw.1 hM).mono (R':=λe w''=>e=.returned (.int .i64 0)∧SetAt w0 a M K many 12 w'') (by rintro e w'' ⟨rfl,hb⟩;exact ⟨rfl,hw.later hb⟩)
 have HJ:=Uq λr w' (hw:SetAt w0 a M K many r w')=>jD hw.1.rest.dr
 have H0:=Uq λr w' (hw:SetAt w0 a M K many r w')=>hw.1.c0
 have H1:=Uq λr w' (hw:SetAt w0 a M K many r w')=>hw.1.c1
 have H3:=Uq λr w' (hw:SetAt w0 a M K many r w')=>hw.1.c3
 have c2:=h.1.c2;unfold actR at HO;clear h
 go_enter Tryz.func37,Tryz.ntmps37
 go_upto_region 1 with (go_at_call 116;refine HD.out.mono ?_;rintro e w1 ⟨rfl,hs⟩;have HS:=Uq hs;have c1:=H1.out _ _ hs;clear hs)
 go_upto_region 2 with fail
 go_loopw [17] (λi wr=>(i=.int .i64 0∧SetAt w0 a M K many 0 wr)∨(i=.int .i64 1∧SetAt w0 a M K many 0 wr)) (λi _=>1 - (intOf i).toNat)
 case atStart=>exact .inl ⟨rfl,HS.out⟩
 case round=>
  rcases hrel with ⟨rfl,hs⟩ | ⟨rfl,hs⟩
  ·have c0:=H0.out _ _ hs;have HS2:=Uq hs;clear hs
   go_wp2_with (go_at_call 117;refine (HF.out _ HS2.out).mono ?_;rintro e w2 ⟨rfl,hs⟩;have HS3:=Uq hs;clear hs)
   exact ⟨.inr ⟨rfl,HS3.out⟩,by simp [intOf]⟩
  ·have HS2:=Uq hs;clear hs
   go_upto_region 8 with (go_at_call 118;refine (HA.out _ _ HS2.out).mono ?_;rintro e w2 ⟨rfl,hs⟩;have HS3:=Uq hs;clear hs)
   go_loopw [32] (λi wx=>∃ r:Nat,r≤12∧i=.int .i64 r∧SetAt w0 a M K many r wx) (λi _=>12 - (intOf i).toNat)
   case atStart=>exact ⟨0,by omega,rfl,HS3.out⟩
   case round=>
    obtain ⟨r,hr,rfl,hs⟩:=hrel;have HS4:=Uq hs;clear hs
    by_cases hlt:r < 12
    ·go_upto_region 11 with (first | (go_at_call 39;refine (HO.out _ _ hlt HS4.out).mono ?_;rintro e w3 ⟨rfl,hd,hn⟩;have HS5:=Uq (show SetAt w0 a M K many (r + 1) w3 from ⟨hd,hn⟩);clear hd hn) | (go_at_call 118;refine (HA.out _ _ HS5.out).mono ?_;rintro e w4 ⟨rfl,hs⟩;have HS6:=Uq hs;clear hs))
     have c3:=H3.out _ _ HS6.out
     go_upto_region 12 with (go_at_call 119;refine (HJ.out _ _ HS6.out).mono ?_;rintro e w' ⟨rfl,rfl⟩)
     go_loopw [45] (λi wx=>i=.int .i64 0∧wx=w4) (λ_ _=>0)
     case atStart=>exact ⟨rfl,rfl⟩
     case round=>
      obtain ⟨rfl,rfl⟩:=hrel;go_wp2_with fail
      exact ⟨⟨r + 1,by omega,by go_num,HS6.out⟩,by simp [intOf];omega⟩
    ·obtain rfl:r=12:=by omega
     go_wp2_with (go_at_call 121;refine (HC.out _ HS4.out).mono ?_;rintro e w3 ⟨rfl,hs⟩;have HS5:=Uq hs;clear hs)
     go_end0;exact ⟨rfl,HS5.out⟩
end
def QL:ce.Cell:=⟨[114],[99],0,0,false,[118]⟩
def x13:rf.Node:=(rf.propose (xs 12) (tx QL)).1
theorem xs12:(xs 12).role=2∧(rf.propose (xs 12) (tx QL)).2.1=[]∧x13.commit=2∧x13.log.length=2∧(x13.log.getD 1 rl.e0).2=tx QL∧(xs 12).log.length=1:=by
 refine ⟨?_,?_,?_,?_,?_,?_⟩ <;> kernel_rfl
section
variable {w0 w:World} {a:Ad} {b k:Nat}
theorem jX (h:SetAt w0 a M3 0 0 12 w) (ht:TabAt w0) (hca:CellAt w b 0 QL) (hk:1≤k) :
  Calls Tryz.prog 38 #[.pointer (some ⟨a.wd,0,none⟩),.agg (cmdV (.slice (some ⟨b,0,none⟩) 1 k))] w λe w'=>e=.returned (.tuple #[.int .u64 2,.int .i64 0])∧Cel w0 a x13 { QL with seq:=2 } w':=by
 obtain ⟨p1,p2,p3,p4,p5,p6⟩:=xs12
 have HENC:=Uq λw' (hb:Below w.heap.size w w')=>ka QL (by decide) (by decide) (by decide) w' b 0 k (hca.later hb) hk
 have HLD:=Uq λw' (hb:Below w.heap.size w w')=>JE (h.later hb).1.one
 have HPR:=Uq λw' (hb:Below w.heap.size w w')=>K9 (m:=12) (tx QL) (by decide) (h.later hb).1.one (yN 12 (Nat.le_refl _)) p1 p2 (by decide) (by decide) ht
 rw [p1,if_pos rfl] at HLD;rw [p6] at HPR
 have HAP:Hid (∀ w1 w2 u,Below w.heap.size w w1→One1 100000 w0 a.c a.p a.b a.g (rf.propose (xs 12) (tx QL)).1 M3 0 w2→Qe a.p a.b a.g w1 w2→CallsD Tryz.prog 122 #[.pointer (some ⟨a.wd,0,none⟩)] u w2 λe u' w'=>u'=u∧(e=.returned (.tuple #[])∧Cel w0 a x13 { QL with seq:=2 } w')):=Uq λw1 w2 u hb ho hs=>by
  have h1:=h.later hb
  exact YV (x:=x13) (idx:=1) u QL ⟨ho,h1.1.rest.stay h1.1.one hs ho.bel⟩ (Kq h1.1 h1.2 (Below.refl _ _) hs) ht (by decide) (by decide) (by decide) (by rw [p3,p4];exact Nat.le_refl _) (by rw [p4];decide) p3 p5 (by decide)
 have HC0:=Uq λw' (hb:Below w.heap.size w w')=>(h.later hb).1.c0
 clear h hca hk p1 p2 p3 p4 p5 p6;unfold cptr at HLD HPR;unfold cmdV at HENC ⊢;obtain ⟨T,hT⟩:∃ T,tx QL=T:=⟨_,rfl⟩;rw [hT] at HENC HPR HAP
 go_enter_defers Tryz.func38,Tryz.ntmps38
 go_upto_region 3 with (go_at_call 123;refine (HENC.out _ (Below.alloc' (Below.refl _ w) _)).mono ?_;rintro e w1 ⟨rfl,hb⟩;have HB1:=Uq ((Below.alloc' (Below.refl _ w) _).trans (hb.mono (Below.alloc' (Below.refl _ w) _).size));clear hb;have c0:=HC0.out _ HB1.out)
 go_upto_region 6 with (go_at_call 12;refine (HLD.out _ HB1.out).mono ?_;rintro e w2 ⟨rfl,hb⟩;have HB2:=Uq (HB1.out.trans (hb.mono HB1.out.size));clear hb;replace c0:=HC0.out _ HB2.out)
 go_wp2_with (go_at_call 11;refine (HPR.out _ HB2.out).mono ?_;rintro e w3 ⟨rfl,ho,hs⟩;have HO:=Uq ho;have HS:=Uq hs;clear ho hs)
 refine leaves_cons (f:=122) (args:=#[.pointer (some ⟨a.wd,0,none⟩)]) (by simp) (by simp [go_sem]) ?_
 refine (HAP.out _ _ .returning HB2.out HO.out HS.out).mono ?_;rintro e u' w'' ⟨rfl,rfl,hd⟩;exact ⟨_,results_tmp2 rfl _ _ _,rfl,hd⟩
end
end Go.Proofs.YtppibhieabideaaGreatDoor
