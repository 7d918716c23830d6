/- A part of the walk of the program, and of its plain law. -/
import Derived.Test.YtppibhieabideaaGreatDoorGt35
import Derived.Defers
namespace Go.Proofs.YtppibhieabideaaGreatDoor
set_option maxHeartbeats 4000000
open Go Go.RowKit Go.Deep
set_option maxRecDepth 100000
def M4 (T:List UInt8):vd.Files:=vd.put M3 ELOG (crcm.flat [T],(crcm.flat [T]).length)
def OneIn (w:World) (mm:Nat) (c:ce.Cell):Prop:=∃ g n,Vb w mm [.pointer (some ⟨g,0,none⟩),.int .i64 1,.int .i64 (n:Int)] 118∧Vb w g (QZ c) 247
section
variable {w0 w w':World} {a:Ad} {x:rf.Node} {idx:Nat}
theorem jy (T:List UInt8):(crcm.flat [T]).length=6 + T.length:=by
 have:=crcm.flat_len_snoc [] T
 simpa [crcm.flat] using this
theorem Wd.wrote (h:Wd w0 a x M3 0 idx 0 0 (.slice none 0 0) w) (T:List UInt8) (hT:T.length≤1000) {seq:Nat} (hA:Apart [a.p,a.b,a.lg,a.ge,a.mm] w w') (hm:qH w a.mm)
  {d:vd.Disk} {T2:List UInt8} (hF:Free w0 w a.p a.b a.g M3 0 d T2)
  (hback:∀ w1 w' d' M' K' S,Apart S w w1→(∀ y ∈ S,w0.heap.size≤y∧jU w a.p a.b a.g y)→Apart [a.p,a.b] w1 w'→Free w0 w' a.p a.b a.g M' K' d' T2→K' + 2 * 100000≤1000000→One1 100000 w0 a.c a.p a.b a.g x M' K' w')
  (hL:Ldk w0 w' a.p a.b { d with files:=vd.put d.files ELOG (crcm.flat [T],(crcm.flat [T]).length) }) (hE:EngAt w' a.p a.ge a.ed a.lg a.tb a.mm seq 1) :
  Wd w0 a x (M4 T) (6 + T.length) idx seq 1 (.slice none 0 0) w':=by
 have hlg:Vb w a.lg (lgV a.p ⟨ELOG,0,false⟩) 306:=h.rest.eng.lg;have hjg:Vb w a.jg (lgV a.dp ⟨JOBS,0,false⟩) 306:=h.rest.jg;have hp:=hF.disk.dk.blk;have hge:=h.rest.eng.blk;obtain ⟨n1,n2,n3,n4,n5,n6⟩:=h.rest.ne
 have hjl:a.jg ≠ a.lg:=λe=>by
  rw [e] at hjg;unfold Vb at hjg hlg;rw [hlg] at hjg
  injection hjg with hjg
  injection hjg with hjg
  have h2:=congrArg (λa:Array Value=>a[1]?) hjg
  simp [keyV,lgV] at h2
  exact absurd h2 (by decide)
 obtain ⟨w1,hA1,hA2⟩:=xa (p:=a.p) (b:=a.b) (S:=[a.lg,a.ge,a.mm]) hA hp.lt hF.disk.dk.map.lt (qf hp hF.disk.dk.map)
 have hS:∀ y ∈ [a.lg,a.ge,a.mm],w0.heap.size≤y∧jU w a.p a.b a.g y:=λy hy=>by
  simp only [List.mem_cons,List.not_mem_nil,or_false] at hy
  rcases hy with rfl | rfl | rfl
  ·exact ⟨h.rest.hlg,.inl ⟨_,_,hlg,by decide,λe=>absurd e (by decide),λ_ e=>n2 e.symm⟩⟩
  ·exact ⟨h.rest.hge,.inl ⟨_,_,hge,by decide,λe=>absurd e (by decide),λe=>absurd e (by decide)⟩⟩
  ·exact ⟨h.rest.hmm,.inl ⟨_,_,hm,by decide,λe=>absurd e (by decide),λe=>absurd e (by decide)⟩⟩
 have hlen:(crcm.flat [T]).length=6 + T.length:=jy T
 have hF4:Free w0 w' a.p a.b a.g (M4 T) (6 + T.length) { d with files:=vd.put d.files ELOG (crcm.flat [T],(crcm.flat [T]).length) } T2:=
  hF.put (by decide) (by decide) hL (by
   have:(vd.put M3 ELOG (crcm.flat [T],(crcm.flat [T]).length)).length=3:=by
    have e:=congrArg List.length (vd.put_names M3 ELOG (crcm.flat [T],(crcm.flat [T]).length));rw [List.length_map] at e;rw [e]
    decide
   omega) (by
   have e:(vd.at_ M3 ELOG).1.length=0:=by decide
   rw [e]
   show 6 + T.length + 0=0 + (crcm.flat [T]).length
   omega)
 have ho:=hback w1 w' _ (M4 T) (6 + T.length) [a.lg,a.ge,a.mm] hA1 hS hA2 hF4 (by omega)
 have out:∀ y vs t,Vb w y vs t→t ≠ 177→t ≠ 306→t ≠ 173→t ≠ 118→Vb w' y vs t:=λy vs t hv t1 t2 t3 t4=>Vb.apart hv hA λhx=>by
  simp only [List.mem_cons,List.not_mem_nil,or_false] at hx
  rcases hx with e | e | e | e | e
  ·exact qa hv hp t1 e
  ·exact qf hv hF.disk.dk.map e
  ·exact qa hv hlg t2 e
  ·exact qa hv hge t3 e
  ·exact qa hv hm t4 e
 obtain ⟨d1,hd1,hoff⟩:=h.rest.dsk
 have hdp:Vb w' a.dp (zO a.db d1) 177:=Vb.apart hd1.dk.blk hA λhx=>by
  simp only [List.mem_cons,List.not_mem_nil,or_false] at hx
  rcases hx with e | e | e | e | e
  ·exact n4 e.symm
  ·exact qf hd1.dk.blk hF.disk.dk.map e
  ·exact qa hd1.dk.blk hlg (by decide) e
  ·exact qa hd1.dk.blk hge (by decide) e
  ·exact qa hd1.dk.blk hm (by decide) e
 have hdm:FMap w' a.db d1.files:=hd1.dk.map.apart hA λhx=>by
  simp only [List.mem_cons,List.not_mem_nil,or_false] at hx
  rcases hx with e | e | e | e | e
  ·exact qf hp hd1.dk.map e.symm
  ·exact n5 e.symm
  ·exact qf hlg hd1.dk.map e.symm
  ·exact qf hge hd1.dk.map e.symm
  ·exact qf hm hd1.dk.map e.symm
 have hjg':Vb w' a.jg (lgV a.dp ⟨JOBS,0,false⟩) 306:=Vb.apart hjg hA λhx=>by
  simp only [List.mem_cons,List.not_mem_nil,or_false] at hx
  rcases hx with e | e | e | e | e
  ·exact qa hjg hp (by decide) e
  ·exact qf hjg hF.disk.dk.map e
  ·exact hjl e
  ·exact qa hjg hge (by decide) e
  ·exact qa hjg hm (by decide) e
 exact ⟨ho,⟨out _ _ _ h.rest.wd (by decide) (by decide) (by decide) (by decide),out _ _ _ h.rest.nb (by decide) (by decide) (by decide) (by decide),hE,out _ _ _ h.rest.dr (by decide) (by decide) (by decide) (by decide),hjg',⟨d1,⟨hL.bel,⟨hdp,hdm⟩,hd1.hp,hd1.hb,hd1.ok,hd1.cap⟩,hoff⟩,h.rest.hnb,h.rest.hge,h.rest.hmm,h.rest.hlg,h.rest.ne⟩⟩
theorem yJ (h:Wd w0 a x M3 0 idx 0 0 (.slice none 0 0) w) (hm:qH w a.mm) (c:ce.Cell) (hmay:ce.may c=true) (h1:c.ts < 18446744073709551616) (seq:Nat) (hs:0 < seq) (h2:seq < 18446744073709551616) (ht:TabAt w0) (d:Value) (b2 k2:Nat) (hca:CellAt w b2 0 c) (hk:1≤k2) :
  Calls Tryz.prog 251 #[.pointer (some ⟨a.wd,0,none⟩),.int .i64 0,d,.agg (efV (.slice (some ⟨b2,0,none⟩) 1 k2)).toArray,.int .u64 (seq:Int)] w λe w'=>e=.returned (.int .i64 0)∧Wd w0 a x (M4 (ce.enc { c with seq:=seq })) (6 + (ce.enc { c with seq:=seq }).length) idx seq 1 (.slice none 0 0) w'∧OneIn w' a.mm { c with seq:=seq }∧Apart [a.p,a.b,a.lg,a.ge,a.mm] w w':=by
 have HK:Hid (∀ w',Below w.heap.size w w'→w'.cell? ⟨a.wd,1,none⟩=some (.slice (some ⟨a.nb,0,none⟩) 1 1)∧Vb w' a.nb (nbC a idx (.slice none 0 0)) 208∧Calls Tryz.prog 141 #[.pointer (some ⟨a.ge,0,none⟩)] w' λe w''=>e=.returned (.int .u64 ((0:Nat):Int))∧w'=w''):=Uq λw' hb=>⟨(h.later hb).c1,(h.later hb).rest.nb,YH (h.later hb).rest.eng⟩
 have HW:Hid (∀ w',Below w.heap.size w w'→Calls Tryz.prog 32 #[.pointer (some ⟨a.ge,0,none⟩),.slice (some ⟨b2,0,none⟩) 1 k2,.int .u64 (seq:Int)] w' λe w''=>e=.returned (.int .i64 0)∧Wd w0 a x (M4 (ce.enc { c with seq:=seq })) (6 + (ce.enc { c with seq:=seq }).length) idx seq 1 (.slice none 0 0) w''∧OneIn w'' a.mm { c with seq:=seq }∧Apart [a.p,a.b,a.lg,a.ge,a.mm] w' w''):=Uq λw' hb=>by
  have h':=h.later hb;have hm':qH w' a.mm:=qU hm hb;obtain ⟨d,T2,m,hF,hg,hgb,hTB,hKB,hback⟩:=h'.one.free2
  have hlen:(ce.enc { c with seq:=seq }).length≤1000:=by
   obtain ⟨l1,l2,l3,_⟩:=ce.may_len hmay;rw [ce.enc_len];dsimp only;omega
  obtain ⟨T,hT⟩:∃ T,ce.enc { c with seq:=seq }=T:=⟨_,rfl⟩;rw [hT] at hlen;have hfl:=jy T
  have hat:(vd.at_ d.files ELOG).1=[]:=by rw [(hF.oth.1 ELOG (by decide)).1];decide
  have happ:wl.append d ⟨ELOG,0,false⟩ [T]=({ d with files:=vd.put d.files ELOG (crcm.flat [T],(crcm.flat [T]).length) },⟨ELOG,0 + 1,false⟩,0):=by
   have e:=wl.append_log (d:=d) ⟨hF.off,hF.left⟩ (l:=⟨ELOG,0,false⟩) rfl (by decide) (by show vd.has d.files ELOG=true;rw [(hF.oth.1 ELOG (by decide)).2];decide) [T] (by intro t ht;simp at ht;subst ht;omega) (by rw [hF.tot,hF.cap];omega)
   rw [e]
   simp [hat]
  refine (uR c hmay h1 seq h2 ⟨hF.disk,h'.rest.eng,hm'⟩ h.rest.ne.2.2.2.2.2 hs h.rest.hlg h.rest.hge h.rest.hmm (by rw [hT];exact happ) (by omega) (by rw [hT];omega) ht b2 k2 (hca.later hb) hk).mono ?_
  rintro e w'' ⟨g,n,rfl,k1,k2,k3,k4,k5,k6⟩;refine ⟨rfl,?_,⟨g,n,k3,k4⟩,k6⟩;rw [hT];exact h'.wrote T hlen k6 hm' hF hback k1 k2
 clear h;unfold efV;obtain ⟨c1,k,HL⟩:=HK.out (w.alloc (.cells #[.int .i64 0,.bool false,.slice (some ⟨b2,0,none⟩) 1 k2,.slice none 0 0] 338)) ((Below.refl _ w).alloc (Nat.le_refl _) _);clear HL;have n0:=k.cell 0 _ rfl;have n1:=k.cell 1 _ rfl;have n2:=k.cell 2 _ rfl;have n3:=k.cell 3 _ rfl;have n4:=k.cell 4 _ rfl;have n5:=k.cell 5 _ rfl;clear k
 have hs0:¬ ((0:Nat):Int) ≥ (seq:Int):=by omega
 go_enter Tryz.func251,Tryz.ntmps251
 go_wp2_with (first | (go_at_call 141;refine ((HK.out _ (((Below.refl _ w).alloc (Nat.le_refl _) _).alloc (by rw [size_alloc];omega) _)).2.2).mono ?_;rintro e w' ⟨rfl,rfl⟩) | (go_at_call 32;refine (HW.out _ (((Below.refl _ w).alloc (Nat.le_refl _) _).alloc (by rw [size_alloc];omega) _)).mono ?_;rintro e w' ⟨rfl,q1,q2,q3⟩;have Q1:=Uq q1;have Q2:=Uq q2;have Q3:=Uq q3;clear q1 q2 q3))
 go_ret
 exact ⟨rfl,Q1.out,Q2.out,(Apart.of_below (((Below.refl _ w).alloc (Nat.le_refl _) _).alloc (by rw [size_alloc];omega) _) _).trans Q3.out⟩
end
attribute [local go_sem] Oper.semAt_some
theorem Ud:(Tryz.prog.info? 40).map (λi=>(i.zero,i.size,i.bytes))=some (some (.slice none 0 0),1,24):=by kernel_rfl
set_option maxHeartbeats 2000000 in
theorem XP {p ge ed lg tb mm last many:Nat} (c:ce.Cell) (w:World) (hE:EngAt w p ge ed lg tb mm last many) (hm:OneIn w mm c) :
  Calls Tryz.prog 100 #[.pointer (some ⟨ge,0,none⟩)] w λe w'=>∃ g kk b1 k1,e=.returned (.slice (some ⟨g,0,none⟩) 1 kk)∧w'.cell? ⟨g,0,none⟩=some (.slice (some ⟨b1,0,none⟩) 1 k1)∧1≤k1∧CellAt w' b1 0 c∧Below w.heap.size w w':=by
 obtain ⟨i0,hi,hz0,hz1,hz2⟩:=info_parts Ud;have c0:w.cell? ⟨ge,0,none⟩=some (.slice none 0 0):=hE.blk.cell 0 _ rfl;have c7:w.cell? ⟨ge,7,none⟩=some (.pointer (some ⟨mm,0,none⟩)):=hE.blk.cell 7 _ rfl;obtain ⟨g,n,hm1,hm2⟩:=hm;have HC:=Uq (vH c w hm1 hm2);clear hE hm1 hm2
 go_enter Tryz.func100,Tryz.ntmps100
 go_upto_region 2 with fail;refine wp_loop_rounds 1 ?_;rw [rounds_succ]
 go_wp2_with (first | (go_at_call 19;refine HC.out.mono ?_;rintro e w1 ⟨b,k,rfl,r1,r2,r3,r4⟩;have HP:=Uq (And.intro r1 (And.intro r2 (And.intro r3 r4)));clear r1 r2 r3 r4) | (at_builtin;refine wpList_append_own _ rfl _ _ 88 rfl w1.heap.size 40 i0 _ 1 24 Tryz.underlying88 hi hz0 hz1 hz2 rfl (by decide) (.slice none 0 0) 0 [] rfl (World.ownsRow_nil _ _ _ _) ⟨w1.heap.size,0,none⟩ 1 1 [.slice (some ⟨b,0,none⟩) 1 k] rfl rfl ?c1 ?c2 ?c3 ?c4 ?c5 ?_))
 case c1=>exact Ya (Vb.new w1 [.slice (some ⟨b,0,none⟩) 1 k] 40)
 case c2=>intro u hu;simp at hu;subst hu;rfl
 case c3=>unfold maxLen;omega
 case c4=>omega
 case c5=>rw [World.size_alloc];omega
 intro v2 w2 hown hgrow _
 have hb2:Below w1.heap.size w1 w2:=(qd (Below.refl _ w1) _).grown hgrow (by rw [World.size_alloc];omega) (λj hj=>by cases hj)
 obtain ⟨b2,k2,rfl,hge,hlt,hk⟩:∃ b k,v2=.slice (some ⟨b,0,none⟩) 1 k∧w1.heap.size≤b∧b < w2.heap.size∧1≤k:=by
  rcases hown.2 with ⟨_,h0⟩ | ⟨g',cap,cur,hv,hb,hh,hn,_⟩
  ·exact absurd h0 (by decide)
  ·exact ⟨g',cap,hv,hb,(Array.getElem?_eq_some_iff.1 hh).1,hn⟩
 have hc:w2.cell? ⟨b2,0,none⟩=some (.slice (some ⟨b,0,none⟩) 1 k):=by
  have h0:=World.ownsRow.cells (g:=b2) hown rfl 0 _ rfl;rw [qn] at h0;exact h0
 have HF:=Uq (And.intro hc hb2);clear hown hgrow hge hlt hk hc hb2;go_wp2_with fail;go_ret;exact ⟨_,_,_,_,rfl,HF.out.1,HP.out.2.1,HP.out.1.later HF.out.2,HP.out.2.2.2.trans (HF.out.2.mono HP.out.2.2.2.size)⟩
theorem VU (c:ce.Cell) (hd:c.del=false) (w:World) (b k:Nat) (hca:CellAt w b 0 c) :
  Calls Tryz.prog 210 #[.slice (some ⟨b,0,none⟩) 1 k] w λe w'=>∃ b k,e=.returned (.slice (some ⟨b,0,none⟩) 1 k)∧CellAt w' b 0 c∧1≤k∧w.heap.size≤b∧Below w.heap.size w w':=by
 obtain ⟨i0,hi,hz0,hz1,hz2⟩:=info_parts Za;obtain ⟨c0,c1,c2,c3,c4,c5⟩:=Qb hca;simp only [Nat.zero_add] at c1 c2 c3 c4 c5;rw [hd] at c4
 have hs:(c.seq:Int) ≥ 0:=by omega
 clear hca
 go_enter Tryz.func210,Tryz.ntmps210
 go_upto_region 4 with fail;refine wp_loop_rounds 2 ?_;rw [rounds_succ];go_upto_region 6 with fail;have vX:=Vb.new w [.string (crcm.mk c.row),.string (crcm.mk c.col),.int .u64 (c.ts:Int),.int .u64 (c.seq:Int),.bool false,.string (crcm.mk c.val)] 46;have bX:Below w.heap.size w (w.alloc (.cells #[.string (crcm.mk c.row),.string (crcm.mk c.col),.int .u64 (c.ts:Int),.int .u64 (c.seq:Int),.bool false,.string (crcm.mk c.val)] 46)):=qd (Below.refl _ w) _;obtain ⟨X,hX⟩:∃ X,w.alloc (.cells #[.string (crcm.mk c.row),.string (crcm.mk c.col),.int .u64 (c.ts:Int),.int .u64 (c.seq:Int),.bool false,.string (crcm.mk c.val)] 46)=X:=⟨_,rfl⟩;obtain ⟨N,hN⟩:∃ N,w.heap.size=N:=⟨_,rfl⟩
 have vX:Vb X N (qt { c with del:=false }) 46:=by rw [← hX,← hN];exact vX
 rw [hX] at bX;rw [hX,hN];have hlt:N < X.heap.size:=vX.lt
 replace c0:=cell_later bX c0
 replace c1:=cell_later bX c1
 replace c2:=cell_later bX c2
 replace c3:=cell_later bX c3
 replace c4:=cell_later bX c4
 replace c5:=cell_later bX c5
 have a0:=vX.cell 0 _ rfl;have a1:=vX.cell 1 _ rfl;have a2:=vX.cell 2 _ rfl;have a3:=vX.cell 3 _ rfl;have a4:=vX.cell 4 _ rfl;have a5:=vX.cell 5 _ rfl;dsimp only at a0 a1 a2 a3 a4 a5;have BX:=Uq bX;have HN:=Uq hN;have VX:=Uq vX;clear bX hX hN vX;go_region;go_upto_region 10 with fail;refine wp_loop_rounds 2 ?_;rw [rounds_succ];go_wp2_with fail;rw [rounds_succ]
 go_wp2_with (at_builtin;refine wpList_append_own _ rfl _ _ 40 rfl w.heap.size 46 i0 _ 6 72 Tryz.underlying40 hi hz0 hz1 hz2 rfl (by decide) (.slice none 0 0) 0 [] rfl (World.ownsRow_nil _ _ _ _) ⟨_,0,none⟩ 1 1 (qt { c with del:=false }) rfl rfl ?c1 ?c2 ?c3 ?c4 ?c5 ?_)
 case c1=>
  have h:=Ya (Vb.new (X.alloc (.cells (qt { c with del:=false }).toArray 46)) (qt { c with del:=false }) 46);rw [World.size_alloc] at h;exact h
 case c2=>exact Qj _
 case c3=>unfold maxLen;omega
 case c4=>omega
 case c5=>
  have h:=BX.out.size
  show w.heap.size≤((X.alloc _).alloc _).heap.size
  rw [World.size_alloc,World.size_alloc];omega
 intro v2 w2 hown hgrow _
 have hb2:Below X.heap.size X w2:=by
  have hx:Below X.heap.size X ((X.alloc (.cells (qt { c with del:=false }).toArray 46)).alloc (.cells (qt { c with del:=false }).toArray 46)).drew:=(qd (qd (Below.refl _ X) _) _).drew
  exact hx.grown hgrow hx.size (λj hj=>by cases hj)
 obtain ⟨b3,k3,rfl,p1,p2,p3,p4,p5⟩:=QP (c:={ c with del:=false }) hown;have HF:=Uq (And.intro p4 (And.intro p3 (And.intro p1 hb2)));clear hown hgrow p1 p2 p3 p4 p5 hb2 c0 c1 c2 c3 c4 c5 a0 a1 a2 a3 a4 a5;go_upto_region 4 with fail;rw [rounds_succ];go_wp2_with fail;go_ret;obtain ⟨q1,q2,q3,q4⟩:=HF.out
 have e:({ c with del:=false }:ce.Cell)=c:=by
  cases c
  simp only at hd;rw [hd]
 rw [e] at q1;exact ⟨_,_,rfl,q1,q2,q3,BX.out.trans (q4.mono BX.out.size)⟩
theorem J1 (w:World) (b k:Nat) :
  Calls Tryz.prog 208 #[.slice (some ⟨b,0,none⟩) 1 k] w λe w'=>e=.returned (.func (.func 321) #[] #[.pointer (some ⟨w.heap.size,0,none⟩)])∧w'=w.alloc (.cells #[.slice (some ⟨b,0,none⟩) 1 k] 40):=by
 have hmf:∀ (fn:Fn) (first cap:Array Value) (w:World),(Instr.makeFunc fn first cap).run Tryz.prog w=.ok (.func fn first cap) w:=λ_ _ _ _=>rfl
 go_enter Tryz.func208,Tryz.ntmps208
 go_wp2_with fail;go_ret;exact ⟨rfl,rfl⟩
def BoxOnly (Bl:Nat) (_ W W':World):Prop:=∃ v,W'=W.setCell ⟨Bl,0,none⟩ v
theorem KD (n:Nat) (hn:3≤n) (Bl b k:Nat) (w:World) (h1:Boxed w Bl 40 (.slice (some ⟨b,0,none⟩) 1 k)) (hk:1≤k) :
  Once Fence.wide n Tryz.prog 321 #[.pointer (some ⟨Bl,0,none⟩)] #[.slice (some ⟨b,0,none⟩) 1 k] (λW W'=>W'.heap[Bl]?=W.heap[Bl]?) (BoxOnly Bl) w:=by
 intro l R W hW hY;have hx:Boxed W Bl 40 (.slice (some ⟨b,0,none⟩) 1 k):=(hW.block Bl h1.lt).trans h1;have hc:=hx.cell;have HY:=Uq hY;have HX:=Uq hx;have hlt:=h1.lt;clear hY hx h1;refine callsIn_of_wp_marks Tryz.func321 rfl trivial ?_ rfl;simp only [Tryz.ntmps321,List.size_toArray,List.length_cons,List.length_nil,Nat.reduceAdd,Nat.reduceSub,Array.replicate_succ,Array.replicate_zero,List.push_toArray,List.append_toArray,List.nil_append,List.cons_append]
 have hk1:(1:Int)≤(k:Int):=by omega
 gi_wp2
 refine wpIn_loop_rounds 2 ?_;rw [roundsIn_succ]
 gi_wp2
 refine wpIn_loop_rounds 1 ?_;rw [roundsIn_succ]
 gi_wp2
 refine wpIn_mono (Q:=jV #[.func (.yield l) #[] #[],.pointer (some ⟨Bl,0,none⟩),undef,.int .i64 1,.slice (some ⟨b,0,none⟩) 1 k,.int .i64 1,.bool true,.int .i64 1,.slice (some ⟨b,0,none⟩) 1 k,.int .i64 1,.bool false,.bool false,undef,undef,undef,undef,undef,undef,undef,undef,.bool false,undef,undef,undef,undef,undef,undef,undef,undef,undef,undef,undef] [] (λW'=>W'=W.drew)) ?_ ?_
 ·refine wpIn_mono (Q:=Qs _) ?_ (Qa _);refine wpIn_wide.2 ?_
  refine wp_region_held_drew (S:=(λw'=>w'.cell? ⟨Bl,0,none⟩=some (.slice (some ⟨b,0,none⟩) 1 k))) (by kernel_rfl) (show W.drew.cell? ⟨Bl,0,none⟩=_ from hc) (λhHeld=>?_)
  first | (refine tk 0 ?_ ?_ ?_;rotate_left;focus (intro w hSw;(try dsimp only at hSw);go_simp;(try with_reducible rfl);done)) | (refine tku 0 ?_)
  (try simp only [Act.put,Ur,Us,Ut])
  first | (refine tk 1 ?_ ?_ ?_;rotate_left;focus (intro w hSw;(try dsimp only at hSw);go_simp;(try with_reducible rfl);done)) | (refine tku 1 ?_)
  (try simp only [Act.put,Ur,Us,Ut])
  first | (refine tk 2 ?_ ?_ ?_;rotate_left;focus (intro w hSw;(try dsimp only at hSw);go_simp;(try with_reducible rfl);done)) | (refine tku 2 ?_)
  (try simp only [Act.put,Ur,Us,Ut])
  first | (refine tk 3 ?_ ?_ ?_;rotate_left;focus (intro w hSw;(try dsimp only at hSw);go_simp;(try with_reducible rfl);done)) | (refine tku 3 ?_)
  (try simp only [Act.put,Ur,Us,Ut])
  first | (refine tk 4 ?_ ?_ ?_;rotate_left;focus (intro w hSw;(try dsimp only at hSw);go_simp;(try with_reducible rfl);done)) | (refine tku 4 ?_)
  (try simp only [Act.put,Ur,Us,Ut])
  first | (refine tk 5 ?_ ?_ ?_;rotate_left;focus (intro w hSw;(try dsimp only at hSw);go_simp;(try with_reducible rfl);done)) | (refine tku 5 ?_)
  (try simp only [Act.put,Ur,Us,Ut])
  first | (refine tk 6 ?_ ?_ ?_;rotate_left;focus (intro w hSw;(try dsimp only at hSw);go_simp;(try with_reducible rfl);done)) | (refine tku 6 ?_)
  (try simp only [Act.put,Ur,Us,Ut])
  first | (refine tk 7 ?_ ?_ ?_;rotate_left;focus (intro w hSw;(try dsimp only at hSw);go_simp;(try with_reducible rfl);done)) | (refine tku 7 ?_)
  (try simp only [Act.put,Ur,Us,Ut])
  first | (refine tk 8 ?_ ?_ ?_;rotate_left;focus (intro w hSw;(try dsimp only at hSw);go_simp;(try with_reducible rfl);done)) | (refine tku 8 ?_)
  (try simp only [Act.put,Ur,Us,Ut])
  first | (refine tk 9 ?_ ?_ ?_;rotate_left;focus (intro w hSw;(try dsimp only at hSw);go_simp;(try with_reducible rfl);done)) | (refine tku 9 ?_)
  (try simp only [Act.put,Ur,Us,Ut])
  first | (refine tk 10 ?_ ?_ ?_;rotate_left;focus (intro w hSw;(try dsimp only at hSw);go_simp;(try with_reducible rfl);done)) | (refine tku 10 ?_)
  (try simp only [Act.put,Ur,Us,Ut])
  first | (refine tk 11 ?_ ?_ ?_;rotate_left;focus (intro w hSw;(try dsimp only at hSw);go_simp;(try with_reducible rfl);done)) | (refine tku 11 ?_)
  (try simp only [Act.put,Ur,Us,Ut])
  first | (refine tk 12 ?_ ?_ ?_;rotate_left;focus (intro w hSw;(try dsimp only at hSw);go_simp;(try with_reducible rfl);done)) | (refine tku 12 ?_)
  (try simp only [Act.put,Ur,Us,Ut])
  first | (refine tk 13 ?_ ?_ ?_;rotate_left;focus (intro w hSw;(try dsimp only at hSw);go_simp;(try with_reducible rfl);done)) | (refine tku 13 ?_)
  (try simp only [Act.put,Ur,Us,Ut])
  refine wpAnyH_done (by kernel_rfl) ?_ _
  exact ⟨rfl,rfl,rfl⟩
 rintro e a1 w1 ⟨rfl,rfl,rfl⟩;have hcd:W.drew.cell? ⟨Bl,0,none⟩=some (.slice (some ⟨b,0,none⟩) 1 k):=hc;obtain ⟨X,hX⟩:∃ X,W.drew=X:=⟨_,rfl⟩;rw [hX] at hcd ⊢
 have hbX:Below W.heap.size W X:=by rw [← hX];exact (Below.refl _ W).drew
 obtain ⟨fn,tmps,assign,body,hy,hR⟩:=HY.out X hbX;clear hc
 gi_wp2
 have hn1:1≤n:=by omega
 refine ⟨λ_=>hn1,hR.mono ?_⟩
 rintro e W3 ⟨rfl,hk3,hf3,hr3⟩
 have hxX:Boxed W3 Bl 40 (.slice (some ⟨b,0,none⟩) 1 k):=hk3.trans (by rw [← hX];exact HX.out)
 have hc3:=hxX.cell;have hfr:=hxX.frozen;clear hy hR hcd
 gi_wp2
 all_goals
  rw [roundsIn_succ]
  gi_wp2
  exact (show LeavesInM Fence.wide n _ _ _ _ [] _ _ from ⟨_,results_none rfl _ _ _,⟨_,rfl⟩,W3,hr3,_,rfl⟩)
attribute [local go_sem] Oper.semAt_some
theorem Qo {F:Fence} {n':Nat} {P:Program} {ops:Array Oper} {o:Oper} {a:Act} {w:World} {K:Act→World→Prop} {Q:Exit→Act→World→Prop} {E:Prop}
  (hg:o.guard=none) (s x:Operand) (t:TypeId) (hop:o.op=Op.call { callee:=Callee.builtin Builtin.append,args:=#[s,x],argTypes:=#[t,t] })
  (base:Nat) (e:TypeId) (i:TypeInfo) (z:Value) (size bytes:Nat) (h1:P.underlying t=some (.slice e)) (h2:P.info? e=some i) (h3:i.zero=some z) (h4:i.size=size) (h5:i.bytes=bytes) (h6:z.cells.size=size) (h7:0 < size)
  (v:Value) (n:Nat) (xs:List Value) (hs:a.eval s=v) (hown:w.ownsRow base e size v n xs)
  (ad:Addr) (m c:Nat) (news:List Value) (hx:a.eval x=.slice (some ad) m c) (hn:news.length=m * size) (hc:∀ j u,news[j]?=some u→w.cell? (ad.add j)=some u) (h1c:∀ u ∈ news,u.oneCell'=true)
  (b1:n + m≤maxLen) (b2:(n + m) * bytes≤140737488355328) (hbase:base≤w.heap.size)
  (hK:∀ v' w',w'.ownsRow base e size v' (n + m) (xs ++ news)→w.grownBy w' v.ownBlock→K (a.put o.dst v') w') :
  if Region.wanted o (yielded ops a.tmps)=true then Oper.wpIn F n' P o a w K Q else E:=by
 have hw:Region.wanted o (yielded ops a.tmps)=true:=by simp [Region.wanted,hg]
 rw [if_pos hw];obtain ⟨v',w',hrun,r1,r2,_⟩:=run_append_own (P:=P) w base t o.type e i z size bytes h1 h2 h3 h4 h5 h6 h7 v n xs hown ad m c news hn hc h1c b1 b2 hbase;unfold Oper.wpIn;refine ⟨?_,?_⟩
 ·simp [Oper.about,hop,resolve,Target.leads,Sem.run_pure]
 ·rw [Oper.semAt_plain F _ _ (by rw [hop];intro c hc';cases hc')]
  simp [execOp,hop,resolve,invoke,builtin,hs,hx,hrun,Result.andThen]
  exact hK _ _ r1 r2
theorem yM {B:Nat} {W W':World} (h:Below W.heap.size W W'):KeepsFrom B W W':=⟨h.size,λk _ _ hk _=>(h.block k (Array.getElem?_eq_some_iff.1 hk).1).trans hk⟩
theorem Xb (c:ce.Cell) (hd:c.del=false) (m g kk b1 k1:Nat) (hn:c.seq≤m) (hk:1≤k1) (w:World) (hg:w.cell? ⟨g,0,none⟩=some (.slice (some ⟨b1,0,none⟩) 1 k1)) (h:CellAt w b1 0 c) :
  Calls Tryz.prog 99 #[.slice (some ⟨g,0,none⟩) 1 kk,.int .u64 (m:Int),.string ⟨#[]⟩,.string ⟨#[]⟩] w λe w'=>∃ b k,e=.returned (.slice (some ⟨b,0,none⟩) 1 k)∧CellAt w' b 0 c∧Below w.heap.size w w':=by
 obtain ⟨i0,hi,hz0,hz1,hz2⟩:=info_parts Za;obtain ⟨w1,hw1⟩:∃ w1,((w.alloc (.cells #[.string ⟨#[]⟩] 9)).alloc (.cells #[.string ⟨#[]⟩] 9)).alloc (.cells #[.slice none 0 0] 40)=w1:=⟨_,rfl⟩;obtain ⟨B,hB⟩:∃ B,w.heap.size=B:=⟨_,rfl⟩
 have hb1:Below B w w1:=by rw [← hw1,← hB];exact qd (qd (qd (Below.refl _ w) _) _) _
 have hs1:w1.heap.size=B + 1 + 1 + 1:=by rw [← hw1,World.size_alloc,World.size_alloc,World.size_alloc,hB]
 have v0:Boxed w1 B 9 (.string ⟨#[]⟩):=by rw [← hw1,← hB];exact ((Boxed.new w _ _).alloc _).alloc _
 have v1:Boxed w1 (B + 1) 9 (.string ⟨#[]⟩):=by
  have:=(Boxed.new (w.alloc (.cells #[.string ⟨#[]⟩] 9)) 9 (.string ⟨#[]⟩)).alloc (.cells #[.slice none 0 0] 40);rw [World.size_alloc,hB] at this;rw [← hw1];exact this
 have v2:Boxed w1 (B + 1 + 1) 40 (.slice none 0 0):=by
  have:=Boxed.new ((w.alloc (.cells #[.string ⟨#[]⟩] 9)).alloc (.cells #[.string ⟨#[]⟩] 9)) 40 (.slice none 0 0);rw [World.size_alloc,World.size_alloc,hB] at this;rw [← hw1];exact this
 have HALL:=Uq (vw_all (w:=w1) (c:=c) m g kk b1 k1 hk hn (cell_later (by rw [hB];exact hb1) hg) (h.later (by rw [hB];exact hb1)))
 clear hg h hk hn;refine (callsIn_wide (n:=8)).1 ?_;refine callsIn_of_wp_marks Tryz.func99 rfl trivial ?_ rfl;simp only [Tryz.ntmps99,List.size_toArray,List.length_cons,List.length_nil,Nat.reduceAdd,Nat.reduceSub,Array.replicate_succ,Array.replicate_zero,List.push_toArray,List.append_toArray,List.nil_append,List.cons_append]
 gi_wp2_with (refine ⟨trivial,?_⟩;first | (gi_at_call 209;refine (callsIn_wide.2 HALL.out).mono ?_;rintro e w2 ⟨b,k,rfl,q1,q2,q3,q4⟩;have HQ:=Uq (And.intro q1 (And.intro q2 (And.intro q3 q4)));clear q1 q2 q3 q4) | (gi_at_call 208;refine (callsIn_wide.2 (J1 _ _ _)).mono ?_;rintro e w3 ⟨rfl,rfl⟩))
 have hbx:=Boxed.new w2 40 (.slice (some ⟨b,0,none⟩) 1 k);obtain ⟨Bl,hBl⟩:∃ Bl,w2.heap.size=Bl:=⟨_,rfl⟩;have hbw3:Below w2.heap.size w2 (w2.alloc (.cells #[.slice (some ⟨b,0,none⟩) 1 k] 40)):=(Below.refl _ w2).alloc (Nat.le_refl _) _
 have hs3:(w2.alloc (.cells #[.slice (some ⟨b,0,none⟩) 1 k] 40)).heap.size=Bl + 1:=by rw [World.size_alloc,hBl]
 obtain ⟨w3,hw3⟩:∃ w3,w2.alloc (.cells #[.slice (some ⟨b,0,none⟩) 1 k] 40)=w3:=⟨_,rfl⟩;rw [hw3] at hbx hbw3 hs3 ⊢
 have hlB:B + 1 + 1 < Bl:=by have:=HQ.out.2.2.2.size;omega
 have hb13:Below w1.heap.size w1 w3:=HQ.out.2.2.2.trans (hbw3.mono HQ.out.2.2.2.size)
 have hb03:Below B w w3:=hb1.trans (hb13.mono (by omega))
 have hca3:CellAt w3 b 0 c:=HQ.out.1.later hbw3
 have u0:Boxed w3 B 9 (.string ⟨#[]⟩):=(hb13.block B (by omega)).trans v0
 have u1:Boxed w3 (B + 1) 9 (.string ⟨#[]⟩):=(hb13.block _ (by omega)).trans v1
 have u2:Boxed w3 (B + 1 + 1) 40 (.slice none 0 0):=(hb13.block _ (by omega)).trans v2
 have hbl:¬ Op.bytesLess (crcm.mk c.row).toList []=true:=by cases (crcm.mk c.row).toList <;> simp [Op.bytesLess]
 rw [hBl] at hbx ⊢
 have hown:∀ BB:Nat,B≤BB→OwnFrom BB (λ(_:Unit) W=>((∃ v,Boxed W (B + 1 + 1) 40 v∧W.ownsRow (Bl + 1) 46 6 v 1 (qt c)∧True)∧Below B w W)):=λBB hBB=>OwnFrom.and (Own.from (holdsRow_own (Bl + 1) (B + 1 + 1) 40 46 6 (λ_:Unit=>1) (λ_=>qt c) (λ_ _=>True)) _) (ownFrom_below (by omega) hBB)
 refine QK rfl (by decide) (gf:=321) (lb:=#[.pointer (some ⟨Bl,0,none⟩)]) rfl trivial (enters_of Tryz.func321 (by kernel_rfl) rfl)
  (KD 7 (by decide) Bl b k w3 hbx HQ.out.2.1) (λh k=>k.trans h) (λW l o o' hl _ _ _=>World.putObj_heap_other (by omega)) (Below.refl _ _) rfl
  (λW=>(∃ v,Boxed W (B + 1 + 1) 40 v∧W.ownsRow (Bl + 1) 46 6 v 1 (qt c)∧True)∧Below B w W) (λW=>(∃ v,Boxed W (B + 1 + 1) 40 v∧W.ownsRow (Bl + 1) 46 6 v 1 (qt c)∧True)∧Below B w W)
  (hown _ (by omega)) (hown _ (by omega)) ?hT (λa' _=>a'={ tmps:=#[.slice (some ⟨g,0,none⟩) 1 kk,.int .u64 (m:Int),.string ⟨#[]⟩,.string ⟨#[]⟩,undef,undef,.pointer (some ⟨B,0,none⟩),.pointer (some ⟨B + 1,0,none⟩),.pointer (some ⟨B + 1 + 1,0,none⟩),.slice (some ⟨b,0,none⟩) 1 k,undef,.slice (some ⟨g,0,none⟩) 1 kk,.int .u64 (m:Int),.slice (some ⟨b,0,none⟩) 1 k,.func (.func 321) #[] #[.pointer (some ⟨Bl,0,none⟩)],.slice (some ⟨b,0,none⟩) 1 k,undef,undef,undef,undef,undef,undef,undef,undef,undef,undef,undef,undef,undef,undef,undef,undef,undef,undef,undef,undef,undef],defers:=[] }) (λ_ _ _ _ _ hs _ _=>hs) ?assign ?body ?done
 case hT=>
  rintro W0 W W' hb0 ⟨⟨v,hv,hr,_⟩,hb⟩ ⟨u,rfl⟩
  refine ⟨⟨⟨v,hv.other (by omega) _,hr.kept (grownBy_setCell' _ _ _) (.inr (Q9 hr (Nat.lt_succ_self _)).symm),trivial⟩,hb.setCell (p:=⟨Bl,0,none⟩) (by show B≤Bl;omega) _⟩,λk o _ hk ho hc=>(KeepsOthers.setCell W _ _).same k o ho hc⟩
 case assign=>
  intro l W K hb hK
  gi_wp2
  exact hK _ _ (KeepsFrom.refl _ _) rfl hb rfl
 case body=>
  rintro l a' W hl hr hb rfl;have hle:w3.heap.size≤W.heap.size:=hb.size;have hca:=hca3.later hb;obtain ⟨c0,c1,c2,c3,c4,c5⟩:=Qb hca
  have z0:Boxed W B 9 (.string ⟨#[]⟩):=(hb.block B (by omega)).trans u0
  have z1:Boxed W (B + 1) 9 (.string ⟨#[]⟩):=(hb.block _ (by omega)).trans u1
  have z2:Boxed W (B + 1 + 1) 40 (.slice none 0 0):=(hb.block _ (by omega)).trans u2
  have y0:=z0.cell;have y1:=z1.cell;have y2:=z2.cell
  have hmix:Tryz.prog.follows .mixedOrders=true:=by kernel_rfl
  clear c1 c2 c3 c4 c5
  gi_wp2
  refine wpIn_mono (Q:=λe _ W'=>e=.normal∧KeepsFrom w3.heap.size W W'∧W'.heap[Bl]?=W.heap[Bl]?∧(∃ v,Boxed W' (B + 1 + 1) 40 v∧W'.ownsRow (Bl + 1) 46 6 v 1 (qt c)∧True)∧Below B w W') ?_ ?_
  ·refine wpIn_mono (Q:=Qs _) ?_ (Qa _);have hrd:=VU c hd W.drew b k hca
   have fin:∀ w5 w6 g' cap',Below W.drew.heap.size W.drew w5→w5.grownBy w6 none→Boxed w6 (B + 1 + 1) 40 (.slice none 0 0)→w6.ownsRow (Bl + 1) 46 6 (.slice (some ⟨g',0,none⟩) (0 + 1) cap') (0 + 1) ([] ++ qt c) →
     Exit.normal=.normal∧KeepsFrom w3.heap.size W (w6.setCell ⟨B + 1 + 1,0,none⟩ (.slice (some ⟨g',0,none⟩) (0 + 1) cap'))∧(w6.setCell ⟨B + 1 + 1,0,none⟩ (.slice (some ⟨g',0,none⟩) (0 + 1) cap')).heap[Bl]?=W.heap[Bl]?∧(∃ v,Boxed (w6.setCell ⟨B + 1 + 1,0,none⟩ (.slice (some ⟨g',0,none⟩) (0 + 1) cap')) (B + 1 + 1) 40 v∧(w6.setCell ⟨B + 1 + 1,0,none⟩ (.slice (some ⟨g',0,none⟩) (0 + 1) cap')).ownsRow (Bl + 1) 46 6 v 1 (qt c)∧True)∧Below B w (w6.setCell ⟨B + 1 + 1,0,none⟩ (.slice (some ⟨g',0,none⟩) (0 + 1) cap')):=λw5 w6 g' cap' r4 hg' z6 hown'=>by
    have hW5:Below W.heap.size W w5:=(Below.refl _ W).drew.trans r4
    have hxW:Boxed W Bl 40 (.slice (some ⟨b,0,none⟩) 1 k):=(hb.block Bl (by omega)).trans hbx
    have hx6:Boxed w6 Bl 40 (.slice (some ⟨b,0,none⟩) 1 k):=Boxed.kept ((hW5.block Bl hxW.lt).trans hxW) hg' (by simp)
    have hx7:=hx6.other (B':=B + 1 + 1) (by omega) (.slice (some ⟨g',0,none⟩) (0 + 1) cap')
    have h56:Below w5.heap.size w5 w6:=(Below.refl _ w5).grown hg' (Nat.le_refl _) (λj hj=>by cases hj)
    have hW6:=hW5.trans (h56.mono hW5.size)
    refine ⟨rfl,(yM hW6).trans ((KeepsOthers.setCell _ _ _).from _),hx7.trans hxW.symm,⟨_,z6.set _,?_,trivial⟩,?_⟩
    ·exact hown'.kept (grownBy_setCell' _ _ _) (.inr (Q9 hown' (by omega)).symm)
    ·exact (hb03.trans ((hb.trans (hW6.mono hle)).mono (by omega))).setCell (p:=⟨B + 1 + 1,0,none⟩) (by show B≤B + 1 + 1;omega) _
   refine wpIn_region_any hmix ?_
   change wpAnyIn _ _ _ _ _ _ _ _ _ (World.drew _)
   refine wpAnyIn_ready (rs:=[0,1]) (by kernel_rfl) (by simp) ?_
   refine AllReadyIn.cons rfl (λK hK=>?_) (AllReadyIn.cons rfl (λK hK=>?_) AllReadyIn.nil)
   ·go_simp
    refine hK _ _ ?_;clear hK K
    refine wpAnyIn_ready (rs:=[1]) (by kernel_rfl) (by simp) ?_
    refine AllReadyIn.cons rfl (λK hK=>?_) AllReadyIn.nil
    go_simp
    refine hK _ _ ?_;clear hK K
    refine wpAnyIn_ready (rs:=[2]) (by kernel_rfl) (by simp) ?_
    refine AllReadyIn.cons rfl (λK hK=>?_) AllReadyIn.nil
    go_simp
    refine ⟨trivial,(CallsIn.inRound l (callsIn_wide.2 hrd)).mono ?_⟩;rintro e w5 ⟨b5,k5,rfl,r1,r2,r3,r4⟩;refine hK _ _ ?_;clear hK K;have z5:Boxed w5 (B + 1 + 1) 40 (.slice none 0 0):=(r4.block _ z2.lt).trans z2;have y5:=z5.cell
    refine wpAnyIn_ready (rs:=[3]) (by kernel_rfl) (by simp) ?_
    refine AllReadyIn.cons rfl (λK hK=>?_) AllReadyIn.nil
    refine Qo rfl (.tmp 32) (.tmp 34) 40 rfl (Bl + 1) 46 i0 (.agg #[.string .empty,.string .empty,.int .u64 0,.int .u64 0,.bool false,.string .empty]) 6 72 Tryz.underlying40 hi hz0 hz1 hz2 rfl (by decide) (.slice none 0 0) 0 [] rfl (World.ownsRow_nil _ _ _ _) ⟨b5,0,none⟩ 1 k5 (qt c) rfl rfl (λj u hj=>by rw [qn];exact r1 j u hj) (Qj c) (by unfold maxLen;omega) (by omega) (by have:=r4.size;have e:W.drew.heap.size=W.heap.size:=rfl;omega) ?_
    intro v' w6 hown' hgrow;obtain ⟨g',cap',rfl⟩:=ownsRow_succ hown';refine hK _ _ ?_;clear hK K;have hg':w5.grownBy w6 none:=hgrow
    have z6:=z5.kept hg' (by simp)
    have y6:=z6.cell;have f6:=z6.frozen
    refine wpAnyIn_ready (rs:=[4]) (by kernel_rfl) (by simp) ?_
    refine AllReadyIn.cons rfl (λK hK=>?_) AllReadyIn.nil
    go_simp
    refine hK _ _ ?_;clear hK K
    refine wpAnyIn_done (by kernel_rfl) ?_ _
    exact fin w5 w6 g' cap' r4 hg' z6 hown'
   ·go_simp
    refine hK _ _ ?_;clear hK K
    refine wpAnyIn_ready (rs:=[0,2]) (by kernel_rfl) (by simp) ?_
    refine AllReadyIn.cons rfl (λK hK=>?_) (AllReadyIn.cons rfl (λK hK=>?_) AllReadyIn.nil)
    focus
     go_simp
     refine hK _ _ ?_;clear hK K
     refine wpAnyIn_ready (rs:=[2]) (by kernel_rfl) (by simp) ?_
     refine AllReadyIn.cons rfl (λK hK=>?_) AllReadyIn.nil
     go_simp
     refine ⟨trivial,(CallsIn.inRound l (callsIn_wide.2 hrd)).mono ?_⟩;rintro e w5 ⟨b5,k5,rfl,r1,r2,r3,r4⟩;refine hK _ _ ?_;clear hK K;have z5:Boxed w5 (B + 1 + 1) 40 (.slice none 0 0):=(r4.block _ z2.lt).trans z2;have y5:=z5.cell
     refine wpAnyIn_ready (rs:=[3]) (by kernel_rfl) (by simp) ?_
     refine AllReadyIn.cons rfl (λK hK=>?_) AllReadyIn.nil
     refine Qo rfl (.tmp 32) (.tmp 34) 40 rfl (Bl + 1) 46 i0 (.agg #[.string .empty,.string .empty,.int .u64 0,.int .u64 0,.bool false,.string .empty]) 6 72 Tryz.underlying40 hi hz0 hz1 hz2 rfl (by decide) (.slice none 0 0) 0 [] rfl (World.ownsRow_nil _ _ _ _) ⟨b5,0,none⟩ 1 k5 (qt c) rfl rfl (λj u hj=>by rw [qn];exact r1 j u hj) (Qj c) (by unfold maxLen;omega) (by omega) (by have:=r4.size;have e:W.drew.heap.size=W.heap.size:=rfl;omega) ?_
     intro v' w6 hown' hgrow;obtain ⟨g',cap',rfl⟩:=ownsRow_succ hown';refine hK _ _ ?_;clear hK K;have hg':w5.grownBy w6 none:=hgrow
     have z6:=z5.kept hg' (by simp)
     have y6:=z6.cell;have f6:=z6.frozen
     refine wpAnyIn_ready (rs:=[4]) (by kernel_rfl) (by simp) ?_
     refine AllReadyIn.cons rfl (λK hK=>?_) AllReadyIn.nil
     go_simp
     refine hK _ _ ?_;clear hK K
     refine wpAnyIn_done (by kernel_rfl) ?_ _
     exact fin w5 w6 g' cap' r4 hg' z6 hown'
    go_simp
    refine ⟨trivial,(CallsIn.inRound l (callsIn_wide.2 hrd)).mono ?_⟩;rintro e w5 ⟨b5,k5,rfl,r1,r2,r3,r4⟩;refine hK _ _ ?_;clear hK K;have z5:Boxed w5 (B + 1 + 1) 40 (.slice none 0 0):=(r4.block _ z2.lt).trans z2;have y5:=z5.cell
    refine wpAnyIn_ready (rs:=[0]) (by kernel_rfl) (by simp) ?_
    refine AllReadyIn.cons rfl (λK hK=>?_) AllReadyIn.nil
    go_simp
    refine hK _ _ ?_;clear hK K
    refine wpAnyIn_ready (rs:=[3]) (by kernel_rfl) (by simp) ?_
    refine AllReadyIn.cons rfl (λK hK=>?_) AllReadyIn.nil
    refine Qo rfl (.tmp 32) (.tmp 34) 40 rfl (Bl + 1) 46 i0 (.agg #[.string .empty,.string .empty,.int .u64 0,.int .u64 0,.bool false,.string .empty]) 6 72 Tryz.underlying40 hi hz0 hz1 hz2 rfl (by decide) (.slice none 0 0) 0 [] rfl (World.ownsRow_nil _ _ _ _) ⟨b5,0,none⟩ 1 k5 (qt c) rfl rfl (λj u hj=>by rw [qn];exact r1 j u hj) (Qj c) (by unfold maxLen;omega) (by omega) (by have:=r4.size;have e:W.drew.heap.size=W.heap.size:=rfl;omega) ?_
    intro v' w6 hown' hgrow;obtain ⟨g',cap',rfl⟩:=ownsRow_succ hown';refine hK _ _ ?_;clear hK K;have hg':w5.grownBy w6 none:=hgrow
    have z6:=z5.kept hg' (by simp)
    have y6:=z6.cell;have f6:=z6.frozen
    refine wpAnyIn_ready (rs:=[4]) (by kernel_rfl) (by simp) ?_
    refine AllReadyIn.cons rfl (λK hK=>?_) AllReadyIn.nil
    go_simp
    refine hK _ _ ?_;clear hK K
    refine wpAnyIn_done (by kernel_rfl) ?_ _
    exact fin w5 w6 g' cap' r4 hg' z6 hown'
  rintro e a2 W2 ⟨rfl,h1,h2,h3,h4⟩;exact ⟨rfl,h1,h2,h3,h4⟩
 case done=>
  rintro D W hD ⟨⟨v,hv,hr,_⟩,hb⟩ hK;have hc:=hv.cell;have hf:=hv.frozen;obtain ⟨g',cap',rfl⟩:=ownsRow_succ (k:=0) hr
  gi_wp2
  obtain ⟨W2,hW2⟩:∃ W2,W.setCell ⟨B + 1 + 1,0,none⟩ (.slice (some ⟨g',0,none⟩) 1 cap')=W2:=⟨_,rfl⟩
  have hK2:W2.heap[D]?=some (.deferred (some [])):=by rw [← hW2];exact (KeepsOthers.setCell _ _ _).same D _ hK rfl
  have hv2:Boxed W2 (B + 1 + 1) 40 (.slice (some ⟨g',0,none⟩) 1 cap'):=by rw [← hW2];exact hv.set _
  have hr2:W2.ownsRow (Bl + 1) 46 6 (.slice (some ⟨g',0,none⟩) 1 cap') 1 (qt c):=by
   rw [← hW2];exact hr.kept (grownBy_setCell' _ _ _) (.inr (Q9 hr (by omega)).symm)
  have hb2:Below B w W2:=by rw [← hW2];exact hb.setCell (p:=⟨B + 1 + 1,0,none⟩) (by show B≤B + 1 + 1;omega) _
  rw [hW2]
  refine ⟨by simp,.inl ⟨_,_,rfl,run_takeDeferred hK2,?_⟩⟩
  have hc3:=cell_kept hv2.cell (grownBy_putObj' _ D (.deferred none)) (λr e=>by cases e;exact ⟨_,hK2,rfl⟩)
  have hr3:=ownsRow_putObj hr2 (.deferred none) hK2 rfl
  have hb3:Below B w (W2.putObj D (.deferred none)):=hb2.trans (belowK_b (w:=w3) (by omega) W2 D _ _ hD hK2 rfl rfl)
  obtain ⟨b9,k9,e9,p1,p2,p3,p4,p5⟩:=QP hr3;refine ⟨.slice (some ⟨g',0,none⟩) 1 cap',?_,?_⟩
  ·simp [results,Tryz.f99,go_sem,hc3]
  ·rw [hB]
   exact ⟨b9,k9,by rw [e9],p4,hb3⟩
def frmE (D:Option Addr) (i c:Nat):Option Addr:=if c=i then D else D.map (·.add (i * 2))
theorem Z1 (D:Option Addr) (i L c:Nat) (hi:i≤L) (w:World):(Instr.slice 29 (.slice D L c) (some (.int .u64 (i:Int))) none none).run Tryz.prog w=.ok (.slice (frmE D i c) (L - i) (c - i)) w:=by
 rw [run_slice_l (P:=Tryz.prog) w _ D L c Tryz.underlying29 .u64 (i:Int) (by omega) (by omega)]
 rfl
section
variable {w0 w:World} {a:Ad} {x:rf.Node} {M:vd.Files} {K idx last many:Nat} {cl:Value}
theorem YU (u:FrameMode) (h:Wd w0 a x M K idx last many cl w) (hc:x.commit≤x.log.length) (hx:x.log.length≤10000) (hi:x.commit=idx) :
  CallsD Tryz.prog 122 #[.pointer (some ⟨a.wd,0,none⟩)] u w λe u' w'=>u'=u∧(e=.returned (.tuple #[])∧Below w.heap.size w w'):=by
 have HU:=Uq (Y3 h)
 have HCM:=Uq λw' (hb:Below w.heap.size w w')=>zd (h.later hb).one hc hx
 have HK:Hid (∀ w',Below w.heap.size w w'→w'.cell? ⟨a.wd,0,none⟩=some (.pointer (some ⟨a.c,0,none⟩))∧w'.cell? ⟨a.wd,1,none⟩=some (.slice (some ⟨a.nb,0,none⟩) 1 1)∧w'.cell? ⟨a.nb,1,none⟩=some (.int .u64 (idx:Int))):=Uq λw' hb=>⟨(h.later hb).c0,(h.later hb).c1,(h.later hb).n1⟩
 have hL:(x.log.take x.commit).length=idx:=by rw [List.length_take];omega
 rw [hL] at HCM;have c1:=h.c1
 have HSL:=Uq λ(D:Option Addr) (c:Nat) (w:World)=>Z1 D idx idx c (Nat.le_refl _) w
 rw [Nat.sub_self] at HSL;clear h hc hx hi hL;unfold cptr at HCM
 go_enter_d Tryz.func122,Tryz.ntmps122
 go_upto_region 1 with fail
 go_loopw [13] (λi wr=>(i=.int .i64 0∧wr=w)∨(i=.int .i64 1∧Below w.heap.size w wr)) (λi _=>1 - (intOf i).toNat)
 case atStart=>exact .inl ⟨rfl,rfl⟩
 case round=>
  rcases hrel with ⟨rfl,rfl⟩ | ⟨rfl,hB⟩
  ·go_upto_region 5 with (go_at_call 143;refine HU.out.mono ?_;rintro e w1 ⟨rfl,hb⟩;have hW:=hb)
   have HSL2:=HSL.out;have hW:Below wr.heap.size wr w1.drew:=below_drewN hW 1
   go_region_held3 (λw'=>w'.cell? ⟨a.wd,0,none⟩=some (.pointer (some ⟨a.c,0,none⟩))∧w'.cell? ⟨a.wd,1,none⟩=some (.slice (some ⟨a.nb,0,none⟩) 1 1)∧w'.cell? ⟨a.nb,1,none⟩=some (.int .u64 (idx:Int))) (exact HK.out _ hW) ((go_at_call 13;refine (HCM.out _ hW).mono ?_;rintro e w5 ⟨D,e',rfl,-,hb5⟩;have hW:=hW.trans (hb5.mono hW.size)))
   have HW:=Uq hW;clear hW hb hb5 HSL2;go_upto_region 6 with fail
   go_loopw [44] (λi wx=>i=.int .i64 0∧wx=w5) (λ_ _=>0)
   case atStart=>exact ⟨rfl,rfl⟩
   case round=>
    obtain ⟨rfl,rfl⟩:=hrel;go_wp2_with fail
    exact ⟨.inr ⟨rfl,HW.out⟩,by simp [intOf]⟩
  ·have HB:=Uq hB;clear hB;go_wp2_with fail;go_end0;exact ⟨rfl,HB.out⟩
end
end Go.Proofs.YtppibhieabideaaGreatDoor
