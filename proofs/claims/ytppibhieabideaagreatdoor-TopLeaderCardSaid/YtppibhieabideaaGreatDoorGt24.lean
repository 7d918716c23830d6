/- A part of the walk of the program, and of its plain law. -/
import Derived.Test.YtppibhieabideaaGreatDoorGt22
namespace Go.Proofs.YtppibhieabideaaGreatDoor
open Go Go.RowKit Go.Deep
set_option maxRecDepth 100000
section
variable {B:Nat} {w0 w:World} {c R:Nat} {C:cl.Clu} {F:Nat→Fp} {k:Nat} {wv:Value} {i:Nat}
def Fell (B:Nat) (w0:World) (c R:Nat) (C:cl.Clu) (F:Nat→Fp) (k:Nat) (wv:Value) (i:Nat) (keep:Int) (w w':World):Prop:=
 CluAt B w0 w' c R (cl.fallen C i (C.p i).s qi) (cl.upd F i ((F i).down (vd.crash (F i).d keep))) k wv∧Stay F C.n w w'
def Fused (B:Nat) (w0:World) (c R:Nat) (C:cl.Clu) (F:Nat→Fp) (k:Nat) (wv:Value) (i:Nat) (n keep:Int) (w w':World):Prop:=
 CluAt B w0 w' c R C (cl.upd F i { F i with d:={ (F i).d with left:=(max n 0).toNat,keep:=keep } }) k wv∧Stay F C.n w w'
theorem Fell.from_ {keep:Int} {v w w':World} (h:Fell B w0 c R C F k wv i keep w w') (hb:Below v.heap.size v w):Fell B w0 c R C F k wv i keep v w':=⟨h.1,(Stay.of_below hb).trans h.2⟩
theorem Fused.from_ {n keep:Int} {v w w':World} (h:Fused B w0 c R C F k wv i n keep w w') (hb:Below v.heap.size v w):Fused B w0 c R C F k wv i n keep v w':=⟨h.1,(Stay.of_below hb).trans h.2⟩
theorem CluAt.stay3 (h:CluAt B w0 w c R C F k wv) (hi:i < C.n) {w':World} (hA:Apart [(F i).q,(F i).p,(F i).b] w w'):Stay F C.n w w':=
 Stay.of_apart hA λy hy=>by
  simp only [List.mem_cons,List.not_mem_nil,or_false] at hy
  rcases hy with e | e | e
  ·rw [e];exact .inl ⟨_,_,(h.peers i hi).blk,.inl rfl⟩
  ·exact .inr ⟨i,hi,.inl e⟩
  ·exact .inr ⟨i,hi,.inr (.inl e)⟩
theorem fell_of (keep:Int) {w':World} (h:CluAt B w0 w c R C F k wv) (hi:i < C.n) (hp:PeerOk B w0 w' ⟨(C.p i).s,false,qi⟩ ((F i).down (vd.crash (F i).d keep))) (hA:Apart [(F i).q,(F i).p,(F i).b] w w'):Fell B w0 c R C F k wv i keep w w':=
 ⟨h.peer hi hA (λy hy=>by
  simp only [List.mem_cons,List.not_mem_nil,or_false] at hy
  rcases hy with e | e | e
  ·exact .inl e
  ·exact .inr (.inl e)
  ·exact .inr (.inr (.inl e))) hp ⟨rfl,rfl,rfl⟩ (λh=>by cases h),h.stay3 hi hA⟩
theorem JZ (keep:Int) (h:CluAt B w0 w c R C F k wv) (hi:i < C.n) (bk:Nat) (hbk:Vb w bk [.int .i64 keep] 3) :
  Calls Tryz.prog 50 (#[] ++ #[.pointer (some ⟨(F i).q,0,none⟩)] ++ #[.pointer (some ⟨bk,0,none⟩)]) w λe w'=>∃ z,e=.returned (.int .i64 z)∧(z=0∧Fell B w0 c R C F k wv i keep w w'):=by
 have HC:=Uq (vy keep (h.peers i hi).base)
 have HF:=Uq λw' hp hA=>fell_of (w':=w') keep h hi hp hA
 have c0:=hbk.cell 0 _ rfl;obtain ⟨q,hq⟩:∃ q,(F i).q=q:=⟨_,rfl⟩
 rw [show (#[] ++ #[Value.pointer (some ⟨(F i).q,0,none⟩)] ++ #[Value.pointer (some ⟨bk,0,none⟩)]:Array Value)=#[.pointer (some ⟨(F i).q,0,none⟩),.pointer (some ⟨bk,0,none⟩)] from rfl]
 rw [hq] at HC ⊢;clear h hbk
 go_enter Tryz.func50,Tryz.ntmps50
 go_wp2_with (go_at_call 51;refine HC.out.mono ?_;rintro e w1 ⟨rfl,hp1,hA1⟩;have HP:=Uq (And.intro hp1 hA1);clear hp1 hA1)
 go_ret;rw [← hq] at HP;exact ⟨0,rfl,rfl,HF.out _ HP.out.1 HP.out.2⟩
theorem uZ (keep:Int) (h:CluAt B w0 w c R C F k wv) (hi:i < C.n) (hu:(C.p i).up=true) :
  Calls Tryz.prog 14 #[cptr c,.int .i64 (i:Int),.int .i64 keep] w λe w'=>e=.returned (.int .i64 0)∧Fell B w0 c R C F k wv i keep w w':=by
 obtain ⟨X,bx,hX,hbx,hbX,kb⟩:=qp w [.int .i64 keep] 3;have hv:Vb X bx [.int .i64 keep] 3:=kb
 have HON:=Uq (jb (w:=X) 50 #[.pointer (some ⟨bx,0,none⟩)] (λz w1 w2=>z=0∧Fell B w0 c R C F k wv i keep w1 w2) (h.later hbX) hi hu (λ_ _=>rfl) (λw1 hb1=>JZ keep ((h.later hbX).later hb1) hi bx ((hb1.block _ hv.lt).trans hv)))
 have HX:=Uq hX;have HBX:=Uq hbx;have HB:=Uq hbX;clear h hi hu hX hbx hbX kb hv;unfold cptr at HON ⊢
 go_enter Tryz.func14,Tryz.ntmps14
 go_upto_region 1 with fail;rw [HX.out,HBX.out]
 go_wp2_with (go_at_call 44;refine HON.out.mono ?_;rintro e w2 ⟨z,w1,rfl,hb1,rfl,hT⟩;have HTT:=Uq (And.intro hb1 hT);clear hb1 hT)
 go_ret;exact ⟨rfl,HTT.out.2.from_ (HB.out.trans (HTT.out.1.mono HB.out.size))⟩
theorem u9 (keep:Int) {i:Int} {z:Int} (h:CluAt B w0 w c R C F k wv) (hz:∀ fv w,CluAt B w0 w c R C F k wv→Calls Tryz.prog 44 #[cptr c,.int .i64 i,fv] w λe w'=>e=.returned (.int .i64 z)∧Below w.heap.size w w') :
  Calls Tryz.prog 14 #[cptr c,.int .i64 i,.int .i64 keep] w λe w'=>e=.returned (.int .i64 z)∧Below w.heap.size w w':=by
 obtain ⟨X,bx,hX,hbx,hbX,kb⟩:=qp w [.int .i64 keep] 3
 have HON:=Uq λfv=>hz fv X (h.later hbX)
 have HX:=Uq hX;have HBX:=Uq hbx;have HB:=Uq hbX;clear h hz hX hbx hbX kb;unfold cptr at HON ⊢
 go_enter Tryz.func14,Tryz.ntmps14
 go_upto_region 1 with fail;rw [HX.out,HBX.out]
 go_wp2_with (go_at_call 44;refine (HON.out _).mono ?_;rintro e w2 ⟨rfl,hb1⟩)
 go_ret;exact ⟨rfl,HB.out.trans (hb1.mono HB.out.size)⟩
theorem uH (n keep:Int) (hn:n≤0) {w':World} (h:CluAt B w0 w c R C F k wv) (hi:i < C.n) (hd:Ldk w0 w' (F i).p (F i).b { (F i).d with left:=(max n 0).toNat,keep:=keep }) (hA:Apart [(F i).p] w w'):Fused B w0 c R C F k wv i n keep w w':=by
 have pi:=h.peers i hi
 have hq:(F i).q ∉ [(F i).p]:=λhx=>qa pi.blk pi.disk.dk.blk (by decide) (by simpa using hx)
 have hE:∀ x ∈ [(F i).p],qK w x:=λx hx=>by
  obtain rfl:x=(F i).p:=by simpa using hx
  exact qv pi.disk.dk.blk (by decide)
 have hp:PeerOk B w0 w' (C.p i) { F i with d:={ (F i).d with left:=(max n 0).toNat,keep:=keep } }:=by
  refine ⟨pi.blk.apart hA hq,pi.ents.apart hA hE,pi.ok,hd,pi.hq,⟨pi.kept.wide,pi.kept.frm,pi.kept.one,pi.kept.flat,pi.kept.many,pi.kept.cap,pi.kept.room,pi.kept.few,by show (max n 0).toNat=0;omega⟩,pi.sv,pi.dn,λhu=>?_⟩
  obtain ⟨u1,u2,u3,u4,u5,u6⟩:=pi.up hu
  exact ⟨u1,u2,Vb.apart u3 hA (λhx=>qa u3 pi.disk.dk.blk (by decide) (by simpa using hx)),Vb.apart u4 hA (λhx=>qa u4 pi.disk.dk.blk (by decide) (by simpa using hx)),u5,u6⟩
 have h1:=h.peer hi hA (λy hy=>.inr (.inl (by simpa using hy))) hp ⟨rfl,rfl,rfl⟩ (λhu=>.inl ⟨hu,rfl,rfl⟩)
 have e:({ C with p:=cl.upd C.p i (C.p i) }:cl.Clu)=C:=by
  have e1:cl.upd C.p i (C.p i)=C.p:=by
   funext j
   by_cases hj:j=i
   ·subst hj;rw [cl.upd_same]
   ·rw [cl.upd_other _ _ hj]
  rw [e1]
 rw [e] at h1
 exact ⟨h1,Stay.of_apart hA λy hy=>by
  obtain rfl:y=(F i).p:=by simpa using hy
  exact .inr ⟨i,hi,.inl rfl⟩⟩
theorem vc (n keep:Int) (h:CluAt B w0 w c R C F k wv) (hi:i < C.n) (hn:n≤0) (bn bk:Nat) (hbn:Vb w bn [.int .i64 n] 3) (hbk:Vb w bk [.int .i64 keep] 3) :
  Calls Tryz.prog 234 (#[] ++ #[.pointer (some ⟨(F i).q,0,none⟩)] ++ #[.pointer (some ⟨bn,0,none⟩),.pointer (some ⟨bk,0,none⟩)]) w λe w'=>∃ z,e=.returned (.int .i64 z)∧(z=0∧Fused B w0 c R C F k wv i n keep w w'):=by
 have HC:=Uq λW (hb:Below w.heap.size w W)=>xA n keep ((h.later hb).peers i hi).disk (by omega)
 have HF:=Uq λW w' (hb:Below w.heap.size w W) hp hA=>(uH (w:=W) (w':=w') n keep hn (h.later hb) hi hp hA).from_ hb
 have MK:Hid (∀ w',Below w.heap.size w w'→w'.cell? ⟨(F i).q,30,none⟩=some (dptr (F i).p)∧w'.cell? ⟨bn,0,none⟩=some (.int .i64 n)∧w'.cell? ⟨bk,0,none⟩=some (.int .i64 keep)):=Uq λw' hb=>⟨(h.later hb).dsk hi,cell_later hb (hbn.cell 0 _ rfl),cell_later hb (hbk.cell 0 _ rfl)⟩
 have MK2:Hid (∀ W w',Below w.heap.size w W→Apart [(F i).p] W w'→w'.cell? ⟨(F i).q,30,none⟩=some (dptr (F i).p)∧w'.cell? ⟨bn,0,none⟩=some (.int .i64 n)∧w'.cell? ⟨bk,0,none⟩=some (.int .i64 keep)):=Uq λW w' hb hA=>by
  obtain ⟨k1,k2,k3⟩:=MK.out W hb;have pi:=(h.later hb).peers i hi
  exact ⟨Qc k1 hA (λhx=>qa pi.blk pi.disk.dk.blk (by decide) (by simpa using hx)),Qc k2 hA (λhx=>qa ((hb.block _ hbn.lt).trans hbn) pi.disk.dk.blk (by decide) (by simpa using hx)),Qc k3 hA (λhx=>qa ((hb.block _ hbk.lt).trans hbk) pi.disk.dk.blk (by decide) (by simpa using hx))⟩
 obtain ⟨q,hq⟩:∃ q,(F i).q=q:=⟨_,rfl⟩
 rw [show (#[] ++ #[Value.pointer (some ⟨(F i).q,0,none⟩)] ++ #[Value.pointer (some ⟨bn,0,none⟩),.pointer (some ⟨bk,0,none⟩)]:Array Value)=#[.pointer (some ⟨(F i).q,0,none⟩),.pointer (some ⟨bn,0,none⟩),.pointer (some ⟨bk,0,none⟩)] from rfl]
 rw [hq] at MK MK2 ⊢;unfold dptr at MK MK2;have hW:Below w.heap.size w w.drew:=below_drewN (Below.refl _ w) 1;clear h hbk hbn hq
 go_enter Tryz.func234,Tryz.ntmps234
 go_upto_region 1 with fail
 go_region_held3 (λw'=>w'.cell? ⟨q,30,none⟩=some (.pointer (some ⟨(F i).p,0,none⟩))∧w'.cell? ⟨bn,0,none⟩=some (.int .i64 n)∧w'.cell? ⟨bk,0,none⟩=some (.int .i64 keep)) (first | exact MK.out _ hW | exact MK2.out _ _ hW hA2) (first | (go_at_call 116;refine (HC.out _ hW).mono ?_;rintro e w2 ⟨rfl,hd2,hA2⟩))
 have HFF:=Uq (HF.out _ _ hW hd2 hA2);clear hd2 hA2 hW;go_wp2_with fail;go_ret;exact ⟨0,rfl,rfl,HFF.out⟩
theorem fuse_up (n keep:Int) (h:CluAt B w0 w c R C F k wv) (hi:i < C.n) (hu:(C.p i).up=true) (hn:n≤0) :
  Calls Tryz.prog 117 #[cptr c,.int .i64 (i:Int),.int .i64 n,.int .i64 keep] w λe w'=>e=.returned (.int .i64 0)∧Fused B w0 c R C F k wv i n keep w w':=by
 obtain ⟨X0,bn,hX0,hbn,hb0,kn⟩:=qp w [.int .i64 n] 3;obtain ⟨X,bk,hX,hbk,hb1,kk⟩:=qp X0 [.int .i64 keep] 3
 obtain rfl:bk=bn + 1:=by rw [← hbk,← hX0,← hbn];simp
 have hbX:=hb0.trans (hb1.mono hb0.size);have hvn:Vb X bn [.int .i64 n] 3:=kn.below hb1;have hvk:Vb X (bn + 1) [.int .i64 keep] 3:=kk
 have HON:=Uq (jb (w:=X) 234 #[.pointer (some ⟨bn,0,none⟩),.pointer (some ⟨bn + 1,0,none⟩)] (λz w1 w2=>z=0∧Fused B w0 c R C F k wv i n keep w1 w2) (h.later hbX) hi hu (λ_ _=>rfl) (λw1 hb1=>vc n keep ((h.later hbX).later hb1) hi hn bn (bn + 1) ((hb1.block _ hvn.lt).trans hvn) ((hb1.block _ hvk.lt).trans hvk)))
 have HX0:=Uq hX0;have HX:=Uq hX;have HBN:=Uq hbn;have HB:=Uq hbX;clear h hi hu hX hX0 hbn hb0 hb1 hbX kn kk hvn hvk hbk;unfold cptr at HON ⊢
 go_enter Tryz.func117,Tryz.ntmps117
 go_upto_region 1 with fail;rw [HX0.out,HBN.out,HX.out]
 go_wp2_with (go_at_call 44;refine HON.out.mono ?_;rintro e w2 ⟨z,w1,rfl,hb1,rfl,hT⟩;have HTT:=Uq (And.intro hb1 hT);clear hb1 hT)
 go_ret;exact ⟨rfl,HTT.out.2.from_ (HB.out.trans (HTT.out.1.mono HB.out.size))⟩
end
theorem yL {w1:World} (x:rf.Node) (ev:Value) :
  Blk ((w1.alloc (.cells #[.int .i64 0,.int .i64 0,.int .u64 0,.int .i64 0,.slice none 0 0,.int .i64 0,.int .i64 0,.int .u64 0,.int .i64 0,.bool false,.bool false,.bool false,.bool false,.bool false,.bool false,.bool false,.int .u64 0,.int .u64 0,.int .u64 0,.int .u64 0,.int .u64 0,.int .u64 0,.int .u64 0,.int .u64 0,.int .u64 0,.int .u64 0,.int .u64 0,.int .u64 0,.int .u64 0,.int .u64 0] 100)).setRow w1.heap.size (ndC x ev).toArray) w1.heap.size (ndC x ev) 100∧Below w1.heap.size w1 ((w1.alloc (.cells #[.int .i64 0,.int .i64 0,.int .u64 0,.int .i64 0,.slice none 0 0,.int .i64 0,.int .i64 0,.int .u64 0,.int .i64 0,.bool false,.bool false,.bool false,.bool false,.bool false,.bool false,.bool false,.int .u64 0,.int .u64 0,.int .u64 0,.int .u64 0,.int .u64 0,.int .u64 0,.int .u64 0,.int .u64 0,.int .u64 0,.int .u64 0,.int .u64 0,.int .u64 0,.int .u64 0,.int .u64 0] 100)).setRow w1.heap.size (ndC x ev).toArray):=by
 have hb:Blk (w1.alloc (.cells #[.int .i64 0,.int .i64 0,.int .u64 0,.int .i64 0,.slice none 0 0,.int .i64 0,.int .i64 0,.int .u64 0,.int .i64 0,.bool false,.bool false,.bool false,.bool false,.bool false,.bool false,.bool false,.int .u64 0,.int .u64 0,.int .u64 0,.int .u64 0,.int .u64 0,.int .u64 0,.int .u64 0,.int .u64 0,.int .u64 0,.int .u64 0,.int .u64 0,.int .u64 0,.int .u64 0,.int .u64 0] 100)) w1.heap.size (ndC qi nilV) 100:=Blk.new w1 _ _;exact ⟨hb.row _,((Below.refl _ w1).alloc (Nat.le_refl _) _).trans (qk _ _ _ (Nat.le_refl _))⟩
theorem Z7 {w1:World} {base bn:Nat} (hZ:Blk w1 bn (ndC qi nilV) 100) (hb:base≤bn) (x:rf.Node) (ev:Value) :
  Blk (w1.setRow bn (ndC x ev).toArray) bn (ndC x ev) 100∧Below base w1 (w1.setRow bn (ndC x ev).toArray):=⟨hZ.row _,qk _ _ _ hb⟩
theorem has_raw {w:World} {c n k:Nat} {RR:Option Addr} (i:Nat) (c0:w.cell? ⟨c,0,none⟩=some (.slice RR n k)) (hi:i < n):Calls Tryz.prog 52 #[cptr c,.int .i64 (i:Int)] w λe w'=>e=.returned (.bool true)∧w=w':=by
 unfold cptr
 have e1:decide (0≤(i:Int))=true:=decide_eq_true (by omega)
 have e2:decide ((i:Int) < (n:Int))=true:=decide_eq_true (by omega)
 have HI:=Uq hi;clear hi
 go_enter Tryz.func52,Tryz.ntmps52
 go_wp2;go_ret;refine ⟨?_,rfl⟩;rw [← decide_eq_true HI.out]
 rfl
set_option maxHeartbeats 8000000 in
theorem Yh {w0 w:World} {c R n k i q p b:Nat} {wv:Value} {us:List Value} {x0:rf.Node} {f0:Fp} {d d2:vd.Disk} {ts:List (List UInt8)} {T:Nat} {V:Int} {es:List rl.Ent}
  (hcb:Vb w c [.slice (some ⟨R,0,none⟩) n k,wv] 93) (hRb:Vb w R us 94) (hus:us[i]?=some (.pointer (some ⟨q,0,none⟩))) (hi:i < n) (hn7:n≤7)
  (hblk:Vb w q (qr x0 f0 false) 103) (hp0:f0.p=p) (hq0:w0.heap.size≤q) (ok0:NOk x0) (hdisk:Ldk w0 w p b d) (ht:TabAt w0)
  (hopen:wl.open_ { d with off:=false,left:=0 } RAFT=(d2,ts,0)) (hfrm:rl.from_ ts=((T,V,es),0)) (hl:ts.length≤10000) (hall:∀ t ∈ ts,t.length≤maxLen) :
  Calls Tryz.prog 15 #[cptr c,.int .i64 (i:Int)] w λe w'=>e=.returned (.int .i64 0)∧∃ s g A k',Vb w' q (qr (rf.new (i:Int) (n:Int) T V es) ⟨q,p,b,s,g,A,k',.pointer (some ⟨s,0,none⟩),ts,d2⟩ true) 103∧Ldk w0 w' p b d2∧EntsB 0 w' (.slice A es.length k') es∧kSt w' s g∧Lg w' g p ⟨RAFT,ts.length,false⟩∧w.heap.size≤s∧w.heap.size≤g∧Apart [q,p,b] w w':=by
 subst hp0;have hlx:=qe ok0 (f0.ev x0);have c0:=hcb.cell 0 _ rfl;have cR:=hRb.cell i _ hus
 have c30:w.cell? ⟨q,30,none⟩=some (dptr f0.p):=hblk.cell 30 _ (by unfold qr;rw [List.getElem?_append_right (by omega),hlx];rfl)
 have c32:w.cell? ⟨q,32,none⟩=some (.bool false):=hblk.cell 32 _ (by unfold qr;rw [List.getElem?_append_right (by omega),hlx];rfl)
 have hqp:q ≠ f0.p:=qa hblk hdisk.dk.blk (by decide)
 have hqb:q ≠ b:=qf hblk hdisk.dk.map
 have hcp:c ≠ f0.p:=qa hcb hdisk.dk.blk (by decide)
 have hcq:c ≠ q:=qa hcb hblk (by decide)
 have hcb2:c ≠ b:=qf hcb hdisk.dk.map;have HH:=Uq (has_raw (w:=w) i c0 hi);have HON:=Uq (ld_on hdisk)
 have HOP:Hid (∀ w1,Ldk w0 w1 f0.p b { d with off:=false,left:=0 }→_):=Uq λw1 h1=>XD (w:=w1) h1 ht hopen hfrm hl hall
 obtain ⟨x,hx⟩:∃ x,rf.new (i:Int) (n:Int) T V es=x:=⟨_,rfl⟩
 have okx:NOk x:=by rw [← hx];exact ⟨rfl,rfl,rfl,by intro y hy;simp [rf.new] at hy;omega,by intro y hy;simp [rf.new] at hy;omega⟩
 have HNEW:Hid (∀ (A:Option Addr) (k':Nat) (W:World),Calls Tryz.prog 55 #[.int .i64 (i:Int),.int .i64 (n:Int),stV T V (.slice A es.length k')] W λe w'=>e=.returned (.tuple #[ndV x (.slice A es.length k'),.int .i64 0])∧Below W.heap.size W w'):=Uq λA k' W=>by
  rw [← hx]
  exact new_any (i:Int) (n:Int) T V A k' es.length es W (by omega) (by omega) (by omega) (by omega)
 have HXL:Hid (x.log=es):=Uq (by rw [← hx];rfl)
 have HOK:=Uq okx;have HBLK:=Uq hblk;have HCB:=Uq hcb;have HDK:=Uq hdisk;have HLX:=Uq hlx
 have HQ0:Hid (∀ y ∈ [q],w0.heap.size≤y):=Uq λy hy=>by
  obtain rfl:y=q:=by simpa using hy
  exact hq0
 have HNE:=Uq (And.intro hqp (And.intro hqb (And.intro hcp (And.intro hcq hcb2))))
 have hin:(i:Int) < (n:Int):=by omega
 rw [hx];unfold cptr at HH ⊢;unfold dptr at c30;clear hq0 hblk hcb hRb hus hi hn7 ok0 hdisk hopen hfrm hl hall hx okx hlx hqp hqb hcp hcq hcb2
 go_enter Tryz.func15,Tryz.ntmps15
 go_upto_region 6 with (go_at_call 52;refine HH.out.mono ?_;rintro e w1 ⟨rfl,rfl⟩)
 go_upto_region 7 with (go_at_call 53;refine HON.out.mono ?_;rintro e w1 ⟨rfl,hd1,hA1⟩;have HD1:=Uq hd1;have HA1:=Uq hA1;clear hd1 hA1)
 clear c32
 have c30:=Qc c30 HA1.out (λhx=>HNE.out.1 (by simpa using hx))
 go_upto_region 8 with (go_at_call 54;refine (HOP.out _ HD1.out).mono ?_;rintro e w2 ⟨s,g,u,rfl,hd2,hA2,hg2,hs2,hk2,hl2,hE2⟩;obtain ⟨A,k',rfl⟩:=hE2.form;have HP2:=Uq (And.intro hd2 (And.intro hA2 (And.intro hg2 (And.intro hs2 (And.intro hk2 (And.intro hl2 hE2))))));clear hd2 hA2 hg2 hs2 hk2 hl2 hE2;unfold stV)
 obtain ⟨ev,hev⟩:∃ v,Value.slice A es.length k'=v:=⟨_,rfl⟩;rw [hev];have HEV:=Uq hev;clear hev;have hs3:Vb (w2.alloc (.cells #[.int .u64 (T:Int),.int .i64 V,ev] 96)) w2.heap.size [.int .u64 (T:Int),.int .i64 V,ev] 96:=Vb.new w2 _ _;have hb3:Below w2.heap.size w2 (w2.alloc (.cells #[.int .u64 (T:Int),.int .i64 V,ev] 96)):=(Below.refl _ w2).alloc (Nat.le_refl _) _;obtain ⟨W3,hW3⟩:∃ W,w2.alloc (.cells #[.int .u64 (T:Int),.int .i64 V,ev] 96)=W:=⟨_,rfl⟩;rw [hW3] at hs3 hb3 ⊢;obtain ⟨bs,hbs⟩:∃ b,w2.heap.size=b:=⟨_,rfl⟩;rw [hbs] at hs3 ⊢
 have hA12:Apart [f0.p,b] w w2:=(HA1.out.mono (λy hy=>by simp at hy ⊢;exact .inl hy)).trans HP2.out.2.1
 have hA13:Apart [f0.p,b] w W3:=hA12.trans (Apart.of_below hb3 _)
 have hblk3:Vb W3 q (qr x0 f0 false) 103:=HBLK.out.apart hA13 (by have:=HNE.out;simp;omega)
 have hcb3:Vb W3 c [.slice (some ⟨R,0,none⟩) n k,wv] 93:=HCB.out.apart hA13 (by have:=HNE.out;simp;omega)
 have hone:ev.oneCell'=true:=by rw [← HEV.out];rfl
 have MK:Hid (∀ w',Below W3.heap.size W3 w'→(w'.cell? ⟨c,0,none⟩=some (.slice (some ⟨R,0,none⟩) n k)∧w'.cell? ⟨bs,0,none⟩=some (.int .u64 (T:Int))∧w'.cell? ⟨bs,1,none⟩=some (.int .i64 V)∧w'.cell? ⟨bs,2,none⟩=some ev)):=Uq λw' hb=>⟨cell_later hb (hcb3.cell 0 _ rfl),cell_later hb (hs3.cell 0 _ rfl),cell_later hb (hs3.cell 1 _ rfl),cell_later hb (hs3.cell 2 _ rfl)⟩
 have hl30:(ndC x ev).length=30:=qe HOK.out ev
 have hl33:(qr x0 f0 false).length=33:=by unfold qr;rw [List.length_append,HLX.out];rfl
 have hfin:∀ W,Below W3.heap.size W3 W→W.there q 0 (ndC x ev).toArray.size∧(W.setCells q 0 (ndC x ev)).cell? ⟨q,31,none⟩=some f0.sv∧(W.setCells q 0 (ndC x ev)).cell? ⟨q,32,none⟩=some (.bool false)∧(W.setCells q 0 (ndC x ev)).frozen? ⟨q,31,none⟩=false∧(W.setCells q 0 (ndC x ev)).frozen? ⟨q,32,none⟩=false ∧
   ∃ s' g' A' k'',Vb (((W.setCells q 0 (ndC x ev)).setCell ⟨q,31,none⟩ (.pointer (some ⟨s,0,none⟩))).setCell ⟨q,32,none⟩ (.bool true)) q (qr x ⟨q,f0.p,b,s',g',A',k'',.pointer (some ⟨s',0,none⟩),ts,d2⟩ true) 103∧Ldk w0 (((W.setCells q 0 (ndC x ev)).setCell ⟨q,31,none⟩ (.pointer (some ⟨s,0,none⟩))).setCell ⟨q,32,none⟩ (.bool true)) f0.p b d2∧EntsB 0 (((W.setCells q 0 (ndC x ev)).setCell ⟨q,31,none⟩ (.pointer (some ⟨s,0,none⟩))).setCell ⟨q,32,none⟩ (.bool true)) (.slice A' es.length k'') es∧kSt (((W.setCells q 0 (ndC x ev)).setCell ⟨q,31,none⟩ (.pointer (some ⟨s,0,none⟩))).setCell ⟨q,32,none⟩ (.bool true)) s' g'∧Lg (((W.setCells q 0 (ndC x ev)).setCell ⟨q,31,none⟩ (.pointer (some ⟨s,0,none⟩))).setCell ⟨q,32,none⟩ (.bool true)) g' f0.p ⟨RAFT,ts.length,false⟩∧w.heap.size≤s'∧w.heap.size≤g'∧Apart [q,f0.p,b] w (((W.setCells q 0 (ndC x ev)).setCell ⟨q,31,none⟩ (.pointer (some ⟨s,0,none⟩))).setCell ⟨q,32,none⟩ (.bool true)):=by
  intro W hb;have hv:=(hb.block _ hblk3.lt).trans hblk3;have hv:Vb W q (qr x0 f0 false) 103:=hv
  have h1:=Vb.cellsAt (ndC x ev) 0 _ _ hv (by rw [hl33,hl30];decide)
  have e1:(qr x0 f0 false).take 0 ++ ndC x ev ++ (qr x0 f0 false).drop (0 + (ndC x ev).length)=ndC x ev ++ [dptr f0.p,f0.sv,.bool false]:=by
   have hlx:=HLX.out;rw [hl30,List.take_zero,List.nil_append,Nat.zero_add];unfold qr
   rw [List.drop_append_of_le_length (by omega),List.drop_of_length_le (by omega),List.nil_append]
  rw [e1] at h1;have h2:=(h1.set 31 (.pointer (some ⟨s,0,none⟩))).set 32 (.bool true)
  have e2:((ndC x ev ++ [dptr f0.p,f0.sv,.bool false]).set 31 (.pointer (some ⟨s,0,none⟩))).set 32 (.bool true)=qr x ⟨q,f0.p,b,s,g,A,k',.pointer (some ⟨s,0,none⟩),ts,d2⟩ true:=by
   rw [List.set_append_right _ _ (by omega),hl30,List.set_append_right _ _ (by omega),hl30]
   unfold qr Fp.ev;dsimp only;rw [HXL.out,HEV.out]
   rfl
  rw [e2] at h2;have hAq:Apart [q] W (((W.setCells q 0 (ndC x ev)).setCell ⟨q,31,none⟩ (.pointer (some ⟨s,0,none⟩))).setCell ⟨q,32,none⟩ (.bool true)):=((qS q (ndC x ev) 0 W).trans (Apart.setCell _ q 31 _)).trans (Apart.setCell _ q 32 _);obtain ⟨d2h,hA2,hg2,hs2,hk2,hl2,hE2⟩:=HP2.out;have hbW:=hb3.trans (hb.mono hb3.size);have hdW:=d2h.later hbW;have hkW:Vb W s _ _:=(hbW.block _ (Vb.lt hk2)).trans hk2;have hlW:Vb W g _ _:=(hbW.block _ (Vb.lt hl2)).trans hl2
  have hqn:∀ y ∈ [q],qK W y:=λy hy=>by
   obtain rfl:y=q:=by simpa using hy
   exact qv hv (by decide)
  have hAll:Apart [q,f0.p,b] w (((W.setCells q 0 (ndC x ev)).setCell ⟨q,31,none⟩ (.pointer (some ⟨s,0,none⟩))).setCell ⟨q,32,none⟩ (.bool true)):=
   ((hA13.trans (Apart.of_below hb _)).mono (λy hy=>List.mem_cons_of_mem _ hy)).trans (hAq.mono (λy hy=>by simp at hy ⊢;exact .inl hy))
  refine ⟨hv.there (by rw [hl33,List.size_toArray,hl30];decide),h1.cell 31 _ (by rw [List.getElem?_append_right (by omega),hl30];rfl),h1.cell 32 _ (by rw [List.getElem?_append_right (by omega),hl30];rfl),Blk.free h1 31,Blk.free h1 32,s,g,A,k',h2,?_,(hE2.later hbW).apart hAq hqn,Vb.apart hkW hAq (λhx=>qa hkW hv (by decide) (by simpa using hx)),Vb.apart hlW hAq (λhx=>qa hlW hv (by decide) (by simpa using hx)),Nat.le_trans HA1.out.size hs2,Nat.le_trans HA1.out.size hg2,hAll⟩
  exact hdW.next hAq HQ0.out (hdW.dk.apart hAq (by simp;exact λe=>HNE.out.1 e.symm) (by simp;exact λe=>HNE.out.2.1 e.symm)) hdW.ok rfl
 have HFIN:=Uq hfin
 have HS6:Hid ((ndC x ev).toArray.size=30):=Uq (by rw [List.size_toArray,hl30])
 have HOE:=Uq hone
 have HN:Hid (∀ W:World,Calls Tryz.prog 55 #[.int .i64 (i:Int),.int .i64 (n:Int),.agg #[.int .u64 (T:Int),.int .i64 V,ev]] W λe w'=>e=.returned (.tuple #[.agg (ndC x ev).toArray,.int .i64 0])∧Below W.heap.size W w'):=Uq λW=>by
  have h:=HNEW.out A k' W;rw [HEV.out] at h;exact h
 have hW:Below W3.heap.size W3 W3.drew:=below_drewN (Below.refl _ W3) 1;clear hs3 hb3 hW3 hbs hA12 hA13 hblk3 hcb3 hone hl30 hl33 hfin c0 cR c30 HP2 HD1 HA1 HNEW HH HON HOP HBLK HCB HDK HEV HXL HLX;go_upto_region 10 with fail
 refine wp_region_held_drew (S:=(λw'=>w'.cell? ⟨c,0,none⟩=some (.slice (some ⟨R,0,none⟩) n k)∧w'.cell? ⟨bs,0,none⟩=some (.int .u64 (T:Int))∧w'.cell? ⟨bs,1,none⟩=some (.int .i64 V)∧w'.cell? ⟨bs,2,none⟩=some ev)) (by kernel_rfl) (MK.out _ hW) (λhHeld=>?_)
 (refine tk 0 ?_ ?_ ?_;rotate_left;focus (intro w hSw;(try dsimp only at hSw);go_simp;(try with_reducible rfl);done))
 (try simp only [Act.put,Ur,Us,Ut])
 (refine tk 1 ?_ ?_ ?_;rotate_left;focus (intro w hSw;(try dsimp only at hSw);go_simp;(try with_reducible rfl);done))
 (try simp only [Act.put,Ur,Us,Ut])
 (refine tk 2 ?_ ?_ ?_;rotate_left;focus (intro w hSw;(try dsimp only at hSw);go_simp;(try with_reducible rfl);done))
 (try simp only [Act.put,Ur,Us,Ut])
 (refine tk 3 ?_ ?_ ?_;rotate_left;focus (intro w hSw;(try dsimp only at hSw);go_simp;(try with_reducible rfl);done))
 (try simp only [Act.put,Ur,Us,Ut])
 (refine tk 4 ?_ ?_ ?_;rotate_left;focus (intro w hSw;(try dsimp only at hSw);go_simp;(try with_reducible rfl);done))
 (try simp only [Act.put,Ur,Us,Ut])
 (refine tk 5 ?_ ?_ ?_;rotate_left;focus (intro w hSw;(try dsimp only at hSw);go_simp;(try with_reducible rfl);done))
 (try simp only [Act.put,Ur,Us,Ut])
 (refine tk 6 ?_ ?_ ?_;rotate_left;focus (intro w hSw;(try dsimp only at hSw);go_simp;(try with_reducible rfl);done))
 (try simp only [Act.put,Ur,Us,Ut])
 refine wpAnyH_ready (rs:=[7,11]) (by kernel_rfl) (by simp) ?_
 refine (AllReadyH.cons (qx rfl) (λK hK=>?_) (AllReadyH.cons (qx rfl) (λK hK=>?_) AllReadyH.nil))
 ·rw [if_pos (by rfl)]
  go_simp
  go_at_call 55
  refine (HN.out _).mono ?_;rintro e w1 ⟨rfl,hb1⟩;have HLD:=Uq (yL (w1:=w1) x ev);have HZ:Hid (Blk (w1.alloc (.cells #[.int .i64 0,.int .i64 0,.int .u64 0,.int .i64 0,.slice none 0 0,.int .i64 0,.int .i64 0,.int .u64 0,.int .i64 0,.bool false,.bool false,.bool false,.bool false,.bool false,.bool false,.bool false,.int .u64 0,.int .u64 0,.int .u64 0,.int .u64 0,.int .u64 0,.int .u64 0,.int .u64 0,.int .u64 0,.int .u64 0,.int .u64 0,.int .u64 0,.int .u64 0,.int .u64 0,.int .u64 0] 100)) w1.heap.size (ndC qi nilV) 100):=Uq (Blk.new w1 _ _);have hW:=hW.trans (hb1.mono hW.size);have hWF:=hW.trans (HLD.out.2.mono hW.size);dsimp only
  refine hK.out _ _ (MK.out _ hW) (λhHeld=>?_)
  clear hK K
  (try simp only [Act.put,Ur,Us,Ut])
  (refine tk 8 ?_ ?_ ?_;rotate_left;focus (intro w hSw;(try dsimp only at hSw);go_simp;(try with_reducible rfl);done))
  (try simp only [Act.put,Ur,Us,Ut])
  (refine tk 9 ?_ ?_ ?_;rotate_left;focus (intro w hSw;(try dsimp only at hSw);go_simp;(try with_reducible rfl);done))
  (try simp only [Act.put,Ur,Us,Ut])
  (refine tk 10 ?_ ?_ ?_;rotate_left;focus (intro w hSw;(try dsimp only at hSw);go_simp;(try with_reducible rfl);done))
  (try simp only [Act.put,Ur,Us,Ut])
  refine wpAnyH_ready (rs:=[11]) (by kernel_rfl) (by simp) ?_
  refine (AllReadyH.cons (qx rfl) (λK hK=>?_) AllReadyH.nil)
  rw [if_pos (by rfl)]
  go_simp
  have hW:=hW.trans (((Below.refl _ w1).alloc (Nat.le_refl _) (.cells #[.int .i64 0,.int .i64 0,.int .u64 0,.int .i64 0,.slice none 0 0,.int .i64 0,.int .i64 0,.int .u64 0,.int .i64 0,.bool false,.bool false,.bool false,.bool false,.bool false,.bool false,.bool false,.int .u64 0,.int .u64 0,.int .u64 0,.int .u64 0,.int .u64 0,.int .u64 0,.int .u64 0,.int .u64 0,.int .u64 0,.int .u64 0,.int .u64 0,.int .u64 0,.int .u64 0,.int .u64 0] 100)).mono hW.size)
  (try dsimp only)
  refine hK.out _ _ (MK.out _ hW) (λhHeld=>?_)
  clear hK K
  (try simp only [Act.put,Ur,Us,Ut])
  refine wpAnyH_ready (rs:=[12]) (by kernel_rfl) (by simp) ?_
  refine (AllReadyH.cons (qx rfl) (λK hK=>?_) AllReadyH.nil)
  rw [if_pos (by rfl)]
  refine wp_store_row 100 _ _ rfl _ _ rfl rfl _ _ HZ.out (by rw [qc,HS6.out]) (by rw [HS6.out];rfl) (qy HOE.out) ?_
  (try simp only [Act.put])
  refine hK.out _ _ (MK.out _ hWF) (λhHeld=>?_)
  clear hK K
  (try simp only [Act.put,Ur,Us,Ut])
  (refine tk 13 ?_ ?_ ?_;rotate_left;focus (intro w hSw;(try dsimp only at hSw);go_simp;(try with_reducible rfl);done))
  (try simp only [Act.put,Ur,Us,Ut])
  refine wpAnyH_done (by kernel_rfl) ?_ _
  obtain ⟨bn,hbn⟩:∃ b,w1.heap.size=b:=⟨_,rfl⟩;have hLD1:=HLD.out.1;rw [hbn] at hLD1 hWF ⊢;obtain ⟨W,hWW⟩:∃ W,(w1.alloc (.cells #[.int .i64 0,.int .i64 0,.int .u64 0,.int .i64 0,.slice none 0 0,.int .i64 0,.int .i64 0,.int .u64 0,.int .i64 0,.bool false,.bool false,.bool false,.bool false,.bool false,.bool false,.bool false,.int .u64 0,.int .u64 0,.int .u64 0,.int .u64 0,.int .u64 0,.int .u64 0,.int .u64 0,.int .u64 0,.int .u64 0,.int .u64 0,.int .u64 0,.int .u64 0,.int .u64 0,.int .u64 0] 100)).setRow bn (ndC x ev).toArray=W:=⟨_,rfl⟩;rw [hWW] at hLD1 hWF ⊢;have HBK:=Uq hLD1;clear hHeld hW hb1 HZ hbn hWW HLD hLD1;have hF:=HFIN.out W hWF;have HTH:=Uq hF.1;have HC31:=Uq hF.2.1;have HC32:=Uq hF.2.2.1;have HF31:=Uq hF.2.2.2.1;have HF32:=Uq hF.2.2.2.2.1;have HEND:=Uq hF.2.2.2.2.2;clear hF hWF
  go_wp2_with (first | (refine wpList_load_row rfl 100 _ rfl bn rfl _ _ _ _ HBK.out Tryz.underlying100 rfl (by rw [qc,HS6.out]) ?_) | (refine wpList_store_mid rfl 100 (.tmp 70) (.tmp 67) rfl q 0 (ndC x ev).toArray rfl rfl HTH.out (by rw [qc,HS6.out]) (qy HOE.out) ?_;have c31:=HC31.out;have c32:=HC32.out;have f31:=HF31.out;have f32:=HF32.out))
  go_ret;exact ⟨rfl,HEND.out⟩
 ·rw [if_pos (by rfl)]
  go_simp
  have hbz:=(Below.refl _ W3.drew).alloc (Nat.le_refl _) (.cells #[.int .i64 0,.int .i64 0,.int .u64 0,.int .i64 0,.slice none 0 0,.int .i64 0,.int .i64 0,.int .u64 0,.int .i64 0,.bool false,.bool false,.bool false,.bool false,.bool false,.bool false,.bool false,.int .u64 0,.int .u64 0,.int .u64 0,.int .u64 0,.int .u64 0,.int .u64 0,.int .u64 0,.int .u64 0,.int .u64 0,.int .u64 0,.int .u64 0,.int .u64 0,.int .u64 0,.int .u64 0] 100);have hZ0:Blk (W3.drew.alloc (.cells #[.int .i64 0,.int .i64 0,.int .u64 0,.int .i64 0,.slice none 0 0,.int .i64 0,.int .i64 0,.int .u64 0,.int .i64 0,.bool false,.bool false,.bool false,.bool false,.bool false,.bool false,.bool false,.int .u64 0,.int .u64 0,.int .u64 0,.int .u64 0,.int .u64 0,.int .u64 0,.int .u64 0,.int .u64 0,.int .u64 0,.int .u64 0,.int .u64 0,.int .u64 0,.int .u64 0,.int .u64 0] 100)) W3.drew.heap.size (ndC qi nilV) 100:=Blk.new W3.drew _ _;have hW0:=hW;have hW:=hW.trans (hbz.mono hW.size)
  (try dsimp only)
  refine hK.out _ _ (MK.out _ hW) (λhHeld=>?_)
  clear hK K
  (try simp only [Act.put,Ur,Us,Ut])
  refine wpAnyH_ready (rs:=[7]) (by kernel_rfl) (by simp) ?_
  refine (AllReadyH.cons (qx rfl) (λK hK=>?_) AllReadyH.nil)
  rw [if_pos (by rfl)]
  go_simp
  go_at_call 55
  refine (HN.out _).mono ?_;rintro e w1 ⟨rfl,hb1⟩;have HZ:Hid (Blk w1 W3.heap.size (ndC qi nilV) 100):=Uq (hZ0.below hb1);have HLD:=Uq (Z7 (base:=W3.heap.size) (bn:=W3.heap.size) HZ.out (Nat.le_refl _) x ev);have hW:=hW.trans (hb1.mono hW.size);have hWF:=hW.trans HLD.out.2;dsimp only
  refine hK.out _ _ (MK.out _ hW) (λhHeld=>?_)
  clear hK K
  (try simp only [Act.put,Ur,Us,Ut])
  (refine tk 8 ?_ ?_ ?_;rotate_left;focus (intro w hSw;(try dsimp only at hSw);go_simp;(try with_reducible rfl);done))
  (try simp only [Act.put,Ur,Us,Ut])
  (refine tk 9 ?_ ?_ ?_;rotate_left;focus (intro w hSw;(try dsimp only at hSw);go_simp;(try with_reducible rfl);done))
  (try simp only [Act.put,Ur,Us,Ut])
  (refine tk 10 ?_ ?_ ?_;rotate_left;focus (intro w hSw;(try dsimp only at hSw);go_simp;(try with_reducible rfl);done))
  (try simp only [Act.put,Ur,Us,Ut])
  refine wpAnyH_ready (rs:=[12]) (by kernel_rfl) (by simp) ?_
  refine (AllReadyH.cons (qx rfl) (λK hK=>?_) AllReadyH.nil)
  rw [if_pos (by rfl)]
  refine wp_store_row 100 _ _ rfl _ _ rfl rfl _ _ HZ.out (by rw [qc,HS6.out]) (by rw [HS6.out];rfl) (qy HOE.out) ?_
  (try simp only [Act.put])
  refine hK.out _ _ (MK.out _ hWF) (λhHeld=>?_)
  clear hK K
  (try simp only [Act.put,Ur,Us,Ut])
  (refine tk 13 ?_ ?_ ?_;rotate_left;focus (intro w hSw;(try dsimp only at hSw);go_simp;(try with_reducible rfl);done))
  (try simp only [Act.put,Ur,Us,Ut])
  refine wpAnyH_done (by kernel_rfl) ?_ _
  have hLD1:=HLD.out.1;obtain ⟨W,hWW⟩:∃ W,w1.setRow W3.heap.size (ndC x ev).toArray=W:=⟨_,rfl⟩;rw [hWW] at hLD1 hWF ⊢;have HBK:=Uq hLD1;clear hHeld hW hW0 hbz hZ0 hb1 HZ hWW HLD hLD1;have hF:=HFIN.out W hWF;have HTH:=Uq hF.1;have HC31:=Uq hF.2.1;have HC32:=Uq hF.2.2.1;have HF31:=Uq hF.2.2.2.1;have HF32:=Uq hF.2.2.2.2.1;have HEND:=Uq hF.2.2.2.2.2;clear hF hWF
  go_wp2_with (first | (refine wpList_load_row rfl 100 _ rfl W3.heap.size rfl _ _ _ _ HBK.out Tryz.underlying100 rfl (by rw [qc,HS6.out]) ?_) | (refine wpList_store_mid rfl 100 (.tmp 70) (.tmp 67) rfl q 0 (ndC x ev).toArray rfl rfl HTH.out (by rw [qc,HS6.out]) (qy HOE.out) ?_;have c31:=HC31.out;have c32:=HC32.out;have f31:=HF31.out;have f32:=HF32.out))
  go_ret;exact ⟨rfl,HEND.out⟩
section
variable {B:Nat} {w0 w:World} {c R:Nat} {C:cl.Clu} {F:Nat→Fp} {k:Nat} {wv:Value}
theorem VD {i:Nat} (h:CluAt B w0 w c R C F k wv) (hi:i < C.n) (hu:(C.p i).up=true) :
  Calls Tryz.prog 15 #[cptr c,.int .i64 (i:Int)] w λe w'=>e=.returned (.int .i64 5)∧Below w.heap.size w w':=by
 have H:=Uq (ZP h hi)
 have K:Hid (∀ w',Below w.heap.size w w'→w'.cell? ⟨c,0,none⟩=some (.slice (some ⟨R,0,none⟩) C.n k)∧w'.cell? ⟨R,i,none⟩=some (.pointer (some ⟨(F i).q,0,none⟩))∧w'.cell? ⟨(F i).q,32,none⟩=some (.bool true)):=Uq λw' hb=>⟨(h.later hb).c0,(h.later hb).at_ hi,by rw [← hu];exact (h.later hb).upc hi⟩
 obtain ⟨q,hq⟩:∃ q,(F i).q=q:=⟨_,rfl⟩;obtain ⟨n,hn⟩:∃ n,C.n=n:=⟨_,rfl⟩;rw [hq,hn] at K;rw [hn] at hi
 have hin:(i:Int) < (n:Int):=by omega
 clear h hq hn hu;unfold cptr at H ⊢
 go_enter Tryz.func15,Tryz.ntmps15
 go_wp2_with (go_at_call 52;refine H.out.mono ?_;rintro e w1 ⟨rfl,hb1⟩;obtain ⟨k0,k1,k2⟩:=K.out w1 hb1)
 go_ret;exact ⟨rfl,hb1⟩
theorem CluAt.stay3' {i:Nat} (h:CluAt B w0 w c R C F k wv) (hi:i < C.n) {w':World} (hA:Apart [(F i).q,(F i).p,(F i).b] w w'):Stay F C.n w w':=
 Stay.of_apart hA λy hy=>by
  simp only [List.mem_cons,List.not_mem_nil,or_false] at hy
  rcases hy with e | e | e
  ·rw [e];exact .inl ⟨_,_,(h.peers i hi).blk,.inl rfl⟩
  ·exact .inr ⟨i,hi,.inl e⟩
  ·exact .inr ⟨i,hi,.inr (.inl e)⟩
theorem vU:wl.openE RAFT=true:=KL
theorem Xp {i:Nat} (h:CluAt B w0 w c R C F k wv) (hi:i < C.n) (hd:(C.p i).up=false) (ht:TabAt w0) :
  Calls Tryz.prog 15 #[cptr c,.int .i64 (i:Int)] w λe w'=>e=.returned (.int .i64 0)∧∃ F',CluAt B w0 w' c R (cl.started C i) F' k wv∧Stay F C.n w w'∧(∀ j,j ≠ i→F' j=F j)∧(F' i).p=(F i).p∧(F' i).b=(F i).b∧(F' i).d={ (F i).d with off:=false,left:=0 }:=by
 have pi:=h.peers i hi;have hk:=pi.kept;obtain ⟨us,r1,r2⟩:=h.row;have hop:=wl.one_open (c:=(F i).d.cap) (k:=(F i).d.keep) vU hk.wide hk.one;have hblk:=pi.blk;rw [hd] at hblk
 refine (Yh h.blk r1 (r2 i hi) hi h.n7 hblk rfl pi.hq pi.ok pi.disk ht hop hk.frm hk.many (λt hm=>by have:=hk.wide t hm;unfold maxLen;omega)).mono ?_
 rintro e w' ⟨rfl,s,g,A,k',hv,hd',hE,hs,hg,h1,h2,hA⟩
 refine ⟨rfl,_,h.peer hi hA (λy hy=>?_) (P:=⟨(C.p i).s,true,rf.new (i:Int) (C.n:Int) (C.p i).s.t (C.p i).s.v (C.p i).s.l⟩) (f:=⟨(F i).q,(F i).p,(F i).b,s,g,A,k',.pointer (some ⟨s,0,none⟩),(F i).a,⟨(F i).d.cap,(F i).d.files,false,0,(F i).d.keep⟩⟩) ?_ ⟨rfl,rfl,rfl⟩ (λ_=>.inr ⟨h1,h2⟩),h.stay3' hi hA,λj hj=>cl.upd_other _ _ hj,by rw [cl.upd_same],by rw [cl.upd_same],by rw [cl.upd_same]⟩
 ·simp only [List.mem_cons,List.not_mem_nil,or_false] at hy
  rcases hy with e | e | e
  ·exact .inl e
  ·exact .inr (.inl e)
  ·exact .inr (.inr (.inl e))
 ·have hb:=h.bel.size
  exact ⟨hv,hE,⟨rfl,rfl,rfl,by intro y hy;simp [rf.new] at hy;omega,by intro y hy;simp [rf.new] at hy;omega⟩,hd',pi.hq,⟨hk.wide,hk.frm,hk.one,hk.flat,hk.many,hk.cap,hk.room,hk.few,rfl⟩,⟨_,rfl⟩,(λh=>by cases h),λ_=>⟨rfl,rfl,hs,hg,by show w0.heap.size≤g;omega,by show w0.heap.size≤s;omega⟩⟩
end
namespace cl
def leadTo (C:Clu):Nat→Int
 | 0=>-1
 | k + 1=>if (C.p k).up=true∧(C.p k).x.role=2∧(leadTo C k = -1∨(C.p (leadTo C k).toNat).x.term < (C.p k).x.term) then (k:Int) else leadTo C k
theorem leadTo_or (C:Clu) (k:Nat):leadTo C k = -1∨∃ m:Nat,m < k∧leadTo C k=(m:Int)∧(C.p m).up=true∧(C.p m).x.role=2:=by
 induction k with
 | zero=>exact .inl rfl
 | succ k ih=>
  show (if _ then _ else _)=_∨_
  by_cases h:(C.p k).up=true∧(C.p k).x.role=2∧(leadTo C k = -1∨(C.p (leadTo C k).toNat).x.term < (C.p k).x.term)
  ·right
   refine ⟨k,Nat.lt_succ_self k,?_,h.1,h.2.1⟩
   show (if _ then _ else _)=_
   rw [if_pos h]
  ·rw [if_neg h]
   rcases ih with e | ⟨m,h1,h2,h3⟩
   ·exact .inl e
   ·right
    refine ⟨m,Nat.lt_succ_of_lt h1,?_,h3⟩
    show (if _ then _ else _)=_
    rw [if_neg h];exact h2
theorem leadTo_yes {C:Clu} {k:Nat} (h:(C.p k).up=true∧(C.p k).x.role=2∧(leadTo C k = -1∨(C.p (leadTo C k).toNat).x.term < (C.p k).x.term)):leadTo C (k + 1)=(k:Int):=by
 show (if _ then _ else _)=_
 rw [if_pos h]
theorem leadTo_no {C:Clu} {k:Nat} (h:¬ ((C.p k).up=true∧(C.p k).x.role=2∧(leadTo C k = -1∨(C.p (leadTo C k).toNat).x.term < (C.p k).x.term))):leadTo C (k + 1)=leadTo C k:=by
 show (if _ then _ else _)=_
 rw [if_neg h]
end cl
section
variable {B:Nat} {w0 w:World} {c R:Nat} {C:cl.Clu} {F:Nat→Fp} {k:Nat} {wv:Value}
theorem CluAt.nc (h:CluAt B w0 w c R C F k wv) {i:Nat} (hi:i < C.n):w.cell? ⟨(F i).q,2,none⟩=some (.int .u64 ((C.p i).x.term:Int))∧w.cell? ⟨(F i).q,5,none⟩=some (.int .i64 (C.p i).x.role):=
 ⟨(h.peers i hi).blk.cell 2 _ (by rw [QO _ _ _ (h.peers i hi).ok 2 (by decide)];rfl),(h.peers i hi).blk.cell 5 _ (by rw [QO _ _ _ (h.peers i hi).ok 5 (by decide)];rfl)⟩
set_option maxHeartbeats 8000000 in
theorem Yy (h:CluAt B w0 w c R C F k wv) :
  Calls Tryz.prog 12 #[cptr c] w λe w'=>e=.returned (.int .i64 (cl.leadTo C C.n))∧Below w.heap.size w w':=by
 have c0:=h.c0;have hn7:=h.n7;obtain ⟨n,hn⟩:∃ n,C.n=n:=⟨_,rfl⟩
 have HP:Hid (∀ wr,Below w.heap.size w wr→wr.cell? ⟨c,0,none⟩=some (.slice (some ⟨R,0,none⟩) n k)∧∀ j,j < n→wr.cell? ⟨R,j,none⟩=some (.pointer (some ⟨(F j).q,0,none⟩))∧wr.cell? ⟨(F j).q,32,none⟩=some (.bool (C.p j).up)∧wr.cell? ⟨(F j).q,5,none⟩=some (.int .i64 (C.p j).x.role)∧wr.cell? ⟨(F j).q,2,none⟩=some (.int .u64 ((C.p j).x.term:Int))):=Uq λwr hb=>by
  rw [← hn]
  exact ⟨(h.later hb).c0,λj hj=>⟨(h.later hb).at_ hj,(h.later hb).upc hj,((h.later hb).nc hj).2,((h.later hb).nc hj).1⟩⟩
 rw [hn] at c0 hn7 ⊢;have HN7:=Uq hn7;clear h hn hn7;unfold cptr
 go_enter Tryz.func12,Tryz.ntmps12
 go_upto_region 3 with fail
 go_loopw [3,11] (λb i wr=>∃ j:Nat,j≤n∧i=.int .i64 j∧b=.int .i64 (cl.leadTo C j)∧Below w.heap.size w wr) (λ_ i _=>n - (intOf i).toNat)
 case atStart=>exact ⟨0,Nat.zero_le _,rfl,rfl,Below.refl _ _⟩
 case round=>
  obtain ⟨j,hj,rfl,rfl,hI⟩:=hrel;have HI:=Uq hI
  by_cases hlt:j < n
  ·obtain ⟨d0,hc⟩:=HP.out _ hI;obtain ⟨d1,d2,d3,d4⟩:=hc j hlt;have hor:=cl.leadTo_or C j;have hyes:=cl.leadTo_yes (C:=C) (k:=j);have hno:=cl.leadTo_no (C:=C) (k:=j)
   have hltI:(j:Int) < (n:Int):=by omega
   have HLT:=Uq hlt
   have hwj:IntKind.i64.wrap ((j:Int) + 1)=(j:Int) + 1:=Qk (by omega) (by have:=HN7.out;omega)
   obtain ⟨l0,hl0⟩:∃ l,cl.leadTo C j=l:=⟨_,rfl⟩;obtain ⟨l1,hl1⟩:∃ l,cl.leadTo C (j + 1)=l:=⟨_,rfl⟩;rw [hl0] at hor hyes hno ⊢;rw [hl1] at hyes hno;obtain ⟨q,hq⟩:∃ q,(F j).q=q:=⟨_,rfl⟩;rw [hq] at d1 d2 d3 d4;obtain ⟨r,hr⟩:∃ r,(C.p j).x.role=r:=⟨_,rfl⟩;obtain ⟨t,htt⟩:∃ r,(C.p j).x.term=r:=⟨_,rfl⟩;obtain ⟨u,hu⟩:∃ r,(C.p j).up=r:=⟨_,rfl⟩;rw [hr,hu,htt] at hyes hno;rw [hr] at d3;rw [hu] at d2;rw [htt] at d4;have HL1:=Uq hl1;clear hI hl0 hl1 hq hr htt hu hlt
   cases u with
   | false=>
    have HE:=Uq (hno (λh=>by cases h.1))
    clear hyes hno hor hc d3 d4 d0;go_upto_region 5 with fail
    go_quiet (fail)
    go_wp2_with fail;go_roundw
    case rel=>exact ⟨j + 1,HLT.out,by go_num,by rw [HL1.out,HE.out],below_drewN HI.out _⟩
    case measure=>have:=HLT.out;simp [intOf];omega
   | true=>
    by_cases hr2:r=2
    ·subst hr2
     rcases hor with rfl | ⟨m,hm,rfl,_,_⟩
     ·have HE:=Uq (hyes ⟨rfl,rfl,.inl rfl⟩);clear hyes hno hc d4 d0;go_upto_region 5 with fail
      go_quiet (fail)
      go_wp2_with fail;go_roundw
      case rel=>exact ⟨j + 1,HLT.out,by go_num,by rw [HL1.out,HE.out],below_drewN HI.out _⟩
      case measure=>have:=HLT.out;simp [intOf];omega
     ·obtain ⟨e1,_,_,e4⟩:=hc m (Nat.lt_trans hm HLT.out);obtain ⟨q2,hq2⟩:∃ q,(F m).q=q:=⟨_,rfl⟩;rw [hq2] at e1 e4;obtain ⟨tm,htm⟩:∃ r,(C.p m).x.term=r:=⟨_,rfl⟩;rw [htm] at e4;have hnat:((m:Int)).toNat=m:=Int.toNat_natCast m;rw [hnat,htm] at hyes hno
      have hmb:((m:Int) == -1)=false:=by first | (simp;done) | (simp;omega)
      have hmn:(m:Int) < (n:Int):=by have:=HLT.out;omega
      by_cases hgt:tm < t
      ·have HE:=Uq (hyes ⟨rfl,rfl,.inr hgt⟩)
       have g1:decide ((tm:Int) < (t:Int))=true:=decide_eq_true (by omega)
       have g2:decide (tm < t)=true:=decide_eq_true hgt;clear hyes hno hc htm hq2 hgt hm hnat;go_upto_region 5 with fail
       go_quiet (fail)
       go_wp2_with fail;go_roundw
       case rel=>exact ⟨j + 1,HLT.out,by go_num,by rw [HL1.out,HE.out],below_drewN HI.out _⟩
       case measure=>have:=HLT.out;simp [intOf];omega
      ·have HE:=Uq (hno (λh=>by rcases h.2.2 with h | h;(have h:(m:Int) = -1:=h;omega);exact hgt h))
       have g1:decide ((tm:Int) < (t:Int))=false:=decide_eq_false (by omega)
       have g2:decide (tm < t)=false:=decide_eq_false hgt;clear hyes hno hc htm hq2 hgt hm hnat;go_upto_region 5 with fail
       go_quiet (fail)
       go_wp2_with fail;go_roundw
       case rel=>exact ⟨j + 1,HLT.out,by go_num,by rw [HL1.out,HE.out],below_drewN HI.out _⟩
       case measure=>have:=HLT.out;simp [intOf];omega
    ·have HE:=Uq (hno (λh=>hr2 h.2.1))
     have hrb:(r == 2)=false:=by simpa using hr2
     clear hyes hno hor hc d4 d0 hr2;go_upto_region 5 with fail
     go_quiet (fail)
     go_wp2_with fail;go_roundw
     case rel=>exact ⟨j + 1,HLT.out,by go_num,by rw [HL1.out,HE.out],below_drewN HI.out _⟩
     case measure=>have:=HLT.out;simp [intOf];omega
  ·obtain rfl:j=n:=by omega
   go_wp2_with fail;go_ret;exact ⟨rfl,HI.out⟩
end
end Go.Proofs.YtppibhieabideaaGreatDoor
