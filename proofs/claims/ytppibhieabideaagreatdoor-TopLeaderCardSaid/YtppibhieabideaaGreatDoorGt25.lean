/- A part of the walk of the program, and of its plain law. -/
import Derived.Test.YtppibhieabideaaGreatDoorGt24
namespace Go.Proofs.YtppibhieabideaaGreatDoor
set_option maxHeartbeats 4000000
open Go Go.RowKit Go.Deep
set_option maxRecDepth 100000
theorem QW {P:Program} {fn:Func} {p:Tmp} {ty:TypeId} (h:fn.results=#[.cell p ty]) (tmps:Array Value) (w:World) (g:Nat) (t:TypeId) (cs:Array Value) (fr:Nat × Nat) (d:TypeDesc)
  (hp:tmps.getD p undef=.pointer (some ⟨g,0,none⟩)) (hg:w.heap[g]?=some (.cells cs t fr))
  (hu:P.underlying ty=some d) (hd:(match d with | .struct _ | .array _ _=>true | _=>false)=true) (hi:(P.info? ty).map (·.size)=some cs.size) :
  (results fn tmps).run P w=.ok (.agg cs) w:=by
 have hp':tmps[p]?.getD undef=.pointer (some ⟨g,0,none⟩):=by simpa using hp
 simp [results,h,hp',asAddr,run_loadVar_row w g t ty cs fr d hg hu hd hi]
def seen (C:cl.Clu) (F:Nat→Fp) (i:Nat):rf.Node × Value:=if (C.p i).up=true then ((C.p i).x,(F i).ev (C.p i).x) else (qi,nilV)
section
variable {B:Nat} {w0 w:World} {c R:Nat} {C:cl.Clu} {F:Nat→Fp} {k:Nat} {wv:Value}
theorem XI {i:Int} (hup:∀ W,Below w.heap.size w W→Calls Tryz.prog 156 #[cptr c,.int .i64 i] W λe w'=>e=.returned (.bool false)∧Below W.heap.size W w') :
  Calls Tryz.prog 48 #[cptr c,.int .i64 i] w λe w'=>e=.returned (ndV qi nilV)∧Below w.heap.size w w':=by
 obtain ⟨X,bn,hX,hbn,hbX,kb⟩:=qp w (ndC qi nilV) 100;have HUP:=Uq (hup X hbX);have HX:Hid (w.alloc (.cells #[.int .i64 0,.int .i64 0,.int .u64 0,.int .i64 0,.slice none 0 0,.int .i64 0,.int .i64 0,.int .u64 0,.int .i64 0,.bool false,.bool false,.bool false,.bool false,.bool false,.bool false,.bool false,.int .u64 0,.int .u64 0,.int .u64 0,.int .u64 0,.int .u64 0,.int .u64 0,.int .u64 0,.int .u64 0,.int .u64 0,.int .u64 0,.int .u64 0,.int .u64 0,.int .u64 0,.int .u64 0] 100)=X):=Uq hX;have HBN:=Uq hbn;have HB:=Uq hbX;have HKB:=Uq kb
 have HLE:Hid (w.heap.size≤bn):=Uq (by omega)
 clear hup hX hbn hbX kb;unfold cptr at HUP ⊢
 go_enter Tryz.func48,Tryz.ntmps48
 go_upto_region 1 with fail;rw [HX.out,HBN.out]
 go_upto_region 2 with (go_at_call 156;refine HUP.out.mono ?_;rintro e w1 ⟨rfl,hb1⟩;have HK1:=Uq (HKB.out.below hb1);have HB1:=Uq hb1;clear hb1)
 go_wp2_with (refine wpList_store_row rfl 100 (.tmp 4) (.tmp 9) rfl bn (ndC qi nilV).toArray rfl rfl _ _ HK1.out (by rw [qc];rfl) rfl (qy rfl) ?_)
 refine bodyPost_ret (QW rfl _ _ bn _ _ (0,0) _ rfl (HK1.out.row (ndC qi nilV)) Tryz.underlying100 rfl (by rw [qc];rfl)) rfl ?_
 exact ⟨rfl,HB.out.trans ((HB1.out.mono HB.out.size).trans (qk _ _ _ HLE.out))⟩
theorem node_up {i:Nat} (h:CluAt B w0 w c R C F k wv) (hi:i < C.n) (hu:(C.p i).up=true) :
  Calls Tryz.prog 48 #[cptr c,.int .i64 (i:Int)] w λe w'=>e=.returned (ndV (C.p i).x ((F i).ev (C.p i).x))∧Below w.heap.size w w':=by
 obtain ⟨X,bn,hX,hbn,hbX,kb⟩:=qp w (ndC qi nilV) 100;have hup:=Jg (h.later hbX) hi;rw [hu] at hup;have HUP:=Uq hup;have HX:Hid (w.alloc (.cells #[.int .i64 0,.int .i64 0,.int .u64 0,.int .i64 0,.slice none 0 0,.int .i64 0,.int .i64 0,.int .u64 0,.int .i64 0,.bool false,.bool false,.bool false,.bool false,.bool false,.bool false,.bool false,.int .u64 0,.int .u64 0,.int .u64 0,.int .u64 0,.int .u64 0,.int .u64 0,.int .u64 0,.int .u64 0,.int .u64 0,.int .u64 0,.int .u64 0,.int .u64 0,.int .u64 0,.int .u64 0] 100)=X):=Uq hX;have HBN:=Uq hbn;have HB:=Uq hbX;have HKB:=Uq kb
 have HLE:Hid (w.heap.size≤bn):=Uq (by omega)
 have K:Hid (∀ w',Below X.heap.size X w'→w'.cell? ⟨c,0,none⟩=some (.slice (some ⟨R,0,none⟩) C.n k)∧w'.cell? ⟨R,i,none⟩=some (.pointer (some ⟨(F i).q,0,none⟩))∧w'.rangeAt (F i).q 0 (ndC (C.p i).x ((F i).ev (C.p i).x))):=Uq λw' hb=>⟨((h.later hbX).later hb).c0,((h.later hbX).later hb).at_ hi,((h.later hbX).later hb).ndRange hi⟩
 have ok:=(h.peers i hi).ok;obtain ⟨q,hq⟩:∃ q,(F i).q=q:=⟨_,rfl⟩;obtain ⟨n,hn⟩:∃ n,C.n=n:=⟨_,rfl⟩;obtain ⟨x,hx⟩:∃ x,(C.p i).x=x:=⟨_,rfl⟩;obtain ⟨ev,hev⟩:∃ v,(F i).ev x=v:=⟨_,rfl⟩
 have hone:ev.oneCell'=true:=by rw [← hev];rfl
 rw [hx] at ok K ⊢;rw [hev] at K ⊢;rw [hq,hn] at K;rw [hn] at hi
 have hin:(i:Int) < (n:Int):=by omega
 have HS6:Hid ((ndC x ev).toArray.size=30):=Uq (by rw [List.size_toArray,qe ok])
 have HSZ:Hid ((Tryz.prog.info? 100).map (·.size)=some (ndC x ev).length):=Uq (by rw [qc,qe ok])
 have HONE:=Uq hone;clear hup h hX hbn hbX kb hq hn hx hev ok hone hu;unfold cptr at HUP ⊢
 go_enter Tryz.func48,Tryz.ntmps48
 go_upto_region 1 with fail;rw [HX.out,HBN.out]
 go_upto_region 3 with (go_at_call 156;refine HUP.out.mono ?_;rintro e w1 ⟨rfl,hb1⟩;have HK1:=Uq (HKB.out.below hb1);obtain ⟨k0,k1,k2⟩:=K.out w1 hb1;have HR2:=Uq k2;have HB1:=Uq hb1;clear hb1 k2)
 go_wp2_with (first | (refine wpList_load_mid rfl 100 _ rfl q 0 rfl _ _ HR2.out Tryz.underlying100 rfl HSZ.out ?_) | (refine wpList_store_row rfl 100 (.tmp 4) (.tmp 19) rfl bn _ rfl rfl _ _ HK1.out (by rw [qc,HS6.out]) (by rw [HS6.out];rfl) (qy HONE.out) ?_))
 refine bodyPost_ret (QW rfl _ _ bn _ _ (0,0) _ rfl (HK1.out.row (ndC x ev)) Tryz.underlying100 rfl (by rw [qc,HS6.out])) rfl ?_
 exact ⟨rfl,HB.out.trans ((HB1.out.mono HB.out.size).trans (qk _ _ _ HLE.out))⟩
theorem ug {i:Nat} (h:CluAt B w0 w c R C F k wv) (hi:i < C.n) :
  Calls Tryz.prog 48 #[cptr c,.int .i64 (i:Int)] w λe w'=>e=.returned (ndV (seen C F i).1 (seen C F i).2)∧Below w.heap.size w w':=by
 unfold seen
 cases hu:(C.p i).up with
 | true=>rw [if_pos rfl];exact node_up h hi hu
 | false=>rw [if_neg (by decide)];exact XI λ_ hb=>by have:=Jg (h.later hb) hi;rw [hu] at this;exact this
theorem zP {i:Int} (x:rf.Node) (A:Option Addr) (d:Nat) (ok:NOk x) (hE:EntsB 0 w (.slice A x.log.length d) x.log) (hc:x.commit≤x.log.length) (hl:x.log.length≤10000)
  (hN:Calls Tryz.prog 48 #[cptr c,.int .i64 i] w λe w'=>e=.returned (ndV x (.slice A x.log.length d))∧Below w.heap.size w w') :
  Calls Tryz.prog 13 #[cptr c,.int .i64 i] w λe w'=>∃ D e',e=.returned (.slice D x.commit e')∧w'.ownsRow w.heap.size 36 2 (.slice D x.commit e') x.commit (qg (x.log.take x.commit))∧Below w.heap.size w w':=by
 obtain ⟨cm,hcm⟩:∃ n,x.commit=n:=⟨_,rfl⟩;obtain ⟨L,hL⟩:∃ n,x.log.length=n:=⟨_,rfl⟩;obtain ⟨ev,hev⟩:∃ v,Value.slice A L d=v:=⟨_,rfl⟩
 have hcap:L≤d:=by
  obtain ⟨A',c',e,h1,_⟩:=hE.1
  injection e with _ _ e3
  rw [← hL,e3];exact h1
 rw [hL] at hE hc hl hN
 have htk:=yk (p:=cm) hE.1 (by omega)
 have htl:(x.log.take cm).length=cm:=by rw [List.length_take];omega
 have HCL:=Uq λW (hb:Below w.heap.size w W)=>zZ A cm d (x.log.take cm) W (htk.below hb) (by omega)
 simp only [htl] at HCL
 have hcl:(cm:Int)≤(L:Int):=by omega
 have hcd:(cm:Int)≤(d:Int):=by omega
 have HN:=Uq hN;have HOK:=Uq ok;rw [hcm];rw [hcm] at hc
 have HC4:Hid ((ndC x ev)[4]?=some (.slice A L d)∧(ndC x ev)[7]?=some (.int .u64 (cm:Int))):=Uq (by rw [← hev,← hcm];exact ⟨rfl,rfl⟩)
 rw [hev] at HN
 have HONE:Hid (ev.oneCell'=true):=Uq (by rw [← hev];rfl)
 have HS6:Hid ((ndC x ev).toArray.size=30):=Uq (by rw [List.size_toArray,qe ok])
 clear hN ok hE htk htl hcm hL hev;unfold cptr at HN ⊢;unfold ndV at HN
 go_enter Tryz.func13,Tryz.ntmps13
 go_upto_region 2 with (first | (go_at_call 48;refine HN.out.mono ?_;rintro e w1 ⟨rfl,hb1⟩;have HZ:Hid (Blk (w1.alloc (.cells #[.int .i64 0,.int .i64 0,.int .u64 0,.int .i64 0,.slice none 0 0,.int .i64 0,.int .i64 0,.int .u64 0,.int .i64 0,.bool false,.bool false,.bool false,.bool false,.bool false,.bool false,.bool false,.int .u64 0,.int .u64 0,.int .u64 0,.int .u64 0,.int .u64 0,.int .u64 0,.int .u64 0,.int .u64 0,.int .u64 0,.int .u64 0,.int .u64 0,.int .u64 0,.int .u64 0,.int .u64 0] 100)) w1.heap.size (ndC qi nilV) 100):=Uq (Blk.new w1 _ _);have HB1:=Uq hb1;clear hb1) | (refine wpList_store_row rfl 100 (.tmp 5) (.tmp 8) rfl w1.heap.size _ rfl rfl _ _ HZ.out (by rw [qc,HS6.out]) (by rw [HS6.out];rfl) (qy HONE.out) ?_))
 have hbk:=HZ.out.row (ndC x ev);have hbl:Below w1.heap.size w1 ((w1.alloc (.cells #[.int .i64 0,.int .i64 0,.int .u64 0,.int .i64 0,.slice none 0 0,.int .i64 0,.int .i64 0,.int .u64 0,.int .i64 0,.bool false,.bool false,.bool false,.bool false,.bool false,.bool false,.bool false,.int .u64 0,.int .u64 0,.int .u64 0,.int .u64 0,.int .u64 0,.int .u64 0,.int .u64 0,.int .u64 0,.int .u64 0,.int .u64 0,.int .u64 0,.int .u64 0,.int .u64 0,.int .u64 0] 100)).setRow w1.heap.size (ndC x ev).toArray):=((Below.refl _ w1).alloc (Nat.le_refl _) _).trans (qk _ _ _ (Nat.le_refl _));have hbw:=HB1.out.trans (hbl.mono HB1.out.size);obtain ⟨bn,hbn⟩:∃ b,w1.heap.size=b:=⟨_,rfl⟩;rw [hbn] at hbk hbw ⊢;obtain ⟨W,hW⟩:∃ W,(w1.alloc (.cells #[.int .i64 0,.int .i64 0,.int .u64 0,.int .i64 0,.slice none 0 0,.int .i64 0,.int .i64 0,.int .u64 0,.int .i64 0,.bool false,.bool false,.bool false,.bool false,.bool false,.bool false,.bool false,.int .u64 0,.int .u64 0,.int .u64 0,.int .u64 0,.int .u64 0,.int .u64 0,.int .u64 0,.int .u64 0,.int .u64 0,.int .u64 0,.int .u64 0,.int .u64 0,.int .u64 0,.int .u64 0] 100)).setRow bn (ndC x ev).toArray=W:=⟨_,rfl⟩;rw [hW] at hbk hbw ⊢;have c4:=hbk.cell 4 _ HC4.out.1;have c7:=hbk.cell 7 _ HC4.out.2;have HBW:=Uq hbw;clear hbk hbl hbw hbn hW HZ
 go_wp2_with (go_at_call 49;refine (HCL.out _ HBW.out).mono ?_;rintro e w2 ⟨D,d2,rfl,hown,hb2⟩;have HO:=Uq (And.intro hown hb2);clear hown hb2)
 go_ret;exact ⟨D,d2,rfl,za HO.out.1 HBW.out.size,HBW.out.trans (HO.out.2.mono HBW.out.size)⟩
def Qp (C:cl.Clu) (i:Nat):List rl.Ent:=if (C.p i).up=true then (C.p i).x.log.take (C.p i).x.commit else []
theorem Zg {i:Nat} (h:CluAt B w0 w c R C F k wv) (hi:i < C.n) (hc:(C.p i).up=true→(C.p i).x.commit≤(C.p i).x.log.length) (hl:(C.p i).up=true→(C.p i).x.log.length≤10000) :
  Calls Tryz.prog 13 #[cptr c,.int .i64 (i:Int)] w λe w'=>∃ D e',e=.returned (.slice D (Qp C i).length e')∧w'.ownsRow w.heap.size 36 2 (.slice D (Qp C i).length e') (Qp C i).length (qg (Qp C i))∧Below w.heap.size w w':=by
 have hN:=ug h hi;unfold seen at hN;unfold Qp
 cases hu:(C.p i).up with
 | true=>
  rw [hu,if_pos rfl] at hN;rw [if_pos rfl];have h1:=zP (C.p i).x (F i).A (F i).c (h.peers i hi).ok (h.peers i hi).ents (hc hu) (hl hu) hN
  have e:((C.p i).x.log.take (C.p i).x.commit).length=(C.p i).x.commit:=by rw [List.length_take];have:=hc hu;omega
  rw [e];exact h1
 | false=>
  rw [hu,if_neg (by decide)] at hN
  rw [if_neg (by decide)]
  exact zP qi none 0 kS (EntsB.nil 0 _) (Nat.le_refl _) (by decide) hN
end
theorem kj {c:Nat} {n k:Nat} {RR:Option Addr} {w:World} (T D:Nat→World→Prop) (E:World→Prop) (hn:n≤7)
  (hc:w.cell? ⟨c,0,none⟩=some (.slice RR n k)) (h0:T 0 w)
  (ht:∀ (j:Nat) w,j < n→T j w→Calls Tryz.prog 42 #[cptr c,.int .i64 (j:Int)] w λe w'=>∃ z:Int,e=.returned (.int .i64 z)∧T (j + 1) w')
  (htd:∀ w,T n w→D 0 w)
  (hd:∀ (j:Nat) w,j < 500→D j w→Calls Tryz.prog 43 #[cptr c,.int .i64 0] w λe w'=>∃ z:Int,e=.returned (.int .i64 z)∧(z=1→E w')∧(z ≠ 1→D (j + 1) w'))
  (hde:∀ w,D 500 w→E w) :
  Calls Tryz.prog 10 #[cptr c] w λe w'=>e=.returned (.tuple #[])∧E w':=by
 unfold cptr at ht hd ⊢;have H0:=Uq h0;have HT:=Uq ht;have HTD:=Uq htd;have HD:=Uq hd;have HDE:=Uq hde;have HN:=Uq hn;clear h0 ht htd hd hde hn
 go_enter Tryz.func10,Tryz.ntmps10
 go_upto_region 1 with fail;clear hc
 go_loopw [8] (λi wr=>∃ j:Nat,j≤n∧i=.int .i64 j∧T j wr) (λi _=>n - (intOf i).toNat)
 case atStart=>exact ⟨0,Nat.zero_le _,rfl,H0.out⟩
 case round=>
  obtain ⟨j,hj,rfl,hI⟩:=hrel;have HI:=Uq hI
  have hwj:IntKind.i64.wrap ((j:Int) + 1)=(j:Int) + 1:=by rw [IntKind.wrap_i64];have:=HN.out;omega
  clear hI
  by_cases hlt:j < n
  ·have hltI:(j:Int) < (n:Int):=by omega
   have HCALL:=Uq (HT.out j _ hlt HI.out);have HLT:=Uq hlt;clear hlt hj
   go_wp2_with (go_at_call 42;refine HCALL.out.mono ?_;rintro e w2 ⟨z,rfl,hI2⟩;have HI2:=Uq hI2;clear hI2)
   go_roundw
   case rel=>exact ⟨j + 1,HLT.out,by go_num,HI2.out⟩
   case measure=>have:=HLT.out;simp [intOf];omega
  ·obtain rfl:j=n:=by omega
   have hI0:=HTD.out _ HI.out;have HI0:=Uq hI0;clear hI0 hlt hj hwj;go_upto_region 6 with fail
   go_loopw [15] (λi wx=>∃ m:Nat,m≤500∧i=.int .i64 m∧D m wx) (λi _=>500 - (intOf i).toNat)
   case atStart=>exact ⟨0,Nat.zero_le _,rfl,HI0.out⟩
   case round=>
    obtain ⟨m,hm,rfl,hI⟩:=hrel;have HI2:=Uq hI
    have hwm:IntKind.i64.wrap ((m:Int) + 1)=(m:Int) + 1:=by rw [IntKind.wrap_i64];omega
    clear hI
    by_cases hlt:m < 500
    ·have hltI:(m:Int) < 500:=by omega
     have HCALL:=Uq (HD.out m _ hlt HI2.out);have HLT:=Uq hlt;clear hlt hm
     go_upto_if 19 with (go_at_call 43;refine HCALL.out.mono ?_;rintro e w2 ⟨z,rfl,hE,hC⟩;have HE:=Uq hE;have HC:=Uq hC;clear hE hC)
     by_cases hz:z=1
     ·subst hz;have hE:=HE.out rfl;have HEE:=Uq hE;clear hE;go_wp2_with fail;refine bodyPost_ret (results_none rfl _ _ _) rfl ?_;exact ⟨rfl,HEE.out⟩
     ·have hzb:(z == 1)=false:=by simpa using hz
      have hC:=HC.out hz;have HCC:=Uq hC;rw [hzb];clear hC hz;go_wp2_with fail;go_roundw
      case rel=>exact ⟨m + 1,HLT.out,by go_num,HCC.out⟩
      case measure=>have:=HLT.out;simp [intOf];omega
    ·obtain rfl:m=500:=by omega
     have hE:=HDE.out _ HI2.out;have HE:=Uq hE;clear hE hlt hm hwm;go_wp2_with fail;go_end0;exact ⟨rfl,HE.out⟩
theorem jx:rl.from_ []=((0,-1,[]),0):=by rfl
theorem JD (cap:Nat) (h:cap≤10000000):wl.open_ ⟨cap,[],false,0,0⟩ RAFT=(⟨cap,[(RAFT,([],0))],false,0,0⟩,[],0):=by
 have h1:=wl.open_new (d:=⟨cap,[],false,0,0⟩) ⟨rfl,rfl⟩ (zG cap h 0) KL rfl (by show 0 < 200;decide)
 rw [h1]
 rfl
structure Raw (w0 w:World) (cap:Nat) (f:Fp):Prop where
 blk:Vb w f.q (qr qi f false) 103
 disk:Ldk w0 w f.p f.b ⟨cap,[],false,0,0⟩
 hq:w0.heap.size≤f.q
 lt:f.q < w.heap.size∧f.p < w.heap.size∧f.b < w.heap.size
theorem Raw.apart {w0 w w':World} {cap:Nat} {f:Fp} {S:List Nat} (h:Raw w0 w cap f) (hA:Apart S w w') (hge:∀ x ∈ S,w0.heap.size≤x) (h1:f.q ∉ S) (h2:f.p ∉ S) (h3:f.b ∉ S):Raw w0 w' cap f:=
 ⟨h.blk.apart hA h1,h.disk.next hA hge (h.disk.dk.apart hA h2 h3) h.disk.ok rfl,h.hq,⟨Nat.lt_of_lt_of_le h.lt.1 hA.size,Nat.lt_of_lt_of_le h.lt.2.1 hA.size,Nat.lt_of_lt_of_le h.lt.2.2 hA.size⟩⟩
theorem Raw.later {w0 w w':World} {cap:Nat} {f:Fp} (h:Raw w0 w cap f) (hb:Below w.heap.size w w'):Raw w0 w' cap f:=
 h.apart (Apart.of_below hb []) (λ_ hx=>by cases hx) (λhx=>by cases hx) (λhx=>by cases hx) (λhx=>by cases hx)
def xL (n i:Nat):cl.Nd:=⟨⟨0,-1,[]⟩,true,rf.new (i:Int) (n:Int) 0 (-1) []⟩
structure Half (B:Nat) (w0 w:World) (c R n k cap j:Nat) (F:Nat→Fp):Prop where
 bel:Below w0.heap.size w0 w
 blk:Vb w c [.slice (some ⟨R,0,none⟩) n k,.slice none 0 0] 93
 hc:w0.heap.size≤c
 hR:w0.heap.size≤R
 row:∃ us:List Value,Vb w R us 94∧∀ i,i < n→us[i]?=some (.pointer (some ⟨(F i).q,0,none⟩))
 old:∀ i,i < j→PeerOk B w0 w (xL n i) (F i)∧(F i).d=⟨cap,[(RAFT,([],0))],false,0,0⟩
 raw:∀ i,j≤i→i < n→Raw w0 w cap (F i)
 sep:∀ i l,i < n→l < n→i ≠ l→(F i).q ≠ (F l).q∧(F i).p ≠ (F l).p∧(F i).b ≠ (F l).b
 sg:∀ i l,i < j→l < j→i ≠ l→(F i).s ≠ (F l).s∧(F i).g ≠ (F l).g
set_option maxHeartbeats 1000000 in
theorem Half.next {B:Nat} {w0 w:World} {c R n k cap j:Nat} {F:Nat→Fp} (h:Half B w0 w c R n k cap j F) (hj:j < n) (hn7:n≤7) (hcap:cap≤10000000) (hB:2 * B≤cap) (ht:TabAt w0) :
  Calls Tryz.prog 15 #[cptr c,.int .i64 (j:Int)] w λe w'=>e=.returned (.int .i64 0)∧∃ F',Half B w0 w' c R n k cap (j + 1) F':=by
 obtain ⟨us,r1,r2⟩:=h.row;have hr:=h.raw j (Nat.le_refl _) hj
 refine (Yh h.blk r1 (r2 j hj) hj hn7 hr.blk rfl hr.hq kS hr.disk ht (JD cap hcap) jx (Nat.zero_le _) (λt hm=>by cases hm)).mono ?_
 rintro e w' ⟨rfl,s,g,A,k',hv,hd',hE,hs,hg,h1,h2,hA⟩
 have hge:∀ x ∈ [(F j).q,(F j).p,(F j).b],w0.heap.size≤x:=λx hx=>by
  simp only [List.mem_cons,List.not_mem_nil,or_false] at hx
  rcases hx with e | e | e
  ·rw [e];exact hr.hq
  ·rw [e];exact hr.disk.hp
  ·rw [e];exact hr.disk.hb
 have hbase:=h.bel.size
 have hno:∀ x ∈ [(F j).q,(F j).p,(F j).b],qK w x:=λx hx=>by
  simp only [List.mem_cons,List.not_mem_nil,or_false] at hx
  rcases hx with e | e | e
  ·rw [e];exact qv hr.blk (by decide)
  ·rw [e];exact qv hr.disk.dk.blk (by decide)
  ·rw [e];exact QY hr.disk.dk.map
 have hty:∀ y vs t,Vb w y vs t→t ≠ 103→t ≠ 177→y ∉ [(F j).q,(F j).p,(F j).b]:=λy vs t hv h1 h2 hx=>by
  simp only [List.mem_cons,List.not_mem_nil,or_false] at hx
  rcases hx with e | e | e
  ·exact qa hv hr.blk h1 e
  ·exact qa hv hr.disk.dk.blk h2 e
  ·exact qf hv hr.disk.dk.map e
 have hmem:∀ i,i < n→i ≠ j→∀ (P:Nat),(P=(F i).q∧(∃ x,Vb w P x 103))∨(P=(F i).p∧(∃ x,Vb w P x 177))∨(P=(F i).b∧∃ M,FMap w P M)→P ∉ [(F j).q,(F j).p,(F j).b]:=λi hi hne P hP hx=>by
  obtain ⟨s1,s2,s3⟩:=h.sep i j hi hj hne;simp only [List.mem_cons,List.not_mem_nil,or_false] at hx
  rcases hP with ⟨e0,x,hv⟩ | ⟨e0,x,hv⟩ | ⟨e0,M,hv⟩
  ·rcases hx with e | e | e
   ·exact s1 (e0.symm.trans e)
   ·exact qa hv hr.disk.dk.blk (by decide) e
   ·exact qf hv hr.disk.dk.map e
  ·rcases hx with e | e | e
   ·exact qa hv hr.blk (by decide) e
   ·exact s2 (e0.symm.trans e)
   ·exact qf hv hr.disk.dk.map e
  ·rcases hx with e | e | e
   ·exact qf hr.blk hv e.symm
   ·exact qf hr.disk.dk.blk hv e.symm
   ·exact s3 (e0.symm.trans e)
 obtain ⟨f',hf'⟩:∃ f:Fp,⟨(F j).q,(F j).p,(F j).b,s,g,A,k',.pointer (some ⟨s,0,none⟩),[],⟨cap,[(RAFT,([],0))],false,0,0⟩⟩=f:=⟨_,rfl⟩
 have hq':f'.q=(F j).q∧f'.p=(F j).p∧f'.b=(F j).b∧f'.s=s∧f'.g=g:=by rw [← hf'];exact ⟨rfl,rfl,rfl,rfl,rfl⟩
 have eF:∀ i,(cl.upd F j f' i).q=(F i).q∧(cl.upd F j f' i).p=(F i).p∧(cl.upd F j f' i).b=(F i).b:=λi=>by
  by_cases hij:i=j
  ·subst hij;rw [cl.upd_same];exact ⟨hq'.1,hq'.2.1,hq'.2.2.1⟩
  ·rw [cl.upd_other _ _ hij];exact ⟨rfl,rfl,rfl⟩
 have hpk:PeerOk B w0 w' (xL n j) f':=by
  rw [← hf']
  exact ⟨hv,hE,⟨rfl,rfl,rfl,by intro y hy;simp [xL,rf.new] at hy;omega,by intro y hy;simp [xL,rf.new] at hy;omega⟩,hd',hr.hq,⟨λt ht=>(by cases ht),jx,⟨rfl,rfl,rfl⟩,Nat.zero_le _,Nat.zero_le _,hB,(by show 0 + 2 * B≤0 + cap;omega),(by show 1 < 200;decide),rfl⟩,⟨_,rfl⟩,(λh=>by cases h),λ_=>⟨rfl,rfl,hs,hg,by show w0.heap.size≤g;omega,by show w0.heap.size≤s;omega⟩⟩
 refine ⟨rfl,cl.upd F j f',h.bel.trans (hA.below _ h.bel.size hge),h.blk.apart hA (hty _ _ _ h.blk (by decide) (by decide)),h.hc,h.hR,⟨us,r1.apart hA (hty _ _ _ r1 (by decide) (by decide)),λi hi=>by rw [(eF i).1];exact r2 i hi⟩,λi hi=>?_,λi hi hin=>?_,λi l hi hl hne=>by rw [(eF i).1,(eF i).2.1,(eF i).2.2,(eF l).1,(eF l).2.1,(eF l).2.2];exact h.sep i l hi hl hne,λi l hi hl hne=>?_⟩
 ·by_cases hij:i=j
  ·subst hij;rw [cl.upd_same]
   exact ⟨hpk,by rw [← hf']⟩
  ·rw [cl.upd_other _ _ hij]
   have hi2:i < j:=by omega
   obtain ⟨p1,p2⟩:=h.old i hi2
   refine ⟨p1.apart hA hno hge λy hy=>?_,p2⟩
   unfold Fp.blocks at hy
   rw [if_pos (by rfl)] at hy
   obtain ⟨_,_,v3,v4,_⟩:=p1.up rfl;simp only [List.mem_cons,List.not_mem_nil,or_false] at hy
   rcases hy with e | e | e | e | e
   ·rw [e];exact hmem i (by omega) hij _ (.inl ⟨rfl,_,p1.blk⟩)
   ·rw [e];exact hmem i (by omega) hij _ (.inr (.inl ⟨rfl,_,p1.disk.dk.blk⟩))
   ·rw [e];exact hmem i (by omega) hij _ (.inr (.inr ⟨rfl,_,p1.disk.dk.map⟩))
   ·rw [e];exact hty _ _ _ v3 (by decide) (by decide)
   ·rw [e];exact hty _ _ _ v4 (by decide) (by decide)
 ·have hij:i ≠ j:=by omega
  rw [cl.upd_other _ _ hij]
  have hri:=h.raw i (by omega) hin
  exact hri.apart hA hge (hmem i hin hij _ (.inl ⟨rfl,_,hri.blk⟩)) (hmem i hin hij _ (.inr (.inl ⟨rfl,_,hri.disk.dk.blk⟩))) (hmem i hin hij _ (.inr (.inr ⟨rfl,_,hri.disk.dk.map⟩)))
 ·by_cases hij:i=j
  ·subst hij
   have hli:l ≠ i:=λe=>hne e.symm
   rw [cl.upd_same,cl.upd_other _ _ hli,hq'.2.2.2.1,hq'.2.2.2.2]
   obtain ⟨_,_,v3,v4,_⟩:=(h.old l (by omega)).1.up rfl
   have:=Vb.lt v3;have:=Vb.lt v4
   exact ⟨by omega,by omega⟩
  ·rw [cl.upd_other _ _ hij]
   by_cases hlj:l=j
   ·subst hlj;rw [cl.upd_same,hq'.2.2.2.1,hq'.2.2.2.2]
    obtain ⟨_,_,v3,v4,_⟩:=(h.old i (by omega)).1.up rfl
    have:=Vb.lt v3;have:=Vb.lt v4
    exact ⟨by omega,by omega⟩
   ·rw [cl.upd_other _ _ hlj]
    exact h.sg i l (by omega) (by omega) hne
theorem Half.done {B:Nat} {w0 w:World} {c R n k cap:Nat} {F:Nat→Fp} (h:Half B w0 w c R n k cap n F) (hn7:n≤7):CluAt B w0 w c R (cl.fresh n) F k (.slice none 0 0)∧∀ i,i < n→(F i).d=⟨cap,[(RAFT,([],0))],false,0,0⟩:=
 ⟨⟨h.bel,h.blk,h.hc,h.hR,h.row,hn7,λi hi=>(h.old i hi).1,Way.nil _ _,Nat.zero_le _,λi l hi hl hne=>⟨(h.sep i l hi hl hne).1,(h.sep i l hi hl hne).2.1,(h.sep i l hi hl hne).2.2,λ_ _=>h.sg i l hi hl hne⟩⟩,λi hi=>(h.old i hi).2⟩
structure Born (w0 w:World) (c cap j:Nat) (F:Nat→Fp) (v:Value):Prop where
 bel:Below w0.heap.size w0 w
 blk:Vb w c [v,.slice none 0 0] 93
 hc:w0.heap.size≤c
 row:w.ownsRow w0.heap.size 94 1 v j ((List.range j).map λi=>.pointer (some ⟨(F i).q,0,none⟩))
 raw:∀ i,i < j→Raw w0 w cap (F i)
 sep:∀ i l,i < j→l < j→i ≠ l→(F i).q ≠ (F l).q∧(F i).p ≠ (F l).p∧(F i).b ≠ (F l).b
theorem Born.half {B:Nat} {w0 w:World} {c cap n:Nat} {F:Nat→Fp} {v:Value} (h:Born w0 w c cap n F v) (h0:0 < n):∃ R k,v=.slice (some ⟨R,0,none⟩) n k∧Half B w0 w c R n k cap 0 F:=by
 rcases h.row.2 with ⟨_,e⟩ | ⟨R,k,cur,e,hb,hh,hnc,_,hcs,htk⟩
 ·omega
 ·refine ⟨R,k,e,h.bel,by have:=h.blk;rw [e] at this;exact this,h.hc,hb,⟨cur.toList,by unfold Vb;rw [Array.toArray_toList];exact hh,λi hi=>?_⟩,λi hi=>absurd hi (Nat.not_lt_zero _),λi _ hi=>h.raw i hi,h.sep,λi l hi=>absurd hi (Nat.not_lt_zero _)⟩
  have h1:(cur.toList.take (n * 1))[i]?=some (.pointer (some ⟨(F i).q,0,none⟩)):=by
   rw [htk,List.getElem?_map,List.getElem?_range hi]
   rfl
  rw [List.getElem?_take] at h1
  split at h1
  ·exact h1
  ·cases h1
theorem XW:(Tryz.prog.info? 94).map (λi=>(i.zero,i.size,i.bytes))=some (some (.pointer none),1,8):=by kernel_rfl
def rawF (q p b cap:Nat):Fp:=⟨q,p,b,0,0,none,0,.pointer none,[],⟨cap,[],false,0,0⟩⟩
theorem Born.more {w0 w w1 w3:World} {c cap j p b k:Nat} {F:Nat→Fp} {A A5:Option Addr} {c5:Nat} (h:Born w0 w c cap j F (.slice A j k)) (hb1:Below w.heap.size w w1) (hp:w.heap.size≤p) (hbb:w.heap.size≤b) (hd:Dk w1 p b ⟨cap,[],false,0,0⟩) (hcap:cap≤10000000)
  (ho:w3.ownsRow w0.heap.size 94 1 (.slice A5 (j + 1) c5) (j + 1) (((List.range j).map λi=>Value.pointer (some ⟨(F i).q,0,none⟩)) ++ [.pointer (some ⟨w1.heap.size,0,none⟩)]))
  (hg:((w1.alloc (.cells (qr qi (rawF w1.heap.size p b cap) false).toArray 103)).alloc (.cells #[.pointer (some ⟨w1.heap.size,0,none⟩)] 94)).grownBy w3 (Value.slice A j k).ownBlock) :
  (w3.cell? ⟨c,0,none⟩=some (.slice A j k)∧w3.frozen? ⟨c,0,none⟩=false)∧Born w0 (w3.setCell ⟨c,0,none⟩ (.slice A5 (j + 1) c5)) c cap (j + 1) (cl.upd F j (rawF w1.heap.size p b cap)) (.slice A5 (j + 1) c5):=by
 obtain ⟨q,hq⟩:∃ q,w1.heap.size=q:=⟨_,rfl⟩;obtain ⟨X,hX⟩:∃ X,w1.alloc (.cells (qr qi (rawF q p b cap) false).toArray 103)=X:=⟨_,rfl⟩;obtain ⟨Y,hY⟩:∃ Y,X.alloc (.cells #[.pointer (some ⟨q,0,none⟩)] 94)=Y:=⟨_,rfl⟩;rw [hq,hX,hY] at hg;rw [hq] at ho ⊢
 have hbX:Below w1.heap.size w1 X:=by rw [← hX];exact (Below.refl _ w1).alloc (Nat.le_refl _) _
 have hbY:Below X.heap.size X Y:=by rw [← hY];exact (Below.refl _ X).alloc (Nat.le_refl _) _
 have hvX:Vb X q (qr qi (rawF q p b cap) false) 103:=by rw [← hX,← hq];exact Vb.new w1 _ _
 have hb1Y:Below w1.heap.size w1 Y:=hbX.trans (hbY.mono hbX.size);have hbw:Below w.heap.size w Y:=hb1.trans (hb1Y.mono hb1.size);have hbase:=h.bel.size
 have hS:∀ y ∈ (Value.slice A j k).ownBlock.toList,w0.heap.size≤y∧∃ cur,Y.heap[y]?=some (.cells cur 94 (0,0)):=λy hy=>by
  rcases h.row.2 with ⟨e,_⟩ | ⟨g,_,cur,e,hb,hh,_⟩
  ·rw [e] at hy;cases hy
  ·rw [e] at hy
   obtain rfl:y=g:=by simpa [Value.ownBlock] using hy
   refine ⟨hb,cur,?_⟩;rw [hbw.block _ (Array.getElem?_eq_some_iff.1 hh).1];exact hh
 have hty:∀ y vs t,Vb Y y vs t→t ≠ 94→y ∉ (Value.slice A j k).ownBlock.toList:=λy vs t hv ht hy=>by
  obtain ⟨_,cur,e⟩:=hS y hy
  have hv2:Vb Y y cur.toList 94:=by unfold Vb;rw [Array.toArray_toList];exact e
  exact qa hv hv2 ht rfl
 have hmp:∀ y M,FMap Y y M→y ∉ (Value.slice A j k).ownBlock.toList:=λy M hm hy=>by
  obtain ⟨_,cur,e⟩:=hS y hy
  have hv2:Vb Y y cur.toList 94:=by unfold Vb;rw [Array.toArray_toList];exact e
  exact qf hv2 hm rfl
 have hA:=zS hg;have hcY:Vb Y c [.slice A j k,.slice none 0 0] 93:=(hbw.block _ h.blk.lt).trans h.blk
 have hc3:=hcY.apart hA (hty _ _ _ hcY (by decide))
 have hA2:=Apart.setCell w3 c 0 (.slice A5 (j + 1) c5)
 have hgeS:∀ y ∈ (Value.slice A j k).ownBlock.toList,w0.heap.size≤y:=λy hy=>(hS y hy).1
 have hgeC:∀ y ∈ [c],w0.heap.size≤y:=λy hy=>by
  obtain rfl:y=c:=by simpa using hy
  exact h.hc
 have hlw:∀ y,y < w.heap.size→y < w3.heap.size:=λy hy=>Nat.lt_of_lt_of_le hy (Nat.le_trans hbw.size hA.size)
 have hB3:Below w0.heap.size w0 w3:=(h.bel.trans (hbw.mono hbase)).trans (hA.below _ (Nat.le_trans hbase hbw.size) hgeS)
 have hdY:Ldk w0 Y p b ⟨cap,[],false,0,0⟩:=by
  have h0:Ldk w0 w1 p b ⟨cap,[],false,0,0⟩:=⟨h.bel.trans (hb1.mono hbase),hd,Nat.le_trans hbase hp,Nat.le_trans hbase hbb,zG cap hcap 0,hcap⟩;exact h0.later hb1Y
 have hqw:w.heap.size≤q:=by rw [← hq];exact hb1.size
 have hvY:Vb Y q (qr qi (rawF q p b cap) false) 103:=(hbY.block _ hvX.lt).trans hvX;have hpl:p < w1.heap.size:=hd.blk.lt;have hbl:b < w1.heap.size:=hd.map.lt
 have hnew:Raw w0 Y cap (rawF q p b cap):=⟨hvY,hdY,by show w0.heap.size≤q;omega,by show q < Y.heap.size;exact hvY.lt,by show p < Y.heap.size;have:=hb1Y.size;omega,by show b < Y.heap.size;have:=hb1Y.size;omega⟩
 have step:∀ f,Raw w0 Y cap f→Raw w0 (w3.setCell ⟨c,0,none⟩ (.slice A5 (j + 1) c5)) cap f:=λf hr=>by
  have h3:=hr.apart hA hgeS (hty _ _ _ hr.blk (by decide)) (hty _ _ _ hr.disk.dk.blk (by decide)) (hmp _ _ hr.disk.dk.map)
  exact h3.apart hA2 hgeC (λhx=>qa h3.blk hc3 (by decide) (by simpa using hx)) (λhx=>qa h3.disk.dk.blk hc3 (by decide) (by simpa using hx)) (λhx=>qf hc3 h3.disk.dk.map (by simpa using hx:(f.b=c)).symm)
 refine ⟨⟨hc3.cell 0 _ rfl,Blk.free hc3 0⟩,hB3.trans (hA2.below _ hB3.size hgeC),hc3.set 0 _,h.hc,?_,λi hi=>?_,λi l hi hl hne=>?_⟩
 ·have e:((List.range (j + 1)).map λi=>Value.pointer (some ⟨(cl.upd F j (rawF q p b cap) i).q,0,none⟩))=((List.range j).map λi=>Value.pointer (some ⟨(F i).q,0,none⟩)) ++ [.pointer (some ⟨q,0,none⟩)]:=by
   rw [List.range_succ,List.map_append,List.map_cons,List.map_nil,cl.upd_same]
   refine congrArg (· ++ _) (List.map_congr_left λi hi=>?_)
   rw [cl.upd_other _ _ (by have:=List.mem_range.1 hi;omega)]
  rw [e]
  refine Zn ho hA2 λg hg2 hgc=>?_
  obtain rfl:g=c:=by simpa using hgc
  rcases ho.2 with ⟨e,_⟩ | ⟨g2,_,cur,e,_,hh,_⟩
  ·rw [e] at hg2;cases hg2
  ·rw [e] at hg2
   obtain rfl:g2=g:=by simpa [Value.ownBlock] using hg2
   have hv2:Vb w3 g2 cur.toList 94:=by unfold Vb;rw [Array.toArray_toList];exact hh
   exact qa hv2 hc3 (by decide) rfl
 ·by_cases hij:i=j
  ·subst hij;rw [cl.upd_same];exact step _ hnew
  ·rw [cl.upd_other _ _ hij]
   exact step _ ((h.raw i (by omega)).later hbw)
 ·have hfar:∀ i,i < j→(F i).q < w.heap.size∧(F i).p < w.heap.size∧(F i).b < w.heap.size:=λi hi=>(h.raw i hi).lt
  by_cases hij:i=j
  ·subst hij
   have hli:l ≠ i:=λe=>hne e.symm
   rw [cl.upd_same,cl.upd_other _ _ hli]
   obtain ⟨t1,t2,t3⟩:=hfar l (by omega)
   exact ⟨by show q ≠ _;omega,by show p ≠ _;omega,by show b ≠ _;omega⟩
  ·rw [cl.upd_other _ _ hij]
   by_cases hlj:l=j
   ·subst hlj;rw [cl.upd_same]
    obtain ⟨t1,t2,t3⟩:=hfar i (by omega)
    exact ⟨by show _ ≠ q;omega,by show _ ≠ p;omega,by show _ ≠ b;omega⟩
   ·rw [cl.upd_other _ _ hlj]
    exact h.sep i l (by omega) (by omega) hne
set_option maxHeartbeats 8000000 in
theorem yy {B:Nat} (n cap:Nat) (w:World) (h1:1≤n) (h7:n≤7) (hcap:cap≤10000000) (hB:2 * B≤cap) (ht:TabAt w) :
  Calls Tryz.prog 9 #[.int .i64 (n:Int),.int .i64 (cap:Int)] w λe w'=>∃ c R k F,e=.returned (.tuple #[cptr c,.int .i64 0])∧CluAt B w w' c R (cl.fresh n) F k (.slice none 0 0)∧∀ i,i < n→(F i).d=⟨cap,[(RAFT,([],0))],false,0,0⟩:=by
 obtain ⟨i0,hi0,hz0,hz1,hz2⟩:=info_parts XW;obtain ⟨X,c,hX,hc,hbX,kb⟩:=qp w [.slice none 0 0,.slice none 0 0] 93
 have hborn:Born w X c cap 0 (λ_=>rawF 0 0 0 0) (.slice none 0 0):=⟨hbX,kb,by omega,World.ownsRow_nil _ _ _ _,λi hi=>absurd hi (Nat.not_lt_zero _),λi l hi=>absurd hi (Nat.not_lt_zero _)⟩
 have HBN:=Uq hborn;have HX:=Uq hX;have HC:=Uq hc;have HT:=Uq ht;have HB:=Uq hB;have HCAP:=Uq hcap;have H17:=Uq (And.intro h1 h7)
 have e1:decide ((n:Int) < 1)=false:=decide_eq_false (by omega)
 have e2:decide (7 < (n:Int))=false:=decide_eq_false (by omega)
 clear hborn hX hc hbX kb ht hB hcap h1 h7
 go_enter Tryz.func9,Tryz.ntmps9
 go_upto_region 5 with fail;rw [HX.out,HC.out]
 go_loopw [18] (λi wr=>∃ (j:Nat) (F:Nat→Fp) (v:Value),j≤n∧i=.int .i64 j∧Born w wr c cap j F v) (λi _=>n - (intOf i).toNat)
 case atStart=>exact ⟨0,_,_,Nat.zero_le _,rfl,HBN.out⟩
 case round=>
  obtain ⟨j,F,v,hj,rfl,hI⟩:=hrel;obtain ⟨A,k,rfl⟩:=ql hI.row;have c0:=hI.blk.cell 0 _ rfl;have HI:=Uq hI;have HJ:=Uq hj
  have hwj:IntKind.i64.wrap ((j:Int) + 1)=(j:Int) + 1:=Qk (by omega) (by have:=H17.out.2;omega)
  clear hI hj
  by_cases hlt:j < n
  ·have hltI:(j:Int) < (n:Int):=by omega
   have HLT:=Uq hlt
   obtain ⟨xs,hxs⟩:∃ xs,((List.range j).map λi=>Value.pointer (some ⟨(F i).q,0,none⟩))=xs:=⟨_,rfl⟩
   have hrow:=HI.out.row;rw [hxs] at hrow;have HR:=Uq hrow;have HXS:=Uq hxs;have hge:=HI.out.bel.size;have HGE:=Uq hge;clear hlt hrow hxs hge;go_upto_region 6 with fail
   have hnew:=λW=>Vj cap W (by have:=HCAP.out;omega)
   unfold dptr at hnew;have HNEW:=Uq hnew;have hW:Below wr.heap.size wr wr.drew:=below_drewN (Below.refl _ wr) 1;clear hnew
   go_region_law (first | (refine qA rfl (.tmp 24) (.tmp 29) 90 rfl w.heap.size 94 i0 _ 1 8 Tryz.underlying90 hi0 hz0 hz1 hz2 rfl (by decide) (.slice A j k) j xs (by simp [Act.eval]) ?_ ⟨w1.heap.size + 1,0,none⟩ 1 1 [.pointer (some ⟨w1.heap.size,0,none⟩)] (by simp [Act.eval]) rfl ?_ (by intro u hu;simp at hu;subst hu;rfl) ?_ ?_ ?_ ?_;exact World.ownsRow.alloc (World.ownsRow.alloc (qJ HR.out hbw) _) _;(have hc9:=YN (w1.alloc (.cells #[.int .i64 0,.int .i64 0,.int .u64 0,.int .i64 0,.slice none 0 0,.int .i64 0,.int .i64 0,.int .u64 0,.int .i64 0,.bool false,.bool false,.bool false,.bool false,.bool false,.bool false,.bool false,.int .u64 0,.int .u64 0,.int .u64 0,.int .u64 0,.int .u64 0,.int .u64 0,.int .u64 0,.int .u64 0,.int .u64 0,.int .u64 0,.int .u64 0,.int .u64 0,.int .u64 0,.int .u64 0,.pointer (some ⟨p,0,none⟩),.pointer none,.bool false] 103)) [.pointer (some ⟨w1.heap.size,0,none⟩)] 94;rw [show (w1.alloc (.cells #[.int .i64 0,.int .i64 0,.int .u64 0,.int .i64 0,.slice none 0 0,.int .i64 0,.int .i64 0,.int .u64 0,.int .i64 0,.bool false,.bool false,.bool false,.bool false,.bool false,.bool false,.bool false,.int .u64 0,.int .u64 0,.int .u64 0,.int .u64 0,.int .u64 0,.int .u64 0,.int .u64 0,.int .u64 0,.int .u64 0,.int .u64 0,.int .u64 0,.int .u64 0,.int .u64 0,.int .u64 0,.pointer (some ⟨p,0,none⟩),.pointer none,.bool false] 103)).heap.size=w1.heap.size + 1 by simp] at hc9;exact hc9);(have:=H17.out.2;have:=HLT.out;unfold maxLen;omega);(have:=H17.out.2;have:=HLT.out;omega);(have:=hbw.size;have:=HGE.out;simp;omega);intro v' w3 hown' hgrow';obtain ⟨A5,c5,rfl⟩:=ql hown';have hfin:=HI.out.more hbw hp1 hbb1 hd1 HCAP.out (by rw [HXS.out];exact hown') hgrow';have c9:=hfin.1.1;have f9:=hfin.1.2;have HF:=Uq hfin.2;clear hfin hown' hgrow') | (go_simp;go_at_call 31;refine (HNEW.out _).mono ?_;rintro e w1 ⟨p,b,rfl,hp1,hbb1,hd1,hb1⟩;have hbw:=hW.trans (hb1.mono hW.size);have c01:=cell_later hbw c0;have c02:=cell_later ((Below.refl _ w1).alloc (Nat.le_refl _) (.cells #[.int .i64 0,.int .i64 0,.int .u64 0,.int .i64 0,.slice none 0 0,.int .i64 0,.int .i64 0,.int .u64 0,.int .i64 0,.bool false,.bool false,.bool false,.bool false,.bool false,.bool false,.bool false,.int .u64 0,.int .u64 0,.int .u64 0,.int .u64 0,.int .u64 0,.int .u64 0,.int .u64 0,.int .u64 0,.int .u64 0,.int .u64 0,.int .u64 0,.int .u64 0,.int .u64 0,.int .u64 0,.pointer (some ⟨p,0,none⟩),.pointer none,.bool false] 103)) c01;have c03:=cell_later ((Below.refl _ (w1.alloc (.cells #[.int .i64 0,.int .i64 0,.int .u64 0,.int .i64 0,.slice none 0 0,.int .i64 0,.int .i64 0,.int .u64 0,.int .i64 0,.bool false,.bool false,.bool false,.bool false,.bool false,.bool false,.bool false,.int .u64 0,.int .u64 0,.int .u64 0,.int .u64 0,.int .u64 0,.int .u64 0,.int .u64 0,.int .u64 0,.int .u64 0,.int .u64 0,.int .u64 0,.int .u64 0,.int .u64 0,.int .u64 0,.pointer (some ⟨p,0,none⟩),.pointer none,.bool false] 103))).alloc (Nat.le_refl _) (.cells #[.pointer (some ⟨w1.heap.size,0,none⟩)] 94)) c02))
   all_goals
    clear c0 c01 c02 c03 c9 f9 hW hbw hb1 hd1 hp1 hbb1;go_wp2_with fail;go_roundw
    case rel=>exact ⟨j + 1,_,_,HLT.out,by go_num,HF.out⟩
    case measure=>have:=HLT.out;simp [intOf];omega
  ·obtain rfl:j=n:=by have:=HJ.out;omega
   obtain ⟨R,k2,hv,hhalf⟩:=HI.out.half (B:=B) (by have:=H17.out.1;omega)
   have HH:=Uq hhalf;clear hhalf hv c0;go_upto_region 9 with fail;have HN:=H17;obtain ⟨N,hN⟩:∃ N,j=N:=⟨_,rfl⟩;have HNN:=Uq hN;rw [hN] at HH HN ⊢;clear hwj HI HJ hlt e1 e2 H17 hN
   go_loopw [35] (λi wx=>∃ (m:Nat) (F':Nat→Fp),m≤N∧i=.int .i64 m∧Half B w wx c R N k2 cap m F') (λi _=>N - (intOf i).toNat)
   case atStart=>exact ⟨0,_,Nat.zero_le _,rfl,HH.out⟩
   case round=>
    obtain ⟨m,F',hm,rfl,hI⟩:=hrel;have HI:=Uq hI;have HM:=Uq hm
    have hwm:IntKind.i64.wrap ((m:Int) + 1)=(m:Int) + 1:=Qk (by omega) (by have:=HN.out.2;omega)
    clear hI hm
    by_cases hlt:m < N
    ·have hltI:(m:Int) < (N:Int):=by omega
     have HLT:=Uq hlt;have hcall:=HI.out.next hlt HN.out.2 HCAP.out HB.out HT.out;unfold cptr at hcall;have HCALL:=Uq hcall;clear hlt hcall
     go_wp2_with (go_at_call 15;refine HCALL.out.mono ?_;rintro e w2 ⟨rfl,F2,hI2⟩;have HI2:=Uq hI2;clear hI2)
     go_roundw
     case rel=>exact ⟨m + 1,F2,HLT.out,by go_num,HI2.out⟩
     case measure=>have:=HLT.out;simp [intOf];omega
    ·obtain rfl:m=N:=by have:=HM.out;omega
     have hdone:=HI.out.done HN.out.2;have HD:=Uq hdone;clear hdone;go_wp2_with fail
     go_ret2
     rw [HNN.out];exact ⟨c,R,k2,F',rfl,HD.out.1,HD.out.2⟩
end Go.Proofs.YtppibhieabideaaGreatDoor
