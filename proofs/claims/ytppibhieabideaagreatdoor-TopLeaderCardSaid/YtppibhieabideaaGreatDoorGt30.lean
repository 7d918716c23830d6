/- A part of the walk of the program, and of its plain law. -/
import Derived.Test.YtppibhieabideaaGreatDoorGt29
import Derived.Test.YtppibhieabideaaGreatDoorGt28
import Derived.Lib.AppendStr
import Derived.Shelf.Strings.OnBuilder
namespace Go.Proofs.YtppibhieabideaaGreatDoor
set_option maxHeartbeats 4000000
open Go Go.RowKit Go.Deep
set_option maxRecDepth 100000
abbrev Tr (w:World) (r:Nat) (l:List UInt8):Prop:=Vb w r [.string (crcm.mk l),.bool false] 483
theorem xe (n:Nat) (l:List UInt8) (r:Nat) (w:World) (hr:Tr w r l) (hn:n≤l.length) (_hl:l.length≤1000000) :
  Calls Tryz.prog 420 #[.pointer (some ⟨r,0,none⟩),.int .i64 (n:Int)] w λe w'=>e=.returned (.string (crcm.mk (l.take n)))∧Tr w' r (l.drop n)∧Apart [r] w w':=by
 have c0:=hr.cell 0 _ rfl;have f0:=hr.free 0;obtain ⟨L,hL⟩:∃ L,l.length=L:=⟨_,rfl⟩
 have hsz:(crcm.mk l).size=L:=by rw [crcm.mk_size,hL]
 have h2:(n:Int)≤(L:Int):=by omega
 have e1:=xt l n
 have e2:=xu l n L (by omega)
 have HA:Hid (Tr (w.setCell ⟨r,0,none⟩ (.string (crcm.mk (l.drop n)))) r (l.drop n)∧Apart [r] w (w.setCell ⟨r,0,none⟩ (.string (crcm.mk (l.drop n))))):=Uq ⟨hr.set 0 _,Apart.setCell w r 0 _⟩;clear hr hL
 go_enter Tryz.func420,Tryz.ntmps420
 go_wp2;go_ret;exact ⟨rfl,HA.out.1,HA.out.2⟩
theorem YL (l:List UInt8) (w:World):∃ w2 k,(convert 9 23 (.string (crcm.mk l))).run Tryz.prog w=.ok (.slice (some ⟨w.heap.size,0,none⟩) l.length k) w2∧(∀ j,j < l.length→w2.cell? ⟨w.heap.size,j,none⟩=some (.int .u8 ((l.getD j 0).toNat:Int)))∧Below w.heap.size w w2:=by
 have hconv:=Lib.run_convert_string_bytes (P:=Tryz.prog) w 9 23 5 (crcm.mk l) Tryz.underlying9 Tryz.underlying23 Tryz.underlying5;rw [crcm.mk_size] at hconv
 refine ⟨_,_,hconv,λj hj=>?_,qR w 5 (crcm.mk l)⟩
 have h:=Lib.bytesWorld_cell w 5 (crcm.mk l) j (by rw [crcm.mk_size];exact hj)
 rw [crcm.mk_toList] at h;exact h
theorem Vo (b:UInt8) (l:List UInt8) (r:Nat) (w:World) (hr:Tr w r (b :: l)) (hl:l.length≤100000) :
  Calls Tryz.prog 419 #[.pointer (some ⟨r,0,none⟩),.int .i64 1] w λe w'=>e=.returned (.int .u64 (b.toNat:Int))∧Tr w' r l∧Apart [r] w w':=by
 have H1:Hid (Calls Tryz.prog 420 #[.pointer (some ⟨r,0,none⟩),.int .i64 1] w λe w'=>e=.returned (.string (crcm.mk [b]))∧Tr w' r l∧Apart [r] w w'):=Uq (xe 1 _ r w hr (by simp) (by rw [List.length_cons];omega))
 have HC:=Uq λw=>YL [b] w
 have hrl:=hr.lt;have lb:b.toNat < 256:=b.toNat_lt
 have o0:bits .or .u64 0 (b.toNat:Int)=(b.toNat:Int):=by have:=qE 0 0 b.toNat (by omega) (by omega) (by omega) (by omega);simpa using this
 clear hr hl
 go_enter Tryz.func419,Tryz.ntmps419
 go_wp2_with (go_at_call 420;refine H1.out.mono ?_;rintro e w1 ⟨rfl,hr1,ha1⟩;obtain ⟨w2,k,hconv,hc,hb2⟩:=HC.out w1;have c0:w2.cell? ⟨w1.heap.size,0,none⟩=some (.int .u8 (b.toNat:Int)):=hc 0 (by simp);have hconv:(convert 9 23 (.string (crcm.mk [b]))).run Tryz.prog w1=.ok (.slice (some ⟨w1.heap.size,0,none⟩) 1 k) w2:=hconv;have HR:Hid (Tr w2 r l):=Uq ((hb2.block _ hr1.lt).trans hr1);have HA:Hid (Apart [r] w w2):=Uq (ha1.trans (Apart.of_below hb2 [r]));clear hr1 ha1 hc hb2)
 refine wp_loop_rounds 2 ?_;rw [rounds_succ];go_wp2;rw [rounds_succ];go_wp2;go_ret;exact ⟨rfl,HR.out,HA.out⟩
theorem KR (n:Nat) (l:List UInt8) (r:Nat) (w:World) (hn:n < 18446744073709551616) (hr:Tr w r (ce.le8 n ++ l)) (hl:l.length≤100000) :
  Calls Tryz.prog 419 #[.pointer (some ⟨r,0,none⟩),.int .i64 8] w λe' w'=>e'=.returned (.int .u64 (n:Int))∧Tr w' r l∧Apart [r] w w':=by
 have hnum:rl.num (rl.le8 n)=n:=rl.num_le8 n hn;obtain ⟨a,b,c,d,e,f,g,h,hl8⟩:=rl.eight (ce.le8 n) rfl
 have hnum:rl.num [a,b,c,d,e,f,g,h]=n:=by rw [← hl8];exact hnum
 have H1:Hid (Calls Tryz.prog 420 #[.pointer (some ⟨r,0,none⟩),.int .i64 8] w λe' w'=>e'=.returned (.string (crcm.mk [a,b,c,d,e,f,g,h]))∧Tr w' r l∧Apart [r] w w'):=Uq (by
  have k:=xe 8 _ r w hr (by rw [List.length_append,ce.le8_len];omega) (by rw [List.length_append,ce.le8_len];omega)
  rw [hl8] at k
  exact k)
 have HC:=Uq λw=>YL [a,b,c,d,e,f,g,h] w
 clear hr hl hl8 hn;have la:a.toNat < 256:=a.toNat_lt;have lb:b.toNat < 256:=b.toNat_lt;have lc:c.toNat < 256:=c.toNat_lt;have ld:d.toNat < 256:=d.toNat_lt;have le:e.toNat < 256:=e.toNat_lt;have lf:f.toNat < 256:=f.toNat_lt;have lg:g.toNat < 256:=g.toNat_lt;have lh:h.toNat < 256:=h.toNat_lt;have hfin:=rl.num8 a b c d e f g h
 have o0:bits .or .u64 0 (a.toNat:Int)=(a.toNat:Int):=by have:=qE 0 0 a.toNat (by omega) (by omega) (by omega) (by omega);simpa using this
 have o1:=orn1 _ b la;obtain ⟨S1,hS1⟩:∃ S,a.toNat + 256 * b.toNat=S:=⟨_,rfl⟩;rw [hS1] at o1 hfin;obtain ⟨o1,p1⟩:=o1;clear hS1;have o2:=orn2 _ c p1;obtain ⟨S2,hS2⟩:∃ S,S1 + 65536 * c.toNat=S:=⟨_,rfl⟩;rw [hS2] at o2 hfin;obtain ⟨o2,p2⟩:=o2;clear hS2;have o3:=orn3 _ d p2;obtain ⟨S3,hS3⟩:∃ S,S2 + 16777216 * d.toNat=S:=⟨_,rfl⟩;rw [hS3] at o3 hfin;obtain ⟨o3,p3⟩:=o3;clear hS3;have o4:=orn4 _ e p3;obtain ⟨S4,hS4⟩:∃ S,S3 + 4294967296 * e.toNat=S:=⟨_,rfl⟩;rw [hS4] at o4 hfin;obtain ⟨o4,p4⟩:=o4;clear hS4;have o5:=orn5 _ f p4;obtain ⟨S5,hS5⟩:∃ S,S4 + 1099511627776 * f.toNat=S:=⟨_,rfl⟩;rw [hS5] at o5 hfin;obtain ⟨o5,p5⟩:=o5;clear hS5;have o6:=orn6 _ g p5;obtain ⟨S6,hS6⟩:∃ S,S5 + 281474976710656 * g.toNat=S:=⟨_,rfl⟩;rw [hS6] at o6 hfin;obtain ⟨o6,p6⟩:=o6;clear hS6;have o7:=orn7 _ h p6;obtain ⟨S7,hS7⟩:∃ S,S6 + 72057594037927936 * h.toNat=S:=⟨_,rfl⟩;rw [hS7] at o7 hfin;obtain ⟨o7,p7⟩:=o7;clear hS7;have HF:=Uq hfin;rw [hnum] at HF;clear hfin hnum
 go_enter Tryz.func419,Tryz.ntmps419
 go_wp2_with (go_at_call 420;refine H1.out.mono ?_;rintro e' w1 ⟨rfl,hr1,ha1⟩;obtain ⟨w2,k,hconv,hc,hb2⟩:=HC.out w1;have c0:w2.cell? ⟨w1.heap.size,0,none⟩=some (.int .u8 (a.toNat:Int)):=hc 0 (by simp);have c1:w2.cell? ⟨w1.heap.size,1,none⟩=some (.int .u8 (b.toNat:Int)):=hc 1 (by simp);have c2:w2.cell? ⟨w1.heap.size,2,none⟩=some (.int .u8 (c.toNat:Int)):=hc 2 (by simp);have c3:w2.cell? ⟨w1.heap.size,3,none⟩=some (.int .u8 (d.toNat:Int)):=hc 3 (by simp);have c4:w2.cell? ⟨w1.heap.size,4,none⟩=some (.int .u8 (e.toNat:Int)):=hc 4 (by simp);have c5:w2.cell? ⟨w1.heap.size,5,none⟩=some (.int .u8 (f.toNat:Int)):=hc 5 (by simp);have c6:w2.cell? ⟨w1.heap.size,6,none⟩=some (.int .u8 (g.toNat:Int)):=hc 6 (by simp);have c7:w2.cell? ⟨w1.heap.size,7,none⟩=some (.int .u8 (h.toNat:Int)):=hc 7 (by simp);have hconv:(convert 9 23 (.string (crcm.mk [a,b,c,d,e,f,g,h]))).run Tryz.prog w1=.ok (.slice (some ⟨w1.heap.size,0,none⟩) 8 k) w2:=hconv;have HR:Hid (Tr w2 r l):=Uq ((hb2.block _ hr1.lt).trans hr1);have HA:Hid (Apart [r] w w2):=Uq (ha1.trans (Apart.of_below hb2 [r]));clear hr1 ha1 hc hb2)
 refine wp_loop_rounds 9 ?_;rw [rounds_succ];go_wp2;rw [rounds_succ];go_wp2;rw [rounds_succ];go_wp2;rw [rounds_succ];go_wp2;rw [rounds_succ];go_wp2;rw [rounds_succ];go_wp2;rw [rounds_succ];go_wp2;rw [rounds_succ];go_wp2;rw [rounds_succ];go_wp2;go_ret
 exact ⟨Zl (zh (by rw [HF.out])),HR.out,HA.out⟩
end Go.Proofs.YtppibhieabideaaGreatDoor
namespace Go.Proofs.YtppibhieabideaaGreatDoor
set_option maxHeartbeats 4000000
open Go Go.RowKit
set_option maxRecDepth 100000
def zer (k:Nat):List Value:=List.replicate k (.int .u8 0)
theorem ki (w:World) (kl kc:IntKind) (m:Nat) (hm:m≤1000):∃ w',(Instr.makeSlice 23 (.int kl (m:Int)) (.int kc (m:Int))).run Tryz.prog w=.ok (.slice (some ⟨w.heap.size,0,none⟩) m m) w'∧w'.ownsRow w.heap.size 5 1 (.slice (some ⟨w.heap.size,0,none⟩) m m) m (zer m)∧Below w.heap.size w w':=by
 obtain ⟨i0,hi,hz0,hz1,hz2⟩:=info_parts ZO
 obtain ⟨w',h1,h2,h3⟩:=run_make_full (P:=Tryz.prog) w w.heap.size 23 5 i0 (.int .u8 0) 1 Tryz.underlying23 hi hz0 hz1 kl kc m (by rw [hz2];omega) (by unfold maxLen;omega) (Nat.le_refl _)
 refine ⟨w',h1,?_,Below.grown (Below.refl _ w) h3 (Nat.le_refl _) (λj hj=>by cases hj)⟩
 rw [show (Value.int .u8 0).cells=#[.int .u8 0] from rfl,Nat.mul_one,toList_madeCells_one] at h2
 exact h2
set_option maxHeartbeats 8000000 in
theorem XN (n:Nat) (w:World) (hn:n < 18446744073709551616) :
  Calls Tryz.prog 255 #[.int .u64 (n:Int),.int .i64 8] w λe w'=>e=.returned (.string (crcm.mk (ce.le8 n)))∧Below w.heap.size w w':=by
 obtain ⟨W,hmk,hown0,hb0⟩:=ki w .i64 .i64 8 (by omega)
 have HO0:=Uq hown0;have HB0:=Uq hb0;clear hown0 hb0;obtain ⟨g,hg⟩:∃ g,w.heap.size=g:=⟨_,rfl⟩;have HG:=Uq hg;rw [hg] at hmk HO0;have hmk:(Instr.makeSlice 23 (.int .i64 8) (.int .i64 8)).run Tryz.prog w=.ok (.slice (some ⟨g,0,none⟩) 8 8) W:=hmk;clear hg
 go_enter Tryz.func255,Tryz.ntmps255
 go_wp2
 go_loopw [11] (λi wr=>∃ k:Nat,k≤8∧i=.int .i64 k∧wr.ownsRow g 5 1 (.slice (some ⟨g,0,none⟩) 8 8) 8 (le8V n k ++ zer (8 - k))∧Below w.heap.size w wr) (λi _=>8 - (intOf i).toNat)
 case atStart=>exact ⟨0,by omega,rfl,HO0.out,HB0.out⟩
 case round=>
  obtain ⟨k,hk,rfl,hown,hb⟩:=hrel
  have hc:k=0∨k=1∨k=2∨k=3∨k=4∨k=5∨k=6∨k=7∨k=8:=by omega
  have HO:=Uq hown;have HB:=Uq hb;clear hown hb
  rcases hc with rfl | rfl | rfl | rfl | rfl | rfl | rfl | rfl | rfl
  ·have hcell:=HO.out.cellAt 0 (by decide)
   have hfz:=HO.out.frozenAt 0
   rw [show (le8V n 0 ++ zer (8 - 0))[0]?=some (.int .u8 0) from rfl] at hcell
   go_wp2;have hst:=HO.out.stored 0 (.int .u8 ((n:Int) % 256))
   have hset:(le8V n 0 ++ zer (8 - 0)).set 0 (.int .u8 ((n:Int) % 256))=le8V n 1 ++ zer (8 - 1):=by rw [← yg n];rfl
   rw [hset] at hst;go_roundw
   case rel=>exact ⟨1,by omega,rfl,hst.1,by have h:=HB.out.grown hst.2 HB.out.size (λj hj=>by cases hj;rw [HG.out];exact Nat.le_refl _);exact h⟩
   case measure=>simp [intOf]
  ·have hcell:=HO.out.cellAt 1 (by decide)
   have hfz:=HO.out.frozenAt 1
   rw [show (le8V n 1 ++ zer (8 - 1))[1]?=some (.int .u8 0) from rfl] at hcell
   go_wp2;have hst:=HO.out.stored 1 (.int .u8 ((n:Int) / 256 % 256))
   have hset:(le8V n 1 ++ zer (8 - 1)).set 1 (.int .u8 ((n:Int) / 256 % 256))=le8V n 2 ++ zer (8 - 2):=by rw [← yf n];rfl
   rw [hset] at hst;go_roundw
   case rel=>exact ⟨2,by omega,rfl,hst.1,by have h:=HB.out.grown hst.2 HB.out.size (λj hj=>by cases hj;rw [HG.out];exact Nat.le_refl _);exact h⟩
   case measure=>simp [intOf]
  ·have hcell:=HO.out.cellAt 2 (by decide)
   have hfz:=HO.out.frozenAt 2
   rw [show (le8V n 2 ++ zer (8 - 2))[2]?=some (.int .u8 0) from rfl] at hcell
   go_wp2;have hst:=HO.out.stored 2 (.int .u8 ((n:Int) / 65536 % 256))
   have hset:(le8V n 2 ++ zer (8 - 2)).set 2 (.int .u8 ((n:Int) / 65536 % 256))=le8V n 3 ++ zer (8 - 3):=by rw [← ye n];rfl
   rw [hset] at hst;go_roundw
   case rel=>exact ⟨3,by omega,rfl,hst.1,by have h:=HB.out.grown hst.2 HB.out.size (λj hj=>by cases hj;rw [HG.out];exact Nat.le_refl _);exact h⟩
   case measure=>simp [intOf]
  ·have hcell:=HO.out.cellAt 3 (by decide)
   have hfz:=HO.out.frozenAt 3
   rw [show (le8V n 3 ++ zer (8 - 3))[3]?=some (.int .u8 0) from rfl] at hcell
   go_wp2;have hst:=HO.out.stored 3 (.int .u8 ((n:Int) / 16777216 % 256))
   have hset:(le8V n 3 ++ zer (8 - 3)).set 3 (.int .u8 ((n:Int) / 16777216 % 256))=le8V n 4 ++ zer (8 - 4):=by rw [← yd n];rfl
   rw [hset] at hst;go_roundw
   case rel=>exact ⟨4,by omega,rfl,hst.1,by have h:=HB.out.grown hst.2 HB.out.size (λj hj=>by cases hj;rw [HG.out];exact Nat.le_refl _);exact h⟩
   case measure=>simp [intOf]
  ·have hcell:=HO.out.cellAt 4 (by decide)
   have hfz:=HO.out.frozenAt 4
   rw [show (le8V n 4 ++ zer (8 - 4))[4]?=some (.int .u8 0) from rfl] at hcell
   go_wp2;have hst:=HO.out.stored 4 (.int .u8 ((n:Int) / 4294967296 % 256))
   have hset:(le8V n 4 ++ zer (8 - 4)).set 4 (.int .u8 ((n:Int) / 4294967296 % 256))=le8V n 5 ++ zer (8 - 5):=by rw [← yc n];rfl
   rw [hset] at hst;go_roundw
   case rel=>exact ⟨5,by omega,rfl,hst.1,by have h:=HB.out.grown hst.2 HB.out.size (λj hj=>by cases hj;rw [HG.out];exact Nat.le_refl _);exact h⟩
   case measure=>simp [intOf]
  ·have hcell:=HO.out.cellAt 5 (by decide)
   have hfz:=HO.out.frozenAt 5
   rw [show (le8V n 5 ++ zer (8 - 5))[5]?=some (.int .u8 0) from rfl] at hcell
   go_wp2;have hst:=HO.out.stored 5 (.int .u8 ((n:Int) / 1099511627776 % 256))
   have hset:(le8V n 5 ++ zer (8 - 5)).set 5 (.int .u8 ((n:Int) / 1099511627776 % 256))=le8V n 6 ++ zer (8 - 6):=by rw [← yb n];rfl
   rw [hset] at hst;go_roundw
   case rel=>exact ⟨6,by omega,rfl,hst.1,by have h:=HB.out.grown hst.2 HB.out.size (λj hj=>by cases hj;rw [HG.out];exact Nat.le_refl _);exact h⟩
   case measure=>simp [intOf]
  ·have hcell:=HO.out.cellAt 6 (by decide)
   have hfz:=HO.out.frozenAt 6
   rw [show (le8V n 6 ++ zer (8 - 6))[6]?=some (.int .u8 0) from rfl] at hcell
   go_wp2;have hst:=HO.out.stored 6 (.int .u8 ((n:Int) / 281474976710656 % 256))
   have hset:(le8V n 6 ++ zer (8 - 6)).set 6 (.int .u8 ((n:Int) / 281474976710656 % 256))=le8V n 7 ++ zer (8 - 7):=by rw [← ya n];rfl
   rw [hset] at hst;go_roundw
   case rel=>exact ⟨7,by omega,rfl,hst.1,by have h:=HB.out.grown hst.2 HB.out.size (λj hj=>by cases hj;rw [HG.out];exact Nat.le_refl _);exact h⟩
   case measure=>simp [intOf]
  ·have hcell:=HO.out.cellAt 7 (by decide)
   have hfz:=HO.out.frozenAt 7
   rw [show (le8V n 7 ++ zer (8 - 7))[7]?=some (.int .u8 0) from rfl] at hcell
   go_wp2;have hst:=HO.out.stored 7 (.int .u8 ((n:Int) / 72057594037927936))
   have hset:(le8V n 7 ++ zer (8 - 7)).set 7 (.int .u8 ((n:Int) / 72057594037927936))=le8V n 8 ++ zer (8 - 8):=by rw [← Z9 n hn];rfl
   rw [hset] at hst;go_roundw
   case rel=>exact ⟨8,by omega,rfl,hst.1,by have h:=HB.out.grown hst.2 HB.out.size (λj hj=>by cases hj;rw [HG.out];exact Nat.le_refl _);exact h⟩
   case measure=>simp [intOf]
  ·have hcv:=run_convert_bytes_back (P:=Tryz.prog) wr 23 9 5 ⟨g,0,none⟩ 8 (ce.le8 n) Tryz.underlying23 Tryz.underlying5 Tryz.underlying9 (λj hj=>by
    rw [qn,Nat.zero_add]
    have h:=HO.out.cellAt j (by simpa [ce.le8_len] using hj)
    rw [h]
    have e:le8V n 8 ++ zer (8 - 8)=(ce.le8 n).map qu:=by unfold le8V zer;rw [List.take_of_length_le (by rw [rl.le8_len];omega)];simp [qu,jm]
    rw [e,List.getElem?_map,List.getElem?_eq_getElem hj]
    rfl)
   rw [ce.le8_len] at hcv;go_wp2;go_ret;exact ⟨rfl,HB.out⟩
set_option maxHeartbeats 8000000 in
theorem XO (n:Nat) (w:World) (hn:n < 256) :
  Calls Tryz.prog 254 #[.int .i64 (n:Int),.int .i64 1] w λe w'=>e=.returned (.string (crcm.mk [UInt8.ofNat n]))∧Below w.heap.size w w':=by
 obtain ⟨W,hmk,hown0,hb0⟩:=ki w .i64 .i64 1 (by omega)
 have HO0:=Uq hown0;have HB0:=Uq hb0;clear hown0 hb0;obtain ⟨g,hg⟩:∃ g,w.heap.size=g:=⟨_,rfl⟩;have HG:=Uq hg;rw [hg] at hmk HO0;have hmk:(Instr.makeSlice 23 (.int .i64 1) (.int .i64 1)).run Tryz.prog w=.ok (.slice (some ⟨g,0,none⟩) 1 1) W:=hmk;clear hg
 have hm:(n:Int) % 256=(n:Int):=by omega
 go_enter Tryz.func254,Tryz.ntmps254
 go_wp2
 go_loopw [11] (λi wr=>∃ k:Nat,k≤1∧i=.int .i64 k∧wr.ownsRow g 5 1 (.slice (some ⟨g,0,none⟩) 1 1) 1 (if k=0 then zer 1 else [.int .u8 (n:Int)])∧Below w.heap.size w wr) (λi _=>1 - (intOf i).toNat)
 case atStart=>exact ⟨0,by omega,rfl,HO0.out,HB0.out⟩
 case round=>
  obtain ⟨k,hk,rfl,hown,hb⟩:=hrel
  have hc:k=0∨k=1:=by omega
  have HB:=Uq hb;clear hb
  rcases hc with rfl | rfl
  ·have HO:Hid (wr.ownsRow g 5 1 (.slice (some ⟨g,0,none⟩) 1 1) 1 (zer 1)):=Uq hown;clear hown
   have hcell:=HO.out.cellAt 0 (by decide)
   have hfz:=HO.out.frozenAt 0
   rw [show (zer 1)[0]?=some (.int .u8 0) from rfl] at hcell
   go_wp2;have hst:=HO.out.stored 0 (.int .u8 (n:Int))
   rw [show (zer 1).set 0 (.int .u8 (n:Int))=[.int .u8 (n:Int)] from rfl] at hst
   go_roundw
   case rel=>exact ⟨1,by omega,rfl,hst.1,by have h:=HB.out.grown hst.2 HB.out.size (λj hj=>by cases hj;rw [HG.out];exact Nat.le_refl _);exact h⟩
   case measure=>simp [intOf]
  ·have HO:Hid (wr.ownsRow g 5 1 (.slice (some ⟨g,0,none⟩) 1 1) 1 [.int .u8 (n:Int)]):=Uq hown;clear hown
   have hcv:=run_convert_bytes_back (P:=Tryz.prog) wr 23 9 5 ⟨g,0,none⟩ 1 [UInt8.ofNat n] Tryz.underlying23 Tryz.underlying5 Tryz.underlying9 (λj hj=>by
    obtain rfl:j=0:=by simp at hj;omega
    rw [qn,Nat.zero_add]
    have h:=HO.out.cellAt 0 (by decide)
    rw [h]
    have e:((UInt8.ofNat n).toNat:Int)=(n:Int):=by rw [UInt8.toNat_ofNat'];omega
    show some (Value.int .u8 (n:Int))=some (Value.int .u8 ((UInt8.ofNat n).toNat:Int))
    rw [e])
   rw [show [UInt8.ofNat n].length=1 from rfl] at hcv
   go_wp2;go_ret;exact ⟨rfl,HB.out⟩
theorem xJ:(Tryz.prog.info? 5).map (λi=>(i.zero,i.size,i.bytes))=some (some (.int .u8 0),1,1):=by kernel_rfl
set_option maxHeartbeats 2000000 in
theorem by_grow (n:Nat) (w:World) (hn:n≤1000000) :
  Calls Tryz.prog 275 #[.slice none 0 0,.int .i64 (n:Int)] w λe w'=>∃ v,e=.returned v∧w'.ownsRow w.heap.size 5 1 v 0 []∧Below w.heap.size w w':=by
 obtain ⟨i0,hi,hz0,hz1,hz2⟩:=info_parts xJ
 by_cases h0:n=0
 ·subst h0
  go_enter Tryz.func275,Tryz.ntmps275
  go_wp2;go_ret;exact ⟨_,rfl,World.ownsRow_nil _ _ _ _,Below.refl _ _⟩
 ·have hrz:∀ ty,(Builtin.append_ #[23,3] ty #[.slice none 0 0,.int .i64 (n:Int)]).run Tryz.prog w=.ok _ _:=λty=>
   Lib.run_append_grow_zeros w 23 3 ty 5 i0 _ .i64 .i64 Tryz.underlying23 Tryz.underlying3 hi hz0 none 0 0 [] (run_firstCells_none w.drew i0.size 0 0 0) n (by omega) (by omega) (by omega) (by omega)
    (by rw [hz2];omega) (growslice_fits (by omega) (by rw [hz2];omega))
  have hge:=grownCap_ge w (0 + n) 0 5
  have hle:=grownCap_le_maxLen w (0 + n) 0 5 (by unfold maxLen;omega)
  obtain ⟨G,hG⟩:∃ G,grownCap w (0 + n) 0 5=G:=⟨_,rfl⟩;rw [hG,Nat.zero_add] at hrz hge;rw [hG] at hle;obtain ⟨Z,hZ⟩:∃ Z:Array Value,(#[] ++ Builtin.zeroCells (Value.int .u8 0).cells n ++ Builtin.zeroCells (Value.int .u8 0).cells (G - n))=Z:=⟨_,rfl⟩;have hw2:Below w.heap.size w (w.drew.alloc (.cells Z 5)):=(below_drewN (Below.refl _ w) 1).alloc (Nat.le_refl _) _;have hb2:=heap_alloc_new w.drew (.cells Z 5)
  have hsz:Z.size=G * 1:=by
   rw [← hZ,Array.size_append,Array.size_append,size_zeroCells,size_zeroCells]
   simp [Value.cells]
   omega
  obtain ⟨W,hW⟩:∃ W,w.drew.alloc (.cells Z 5)=W:=⟨_,rfl⟩;rw [hW] at hw2 hb2
  have hrz2:∀ ty,(Builtin.append_ #[23,3] ty #[.slice none 0 0,.int .i64 (n:Int)]).run Tryz.prog w=.ok (.slice (some ⟨w.heap.size,0,none⟩) n G) W:=λty=>by rw [hrz ty,hZ,hW]
  have Hw2:=Uq hw2;have Hb2:=Uq hb2;have Hsz:=Uq hsz;unfold maxLen at hle;clear hrz hW hw2 hb2 hsz hG hZ
  go_enter Tryz.func275,Tryz.ntmps275
  go_wp2_with (at_builtin;refine Lib.wpList_append_run _ rfl _ _ _ _ rfl _ _ rfl rfl _ _ (hrz2 _) ?_)
  go_ret
  refine ⟨_,rfl,⟨rfl,.inr ⟨w.heap.size,G,_,rfl,Nat.le_refl _,Hb2.out,Nat.zero_le _,hle,Hsz.out,by simp⟩⟩,Hw2.out⟩
theorem vJ (g k:Nat) (vs:List Value) (ns:List Nat) (xss:List (List Value)) (w:World) (h1:vs.length=ns.length) (h2:xss.length=ns.length) (hg:∀ j u,vs[j]?=some u→w.cell? ⟨g,j,none⟩=some u)
  (hc:∀ (j:Nat) (v:Value) (n:Nat) (xs:List Value),vs[j]?=some v→ns[j]?=some n→xss[j]?=some xs→Cut w 1 v n xs) (hs:ns.sum≤100000) (hl:ns.length≤100000) :
  Calls Tryz.prog 161 #[.slice (some ⟨g,0,none⟩) ns.length k] w λe w'=>∃ v,e=.returned v∧w'.ownsRow w.heap.size 5 1 v ns.sum xss.flatten∧Below w.heap.size w w':=by
 obtain ⟨i0,hi,hz0,hz1,hz2⟩:=info_parts xJ;obtain ⟨N,hN⟩:∃ N,ns.length=N:=⟨_,rfl⟩;obtain ⟨T,hT⟩:∃ T,ns.sum=T:=⟨_,rfl⟩
 have hstep:∀ j,j < N→∃ (A:Option Addr) (n c:Nat) (xs:List Value),w.cell? ⟨g,j,none⟩=some (.slice A n c)∧Cut w 1 (.slice A n c) n xs∧(ns.take (j + 1)).sum=(ns.take j).sum + n∧(ns.take j).sum + n≤T∧(xss.take (j + 1)).flatten=(xss.take j).flatten ++ xs:=λj hj=>by
  have e1:vs[j]?=some (vs[j]'(by omega)):=List.getElem?_eq_getElem (by omega)
  have e2:ns[j]?=some (ns[j]'(by omega)):=List.getElem?_eq_getElem (by omega)
  have e3:xss[j]?=some (xss[j]'(by omega)):=List.getElem?_eq_getElem (by omega)
  have hcut:=hc j _ _ _ e1 e2 e3;obtain ⟨⟨A,c,hv,_⟩,_,_⟩:=id hcut
  refine ⟨A,_,c,_,by rw [← hv];exact hg j _ e1,by rw [← hv];exact hcut,?_,?_,?_⟩
  ·exact QD e2
  ·rw [← hT,← QD e2];exact zy ns (j + 1)
  ·exact zz e3
 have hfull:(ns.take N).sum=T∧(xss.take N).flatten=xss.flatten:=⟨by rw [← hT,← hN,List.take_length],by rw [← hN,← h2,List.take_length]⟩
 rw [hT] at hs ⊢;rw [hN] at hl ⊢;have HS:=Uq hstep;have HF:=Uq hfull
 have HG:=Uq (by_grow T w (by omega))
 clear hstep hfull hc hg h1 h2 hN hT
 go_enter Tryz.func161,Tryz.ntmps161
 go_wp2_with fail
 go_loop [3,11] (λs i=>∃ j:Nat,j≤N∧i=.int .i64 j∧s=.int .i64 ((ns.take j).sum:Nat)) (λ_ i=>N - (intOf i).toNat)
 case atStart=>exact ⟨0,Nat.zero_le _,rfl,rfl⟩
 case round=>
  obtain ⟨j,hj,rfl,rfl⟩:=hrel
  by_cases hlt:j < N
  ·obtain ⟨A,n,c,xs,c0,-,e1,e2,-⟩:=HS.out j hlt;obtain ⟨S0,hS0⟩:∃ S0,(ns.take j).sum=S0:=⟨_,rfl⟩;rw [hS0] at e1 e2 ⊢;have HE:=Uq e1;clear e1 hS0
   have q1:¬ (S0:Int) + (n:Int) < 0:=by omega
   have q2:(S0:Int) + (n:Int)≤100000:=by omega
   go_wp2_with fail
   go_round
   ·exact ⟨j + 1,by omega,by go_num,by rw [HE.out];go_num⟩
   ·simp [intOf];omega
  ·obtain rfl:j=N:=by omega
   rw [HF.out.1]
   go_upto_region 11 with (go_at_call 275;refine HG.out.mono ?_;rintro e w1 ⟨v1,rfl,ho,hb⟩;have HO:=Uq ho;have HB:=Uq hb;clear ho hb)
   go_loopw [6,27] (λs i wr=>∃ j':Nat,j'≤j∧i=.int .i64 j'∧wr.ownsRow w.heap.size 5 1 s (ns.take j').sum (xss.take j').flatten∧Below w.heap.size w wr) (λ_ i _=>j - (intOf i).toNat)
   case atStart=>exact ⟨0,Nat.zero_le _,rfl,HO.out,HB.out⟩
   case round=>
    obtain ⟨j',hj',rfl,ho,hb⟩:=hrel;have HO2:=Uq ho;have HB2:=Uq hb;clear ho hb
    by_cases hlt2:j' < j
    ·obtain ⟨A,n,c,xs,c0,hcut,e1,e2,e3⟩:=HS.out j' hlt2;have c1:=cell_later HB2.out c0;have HC:=Uq (hcut.later HB2.out);have HE1:=Uq e1;have HE3:=Uq e3;have HE2:=Uq e2;clear hcut e1 e2 e3 c0
     go_wp2_with (at_builtin;refine qo _ rfl _ _ 23 rfl w.heap.size 5 i0 _ 1 1 Tryz.underlying23 hi hz0 hz1 hz2 rfl (by decide) _ _ _ rfl HO2.out A n c xs rfl ?c1 ?c2 ?c3 ?c4 ?c5 ?c6 ?_)
     case c1=>exact HC.out.len
     case c2=>exact HC.out.at_
     case c3=>exact HC.out.one
     case c4=>have:=HE2.out;unfold maxLen;omega
     case c5=>have:=HE2.out;omega
     case c6=>exact HB2.out.size
     intro v2 w2 hown2 hgrow2
     have hb2:Below w.heap.size w w2:=HB2.out.grown hgrow2 HB2.out.size (λi hi=>(HO2.out.lt i hi).1)
     rw [← HE1.out,← HE3.out] at hown2;have HO3:=Uq hown2;have HB3:=Uq hb2;clear hown2 hb2 hgrow2;go_wp2_with fail;go_roundw
     case rel=>exact ⟨j' + 1,by omega,by go_num,HO3.out,HB3.out⟩
     case measure=>simp [intOf];omega
    ·obtain rfl:j'=j:=by omega
     have ho:=HO2.out;rw [HF.out.1,HF.out.2] at ho;have HO3:=Uq ho;clear ho;go_wp2_with fail;go_ret;exact ⟨_,rfl,HO3.out,HB2.out⟩
theorem yK {P:Program} {ops:Array Oper} {o:Oper} {a:Act} {w:World} {K:Act→World→Prop} {Q:Exit→Act→World→Prop} {E:Prop}
  (hg:o.guard=none) (s x:Operand) (t u:TypeId) (hop:o.op=Op.call { callee:=Callee.builtin Builtin.append,args:=#[s,x],argTypes:=#[t,u] })
  (base:Nat) (e:TypeId) (i:TypeInfo) (ht:P.underlying t=some (.slice e)) (hu:P.underlying u=some .string) (hi:P.info? e=some i) (hz:i.zero=some (.int .u8 0)) (hsize:i.size=1) (hby:i.bytes=1)
  (v:Value) (n:Nat) (xs:List Value) (hs:a.eval s=v) (hown:w.ownsRow base e 1 v n xs) (z:ByteArray) (hx:a.eval x=.string z)
  (h63:n + z.size≤maxLen) (hbytes:n + z.size≤140737488355328) (hbase:base≤w.heap.size)
  (hK:∀ v' w',w'.ownsRow base e 1 v' (n + z.size) (xs ++ Lib.strCells z)→w.grownBy w' v.ownBlock→K (a.put o.dst v') w') :
  if Region.wanted o (yielded ops a.tmps)=true then Oper.wp P o a w K Q else E:=by
 have hw:Region.wanted o (yielded ops a.tmps)=true:=by simp [Region.wanted,hg]
 rw [if_pos hw];obtain ⟨v',w',hrun,r1,r2,_⟩:=Lib.run_append_own_string (P:=P) w base t u o.type e i ht hu hi hz hsize hby v n xs hown z h63 hbytes hbase;unfold Oper.wp execOp;simp only [hop,resolve,invoke,builtin,Sem.run_bind,Sem.run_pure,Result.andThen_ok,List.map_toArray,List.map_cons,List.map_nil,hs,hx,hrun];exact hK v' w' r1 r2
theorem KF (w:World) (vs:List Value) (t:TypeId):∃ X b,w.alloc (.cells vs.toArray t)=X∧w.heap.size=b∧Below w.heap.size w X∧Vb X b vs t:=⟨_,_,rfl,rfl,(Below.refl _ w).alloc (Nat.le_refl _) _,Vb.new w vs t⟩
theorem KW (l:List UInt8):Lib.strCells (crcm.mk l)=l.map qu:=rfl
theorem xD (w6:World) (A6:Option Addr) (c6:Nat) (l6 val:List UInt8) (x y:UInt8) (hc:Cut w6 1 (.slice A6 l6.length c6) l6.length (l6.map qu)) (hl:l6.length≤1000) (hv:val.length≤1000) :
  ∃ W8 k,(convert 9 23 (.string (crcm.mk val))).run Tryz.prog (w6.alloc (.cells #[qu x,qu y] 5))=.ok (.slice (some ⟨w6.heap.size + 1,0,none⟩) (crcm.mk val).size k) W8∧W8.heap.size=w6.heap.size + 1 + 1 ∧
   Calls Tryz.prog 161 #[.slice (some ⟨w6.heap.size + 1 + 1,0,none⟩) 3 3] (W8.alloc (.cells #[.slice A6 l6.length c6,.slice (some ⟨w6.heap.size,0,none⟩) 2 2,.slice (some ⟨w6.heap.size + 1,0,none⟩) (crcm.mk val).size k] 23)) λe w'=>∃ g k' n,e=.returned (.slice (some ⟨g,0,none⟩) n k')∧(convert 23 9 (.slice (some ⟨g,0,none⟩) n k')).run Tryz.prog w'=.ok (.string (crcm.mk (l6 ++ x :: y :: val))) w'∧Below w6.heap.size w6 w':=by
 obtain ⟨W7,hW7⟩:∃ W7,w6.alloc (.cells #[qu x,qu y] 5)=W7:=⟨_,rfl⟩
 have hs7:W7.heap.size=w6.heap.size + 1:=by rw [← hW7,World.size_alloc]
 have hb7:Below w6.heap.size w6 W7:=by rw [← hW7];exact qd (Below.refl _ _) _
 have v7:Vb W7 w6.heap.size [qu x,qu y] 5:=by rw [← hW7];exact Vb.new _ _ _
 have hconv:=Lib.run_convert_string_bytes (P:=Tryz.prog) W7 9 23 5 (crcm.mk val) Tryz.underlying9 Tryz.underlying23 Tryz.underlying5;have hb8:=qR W7 5 (crcm.mk val);have hs8:=Lib.bytesWorld_size W7 5 (crcm.mk val)
 have hcell:=λk hk=>Lib.bytesWorld_cell W7 5 (crcm.mk val) k hk
 obtain ⟨W8,hW8⟩:∃ W8,Lib.bytesWorld W7 5 (crcm.mk val)=W8:=⟨_,rfl⟩;obtain ⟨k,hk⟩:∃ k,grownCap W7 (crcm.mk val).size 0 5=k:=⟨_,rfl⟩;have hge:=grownCap_ge W7 (crcm.mk val).size 0 5;rw [hW8] at hconv hb8 hs8 hcell;rw [hk] at hconv hge;rw [hs7] at hconv hs8 hcell;rw [hW7];refine ⟨W8,k,hconv,hs8,?_⟩;obtain ⟨W9,hW9⟩:∃ W9,W8.alloc (.cells #[.slice A6 l6.length c6,.slice (some ⟨w6.heap.size,0,none⟩) 2 2,.slice (some ⟨w6.heap.size + 1,0,none⟩) (crcm.mk val).size k] 23)=W9:=⟨_,rfl⟩
 have hb9:Below W8.heap.size W8 W9:=by rw [← hW9];exact qd (Below.refl _ _) _
 have v9:Vb W9 (w6.heap.size + 1 + 1) [.slice A6 l6.length c6,.slice (some ⟨w6.heap.size,0,none⟩) 2 2,.slice (some ⟨w6.heap.size + 1,0,none⟩) (crcm.mk val).size k] 23:=by rw [← hW9,← hs8];exact Vb.new _ _ _
 rw [hW9]
 have hb79:Below W7.heap.size W7 W9:=hb8.trans (hb9.mono (by omega))
 have hb69:Below w6.heap.size w6 W9:=hb7.trans (hb79.mono (by omega))
 have hsz:(crcm.mk val).size=val.length:=crcm.mk_size val;rw [hsz] at *
 have c1:Cut W9 1 (.slice (some ⟨w6.heap.size,0,none⟩) 2 2) 2 [qu x,qu y]:=⟨⟨_,2,rfl,λh=>(by cases h),Nat.le_refl _,λ_=>⟨_,0,rfl,λj u hj=>by
  rw [Nat.zero_add]
  exact cell_later hb79 (v7.cell j u hj)⟩⟩,rfl,λu hu=>by
   rcases List.mem_cons.1 hu with rfl | hu
   ·rfl
   ·rw [List.mem_singleton.1 hu];rfl⟩
 have c2:Cut W9 1 (.slice (some ⟨w6.heap.size + 1,0,none⟩) val.length k) val.length (val.map qu):=⟨⟨_,k,rfl,λh=>(by cases h),hge,λ_=>⟨_,0,rfl,λj u hj=>by
  rw [Nat.zero_add]
  have hjl:j < val.length:=by have:=(List.getElem?_eq_some_iff.1 hj).1;simpa using this
  refine cell_later hb9 ?_;rw [hcell j hjl];rw [List.getElem?_map,List.getElem?_eq_getElem hjl] at hj
  injection hj with hj
  rw [← hj]
  show some (Value.int .u8 ((val.getD j 0).toNat:Int))=_
  rw [List.getD_eq_getElem?_getD,List.getElem?_eq_getElem hjl]
  rfl⟩⟩,by rw [List.length_map,Nat.mul_one],kO _⟩
 have hcat:=vJ (w6.heap.size + 1 + 1) 3 [.slice A6 l6.length c6,.slice (some ⟨w6.heap.size,0,none⟩) 2 2,.slice (some ⟨w6.heap.size + 1,0,none⟩) val.length k] [l6.length,2,val.length] [l6.map qu,[qu x,qu y],val.map qu] W9 rfl rfl (λj u hj=>v9.cell j u hj) (λj v n xs h1 h2 h3=>by
  match j,h1,h2,h3 with
  | 0,h1,h2,h3=>injection h1 with h1;injection h2 with h2;injection h3 with h3;subst h1;subst h2;subst h3;exact hc.later hb69
  | 1,h1,h2,h3=>injection h1 with h1;injection h2 with h2;injection h3 with h3;subst h1;subst h2;subst h3;exact c1
  | 2,h1,h2,h3=>injection h1 with h1;injection h2 with h2;injection h3 with h3;subst h1;subst h2;subst h3;exact c2
  | j + 3,h1,_,_=>cases h1) (by simp only [List.sum_cons,List.sum_nil];omega) (by simp)
 refine hcat.mono ?_;rintro e w' ⟨v,rfl,hown,hb⟩
 have hsum:[l6.length,2,val.length].sum=(l6 ++ x :: y :: val).length:=by simp only [List.sum_cons,List.sum_nil,List.length_append,List.length_cons];omega
 have hfl:[l6.map qu,[qu x,qu y],val.map qu].flatten=(l6 ++ x :: y :: val).map qu:=by simp
 rw [hsum,hfl] at hown
 rcases hown.2 with ⟨_,h0⟩ | ⟨g,cap,cur,rfl,_⟩
 ·rw [List.length_append,List.length_cons] at h0;omega
 ·refine ⟨g,cap,_,rfl,run_convert_bytes_back (P:=Tryz.prog) w' 23 9 5 ⟨g,0,none⟩ cap _ Tryz.underlying23 Tryz.underlying5 Tryz.underlying9 (λj hj=>?_),hb69.trans (hb.mono hb69.size)⟩
  exact hown.cells (g:=g) rfl j _ (by rw [List.getElem?_map,List.getElem?_eq_getElem hj];rfl)
set_option maxHeartbeats 8000000 in
theorem Zq (c:ce.Cell) (hm:ce.may c=true) (h1:c.ts < 18446744073709551616) (h2:c.seq < 18446744073709551616) (w:World) :
  Calls Tryz.prog 56 #[qO c] w λe w'=>e=.returned (.tuple #[.string (crcm.mk (ce.enc c)),.int .i64 0])∧Below w.heap.size w w':=by
 obtain ⟨l1,l2,l3,n1,n2,n3⟩:=ce.may_len hm
 have HM:=Uq λw=>Ks c ⟨by omega,by omega,by omega⟩ w
 rw [hm] at HM;obtain ⟨i0,hi,hz0,hz1,hz2⟩:=info_parts ZO;obtain ⟨row,col,ts,seq,del,val⟩:=c;dsimp only at l1 l2 l3 h1 h2;obtain ⟨R,hR⟩:∃ R,row.length=R:=⟨_,rfl⟩;obtain ⟨C,hC⟩:∃ C,col.length=C:=⟨_,rfl⟩;obtain ⟨V,hV⟩:∃ V,val.length=V:=⟨_,rfl⟩
 have sR:(crcm.mk row).size=R:=by rw [crcm.mk_size,hR]
 have sC:(crcm.mk col).size=C:=by rw [crcm.mk_size,hC]
 have sV:(crcm.mk val).size=V:=by rw [crcm.mk_size,hV]
 rw [hR] at l1;rw [hC] at l2;rw [hV] at l3;unfold qO at HM ⊢;dsimp only at HM ⊢;obtain ⟨X,N,hX,hN,hb,vX⟩:=KF w [.string (crcm.mk row),.string (crcm.mk col),.int .u64 (ts:Int),.int .u64 (seq:Int),.bool del,.string (crcm.mk val)] 46
 have MK:Hid (∀ w',Below X.heap.size X w'→w'.cell? ⟨N,0,none⟩=some (.string (crcm.mk row))∧w'.cell? ⟨N,1,none⟩=some (.string (crcm.mk col))∧w'.cell? ⟨N,2,none⟩=some (.int .u64 (ts:Int))∧w'.cell? ⟨N,3,none⟩=some (.int .u64 (seq:Int))∧w'.cell? ⟨N,4,none⟩=some (.bool del)∧w'.cell? ⟨N,5,none⟩=some (.string (crcm.mk val))):=Uq λw' hb=>
  ⟨cell_later hb (vX.cell 0 _ rfl),cell_later hb (vX.cell 1 _ rfl),cell_later hb (vX.cell 2 _ rfl),cell_later hb (vX.cell 3 _ rfl),cell_later hb (vX.cell 4 _ rfl),cell_later hb (vX.cell 5 _ rfl)⟩
 have HB:=Uq hb;have HX:=Uq hX;have HN:=Uq hN;obtain ⟨k0,k1,k2,k3,k4,k5⟩:=MK.out X (Below.refl _ _)
 have r0:(0:Int)≤(R:Int):=by omega
 have r1:(R:Int)≤40:=by omega
 have q0:(0:Int)≤(C:Int):=by omega
 have q1:(C:Int)≤40:=by omega
 have wC:IntKind.u8.wrap (C:Int)=(C:Int):=by rw [IntKind.wrap_u8'];omega
 have wV:IntKind.u8.wrap (V:Int)=(V:Int):=by rw [IntKind.wrap_u8'];omega
 clear n1 n2 n3 hm hb vX hX hN
 go_enter Tryz.func56,Tryz.ntmps56
 go_upto_region 1 with fail;rw [HX.out,HN.out]
 go_upto_region 3 with (go_at_call 59;refine (HM.out _).mono ?_;rintro e w1 ⟨rfl,hb1⟩)
 obtain ⟨k0,k1,k2,k3,k4,k5⟩:=MK.out _ hb1;have hW1:=Uq hb1;clear hb1
 have hrow:=World.ownsRow_lit (e:=5) (size:=1) (base:=X.heap.size) w1 #[.int .u8 (R:Int)] 1 hW1.out.size (by unfold maxLen;omega) rfl
 have a0:=(MK.out _ (qd hW1.out (.cells #[.int .u8 (R:Int)] 5))).1;have hb1s:=hW1.out.size
 go_wp2_with (at_builtin;refine Lib.wpList_append_own_string _ rfl _ _ 23 9 rfl X.heap.size 5 i0 Tryz.underlying23 Tryz.underlying9 hi hz0 hz1 hz2 _ _ _ rfl hrow (crcm.mk row) rfl ?c3 ?c4 ?c5 ?_)
 case c3=>unfold maxLen;omega
 case c4=>omega
 case c5=>omega
 intro v2 w2 hown2 hgrow2 _
 have hW2:Below X.heap.size X w2:=(qd hW1.out (.cells #[.int .u8 (R:Int)] 5)).grown hgrow2 (by simp;omega) (λj hj=>(hrow.lt j hj).1)
 have hl2:(UInt8.ofNat R :: row).length=1 + R:=by rw [List.length_cons,hR];omega
 have hO2:w2.ownsRow X.heap.size 5 1 v2 (1 + R) ((UInt8.ofNat R :: row).map qu):=by
  rw [List.map_cons,qQ R R rfl,Int.emod_eq_of_lt (by omega) (by omega)]
  exact hown2
 obtain ⟨A2,c2,rfl⟩:=ql hO2;have HO2:=Uq hO2;have HW2:=Uq hW2;have HL2:=Uq hl2;clear hO2 hW2 hown2 hgrow2 hrow hl2 k0 k1 k2 k3 k4 k5 a0;go_upto_region 4 with fail;have hs2:=HW2.out.size;have hW:Below X.heap.size X w2.drew:=HW2.out.drew;have hO:w2.drew.ownsRow X.heap.size 5 1 (.slice A2 (1 + R) c2) (1 + R) ((UInt8.ofNat R :: row).map qu):=HO2.out
 go_region_held3 (λw'=>w'.cell? ⟨N,1,none⟩=some (.string (crcm.mk col))) (with_reducible exact (MK.out _ (by repeat (first | with_reducible exact hW | with_reducible exact HW2.out | with_reducible exact Below.refl _ _ | with_reducible apply Below.drew | with_reducible apply qd))).2.1)
  (first
  | (refine qA rfl (.tmp 17) (.tmp 22) 23 rfl X.heap.size 5 i0 _ 1 1 Tryz.underlying23 hi hz0 hz1 hz2 rfl (by decide) (.slice A2 (1 + R) c2) (1 + R) ((UInt8.ofNat R :: row).map qu) (by rfl) (hO.alloc (.cells #[.int .u8 (C:Int)] 5)) ⟨w2.heap.size,0,none⟩ 1 1 [.int .u8 (C:Int)] (by rfl) rfl (λj u hj=>qw w2 (.int .u8 (C:Int)) 5 j u hj) (qB _ _) (by unfold maxLen;omega) (by omega) (by simp;omega) ?_;intro v3 w3 hown3 hgrow3;have hW3:=(qd hW (.cells #[.int .u8 (C:Int)] 5)).grown hgrow3 (by simp;omega) (λj hj=>(hO.lt j hj).1);have hW:=hW3)
  | (refine yK rfl (.tmp 23) (.tmp 25) 23 9 rfl X.heap.size 5 i0 Tryz.underlying23 Tryz.underlying9 hi hz0 hz1 hz2 v3 (1 + R + 1) ((UInt8.ofNat R :: row).map qu ++ [.int .u8 (C:Int)]) (by rfl) hown3 (crcm.mk col) (by rfl) (by unfold maxLen;rw [sC];omega) (by rw [sC];omega) hW.size ?_;intro v4 w4 hown4 hgrow4;have hW4:=hW.grown hgrow4 hW.size (λj hj=>(hown3.lt j hj).1);have hW:=hW4))
 obtain ⟨l4,hl4⟩:∃ l4,(UInt8.ofNat R :: row) ++ (UInt8.ofNat C :: col)=l4:=⟨_,rfl⟩
 have hn4:l4.length=1 + R + 1 + C:=by rw [← hl4,List.length_append,HL2.out,List.length_cons,hC];omega
 have hO4:Byt w4 X.heap.size v4 l4:=by
  show World.ownsRow _ _ _ _ _ l4.length _
  rw [hn4,← hl4,List.map_append,List.map_cons (f:=qu) (a:=UInt8.ofNat C),qQ C C rfl,Int.emod_eq_of_lt q0 (by omega)]
  rw [KW,sC,List.append_assoc] at hown4;exact hown4
 have HO4:=Uq hO4;have HW4:=Uq hW4;have HL4:=Uq hl4
 have hn4':l4.length≤1000:=by omega
 have HN4:=Uq hn4;clear hl4 hn4 hO4 hown4 hgrow4 hW4 hW3 hown3 hgrow3 hO;obtain ⟨A4,c4,hv4⟩:=ql HO4.out;subst hv4;go_wp2_with fail;go_upto_region 5 with fail;have hW:Below X.heap.size X w4.drew:=HW4.out.drew;have hO:Byt w4.drew X.heap.size (.slice A4 l4.length c4) l4:=HO4.out;have hsz4:=HW4.out.size
 go_region_held3 (λw'=>w'.cell? ⟨N,2,none⟩=some (.int .u64 (ts:Int))∧w'.cell? ⟨N,3,none⟩=some (.int .u64 (seq:Int))) (with_reducible exact (λh=>⟨h.2.2.1,h.2.2.2.1⟩) (MK.out _ (by repeat (first | with_reducible exact hW | with_reducible exact HW4.out | with_reducible exact Below.refl _ _ | with_reducible apply Below.drew | with_reducible apply qd))))
  ((go_at_call 160;first
  | (with_reducible refine (yC _ (l4 ++ ce.le8 ts) seq X.heap.size _ hO5 hn5 h2 hW.size).mono ?_;rintro e w6 ⟨v6,rfl,hO6,hb6⟩;have hW:=hW.trans hb6)
  | (with_reducible refine (yC _ l4 ts X.heap.size _ hO (Nat.le_trans hn4' (by decide)) h1 hW.size).mono ?_;rintro e w5 ⟨v5,rfl,hO5,hb5⟩;have hW:=hW.trans hb5;have hn5:(l4 ++ ce.le8 ts).length≤1000000:=by rw [List.length_append,ce.le8_len];omega)))
 obtain ⟨l6,hl6⟩:∃ l6,l4 ++ ce.le8 ts ++ ce.le8 seq=l6:=⟨_,rfl⟩;rw [hl6] at hO6;obtain ⟨A6,c6,hv6⟩:=ql hO6;subst hv6;have CUT:=Uq (jG hO6 (kO _));have HW6:=Uq hW
 have HL6:Hid (l6.length≤1000):=Uq (by rw [← hl6,List.length_append,List.length_append,ce.le8_len,ce.le8_len,HN4.out];omega)
 have HL6e:=Uq hl6
 have hV0:(0:Int)≤(V:Int):=by omega
 have hV1:(V:Int)≤100:=by omega
 obtain ⟨m0,m1,m2,m3,m4,m5⟩:=MK.out _ HW6.out;clear hl6 hO6 hO hO5 hb5 hb6 hW hn5 k0 k1 k2 k3 k4 k5
 cases del with
 | false=>
  have hcat:=xD w6 A6 c6 l6 val 0 (UInt8.ofNat V) CUT.out HL6.out (by rw [hV];omega)
  obtain ⟨W8,k8,hconv,hs8,hcat⟩:=hcat;have e5:=(MK.out _ (qd HW6.out (.cells #[.int .u8 0,.int .u8 (V:Int)] 5))).2.2.2.2.2
  have ev:qu (UInt8.ofNat V)=.int .u8 (V:Int):=by rw [qQ V V rfl,Int.emod_eq_of_lt (by omega) (by omega)]
  have ez:qu 0=.int .u8 0:=rfl;rw [ev,ez] at hconv;rw [sV] at hconv hcat;have HC:=Uq hcat
  have henc:l6 ++ 0 :: UInt8.ofNat V :: val=ce.enc ⟨row,col,ts,seq,false,val⟩:=by rw [← HL6e.out,← HL4.out];unfold ce.enc;rw [hR,hC,hV];simp [ce.one]
  have HE:=Uq henc;have hb0:Below w.heap.size w X:=HB.out;clear hcat ev ez henc
  go_wp2_with (go_at_call 161;refine HC.out.mono ?_;rintro e w' ⟨g,k',n',rfl,hcv,hb⟩;have HBB:=Uq hb;clear hb)
  go_ret2
  rw [← HE.out];exact ⟨rfl,hb0.trans ((HW6.out.trans (HBB.out.mono HW6.out.size)).mono hb0.size)⟩
 | true=>
  have hcat:=xD w6 A6 c6 l6 val 1 (UInt8.ofNat V) CUT.out HL6.out (by rw [hV];omega)
  obtain ⟨W8,k8,hconv,hs8,hcat⟩:=hcat;have e5:=(MK.out _ (qd HW6.out (.cells #[.int .u8 1,.int .u8 (V:Int)] 5))).2.2.2.2.2
  have ev:qu (UInt8.ofNat V)=.int .u8 (V:Int):=by rw [qQ V V rfl,Int.emod_eq_of_lt (by omega) (by omega)]
  have ez:qu 1=.int .u8 1:=rfl;rw [ev,ez] at hconv;rw [sV] at hconv hcat;have HC:=Uq hcat
  have henc:l6 ++ 1 :: UInt8.ofNat V :: val=ce.enc ⟨row,col,ts,seq,true,val⟩:=by rw [← HL6e.out,← HL4.out];unfold ce.enc;rw [hR,hC,hV];simp [ce.one]
  have HE:=Uq henc;have hb0:Below w.heap.size w X:=HB.out;clear hcat ev ez henc
  go_wp2_with (go_at_call 161;refine HC.out.mono ?_;rintro e w' ⟨g,k',n',rfl,hcv,hb⟩;have HBB:=Uq hb;clear hb)
  go_ret2
  rw [← HE.out];exact ⟨rfl,hb0.trans ((HW6.out.trans (HBB.out.mono HW6.out.size)).mono hb0.size)⟩
end Go.Proofs.YtppibhieabideaaGreatDoor
namespace Go.Proofs.YtppibhieabideaaGreatDoor
set_option maxHeartbeats 4000000
open Go Go.RowKit Go.Lib Go.Shelf
set_option maxRecDepth 100000
def kC:Go.Shelf.Ren:=⟨fun | 156=>257 | 165=>281 | 166=>65 | 169=>71 | 240=>175 | 241=>382 | 276=>285 | 277=>436 | n=>n,fun | 31=>22 | 9=>9 | 3=>3 | 4=>4 | 0=>0 | 20=>20 | 72=>130 | 76=>135 | 70=>128 | 37=>23 | 75=>134 | 127=>265 | 164=>367 | 5=>5 | 80=>142 | n=>n,fun | n=>n⟩
theorem joinL:Go.Proofs.Lays.n156 Tryz.prog kC:={
 mixed:=by kernel_rfl
 f156:=Tryz.func257.trans (congrArg some (by kernel_rfl))
 f165:=Tryz.func281.trans (congrArg some (by kernel_rfl))
 f166:=Tryz.func65.trans (congrArg some (by kernel_rfl))
 f169:=Tryz.func71.trans (congrArg some (by kernel_rfl))
 f240:=Tryz.func175.trans (congrArg some (by kernel_rfl))
 f241:=Tryz.func382.trans (congrArg some (by kernel_rfl))
 f276:=Tryz.func285.trans (congrArg some (by kernel_rfl))
 f277:=Tryz.func436.trans (congrArg some (by kernel_rfl))
 t0:=Tryz.underlying0
 a0:=Tryz.isAgg0
 z0:=Tryz.sizeOf0
 v0:=Tryz.zeroValue0
 t3:=Tryz.underlying3
 a3:=Tryz.isAgg3
 z3:=Tryz.sizeOf3
 v3:=Tryz.zeroValue3
 t4:=Tryz.underlying4
 a4:=Tryz.isAgg4
 z4:=Tryz.sizeOf4
 v4:=Tryz.zeroValue4
 t9:=Tryz.underlying9
 a9:=Tryz.isAgg9
 z9:=Tryz.sizeOf9
 v9:=Tryz.zeroValue9
 t20:=Tryz.underlying20
 a20:=Tryz.isAgg20
 z20:=Tryz.sizeOf20
 v20:=Tryz.zeroValue20
 t31:=Tryz.underlying22
 a31:=Tryz.isAgg22
 z31:=Tryz.sizeOf22
 v31:=Tryz.zeroValue22
 t37:=Tryz.underlying23
 a37:=Tryz.isAgg23
 z37:=Tryz.sizeOf23
 v37:=Tryz.zeroValue23
 t70:=Tryz.underlying128
 a70:=Tryz.isAgg128
 z70:=Tryz.sizeOf128
 v70:=Tryz.zeroValue128
 t72:=Tryz.underlying130
 a72:=Tryz.isAgg130
 z72:=Tryz.sizeOf130
 v72:=Tryz.zeroValue130
 t75:=Tryz.underlying134
 a75:=Tryz.isAgg134
 z75:=Tryz.sizeOf134
 v75:=Tryz.zeroValue134
 t76:=Tryz.underlying135
 a76:=Tryz.isAgg135
 z76:=Tryz.sizeOf135
 v76:=Tryz.zeroValue135
 t127:=Tryz.underlying265
 a127:=Tryz.isAgg265
 z127:=Tryz.sizeOf265
 v127:=Tryz.zeroValue265
 t164:=Tryz.underlying367
 a164:=Tryz.isAgg367
 z164:=Tryz.sizeOf367
 v164:=Tryz.zeroValue367 }
theorem jextra:Builder.Extra Tryz.prog kC:={
 sizeBuilder:=by kernel_rfl
 liesBuilder:=by kernel_rfl
 t5:=Tryz.underlying5
 a5:=Tryz.isAgg5
 z5:=Tryz.sizeOf5
 v5:=Tryz.zeroValue5
 infoByte:=by kernel_rfl
 cellsByte:=by kernel_rfl
 sizeByte:=by kernel_rfl
 neB5:=by decide }
theorem Kr (l:List UInt8):(crcm.mk l).data.toList=l:=crcm.mk_toList l
theorem yh:∀ ls:List (List UInt8),Lib.join ls []=ls.flatten
 | []=>rfl
 | [x]=>by rw [Lib.join_one];simp
 | x :: y :: r=>by
  have h:=yh (y :: r)
  have e:Lib.join (x :: y :: r) []=x ++ ([] ++ Lib.join (y :: r) []):=by simp [Lib.join]
  rw [e,h]
  simp
theorem Vy (b o k:Nat) (ls:List (List UInt8)) (w:World) (hc:∀ (j:Nat) l,ls[j]?=some l→w.cell? ⟨b,o + j,none⟩=some (.string (crcm.mk l))) (hb:b < w.heap.size) (hk:ls.length≤k) (h1:ls.length≤1000000) (h2:ls.flatten.length≤1000000) :
  Calls Tryz.prog 257 #[.slice (some ⟨b,o,none⟩) ls.length k,.string ⟨#[]⟩] w λe w'=>e=.returned (.string (crcm.mk ls.flatten))∧Below w.heap.size w w':=by
 have hm:(ls.map crcm.mk).map (·.data.toList)=ls:=by
  rw [List.map_map]
  have:((λx:ByteArray=>x.data.toList) ∘ crcm.mk)=id:=by funext l;exact Kr l
  rw [this,List.map_id]
 have h:=Any.strings_Join joinL jextra b o k (ls.map crcm.mk) ⟨#[]⟩ w (λj x hj=>by
  rw [List.getElem?_map] at hj;obtain ⟨l,hl,rfl⟩:=Option.map_eq_some_iff.1 hj
  exact hc j l hl) hb (by rw [List.length_map];omega) (by rw [List.length_map];exact hk) (by rw [hm,yh];omega)
 rw [hm,List.length_map] at h
 rw [show (⟨#[]⟩:ByteArray).data.toList=[] from rfl,yh] at h
 exact h
end Go.Proofs.YtppibhieabideaaGreatDoor
