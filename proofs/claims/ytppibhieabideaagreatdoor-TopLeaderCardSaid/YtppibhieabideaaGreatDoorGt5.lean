/- A part of the walk of the program, and of its plain law. -/
import Derived.Test.YtppibhieabideaaGreatDoorGt4
import Derived.Shelf.Strings.Builder1
import Derived.WalkLawsBesides
import Derived.Lib.ConvBytes
import Derived.Deep.QuietTactic
import Derived.Deep.RegionWith
namespace Go.Proofs.YtppibhieabideaaGreatDoor
set_option maxHeartbeats 4000000
open Go Go.RowKit
set_option maxRecDepth 100000
namespace vd
theorem xq {d:Disk} (h:Ok d):Ok (less d):=⟨h.cap,h.tot,h.nod,h.syn,h.nam,by show d.left - 1≤_;have:=h.lef;omega⟩
theorem xr {d:Disk} {f2:Files} (h:Ok d) (h2:Ok { d with files:=f2 }) (a:Bool):Ok (done d f2 a):=by
 have h3:Ok { less d with files:=f2 }:=⟨h2.cap,h2.tot,h2.nod,h2.syn,h2.nam,(xq h).lef⟩
 have h4:Ok (if goes d a then { less d with files:=f2 } else less d):=by
  cases goes d a
  ·exact xq h
  ·exact h3
 unfold done
 by_cases h1:d.left=1
 ·rw [if_pos h1];exact ok_crash h4 _
 ·rw [if_neg h1];exact h4
theorem ZI {d:Disk} {n:Name} {f2:Files} (h:Ok d) (h2:has d.files n=true→nameErr d.off [n]=0→Ok { d with files:=f2 }) (a:Bool):Ok (there d n f2 a).1:=by
 unfold there
 by_cases h1:nameErr d.off [n]=0
 ·rw [if_neg (by rw [h1];simp)]
  cases hh:has d.files n with
  | true=>exact xr h (h2 hh h1) a
  | false=>exact h
 ·rw [if_pos h1];exact h
theorem ok_sync {d:Disk} (h:Ok d) (n:Name):Ok (sync d n).1:=
 ZI h (λ_ hg=>ok_put h n _ (good_len (err_zero hg).2) (Nat.le_refl _) (by have:=h.tot;show _ + (at_ d.files n).1.length≤_;omega)) _
theorem ok_delete {d:Disk} (h:Ok d) (n:Name):Ok (delete d n).1:=ZI h (λ_ _=>ok_del h n) _
theorem ok_append {d:Disk} (h:Ok d) (n:Name) (s:List UInt8):Ok (append d n s).1:=by
 unfold append
 by_cases hf:has d.files n=true∧d.off=false∧d.cap < total d.files + s.length
 ·rw [if_pos hf];exact h
 ·rw [if_neg hf]
  refine ZI h (λh1 h2=>?_) _
  have hsp:total d.files + s.length≤d.cap:=by
   rcases Nat.lt_or_ge d.cap (total d.files + s.length) with k | k
   ·exact absurd ⟨h1,(err_zero h2).1,k⟩ hf
   ·exact k
  refine ok_put h n _ (good_len (err_zero h2).2) ?_ ?_
  ·have:=at_syn h n
   show (at_ d.files n).2≤((at_ d.files n).1 ++ s).length
   rw [List.length_append];omega
  ·show _ + ((at_ d.files n).1 ++ s).length≤_
   rw [List.length_append];omega
theorem ok_rename {d:Disk} (h:Ok d) (n m:Name):Ok (rename d n m).1:=by
 unfold rename
 by_cases h0:nameErr d.off [n,m]=0
 ·rw [if_neg (by rw [h0];simp)]
  refine ZI h (λ_ _=>?_) _
  refine ok_put (ok_del h n) m _ (good_len (yz h0).2) (at_syn h n) ?_;have:=total_del d.files n;have:=h.tot
  show total (del d.files n) + _≤_ + d.cap
  omega
 ·rw [if_pos h0];exact h
theorem ok_create {d:Disk} (h:Ok d) (n:Name):Ok (create d n).1:=by
 unfold create
 by_cases h0:nameErr d.off [n]=0
 ·rw [if_neg (by rw [h0];simp)]
  cases has d.files n with
  | true=>exact h
  | false=>
   rw [if_neg (by simp)]
   by_cases h2:200≤d.files.length
   ·rw [if_pos h2];exact h
   ·rw [if_neg h2];refine xr h (ok_put h n _ (good_len (err_zero h0).2) (Nat.le_refl _) ?_) _;have:=h.tot
    show _ + 0≤_
    omega
 ·rw [if_pos h0];exact h
end vd
namespace wl
def writeOps (o n:vd.Name) (s:List UInt8):List Op1:=[λd=>del d o,λd=>vd.create d o,λd=>vd.append d o s,λd=>vd.sync d o,λd=>vd.rename d o n]
def write (d:vd.Disk) (n:vd.Name) (s:List UInt8):vd.Disk × Nat:=run (writeOps (n ++ [43]) n s) d
end wl
theorem Y4 {w:World} {p b g:Nat} {d:vd.Disk} {l:wl.L} (s:List UInt8) (hg:Lg w g p l) (hd:Dk w p b d) (hok:vd.Ok d) (hm:l.name.length≤200) (hs:s.length≤1000000000) :
  Calls Tryz.prog 222 #[.pointer (some ⟨g,0,none⟩),.string (crcm.mk s)] w (λe w'=>e=.returned (.int .i64 ((wl.write d l.name s).2:Nat))∧Dk w' p b (wl.write d l.name s).1∧Apart [p,b] w w'∧vd.Ok (wl.write d l.name s).1):=by
 obtain ⟨o,ho⟩:∃ o,l.name ++ [43]=o:=⟨_,rfl⟩
 have hcat:crcm.mk l.name ++ ⟨#[43]⟩=crcm.mk o:=by rw [← ho,← crcm.mk_append];rfl
 have hol:o.length≤maxLen:=by rw [← ho,List.length_append];unfold maxLen;simp;omega
 have hml:l.name.length≤maxLen:=by unfold maxLen;omega
 have hz1:(crcm.mk l.name).size=l.name.length:=crcm.mk_size _;have hz2:ByteArray.size ⟨#[43]⟩=1:=rfl
 have hno:¬ 9223372036854775807 < l.name.length + 1:=by omega
 have hpl:=hd.blk.lt;have hbl:=hd.map.lt;have hgl:=hg.lt;obtain ⟨N,hN⟩:∃ N,w.heap.size=N:=⟨_,rfl⟩;obtain ⟨w1,hw1⟩:∃ w1,w.alloc (.cells #[.pointer (some ⟨g,0,none⟩)] 171)=w1:=⟨_,rfl⟩;obtain ⟨w2,hw2⟩:∃ w2,w1.alloc (.cells #[.string (crcm.mk s)] 9)=w2:=⟨_,rfl⟩;obtain ⟨w3,hw3⟩:∃ w3,w2.alloc (.cells #[.string (crcm.mk o)] 9)=w3:=⟨_,rfl⟩
 obtain ⟨xs,hxs⟩:∃ xs,xs=[((336,#[.pointer (some ⟨N,0,none⟩),.pointer (some ⟨N + 2,0,none⟩)],λd=>wl.del d o):Nat × Array Value × wl.Op1),
  (337,#[.pointer (some ⟨N,0,none⟩),.pointer (some ⟨N + 2,0,none⟩)],λd=>vd.create d o),
  (338,#[.pointer (some ⟨N,0,none⟩),.pointer (some ⟨N + 2,0,none⟩),.pointer (some ⟨N + 1,0,none⟩)],λd=>vd.append d o s),
  (339,#[.pointer (some ⟨N,0,none⟩),.pointer (some ⟨N + 2,0,none⟩)],λd=>vd.sync d o),
  (340,#[.pointer (some ⟨N,0,none⟩),.pointer (some ⟨N + 2,0,none⟩)],λd=>vd.rename d o l.name)]:=⟨_,rfl⟩
 obtain ⟨w4,hw4⟩:∃ w4,w3.alloc (.cells (xs.map ZD).toArray 70)=w4:=⟨_,rfl⟩
 have s1:w1.heap.size=N + 1:=by rw [← hw1,← hN];exact Array.size_push _
 have s2:w2.heap.size=N + 2:=by rw [← hw2];show (Array.push _ _).size=_;rw [Array.size_push,s1]
 have s3:w3.heap.size=N + 3:=by rw [← hw3];show (Array.push _ _).size=_;rw [Array.size_push,s2]
 have b1:Below N w w1:=by rw [← hw1,← hN];exact (Below.refl _ w).alloc (Nat.le_refl _) _
 have b2:Below (N + 1) w1 w2:=by rw [← hw2];exact (Below.refl _ w1).alloc (by omega) _
 have b3:Below (N + 2) w2 w3:=by rw [← hw3];exact (Below.refl _ w2).alloc (by omega) _
 have b4:Below (N + 3) w3 w4:=by rw [← hw4];exact (Below.refl _ w3).alloc (by omega) _
 have vl1:Vb w1 N [dptr g] 171:=by rw [← hw1,← hN];exact Vb.new w _ _
 have vs2:Vb w2 (N + 1) [.string (crcm.mk s)] 9:=by have:=Vb.new w1 [.string (crcm.mk s)] 9;rw [s1,hw2] at this;exact this
 have vo3:Vb w3 (N + 2) [keyV o] 9:=by have:=Vb.new w2 [keyV o] 9;rw [s2] at this;rw [← hw3];exact this
 have vx4:Vb w4 (N + 3) (xs.map ZD) 70:=by have:=Vb.new w3 (xs.map ZD) 70;rw [s3,hw4] at this;exact this
 have vl4:Vb w4 N [dptr g] 171:=(b4.block _ (by omega)).trans ((b3.block _ (by omega)).trans ((b2.block _ (by omega)).trans vl1))
 have vs4:Vb w4 (N + 1) [.string (crcm.mk s)] 9:=(b4.block _ (by omega)).trans ((b3.block _ (by omega)).trans vs2)
 have vo4:Vb w4 (N + 2) [keyV o] 9:=(b4.block _ (by omega)).trans vo3
 have b04:Below N w w4:=((b1.trans (b2.mono (by omega))).trans (b3.mono (by omega))).trans (b4.mono (by omega))
 have vg4:Lg w4 g p l:=(b04.block _ (by omega)).trans hg
 have hd4:Dk w4 p b d:=⟨(b04.block _ (by omega)).trans hd.blk,by rw [← hN] at b04;exact hd.map.below b04⟩
 have hA:Apart [p,b] w w4:=by rw [← hN] at b04;exact .of_below b04 _
 have hgout:g ∉ [p,b]:=qW hg hd
 have hstep:∀ x ∈ xs,Step w4 p b x:=by
  have k1:∀ w',Apart [p,b] w4 w'→Vb w' N [dptr g] 171:=λw' h=>vl4.apart h (by simp;omega)
  have k2:∀ w',Apart [p,b] w4 w'→Vb w' (N + 2) [keyV o] 9:=λw' h=>vo4.apart h (by simp;omega)
  have k3:∀ w',Apart [p,b] w4 w'→Vb w' (N + 1) [.string (crcm.mk s)] 9:=λw' h=>vs4.apart h (by simp;omega)
  have k4:∀ w',Apart [p,b] w4 w'→Lg w' g p l:=λw' h=>vg4.apart h hgout
  intro x hx;rw [hxs] at hx
  rcases List.mem_cons.1 hx with rfl | hx
  ·exact ⟨qm Tryz.func336 (by kernel_rfl) rfl,λd w' h1 h2 h3=>⟨vd.ok_delete h1 o,wal_w1 (k1 w' h3) (k4 w' h3) (k2 w' h3) h2 h1 hol⟩⟩
  rcases List.mem_cons.1 hx with rfl | hx
  ·exact ⟨qm Tryz.func337 (by kernel_rfl) rfl,λd w' h1 h2 h3=>⟨vd.ok_create h1 o,wal_w2 (k1 w' h3) (k4 w' h3) (k2 w' h3) h2 h1 hol⟩⟩
  rcases List.mem_cons.1 hx with rfl | hx
  ·exact ⟨qm Tryz.func338 (by kernel_rfl) rfl,λd w' h1 h2 h3=>⟨vd.ok_append h1 o s,wal_w3 (k1 w' h3) (k4 w' h3) (k2 w' h3) (k3 w' h3) h2 h1 hol hs⟩⟩
  rcases List.mem_cons.1 hx with rfl | hx
  ·exact ⟨qm Tryz.func339 (by kernel_rfl) rfl,λd w' h1 h2 h3=>⟨vd.ok_sync h1 o,wal_w4 (k1 w' h3) (k4 w' h3) (k2 w' h3) h2 h1 hol⟩⟩
  rcases List.mem_cons.1 hx with rfl | hx
  ·exact ⟨qm Tryz.func340 (by kernel_rfl) rfl,λd w' h1 h2 h3=>⟨vd.ok_rename h1 o l.name,wal_w5 (k1 w' h3) (k4 w' h3) (k2 w' h3) h2 h1 hol hml⟩⟩
  cases hx
 have hops:xs.map (·.2.2)=wl.writeOps o l.name s:=by rw [hxs];rfl
 have hlen:xs.length=5:=by rw [hxs];rfl
 have hcall:=Y5 (G:=N + 3) xs vx4 (by simp;omega) hstep hd4 hok (by omega)
 rw [hops,hlen] at hcall
 have hres:wl.write d l.name s=wl.run (wl.writeOps o l.name s) d:=by rw [← ho];rfl
 rw [← hres] at hcall;rw [hxs] at hw4;simp only [List.map_cons,List.map_nil,ZD] at hw4;have q1:=vg4.cell 1 _ rfl
 have r1:=(show Vb w2 N _ _ from (b2.block _ (by omega)).trans vl1).cell 0 _ rfl
 have r2:=(show Lg w2 g p l from ((b2.block _ (by omega)).trans ((b1.block _ (by omega)).trans hg))).cell 1 _ rfl
 clear hops hlen hres hstep vx4 vl4 vs4 vo4 vo3 vs2 vl1 b4 b3 b2 b1 b04 vg4 hd4 ho hol hml hd hg hok hxs;unfold dptr keyV at *;rw [hz2] at *
 go_enter Tryz.func222,Tryz.ntmps222
 go_wp2_with fail;refine hcall.mono ?_;rintro e w5 ⟨rfl,h1,h2,h3⟩;go_wp2_with fail;go_ret;exact ⟨rfl,h1,hA.trans h2,h3⟩
end Go.Proofs.YtppibhieabideaaGreatDoor
namespace Go.Proofs.YtppibhieabideaaGreatDoor
set_option maxHeartbeats 4000000
open Go Go.RowKit Go.Lib Go.Shelf
set_option maxRecDepth 100000
def bren:Go.Shelf.Ren:=⟨fun | 169=>71 | n=>n,fun | 70=>128 | 9=>9 | 0=>0 | 72=>130 | 37=>23 | 127=>265 | 3=>3 | 5=>5 | n=>n,fun | n=>n⟩
theorem blays:Go.Proofs.Lays.n169 Tryz.prog bren:={
 mixed:=by kernel_rfl
 f169:=Tryz.func71.trans (congrArg some (by kernel_rfl))
 t0:=Tryz.underlying0
 a0:=Tryz.isAgg0
 z0:=Tryz.sizeOf0
 v0:=Tryz.zeroValue0
 t3:=Tryz.underlying3
 a3:=Tryz.isAgg3
 z3:=Tryz.sizeOf3
 v3:=Tryz.zeroValue3
 t9:=Tryz.underlying9
 a9:=Tryz.isAgg9
 z9:=Tryz.sizeOf9
 v9:=Tryz.zeroValue9
 t37:=Tryz.underlying23
 a37:=Tryz.isAgg23
 z37:=Tryz.sizeOf23
 v37:=Tryz.zeroValue23
 t70:=Tryz.underlying128
 a70:=Tryz.isAgg128
 z70:=Tryz.sizeOf128
 v70:=Tryz.zeroValue128
 t72:=Tryz.underlying130
 a72:=Tryz.isAgg130
 z72:=Tryz.sizeOf130
 v72:=Tryz.zeroValue130
 t127:=Tryz.underlying265
 a127:=Tryz.isAgg265
 z127:=Tryz.sizeOf265
 v127:=Tryz.zeroValue265 }
theorem bextra:Builder.Extra Tryz.prog bren:={
 sizeBuilder:=by kernel_rfl
 liesBuilder:=by kernel_rfl
 t5:=Tryz.underlying5
 a5:=Tryz.isAgg5
 z5:=Tryz.sizeOf5
 v5:=Tryz.zeroValue5
 infoByte:=by kernel_rfl
 cellsByte:=by kernel_rfl
 sizeByte:=by kernel_rfl
 neB5:=by decide }
abbrev Bld (B b:Nat) (bs:List Value) (w:World):Prop:=Lib.IsBuilder 130 5 B b bs w
theorem YR (B b:Nat) (l:List UInt8) (w:World) (h:Bld B b (Lib.byteCells l) w) (hBw:B≤w.heap.size) :
  Calls Tryz.prog 71 #[.pointer (some ⟨b,0,none⟩)] w λe w'=>e=.returned (.string ⟨l.toArray⟩)∧Below B w w':=Any.Builder_String_any blays bextra B b l w h hBw
theorem vO (B b:Nat) (bs:List Value) (w:World) (h:Bld B b bs w) :
  Calls Tryz.prog 175 #[.pointer (some ⟨b,0,none⟩)] w λe w'=>e=.returned (.tuple #[])∧(Lib.BuilderAt 130 5 B b (.pointer (some ⟨b,0,none⟩)) bs w'∧Below B w w'):=by
 obtain ⟨j,hj,hjs⟩:=Option.map_eq_some_iff.1 bextra.sizeBuilder
 rcases h with h | h
 ·have h0:=h.cell0;have hsh:=h.shape;have hfz:=h.frozen0
  have h1:=Lib.run_to_unsafe w ⟨b,0,none⟩ Tryz.underlying128 Tryz.underlying367 hj (by rw [hjs];decide) hsh (Nat.zero_lt_succ 1)
  have h2:=Lib.run_from_unsafe w ⟨b,0,none⟩ Tryz.underlying367 Tryz.underlying128 hj hsh bextra.liesBuilder
  have h3:=run_callFunc_extern Tryz.func285 (by kernel_rfl) (by kernel_rfl) (by kernel_rfl) (e:=Extern.AbiNoEscape.same) (by kernel_rfl) #[.pointer (some ⟨b,0,none⟩)] w
  rw [Lib.run_noEscape] at h3;simp only [Result.andThen] at h3
  go_enter Tryz.func175,Tryz.ntmps175
  go_wp2;go_end0;exact ⟨rfl,h.used _,(Below.refl B w).setCell (p:=⟨b,0,none⟩) h.1 _⟩
 ·have h0:=h.cell0;have h1:=Lib.run_neq_ptr_same w ⟨b,0,none⟩ Tryz.underlying128 hj
  go_enter Tryz.func175,Tryz.ntmps175
  go_wp2;go_end0;exact ⟨rfl,h,Below.refl B _⟩
theorem kQ (B b:Nat) (bs:List Value) (s:ByteArray) (w:World) (h:Bld B b bs w) (hlen:bs.length + s.size≤140737488355328) (hBw:B≤w.heap.size) :
  Calls Tryz.prog 65 #[.pointer (some ⟨b,0,none⟩),.string s] w λe w'=>(∃ v,e=.returned v)∧(Bld B b (bs ++ Lib.strCells s) w'∧Below B w w'):=by
 obtain ⟨i0,hi,hz0,hz1,hz2⟩:=info_parts bextra.infoByte
 go_enter Tryz.func65,Tryz.ntmps65
 go_wp2_with fail;refine (vO B b bs _ h).mono ?_;rintro e w1 ⟨rfl,h1,hb1⟩;obtain ⟨hB,v,hbk,hown,hne⟩:=h1
 have c0:w1.cell? ⟨b,0,none⟩=some (.pointer (some ⟨b,0,none⟩)):=by rw [Lib.cell_of_heap hbk];rfl
 have c1:w1.cell? ⟨b,1,none⟩=some v:=by rw [Lib.cell_of_heap hbk];rfl
 go_wp2_with (at_builtin;refine Lib.wpList_append_own_string _ rfl _ _ 23 9 rfl B 5 i0 Tryz.underlying23 Tryz.underlying9 hi hz0 hz1 hz2 _ _ _ rfl hown s rfl ?c3 ?c4 ?c5 ?_)
 case c3=>unfold maxLen;omega
 case c4=>omega
 case c5=>have:=hb1.size;omega
 intro v' w2 hown' hgrow _
 have hlt:b < w1.heap.size:=by
  rcases Nat.lt_or_ge b w1.heap.size with h' | h'
  ·exact h'
  ·simp [Array.getElem?_eq_none h'] at hbk
 have hb2:w2.heap[b]?=some (.cells #[.pointer (some ⟨b,0,none⟩),v] 130 (0,0)):=by
  rw [hgrow.block b hlt (λe=>hne e.symm)]
  exact hbk
 have d0:w2.cell? ⟨b,0,none⟩=some (.pointer (some ⟨b,0,none⟩)):=by rw [Lib.cell_of_heap hb2];rfl
 have d1:w2.cell? ⟨b,1,none⟩=some v:=by rw [Lib.cell_of_heap hb2];rfl
 have f1:w2.frozen? ⟨b,1,none⟩=false:=Lib.frozen_of_heap hb2 1
 obtain ⟨ao,n',cap,rfl⟩:∃ ao n' cap,v'=.slice ao n' cap:=by
  rcases hown'.2 with ⟨hv,_⟩ | ⟨g,cap,cur,hv,_⟩
  ·exact ⟨_,_,_,hv⟩
  ·exact ⟨_,_,_,hv⟩
 go_wp2
 go_ret2
 refine ⟨⟨_,rfl⟩,?_,?_⟩
 ·exact .inr (Lib.BuilderAt.put (T:=130) (e:=5) hB hb2 (bs':=bs ++ Lib.strCells s) (by simpa [Lib.strCells_length] using hown') (by decide))
 ·exact (hb1.grown hgrow (by have:=hb1.size;omega) (λk hk=>(hown.lt k hk).1)).setCell (p:=⟨b,1,none⟩) hB _
end Go.Proofs.YtppibhieabideaaGreatDoor
namespace Go.Proofs.YtppibhieabideaaGreatDoor
set_option maxHeartbeats 4000000
open Go Go.RowKit
set_option maxRecDepth 100000
def TabAt (w:World):Prop:=0 < w.heap.size∧∀ i,i < 16→w.cell? ⟨0,i,none⟩=some (.int .u32 ((crcm.tab.getD i 0:Nat):Int))
theorem TabAt.below {w w':World} {B:Nat} (h:TabAt w) (hb:Below B w w') (hB:0 < B):TabAt w':=
 ⟨by have:=hb.size;have:=h.1;omega,λi hi=>(hb.cell (p:=⟨0,i,none⟩) hB).trans (h.2 i hi)⟩
theorem qR (w:World) (e:TypeId) (s:ByteArray):Below w.heap.size w (Lib.bytesWorld w e s):=
 ⟨rfl,rfl,rfl,by rw [Lib.bytesWorld_size];omega,λk hk=>Lib.bytesWorld_at_old w e s k hk⟩
theorem KQ (n:Nat) (h:n < 4294967296):bits .xor .u32 IntKind.u32.max (n:Int)=((4294967295 - n:Nat):Int):=by
 rw [show IntKind.u32.max=((4294967295:Nat):Int) from rfl,u32_xor_nat _ _ (by decide) h]
 congr 1
 apply Nat.eq_of_testBit_eq
 intro i
 have h32:(4294967295:Nat)=2 ^ 32 - 1:=by decide
 rw [Nat.testBit_xor,h32,Nat.testBit_two_pow_sub_one,show 2 ^ 32 - 1 - n=2 ^ 32 - (n + 1) from by omega,Nat.testBit_two_pow_sub_succ (by omega)]
 by_cases hi:i < 32
 ·simp [hi]
 ·have:n.testBit i=false:=Nat.testBit_lt_two_pow (Nat.lt_of_lt_of_le h (by rw [show (4294967296:Nat)=2 ^ 32 from rfl];exact Nat.pow_le_pow_right (by decide) (by omega)))
  simp [hi,this]
theorem KP (n:Nat) (h:n < 4294967296):bits .and .u32 (n:Int) 15=((n % 16:Nat):Int):=by
 rw [show (15:Int)=((15:Nat):Int) from rfl,u32_and_nat _ _ h (by decide),nat_mask4]
theorem yr (x t:Nat) (hx:x < 4294967296) (ht:t < 4294967296):bits .xor .u32 ((x:Int) / 16) (t:Int)=((x / 16 ^^^ t:Nat):Int):=by
 rw [show (x:Int) / 16=((x / 16:Nat):Int) from by omega,u32_xor_nat _ _ (by omega) ht]
theorem Jq (l:List UInt8) (k:Nat) (h:k < l.length):l.take (k + 1)=l.take k ++ [l.getD k 0]:=by
 rw [List.take_succ_eq_append_getElem h]
 simp [List.getD,h]
theorem Kc (i:Nat):crcm.tab.getD i 0 < 4294967296:=by
 have hall:∀ x ∈ crcm.tab,x < 4294967296:=by decide
 rw [List.getD_eq_getElem?_getD]
 cases h:crcm.tab[i]? with
 | none=>simp
 | some x=>exact hall x (List.mem_of_getElem? h)
theorem Zl {a b:Value} (h:a=b):Ending.returned a=Ending.returned b:=by rw [h]
set_option maxHeartbeats 1000000 in
theorem ZL (n:Nat) (s:ByteArray) (w:World) (hn:n < 4294967296) (hs:s.size≤maxLen) (ht:TabAt w) :
  Calls Tryz.prog 180 #[.int .u32 (n:Int),.string s] w λe w'=>e=.returned (.int .u32 (crcm.more n s.data.toList:Nat))∧Below w.heap.size w w':=by
 unfold maxLen at hs;have hconv:=Lib.run_convert_string_bytes (P:=Tryz.prog) w 9 23 5 s Tryz.underlying9 Tryz.underlying23 Tryz.underlying5
 have hcell:=λk hk=>Lib.bytesWorld_cell w 5 s k hk
 have ht1:=ht.below (qR w 5 s) ht.1;have hb:=qR w 5 s;have hflip:=KQ n hn;obtain ⟨m,hm⟩:∃ m,4294967295 - n=m:=⟨_,rfl⟩
 have hm4:m < 4294967296:=by omega
 rw [hm] at hflip;have Hm:=Uq hm;clear hm;obtain ⟨w1,hw1⟩:∃ w1,Lib.bytesWorld w 5 s=w1:=⟨_,rfl⟩;rw [hw1] at hconv hcell ht1 hb;clear hw1
 have hlen:s.data.toList.length=s.size:=by rw [Array.length_toList];rfl
 have Hlen:=Uq hlen;clear hlen
 go_enter Tryz.func180,Tryz.ntmps180
 go_wp2
 go_loop [5,7,13] (λx _ i=>∃ k L:Nat,k≤s.size∧i=.int .i64 k∧x=.int .u32 (L:Int)∧L < 4294967296∧L=crcm.loop m (s.data.toList.take k)) (λ_ _ i=>s.size - (intOf i).toNat)
 case atStart=>exact ⟨0,m,Nat.zero_le _,rfl,rfl,hm4,rfl⟩
 case round=>
  obtain ⟨k,L,hk,rfl,rfl,hL,hLe⟩:=hrel;have HL:=Uq hLe;clear hLe
  by_cases hlt:k < s.size
  ·have hc:=hcell k hlt
   have hsnoc:=Jq s.data.toList k (by rw [Hlen.out];exact hlt)
   obtain ⟨b,hb8⟩:∃ b:UInt8,s.data.toList.getD k 0=b:=⟨_,rfl⟩;rw [hb8] at hc hsnoc;clear hcell hb8;have hbt:b.toNat < 256:=b.toNat_lt
   have hmod:(b.toNat:Int) % 4294967296=b.toNat:=by omega
   have e1:=u32_xor_nat L b.toNat hL (by omega)
   have hx1:=crcm.xor_lt hL (crcm.u8_lt b);obtain ⟨x1,hx1e⟩:∃ x,L ^^^ b.toNat=x:=⟨_,rfl⟩;rw [hx1e] at e1 hx1;have e2:=KP x1 hx1
   have c1:=ht1.2 (x1 % 16) (by omega)
   have e3:=yr x1 (crcm.tab.getD (x1 % 16) 0) hx1 (Kc _)
   have hx2:x1 / 16 ^^^ crcm.tab.getD (x1 % 16) 0 < 4294967296:=crcm.xor_lt (by omega) (Kc _)
   obtain ⟨t1,ht1e⟩:∃ t,crcm.tab.getD (x1 % 16) 0=t:=⟨_,rfl⟩;obtain ⟨i1,hi1e⟩:∃ i,x1 % 16=i:=⟨_,rfl⟩
   have hi1:i1 < 16:=by omega
   rw [ht1e] at e3 hx2 c1;rw [hi1e] at e2 c1;obtain ⟨x2,hx2e⟩:∃ x,x1 / 16 ^^^ t1=x:=⟨_,rfl⟩;rw [hx2e] at e3 hx2;have e4:=KP x2 hx2
   have c2:=ht1.2 (x2 % 16) (by omega)
   have e5:=yr x2 (crcm.tab.getD (x2 % 16) 0) hx2 (Kc _)
   have hx3:x2 / 16 ^^^ crcm.tab.getD (x2 % 16) 0 < 4294967296:=crcm.xor_lt (by omega) (Kc _)
   obtain ⟨t2,ht2e⟩:∃ t,crcm.tab.getD (x2 % 16) 0=t:=⟨_,rfl⟩;obtain ⟨i2,hi2e⟩:∃ i,x2 % 16=i:=⟨_,rfl⟩
   have hi2:i2 < 16:=by omega
   rw [ht2e] at e5 hx3 c2;rw [hi2e] at e4 c2;obtain ⟨x3,hx3e⟩:∃ x,x2 / 16 ^^^ t2=x:=⟨_,rfl⟩;rw [hx3e] at e5 hx3
   have H:Hid (x3=crcm.loop m (s.data.toList.take (k + 1))):=by
    show x3=_
    rw [hsnoc,crcm.loop_snoc,← HL.out,crcm.byte1_nib,hx1e];unfold crcm.nib;rw [ht1e,hx2e,ht2e,hx3e]
   clear hsnoc hx1e ht1e hi1e hx2e ht2e hi2e hx3e;go_wp2
   go_round
   case rel=>exact ⟨k + 1,x3,by omega,by go_num,rfl,hx3,H.out⟩
   case measure=>simp [intOf];omega
  ·have hflip2:=KQ L hL;clear hcell
   have hfin:(.int .u32 ((4294967295 - L:Nat):Int))=Value.int .u32 (crcm.more n s.data.toList:Nat):=by
    rw [HL.out,List.take_of_length_le (by rw [Hlen.out];omega),← Hm.out];rfl
   obtain ⟨r,hr⟩:∃ r,4294967295 - L=r:=⟨_,rfl⟩;rw [hr] at hflip2 hfin;have Hfin:=Uq hfin;clear hfin hr;go_wp2;go_ret;exact ⟨Zl Hfin.out,hb⟩
theorem ZW (x:Int) (h0:0≤x) (h1:x < 256):((crcm.u8 x.toNat).toNat:Int)=x:=by
 rw [crcm.u8_val (by omega)];omega
theorem VO {P:Program} (src dst e:TypeId) (hs:P.underlying src=some (.slice e)) (he:P.underlying e=some (.int .u8)) (hd:P.underlying dst=some .string)
  (x y:Int) (hx:0≤x∧x < 256) (hy:0≤y∧y < 256) (w:World) :
  (convert src dst (.slice (some ⟨w.heap.size,0,none⟩) 2 2)).run P (w.alloc (.cells #[.int .u8 x,.int .u8 y] e))=.ok (.string (crcm.mk [crcm.u8 x.toNat,crcm.u8 y.toNat])) (w.alloc (.cells #[.int .u8 x,.int .u8 y] e)):=by
 refine run_convert_bytes_back _ src dst e ⟨w.heap.size,0,none⟩ 2 [crcm.u8 x.toNat,crcm.u8 y.toNat] hs he hd ?_;intro j hj
 match j,hj with
 | 0,_=>simp [Addr.add,ZW x hx.1 hx.2]
 | 1,_=>simp [Addr.add,ZW y hy.1 hy.2]
theorem VN {P:Program} (src dst e:TypeId) (hs:P.underlying src=some (.slice e)) (he:P.underlying e=some (.int .u8)) (hd:P.underlying dst=some .string)
  (x y z t:Int) (hx:0≤x∧x < 256) (hy:0≤y∧y < 256) (hz:0≤z∧z < 256) (ht:0≤t∧t < 256) (w:World) :
  (convert src dst (.slice (some ⟨w.heap.size,0,none⟩) 4 4)).run P (w.alloc (.cells #[.int .u8 x,.int .u8 y,.int .u8 z,.int .u8 t] e)) =
   .ok (.string (crcm.mk [crcm.u8 x.toNat,crcm.u8 y.toNat,crcm.u8 z.toNat,crcm.u8 t.toNat])) (w.alloc (.cells #[.int .u8 x,.int .u8 y,.int .u8 z,.int .u8 t] e)):=by
 refine run_convert_bytes_back _ src dst e ⟨w.heap.size,0,none⟩ 4 [crcm.u8 x.toNat,crcm.u8 y.toNat,crcm.u8 z.toNat,crcm.u8 t.toNat] hs he hd ?_;intro j hj
 match j,hj with
 | 0,_=>simp [Addr.add,ZW x hx.1 hx.2]
 | 1,_=>simp [Addr.add,ZW y hy.1 hy.2]
 | 2,_=>simp [Addr.add,ZW z hz.1 hz.2]
 | 3,_=>simp [Addr.add,ZW t ht.1 ht.2]
theorem Kd (s:ByteArray) (w:World) (hs:s.size≤maxLen) (ht:TabAt w) :
  Calls Tryz.prog 181 #[.string s] w λe w'=>e=.returned (.int .u32 (crcm.sum s.data.toList:Nat))∧Below w.heap.size w w':=by
 go_enter Tryz.func181,Tryz.ntmps181
 go_wp2_with (go_at_call 180;refine (ZL 0 s _ (by decide) hs ht).mono ?_;rintro e w' ⟨rfl,hb⟩)
 go_ret;exact ⟨rfl,hb⟩
theorem le2_mk (n:Nat):crcm.mk [crcm.u8 ((n:Int) % 256).toNat,crcm.u8 ((n:Int) / 256).toNat]=crcm.mk (crcm.le2 n):=by
 unfold crcm.le2
 rw [show ((n:Int) % 256).toNat=n % 256 from by omega,show ((n:Int) / 256).toNat=n / 256 from by omega]
theorem four_mk (n:Nat):crcm.mk [crcm.u8 ((n:Int) % 256).toNat,crcm.u8 ((n:Int) / 256 % 256).toNat,crcm.u8 ((n:Int) / 65536 % 256).toNat,crcm.u8 ((n:Int) / 16777216).toNat]=crcm.mk (crcm.fourB n):=by
 unfold crcm.fourB
 rw [show ((n:Int) % 256).toNat=n % 256 from by omega,show ((n:Int) / 256 % 256).toNat=n / 256 % 256 from by omega,show ((n:Int) / 65536 % 256).toNat=n / 65536 % 256 from by omega,show ((n:Int) / 16777216).toNat=n / 16777216 from by omega]
set_option maxHeartbeats 1000000 in
theorem V0 (s:ByteArray) (w:World) (hs:s.size≤65535) (ht:TabAt w) :
  Calls Tryz.prog 176 #[.string s] w λe w'=>e=.returned (.tuple #[.string (crcm.mk (crcm.put s.data.toList).1),.int .i64 ((crcm.put s.data.toList).2:Nat)])∧Below w.heap.size w w':=by
 have h2:=λw=>VO (P:=Tryz.prog) 23 9 5 Tryz.underlying23 Tryz.underlying5 Tryz.underlying9 ((s.size:Int) % 256) ((s.size:Int) / 256) (by omega) (by omega) w
 rw [le2_mk] at h2
 have hb1:∀ o,Below w.heap.size w (w.alloc o):=λo=>(Below.refl _ w).alloc (Nat.le_refl _) o
 have ht1:∀ o,TabAt (w.alloc o):=λo=>ht.below (hb1 o) ht.1
 go_enter Tryz.func176,Tryz.ntmps176
 go_wp2_with fail
 refine (Kd _ _ (by rw [crcm.mk_size,crcm.le2_len];unfold maxLen;omega) (ht1 _)).mono ?_
 rintro e w1 ⟨rfl,hb2⟩;rw [crcm.mk_toList];have ht2:=(ht1 _).below hb2 (Nat.lt_of_lt_of_le ht.1 (hb1 _).size);obtain ⟨x,hx⟩:∃ x,crcm.sum (crcm.le2 s.size)=x:=⟨_,rfl⟩
 have hxl:x < 4294967296:=by rw [← hx];exact crcm.more_lt _ _
 rw [hx];have Hx:=Uq hx;clear hx;go_wp2_with fail
 refine (ZL x s w1 hxl (by unfold maxLen;omega) ht2).mono ?_
 rintro e w2 ⟨rfl,hb3⟩;obtain ⟨y,hy⟩:∃ y,crcm.more x s.data.toList=y:=⟨_,rfl⟩
 have hyl:y < 4294967296:=by rw [← hy];exact crcm.more_lt _ _
 rw [hy];have Hy:=Uq hy;clear hy
 have h4:=λw=>VN (P:=Tryz.prog) 23 9 5 Tryz.underlying23 Tryz.underlying5 Tryz.underlying9 ((y:Int) % 256) ((y:Int) / 256 % 256) ((y:Int) / 65536 % 256) ((y:Int) / 16777216) (by omega) (by omega) (by omega) (by omega) w
 rw [four_mk] at h4
 have z2:(crcm.mk (crcm.le2 s.size)).size≤100:=by rw [crcm.mk_size,crcm.le2_len];omega
 have z4:(crcm.mk (crcm.fourB y)).size≤100:=by rw [crcm.mk_size,crcm.fourB_len];omega
 go_wp2_with fail
 go_ret2
 have hl:=crcm.size_len s
 have hfin:crcm.put s.data.toList=(crcm.le2 s.size ++ crcm.fourB y ++ s.data.toList,0):=by
  unfold crcm.put crcm.body
  rw [if_neg (by omega),hl,← Hy.out,← Hx.out,crcm.more_sum]
 rw [hfin];refine ⟨?_,?_⟩
 ·conv=>lhs;rw [← crcm.mk_of s]
  rw [crcm.mk_append,crcm.mk_append,crcm.mk_size,hl]
  rfl
 ·exact ((((hb1 _).trans (hb2.mono (by simp))).trans (hb3.mono (by have:=hb2.size;simp at this;omega))).alloc (by have:=hb2.size;have:=hb3.size;simp at *;omega) _)
theorem VY (s:ByteArray) (w:World) (hs:65535 < s.size) (hs2:s.size≤maxLen) :
  Calls Tryz.prog 176 #[.string s] w λe w'=>e=.returned (.tuple #[.string (crcm.mk (crcm.put s.data.toList).1),.int .i64 ((crcm.put s.data.toList).2:Nat)])∧Below w.heap.size w w':=by
 have hl:=crcm.size_len s
 have hfin:crcm.put s.data.toList=([],71):=by
  unfold crcm.put
  rw [if_pos (by omega)]
 rw [hfin];clear hfin hl;unfold maxLen at hs2
 go_enter Tryz.func176,Tryz.ntmps176
 go_wp2_with fail
 go_ret2
 exact ⟨rfl,Below.refl _ _⟩
theorem put_any (s:ByteArray) (w:World) (hs:s.size≤maxLen) (ht:TabAt w) :
  Calls Tryz.prog 176 #[.string s] w λe w'=>e=.returned (.tuple #[.string (crcm.mk (crcm.put s.data.toList).1),.int .i64 ((crcm.put s.data.toList).2:Nat)])∧Below w.heap.size w w':=by
 by_cases h:s.size≤65535
 ·exact V0 s w h ht
 ·exact VY s w (by omega) hs
theorem QN (s:ByteArray) (k:Nat) (h:k < s.size):s[k]=s.data.toList.getD k 0:=by
 rw [List.getD_eq_getElem?_getD,List.getElem?_eq_getElem (by rw [crcm.size_len];exact h)];rfl
theorem Z6 (s:ByteArray) (h:0 < s.size):s.toList.isEmpty=false:=by
 rw [ByteArray.toList_eq];have:=crcm.size_len s
 cases hl:s.data.toList with
 | nil=>rw [hl] at this;simp at this;omega
 | cons a b=>rfl
theorem zx (i a b:Nat) (ha:a < 2 ^ i) (hb:b % 2 ^ i=0) (ha4:a < 4294967296) (hb4:b < 4294967296):bits .or .u32 (a:Int) (b:Int)=((a + b:Nat):Int):=by
 rw [u32_or_nat a b ha4 hb4,Nat.or_comm,nat_join i b a hb ha,Nat.add_comm]
theorem or8 (a b:UInt8):bits .or .u32 (a.toNat:Int) ((b.toNat:Int) * 256)=((a.toNat + 256 * b.toNat:Nat):Int):=by
 have:=a.toNat_lt;have:=b.toNat_lt
 rw [show (b.toNat:Int) * 256=((256 * b.toNat:Nat):Int) from by omega]
 exact zx 8 _ _ (by omega) (by omega) (by omega) (by omega)
theorem or16 (x:Nat) (hx:x < 65536) (b:UInt8):bits .or .u32 (x:Int) ((b.toNat:Int) * 65536)=((x + 65536 * b.toNat:Nat):Int):=by
 have:=b.toNat_lt
 rw [show (b.toNat:Int) * 65536=((65536 * b.toNat:Nat):Int) from by omega]
 exact zx 16 _ _ (by omega) (by omega) (by omega) (by omega)
theorem or24 (x:Nat) (hx:x < 16777216) (b:UInt8):bits .or .u32 (x:Int) ((b.toNat:Int) * 16777216)=((x + 16777216 * b.toNat:Nat):Int):=by
 have:=b.toNat_lt
 rw [show (b.toNat:Int) * 16777216=((16777216 * b.toNat:Nat):Int) from by omega]
 exact zx 24 _ _ (by omega) (by omega) (by omega) (by omega)
theorem zB {w W:World} (h:TabAt w) (e:W.heap=w.heap):TabAt W:=
 ⟨by rw [e];exact h.1,λi hi=>by rw [← h.2 i hi];unfold World.cell?;rw [e]⟩
theorem Zh {w W W':World} {B:Nat} (h:Below B W W') (e1:W.heap=w.heap) (e2:W.os=w.os) (e3:W.tape=w.tape) (e4:W.output=w.output):Below B w W':=
 ⟨h.os.trans e2,h.tape.trans e3,h.output.trans e4,by rw [← e1];exact h.size,λk hk=>by rw [← e1];exact h.block k hk⟩
theorem kf {w W W':World} {B:Nat} (h:TabAt w) (hb:Below B W W') (hB:0 < B) (e:W.heap=w.heap):TabAt W':=(zB h e).below hb hB
theorem Q6 (s:ByteArray) (a b:Nat) (h:s.size≤2 ^ 63 - 1):(s.extract a b).size≤maxLen:=by
 unfold maxLen;have h1:=crcm.size_len (s.extract a b);have h2:=crcm.size_len s;rw [Lib.extract_data,List.length_take,List.length_drop] at h1;omega
def Qf (s:ByteArray) (w:World) (e:Ending) (w':World):Prop:=
 e=.returned (.tuple #[.string (crcm.mk (crcm.get s.data.toList).1),.int .i64 ((crcm.get s.data.toList).2.1:Nat),.int .i64 ((crcm.get s.data.toList).2.2:Nat)])∧Below w.heap.size w w'
theorem uD (s:ByteArray) (w:World) (h:s.size=0):Calls Tryz.prog 73 #[.string s] w (Qf s w):=by
 have hl:=crcm.size_len s
 have hnil:s.data.toList=[]:=List.eq_nil_of_length_eq_zero (by omega)
 have hfin:crcm.get s.data.toList=([],0,3):=by rw [hnil];rfl
 have hne:s.toList.isEmpty=true:=by rw [ByteArray.toList_eq,hnil];rfl
 have Hfin:=Uq hfin;have Hh:=Uq h;clear hl hfin hnil h
 go_enter Tryz.func73,Tryz.ntmps73
 go_wp2_with fail
 go_ret3
 unfold Qf;rw [Hfin.out];exact ⟨rfl,Below.refl _ _⟩
theorem JS (s:ByteArray) (w:World) (h:0 < s.size) (h6:s.size < 6):Calls Tryz.prog 73 #[.string s] w (Qf s w):=by
 have hl:=crcm.size_len s
 have hfin:crcm.get s.data.toList=([],0,10):=by
  unfold crcm.get
  rw [if_neg (by intro e;rw [e] at hl;simp at hl;omega),if_pos (by omega)]
 have hne:=Z6 s h;have Hfin:=Uq hfin;clear hl hfin
 go_enter Tryz.func73,Tryz.ntmps73
 go_wp2_with fail
 go_ret3
 unfold Qf;rw [Hfin.out];exact ⟨rfl,Below.refl _ _⟩
set_option maxHeartbeats 1000000 in
theorem get_cut (s:ByteArray) (w:World) (h6:6≤s.size) (hs:s.size≤maxLen) (hn:s.size < 6 + crcm.said s.data.toList) :
  Calls Tryz.prog 73 #[.string s] w (Qf s w):=by
 have hl:=crcm.size_len s
 have hfin:crcm.get s.data.toList=([],0,10):=by
  unfold crcm.get
  rw [if_neg (by intro e;rw [e] at hl;simp at hl;omega),if_neg (by omega),if_pos (by omega)]
 have Hfin:=Uq hfin;clear hl hfin;unfold maxLen at hs
 have g0:=QN s 0 (by omega)
 have g1:=QN s 1 (by omega)
 have hne:=Z6 s (by omega)
 unfold crcm.said at hn;obtain ⟨b0,hb0⟩:∃ b:UInt8,s.data.toList.getD 0 0=b:=⟨_,rfl⟩;obtain ⟨b1,hb1⟩:∃ b:UInt8,s.data.toList.getD 1 0=b:=⟨_,rfl⟩;rw [hb0] at g0 hn;rw [hb1] at g1 hn;clear hb0 hb1;have l0:b0.toNat < 256:=b0.toNat_lt;have l1:b1.toNat < 256:=b1.toNat_lt
 have p1:(1:Int) < (s.size:Int):=by omega
 go_enter Tryz.func73,Tryz.ntmps73
 go_wp2_with fail
 go_quiet (fail)
 go_wp2_with fail
 go_ret3
 unfold Qf;rw [Hfin.out];exact ⟨rfl,below_drewN (Below.refl _ _) _⟩
set_option maxHeartbeats 2000000 in
theorem uE (s:ByteArray) (w:World) (h6:6≤s.size) (hs:s.size≤maxLen) (hn:6 + crcm.said s.data.toList≤s.size) (ht:TabAt w) :
  Calls Tryz.prog 73 #[.string s] w (Qf s w):=by
 have hl:=crcm.size_len s
 have hfin:=crcm.get_six s.data.toList (by omega) (by omega)
 clear hl;unfold crcm.num4 at hfin;unfold maxLen at hs
 have g0:=QN s 0 (by omega)
 have g1:=QN s 1 (by omega)
 have g2:=QN s 2 (by omega)
 have g3:=QN s 3 (by omega)
 have g4:=QN s 4 (by omega)
 have g5:=QN s 5 (by omega)
 have hne:=Z6 s (by omega)
 obtain ⟨N,hN⟩:∃ N,crcm.said s.data.toList=N:=⟨_,rfl⟩;rw [hN] at hfin hn;unfold crcm.said at hN;obtain ⟨b0,hb0⟩:∃ b:UInt8,s.data.toList.getD 0 0=b:=⟨_,rfl⟩;obtain ⟨b1,hb1⟩:∃ b:UInt8,s.data.toList.getD 1 0=b:=⟨_,rfl⟩;obtain ⟨b2,hb2⟩:∃ b:UInt8,s.data.toList.getD 2 0=b:=⟨_,rfl⟩;obtain ⟨b3,hb3⟩:∃ b:UInt8,s.data.toList.getD 3 0=b:=⟨_,rfl⟩;obtain ⟨b4,hb4⟩:∃ b:UInt8,s.data.toList.getD 4 0=b:=⟨_,rfl⟩;obtain ⟨b5,hb5⟩:∃ b:UInt8,s.data.toList.getD 5 0=b:=⟨_,rfl⟩;rw [hb0] at g0 hN;rw [hb1] at g1 hN;rw [hb2] at g2 hfin;rw [hb3] at g3 hfin;rw [hb4] at g4 hfin;rw [hb5] at g5 hfin;clear hb0 hb1 hb2 hb3 hb4 hb5;have l0:b0.toNat < 256:=b0.toNat_lt;have l1:b1.toNat < 256:=b1.toNat_lt;have l2:b2.toNat < 256:=b2.toNat_lt;have l3:b3.toNat < 256:=b3.toNat_lt;have l4:b4.toNat < 256:=b4.toNat_lt;have l5:b5.toNat < 256:=b5.toNat_lt
 have p1:(1:Int) < (s.size:Int):=by omega
 have p2:(2:Int) < (s.size:Int):=by omega
 have p3:(3:Int) < (s.size:Int):=by omega
 have p4:(4:Int) < (s.size:Int):=by omega
 have p5:(5:Int) < (s.size:Int):=by omega
 have o1:=or8 b2 b3;obtain ⟨x1,hx1⟩:∃ x,b2.toNat + 256 * b3.toNat=x:=⟨_,rfl⟩
 have o2:=or16 x1 (by omega) b4
 obtain ⟨x2,hx2⟩:∃ x,x1 + 65536 * b4.toNat=x:=⟨_,rfl⟩
 have o3:=or24 x2 (by omega) b5
 obtain ⟨x3,hx3⟩:∃ x,x2 + 16777216 * b5.toNat=x:=⟨_,rfl⟩;rw [hx1] at o1;rw [hx2] at o2;rw [hx3] at o3;obtain ⟨en,hen⟩:∃ en,6 + (b0.toNat + 256 * b1.toNat)=en:=⟨_,rfl⟩
 have he:(6:Int) + (b0.toNat:Int) + (b1.toNat:Int) * 256=(en:Int):=by omega
 have he2:en≤s.size:=by omega
 have he3:6≤en:=by omega
 have Hx1:=Uq hx1;have Hx2:=Uq hx2;have Hx3:=Uq hx3;have Hen:=Uq hen
 have hx:b2.toNat + 256 * b3.toNat + 65536 * b4.toNat + 16777216 * b5.toNat=x3:=by omega
 rw [hx] at hfin
 have heN:en - 6=N:=by omega
 have hsum:crcm.more (crcm.sum (s.data.toList.take 2)) ((s.data.toList.drop 6).take (en - 6))=crcm.sum (s.data.toList.take 2 ++ (s.data.toList.drop 6).take N):=by rw [crcm.more_sum,heN]
 rw [← hsum] at hfin
 have hen2:6 + N=en:=by omega
 rw [hen2,← heN] at hfin;obtain ⟨y,hy⟩:∃ y,crcm.more (crcm.sum (s.data.toList.take 2)) ((s.data.toList.drop 6).take (en - 6))=y:=⟨_,rfl⟩;rw [hy] at hfin
 have hmk:s.extract 6 en=crcm.mk ((s.data.toList.drop 6).take (en - 6)):=by rw [Lib.extract_eq];rfl
 have Hmk:=Uq hmk;clear hmk hx1 hx2 hx3 hen hx hsum heN hen2 hN hn Hx1 Hx2 Hx3 Hen
 have hyc:∀ z:Nat,((z:Int) != (x3:Int)) = !decide (z=x3):=λz=>by
  by_cases h:z=x3
  ·subst h;simp
  ·have:(z:Int) ≠ (x3:Int):=by omega
   simp [h,this]
 have Hyc:=Uq hyc;clear hyc
 by_cases hyx:y=x3
 ·have hv:((y:Int) != (x3:Int))=false:=by rw [Hyc.out];simp [hyx]
  rw [if_pos hyx] at hfin;have Hfin:=Uq hfin;clear hfin hyx Hyc
  go_enter Tryz.func73,Tryz.ntmps73
  go_wp2_with fail
  go_quiet (fail)
  go_wp2_with fail
  go_quiet (fail)
  go_wp2_with fail
  go_region_with (first | (go_at_call 181;refine (Kd _ _ ?_ ?_).mono ?_;exact Q6 _ _ _ hs;exact zB ht rfl;rintro e w2 ⟨rfl,hb2⟩) | (go_at_call 180;refine (ZL _ _ _ ?_ ?_ ?_).mono ?_;exact crcm.more_lt _ _;exact Q6 _ _ _ hs;exact kf ht hb2 ht.1 rfl;rintro e w3 ⟨rfl,hb3⟩))
  all_goals (go_wp2_with fail)
  all_goals go_ret3
  all_goals unfold Qf
  all_goals rw [Hfin.out,Hmk.out]
  all_goals exact ⟨rfl,Zh (hb2.trans (hb3.mono hb2.size)) rfl rfl rfl rfl⟩
 ·have hv:((y:Int) != (x3:Int))=true:=by rw [Hyc.out];simp [hyx]
  rw [if_neg hyx] at hfin;have Hfin:=Uq hfin;clear hfin hyx Hyc
  go_enter Tryz.func73,Tryz.ntmps73
  go_wp2_with fail
  go_quiet (fail)
  go_wp2_with fail
  go_quiet (fail)
  go_wp2_with fail
  go_region_with (first | (go_at_call 181;refine (Kd _ _ ?_ ?_).mono ?_;exact Q6 _ _ _ hs;exact zB ht rfl;rintro e w2 ⟨rfl,hb2⟩) | (go_at_call 180;refine (ZL _ _ _ ?_ ?_ ?_).mono ?_;exact crcm.more_lt _ _;exact Q6 _ _ _ hs;exact kf ht hb2 ht.1 rfl;rintro e w3 ⟨rfl,hb3⟩))
  all_goals (go_wp2_with fail)
  all_goals go_ret3
  all_goals unfold Qf
  all_goals rw [Hfin.out]
  all_goals exact ⟨rfl,Zh (hb2.trans (hb3.mono hb2.size)) rfl rfl rfl rfl⟩
theorem xB (s:ByteArray) (w:World) (hs:s.size≤maxLen) (ht:TabAt w):Calls Tryz.prog 73 #[.string s] w (Qf s w):=by
 by_cases h0:s.size=0
 ·exact uD s w h0
 ·by_cases h6:s.size < 6
  ·exact JS s w (by omega) h6
  ·by_cases hn:6 + crcm.said s.data.toList≤s.size
   ·exact uE s w (by omega) hs hn ht
   ·exact get_cut s w (by omega) hs (by omega)
theorem yF:(Tryz.prog.info? 9).map (λi=>(i.zero,i.size,i.bytes))=some (some (.string .empty),1,16):=by kernel_rfl
def strV (l:List UInt8):Value:=.string (crcm.mk l)
theorem Qv {a w:World} (h:Below a.heap.size a w) (row:Option Nat):a.grownBy w row:=⟨h.os,h.tape,h.output,h.size,λi hi _=>h.block i hi⟩
theorem qJ {a w:World} {base:Nat} {e:TypeId} {size n:Nat} {v:Value} {xs:List Value} (h:a.ownsRow base e size v n xs) (hb:Below a.heap.size a w):w.ownsRow base e size v n xs:=
 h.kept (Qv hb none) (by cases v.ownBlock with | none=>exact .inl rfl | some k=>exact .inr (by simp))
theorem qw (w:World) (v:Value) (e:TypeId):∀ j u,[v][j]?=some u→(w.alloc (.cells #[v] e)).cell? ((⟨w.heap.size,0,none⟩:Addr).add j)=some u:=by
 intro j u hj
 match j,hj with
 | 0,hj=>simp at hj;subst hj;simp [Addr.add]
theorem KV (l:List UInt8):∀ u ∈ [strV l],u.oneCell'=true:=by intro u hu;simp at hu;subst hu;rfl
theorem zo {w:World} {base:Nat} {e:TypeId} {v:Value} {n:Nat} {ls:List (List UInt8)} (hn:n=ls.length) (h:w.ownsRow base e 1 v n (ls.map strV)):Strs w v ls:=by
 subst hn
 rcases h.2 with ⟨rfl,h0⟩ | ⟨g,cap,cur,rfl,_⟩
 ·have:ls=[]:=by simpa using h0
  subst this
  exact ⟨none,0,rfl,λk hk=>by simp at hk⟩
 ·refine ⟨_,cap,rfl,λk hk=>⟨_,rfl,?_⟩⟩
  have:=h.cells (g:=g) rfl k (strV (ls.getD k []))
  apply this
  rw [List.getElem?_map,List.getElem?_eq_getElem hk,List.getD_eq_getElem?_getD,List.getElem?_eq_getElem hk]
  rfl
end Go.Proofs.YtppibhieabideaaGreatDoor
namespace Go.Proofs.YtppibhieabideaaGreatDoor.crcm
def flat (ls:List (List UInt8)):List UInt8:=(ls.map body).flatten
theorem flat_cons (t:List UInt8) (ls:List (List UInt8)):flat (t :: ls)=body t ++ flat ls:=by simp [flat]
theorem flat_append (a b:List (List UInt8)):flat (a ++ b)=flat a ++ flat b:=by simp [flat]
theorem flat_snoc (a:List (List UInt8)) (t:List UInt8):flat (a ++ [t])=flat a ++ body t:=by simp [flat]
theorem flat_len_snoc (a:List (List UInt8)) (t:List UInt8):(flat (a ++ [t])).length=(flat a).length + (6 + t.length):=by rw [flat_snoc,List.length_append,body_len]
theorem flat_le (ls:List (List UInt8)) (h:∀ t ∈ ls,t.length≤200):(flat ls).length≤206 * ls.length:=by
 induction ls with
 | nil=>simp [flat]
 | cons t r ih=>
  have h1:=h t (by simp)
  have h2:=ih (λx hx=>h x (by simp [hx]))
  rw [flat_cons,List.length_append,body_len,List.length_cons];omega
theorem allOf_flat (a b:List (List UInt8)) (h:∀ t ∈ a,t.length≤65535) (k:Nat) (hk:(flat a).length≤k) :
  allOf ((flat (a ++ b)).take k)=(a ++ (allOf ((flat b).take (k - (flat a).length))).1,(flat a).length + (allOf ((flat b).take (k - (flat a).length))).2):=by
 induction a generalizing k with
 | nil=>simp [flat]
 | cons t r ih=>
  have ht:=h t (by simp)
  rw [flat_cons,List.length_append,body_len] at hk
  have e1:(flat (t :: r ++ b)).take k=body t ++ (flat (r ++ b)).take (k - (6 + t.length)):=by
   rw [List.cons_append,flat_cons,List.take_append,body_len,List.take_of_length_le (by rw [body_len];omega)]
  have hg:=uF t ((flat (r ++ b)).take (k - (6 + t.length))) ht
  have h0:(get (body t ++ (flat (r ++ b)).take (k - (6 + t.length)))).2.2=0:=by rw [hg]
  rw [e1,Zv h0,hg];simp only
  rw [List.drop_left' (body_len t),ih (λx hx=>h x (by simp [hx])) _ (by omega),flat_cons,List.length_append,body_len]
  rw [show k - (6 + t.length) - (flat r).length=k - (6 + t.length + (flat r).length) from by omega]
  simp only [List.cons_append,Nat.add_assoc]
end Go.Proofs.YtppibhieabideaaGreatDoor.crcm
namespace Go.Proofs.YtppibhieabideaaGreatDoor
set_option maxHeartbeats 4000000
open Go Go.RowKit
set_option maxRecDepth 100000
theorem Bld.below {B b:Nat} {bs:List Value} {w w':World} (h:Bld B b bs w) (hb:Below w.heap.size w w'):Bld B b bs w':=by
 have k:∀ {q},Lib.BuilderAt 130 5 B b q bs w→Lib.BuilderAt 130 5 B b q bs w':=by
  rintro q ⟨hB,v,hbk,hown,hne⟩;exact ⟨hB,v,(hb.block b (Array.getElem?_eq_some_iff.1 hbk).1).trans hbk,qJ hown hb,hne⟩
 rcases h with h | h
 ·exact .inl (k h)
 ·exact .inr (k h)
namespace wl
def fits (t:List UInt8):Bool:=decide (t.length≤65535)
def bytes (ls:List (List UInt8)):List UInt8 × Nat:=if ls.all fits then (crcm.flat ls,0) else ([],71)
end wl
theorem vi (ls:List (List UInt8)) (k:Nat) (h:k < ls.length):(crcm.flat (ls.take k)).length + (6 + (ls.getD k []).length)≤(crcm.flat ls).length:=by
 have h1:ls=ls.take k ++ (ls.getD k [] :: ls.drop (k + 1)):=by
  rw [List.getD_eq_getElem?_getD,List.getElem?_eq_getElem h]
  show ls=ls.take k ++ (ls[k] :: ls.drop (k + 1))
  rw [List.getElem_cons_drop,List.take_append_drop]
 have h2:=congrArg (λl=>(crcm.flat l).length) h1
 simp only [crcm.flat_append,crcm.flat_cons,List.length_append,crcm.body_len] at h2;omega
theorem xY (v:Value) (ls:List (List UInt8)) (w:World) (hv:Strs w v ls) (hf:(crcm.flat ls).length≤1000000000) (hl:ls.length≤1000000000) (ht:TabAt w) :
  Calls Tryz.prog 317 #[v] w λe w'=>e=.returned (.tuple #[.string (crcm.mk (wl.bytes ls).1),.int .i64 ((wl.bytes ls).2:Nat)])∧Below w.heap.size w w':=by
 obtain ⟨A,c,rfl,hcells⟩:=hv
 have hsn:∀ k,k < ls.length→ls.take (k + 1)=ls.take k ++ [ls.getD k []]:=λk h=>by rw [List.take_add_one,List.getD_eq_getElem?_getD,List.getElem?_eq_getElem h];rfl
 have hft:=vi ls;obtain ⟨n,hn⟩:∃ n,ls.length=n:=⟨_,rfl⟩
 have htk:ls.take n=ls:=by rw [← hn];exact List.take_length
 obtain ⟨F,hF⟩:∃ F,(crcm.flat ls).length=F:=⟨_,rfl⟩;rw [hF] at hf hft;rw [hn] at hcells hsn hl hft ⊢
 have hno:∀ k,k < n→65535 < (ls.getD k []).length→wl.bytes ls=([],71):=λk hk h=>by
  unfold wl.bytes;rw [if_neg];rw [Bool.not_eq_true,List.all_eq_false]
  refine ⟨ls.getD k [],?_,by simp [wl.fits];exact h⟩
  rw [List.getD_eq_getElem?_getD,List.getElem?_eq_getElem (by rw [hn];exact hk)]
  exact List.getElem_mem _
 have HC:=Uq hcells;have HSN:=Uq hsn;have HTK:=Uq htk;have HFT:=Uq hft;have HNO:=Uq hno;clear hcells hsn htk hn hft hF hno
 go_enter Tryz.func317,Tryz.ntmps317
 go_wp2_with fail
 go_loopw [11] (λi wr=>∃ k:Nat,k≤n∧i=.int .i64 k∧(ls.take k).all wl.fits=true∧Bld w.heap.size w.heap.size (Lib.byteCells (crcm.flat (ls.take k))) wr∧Below w.heap.size w wr) (λi _=>n - (Go.RowKit.intOf i).toNat)
 case atStart=>exact ⟨0,Nat.zero_le _,rfl,rfl,Lib.fresh_isBuilder _ _ w,(Below.refl _ w).alloc (Nat.le_refl _) _⟩
 case round=>
  obtain ⟨k,hk,rfl,hall,hB,hbw⟩:=hrel;have HALL:=Uq hall;have HB:=Uq hB;clear hall hB;have hws:=hbw.size;have ht2:=ht.below hbw ht.1
  by_cases hlt:k < n
  ·obtain ⟨ad,rfl,c0⟩:=HC.out k hlt;have c1:=cell_later hbw c0;have hs:=HSN.out k hlt;have hft:=HFT.out k hlt;have hno:=HNO.out k hlt;obtain ⟨t,htt⟩:∃ t,ls.getD k []=t:=⟨_,rfl⟩;rw [htt] at c0 c1 hs hft hno;obtain ⟨N,hN⟩:∃ N,t.length=N:=⟨_,rfl⟩;rw [hN] at hft hno
   have hsz:(crcm.mk t).size≤maxLen:=by rw [crcm.mk_size,hN];unfold maxLen;omega
   have hput:=put_any (crcm.mk t) wr hsz ht2;rw [crcm.mk_toList] at hput
   by_cases hw:65535 < N
   ·have hp:crcm.put t=([],71):=by unfold crcm.put;rw [if_pos (by rw [hN];exact hw)]
    rw [hp] at hput;have HNN:=Uq (hno hw);clear hno hs htt hN hp c0;go_wp2_with fail;refine hput.mono ?_;rintro e w1 ⟨rfl,hb1⟩;go_wp2_with fail
    go_ret2
    rw [HNN.out];exact ⟨rfl,hbw.trans (hb1.mono hws)⟩
   ·have hp:crcm.put t=(crcm.body t,0):=by unfold crcm.put;rw [if_neg (by rw [hN];exact hw)]
    rw [hp] at hput
    have hfit:wl.fits t=true:=by unfold wl.fits;rw [hN];exact decide_eq_true (by omega)
    have hbl:(crcm.body t).length=6 + N:=by rw [crcm.body_len,hN]
    have HS:=Uq hs;have HFI:=Uq hfit;clear hno hs htt hN hp c0 hfit
    have hbs:(Lib.byteCells (crcm.flat (ls.take k))).length + (crcm.mk (crcm.body t)).size≤140737488355328:=by rw [Lib.byteCells_length,crcm.mk_size,hbl];omega
    have HBS:=Uq hbs;clear hbs hbl;go_wp2_with fail;refine hput.mono ?_;rintro e w1 ⟨rfl,hb1⟩;have hb01:=hbw.trans (hb1.mono hws);go_wp2_with fail;refine (kQ _ _ _ (crcm.mk (crcm.body t)) _ (HB.out.below hb1) HBS.out hb01.size).mono ?_;rintro e w2 ⟨⟨x,rfl⟩,hB2,hb2⟩;go_wp2_with fail;go_roundw
    case rel=>
     refine ⟨k + 1,by omega,by go_num,by rw [HS.out,List.all_append,HALL.out,List.all_cons,HFI.out];rfl,?_,hb01.trans hb2⟩
     rw [HS.out,crcm.flat_snoc,Lib.byteCells_append];exact hB2
    case measure=>simp [Go.RowKit.intOf];omega
  ·obtain rfl:k=n:=by omega
   have hall:=HALL.out;have hB:=HB.out;rw [HTK.out] at hall hB
   have hres:wl.bytes ls=(crcm.flat ls,0):=by unfold wl.bytes;rw [if_pos hall]
   have HR:=Uq hres;have hstr:=YR _ _ _ _ hB hws;clear hall hres hB;go_wp2_with fail;refine hstr.mono ?_;rintro e w1 ⟨rfl,hb1⟩;go_wp2_with fail
   go_ret2
   rw [HR.out];exact ⟨rfl,hbw.trans hb1⟩
namespace wl
def told (l:L) (e many:Nat):L:=if e=0 then { l with many:=many } else if e=2 then l else { l with off:=true }
def change (d:vd.Disk) (l:L) (ls:List (List UInt8)) (many:Nat) (op:List UInt8→Op1):vd.Disk × L × Nat:=
 if l.off then (d,l,6) else if (bytes ls).2 ≠ 0 then (d,l,(bytes ls).2)
 else ((op (bytes ls).1 d).1,told l (op (bytes ls).1 d).2 many,(op (bytes ls).1 d).2)
end wl
theorem yY {w:World} {p b g:Nat} {d:vd.Disk} {l:wl.L} (v:Value) (ls:List (List UInt8)) (many:Nat) (op:List UInt8→wl.Op1) (F:Nat) (first caps:Array Value)
  (hg:Lg w g p l) (hd:Dk w p b d) (hv:Strs w v ls) (hf:(crcm.flat ls).length≤1000000000) (hl:ls.length≤1000000000) (ht:TabAt w)
  (eg:∀ args w,(callFunc F args).run Tryz.prog w=.ok (.enter F args) w)
  (hop:∀ s,s.length≤1000000000→∀ w1,Dk w1 p b d→Lg w1 g p l→Apart [] w w1→Calls Tryz.prog F (first ++ #[.string (crcm.mk s)] ++ caps) w1 (λe w2=>e=.returned (.int .i64 ((op s d).2:Nat))∧Dk w2 p b (op s d).1∧Apart [p,b] w1 w2)) :
  Calls Tryz.prog 201 #[.pointer (some ⟨g,0,none⟩),v,.int .i64 (many:Int),.func (.func F) first caps] w (λe w'=>e=.returned (.int .i64 ((wl.change d l ls many op).2.2:Nat))∧Dk w' p b (wl.change d l ls many op).1∧Lg w' g p (wl.change d l ls many op).2.1∧Apart [p,b,g] w w'):=by
 have hgo:g ∉ [p,b]:=qW hg hd
 have hpg:p ≠ g:=λe=>hgo (by simp [e])
 have hbg:b ≠ g:=λe=>hgo (by simp [e])
 have hby:=xY v ls w hv hf hl ht
 have hfl:(wl.bytes ls).2=0→(wl.bytes ls).1.length≤1000000000:=by
  unfold wl.bytes
  split
  ·intro _;exact hf
  ·intro h;cases h
 obtain ⟨B,hB⟩:∃ B,wl.bytes ls=B:=⟨_,rfl⟩;rw [hB] at hby hfl;obtain ⟨s,e0⟩:=B
 have hres:wl.change d l ls many op=if l.off then (d,l,6) else if e0 ≠ 0 then (d,l,e0) else ((op s d).1,wl.told l (op s d).2 many,(op s d).2):=by
  unfold wl.change;rw [hB]
 have HR:=Uq hres;have HFL:=Uq hfl;have HOP:=Uq hop;have HG:=Uq hg;have HD:=Uq hd;have hgl:=hg.lt;have q3:=hg.cell 3 _ rfl
 have hdk:∀ w',Below w.heap.size w w'→Dk w' p b d∧Lg w' g p l:=λw' h=>⟨⟨(h.block _ hd.blk.lt).trans hd.blk,hd.map.below h⟩,(h.block _ hgl).trans hg⟩
 have HK:=Uq hdk;clear hres hB hfl hop hg hd hv hf hl ht hdk
 go_enter Tryz.func201,Tryz.ntmps201
 obtain ⟨o,ho⟩:∃ o,l.off=o:=⟨_,rfl⟩;rw [ho] at q3;have HO:=Uq ho;clear ho
 cases o with
 | true=>
  go_wp2_with fail;go_ret;rw [HR.out,HO.out];exact ⟨rfl,HD.out,HG.out,.refl _ _⟩
 | false=>
  by_cases h0:e0=0
  ·subst h0;go_wp2_with fail;refine hby.mono ?_;rintro e w1 ⟨rfl,hb1⟩;obtain ⟨hd1,hg1⟩:=HK.out w1 hb1
   have hcall:=HOP.out s (HFL.out (by first | rfl | trivial)) w1 hd1 hg1 (.of_below hb1 _)
   obtain ⟨D2,hD2⟩:∃ D2,(op s d).1=D2:=⟨_,rfl⟩;obtain ⟨e2,he2⟩:∃ e2,(op s d).2=e2:=⟨_,rfl⟩;rw [hD2,he2] at hcall
   have hres2:wl.change d l ls many op=(D2,wl.told l e2 many,e2):=by rw [HR.out,HO.out,← hD2,← he2];rfl
   have HR2:=Uq hres2;have HG1:=Uq hg1;clear hres2 hD2 he2 hd1 hg1;go_wp2_with fail;refine hcall.mono ?_;rintro e w2 ⟨rfl,hd2,hA2⟩;have hg2:=HG1.out.apart hA2 hgo;have r2:=hg2.cell 2 _ rfl;have r3:=hg2.cell 3 _ rfl;have z2:=hg2.free 2;have z3:=hg2.free 3
   have hA02:Apart [p,b,g] w w2:=(Apart.of_below hb1 _).trans (hA2.mono (by simp))
   have HD2:=Uq hd2;have HG2:=Uq hg2;clear hd2 hg2 hcall
   by_cases h1:e2=0
   ·subst h1;go_wp2_with fail;go_ret;rw [HR2.out];have hA3:=Apart.setCell w2 g 2 (.int .i64 (many:Int))
    exact ⟨rfl,HD2.out.apart hA3 (by simpa using hpg) (by simpa using hbg),HG2.out.set 2 _,hA02.trans (hA3.mono (by simp))⟩
   ·have h1i:¬ (e2:Int)=0:=by omega
    by_cases h2:e2=2
    ·subst h2;go_wp2_with fail;go_ret;rw [HR2.out];exact ⟨rfl,HD2.out,HG2.out,hA02⟩
    ·have h2i:¬ (e2:Int)=2:=by omega
     go_wp2_with fail;go_ret;rw [HR2.out];have hA3:=Apart.setCell w2 g 3 (.bool true)
     refine ⟨rfl,HD2.out.apart hA3 (by simpa using hpg) (by simpa using hbg),?_,hA02.trans (hA3.mono (by simp))⟩
     show Lg _ g p (wl.told l e2 many)
     unfold wl.told;rw [if_neg h1,if_neg h2];exact HG2.out.set 3 _
  ·have h0i:¬ (e0:Int)=0:=by omega
   go_wp2_with fail;refine hby.mono ?_;rintro e w1 ⟨rfl,hb1⟩;obtain ⟨hd1,hg1⟩:=HK.out w1 hb1;go_wp2_with fail;go_ret
   rw [HR.out,HO.out,if_neg (by simp),if_pos h0]
   exact ⟨rfl,hd1,hg1,.of_below hb1 _⟩
end Go.Proofs.YtppibhieabideaaGreatDoor
