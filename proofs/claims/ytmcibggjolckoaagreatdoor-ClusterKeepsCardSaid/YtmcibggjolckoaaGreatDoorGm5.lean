/- StrB, CrcMore, CrcPut, CrcGet, CrcRef, CrcAll, CrcCutMath, WlBytes, WlChange, WlLog, CrcPairs: one behind the other. -/
import Derived.Shelf.Strings.Builder1
import Derived.WalkKit
import Derived.Test.YtmcibggjolckoaaGreatDoorGm3
import Derived.Test.YtmcibggjolckoaaGreatDoorProg
import Derived.Test.YtmcibggjolckoaaGreatDoorGm1
import Derived.WalkLawsBesides
import Derived.WalkSpells
import Derived.Lib.ConvBytes
import Derived.Lib.Hide
import Derived.BigQuiet
import Derived.Deep.QuietTactic
import Derived.Deep.RegionWith
import Derived.WalkSmall
import Derived.Lib.Strings
import Derived.Test.YtmcibggjolckoaaGreatDoorGm2
import Derived.Test.YtmcibggjolckoaaGreatDoorGm4
namespace Go.Proofs.YtmcibggjolckoaaGreatDoor
open Go Go.RowKit Go.Lib Go.Shelf
set_option maxRecDepth 100000
def bren:Go.Shelf.Ren:=⟨fun | 169=>123 | n=>n,fun | 70=>164 | 9=>9 | 0=>0 | 72=>166 | 37=>146 | 127=>176 | 3=>3 | 5=>5 | n=>n,fun | n=>n⟩
theorem blays:Go.Proofs.Lays.n169 Tryz.prog bren:={
 mixed:=by kernel_rfl
 f169:=Tryz.func123.trans (congrArg some (by kernel_rfl))
 t0:=Tryz.underlying0
 a0:=Tryz.isAgg0
 z0:=Tryz.sizeOf0
 v0:=Tryz.zeroValue0
 t3:=Tryz.underlying3
 a3:=Tryz.isAgg3
 z3:=Tryz.sizeOf3
 v3:=Tryz.zeroValue3
 t9:=Tryz.underlying9
 a9:=Tryz.isAgg9
 z9:=Tryz.sizeOf9
 v9:=Tryz.zeroValue9
 t37:=Tryz.underlying146
 a37:=Tryz.isAgg146
 z37:=Tryz.sizeOf146
 v37:=Tryz.zeroValue146
 t70:=Tryz.underlying164
 a70:=Tryz.isAgg164
 z70:=Tryz.sizeOf164
 v70:=Tryz.zeroValue164
 t72:=Tryz.underlying166
 a72:=Tryz.isAgg166
 z72:=Tryz.sizeOf166
 v72:=Tryz.zeroValue166
 t127:=Tryz.underlying176
 a127:=Tryz.isAgg176
 z127:=Tryz.sizeOf176
 v127:=Tryz.zeroValue176 }
theorem bextra:Builder.Extra Tryz.prog bren:={
 sizeBuilder:=by kernel_rfl
 liesBuilder:=by kernel_rfl
 t5:=Tryz.underlying5
 a5:=Tryz.isAgg5
 z5:=Tryz.sizeOf5
 v5:=Tryz.zeroValue5
 infoByte:=by kernel_rfl
 cellsByte:=by kernel_rfl
 sizeByte:=by kernel_rfl
 neB5:=by decide }
abbrev Bld (B b:Nat) (bs:List Value) (w:World):Prop:=Lib.IsBuilder 166 5 B b bs w
theorem bld_string (B b:Nat) (l:List UInt8) (w:World) (h:Bld B b (Lib.byteCells l) w) (hBw:B≤w.heap.size) :
  Calls Tryz.prog 123 #[.pointer (some ⟨b,0,none⟩)] w fun e w'=>e=.returned (.string ⟨l.toArray⟩)∧Below B w w':=Any.Builder_String_any blays bextra B b l w h hBw
theorem bld_check (B b:Nat) (bs:List Value) (w:World) (h:Bld B b bs w) :
  Calls Tryz.prog 126 #[.pointer (some ⟨b,0,none⟩)] w fun e w'=>e=.returned (.tuple #[])∧(Lib.BuilderAt 166 5 B b (.pointer (some ⟨b,0,none⟩)) bs w'∧Below B w w'):=by
 obtain ⟨j,hj,hjs⟩:=Option.map_eq_some_iff.1 bextra.sizeBuilder
 rcases h with h | h
 ·have h0:=h.cell0
  have hsh:=h.shape
  have hfz:=h.frozen0
  have h1:=Lib.run_to_unsafe w ⟨b,0,none⟩ Tryz.underlying164 Tryz.underlying178 hj (by rw [hjs];decide) hsh (Nat.zero_lt_succ 1)
  have h2:=Lib.run_from_unsafe w ⟨b,0,none⟩ Tryz.underlying178 Tryz.underlying164 hj hsh bextra.liesBuilder
  have h3:=run_callFunc_extern Tryz.func127 (by kernel_rfl) (by kernel_rfl) (by kernel_rfl) (e:=Extern.AbiNoEscape.same) (by kernel_rfl) #[.pointer (some ⟨b,0,none⟩)] w
  rw [Lib.run_noEscape] at h3
  simp only [Result.andThen] at h3
  go_enter Tryz.func126,Tryz.ntmps126
  go_wp2
  go_end0
  exact ⟨rfl,h.used _,(Below.refl B w).setCell (p:=⟨b,0,none⟩) h.1 _⟩
 ·have h0:=h.cell0
  have h1:=Lib.run_neq_ptr_same w ⟨b,0,none⟩ Tryz.underlying164 hj
  go_enter Tryz.func126,Tryz.ntmps126
  go_wp2
  go_end0
  exact ⟨rfl,h,Below.refl B _⟩
set_option maxHeartbeats 4000000 in
theorem bld_write (B b:Nat) (bs:List Value) (s:ByteArray) (w:World) (h:Bld B b bs w) (hlen:bs.length + s.size≤140737488355328) (hBw:B≤w.heap.size) :
  Calls Tryz.prog 122 #[.pointer (some ⟨b,0,none⟩),.string s] w fun e w'=>(∃ v,e=.returned v)∧(Bld B b (bs ++ Lib.strCells s) w'∧Below B w w'):=by
 obtain ⟨i0,hi,hz0,hz1,hz2⟩:=info_parts bextra.infoByte
 go_enter Tryz.func122,Tryz.ntmps122
 go_wp2_with fail
 refine (bld_check B b bs _ h).mono ?_
 rintro e w1 ⟨rfl,h1,hb1⟩
 obtain ⟨hB,v,hbk,hown,hne⟩:=h1
 have c0:w1.cell? ⟨b,0,none⟩=some (.pointer (some ⟨b,0,none⟩)):=by rw [Lib.cell_of_heap hbk];rfl
 have c1:w1.cell? ⟨b,1,none⟩=some v:=by rw [Lib.cell_of_heap hbk];rfl
 go_wp2_with (at_builtin;refine Lib.wpList_append_own_string _ rfl _ _ 146 9 rfl B 5 i0 Tryz.underlying146 Tryz.underlying9 hi hz0 hz1 hz2 _ _ _ rfl hown s rfl ?c3 ?c4 ?c5 ?_)
 case c3=>unfold maxLen;omega
 case c4=>omega
 case c5=>have:=hb1.size;omega
 intro v' w2 hown' hgrow _
 have hlt:b < w1.heap.size:=by
  rcases Nat.lt_or_ge b w1.heap.size with h' | h'
  ·exact h'
  ·simp [Array.getElem?_eq_none h'] at hbk
 have hb2:w2.heap[b]?=some (.cells #[.pointer (some ⟨b,0,none⟩),v] 166 (0,0)):=by
  rw [hgrow.block b hlt (fun e=>hne e.symm)]
  exact hbk
 have d0:w2.cell? ⟨b,0,none⟩=some (.pointer (some ⟨b,0,none⟩)):=by rw [Lib.cell_of_heap hb2];rfl
 have d1:w2.cell? ⟨b,1,none⟩=some v:=by rw [Lib.cell_of_heap hb2];rfl
 have f1:w2.frozen? ⟨b,1,none⟩=false:=Lib.frozen_of_heap hb2 1
 obtain ⟨ao,n',cap,rfl⟩:∃ ao n' cap,v'=.slice ao n' cap:=by
  rcases hown'.2 with ⟨hv,_⟩ | ⟨g,cap,cur,hv,_⟩
  ·exact ⟨_,_,_,hv⟩
  ·exact ⟨_,_,_,hv⟩
 go_wp2
 go_ret2
 refine ⟨⟨_,rfl⟩,?_,?_⟩
 ·exact .inr (Lib.BuilderAt.put (T:=166) (e:=5) hB hb2 (bs':=bs ++ Lib.strCells s) (by simpa [Lib.strCells_length] using hown') (by decide))
 ·exact (hb1.grown hgrow (by have:=hb1.size;omega) (fun k hk=>(hown.lt k hk).1)).setCell (p:=⟨b,1,none⟩) hB _
end Go.Proofs.YtmcibggjolckoaaGreatDoor
namespace Go.Proofs.YtmcibggjolckoaaGreatDoor
open Go Go.RowKit
set_option maxRecDepth 100000
def TabAt (w:World):Prop:=0 < w.heap.size∧∀ i,i < 16→w.cell? ⟨0,i,none⟩=some (.int .u32 ((crcm.tab.getD i 0:Nat):Int))
theorem TabAt.below {w w':World} {B:Nat} (h:TabAt w) (hb:Below B w w') (hB:0 < B):TabAt w':=
 ⟨by have:=hb.size;have:=h.1;omega,fun i hi=>(hb.cell (p:=⟨0,i,none⟩) hB).trans (h.2 i hi)⟩
theorem below_bytesWorld (w:World) (e:TypeId) (s:ByteArray):Below w.heap.size w (Lib.bytesWorld w e s):=
 ⟨rfl,rfl,rfl,by rw [Lib.bytesWorld_size];omega,fun k hk=>Lib.bytesWorld_at_old w e s k hk⟩
theorem u32_flip (n:Nat) (h:n < 4294967296):bits .xor .u32 IntKind.u32.max (n:Int)=((4294967295 - n:Nat):Int):=by
 rw [show IntKind.u32.max=((4294967295:Nat):Int) from rfl,u32_xor_nat _ _ (by decide) h]
 congr 1
 apply Nat.eq_of_testBit_eq
 intro i
 have h32:(4294967295:Nat)=2 ^ 32 - 1:=by decide
 rw [Nat.testBit_xor,h32,Nat.testBit_two_pow_sub_one,show 2 ^ 32 - 1 - n=2 ^ 32 - (n + 1) from by omega,Nat.testBit_two_pow_sub_succ (by omega)]
 by_cases hi:i < 32
 ·simp [hi]
 ·have:n.testBit i=false:=Nat.testBit_lt_two_pow (Nat.lt_of_lt_of_le h (by rw [show (4294967296:Nat)=2 ^ 32 from rfl];exact Nat.pow_le_pow_right (by decide) (by omega)))
  simp [hi,this]
theorem u32_mask (n:Nat) (h:n < 4294967296):bits .and .u32 (n:Int) 15=((n % 16:Nat):Int):=by
 rw [show (15:Int)=((15:Nat):Int) from rfl,u32_and_nat _ _ h (by decide),nat_mask4]
theorem u32_xor_div (x t:Nat) (hx:x < 4294967296) (ht:t < 4294967296):bits .xor .u32 ((x:Int) / 16) (t:Int)=((x / 16 ^^^ t:Nat):Int):=by
 rw [show (x:Int) / 16=((x / 16:Nat):Int) from by omega,u32_xor_nat _ _ (by omega) ht]
theorem take_snoc8 (l:List UInt8) (k:Nat) (h:k < l.length):l.take (k + 1)=l.take k ++ [l.getD k 0]:=by
 rw [List.take_succ_eq_append_getElem h]
 simp [List.getD,h]
theorem tab_lt (i:Nat):crcm.tab.getD i 0 < 4294967296:=by
 have hall:∀ x ∈ crcm.tab,x < 4294967296:=by decide
 rw [List.getD_eq_getElem?_getD]
 cases h:crcm.tab[i]? with
 | none=>simp
 | some x=>exact hall x (List.mem_of_getElem? h)
theorem ret_of {a b:Value} (h:a=b):Ending.returned a=Ending.returned b:=by rw [h]
set_option maxHeartbeats 1000000 in
theorem more_any (n:Nat) (s:ByteArray) (w:World) (hn:n < 4294967296) (hs:s.size≤maxLen) (ht:TabAt w) :
  Calls Tryz.prog 124 #[.int .u32 (n:Int),.string s] w fun e w'=>e=.returned (.int .u32 (crcm.more n s.data.toList:Nat))∧Below w.heap.size w w':=by
 unfold maxLen at hs
 have hconv:=Lib.run_convert_string_bytes (P:=Tryz.prog) w 9 146 5 s Tryz.underlying9 Tryz.underlying146 Tryz.underlying5
 have hcell:=fun k hk=>Lib.bytesWorld_cell w 5 s k hk
 have ht1:=ht.below (below_bytesWorld w 5 s) ht.1
 have hb:=below_bytesWorld w 5 s
 have hflip:=u32_flip n hn
 obtain ⟨m,hm⟩:∃ m,4294967295 - n=m:=⟨_,rfl⟩
 have hm4:m < 4294967296:=by omega
 rw [hm] at hflip
 have Hm:=Lib.hid hm
 clear hm
 obtain ⟨w1,hw1⟩:∃ w1,Lib.bytesWorld w 5 s=w1:=⟨_,rfl⟩
 rw [hw1] at hconv hcell ht1 hb
 clear hw1
 have hlen:s.data.toList.length=s.size:=by rw [Array.length_toList];rfl
 have Hlen:=Lib.hid hlen
 clear hlen
 go_enter Tryz.func124,Tryz.ntmps124
 go_wp2
 go_loop [5,7,13] (fun x _ i=>∃ k L:Nat,k≤s.size∧i=.int .i64 k∧x=.int .u32 (L:Int)∧L < 4294967296∧L=crcm.loop m (s.data.toList.take k)) (fun _ _ i=>s.size - (intOf i).toNat)
 case atStart=>exact ⟨0,m,Nat.zero_le _,rfl,rfl,hm4,rfl⟩
 case round=>
  obtain ⟨k,L,hk,rfl,rfl,hL,hLe⟩:=hrel
  have HL:=Lib.hid hLe
  clear hLe
  by_cases hlt:k < s.size
  ·have hc:=hcell k hlt
   have hsnoc:=take_snoc8 s.data.toList k (by rw [Hlen.out];exact hlt)
   obtain ⟨b,hb8⟩:∃ b:UInt8,s.data.toList.getD k 0=b:=⟨_,rfl⟩
   rw [hb8] at hc hsnoc
   clear hcell hb8
   have hbt:b.toNat < 256:=b.toNat_lt
   have hmod:(b.toNat:Int) % 4294967296=b.toNat:=by omega
   have e1:=u32_xor_nat L b.toNat hL (by omega)
   have hx1:=crcm.xor_lt hL (crcm.u8_lt b)
   obtain ⟨x1,hx1e⟩:∃ x,L ^^^ b.toNat=x:=⟨_,rfl⟩
   rw [hx1e] at e1 hx1
   have e2:=u32_mask x1 hx1
   have c1:=ht1.2 (x1 % 16) (by omega)
   have e3:=u32_xor_div x1 (crcm.tab.getD (x1 % 16) 0) hx1 (tab_lt _)
   have hx2:x1 / 16 ^^^ crcm.tab.getD (x1 % 16) 0 < 4294967296:=crcm.xor_lt (by omega) (tab_lt _)
   obtain ⟨t1,ht1e⟩:∃ t,crcm.tab.getD (x1 % 16) 0=t:=⟨_,rfl⟩
   obtain ⟨i1,hi1e⟩:∃ i,x1 % 16=i:=⟨_,rfl⟩
   have hi1:i1 < 16:=by omega
   rw [ht1e] at e3 hx2 c1
   rw [hi1e] at e2 c1
   obtain ⟨x2,hx2e⟩:∃ x,x1 / 16 ^^^ t1=x:=⟨_,rfl⟩
   rw [hx2e] at e3 hx2
   have e4:=u32_mask x2 hx2
   have c2:=ht1.2 (x2 % 16) (by omega)
   have e5:=u32_xor_div x2 (crcm.tab.getD (x2 % 16) 0) hx2 (tab_lt _)
   have hx3:x2 / 16 ^^^ crcm.tab.getD (x2 % 16) 0 < 4294967296:=crcm.xor_lt (by omega) (tab_lt _)
   obtain ⟨t2,ht2e⟩:∃ t,crcm.tab.getD (x2 % 16) 0=t:=⟨_,rfl⟩
   obtain ⟨i2,hi2e⟩:∃ i,x2 % 16=i:=⟨_,rfl⟩
   have hi2:i2 < 16:=by omega
   rw [ht2e] at e5 hx3 c2
   rw [hi2e] at e4 c2
   obtain ⟨x3,hx3e⟩:∃ x,x2 / 16 ^^^ t2=x:=⟨_,rfl⟩
   rw [hx3e] at e5 hx3
   have H:Hid (x3=crcm.loop m (s.data.toList.take (k + 1))):=by
    show x3=_
    rw [hsnoc,crcm.loop_snoc,← HL.out,crcm.byte1_nib,hx1e]
    unfold crcm.nib
    rw [ht1e,hx2e,ht2e,hx3e]
   clear hsnoc hx1e ht1e hi1e hx2e ht2e hi2e hx3e
   go_wp2
   go_round
   case rel=>exact ⟨k + 1,x3,by omega,by go_num,rfl,hx3,H.out⟩
   case measure=>simp [intOf];omega
  ·have hflip2:=u32_flip L hL
   clear hcell
   have hfin:(.int .u32 ((4294967295 - L:Nat):Int))=Value.int .u32 (crcm.more n s.data.toList:Nat):=by
    rw [HL.out,List.take_of_length_le (by rw [Hlen.out];omega),← Hm.out];rfl
   obtain ⟨r,hr⟩:∃ r,4294967295 - L=r:=⟨_,rfl⟩
   rw [hr] at hflip2 hfin
   have Hfin:=Lib.hid hfin
   clear hfin hr
   go_wp2
   go_ret
   exact ⟨ret_of Hfin.out,hb⟩
end Go.Proofs.YtmcibggjolckoaaGreatDoor
namespace Go.Proofs.YtmcibggjolckoaaGreatDoor
open Go Go.RowKit
set_option maxRecDepth 100000
theorem u8_int (x:Int) (h0:0≤x) (h1:x < 256):((crcm.u8 x.toNat).toNat:Int)=x:=by
 rw [crcm.u8_val (by omega)];omega
theorem run_str2 {P:Program} (src dst e:TypeId) (hs:P.underlying src=some (.slice e)) (he:P.underlying e=some (.int .u8)) (hd:P.underlying dst=some .string)
  (x y:Int) (hx:0≤x∧x < 256) (hy:0≤y∧y < 256) (w:World) :
  (convert src dst (.slice (some ⟨w.heap.size,0,none⟩) 2 2)).run P (w.alloc (.cells #[.int .u8 x,.int .u8 y] e))=.ok (.string (crcm.mk [crcm.u8 x.toNat,crcm.u8 y.toNat])) (w.alloc (.cells #[.int .u8 x,.int .u8 y] e)):=by
 refine run_convert_bytes_back _ src dst e ⟨w.heap.size,0,none⟩ 2 [crcm.u8 x.toNat,crcm.u8 y.toNat] hs he hd ?_
 intro j hj
 match j,hj with
 | 0,_=>simp [Addr.add,u8_int x hx.1 hx.2]
 | 1,_=>simp [Addr.add,u8_int y hy.1 hy.2]
theorem run_str4 {P:Program} (src dst e:TypeId) (hs:P.underlying src=some (.slice e)) (he:P.underlying e=some (.int .u8)) (hd:P.underlying dst=some .string)
  (x y z t:Int) (hx:0≤x∧x < 256) (hy:0≤y∧y < 256) (hz:0≤z∧z < 256) (ht:0≤t∧t < 256) (w:World) :
  (convert src dst (.slice (some ⟨w.heap.size,0,none⟩) 4 4)).run P (w.alloc (.cells #[.int .u8 x,.int .u8 y,.int .u8 z,.int .u8 t] e)) =
   .ok (.string (crcm.mk [crcm.u8 x.toNat,crcm.u8 y.toNat,crcm.u8 z.toNat,crcm.u8 t.toNat])) (w.alloc (.cells #[.int .u8 x,.int .u8 y,.int .u8 z,.int .u8 t] e)):=by
 refine run_convert_bytes_back _ src dst e ⟨w.heap.size,0,none⟩ 4 [crcm.u8 x.toNat,crcm.u8 y.toNat,crcm.u8 z.toNat,crcm.u8 t.toNat] hs he hd ?_
 intro j hj
 match j,hj with
 | 0,_=>simp [Addr.add,u8_int x hx.1 hx.2]
 | 1,_=>simp [Addr.add,u8_int y hy.1 hy.2]
 | 2,_=>simp [Addr.add,u8_int z hz.1 hz.2]
 | 3,_=>simp [Addr.add,u8_int t ht.1 ht.2]
theorem sum_any (s:ByteArray) (w:World) (hs:s.size≤maxLen) (ht:TabAt w) :
  Calls Tryz.prog 125 #[.string s] w fun e w'=>e=.returned (.int .u32 (crcm.sum s.data.toList:Nat))∧Below w.heap.size w w':=by
 go_enter Tryz.func125,Tryz.ntmps125
 go_wp2_with (go_at_call 124;refine (more_any 0 s _ (by decide) hs ht).mono ?_;rintro e w' ⟨rfl,hb⟩)
 go_ret
 exact ⟨rfl,hb⟩
theorem le2_mk (n:Nat):crcm.mk [crcm.u8 ((n:Int) % 256).toNat,crcm.u8 ((n:Int) / 256).toNat]=crcm.mk (crcm.le2 n):=by
 unfold crcm.le2
 rw [show ((n:Int) % 256).toNat=n % 256 from by omega,show ((n:Int) / 256).toNat=n / 256 from by omega]
theorem four_mk (n:Nat):crcm.mk [crcm.u8 ((n:Int) % 256).toNat,crcm.u8 ((n:Int) / 256 % 256).toNat,crcm.u8 ((n:Int) / 65536 % 256).toNat,crcm.u8 ((n:Int) / 16777216).toNat]=crcm.mk (crcm.fourB n):=by
 unfold crcm.fourB
 rw [show ((n:Int) % 256).toNat=n % 256 from by omega,show ((n:Int) / 256 % 256).toNat=n / 256 % 256 from by omega,show ((n:Int) / 65536 % 256).toNat=n / 65536 % 256 from by omega,show ((n:Int) / 16777216).toNat=n / 16777216 from by omega]
set_option maxHeartbeats 1000000 in
theorem put_fits (s:ByteArray) (w:World) (hs:s.size≤65535) (ht:TabAt w) :
  Calls Tryz.prog 121 #[.string s] w fun e w'=>e=.returned (.tuple #[.string (crcm.mk (crcm.put s.data.toList).1),.int .i64 ((crcm.put s.data.toList).2:Nat)])∧Below w.heap.size w w':=by
 have h2:=fun w=>run_str2 (P:=Tryz.prog) 146 9 5 Tryz.underlying146 Tryz.underlying5 Tryz.underlying9 ((s.size:Int) % 256) ((s.size:Int) / 256) (by omega) (by omega) w
 rw [le2_mk] at h2
 have hb1:∀ o,Below w.heap.size w (w.alloc o):=fun o=>(Below.refl _ w).alloc (Nat.le_refl _) o
 have ht1:∀ o,TabAt (w.alloc o):=fun o=>ht.below (hb1 o) ht.1
 go_enter Tryz.func121,Tryz.ntmps121
 go_wp2_with fail
 refine (sum_any _ _ (by rw [crcm.mk_size,crcm.le2_len];unfold maxLen;omega) (ht1 _)).mono ?_
 rintro e w1 ⟨rfl,hb2⟩
 rw [crcm.mk_toList]
 have ht2:=(ht1 _).below hb2 (Nat.lt_of_lt_of_le ht.1 (hb1 _).size)
 obtain ⟨x,hx⟩:∃ x,crcm.sum (crcm.le2 s.size)=x:=⟨_,rfl⟩
 have hxl:x < 4294967296:=by rw [← hx];exact crcm.more_lt _ _
 rw [hx]
 have Hx:=Lib.hid hx
 clear hx
 go_wp2_with fail
 refine (more_any x s w1 hxl (by unfold maxLen;omega) ht2).mono ?_
 rintro e w2 ⟨rfl,hb3⟩
 obtain ⟨y,hy⟩:∃ y,crcm.more x s.data.toList=y:=⟨_,rfl⟩
 have hyl:y < 4294967296:=by rw [← hy];exact crcm.more_lt _ _
 rw [hy]
 have Hy:=Lib.hid hy
 clear hy
 have h4:=fun w=>run_str4 (P:=Tryz.prog) 146 9 5 Tryz.underlying146 Tryz.underlying5 Tryz.underlying9 ((y:Int) % 256) ((y:Int) / 256 % 256) ((y:Int) / 65536 % 256) ((y:Int) / 16777216) (by omega) (by omega) (by omega) (by omega) w
 rw [four_mk] at h4
 have z2:(crcm.mk (crcm.le2 s.size)).size≤100:=by rw [crcm.mk_size,crcm.le2_len];omega
 have z4:(crcm.mk (crcm.fourB y)).size≤100:=by rw [crcm.mk_size,crcm.fourB_len];omega
 go_wp2_with fail
 go_ret2
 have hl:=crcm.size_len s
 have hfin:crcm.put s.data.toList=(crcm.le2 s.size ++ crcm.fourB y ++ s.data.toList,0):=by
  unfold crcm.put crcm.body
  rw [if_neg (by omega),hl,← Hy.out,← Hx.out,crcm.more_sum]
 rw [hfin]
 refine ⟨?_,?_⟩
 ·conv=>lhs;rw [← crcm.mk_of s]
  rw [crcm.mk_append,crcm.mk_append,crcm.mk_size,hl]
  rfl
 ·exact ((((hb1 _).trans (hb2.mono (by simp))).trans (hb3.mono (by have:=hb2.size;simp at this;omega))).alloc (by have:=hb2.size;have:=hb3.size;simp at *;omega) _)
theorem put_wide (s:ByteArray) (w:World) (hs:65535 < s.size) (hs2:s.size≤maxLen) :
  Calls Tryz.prog 121 #[.string s] w fun e w'=>e=.returned (.tuple #[.string (crcm.mk (crcm.put s.data.toList).1),.int .i64 ((crcm.put s.data.toList).2:Nat)])∧Below w.heap.size w w':=by
 have hl:=crcm.size_len s
 have hfin:crcm.put s.data.toList=([],71):=by
  unfold crcm.put
  rw [if_pos (by omega)]
 rw [hfin]
 clear hfin hl
 unfold maxLen at hs2
 go_enter Tryz.func121,Tryz.ntmps121
 go_wp2_with fail
 go_ret2
 exact ⟨rfl,Below.refl _ _⟩
theorem put_any (s:ByteArray) (w:World) (hs:s.size≤maxLen) (ht:TabAt w) :
  Calls Tryz.prog 121 #[.string s] w fun e w'=>e=.returned (.tuple #[.string (crcm.mk (crcm.put s.data.toList).1),.int .i64 ((crcm.put s.data.toList).2:Nat)])∧Below w.heap.size w w':=by
 by_cases h:s.size≤65535
 ·exact put_fits s w h ht
 ·exact put_wide s w (by omega) hs
end Go.Proofs.YtmcibggjolckoaaGreatDoor
namespace Go.Proofs.YtmcibggjolckoaaGreatDoor
open Go Go.RowKit
set_option maxRecDepth 100000
theorem byte_at (s:ByteArray) (k:Nat) (h:k < s.size):s[k]=s.data.toList.getD k 0:=by
 rw [List.getD_eq_getElem?_getD,List.getElem?_eq_getElem (by rw [crcm.size_len];exact h)];rfl
theorem not_empty (s:ByteArray) (h:0 < s.size):s.toList.isEmpty=false:=by
 rw [ByteArray.toList_eq]
 have:=crcm.size_len s
 cases hl:s.data.toList with
 | nil=>rw [hl] at this;simp at this;omega
 | cons a b=>rfl
theorem u32_or_join (i a b:Nat) (ha:a < 2 ^ i) (hb:b % 2 ^ i=0) (ha4:a < 4294967296) (hb4:b < 4294967296):bits .or .u32 (a:Int) (b:Int)=((a + b:Nat):Int):=by
 rw [u32_or_nat a b ha4 hb4,Nat.or_comm,nat_join i b a hb ha,Nat.add_comm]
theorem or8 (a b:UInt8):bits .or .u32 (a.toNat:Int) ((b.toNat:Int) * 256)=((a.toNat + 256 * b.toNat:Nat):Int):=by
 have:=a.toNat_lt
 have:=b.toNat_lt
 rw [show (b.toNat:Int) * 256=((256 * b.toNat:Nat):Int) from by omega]
 exact u32_or_join 8 _ _ (by omega) (by omega) (by omega) (by omega)
theorem or16 (x:Nat) (hx:x < 65536) (b:UInt8):bits .or .u32 (x:Int) ((b.toNat:Int) * 65536)=((x + 65536 * b.toNat:Nat):Int):=by
 have:=b.toNat_lt
 rw [show (b.toNat:Int) * 65536=((65536 * b.toNat:Nat):Int) from by omega]
 exact u32_or_join 16 _ _ (by omega) (by omega) (by omega) (by omega)
theorem or24 (x:Nat) (hx:x < 16777216) (b:UInt8):bits .or .u32 (x:Int) ((b.toNat:Int) * 16777216)=((x + 16777216 * b.toNat:Nat):Int):=by
 have:=b.toNat_lt
 rw [show (b.toNat:Int) * 16777216=((16777216 * b.toNat:Nat):Int) from by omega]
 exact u32_or_join 24 _ _ (by omega) (by omega) (by omega) (by omega)
theorem tab_of_heap {w W:World} (h:TabAt w) (e:W.heap=w.heap):TabAt W:=
 ⟨by rw [e];exact h.1,fun i hi=>by rw [← h.2 i hi];unfold World.cell?;rw [e]⟩
theorem below_of_heap {w W W':World} {B:Nat} (h:Below B W W') (e1:W.heap=w.heap) (e2:W.os=w.os) (e3:W.tape=w.tape) (e4:W.output=w.output):Below B w W':=
 ⟨h.os.trans e2,h.tape.trans e3,h.output.trans e4,by rw [← e1];exact h.size,fun k hk=>by rw [← e1];exact h.block k hk⟩
theorem tab_after {w W W':World} {B:Nat} (h:TabAt w) (hb:Below B W W') (hB:0 < B) (e:W.heap=w.heap):TabAt W':=(tab_of_heap h e).below hb hB
theorem extract_le (s:ByteArray) (a b:Nat) (h:s.size≤2 ^ 63 - 1):(s.extract a b).size≤maxLen:=by
 unfold maxLen
 have h1:=crcm.size_len (s.extract a b)
 have h2:=crcm.size_len s
 rw [Lib.extract_data,List.length_take,List.length_drop] at h1
 omega
def GetPost (s:ByteArray) (w:World) (e:Ending) (w':World):Prop:=
 e=.returned (.tuple #[.string (crcm.mk (crcm.get s.data.toList).1),.int .i64 ((crcm.get s.data.toList).2.1:Nat),.int .i64 ((crcm.get s.data.toList).2.2:Nat)])∧Below w.heap.size w w'
theorem get_none (s:ByteArray) (w:World) (h:s.size=0):Calls Tryz.prog 111 #[.string s] w (GetPost s w):=by
 have hl:=crcm.size_len s
 have hnil:s.data.toList=[]:=List.eq_nil_of_length_eq_zero (by omega)
 have hfin:crcm.get s.data.toList=([],0,3):=by rw [hnil];rfl
 have hne:s.toList.isEmpty=true:=by rw [ByteArray.toList_eq,hnil];rfl
 have Hfin:=Lib.hid hfin
 have Hh:=Lib.hid h
 clear hl hfin hnil h
 go_enter Tryz.func111,Tryz.ntmps111
 go_wp2_with fail
 go_ret3
 unfold GetPost
 rw [Hfin.out]
 exact ⟨rfl,Below.refl _ _⟩
theorem get_little (s:ByteArray) (w:World) (h:0 < s.size) (h6:s.size < 6):Calls Tryz.prog 111 #[.string s] w (GetPost s w):=by
 have hl:=crcm.size_len s
 have hfin:crcm.get s.data.toList=([],0,10):=by
  unfold crcm.get
  rw [if_neg (by intro e;rw [e] at hl;simp at hl;omega),if_pos (by omega)]
 have hne:=not_empty s h
 have Hfin:=Lib.hid hfin
 clear hl hfin
 go_enter Tryz.func111,Tryz.ntmps111
 go_wp2_with fail
 go_ret3
 unfold GetPost
 rw [Hfin.out]
 exact ⟨rfl,Below.refl _ _⟩
set_option maxHeartbeats 1000000 in
theorem get_cut (s:ByteArray) (w:World) (h6:6≤s.size) (hs:s.size≤maxLen) (hn:s.size < 6 + crcm.said s.data.toList) :
  Calls Tryz.prog 111 #[.string s] w (GetPost s w):=by
 have hl:=crcm.size_len s
 have hfin:crcm.get s.data.toList=([],0,10):=by
  unfold crcm.get
  rw [if_neg (by intro e;rw [e] at hl;simp at hl;omega),if_neg (by omega),if_pos (by omega)]
 have Hfin:=Lib.hid hfin
 clear hl hfin
 unfold maxLen at hs
 have g0:=byte_at s 0 (by omega)
 have g1:=byte_at s 1 (by omega)
 have hne:=not_empty s (by omega)
 unfold crcm.said at hn
 obtain ⟨b0,hb0⟩:∃ b:UInt8,s.data.toList.getD 0 0=b:=⟨_,rfl⟩
 obtain ⟨b1,hb1⟩:∃ b:UInt8,s.data.toList.getD 1 0=b:=⟨_,rfl⟩
 rw [hb0] at g0 hn
 rw [hb1] at g1 hn
 clear hb0 hb1
 have l0:b0.toNat < 256:=b0.toNat_lt
 have l1:b1.toNat < 256:=b1.toNat_lt
 have p1:(1:Int) < (s.size:Int):=by omega
 go_enter Tryz.func111,Tryz.ntmps111
 go_wp2_with fail
 go_quiet (fail)
 go_wp2_with fail
 go_ret3
 unfold GetPost
 rw [Hfin.out]
 exact ⟨rfl,below_drewN (Below.refl _ _) _⟩
set_option maxHeartbeats 2000000 in
theorem get_full (s:ByteArray) (w:World) (h6:6≤s.size) (hs:s.size≤maxLen) (hn:6 + crcm.said s.data.toList≤s.size) (ht:TabAt w) :
  Calls Tryz.prog 111 #[.string s] w (GetPost s w):=by
 have hl:=crcm.size_len s
 have hfin:=crcm.get_six s.data.toList (by omega) (by omega)
 clear hl
 unfold crcm.num4 at hfin
 unfold maxLen at hs
 have g0:=byte_at s 0 (by omega)
 have g1:=byte_at s 1 (by omega)
 have g2:=byte_at s 2 (by omega)
 have g3:=byte_at s 3 (by omega)
 have g4:=byte_at s 4 (by omega)
 have g5:=byte_at s 5 (by omega)
 have hne:=not_empty s (by omega)
 obtain ⟨N,hN⟩:∃ N,crcm.said s.data.toList=N:=⟨_,rfl⟩
 rw [hN] at hfin hn
 unfold crcm.said at hN
 obtain ⟨b0,hb0⟩:∃ b:UInt8,s.data.toList.getD 0 0=b:=⟨_,rfl⟩
 obtain ⟨b1,hb1⟩:∃ b:UInt8,s.data.toList.getD 1 0=b:=⟨_,rfl⟩
 obtain ⟨b2,hb2⟩:∃ b:UInt8,s.data.toList.getD 2 0=b:=⟨_,rfl⟩
 obtain ⟨b3,hb3⟩:∃ b:UInt8,s.data.toList.getD 3 0=b:=⟨_,rfl⟩
 obtain ⟨b4,hb4⟩:∃ b:UInt8,s.data.toList.getD 4 0=b:=⟨_,rfl⟩
 obtain ⟨b5,hb5⟩:∃ b:UInt8,s.data.toList.getD 5 0=b:=⟨_,rfl⟩
 rw [hb0] at g0 hN
 rw [hb1] at g1 hN
 rw [hb2] at g2 hfin
 rw [hb3] at g3 hfin
 rw [hb4] at g4 hfin
 rw [hb5] at g5 hfin
 clear hb0 hb1 hb2 hb3 hb4 hb5
 have l0:b0.toNat < 256:=b0.toNat_lt
 have l1:b1.toNat < 256:=b1.toNat_lt
 have l2:b2.toNat < 256:=b2.toNat_lt
 have l3:b3.toNat < 256:=b3.toNat_lt
 have l4:b4.toNat < 256:=b4.toNat_lt
 have l5:b5.toNat < 256:=b5.toNat_lt
 have p1:(1:Int) < (s.size:Int):=by omega
 have p2:(2:Int) < (s.size:Int):=by omega
 have p3:(3:Int) < (s.size:Int):=by omega
 have p4:(4:Int) < (s.size:Int):=by omega
 have p5:(5:Int) < (s.size:Int):=by omega
 have o1:=or8 b2 b3
 obtain ⟨x1,hx1⟩:∃ x,b2.toNat + 256 * b3.toNat=x:=⟨_,rfl⟩
 have o2:=or16 x1 (by omega) b4
 obtain ⟨x2,hx2⟩:∃ x,x1 + 65536 * b4.toNat=x:=⟨_,rfl⟩
 have o3:=or24 x2 (by omega) b5
 obtain ⟨x3,hx3⟩:∃ x,x2 + 16777216 * b5.toNat=x:=⟨_,rfl⟩
 rw [hx1] at o1
 rw [hx2] at o2
 rw [hx3] at o3
 obtain ⟨en,hen⟩:∃ en,6 + (b0.toNat + 256 * b1.toNat)=en:=⟨_,rfl⟩
 have he:(6:Int) + (b0.toNat:Int) + (b1.toNat:Int) * 256=(en:Int):=by omega
 have he2:en≤s.size:=by omega
 have he3:6≤en:=by omega
 have Hx1:=Lib.hid hx1
 have Hx2:=Lib.hid hx2
 have Hx3:=Lib.hid hx3
 have Hen:=Lib.hid hen
 have hx:b2.toNat + 256 * b3.toNat + 65536 * b4.toNat + 16777216 * b5.toNat=x3:=by omega
 rw [hx] at hfin
 have heN:en - 6=N:=by omega
 have hsum:crcm.more (crcm.sum (s.data.toList.take 2)) ((s.data.toList.drop 6).take (en - 6))=crcm.sum (s.data.toList.take 2 ++ (s.data.toList.drop 6).take N):=by rw [crcm.more_sum,heN]
 rw [← hsum] at hfin
 have hen2:6 + N=en:=by omega
 rw [hen2,← heN] at hfin
 obtain ⟨y,hy⟩:∃ y,crcm.more (crcm.sum (s.data.toList.take 2)) ((s.data.toList.drop 6).take (en - 6))=y:=⟨_,rfl⟩
 rw [hy] at hfin
 have hmk:s.extract 6 en=crcm.mk ((s.data.toList.drop 6).take (en - 6)):=by rw [Lib.extract_eq];rfl
 have Hmk:=Lib.hid hmk
 clear hmk hx1 hx2 hx3 hen hx hsum heN hen2 hN hn Hx1 Hx2 Hx3 Hen
 have hyc:∀ z:Nat,((z:Int) != (x3:Int)) = !decide (z=x3):=fun z=>by
  by_cases h:z=x3
  ·subst h;simp
  ·have:(z:Int) ≠ (x3:Int):=by omega
   simp [h,this]
 have Hyc:=Lib.hid hyc
 clear hyc
 by_cases hyx:y=x3
 ·have hv:((y:Int) != (x3:Int))=false:=by rw [Hyc.out];simp [hyx]
  rw [if_pos hyx] at hfin
  have Hfin:=Lib.hid hfin
  clear hfin hyx Hyc
  go_enter Tryz.func111,Tryz.ntmps111
  go_wp2_with fail
  go_quiet (fail)
  go_wp2_with fail
  go_quiet (fail)
  go_wp2_with fail
  go_region_with (first | (go_at_call 125;refine (sum_any _ _ ?_ ?_).mono ?_;exact extract_le _ _ _ hs;exact tab_of_heap ht rfl;rintro e w2 ⟨rfl,hb2⟩) | (go_at_call 124;refine (more_any _ _ _ ?_ ?_ ?_).mono ?_;exact crcm.more_lt _ _;exact extract_le _ _ _ hs;exact tab_after ht hb2 ht.1 rfl;rintro e w3 ⟨rfl,hb3⟩))
  all_goals (go_wp2_with fail)
  all_goals go_ret3
  all_goals unfold GetPost
  all_goals rw [Hfin.out,Hmk.out]
  all_goals exact ⟨rfl,below_of_heap (hb2.trans (hb3.mono hb2.size)) rfl rfl rfl rfl⟩
 ·have hv:((y:Int) != (x3:Int))=true:=by rw [Hyc.out];simp [hyx]
  rw [if_neg hyx] at hfin
  have Hfin:=Lib.hid hfin
  clear hfin hyx Hyc
  go_enter Tryz.func111,Tryz.ntmps111
  go_wp2_with fail
  go_quiet (fail)
  go_wp2_with fail
  go_quiet (fail)
  go_wp2_with fail
  go_region_with (first | (go_at_call 125;refine (sum_any _ _ ?_ ?_).mono ?_;exact extract_le _ _ _ hs;exact tab_of_heap ht rfl;rintro e w2 ⟨rfl,hb2⟩) | (go_at_call 124;refine (more_any _ _ _ ?_ ?_ ?_).mono ?_;exact crcm.more_lt _ _;exact extract_le _ _ _ hs;exact tab_after ht hb2 ht.1 rfl;rintro e w3 ⟨rfl,hb3⟩))
  all_goals (go_wp2_with fail)
  all_goals go_ret3
  all_goals unfold GetPost
  all_goals rw [Hfin.out]
  all_goals exact ⟨rfl,below_of_heap (hb2.trans (hb3.mono hb2.size)) rfl rfl rfl rfl⟩
theorem get_any (s:ByteArray) (w:World) (hs:s.size≤maxLen) (ht:TabAt w):Calls Tryz.prog 111 #[.string s] w (GetPost s w):=by
 by_cases h0:s.size=0
 ·exact get_none s w h0
 ·by_cases h6:s.size < 6
  ·exact get_little s w (by omega) h6
  ·by_cases hn:6 + crcm.said s.data.toList≤s.size
   ·exact get_full s w (by omega) hs hn ht
   ·exact get_cut s w (by omega) hs (by omega)
end Go.Proofs.YtmcibggjolckoaaGreatDoor
namespace Go.Proofs.YtmcibggjolckoaaGreatDoor
open Go Go.RowKit
set_option maxRecDepth 100000
end Go.Proofs.YtmcibggjolckoaaGreatDoor
namespace Go.Proofs.YtmcibggjolckoaaGreatDoor
open Go Go.RowKit
set_option maxRecDepth 100000
theorem info_string:(Tryz.prog.info? 9).map (fun i=>(i.zero,i.size,i.bytes))=some (some (.string .empty),1,16):=by kernel_rfl
def strV (l:List UInt8):Value:=.string (crcm.mk l)
theorem grown_of_below {a w:World} (h:Below a.heap.size a w) (row:Option Nat):a.grownBy w row:=⟨h.os,h.tape,h.output,h.size,fun i hi _=>h.block i hi⟩
theorem owns_below {a w:World} {base:Nat} {e:TypeId} {size n:Nat} {v:Value} {xs:List Value} (h:a.ownsRow base e size v n xs) (hb:Below a.heap.size a w):w.ownsRow base e size v n xs:=
 h.kept (grown_of_below hb none) (by cases v.ownBlock with | none=>exact .inl rfl | some k=>exact .inr (by simp))
theorem cell_new1 (w:World) (v:Value) (e:TypeId):∀ j u,[v][j]?=some u→(w.alloc (.cells #[v] e)).cell? ((⟨w.heap.size,0,none⟩:Addr).add j)=some u:=by
 intro j u hj
 match j,hj with
 | 0,hj=>simp at hj;subst hj;simp [Addr.add]
theorem strV_one (l:List UInt8):∀ u ∈ [strV l],u.oneCell'=true:=by intro u hu;simp at hu;subst hu;rfl
theorem strs_of_owns {w:World} {base:Nat} {e:TypeId} {v:Value} {n:Nat} {ls:List (List UInt8)} (hn:n=ls.length) (h:w.ownsRow base e 1 v n (ls.map strV)):Strs w v ls:=by
 subst hn
 rcases h.2 with ⟨rfl,h0⟩ | ⟨g,cap,cur,rfl,_⟩
 ·have:ls=[]:=by simpa using h0
  subst this
  exact ⟨none,0,rfl,fun k hk=>by simp at hk⟩
 ·refine ⟨_,cap,rfl,fun k hk=>⟨_,rfl,?_⟩⟩
  have:=h.cells (g:=g) rfl k (strV (ls.getD k []))
  apply this
  rw [List.getElem?_map,List.getElem?_eq_getElem hk,List.getD_eq_getElem?_getD,List.getElem?_eq_getElem hk]
  rfl
end Go.Proofs.YtmcibggjolckoaaGreatDoor
namespace Go.Proofs.YtmcibggjolckoaaGreatDoor.crcm
def flat (ls:List (List UInt8)):List UInt8:=(ls.map body).flatten
theorem flat_cons (t:List UInt8) (ls:List (List UInt8)):flat (t :: ls)=body t ++ flat ls:=by simp [flat]
theorem flat_append (a b:List (List UInt8)):flat (a ++ b)=flat a ++ flat b:=by simp [flat]
theorem flat_snoc (a:List (List UInt8)) (t:List UInt8):flat (a ++ [t])=flat a ++ body t:=by simp [flat]
theorem flat_le (ls:List (List UInt8)) (h:∀ t ∈ ls,t.length≤200):(flat ls).length≤206 * ls.length:=by
 induction ls with
 | nil=>simp [flat]
 | cons t r ih=>
  have h1:=h t (by simp)
  have h2:=ih (fun x hx=>h x (by simp [hx]))
  rw [flat_cons,List.length_append,body_len,List.length_cons]
  omega
theorem allOf_flat (a b:List (List UInt8)) (h:∀ t ∈ a,t.length≤65535) (k:Nat) (hk:(flat a).length≤k) :
  allOf ((flat (a ++ b)).take k)=(a ++ (allOf ((flat b).take (k - (flat a).length))).1,(flat a).length + (allOf ((flat b).take (k - (flat a).length))).2):=by
 induction a generalizing k with
 | nil=>simp [flat]
 | cons t r ih=>
  have ht:=h t (by simp)
  rw [flat_cons,List.length_append,body_len] at hk
  have e1:(flat (t :: r ++ b)).take k=body t ++ (flat (r ++ b)).take (k - (6 + t.length)):=by
   rw [List.cons_append,flat_cons,List.take_append,body_len,List.take_of_length_le (by rw [body_len];omega)]
  have hg:=get_body t ((flat (r ++ b)).take (k - (6 + t.length))) ht
  have h0:(get (body t ++ (flat (r ++ b)).take (k - (6 + t.length)))).2.2=0:=by rw [hg]
  rw [e1,allOf_step h0,hg]
  simp only
  rw [List.drop_left' (body_len t),ih (fun x hx=>h x (by simp [hx])) _ (by omega),flat_cons,List.length_append,body_len]
  rw [show k - (6 + t.length) - (flat r).length=k - (6 + t.length + (flat r).length) from by omega]
  simp only [List.cons_append,Nat.add_assoc]
end Go.Proofs.YtmcibggjolckoaaGreatDoor.crcm
namespace Go.Proofs.YtmcibggjolckoaaGreatDoor
open Go Go.RowKit
set_option maxRecDepth 100000
theorem Bld.below {B b:Nat} {bs:List Value} {w w':World} (h:Bld B b bs w) (hb:Below w.heap.size w w'):Bld B b bs w':=by
 have k:∀ {q},Lib.BuilderAt 166 5 B b q bs w→Lib.BuilderAt 166 5 B b q bs w':=by
  rintro q ⟨hB,v,hbk,hown,hne⟩
  exact ⟨hB,v,(hb.block b (Array.getElem?_eq_some_iff.1 hbk).1).trans hbk,owns_below hown hb,hne⟩
 rcases h with h | h
 ·exact .inl (k h)
 ·exact .inr (k h)
namespace wl
def fits (t:List UInt8):Bool:=decide (t.length≤65535)
def bytes (ls:List (List UInt8)):List UInt8 × Nat:=if ls.all fits then (crcm.flat ls,0) else ([],71)
end wl
theorem flat_take (ls:List (List UInt8)) (k:Nat) (h:k < ls.length):(crcm.flat (ls.take k)).length + (6 + (ls.getD k []).length)≤(crcm.flat ls).length:=by
 have h1:ls=ls.take k ++ (ls.getD k [] :: ls.drop (k + 1)):=by
  rw [List.getD_eq_getElem?_getD,List.getElem?_eq_getElem h]
  show ls=ls.take k ++ (ls[k] :: ls.drop (k + 1))
  rw [List.getElem_cons_drop,List.take_append_drop]
 have h2:=congrArg (fun l=>(crcm.flat l).length) h1
 simp only [crcm.flat_append,crcm.flat_cons,List.length_append,crcm.body_len] at h2
 omega
set_option maxHeartbeats 4000000 in
theorem wal_bytes (v:Value) (ls:List (List UInt8)) (w:World) (hv:Strs w v ls) (hf:(crcm.flat ls).length≤1000000000) (hl:ls.length≤1000000000) (ht:TabAt w) :
  Calls Tryz.prog 109 #[v] w fun e w'=>e=.returned (.tuple #[.string (crcm.mk (wl.bytes ls).1),.int .i64 ((wl.bytes ls).2:Nat)])∧Below w.heap.size w w':=by
 obtain ⟨A,c,rfl,hcells⟩:=hv
 have hsn:∀ k,k < ls.length→ls.take (k + 1)=ls.take k ++ [ls.getD k []]:=fun k h=>by rw [List.take_add_one,List.getD_eq_getElem?_getD,List.getElem?_eq_getElem h];rfl
 have hft:=flat_take ls
 obtain ⟨n,hn⟩:∃ n,ls.length=n:=⟨_,rfl⟩
 have htk:ls.take n=ls:=by rw [← hn];exact List.take_length
 obtain ⟨F,hF⟩:∃ F,(crcm.flat ls).length=F:=⟨_,rfl⟩
 rw [hF] at hf hft
 rw [hn] at hcells hsn hl hft ⊢
 have hno:∀ k,k < n→65535 < (ls.getD k []).length→wl.bytes ls=([],71):=fun k hk h=>by
  unfold wl.bytes
  rw [if_neg]
  rw [Bool.not_eq_true,List.all_eq_false]
  refine ⟨ls.getD k [],?_,by simp [wl.fits];exact h⟩
  rw [List.getD_eq_getElem?_getD,List.getElem?_eq_getElem (by rw [hn];exact hk)]
  exact List.getElem_mem _
 have HC:=Lib.hid hcells
 have HSN:=Lib.hid hsn
 have HTK:=Lib.hid htk
 have HFT:=Lib.hid hft
 have HNO:=Lib.hid hno
 clear hcells hsn htk hn hft hF hno
 go_enter Tryz.func109,Tryz.ntmps109
 go_wp2_with fail
 go_loopw [11] (fun i wr=>∃ k:Nat,k≤n∧i=.int .i64 k∧(ls.take k).all wl.fits=true∧Bld w.heap.size w.heap.size (Lib.byteCells (crcm.flat (ls.take k))) wr∧Below w.heap.size w wr) (fun i _=>n - (Go.RowKit.intOf i).toNat)
 case atStart=>exact ⟨0,Nat.zero_le _,rfl,rfl,Lib.fresh_isBuilder _ _ w,(Below.refl _ w).alloc (Nat.le_refl _) _⟩
 case round=>
  obtain ⟨k,hk,rfl,hall,hB,hbw⟩:=hrel
  have HALL:=Lib.hid hall
  have HB:=Lib.hid hB
  clear hall hB
  have hws:=hbw.size
  have ht2:=ht.below hbw ht.1
  by_cases hlt:k < n
  ·obtain ⟨ad,rfl,c0⟩:=HC.out k hlt
   have c1:=cell_later hbw c0
   have hs:=HSN.out k hlt
   have hft:=HFT.out k hlt
   have hno:=HNO.out k hlt
   obtain ⟨t,htt⟩:∃ t,ls.getD k []=t:=⟨_,rfl⟩
   rw [htt] at c0 c1 hs hft hno
   obtain ⟨N,hN⟩:∃ N,t.length=N:=⟨_,rfl⟩
   rw [hN] at hft hno
   have hsz:(crcm.mk t).size≤maxLen:=by rw [crcm.mk_size,hN];unfold maxLen;omega
   have hput:=put_any (crcm.mk t) wr hsz ht2
   rw [crcm.mk_toList] at hput
   by_cases hw:65535 < N
   ·have hp:crcm.put t=([],71):=by unfold crcm.put;rw [if_pos (by rw [hN];exact hw)]
    rw [hp] at hput
    have HNN:=Lib.hid (hno hw)
    clear hno hs htt hN hp c0
    go_wp2_with fail
    refine hput.mono ?_
    rintro e w1 ⟨rfl,hb1⟩
    go_wp2_with fail
    go_ret2
    rw [HNN.out]
    exact ⟨rfl,hbw.trans (hb1.mono hws)⟩
   ·have hp:crcm.put t=(crcm.body t,0):=by unfold crcm.put;rw [if_neg (by rw [hN];exact hw)]
    rw [hp] at hput
    have hfit:wl.fits t=true:=by unfold wl.fits;rw [hN];exact decide_eq_true (by omega)
    have hbl:(crcm.body t).length=6 + N:=by rw [crcm.body_len,hN]
    have HS:=Lib.hid hs
    have HFI:=Lib.hid hfit
    clear hno hs htt hN hp c0 hfit
    have hbs:(Lib.byteCells (crcm.flat (ls.take k))).length + (crcm.mk (crcm.body t)).size≤140737488355328:=by rw [Lib.byteCells_length,crcm.mk_size,hbl];omega
    have HBS:=Lib.hid hbs
    clear hbs hbl
    go_wp2_with fail
    refine hput.mono ?_
    rintro e w1 ⟨rfl,hb1⟩
    have hb01:=hbw.trans (hb1.mono hws)
    go_wp2_with fail
    refine (bld_write _ _ _ (crcm.mk (crcm.body t)) _ (HB.out.below hb1) HBS.out hb01.size).mono ?_
    rintro e w2 ⟨⟨x,rfl⟩,hB2,hb2⟩
    go_wp2_with fail
    go_roundw
    case rel=>
     refine ⟨k + 1,by omega,by go_num,by rw [HS.out,List.all_append,HALL.out,List.all_cons,HFI.out];rfl,?_,hb01.trans hb2⟩
     rw [HS.out,crcm.flat_snoc,Lib.byteCells_append]
     exact hB2
    case measure=>simp [Go.RowKit.intOf];omega
  ·obtain rfl:k=n:=by omega
   have hall:=HALL.out
   have hB:=HB.out
   rw [HTK.out] at hall hB
   have hres:wl.bytes ls=(crcm.flat ls,0):=by unfold wl.bytes;rw [if_pos hall]
   have HR:=Lib.hid hres
   have hstr:=bld_string _ _ _ _ hB hws
   clear hall hres hB
   go_wp2_with fail
   refine hstr.mono ?_
   rintro e w1 ⟨rfl,hb1⟩
   go_wp2_with fail
   go_ret2
   rw [HR.out]
   exact ⟨rfl,hbw.trans hb1⟩
end Go.Proofs.YtmcibggjolckoaaGreatDoor
namespace Go.Proofs.YtmcibggjolckoaaGreatDoor
open Go Go.RowKit
set_option maxRecDepth 100000
namespace wl
def told (l:L) (e many:Nat):L:=if e=0 then { l with many:=many } else if e=2 then l else { l with off:=true }
def change (d:vd.Disk) (l:L) (ls:List (List UInt8)) (many:Nat) (op:List UInt8→Op1):vd.Disk × L × Nat:=
 if l.off then (d,l,6) else if (bytes ls).2 ≠ 0 then (d,l,(bytes ls).2)
 else ((op (bytes ls).1 d).1,told l (op (bytes ls).1 d).2 many,(op (bytes ls).1 d).2)
end wl
set_option maxHeartbeats 4000000 in
theorem wal_change {w:World} {p b g:Nat} {d:vd.Disk} {l:wl.L} (v:Value) (ls:List (List UInt8)) (many:Nat) (op:List UInt8→wl.Op1) (F:Nat) (first caps:Array Value)
  (hg:Lg w g p l) (hd:Dk w p b d) (hv:Strs w v ls) (hf:(crcm.flat ls).length≤1000000000) (hl:ls.length≤1000000000) (ht:TabAt w)
  (eg:∀ args w,(callFunc F args).run Tryz.prog w=.ok (.enter F args) w)
  (hop:∀ s,s.length≤1000000000→∀ w1,Dk w1 p b d→Lg w1 g p l→Apart [] w w1→Calls Tryz.prog F (first ++ #[.string (crcm.mk s)] ++ caps) w1 (fun e w2=>e=.returned (.int .i64 ((op s d).2:Nat))∧Dk w2 p b (op s d).1∧Apart [p,b] w1 w2)) :
  Calls Tryz.prog 88 #[.pointer (some ⟨g,0,none⟩),v,.int .i64 (many:Int),.func (.func F) first caps] w (fun e w'=>e=.returned (.int .i64 ((wl.change d l ls many op).2.2:Nat))∧Dk w' p b (wl.change d l ls many op).1∧Lg w' g p (wl.change d l ls many op).2.1∧Apart [p,b,g] w w'):=by
 have hgo:g ∉ [p,b]:=log_out hg hd
 have hpg:p ≠ g:=fun e=>hgo (by simp [e])
 have hbg:b ≠ g:=fun e=>hgo (by simp [e])
 have hby:=wal_bytes v ls w hv hf hl ht
 have hfl:(wl.bytes ls).2=0→(wl.bytes ls).1.length≤1000000000:=by
  unfold wl.bytes
  split
  ·intro _;exact hf
  ·intro h;cases h
 obtain ⟨B,hB⟩:∃ B,wl.bytes ls=B:=⟨_,rfl⟩
 rw [hB] at hby hfl
 obtain ⟨s,e0⟩:=B
 have hres:wl.change d l ls many op=if l.off then (d,l,6) else if e0 ≠ 0 then (d,l,e0) else ((op s d).1,wl.told l (op s d).2 many,(op s d).2):=by
  unfold wl.change;rw [hB]
 have HR:=Lib.hid hres
 have HFL:=Lib.hid hfl
 have HOP:=Lib.hid hop
 have HG:=Lib.hid hg
 have HD:=Lib.hid hd
 have hgl:=hg.lt
 have q3:=hg.cell 3 _ rfl
 have hdk:∀ w',Below w.heap.size w w'→Dk w' p b d∧Lg w' g p l:=fun w' h=>⟨⟨(h.block _ hd.blk.lt).trans hd.blk,hd.map.below h⟩,(h.block _ hgl).trans hg⟩
 have HK:=Lib.hid hdk
 clear hres hB hfl hop hg hd hv hf hl ht hdk
 go_enter Tryz.func88,Tryz.ntmps88
 obtain ⟨o,ho⟩:∃ o,l.off=o:=⟨_,rfl⟩
 rw [ho] at q3
 have HO:=Lib.hid ho
 clear ho
 cases o with
 | true=>
  go_wp2_with fail
  go_ret
  rw [HR.out,HO.out]
  exact ⟨rfl,HD.out,HG.out,.refl _ _⟩
 | false=>
  by_cases h0:e0=0
  ·subst h0
   go_wp2_with fail
   refine hby.mono ?_
   rintro e w1 ⟨rfl,hb1⟩
   obtain ⟨hd1,hg1⟩:=HK.out w1 hb1
   have hcall:=HOP.out s (HFL.out (by first | rfl | trivial)) w1 hd1 hg1 (.of_below hb1 _)
   obtain ⟨D2,hD2⟩:∃ D2,(op s d).1=D2:=⟨_,rfl⟩
   obtain ⟨e2,he2⟩:∃ e2,(op s d).2=e2:=⟨_,rfl⟩
   rw [hD2,he2] at hcall
   have hres2:wl.change d l ls many op=(D2,wl.told l e2 many,e2):=by rw [HR.out,HO.out,← hD2,← he2];rfl
   have HR2:=Lib.hid hres2
   have HG1:=Lib.hid hg1
   clear hres2 hD2 he2 hd1 hg1
   go_wp2_with fail
   refine hcall.mono ?_
   rintro e w2 ⟨rfl,hd2,hA2⟩
   have hg2:=HG1.out.apart hA2 hgo
   have r2:=hg2.cell 2 _ rfl
   have r3:=hg2.cell 3 _ rfl
   have z2:=hg2.free 2
   have z3:=hg2.free 3
   have hA02:Apart [p,b,g] w w2:=(Apart.of_below hb1 _).trans (hA2.mono (by simp))
   have HD2:=Lib.hid hd2
   have HG2:=Lib.hid hg2
   clear hd2 hg2 hcall
   by_cases h1:e2=0
   ·subst h1
    go_wp2_with fail
    go_ret
    rw [HR2.out]
    have hA3:=Apart.setCell w2 g 2 (.int .i64 (many:Int))
    exact ⟨rfl,HD2.out.apart hA3 (by simpa using hpg) (by simpa using hbg),HG2.out.set 2 _,hA02.trans (hA3.mono (by simp))⟩
   ·have h1i:¬ (e2:Int)=0:=by omega
    by_cases h2:e2=2
    ·subst h2
     go_wp2_with fail
     go_ret
     rw [HR2.out]
     exact ⟨rfl,HD2.out,HG2.out,hA02⟩
    ·have h2i:¬ (e2:Int)=2:=by omega
     go_wp2_with fail
     go_ret
     rw [HR2.out]
     have hA3:=Apart.setCell w2 g 3 (.bool true)
     refine ⟨rfl,HD2.out.apart hA3 (by simpa using hpg) (by simpa using hbg),?_,hA02.trans (hA3.mono (by simp))⟩
     show Lg _ g p (wl.told l e2 many)
     unfold wl.told
     rw [if_neg h1,if_neg h2]
     exact HG2.out.set 3 _
  ·have h0i:¬ (e0:Int)=0:=by omega
   go_wp2_with fail
   refine hby.mono ?_
   rintro e w1 ⟨rfl,hb1⟩
   obtain ⟨hd1,hg1⟩:=HK.out w1 hb1
   go_wp2_with fail
   go_ret
   rw [HR.out,HO.out,if_neg (by simp),if_pos h0]
   exact ⟨rfl,hd1,hg1,.of_below hb1 _⟩
end Go.Proofs.YtmcibggjolckoaaGreatDoor
namespace Go.Proofs.YtmcibggjolckoaaGreatDoor
open Go Go.RowKit
set_option maxRecDepth 100000
namespace wl
def appendOps (n:vd.Name) (s:List UInt8):List Op1:=[fun d=>vd.append d n s,fun d=>vd.sync d n]
def append (d:vd.Disk) (l:L) (ls:List (List UInt8)):vd.Disk × L × Nat:=change d l ls (l.many + ls.length) (fun s d=>run (appendOps l.name s) d)
def reset (d:vd.Disk) (l:L) (ls:List (List UInt8)):vd.Disk × L × Nat:=change d l ls ls.length (fun s d=>write d l.name s)
end wl
section
variable {w:World} {p b g gl:Nat} {d:vd.Disk} {l:wl.L}
set_option maxHeartbeats 4000000 in
theorem wal_reset (v:Value) (ls:List (List UInt8)) (hg:Lg w g p l) (hd:Dk w p b d) (hok:vd.Ok d) (hv:Strs w v ls) (hf:(crcm.flat ls).length≤1000000000) (hl:ls.length≤1000000000) (ht:TabAt w) (hm:l.name.length≤200) :
  Calls Tryz.prog 71 #[.pointer (some ⟨g,0,none⟩),v] w (fun e w'=>e=.returned (.int .i64 ((wl.reset d l ls).2.2:Nat))∧Dk w' p b (wl.reset d l ls).1∧Lg w' g p (wl.reset d l ls).2.1∧Apart [p,b,g] w w'):=by
 have hc:=wal_change v ls ls.length (fun s d=>wl.write d l.name s) 74 #[.pointer (some ⟨g,0,none⟩)] #[] hg hd hv hf hl ht (enters_any Tryz.func74 (by kernel_rfl) rfl)
  (fun s hs w1 h1 h2 _=>(wal_write s h2 h1 hok hm hs).mono (by rintro e w2 ⟨a,b,c,_⟩;exact ⟨a,b,c⟩))
 rw [show wl.change d l ls ls.length (fun s d=>wl.write d l.name s)=wl.reset d l ls from rfl] at hc
 obtain ⟨A,c,rfl,hcells⟩:=hv
 clear hcells hg hd hok hf ht
 go_enter Tryz.func71,Tryz.ntmps71
 go_wp2_with fail
 refine hc.mono ?_
 rintro e w2 ⟨rfl,h1,h2,h3⟩
 go_wp2_with fail
 go_ret
 exact ⟨rfl,h1,h2,h3⟩
end
end Go.Proofs.YtmcibggjolckoaaGreatDoor
namespace Go.Proofs.YtmcibggjolckoaaGreatDoor.crcm
def pairs:Nat→Nat→List UInt8→List (Nat × List UInt8)
 | 0,_,_=>[]
 | f + 1,k,s=>if (get s).2.2=0 then (k + (get s).2.1,(get s).1) :: pairs f (k + (get s).2.1) (s.drop (get s).2.1) else []
theorem pairs_more:∀ (f g k:Nat) (s:List UInt8),s.length≤f→s.length≤g→pairs f k s=pairs g k s:=by
 intro f
 induction f with
 | zero=>
  intro g k s hf hg
  have:s=[]:=List.eq_nil_of_length_eq_zero (by omega)
  subst this
  cases g with
  | zero=>rfl
  | succ g=>rfl
 | succ f ih=>
  intro g k s hf hg
  cases g with
  | zero=>
   have:s=[]:=List.eq_nil_of_length_eq_zero (by omega)
   subst this
   rfl
  | succ g=>
   unfold pairs
   by_cases h:(get s).2.2=0
   ·obtain ⟨h6,hle,_⟩:=get_ok h
    rw [if_pos h,if_pos h,ih g _ (s.drop (get s).2.1) (by rw [List.length_drop];omega) (by rw [List.length_drop];omega)]
   ·rw [if_neg h,if_neg h]
def pairsFrom (k:Nat) (s:List UInt8):List (Nat × List UInt8):=pairs s.length k s
theorem pairsFrom_step {k:Nat} {s:List UInt8} (h:(get s).2.2=0):pairsFrom k s=(k + (get s).2.1,(get s).1) :: pairsFrom (k + (get s).2.1) (s.drop (get s).2.1):=by
 obtain ⟨h6,hle,_⟩:=get_ok h
 unfold pairsFrom
 obtain ⟨n,hn⟩:∃ n,s.length=n + 1:=⟨s.length - 1,by omega⟩
 rw [hn]
 conv=>lhs;unfold pairs
 rw [if_pos h,pairs_more n (s.drop (get s).2.1).length _ _ (by rw [List.length_drop];omega) (Nat.le_refl _)]
theorem pairsFrom_stop {k:Nat} {s:List UInt8} (h:(get s).2.2 ≠ 0):pairsFrom k s=[]:=by
 unfold pairsFrom
 cases s.length with
 | zero=>rfl
 | succ n=>unfold pairs;rw [if_neg h]
def lastEnd (d:Nat) (ps:List (Nat × List UInt8)):Nat:=ps.foldl (fun _ p=>p.1) d
theorem lastEnd_snoc (d:Nat) (ps:List (Nat × List UInt8)) (x:Nat × List UInt8):lastEnd d (ps ++ [x])=x.1:=by simp [lastEnd]
theorem pairs_all:∀ (n:Nat) (k:Nat) (s:List UInt8),s.length≤n→(pairsFrom k s).map (·.2)=(allOf s).1∧lastEnd k (pairsFrom k s)=k + (allOf s).2∧(pairsFrom k s).length≤s.length:=by
 intro n
 induction n with
 | zero=>
  intro k s hs
  have:s=[]:=List.eq_nil_of_length_eq_zero (by omega)
  subst this
  exact ⟨rfl,rfl,Nat.le_refl _⟩
 | succ n ih=>
  intro k s hs
  by_cases h:(get s).2.2=0
  ·obtain ⟨h6,hle,_⟩:=get_ok h
   obtain ⟨h1,h2,h3⟩:=ih (k + (get s).2.1) (s.drop (get s).2.1) (by rw [List.length_drop];omega)
   rw [List.length_drop] at h3
   rw [pairsFrom_step h,allOf_step h]
   refine ⟨by rw [List.map_cons,h1],?_,by rw [List.length_cons];omega⟩
   show lastEnd (k + (get s).2.1) _=_
   rw [h2]
   show _=k + ((get s).2.1 + _)
   omega
  ·rw [pairsFrom_stop h,allOf_stop h]
   exact ⟨rfl,rfl,Nat.zero_le _⟩
end Go.Proofs.YtmcibggjolckoaaGreatDoor.crcm
