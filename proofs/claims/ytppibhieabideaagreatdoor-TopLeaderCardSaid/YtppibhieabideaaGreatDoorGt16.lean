/- A part of the walk of the program, and of its plain law. -/
import Derived.Test.YtppibhieabideaaGreatDoorGt15
import Derived.Laws.IdiomStrings
import Derived.OwnWalk
import Derived.LoopTactic
import Derived.Laws.BitsAllLaws
namespace Go.Proofs.YtppibhieabideaaGreatDoor
set_option maxHeartbeats 4000000
open Go Go.RowKit
set_option maxRecDepth 100000
theorem Ents.form {w:World} {u:Value} {ls:List rl.Ent} (h:Ents w u ls):∃ A c,u=.slice A ls.length c:=by
 obtain ⟨A,c,e,_⟩:=h;exact ⟨A,c,e⟩
theorem qN (w:World) (o:Obj):Below w.heap.size w (w.alloc o):=(Below.refl _ _).alloc (Nat.le_refl _) _
end Go.Proofs.YtppibhieabideaaGreatDoor
namespace Go.Proofs.YtppibhieabideaaGreatDoor
set_option maxHeartbeats 4000000
open Go Go.RowKit Go.ChangeShapes
set_option maxRecDepth 100000
end Go.Proofs.YtppibhieabideaaGreatDoor
namespace Go.Proofs.YtppibhieabideaaGreatDoor
set_option maxHeartbeats 4000000
open Go Go.RowKit
set_option maxRecDepth 100000
namespace rl
def le8 (n:Nat):List UInt8:=[UInt8.ofNat n,UInt8.ofNat (n / 256),UInt8.ofNat (n / 65536),UInt8.ofNat (n / 16777216),UInt8.ofNat (n / 4294967296),UInt8.ofNat (n / 1099511627776),UInt8.ofNat (n / 281474976710656),UInt8.ofNat (n / 72057594037927936)]
theorem le8_len (n:Nat):(le8 n).length=8:=rfl
def num (l:List UInt8):Nat:=l.foldr (λb n=>b.toNat + 256 * n) 0
theorem num_le8 (n:Nat) (h:n < 18446744073709551616):num (le8 n)=n:=by
 unfold num le8;simp only [List.foldr_cons,List.foldr_nil,UInt8.toNat_ofNat'];omega
theorem num8 (a b c d e f g h:UInt8):num [a,b,c,d,e,f,g,h]=a.toNat + 256 * b.toNat + 65536 * c.toNat + 16777216 * d.toNat + 4294967296 * e.toNat + 1099511627776 * f.toNat + 281474976710656 * g.toNat + 72057594037927936 * h.toNat:=by
 unfold num;simp only [List.foldr_cons,List.foldr_nil];omega
theorem eight (l:List UInt8) (h:l.length=8):∃ a b c d e f g h,l=[a,b,c,d,e,f,g,h]:=by
 match l,h with
 | [a,b,c,d,e,f,g,h],_=>exact ⟨a,b,c,d,e,f,g,h,rfl⟩
end rl
def le8V (n k:Nat):List Value:=((rl.le8 n).take k).map λb=>Value.int .u8 (b.toNat:Int)
def qu (b:UInt8):Value:=.int .u8 (b.toNat:Int)
theorem ZO:(Tryz.prog.info? 5).map (λi=>(i.zero,i.size,i.bytes))=some (some (.int .u8 0),1,1):=by kernel_rfl
theorem qQ (m:Nat) (x:Int) (h:(m:Int)=x):qu (UInt8.ofNat m)=.int .u8 (x % 256):=by
 unfold qu;rw [UInt8.toNat_ofNat',← h]
 rfl
theorem qB (k:IntKind) (x:Int):∀ u ∈ [Value.int k x],u.oneCell'=true:=by intro u hu;simp at hu;subst hu;rfl
theorem yx {w:World} {base:Nat} {e:TypeId} {n:Nat} {v:Value} {xs:List Value} (h:w.ownsRow base e 1 v n xs) (hn:0 < n):∃ g cap,v=.slice (some ⟨g,0,none⟩) n cap∧∀ j u,xs[j]?=some u→w.cell? ((⟨g,0,none⟩:Addr).add j)=some u:=by
 have h':=h
 rcases h.2 with ⟨_,h0⟩ | ⟨g,cap,cur,rfl,_⟩
 ·omega
 ·exact ⟨g,cap,rfl,h'.cells (g:=g) rfl⟩
theorem yg (n:Nat):le8V n 0 ++ [.int .u8 ((n:Int) % 256)]=le8V n 1:=by
 rw [← qQ (n) ((n:Int)) (by omega)]
 rfl
theorem yf (n:Nat):le8V n 1 ++ [.int .u8 ((n:Int) / 256 % 256)]=le8V n 2:=by
 rw [← qQ (n / 256) ((n:Int) / 256) (by omega)]
 rfl
theorem ye (n:Nat):le8V n 2 ++ [.int .u8 ((n:Int) / 65536 % 256)]=le8V n 3:=by
 rw [← qQ (n / 65536) ((n:Int) / 65536) (by omega)]
 rfl
theorem yd (n:Nat):le8V n 3 ++ [.int .u8 ((n:Int) / 16777216 % 256)]=le8V n 4:=by
 rw [← qQ (n / 16777216) ((n:Int) / 16777216) (by omega)]
 rfl
theorem yc (n:Nat):le8V n 4 ++ [.int .u8 ((n:Int) / 4294967296 % 256)]=le8V n 5:=by
 rw [← qQ (n / 4294967296) ((n:Int) / 4294967296) (by omega)]
 rfl
theorem yb (n:Nat):le8V n 5 ++ [.int .u8 ((n:Int) / 1099511627776 % 256)]=le8V n 6:=by
 rw [← qQ (n / 1099511627776) ((n:Int) / 1099511627776) (by omega)]
 rfl
theorem ya (n:Nat):le8V n 6 ++ [.int .u8 ((n:Int) / 281474976710656 % 256)]=le8V n 7:=by
 rw [← qQ (n / 281474976710656) ((n:Int) / 281474976710656) (by omega)]
 rfl
theorem Z9 (n:Nat) (h:n < 18446744073709551616):le8V n 7 ++ [.int .u8 ((n:Int) / 72057594037927936)]=le8V n 8:=by
 have:(.int .u8 ((n:Int) / 72057594037927936):Value)=qu (UInt8.ofNat (n / 72057594037927936)):=by
  rw [qQ (n / 72057594037927936) ((n:Int) / 72057594037927936) (by omega),Int.emod_eq_of_lt (by omega) (by omega)]
 rw [this]
 rfl
theorem Yv (n:Nat) (w:World) (hn:n < 18446744073709551616) :
  Calls Tryz.prog 376 #[.int .u64 (n:Int),.int .i64 8] w λe w'=>e=.returned (.string (crcm.mk (rl.le8 n)))∧Below w.heap.size w w':=by
 obtain ⟨i0,hi,hz0,hz1,hz2⟩:=info_parts ZO
 go_enter Tryz.func376,Tryz.ntmps376
 go_wp2
 go_loopw [5,8] (λv i wr=>∃ k:Nat,k≤8∧i=.int .i64 k∧wr.ownsRow w.heap.size 5 1 v k (le8V n k)∧Below w.heap.size w wr) (λ_ i _=>8 - (intOf i).toNat)
 case atStart=>exact ⟨0,by omega,rfl,World.ownsRow_nil _ _ _ _,Below.refl _ _⟩
 case round=>
  obtain ⟨k,hk,rfl,hown,hb⟩:=hrel
  have hc:k=0∨k=1∨k=2∨k=3∨k=4∨k=5∨k=6∨k=7∨k=8:=by omega
  have HO:=Uq hown;clear hown;obtain ⟨v,hv⟩:∃ v:Value,v=v:=⟨.bool true,rfl⟩;clear v hv
  rcases hc with rfl | rfl | rfl | rfl | rfl | rfl | rfl | rfl | rfl
  ·have hsz:=hb.size
   go_wp2_with (at_builtin;refine wpList_append_own _ rfl _ _ 23 rfl w.heap.size 5 i0 _ 1 1 Tryz.underlying23 hi hz0 hz1 hz2 rfl (by decide) _ _ _ rfl (HO.out.alloc _) ⟨wr.heap.size,0,none⟩ 1 1 [.int .u8 ((n:Int) % 256)] rfl rfl ?c1 ?c2 ?c3 ?c4 ?c5 ?_)
   case c1=>exact qw _ _ _
   case c2=>exact qB _ _
   case c3=>unfold maxLen;omega
   case c4=>omega
   case c5=>simp;omega
   intro v' w1 hown' hgrow _;rw [yg] at hown'
   have hb1:Below w.heap.size w w1:=(hb.alloc hsz _).grown hgrow (by simp;omega) (λj hj=>(HO.out.lt j hj).1)
   have HO1:=Uq hown';clear hown' hgrow;go_wp2;go_roundw
   case rel=>exact ⟨1,by omega,rfl,HO1.out,hb1⟩
   case measure=>simp [intOf]
  ·have hsz:=hb.size
   go_wp2_with (at_builtin;refine wpList_append_own _ rfl _ _ 23 rfl w.heap.size 5 i0 _ 1 1 Tryz.underlying23 hi hz0 hz1 hz2 rfl (by decide) _ _ _ rfl (HO.out.alloc _) ⟨wr.heap.size,0,none⟩ 1 1 [.int .u8 ((n:Int) / 256 % 256)] rfl rfl ?c1 ?c2 ?c3 ?c4 ?c5 ?_)
   case c1=>exact qw _ _ _
   case c2=>exact qB _ _
   case c3=>unfold maxLen;omega
   case c4=>omega
   case c5=>simp;omega
   intro v' w1 hown' hgrow _;rw [yf] at hown'
   have hb1:Below w.heap.size w w1:=(hb.alloc hsz _).grown hgrow (by simp;omega) (λj hj=>(HO.out.lt j hj).1)
   have HO1:=Uq hown';clear hown' hgrow;go_wp2;go_roundw
   case rel=>exact ⟨2,by omega,rfl,HO1.out,hb1⟩
   case measure=>simp [intOf]
  ·have hsz:=hb.size
   go_wp2_with (at_builtin;refine wpList_append_own _ rfl _ _ 23 rfl w.heap.size 5 i0 _ 1 1 Tryz.underlying23 hi hz0 hz1 hz2 rfl (by decide) _ _ _ rfl (HO.out.alloc _) ⟨wr.heap.size,0,none⟩ 1 1 [.int .u8 ((n:Int) / 65536 % 256)] rfl rfl ?c1 ?c2 ?c3 ?c4 ?c5 ?_)
   case c1=>exact qw _ _ _
   case c2=>exact qB _ _
   case c3=>unfold maxLen;omega
   case c4=>omega
   case c5=>simp;omega
   intro v' w1 hown' hgrow _;rw [ye] at hown'
   have hb1:Below w.heap.size w w1:=(hb.alloc hsz _).grown hgrow (by simp;omega) (λj hj=>(HO.out.lt j hj).1)
   have HO1:=Uq hown';clear hown' hgrow;go_wp2;go_roundw
   case rel=>exact ⟨3,by omega,rfl,HO1.out,hb1⟩
   case measure=>simp [intOf]
  ·have hsz:=hb.size
   go_wp2_with (at_builtin;refine wpList_append_own _ rfl _ _ 23 rfl w.heap.size 5 i0 _ 1 1 Tryz.underlying23 hi hz0 hz1 hz2 rfl (by decide) _ _ _ rfl (HO.out.alloc _) ⟨wr.heap.size,0,none⟩ 1 1 [.int .u8 ((n:Int) / 16777216 % 256)] rfl rfl ?c1 ?c2 ?c3 ?c4 ?c5 ?_)
   case c1=>exact qw _ _ _
   case c2=>exact qB _ _
   case c3=>unfold maxLen;omega
   case c4=>omega
   case c5=>simp;omega
   intro v' w1 hown' hgrow _;rw [yd] at hown'
   have hb1:Below w.heap.size w w1:=(hb.alloc hsz _).grown hgrow (by simp;omega) (λj hj=>(HO.out.lt j hj).1)
   have HO1:=Uq hown';clear hown' hgrow;go_wp2;go_roundw
   case rel=>exact ⟨4,by omega,rfl,HO1.out,hb1⟩
   case measure=>simp [intOf]
  ·have hsz:=hb.size
   go_wp2_with (at_builtin;refine wpList_append_own _ rfl _ _ 23 rfl w.heap.size 5 i0 _ 1 1 Tryz.underlying23 hi hz0 hz1 hz2 rfl (by decide) _ _ _ rfl (HO.out.alloc _) ⟨wr.heap.size,0,none⟩ 1 1 [.int .u8 ((n:Int) / 4294967296 % 256)] rfl rfl ?c1 ?c2 ?c3 ?c4 ?c5 ?_)
   case c1=>exact qw _ _ _
   case c2=>exact qB _ _
   case c3=>unfold maxLen;omega
   case c4=>omega
   case c5=>simp;omega
   intro v' w1 hown' hgrow _;rw [yc] at hown'
   have hb1:Below w.heap.size w w1:=(hb.alloc hsz _).grown hgrow (by simp;omega) (λj hj=>(HO.out.lt j hj).1)
   have HO1:=Uq hown';clear hown' hgrow;go_wp2;go_roundw
   case rel=>exact ⟨5,by omega,rfl,HO1.out,hb1⟩
   case measure=>simp [intOf]
  ·have hsz:=hb.size
   go_wp2_with (at_builtin;refine wpList_append_own _ rfl _ _ 23 rfl w.heap.size 5 i0 _ 1 1 Tryz.underlying23 hi hz0 hz1 hz2 rfl (by decide) _ _ _ rfl (HO.out.alloc _) ⟨wr.heap.size,0,none⟩ 1 1 [.int .u8 ((n:Int) / 1099511627776 % 256)] rfl rfl ?c1 ?c2 ?c3 ?c4 ?c5 ?_)
   case c1=>exact qw _ _ _
   case c2=>exact qB _ _
   case c3=>unfold maxLen;omega
   case c4=>omega
   case c5=>simp;omega
   intro v' w1 hown' hgrow _;rw [yb] at hown'
   have hb1:Below w.heap.size w w1:=(hb.alloc hsz _).grown hgrow (by simp;omega) (λj hj=>(HO.out.lt j hj).1)
   have HO1:=Uq hown';clear hown' hgrow;go_wp2;go_roundw
   case rel=>exact ⟨6,by omega,rfl,HO1.out,hb1⟩
   case measure=>simp [intOf]
  ·have hsz:=hb.size
   go_wp2_with (at_builtin;refine wpList_append_own _ rfl _ _ 23 rfl w.heap.size 5 i0 _ 1 1 Tryz.underlying23 hi hz0 hz1 hz2 rfl (by decide) _ _ _ rfl (HO.out.alloc _) ⟨wr.heap.size,0,none⟩ 1 1 [.int .u8 ((n:Int) / 281474976710656 % 256)] rfl rfl ?c1 ?c2 ?c3 ?c4 ?c5 ?_)
   case c1=>exact qw _ _ _
   case c2=>exact qB _ _
   case c3=>unfold maxLen;omega
   case c4=>omega
   case c5=>simp;omega
   intro v' w1 hown' hgrow _;rw [ya] at hown'
   have hb1:Below w.heap.size w w1:=(hb.alloc hsz _).grown hgrow (by simp;omega) (λj hj=>(HO.out.lt j hj).1)
   have HO1:=Uq hown';clear hown' hgrow;go_wp2;go_roundw
   case rel=>exact ⟨7,by omega,rfl,HO1.out,hb1⟩
   case measure=>simp [intOf]
  ·have hsz:=hb.size
   go_wp2_with (at_builtin;refine wpList_append_own _ rfl _ _ 23 rfl w.heap.size 5 i0 _ 1 1 Tryz.underlying23 hi hz0 hz1 hz2 rfl (by decide) _ _ _ rfl (HO.out.alloc _) ⟨wr.heap.size,0,none⟩ 1 1 [.int .u8 ((n:Int) / 72057594037927936)] rfl rfl ?c1 ?c2 ?c3 ?c4 ?c5 ?_)
   case c1=>exact qw _ _ _
   case c2=>exact qB _ _
   case c3=>unfold maxLen;omega
   case c4=>omega
   case c5=>simp;omega
   intro v' w1 hown' hgrow _;rw [Z9 n hn] at hown'
   have hb1:Below w.heap.size w w1:=(hb.alloc hsz _).grown hgrow (by simp;omega) (λj hj=>(HO.out.lt j hj).1)
   have HO1:=Uq hown';clear hown' hgrow;go_wp2;go_roundw
   case rel=>exact ⟨8,by omega,rfl,HO1.out,hb1⟩
   case measure=>simp [intOf]
  ·obtain ⟨g,cap,hv,hcs⟩:=yx HO.out (by decide)
   have hcv:=run_convert_bytes_back (P:=Tryz.prog) wr 23 9 5 ⟨g,0,none⟩ cap (rl.le8 n) Tryz.underlying23 Tryz.underlying5 Tryz.underlying9 (λj hj=>hcs j _ (by unfold le8V;rw [List.take_of_length_le (by rw [rl.le8_len];omega),List.getElem?_map,List.getElem?_eq_getElem hj];rfl))
   rw [rl.le8_len] at hcv;subst hv;have HCV:=hcv;clear hcs;go_wp2;go_ret;exact ⟨rfl,hb⟩
set_option maxHeartbeats 1000000 in
theorem jk (n:Nat) (w:World) (hn:n < 256) :
  Calls Tryz.prog 377 #[.int .i64 (n:Int),.int .i64 1] w λe w'=>e=.returned (.string (crcm.mk [UInt8.ofNat n]))∧Below w.heap.size w w':=by
 obtain ⟨i0,hi,hz0,hz1,hz2⟩:=info_parts ZO
 go_enter Tryz.func377,Tryz.ntmps377
 go_wp2;refine wp_loop_rounds 2 ?_;rw [rounds_succ]
 go_wp2_with (at_builtin;refine wpList_append_own _ rfl _ _ 23 rfl w.heap.size 5 i0 _ 1 1 Tryz.underlying23 hi hz0 hz1 hz2 rfl (by decide) _ _ _ rfl ((World.ownsRow_nil w w.heap.size 5 1).alloc _) ⟨w.heap.size,0,none⟩ 1 1 [.int .u8 (n:Int)] rfl rfl ?c1 ?c2 ?c3 ?c4 ?c5 ?_)
 case c1=>exact qw _ _ _
 case c2=>exact qB _ _
 case c3=>unfold maxLen;omega
 case c4=>omega
 case c5=>simp
 intro v' w1 hown' hgrow _
 have hb1:Below w.heap.size w w1:=(qN w _).grown hgrow (by simp) (λj hj=>by cases hj)
 obtain ⟨g,cap,hv,hcs⟩:=yx hown' (by decide)
 subst hv
 have hcv:=run_convert_bytes_back (P:=Tryz.prog) w1 23 9 5 ⟨g,0,none⟩ cap [UInt8.ofNat n] Tryz.underlying23 Tryz.underlying5 Tryz.underlying9 (λj hj=>hcs j _ (by
  obtain rfl:j=0:=by simp at hj;omega
  have:=qQ n n rfl
  rw [Int.emod_eq_of_lt (by omega) (by omega)] at this
  unfold qu at this;rw [← this]
  rfl))
 rw [show [UInt8.ofNat n].length=1 from rfl] at hcv
 clear hcs hown' hgrow;go_wp2;rw [rounds_succ];go_wp2;go_ret;exact ⟨rfl,hb1⟩
theorem qE (i a b:Nat) (ha:a < 2 ^ i) (hb:b % 2 ^ i=0) (ha4:a < 18446744073709551616) (hb4:b < 18446744073709551616):bits .or .u64 (a:Int) (b:Int)=((a + b:Nat):Int):=by
 rw [u64_or_nat a b ha4 hb4,Nat.or_comm,nat_join i b a hb ha,Nat.add_comm]
theorem orn1 (S:Nat) (b:UInt8) (h:S < 256):bits .or .u64 (S:Int) ((b.toNat:Int) * 256)=((S + 256 * b.toNat:Nat):Int)∧S + 256 * b.toNat < 65536:=by
 have:=b.toNat_lt
 refine ⟨?_,by omega⟩
 rw [show (b.toNat:Int) * 256=((256 * b.toNat:Nat):Int) from by omega]
 exact qE 8 _ _ (by omega) (by omega) (by omega) (by omega)
theorem orn2 (S:Nat) (b:UInt8) (h:S < 65536):bits .or .u64 (S:Int) ((b.toNat:Int) * 65536)=((S + 65536 * b.toNat:Nat):Int)∧S + 65536 * b.toNat < 16777216:=by
 have:=b.toNat_lt
 refine ⟨?_,by omega⟩
 rw [show (b.toNat:Int) * 65536=((65536 * b.toNat:Nat):Int) from by omega]
 exact qE 16 _ _ (by omega) (by omega) (by omega) (by omega)
theorem orn3 (S:Nat) (b:UInt8) (h:S < 16777216):bits .or .u64 (S:Int) ((b.toNat:Int) * 16777216)=((S + 16777216 * b.toNat:Nat):Int)∧S + 16777216 * b.toNat < 4294967296:=by
 have:=b.toNat_lt
 refine ⟨?_,by omega⟩
 rw [show (b.toNat:Int) * 16777216=((16777216 * b.toNat:Nat):Int) from by omega]
 exact qE 24 _ _ (by omega) (by omega) (by omega) (by omega)
theorem orn4 (S:Nat) (b:UInt8) (h:S < 4294967296):bits .or .u64 (S:Int) ((b.toNat:Int) * 4294967296)=((S + 4294967296 * b.toNat:Nat):Int)∧S + 4294967296 * b.toNat < 1099511627776:=by
 have:=b.toNat_lt
 refine ⟨?_,by omega⟩
 rw [show (b.toNat:Int) * 4294967296=((4294967296 * b.toNat:Nat):Int) from by omega]
 exact qE 32 _ _ (by omega) (by omega) (by omega) (by omega)
theorem orn5 (S:Nat) (b:UInt8) (h:S < 1099511627776):bits .or .u64 (S:Int) ((b.toNat:Int) * 1099511627776)=((S + 1099511627776 * b.toNat:Nat):Int)∧S + 1099511627776 * b.toNat < 281474976710656:=by
 have:=b.toNat_lt
 refine ⟨?_,by omega⟩
 rw [show (b.toNat:Int) * 1099511627776=((1099511627776 * b.toNat:Nat):Int) from by omega]
 exact qE 40 _ _ (by omega) (by omega) (by omega) (by omega)
theorem orn6 (S:Nat) (b:UInt8) (h:S < 281474976710656):bits .or .u64 (S:Int) ((b.toNat:Int) * 281474976710656)=((S + 281474976710656 * b.toNat:Nat):Int)∧S + 281474976710656 * b.toNat < 72057594037927936:=by
 have:=b.toNat_lt
 refine ⟨?_,by omega⟩
 rw [show (b.toNat:Int) * 281474976710656=((281474976710656 * b.toNat:Nat):Int) from by omega]
 exact qE 48 _ _ (by omega) (by omega) (by omega) (by omega)
theorem orn7 (S:Nat) (b:UInt8) (h:S < 72057594037927936):bits .or .u64 (S:Int) ((b.toNat:Int) * 72057594037927936)=((S + 72057594037927936 * b.toNat:Nat):Int)∧S + 72057594037927936 * b.toNat < 18446744073709551616:=by
 have:=b.toNat_lt
 refine ⟨?_,by omega⟩
 rw [show (b.toNat:Int) * 72057594037927936=((72057594037927936 * b.toNat:Nat):Int) from by omega]
 exact qE 56 _ _ (by omega) (by omega) (by omega) (by omega)
theorem JF (a b c d e f g h:UInt8) (w:World) :
  Calls Tryz.prog 274 #[.string (crcm.mk [a,b,c,d,e,f,g,h])] w λe' w'=>e'=.returned (.int .u64 (rl.num [a,b,c,d,e,f,g,h]:Nat))∧Below w.heap.size w w':=by
 have hsz:(crcm.mk [a,b,c,d,e,f,g,h]).size=8:=rfl;have hconv:=Lib.run_convert_string_bytes (P:=Tryz.prog) w 9 23 5 (crcm.mk [a,b,c,d,e,f,g,h]) Tryz.underlying9 Tryz.underlying23 Tryz.underlying5;rw [hsz] at hconv
 have hcell:=λk hk=>Lib.bytesWorld_cell w 5 (crcm.mk [a,b,c,d,e,f,g,h]) k hk
 have c0:=hcell 0 (by rw [hsz];decide)
 have c1:=hcell 1 (by rw [hsz];decide)
 have c2:=hcell 2 (by rw [hsz];decide)
 have c3:=hcell 3 (by rw [hsz];decide)
 have c4:=hcell 4 (by rw [hsz];decide)
 have c5:=hcell 5 (by rw [hsz];decide)
 have c6:=hcell 6 (by rw [hsz];decide)
 have c7:=hcell 7 (by rw [hsz];decide)
 have hb:=qR w 5 (crcm.mk [a,b,c,d,e,f,g,h]);obtain ⟨w1,hw1⟩:∃ w1,Lib.bytesWorld w 5 (crcm.mk [a,b,c,d,e,f,g,h])=w1:=⟨_,rfl⟩;rw [hw1] at hconv hb c0 c1 c2 c3 c4 c5 c6 c7;clear hcell hw1
 rw [show (crcm.mk [a,b,c,d,e,f,g,h]).data.toList.getD 0 0=a from rfl] at c0
 rw [show (crcm.mk [a,b,c,d,e,f,g,h]).data.toList.getD 1 0=b from rfl] at c1
 rw [show (crcm.mk [a,b,c,d,e,f,g,h]).data.toList.getD 2 0=c from rfl] at c2
 rw [show (crcm.mk [a,b,c,d,e,f,g,h]).data.toList.getD 3 0=d from rfl] at c3
 rw [show (crcm.mk [a,b,c,d,e,f,g,h]).data.toList.getD 4 0=e from rfl] at c4
 rw [show (crcm.mk [a,b,c,d,e,f,g,h]).data.toList.getD 5 0=f from rfl] at c5
 rw [show (crcm.mk [a,b,c,d,e,f,g,h]).data.toList.getD 6 0=g from rfl] at c6
 rw [show (crcm.mk [a,b,c,d,e,f,g,h]).data.toList.getD 7 0=h from rfl] at c7
 have la:a.toNat < 256:=a.toNat_lt;have lb:b.toNat < 256:=b.toNat_lt;have lc:c.toNat < 256:=c.toNat_lt;have ld:d.toNat < 256:=d.toNat_lt;have le:e.toNat < 256:=e.toNat_lt;have lf:f.toNat < 256:=f.toNat_lt;have lg:g.toNat < 256:=g.toNat_lt;have lh:h.toNat < 256:=h.toNat_lt;have hfin:=rl.num8 a b c d e f g h
 have o0:bits .or .u64 0 (a.toNat:Int)=(a.toNat:Int):=by have:=qE 0 0 a.toNat (by omega) (by omega) (by omega) (by omega);simpa using this
 have o1:=orn1 _ b la;obtain ⟨S1,hS1⟩:∃ S,a.toNat + 256 * b.toNat=S:=⟨_,rfl⟩;rw [hS1] at o1 hfin;obtain ⟨o1,p1⟩:=o1;clear hS1;have o2:=orn2 _ c p1;obtain ⟨S2,hS2⟩:∃ S,S1 + 65536 * c.toNat=S:=⟨_,rfl⟩;rw [hS2] at o2 hfin;obtain ⟨o2,p2⟩:=o2;clear hS2;have o3:=orn3 _ d p2;obtain ⟨S3,hS3⟩:∃ S,S2 + 16777216 * d.toNat=S:=⟨_,rfl⟩;rw [hS3] at o3 hfin;obtain ⟨o3,p3⟩:=o3;clear hS3;have o4:=orn4 _ e p3;obtain ⟨S4,hS4⟩:∃ S,S3 + 4294967296 * e.toNat=S:=⟨_,rfl⟩;rw [hS4] at o4 hfin;obtain ⟨o4,p4⟩:=o4;clear hS4;have o5:=orn5 _ f p4;obtain ⟨S5,hS5⟩:∃ S,S4 + 1099511627776 * f.toNat=S:=⟨_,rfl⟩;rw [hS5] at o5 hfin;obtain ⟨o5,p5⟩:=o5;clear hS5;have o6:=orn6 _ g p5;obtain ⟨S6,hS6⟩:∃ S,S5 + 281474976710656 * g.toNat=S:=⟨_,rfl⟩;rw [hS6] at o6 hfin;obtain ⟨o6,p6⟩:=o6;clear hS6;have o7:=orn7 _ h p6;obtain ⟨S7,hS7⟩:∃ S,S6 + 72057594037927936 * h.toNat=S:=⟨_,rfl⟩;rw [hS7] at o7 hfin;obtain ⟨o7,p7⟩:=o7;clear hS7;have HF:=Uq hfin;clear hfin
 go_enter Tryz.func274,Tryz.ntmps274
 go_wp2;refine wp_loop_rounds 9 ?_;rw [rounds_succ];go_wp2;rw [rounds_succ];go_wp2;rw [rounds_succ];go_wp2;rw [rounds_succ];go_wp2;rw [rounds_succ];go_wp2;rw [rounds_succ];go_wp2;rw [rounds_succ];go_wp2;rw [rounds_succ];go_wp2;rw [rounds_succ];go_wp2;go_ret
 exact ⟨Zl (zh (by rw [HF.out])),hb⟩
theorem Ents.at_ {w:World} {A:Option Addr} {n c:Nat} {ls:List rl.Ent} (h:Ents w (.slice A n c) ls) (hlt:0 < ls.length):∃ b o,A=some ⟨b,o,none⟩∧EntsAt w b o ls:=by
 obtain ⟨A',c',e,_,_,h0⟩:=h
 obtain ⟨rfl,_,rfl⟩:A=A'∧n=ls.length∧c=c':=by injection e with e1 e2 e3;exact ⟨e1,e2,e3⟩
 exact h0 hlt
theorem Ents.row {w:World} {A:Option Addr} {n c:Nat} {ls:List rl.Ent} (h:Ents w (.slice A n c) ls) (k:Nat) (hk:k < n) :
  ∃ b o,A=some ⟨b,o,none⟩∧w.cell? ⟨b,o + k * 2,none⟩=some (.int .u64 ((ls.getD k rl.e0).1:Int))∧w.cell? ⟨b,o + k * 2 + 1,none⟩=some (.string (crcm.mk (ls.getD k rl.e0).2)):=by
 have hn:n=ls.length:=by obtain ⟨A',c',e,_⟩:=h;injection e
 obtain ⟨b,o,rfl,hA⟩:=h.at_ (by omega)
 obtain ⟨h0,h1⟩:=hA k (by omega)
 exact ⟨b,o,rfl,h0,h1⟩
structure HBox (W:World) (g T:Nat) (V:Int) (v:Value) (ls:List rl.Ent):Prop where
 c0:W.cell? ⟨g,0,none⟩=some (.int .u64 (T:Int))
 c1:W.cell? ⟨g,1,none⟩=some (.int .i64 V)
 c2:W.cell? ⟨g,2,none⟩=some v
 e:Ents W v ls
theorem HBox.new {W:World} {T:Nat} {V:Int} {v:Value} {ls:List rl.Ent} (t:TypeId) (h:Ents W v ls):HBox (W.alloc (.cells #[.int .u64 (T:Int),.int .i64 V,v] t)) W.heap.size T V v ls:=by
 obtain ⟨b0,b1,b2⟩:=zl W (.int .u64 (T:Int)) (.int .i64 V) v t;exact ⟨b0,b1,b2,h.below (qN _ _)⟩
theorem vS (w:World) (a b c:Value) (t:TypeId):Below w.heap.size w (w.alloc (.cells #[a,b,c] t)):=qN _ _
namespace rl
def enc (t:Ent):List UInt8:=le8 t.1 ++ t.2
def head (T:Nat) (V:Int):List UInt8:=le8 T ++ [UInt8.ofNat (V + 1).toNat]
def texts (T:Nat) (V:Int) (ls:List Ent):List (List UInt8):=head T V :: ls.map enc
end rl
theorem Jm (T:Nat) (V:Int) (ls:List rl.Ent) (k:Nat) (h:k < ls.length):rl.texts T V (ls.take k) ++ [rl.enc (ls.getD k rl.e0)]=rl.texts T V (ls.take (k + 1)):=by
 unfold rl.texts;rw [Xo h,List.map_append]
 rfl
def Writable (T:Nat) (ls:List rl.Ent):Prop:=T < 18446744073709551616∧ls.length≤10000∧∀ t ∈ ls,t.1 < 18446744073709551616∧t.2.length≤60000
set_option maxRecDepth 100000 in
theorem Jn (T:Nat) (V:Int) (v:Value) (ls:List rl.Ent) (w:World) (hv:Ents w v ls) (h1:-1≤V) (h2:V≤254) (hw:Writable T ls) :
  Calls Tryz.prog 272 #[stV T V v] w λe w'=>∃ u,e=.returned (.tuple #[u,.int .i64 0])∧w'.ownsRow w.heap.size 9 1 u (ls.length + 1) ((rl.texts T V ls).map strV)∧Below w.heap.size w w':=by
 obtain ⟨i0,hi,hz0,hz1,hz2⟩:=info_parts yF;obtain ⟨A,c,hu⟩:=hv.form;obtain ⟨n,hn⟩:∃ n,ls.length=n:=⟨_,rfl⟩;rw [hn] at hu ⊢;subst hu;obtain ⟨hT,hl,hall⟩:=hw;rw [hn] at hl;have hx:=HBox.new (T:=T) (V:=V) 96 hv;have hb:=vS w (.int .u64 (T:Int)) (.int .i64 V) (.slice A n c) 96;obtain ⟨b0,b1,b2⟩:=zl w (.int .u64 (T:Int)) (.int .i64 V) (.slice A n c) 96
 obtain ⟨q,hq⟩:∃ q:Nat,V + 1=(q:Int):=⟨(V + 1).toNat,by omega⟩
 have hq2:q < 256:=by omega
 have hqh:rl.head T V=rl.le8 T ++ [UInt8.ofNat q]:=by unfold rl.head;rw [hq];rfl
 have hcat:crcm.mk (rl.le8 T) ++ crcm.mk [UInt8.ofNat q]=crcm.mk (rl.head T V):=by rw [hqh];exact crcm.mk_append _ _
 have d1:decide (V < -1)=false:=by simp;omega
 have d2:decide (254 < V)=false:=by simp;omega
 have hs1:(crcm.mk (rl.le8 T)).size=8:=rfl;have hs2:(crcm.mk [UInt8.ofNat q]).size=1:=rfl;have Hn:=Uq hn;have HX:=Uq hx;have HB:=Uq hb;have HT:=Uq hT;have HALL:=Uq hall;have HV:=Uq hv;clear hqh hn hx hb hT hall hv;unfold stV
 go_enter Tryz.func272,Tryz.ntmps272
 go_wp2;have hx:=HX.out;have hb:=HB.out;obtain ⟨X,hXe⟩:∃ X,w.alloc (.cells #[.int .u64 (T:Int),.int .i64 V,.slice A n c] 96)=X:=⟨_,rfl⟩;rw [hXe] at hx hb b0 b1 b2 ⊢;clear hXe HX HB
 have MK:Hid (∀ w',Below X.heap.size X w'→w'.cell? ⟨w.heap.size,0,none⟩=some (.int .u64 (T:Int))∧w'.cell? ⟨w.heap.size,1,none⟩=some (.int .i64 V)∧w'.cell? ⟨w.heap.size,2,none⟩=some (.slice A n c)):=Uq (λw' h=>⟨cell_later h hx.c0,cell_later h hx.c1,cell_later h hx.c2⟩)
 have hW:Below X.heap.size X X.drew:=below_drewN (Below.refl _ X) 1;have HB:=Uq hb;have HX:=Uq hx
 have hqw:IntKind.i64.wrap (V + 1)=(q:Int):=by rw [hq];simp [IntKind.wrap,IntKind.bits,IntKind.signed];omega
 have Hq:=Uq hq;clear hb hx b0 b1 b2 hq
 go_region_held3 (λw'=>w'.cell? ⟨w.heap.size,0,none⟩=some (.int .u64 (T:Int))∧w'.cell? ⟨w.heap.size,1,none⟩=some (.int .i64 V)∧w'.cell? ⟨w.heap.size,2,none⟩=some (.slice A n c))
  (first | exact MK.out _ hW | exact MK.out _ (hW.trans ((qN _ _).mono hW.size)))
  (first | (go_at_call 376;refine (Yv T _ HT.out).mono ?_;rintro e w6 ⟨rfl,hb⟩;have hW:=hW.trans (hb.mono hW.size)) | (go_at_call 377;refine (jk q _ hq2).mono ?_;rintro e w6 ⟨rfl,hb⟩;have hW:=hW.trans (hb.mono hW.size)))
 have hB6:Below w.heap.size w w6:=HB.out.trans (hW.mono HB.out.size)
 have hown0:(w6.alloc (.cells #[.string (crcm.mk (rl.head T V))] 9)).ownsRow w.heap.size 9 1 (.slice (some ⟨w6.heap.size,0,none⟩) 1 1) (0 + 1) ((rl.texts T V (ls.take 0)).map strV):=
  ⟨rfl,.inr ⟨w6.heap.size,1,#[.string (crcm.mk (rl.head T V))],rfl,hB6.size,heap_alloc_new w6 _,Nat.le_refl _,by unfold maxLen;omega,rfl,rfl⟩⟩
 have hB7:Below w.heap.size w (w6.alloc (.cells #[.string (crcm.mk (rl.head T V))] 9)):=hB6.alloc hB6.size _;have c2:=(MK.out _ (hW.trans ((qN w6 (.cells #[.string (crcm.mk (rl.head T V))] 9)).mono hW.size))).2.2;have HO0:=Uq hown0;have HB7:=Uq hB7;clear hown0 hB7 hB6 hW hb hqw hcat hs1 hs2;simp only [Exit.then];go_wp2
 go_loopw [4,27] (λv i wr=>∃ k:Nat,k≤n∧i=.int .i64 k∧wr.ownsRow w.heap.size 9 1 v (k + 1) ((rl.texts T V (ls.take k)).map strV)∧Below w.heap.size w wr) (λ_ i _=>n - (intOf i).toNat)
 case atStart=>exact ⟨0,Nat.zero_le _,rfl,HO0.out,HB7.out⟩
 case round=>
  obtain ⟨k,hk,rfl,hown,hb⟩:=hrel;have HO:=Uq hown;have HBB:=Uq hb;clear hown hb
  by_cases hlt:k < n
  ·obtain ⟨b,o,rfl,x0,x1⟩:=(HV.out.below HBB.out).row k hlt
   have hmem:=HALL.out _ (uG (ls:=ls) (k:=k) (by rw [Hn.out];exact hlt))
   have hnx:=Jm T V ls k (by rw [Hn.out];exact hlt)
   obtain ⟨x,hx⟩:∃ x,ls.getD k rl.e0=x:=⟨_,rfl⟩;rw [hx] at x0 x1 hmem hnx;obtain ⟨hm1,hm2⟩:=hmem
   have hsz:(crcm.mk x.2).size≤60000:=by rw [crcm.mk_size];exact hm2
   have hs8:(crcm.mk (rl.le8 x.1)).size=8:=rfl;have hcat:crcm.mk (rl.le8 x.1) ++ crcm.mk x.2=crcm.mk (rl.enc x):=crcm.mk_append _ _
   have hi1:(k:Int) < (n:Int):=by omega
   have HNX:=Uq hnx;have HM1:=Uq hm1;clear hx hnx hm1;obtain ⟨g0,g1⟩:=Zu wr (.int .u64 (x.1:Int)) (.string (crcm.mk x.2)) 36;have HA:=Uq (qN wr (.cells #[.int .u64 (x.1:Int),.string (crcm.mk x.2)] 36));go_wp2;obtain ⟨Y,hY⟩:∃ Y,wr.alloc (.cells #[.int .u64 (x.1:Int),.string (crcm.mk x.2)] 36)=Y:=⟨_,rfl⟩;have ha:=HA.out;rw [hY] at g0 g1 ha ⊢
   have hOY:Y.ownsRow w.heap.size 9 1 u4 (k + 1) ((rl.texts T V (ls.take k)).map strV):=by rw [← hY];exact HO.out.alloc _
   have HOY:=Uq hOY;have HBY:=Uq (HBB.out.trans (ha.mono HBB.out.size));clear hY HA ha hOY x0 x1;have hW9:Below Y.heap.size Y Y.drew:=below_drewN (Below.refl _ Y) 1
   have hk1:k + 1≤10000:=by omega
   have hno:¬ 9223372036854775807 < 8 + (crcm.mk x.2).size:=by omega
   go_region_law (first | (refine qA rfl (.tmp 35) (.tmp 42) 22 rfl w.heap.size 9 i0 _ 1 16 Tryz.underlying22 hi hz0 hz1 hz2 rfl (by decide) u4 (k + 1) _ rfl ((qJ HOY.out hW9).alloc _) ⟨w9.heap.size,0,none⟩ 1 1 [strV (rl.enc x)] rfl rfl (qw _ _ _) (KV _) ?_ ?_ ?_ ?_;unfold maxLen;omega;omega;(have q1:=hW9.size;have q2:=HBY.out.size;simp;omega);intro v' w3 hown' hgrow') | (go_simp;go_at_call 376;refine (Yv x.1 _ HM1.out).mono ?_;rintro e w9 ⟨rfl,hb9⟩;have hW9:=hW9.trans (hb9.mono hW9.size);have g0':=cell_later hW9 g0;have g1':=cell_later hW9 g1))
   all_goals
    have hb9':Below w.heap.size w w9:=HBY.out.trans (hW9.mono HBY.out.size)
    have hb3:Below w.heap.size w w3:=(hb9'.alloc hb9'.size _).grown hgrow' (by have:=hb9'.size;simp;omega) (λj hj=>(HOY.out.lt j hj).1)
    have hown3:w3.ownsRow w.heap.size 9 1 v' (k + 1 + 1) ((rl.texts T V (ls.take (k + 1))).map strV):=by
     rw [← HNX.out,List.map_append];exact hown'
    have HO3:=Uq hown3;have HB3:=Uq hb3;clear hown' hgrow' hown3 hb3 hb9' hb9 hW9 g0' g1' g0 g1 hcat;simp only [Exit.inBlock,Exit.then];go_wp2;go_roundw
    case rel=>exact ⟨k + 1,by omega,by go_num,HO3.out,HB3.out⟩
    case measure=>simp [intOf];omega
  ·obtain rfl:k=n:=by omega
   have htk:ls.take k=ls:=List.take_of_length_le (by rw [Hn.out];exact Nat.le_refl _)
   rw [htk] at HO;go_wp2
   go_ret2
   exact ⟨_,rfl,HO.out,HBB.out⟩
namespace rl
def dec (t:List UInt8):Ent:=(num (t.take 8),t.drop 8)
def okText (t:List UInt8):Bool:=decide (8≤t.length) && decide (t.length≤60008)
def vote (h:List UInt8):Int:=((h.getD 8 0).toNat:Int) - 1
def from_ (ts:List (List UInt8)):(Nat × Int × List Ent) × Nat:=
 match ts with
 | []=>((0,-1,[]),0)
 | h :: r=>if h.length=9∧r.all okText=true then ((num (h.take 8),vote h,r.map dec),0) else ((0,0,[]),50)
theorem dec_enc (t:Ent) (h:t.1 < 18446744073709551616):dec (enc t)=t:=by
 unfold dec enc
 rw [List.take_append_of_le_length (by rw [le8_len];omega),List.take_of_length_le (by rw [le8_len];omega),List.drop_append_of_le_length (by rw [le8_len];omega),List.drop_of_length_le (by rw [le8_len];omega),num_le8 _ h]
 rfl
theorem from_texts (T:Nat) (V:Int) (ls:List Ent) (hT:T < 18446744073709551616) (h1:-1≤V) (h2:V≤254) (ha:∀ t ∈ ls,t.1 < 18446744073709551616∧t.2.length≤60000):from_ (texts T V ls)=((T,V,ls),0):=by
 unfold from_ texts;have hh:(head T V).length=9:=rfl
 have hall:(ls.map enc).all okText=true:=by
  rw [List.all_map,List.all_eq_true];intro t ht;have:=(ha t ht).2;simp only [Function.comp,okText,enc,Bool.and_eq_true,decide_eq_true_eq,List.length_append,le8_len];omega
 simp only;rw [if_pos ⟨hh,hall⟩];have e1:num ((head T V).take 8)=T:=num_le8 T hT
 have e2:vote (head T V)=V:=by
  unfold vote
  rw [show (head T V).getD 8 0=UInt8.ofNat (V + 1).toNat from rfl,UInt8.toNat_ofNat',Nat.mod_eq_of_lt (by omega)]
  omega
 have e3:(ls.map enc).map dec=ls:=by
  rw [List.map_map]
  conv=>rhs;rw [← List.map_id ls]
  apply List.map_congr_left
  intro t ht;exact dec_enc t (ha t ht).1
 rw [e1,e2,e3]
end rl
theorem ZK (l:List UInt8) (w:World) (h:l.length=8) :
  Calls Tryz.prog 274 #[.string (crcm.mk l)] w λe' w'=>e'=.returned (.int .u64 (rl.num l:Nat))∧Below w.heap.size w w':=by
 obtain ⟨a,b,c,d,e,f,g,i,rfl⟩:=rl.eight l h;exact JF a b c d e f g i w
theorem jH (t:List UInt8):(crcm.mk t).extract 0 8=crcm.mk (t.take 8):=by
 rw [← crcm.mk_of ((crcm.mk t).extract 0 8),Lib.extract_data,List.drop_zero]
 rfl
theorem uW (t:List UInt8):(crcm.mk t).extract 8 (crcm.mk t).size=crcm.mk (t.drop 8):=by
 rw [← crcm.mk_of ((crcm.mk t).extract 8 (crcm.mk t).size),Lib.extract_data,List.take_of_length_le]
 ·rfl
 ·rw [List.length_drop,crcm.mk_toList,crcm.mk_size];omega
def Q7 (ts:List (List UInt8)) (w:World) (e:Ending) (w':World):Prop:=
 ∃ u,e=.returned (.tuple #[stV (rl.from_ ts).1.1 (rl.from_ ts).1.2.1 u,.int .i64 ((rl.from_ ts).2:Nat)])∧EntsB 0 w' u (rl.from_ ts).1.2.2∧Below w.heap.size w w'
theorem vf (A:Option Addr) (c:Nat) (w:World):Calls Tryz.prog 159 #[.slice A 0 c] w (Q7 [] w):=by
 have bs:=Blk.new w [.int .u64 0,.int .i64 0,.slice none 0 0] 96;have hb:=qN w (.cells #[.int .u64 0,.int .i64 0,.slice none 0 0] 96);have HB:=Uq hb;have BS:=Uq bs;clear hb bs
 go_enter Tryz.func159,Tryz.ntmps159
 go_wp2;refine bodyPost_ret (qj rfl _ _ w.heap.size _ _ (0,0) _ rfl (heap_alloc_new w _) Tryz.underlying96 rfl Qh) rfl ?_;exact ⟨.slice none 0 0,rfl,EntsB.nil 0 _,qN w _⟩
theorem Strs.row {w:World} {A:Option Addr} {n c:Nat} {ls:List (List UInt8)} (h:Strs w (.slice A n c) ls) (k:Nat) (hk:k < n):∃ ad,A=some ad∧w.cell? (ad.add k)=some (.string (crcm.mk (ls.getD k []))):=by
 obtain ⟨A',c',e,h0⟩:=h
 obtain ⟨rfl,rfl,rfl⟩:A=A'∧n=ls.length∧c=c':=by injection e with e1 e2 e3;exact ⟨e1,e2,e3⟩
 exact h0 k hk
theorem vb (h:List UInt8) (r:List (List UInt8)) (k:Nat):(h :: r).getD (k + 1) []=r.getD k []:=by
 rw [List.getD_eq_getElem?_getD,List.getD_eq_getElem?_getD,List.getElem?_cons_succ]
theorem tmem {ls:List (List UInt8)} {k:Nat} (h:k < ls.length):ls.getD k [] ∈ ls:=by
 rw [List.getD_eq_getElem?_getD,List.getElem?_eq_getElem h];exact List.getElem_mem _
theorem ttake {ls:List (List UInt8)} {k:Nat} (h:k < ls.length):ls.take (k + 1)=ls.take k ++ [ls.getD k []]:=by
 rw [List.take_add_one,List.getD_eq_getElem?_getD,List.getElem?_eq_getElem h];rfl
theorem YD {ts:List (List UInt8)} {w wr:World} {a b c:Value} {tmps:Array Value} (hb:Below w.heap.size w wr) (hX:Blk wr w.heap.size [a,b,c] 96) (hf:rl.from_ ts=((0,0,[]),50))
  (h2:tmps.getD 2 undef=.pointer (some ⟨w.heap.size,0,none⟩)) (h3:tmps.getD 3 undef=.int .i64 50) :
  bodyPost Tryz.prog Tryz.f159 (Q7 ts w) Exit.ret { tmps:=tmps,defers:=[] } (((wr.setCell ⟨w.heap.size,0,none⟩ (.int .u64 0)).setCell ⟨w.heap.size,1,none⟩ (.int .i64 0)).setCell ⟨w.heap.size,2,none⟩ (.slice none 0 0)):=by
 have hR:=((hX.set 0 (.int .u64 0)).set 1 (.int .i64 0)).set 2 (.slice none 0 0);refine bodyPost_ret (qj rfl _ _ w.heap.size _ _ (0,0) _ h2 hR Tryz.underlying96 rfl Qh) rfl ?_;rw [h3];unfold Q7;rw [hf];exact ⟨.slice none 0 0,rfl,EntsB.nil 0 _,((hb.setCell (p:=⟨w.heap.size,0,none⟩) (Nat.le_refl _) _).setCell (p:=⟨w.heap.size,1,none⟩) (Nat.le_refl _) _).setCell (p:=⟨w.heap.size,2,none⟩) (Nat.le_refl _) _⟩
set_option maxRecDepth 100000 in
set_option maxHeartbeats 8000000 in
theorem ve (A:Option Addr) (n c:Nat) (h:List UInt8) (r:List (List UInt8)) (w:World) (hs:Strs w (.slice A n c) (h :: r)) (hn:r.length + 1=n) (hl:n≤10000) (hall:∀ t ∈ h :: r,t.length≤maxLen) :
  Calls Tryz.prog 159 #[.slice A n c] w (Q7 (h :: r) w):=by
 obtain ⟨i0,hi,hz0,hz1,hz2⟩:=info_parts zj;have bs:=Blk.new w [.int .u64 0,.int .i64 0,.slice none 0 0] 96;have hb:=qN w (.cells #[.int .u64 0,.int .i64 0,.slice none 0 0] 96)
 have hn0:((n:Int) == 0)=false:=by rw [beq_eq_false_iff_ne];omega
 have HB0:=Uq hb;have BS0:=Uq bs;have HS:=Uq hs;have Hn:=Uq hn;have HALL:=Uq hall
 have hnr:r.length < n:=by omega
 clear hb bs hs hn hall
 go_enter Tryz.func159,Tryz.ntmps159
 go_wp2
 go_loopw [12] (λi wr=>∃ (k:Nat) (T':Nat) (V':Int) (u:Value),k≤n∧i=.int .i64 k∧Blk wr w.heap.size [.int .u64 (T':Int),.int .i64 V',u] 96∧wr.ownsRow (w.heap.size + 1) 36 2 u (k - 1) (qg ((r.take (k - 1)).map rl.dec))∧Below w.heap.size w wr ∧
  (0 < k→h.length=9∧T'=rl.num (h.take 8)∧V'=rl.vote h∧(r.take (k - 1)).all rl.okText=true)∧(k=0→T'=0∧V'=0)) (λi _=>n - (intOf i).toNat)
 case atStart=>exact ⟨0,0,0,.slice none 0 0,Nat.zero_le _,rfl,BS0.out,World.ownsRow_nil _ _ _ _,HB0.out,λhk=>absurd hk (by decide),λ_=>⟨rfl,rfl⟩⟩
 case round=>
  obtain ⟨k,T',V',u,hk,rfl,hX,hown,hbel,hpos,hzero⟩:=hrel;obtain ⟨Au,cu,hu⟩:=ql hown;subst hu;have x0:=hX.cell 0 _ rfl;have x1:=hX.cell 1 _ rfl;have x2:=hX.cell 2 _ rfl;have q0:=hX.free 0;have q1:=hX.free 1;have q2:=hX.free 2;have HX:=Uq hX;have HO:=Uq hown;have HB:=Uq hbel;have HP:=Uq hpos;have HZ:=Uq hzero;clear hX hown hbel hpos hzero
  by_cases hlt:k < n
  ·obtain ⟨ad,rfl,y0⟩:=(HS.out.below HB.out).row k hlt
   have hi1:(k:Int) < (n:Int):=by omega
   by_cases hk0:k=0
   ·subst hk0
    rw [show (h :: r).getD 0 []=h from rfl,add_zero] at y0
    by_cases h9:h.length=9
    ·have hsz:(crcm.mk h).size=9:=by rw [crcm.mk_size];exact h9
     have hch:=jH h
     have g8:=QN (crcm.mk h) 8 (by rw [hsz];decide)
     have hv8:rl.vote h=((h.getD 8 0).toNat:Int) - 1:=rfl;rw [crcm.mk_toList] at g8;obtain ⟨b,hb⟩:∃ b:UInt8,h.getD 8 0=b:=⟨_,rfl⟩;rw [hb] at g8 hv8;have hbt:b.toNat < 256:=b.toNat_lt
     have ht8:(h.take 8).length=8:=by rw [List.length_take];omega
     have HV8:=Uq hv8;have HT8:=Uq ht8;have H9:=Uq h9;clear hv8 hb ht8 h9;go_wp2
     go_region_with (go_at_call 274;refine (ZK (h.take 8) _ HT8.out).mono ?_;rintro e w6 ⟨rfl,hb6⟩;have hX6:=Blk.below (w:=wr.drew) HX.out hb6;have z0:=hX6.cell 0 _ rfl;have z1:=hX6.cell 1 _ rfl;have p0:=hX6.free 0;have p1:=hX6.free 1)
     all_goals
      have hX7:=(hX6.set 0 (.int .u64 ((rl.num (h.take 8):Nat):Int))).set 1 (.int .i64 ((b.toNat:Int) - 1))
      have hB6:Below w.heap.size w w6:=HB.out.trans ((below_drewN (Below.refl _ wr) 1).trans hb6 |>.mono HB.out.size)
      have hB7:Below w.heap.size w ((w6.setCell ⟨w.heap.size,0,none⟩ (.int .u64 ((rl.num (h.take 8):Nat):Int))).setCell ⟨w.heap.size,1,none⟩ (.int .i64 ((b.toNat:Int) - 1))):=(hB6.setCell (p:=⟨w.heap.size,0,none⟩) (Nat.le_refl _) _).setCell (p:=⟨w.heap.size,1,none⟩) (Nat.le_refl _) _
      have hO7:((w6.setCell ⟨w.heap.size,0,none⟩ (.int .u64 ((rl.num (h.take 8):Nat):Int))).setCell ⟨w.heap.size,1,none⟩ (.int .i64 ((b.toNat:Int) - 1))).ownsRow (w.heap.size + 1) 36 2 (.slice Au (0 - 1) cu) (0 - 1) (qg ((r.take (0 - 1)).map rl.dec)):=by
       have h1:=qJ (a:=wr.drew) HO.out hb6
       have hfar:∀ {X:World} (hh:X.ownsRow (w.heap.size + 1) 36 2 (.slice Au (0 - 1) cu) (0 - 1) (qg ((r.take (0 - 1)).map rl.dec))) (j:Nat) (x:Value),(X.setCell ⟨w.heap.size,j,none⟩ x).ownsRow (w.heap.size + 1) 36 2 (.slice Au (0 - 1) cu) (0 - 1) (qg ((r.take (0 - 1)).map rl.dec)):=λhh j x=>
        hh.kept (Ql _ _ _) (by
         cases ho:(Value.slice Au (0 - 1) cu).ownBlock with
         | none=>exact .inl rfl
         | some g=>exact .inr (by have:=(hh.lt g ho).1;simp;omega))
       exact hfar (hfar h1 0 _) 1 _
      have HX7:=Uq hX7;have HB7:=Uq hB7;have HO7:=Uq hO7;clear hX7 hB7 hO7 hB6 hb6 hX6 z0 z1 p0 p1;simp only [Exit.then,Exit.inBlock];go_wp2;go_roundw
      case rel=>exact ⟨1,_,_,_,by omega,rfl,HX7.out,HO7.out,HB7.out,λ_=>⟨H9.out,rfl,HV8.out.symm,rfl⟩,λhh=>absurd hh (by decide)⟩
      case measure=>simp [intOf];omega
    ·have hsz:¬ (crcm.mk h).size=9:=by rw [crcm.mk_size];exact h9
     have hsz2:(((crcm.mk h).size:Int) == 9)=false:=by rw [beq_eq_false_iff_ne];omega
     have hfin:rl.from_ (h :: r)=((0,0,[]),50):=by
      unfold rl.from_;simp only
      rw [if_neg (λe=>h9 e.1)]
     have HF:=Uq hfin;clear hfin;go_wp2;refine YD HB.out HX.out HF.out rfl rfl
   ·obtain ⟨j,hj⟩:∃ j,k=j + 1:=⟨k - 1,by omega⟩
    have ho:=HO.out;have hx:=HX.out
    have hp:=HP.out (by omega)
    rw [show k - 1=j from by omega] at ho hx hp x2
    have hjn:j + 1 < n:=by omega
    rw [hj] at y0;obtain ⟨p9,pT,pV,pall⟩:=hp
    have hjr:j < r.length:=by have:=Hn.out;omega
    rw [vb] at y0;have htm:=tmem hjr;have htl:=HALL.out _ (List.mem_cons_of_mem h htm);have htt:=ttake hjr;obtain ⟨t,ht⟩:∃ t,r.getD j []=t:=⟨_,rfl⟩;rw [ht] at y0 htm htl htt;rw [← hj] at y0
    have hk1:((k:Int) == 0)=false:=by rw [beq_eq_false_iff_ne];omega
    have hk2:(0:Int) < (k:Int):=by omega
    have HJ:=Uq hj
    have hszm:(crcm.mk t).size≤9223372036854775807:=by rw [crcm.mk_size];unfold maxLen at htl;omega
    have HO2:=Uq ho;have HX2:=Uq hx;have HP9:=Uq p9;have HPT:=Uq pT;have HPV:=Uq pV;have HPA:=Uq pall;have HTM:=Uq htm;have HTT:=Uq htt;clear ho hx p9 pT pV pall ht htm htl htt HO HX HP hk0 hj
    by_cases hok:rl.okText t=true
    ·have hb8:8≤t.length∧t.length≤60008:=by unfold rl.okText at hok;simpa using hok
     have hs1:8≤(crcm.mk t).size:=by rw [crcm.mk_size];exact hb8.1
     have hs2:(crcm.mk t).size≤60008:=by rw [crcm.mk_size];exact hb8.2
     have hi8:(8:Int)≤((crcm.mk t).size:Int):=by omega
     have hi9:((crcm.mk t).size:Int)≤60008:=by omega
     have hch:=jH t;have hcr:=uW t
     have ht8:(t.take 8).length=8:=by rw [List.length_take];omega
     have hdec:qg [rl.dec t]=[.int .u64 ((rl.num (t.take 8):Nat):Int),.string (crcm.mk (t.drop 8))]:=rfl;have HT8:=Uq ht8;have HOK:=Uq hok;have HDC:=Uq hdec
     have hj5:j + 1≤10000:=by omega
     clear ht8 hok hdec hb8;go_wp2;have hW9:Below wr.heap.size wr wr.drew:=below_drewN (Below.refl _ wr) 1
     go_region_law (first | (refine qA rfl (.tmp 49) (.tmp 56) 29 rfl (w.heap.size + 1) 36 i0 _ 2 24 Tryz.underlying29 hi hz0 hz1 hz2 rfl (by decide) (.slice Au j cu) j _ rfl ((qJ HO2.out hW9).alloc _) ⟨w6.heap.size,0,none⟩ 1 1 [.int .u64 ((rl.num (t.take 8):Nat):Int),.string (crcm.mk (t.drop 8))] rfl rfl (Zs _ _ _ _) (Qd [rl.dec t]) ?_ ?_ ?_ ?_;unfold maxLen;omega;omega;(have q5:=hW9.size;have q6:=HX2.out.lt;simp;omega);intro v' w3 hown' hgrow';obtain ⟨A',c',rfl⟩:=ql hown';have hne:some w.heap.size ≠ (Value.slice Au j cu).ownBlock:=(λe=>by have:=(HO2.out.lt _ e.symm).1;omega);have hX3:=((HX2.out.below hW9).alloc (.cells #[.int .u64 ((rl.num (t.take 8):Nat):Int),.string (crcm.mk (t.drop 8))] 36)).grown hgrow' hne;have of3:=hX3.free 2;have o23:=hX3.cell 2 _ rfl) | (go_simp;go_at_call 274;refine (ZK (t.take 8) _ HT8.out).mono ?_;rintro e w6 ⟨rfl,hb6⟩;have hW9:=hW9.trans (hb6.mono hW9.size);have z2:=(HX2.out.below hW9).cell 2 _ rfl;have z3:=((HX2.out.below hW9).alloc (.cells #[.int .u64 ((rl.num (t.take 8):Nat):Int),.string (crcm.mk (t.drop 8))] 36)).cell 2 _ rfl))
     all_goals
      have hX4:=hX3.set 2 (.slice A' (j + 1) c')
      have hown4:=hown'.kept (Ql w3 ⟨w.heap.size,2,none⟩ (.slice A' (j + 1) c')) (by
       cases ho:(Value.slice A' (j + 1) c').ownBlock with
       | none=>exact .inl rfl
       | some g=>exact .inr (by have:=(hown'.lt g ho).1;simp;omega))
      have hb3:Below w.heap.size w w3:=((HB.out.trans (hW9.mono HB.out.size)).alloc (by have q5:=hW9.size;have q6:=HX2.out.lt;omega) _).grown hgrow' (by have q5:=hW9.size;have q6:=HX2.out.lt;simp;omega) (λg hg=>by have:=(HO2.out.lt g hg).1;omega)
      have hb4:=hb3.setCell (p:=⟨w.heap.size,2,none⟩) (Nat.le_refl _) (.slice A' (j + 1) c')
      have hrow:qg ((r.take j).map rl.dec) ++ [.int .u64 ((rl.num (t.take 8):Nat):Int),.string (crcm.mk (t.drop 8))]=qg ((r.take (j + 1)).map rl.dec):=by
       rw [HTT.out,List.map_append,qV];rfl
      rw [hrow] at hown4;have HX4:=Uq hX4;have HO4:=Uq hown4;have HB4:=Uq hb4;clear hX4 hown4 hb4 hb3 hrow hX3 of3 o23 hown' hgrow' z2 z3 hW9 hb6 hne x0 x1 x2 q0 q1 q2 y0 hch hcr;simp only [Exit.then,Exit.inBlock];go_wp2;go_roundw
      case rel=>
       refine ⟨k + 1,T',V',.slice A' (j + 1) c',by omega,by go_num,HX4.out,?_,HB4.out,λ_=>⟨HP9.out,HPT.out,HPV.out,?_⟩,λhh=>absurd hh (by omega)⟩
       ·rw [show k + 1 - 1=j + 1 from by have:=HJ.out;omega];exact HO4.out
       ·rw [show k + 1 - 1=j + 1 from by have:=HJ.out;omega,HTT.out,List.all_append,HPA.out,List.all_cons,HOK.out];rfl
      case measure=>simp [intOf];omega
    ·have hno:rl.okText t=false:=by rw [Bool.eq_false_iff];exact hok
     have hfin:rl.from_ (h :: r)=((0,0,[]),50):=by
      unfold rl.from_;simp only;rw [if_neg];intro e;rw [List.all_eq_true] at e;exact hok (e.2 t HTM.out)
     have HF:=Uq hfin;clear hfin
     by_cases hshort:t.length < 8
     ·have hs1:¬ 8≤(crcm.mk t).size:=by rw [crcm.mk_size];omega
      have hd:decide ((8:Int)≤((crcm.mk t).size:Int))=false:=by simp;omega
      clear hok hno;go_wp2;exact YD HB.out HX2.out HF.out rfl rfl
     ·have hlong:60008 < t.length:=by
       unfold rl.okText at hno;simp only [Bool.and_eq_false_iff,decide_eq_false_iff_not] at hno;omega
      have hs1:8≤(crcm.mk t).size:=by rw [crcm.mk_size];omega
      have hs2:60008 < (crcm.mk t).size:=by rw [crcm.mk_size];omega
      have hd:decide ((8:Int)≤((crcm.mk t).size:Int))=true:=by simp;omega
      have hd2:decide (((crcm.mk t).size:Int)≤60008)=false:=by simp;omega
      clear hok hno;go_wp2;exact YD HB.out HX2.out HF.out rfl rfl
  ·obtain rfl:k=n:=by omega
   have hp:=HP.out (by omega)
   have ho:=HO.out;have hx:=HX.out
   rw [show k - 1=r.length from by have:=Hn.out;omega] at ho hx hp x2
   obtain ⟨p9,pT,pV,pall⟩:=hp;rw [List.take_of_length_le (Nat.le_refl _)] at ho pall
   have hfin:rl.from_ (h :: r)=((T',V',r.map rl.dec),0):=by
    unfold rl.from_;simp only;rw [if_pos ⟨p9,pall⟩,pT,pV]
   have HF:=Uq hfin;have HX2:=Uq (((hx.set 0 (.int .u64 (T':Int))).set 1 (.int .i64 V')).set 2 (.slice Au r.length cu))
   have hE:EntsB 0 wr (.slice Au r.length cu) (r.map rl.dec):=by
    rw [show r.length=(r.map rl.dec).length from by simp] at ho ⊢
    exact EntsB.of_owns ho
   have hE3:=((hE.far (j:=0) (x:=.int .u64 (T':Int)) (Nat.zero_le _) hx (by decide)).far (j:=1) (x:=.int .i64 V') (Nat.zero_le _) (hx.set 0 (.int .u64 (T':Int))) (by decide)).far (j:=2) (x:=.slice Au r.length cu) (Nat.zero_le _) ((hx.set 0 (.int .u64 (T':Int))).set 1 (.int .i64 V')) (by decide)
   have HE:=Uq hE3;have HB3:=Uq (((HB.out.setCell (p:=⟨w.heap.size,0,none⟩) (Nat.le_refl _) (.int .u64 (T':Int))).setCell (p:=⟨w.heap.size,1,none⟩) (Nat.le_refl _) (.int .i64 V')).setCell (p:=⟨w.heap.size,2,none⟩) (Nat.le_refl _) (.slice Au r.length cu));clear ho hx p9 pT pV pall hfin hE hE3;go_wp2;refine bodyPost_ret (qj rfl _ _ w.heap.size _ _ (0,0) _ rfl HX2.out Tryz.underlying96 rfl Qh) rfl ?_;unfold Q7;rw [HF.out];exact ⟨_,rfl,HE.out,HB3.out⟩
theorem uI (v:Value) (ts:List (List UInt8)) (w:World) (hs:Strs w v ts) (hl:ts.length≤10000) (hall:∀ t ∈ ts,t.length≤maxLen) :
  Calls Tryz.prog 159 #[v] w (Q7 ts w):=by
 have hs':=hs;obtain ⟨A,c,rfl,_⟩:=hs'
 cases ts with
 | nil=>exact vf A c w
 | cons h r=>exact ve A _ c h r w hs rfl hl hall
end Go.Proofs.YtppibhieabideaaGreatDoor
