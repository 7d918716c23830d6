/- KlArg: one behind the other. -/
import Derived.Test.YtmcibggjolckoaaGreatDoorGm27
import Derived.OpenShut
namespace Go.Proofs.YtmcibggjolckoaaGreatDoor
open Go Go.RowKit Go.ChangeShapes Go.WideShapes Go.Deep
set_option maxRecDepth 100000
namespace cl
structure Act where
 kind:Nat
 i:Nat
 k:Nat
 n:Nat
 keep:Int
 text:List UInt8
end cl
instance:Inhabited cl.Act:=⟨⟨0,0,0,0,0,[]⟩⟩
def actC (x:cl.Act):List Value:=[.int .u8 (x.kind:Int),.int .u8 (x.i:Int),.int .u8 (x.k:Int),.int .u8 (x.n:Int),.int .i64 x.keep,.string (crcm.mk x.text)]
structure ActOk (x:cl.Act):Prop where
 kind:x.kind < 256
 i:x.i < 256
 k:x.k < 256
 n:x.n < 256
 keep:-9223372036854775808≤x.keep∧x.keep≤9223372036854775807
 text:x.text.length≤9223372036854775807
def Acts (w:World) (v:Value) (l:List cl.Act):Prop:=
 ∃ A c,v=.slice A l.length c∧l.length≤maxLen∧l.length≤c∧(0 < l.length→∃ b o,A=some ⟨b,o,none⟩∧∀ k,k < l.length→w.rangeAt b (o + k * 6) (actC (l.getD k default))∧ActOk (l.getD k default))
theorem acts_of_reading {H:Type} {enc:TypeId × Value→H} {P:Program} {w:World} {base:Nat} {held:Bool} {t e tu ti ts:TypeId} {fuel:Nat} {v:Value} {x:DataW H × List MemPlace}
  {f0 f1 f2 f3 f4 f5:Field} (ht:P.underlying t=some (.slice e)) (he:P.underlying e=some (.struct #[f0,f1,f2,f3,f4,f5])) (ce:P.cellsOf e=6) (o0:f0.offset=0) (o1:f1.offset=1) (o2:f2.offset=2) (o3:f3.offset=3) (o4:f4.offset=4) (o5:f5.offset=5)
  (c0:P.cellsOf f0.type=1) (c1:P.cellsOf f1.type=1) (c2:P.cellsOf f2.type=1) (c3:P.cellsOf f3.type=1) (c4:P.cellsOf f4.type=1) (c5:P.cellsOf f5.type=1)
  (e0:f0.type=tu) (e1:f1.type=tu) (e2:f2.type=tu) (e3:f3.type=tu) (e4:f4.type=ti) (e5:f5.type=ts) (uu:P.underlying tu=some (.int .u8)) (ui:P.underlying ti=some (.int .i64)) (us:P.underlying ts=some .string)
  (h:DataW.trod enc P w base (fun _=>true) held fuel t [v]=some x):∃ l,Acts w v l:=by
 rcases open_slice ht h with h0 | ⟨a,len,cap,m,n,D,Pl,hcs,hb,hl,hm,hmm,_,hx⟩
 ·obtain rfl:v=.slice none 0 0:=by simpa using h0.1
  exact ⟨[],none,0,rfl,Nat.zero_le _,Nat.zero_le _,fun h=>absurd h (by simp)⟩
 ·obtain rfl:v=.slice (some a) len cap:=by simpa using hcs
  simp only [if_true] at hmm
  subst hmm
  have each:∀ i,i < len→∃ q:cl.Act,(∀ t u,(actC q)[t]?=some u→w.cell? (a.add (i * 6 + t))=some u)∧ActOk q:=by
   intro i hi
   obtain ⟨cs',h1,h2⟩:=hx i (by omega)
   rw [ce] at h1
   obtain ⟨_,hlen,hcell⟩:=World.cells?_some h1
   obtain ⟨xs,k,hk,hxy,_,hxl,hf⟩:=DataW.trod_struct he h2
   match xs,hxl,cs',hlen with
   | [y0,y1,y2,y3,y4,y5],_,[v0,v1,v2,v3,v4,v5],_=>
    have g0:=hf 0 f0 rfl
    have g1:=hf 1 f1 rfl
    have g2:=hf 2 f2 rfl
    have g3:=hf 3 f3 rfl
    have g4:=hf 4 f4 rfl
    have g5:=hf 5 f5 rfl
    simp [o0,o1,o2,o3,o4,o5,c0,c1,c2,c3,c4,c5] at g0 g1 g2 g3 g4 g5
    have d0:=hcell 0 (by omega)
    have d1:=hcell 1 (by omega)
    have d2:=hcell 2 (by omega)
    have d3:=hcell 3 (by omega)
    have d4:=hcell 4 (by omega)
    have d5:=hcell 5 (by omega)
    rw [add_add] at d0 d1 d2 d3 d4 d5
    rw [e0] at g0
    rw [e1] at g1
    rw [e2] at g2
    rw [e3] at g3
    rw [e4] at g4
    rw [e5] at g5
    obtain ⟨z0,hz0,_,hw0⟩:=DataW.trod_int uu g0
    obtain ⟨z1,hz1,_,hw1⟩:=DataW.trod_int uu g1
    obtain ⟨z2,hz2,_,hw2⟩:=DataW.trod_int uu g2
    obtain ⟨z3,hz3,_,hw3⟩:=DataW.trod_int uu g3
    obtain ⟨z4,hz4,_,hw4⟩:=DataW.trod_int ui g4
    obtain ⟨s,hs1,_,hs2⟩:=DataW.trod_string us g5
    have b0:=bounds_u8 hw0
    have b1:=bounds_u8 hw1
    have b2:=bounds_u8 hw2
    have b3:=bounds_u8 hw3
    have b4:=bounds_i64 hw4
    obtain ⟨n0,rfl⟩:=Int.eq_ofNat_of_zero_le b0.1
    obtain ⟨n1,rfl⟩:=Int.eq_ofNat_of_zero_le b1.1
    obtain ⟨n2,rfl⟩:=Int.eq_ofNat_of_zero_le b2.1
    obtain ⟨n3,rfl⟩:=Int.eq_ofNat_of_zero_le b3.1
    refine ⟨⟨n0,n1,n2,n3,z4,s.data.toList⟩,fun t u ht=>?_,⟨by have:=b0.2;show n0 < 256;omega,by have:=b1.2;show n1 < 256;omega,by have:=b2.2;show n2 < 256;omega,by have:=b3.2;show n3 < 256;omega,b4,?_⟩⟩
    ·have k0:v0=.int .u8 (n0:Int):=by simpa using hz0
     have k1:v1=.int .u8 (n1:Int):=by simpa using hz1
     have k2:v2=.int .u8 (n2:Int):=by simpa using hz2
     have k3:v3=.int .u8 (n3:Int):=by simpa using hz3
     have k4:v4=.int .i64 z4:=by simpa using hz4
     have k5:v5=.string s:=by simpa using hs1
     have hv:[v0,v1,v2,v3,v4,v5]=actC ⟨n0,n1,n2,n3,z4,s.data.toList⟩:=by
      unfold actC
      rw [k0,k1,k2,k3,k4,k5]
      dsimp only
      rw [crcm.mk_of]
     rw [← hv] at ht
     have ht6:t < 6:=by
      rcases Nat.lt_or_ge t 6 with h1 | h1
      ·exact h1
      ·rw [List.getElem?_eq_none (by exact h1)] at ht;cases ht
     have hc:=hcell t ht6
     rw [add_add] at hc
     rw [hc]
     exact ht
    ·show s.data.toList.length≤_
     rw [crcm.size_len]
     have:maxLen≤9223372036854775807:=by decide
     omega
  obtain ⟨q,hq⟩:=choose_lt each
  have hlen:((List.range len).map q).length=len:=by simp
  have hget:∀ k,k < len→((List.range len).map q).getD k default=q k:=fun k hk=>by
   rw [List.getD_eq_getElem?_getD,List.getElem?_map,List.getElem?_range hk];rfl
  refine ⟨(List.range len).map q,some a,m,by rw [hlen],by rw [hlen];omega,by rw [hlen];exact hl,fun h0=>?_⟩
  rw [hlen] at h0
  have ha:=(hq 0 h0).1 0 _ rfl
  rw [Nat.zero_mul,add_zero] at ha
  have hsp:=spot_none ha
  refine ⟨a.block,a.off,by rw [← hsp],fun k hk=>?_⟩
  rw [hlen] at hk
  rw [hget k hk]
  refine ⟨fun t u ht=>?_,(hq k hk).2⟩
  have h1:=(hq k hk).1 t u ht
  rw [hsp,addr_add] at h1
  rw [Nat.add_assoc]
  exact h1
theorem acts_of_arg {H:Type} {enc:TypeId × Value→H} {w:World} {r:Reach} {b0 base:Nat} {held:Bool} {v:Value} {d:DataW H} {ps:List MemPlace}
  (hv:Value.okWide Tryz.prog w r b0 37 v) (h:DataW.Trod enc Tryz.prog w base (fun _=>true) held 37 v d ps):∃ l,Acts w v l:=by
 obtain ⟨a,len,cap,rfl⟩:=okWide_slice Tryz.underlying37 hv
 obtain ⟨fuel,hf⟩:=h
 exact acts_of_reading Tryz.underlying37 Tryz.underlying41 (by kernel_rfl) rfl rfl rfl rfl rfl rfl (by kernel_rfl) (by kernel_rfl) (by kernel_rfl) (by kernel_rfl) (by kernel_rfl) (by kernel_rfl) rfl rfl rfl rfl rfl rfl
  Tryz.underlying5 Tryz.underlying3 Tryz.underlying9 hf
def boundedB (l:List cl.Act):Bool:=l.all (fun x=>decide (x.text.length≤100)) && decide (l.length≤150)
set_option maxHeartbeats 4000000 in
theorem bounded_any {w:World} {v:Value} {l:List cl.Act} (h:Acts w v l):Calls Tryz.prog 16 #[v] w fun e w'=>e=.returned (.bool (boundedB l))∧w=w':=by
 obtain ⟨A,c,rfl,hm,hlc,hA⟩:=h
 have hm2:l.length≤9223372036854775807:=by unfold maxLen at hm;omega
 obtain ⟨n,hn⟩:∃ n,l.length=n:=⟨_,rfl⟩
 have HA:=Lib.hid hA
 have HN:=Lib.hid hn
 rw [hn] at hm2 hlc ⊢
 have HM:=Lib.hid hm2
 have hcI:(n:Int)≤(c:Int):=by omega
 clear hA hm hn hm2 hlc
 go_enter Tryz.func16,Tryz.ntmps16
 go_upto_region 2 with fail
 go_loopw [3] (fun i wr=>∃ j:Nat,j≤n∧i=.int .i64 j∧(∀ q,q < j→(l.getD q default).text.length≤100)∧w=wr) (fun i _=>n - (intOf i).toNat)
 case atStart=>exact ⟨0,Nat.zero_le _,rfl,fun q hq=>absurd hq (Nat.not_lt_zero _),rfl⟩
 case round=>
  obtain ⟨j,hj,rfl,hall,rfl⟩:=hrel
  have HALL:=Lib.hid hall
  by_cases hlt:j < n
  ·have hltI:(j:Int) < (n:Int):=by omega
   have hwj:IntKind.i64.wrap ((j:Int) + 1)=(j:Int) + 1:=wrap_i64_in (by omega) (by have:=HM.out;omega)
   obtain ⟨b,o,rfl,hc⟩:=HA.out (by rw [HN.out];omega)
   obtain ⟨hr,hok⟩:=hc j (by rw [HN.out];exact hlt)
   have x5:=hr 5 _ rfl
   obtain ⟨T,hT⟩:∃ T,(l.getD j default).text=T:=⟨_,rfl⟩
   rw [hT] at x5
   have hsz:(crcm.mk T).size=T.length:=crcm.mk_size _
   have HLT:=Lib.hid hlt
   have HTT:=Lib.hid hT
   clear hr hok hc hall hlt hT hj HA
   by_cases h100:T.length≤100
   ·have hb:decide (100 < (T.length:Int))=false:=decide_eq_false (by omega)
    have H100:=Lib.hid h100
    clear h100
    go_wp2_with fail
    go_roundw
    case rel=>exact ⟨j + 1,HLT.out,by go_num,fun q hq=>by
     rcases Nat.lt_succ_iff_lt_or_eq.1 hq with h1 | h1
     ·exact HALL.out q h1
     ·rw [h1,HTT.out];exact H100.out,by trivial⟩
    case measure=>have:=HLT.out;simp [intOf];omega
   ·have hb:decide (100 < (T.length:Int))=true:=decide_eq_true (by omega)
    have H100:=Lib.hid h100
    clear h100
    go_wp2_with fail
    go_ret
    refine ⟨?_,rfl⟩
    have hmem:l.getD j default ∈ l:=by
     rw [List.getD_eq_getElem?_getD,List.getElem?_eq_getElem (by rw [HN.out];exact HLT.out)]
     exact List.getElem_mem _
    have e:boundedB l=false:=by
     unfold boundedB
     rw [Bool.and_eq_false_iff]
     left
     rw [List.all_eq_false]
     exact ⟨_,hmem,by rw [HTT.out];simpa using H100.out⟩
    rw [e]
    rfl
  ·obtain rfl:j=n:=by omega
   clear hall hlt hj HA
   go_wp2_with fail
   go_ret
   refine ⟨?_,rfl⟩
   have e:boundedB l=decide ((j:Int)≤150):=by
    unfold boundedB
    rw [List.all_eq_true.2 (fun x hx=>by
     obtain ⟨q,hq,rfl⟩:=List.getElem_of_mem hx
     have:=HALL.out q (by rw [← HN.out];exact hq)
     rw [List.getD_eq_getElem?_getD,List.getElem?_eq_getElem hq] at this
     simpa using this),Bool.true_and,HN.out]
    exact decide_eq_decide.2 ⟨fun h=>by omega,fun h=>by omega⟩
   rw [e]
   rfl
end Go.Proofs.YtmcibggjolckoaaGreatDoor
