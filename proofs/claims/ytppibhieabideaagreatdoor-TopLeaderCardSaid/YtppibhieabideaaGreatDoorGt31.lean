/- A part of the walk of the program, and of its plain law. -/
import Derived.Test.YtppibhieabideaaGreatDoorGt30
namespace Go.Proofs.YtppibhieabideaaGreatDoor
set_option maxHeartbeats 4000000
open Go Go.RowKit Go.Deep
set_option maxRecDepth 100000
def txP (c:ce.Cell):List (List UInt8):=[[1],ce.le8 1,ce.le8 1,[1],ce.enc c]
def tx (c:ce.Cell):List UInt8:=(txP c).flatten
theorem tx_len (c:ce.Cell) (h:ce.may c=true):(tx c).length≤300:=by
 obtain ⟨l1,l2,l3,_⟩:=ce.may_len h;unfold tx txP;simp only [List.flatten_cons,List.flatten_nil,List.length_append,List.length_cons,List.length_nil,ce.le8_len,ce.enc_len];omega
theorem uw:(Tryz.prog.info? 9).map (λi=>(i.zero,i.size,i.bytes))=some (some (.string .empty),1,16):=by kernel_rfl
theorem xi (ls:List (List UInt8)):∀ u ∈ ls.map (λl=>Value.string (crcm.mk l)),u.oneCell'=true:=by
 intro u hu;obtain ⟨l,_,rfl⟩:=List.mem_map.1 hu
 rfl
theorem Zb (w:World) (vs:List Value) (t:TypeId):∀ j u,vs[j]?=some u→(w.alloc (.cells vs.toArray t)).cell? ((⟨w.heap.size,0,none⟩:Addr).add j)=some u:=λj u hj=>by
 rw [qn,Nat.zero_add];exact (Vb.new w vs t).cell j u hj
set_option maxHeartbeats 8000000 in
theorem ka (c:ce.Cell) (hm:ce.may c=true) (h1:c.ts < 18446744073709551616) (h2:c.seq < 18446744073709551616) (w:World) (b o k:Nat) (h:CellAt w b o c) (_hk:1≤k) :
  Calls Tryz.prog 123 #[.agg (cmdV (.slice (some ⟨b,o,none⟩) 1 k))] w λe w'=>e=.returned (.tuple #[.string (crcm.mk (tx c)),.int .i64 0])∧Below w.heap.size w w':=by
 obtain ⟨i0,hi,hz0,hz1,hz2⟩:=info_parts uw;obtain ⟨X,N,hX,hN,hb,vX⟩:=KF w [.int .i64 1,.int .u64 1,.int .u64 1,.slice (some ⟨b,o,none⟩) 1 k,.string ⟨#[]⟩,.int .u64 0,.int .u32 0,.int .u64 0,.slice none 0 0] 81
 have MK:Hid (∀ w',Below X.heap.size X w'→w'.cell? ⟨N,0,none⟩=some (.int .i64 1)∧w'.cell? ⟨N,1,none⟩=some (.int .u64 1)∧w'.cell? ⟨N,2,none⟩=some (.int .u64 1)∧w'.cell? ⟨N,3,none⟩=some (.slice (some ⟨b,o,none⟩) 1 k)∧w'.cell? ⟨N,4,none⟩=some (.string ⟨#[]⟩)∧w'.cell? ⟨N,5,none⟩=some (.int .u64 0)∧w'.cell? ⟨N,6,none⟩=some (.int .u32 0)∧w'.cell? ⟨N,7,none⟩=some (.int .u64 0)∧w'.cell? ⟨N,8,none⟩=some (.slice none 0 0)):=Uq λw' hb=>
  ⟨cell_later hb (vX.cell 0 _ rfl),cell_later hb (vX.cell 1 _ rfl),cell_later hb (vX.cell 2 _ rfl),cell_later hb (vX.cell 3 _ rfl),cell_later hb (vX.cell 4 _ rfl),cell_later hb (vX.cell 5 _ rfl),cell_later hb (vX.cell 6 _ rfl),cell_later hb (vX.cell 7 _ rfl),cell_later hb (vX.cell 8 _ rfl)⟩
 have HC:Hid (∀ w',Below X.heap.size X w'→CellAt w' b o c):=Uq λw' h'=>(h.later hb).later h'
 have HP:Hid (∀ w',Calls Tryz.prog 253 #[.agg (cmdV (.slice (some ⟨b,o,none⟩) 1 k))] w' λe w''=>e=.returned (.agg (cmdV (.slice (some ⟨b,o,none⟩) 1 k)))∧Below w'.heap.size w' w''):=Uq λw'=>vA (some ⟨b,o,none⟩) 1 k w'
 have HS:Hid (∀ w',Below X.heap.size X w'→Calls Tryz.prog 252 #[.agg (cmdV (.slice (some ⟨b,o,none⟩) 1 k)),.agg (cmdV (.slice (some ⟨b,o,none⟩) 1 k))] w' λe w''=>e=.returned (.bool true)∧Below w'.heap.size w' w''):=Uq λw' h'=>Ub c w' b o k (HC.out _ h')
 have L8:Hid (∀ w',Calls Tryz.prog 255 #[.int .u64 1,.int .i64 8] w' λe w''=>e=.returned (.string (crcm.mk (ce.le8 1)))∧Below w'.heap.size w' w''):=Uq λw'=>XN 1 w' (by decide)
 have L1:Hid (∀ w',Calls Tryz.prog 254 #[.int .i64 1,.int .i64 1] w' λe w''=>e=.returned (.string (crcm.mk [1]))∧Below w'.heap.size w' w''):=Uq λw'=>XO 1 w' (by decide)
 have HE:=Uq λw'=>Zq c hm h1 h2 w'
 have HB:=Uq hb;have HX:=Uq hX;have HN:=Uq hN;have HMAY:=Uq hm;unfold cmdV at HP HS ⊢;unfold qO at HE;clear hb hX hN vX h hm h1 h2
 go_enter Tryz.func123,Tryz.ntmps123
 go_upto_region 1 with fail;rw [HX.out,HN.out];have hW:Below X.heap.size X X.drew:=(Below.refl _ X).drew
 go_region_held3 (λw'=>w'.cell? ⟨N,0,none⟩=some (.int .i64 1)∧w'.cell? ⟨N,1,none⟩=some (.int .u64 1)∧w'.cell? ⟨N,2,none⟩=some (.int .u64 1)∧w'.cell? ⟨N,3,none⟩=some (.slice (some ⟨b,o,none⟩) 1 k)∧w'.cell? ⟨N,4,none⟩=some (.string ⟨#[]⟩)∧w'.cell? ⟨N,5,none⟩=some (.int .u64 0)∧w'.cell? ⟨N,6,none⟩=some (.int .u32 0)∧w'.cell? ⟨N,7,none⟩=some (.int .u64 0)∧w'.cell? ⟨N,8,none⟩=some (.slice none 0 0)) (with_reducible exact MK.out _ hW) ((first
  | (go_at_call 253;refine (HP.out _).mono ?_;rintro e w1 ⟨rfl,hb1⟩;have hW:=hW.trans (hb1.mono hW.size))
  | (go_at_call 252;refine (HS.out _ hW).mono ?_;rintro e w2 ⟨rfl,hb2⟩;have hW:=hW.trans (hb2.mono hW.size))))
 have HW2:=Uq hW;have k0:=(MK.out _ HW2.out).1;obtain ⟨-,-,-,k3,k4,-,-,-,k8⟩:=MK.out _ HW2.out;clear hW hb1 hb2
 go_upto_region 6 with (go_at_call 254;refine (L1.out _).mono ?_;rintro e w3 ⟨rfl,hb3⟩;have HW3:=Uq (HW2.out.trans (hb3.mono HW2.out.size));clear hb3)
 have hO3:=World.ownsRow_lit (e:=9) (size:=1) (base:=X.heap.size) w3 #[.string (crcm.mk [1])] 1 HW3.out.size (by unfold maxLen;omega) rfl
 have hW4:Below X.heap.size X (w3.alloc (.cells #[.string (crcm.mk [1])] 9)):=qd HW3.out _;obtain ⟨g4,hg4⟩:∃ g,w3.heap.size=g:=⟨_,rfl⟩;obtain ⟨w4,hw4⟩:∃ w',w3.alloc (.cells #[.string (crcm.mk [1])] 9)=w':=⟨_,rfl⟩;rw [hw4] at hW4 hO3 ⊢;rw [hg4] at hO3 ⊢;have HW4:=Uq hW4;have HO4:Hid (w4.ownsRow X.heap.size 9 1 (.slice (some ⟨g4,0,none⟩) 1 1) 1 [.string (crcm.mk [1])]):=Uq hO3;clear hW4 hO3 hw4 hg4 k0 k3 k4 k8;have k0:=(MK.out _ HW4.out).1;go_upto_region 8 with fail;have hW:Below X.heap.size X w4.drew:=HW4.out.drew;have hO:w4.drew.ownsRow X.heap.size 9 1 (.slice (some ⟨g4,0,none⟩) 1 1) 1 [.string (crcm.mk [1])]:=HO4.out
 go_region_held3 (λw'=>w'.cell? ⟨N,1,none⟩=some (.int .u64 1)∧w'.cell? ⟨N,2,none⟩=some (.int .u64 1)∧w'.cell? ⟨N,3,none⟩=some (.slice (some ⟨b,o,none⟩) 1 k)) (with_reducible exact (λh=>⟨h.2.1,h.2.2.1,h.2.2.2.1⟩) (MK.out _ (by repeat (first | with_reducible exact hW | with_reducible apply Below.drew | with_reducible apply qd)))) ((first
  | (go_at_call 255;refine (L8.out _).mono ?_;rintro e w5 ⟨rfl,hb5⟩;have hO:=qJ hO hb5;have hW:=hW.trans (hb5.mono hW.size))
  | (go_at_call 254;refine (L1.out _).mono ?_;rintro e w5 ⟨rfl,hb5⟩;have hO:=qJ hO hb5;have hW:=hW.trans (hb5.mono hW.size))
  | (refine qA rfl (.tmp 52) (.tmp 63) 22 rfl X.heap.size 9 i0 _ 1 16 Tryz.underlying22 hi hz0 hz1 hz2 rfl (by decide) (.slice (some ⟨g4,0,none⟩) 1 1) 1 [.string (crcm.mk [1])] (by rfl) (hO.alloc (.cells #[.string (crcm.mk (ce.le8 1)),.string (crcm.mk (ce.le8 1)),.string (crcm.mk [1])] 9)) ⟨w5.heap.size,0,none⟩ 3 3 [.string (crcm.mk (ce.le8 1)),.string (crcm.mk (ce.le8 1)),.string (crcm.mk [1])] (by rfl) rfl (λj u hj=>Zb w5 [.string (crcm.mk (ce.le8 1)),.string (crcm.mk (ce.le8 1)),.string (crcm.mk [1])] 9 j u hj) (xi [ce.le8 1,ce.le8 1,[1]]) (by unfold maxLen;omega) (by omega) (Nat.le_trans hW.size (by rw [size_alloc'];omega)) ?_;intro v6 w6 hown6 hgrow6;have hW:=(qd hW (.cells #[.string (crcm.mk (ce.le8 1)),.string (crcm.mk (ce.le8 1)),.string (crcm.mk [1])] 9)).grown hgrow6 (by rw [size_alloc'];have:=hW.size;omega) (λj hj=>(hO.lt j hj).1))))
 have hown6':w6.ownsRow X.heap.size 9 1 v6 4 [.string (crcm.mk [1]),.string (crcm.mk (ce.le8 1)),.string (crcm.mk (ce.le8 1)),.string (crcm.mk [1])]:=hown6;obtain ⟨A6,c6,rfl⟩:=ql hown6';have HO6:=Uq hown6';have HW6:=Uq hW;have k3:=(MK.out _ HW6.out).2.2.2.1;clear hown6 hown6' hgrow6 hW hO hb5;go_upto_region 10 with fail
 go_loopw [4,68] (λl i wr=>(i=.int .i64 0∧l=.slice A6 4 c6∧wr=w6)∨(i=.int .i64 1∧∃ A' c',l=.slice A' 5 c'∧wr.ownsRow X.heap.size 9 1 (.slice A' 5 c') 5 ((txP c).map λl=>Value.string (crcm.mk l))∧Below X.heap.size X wr)) (λ_ i _=>1 - (intOf i).toNat)
 case atStart=>exact .inl ⟨rfl,rfl,rfl⟩
 case round=>
  rcases hrel with ⟨rfl,rfl,rfl⟩ | ⟨rfl,A',c',rfl,hO,hB⟩
  ·obtain ⟨e0,e1,e2,e3,e4,e5⟩:=Qb (HC.out _ HW6.out)
   go_wp2_with (first
    | (go_at_call 56;refine (HE.out _).mono ?_;rintro e w8 ⟨rfl,hb8⟩;have HO8:=Uq (qJ (HO6.out.alloc _) hb8);have HW8:=Uq ((qd HW6.out _).trans (hb8.mono (qd HW6.out _).size));clear hb8)
    | (at_builtin;refine wpList_append_own _ rfl _ _ 22 rfl X.heap.size 9 i0 _ 1 16 Tryz.underlying22 hi hz0 hz1 hz2 rfl (by decide) _ _ _ rfl (HO8.out.alloc _) ⟨w8.heap.size,0,none⟩ 1 1 [.string (crcm.mk (ce.enc c))] rfl rfl ?c1 ?c2 ?c3 ?c4 ?c5 ?_))
   case c1=>exact Zb w8 [.string (crcm.mk (ce.enc c))] _
   case c2=>exact xi [ce.enc c]
   case c3=>unfold maxLen;omega
   case c4=>omega
   case c5=>exact (qd HW8.out _).size
   intro v9 w9 hown9 hgrow9 _
   have hB9:Below X.heap.size X w9:=(qd HW8.out _).grown hgrow9 (qd HW8.out _).size (λj hj=>(HO8.out.lt j hj).1)
   have hown9:w9.ownsRow X.heap.size 9 1 v9 5 ((txP c).map λl=>Value.string (crcm.mk l)):=hown9
   obtain ⟨A9,c9,rfl⟩:=ql hown9;have HO9:=Uq hown9;have HB9:=Uq hB9;clear hown9 hgrow9 hB9;go_wp2_with fail
   exact ⟨.inr ⟨rfl,A9,c9,rfl,HO9.out,HB9.out⟩,by simp [intOf]⟩
  ·rcases hO.2 with ⟨_,h0⟩ | ⟨g,cap,cur,hv,hge,hh,hn,hr⟩
   ·exact absurd h0 (by decide)
   ·injection hv with q1 q2 q3
    subst q1;subst q3;have hlt:g < wr.heap.size:=(Array.getElem?_eq_some_iff.1 hh).1
    have HJ:=Uq (Vy g 0 c' (txP c) wr (λj l hj=>by
     have:=hO.cells (g:=g) rfl j (.string (crcm.mk l)) (by rw [List.getElem?_map,hj];rfl)
     rw [qn] at this
     exact this) hlt hn (show 5≤1000000 by decide) (by have:=tx_len c HMAY.out;unfold tx at this;omega))
    have HB5:=Uq hB;clear hO hB hge hh hn hr hlt
    go_wp2_with (go_at_call 257;refine HJ.out.mono ?_;rintro e w10 ⟨rfl,hb10⟩;have HB10:=Uq hb10;clear hb10)
    go_ret2
    exact ⟨rfl,HB.out.trans ((HB5.out.trans (HB10.out.mono HB5.out.size)).mono HB.out.size)⟩
def cmC (k a b:Nat) (S:Value):List Value:=[.int .i64 (k:Int),.int .u64 (a:Int),.int .u64 (b:Int),S,.string ⟨#[]⟩,.int .u64 0,.int .u32 0,.int .u64 0,.slice none 0 0]
theorem Qj (c:ce.Cell):∀ u ∈ qt c,u.oneCell'=true:=by
 intro u hu;unfold qt at hu;simp only [List.mem_cons,List.not_mem_nil,or_false] at hu
 rcases hu with rfl | rfl | rfl | rfl | rfl | rfl <;> rfl
theorem XX:(Tryz.prog.info? 46).map (λi=>(i.zero,i.size,i.bytes))=some (some (.agg #[.string .empty,.string .empty,.int .u64 0,.int .u64 0,.bool false,.string .empty]),6,72):=by kernel_rfl
theorem Ko {w:World} {g:Nat} {t:TypeId} {a0 a1 a2 a3 a4 a5 a6 a7 a8:Value} (h:Vb w g [a0,a1,a2,a3,a4,a5,a6,a7,a8] t):w.cell? ⟨g,0,none⟩=some a0∧w.cell? ⟨g,1,none⟩=some a1∧w.cell? ⟨g,2,none⟩=some a2∧w.cell? ⟨g,3,none⟩=some a3∧w.cell? ⟨g,4,none⟩=some a4∧w.cell? ⟨g,5,none⟩=some a5∧w.cell? ⟨g,6,none⟩=some a6∧w.cell? ⟨g,7,none⟩=some a7∧w.cell? ⟨g,8,none⟩=some a8:=
 ⟨h.cell 0 _ rfl,h.cell 1 _ rfl,h.cell 2 _ rfl,h.cell 3 _ rfl,h.cell 4 _ rfl,h.cell 5 _ rfl,h.cell 6 _ rfl,h.cell 7 _ rfl,h.cell 8 _ rfl⟩
structure DecAt (w:World) (N g:Nat) (a b:Nat) (S:Value) (l:List UInt8) (w':World):Prop where
 rd:Tr w' (N + 1) l
 cm:Vb w' g (cmC 1 a b S) 81
 res:Vb w' N (cmC 0 0 0 (.slice none 0 0)) 81
 bel:Below N w w'
 base:N≤w.heap.size
section
variable {w w1 w2:World} {N g a b:Nat} {S:Value} {l l2:List UInt8}
theorem DecAt.take (h:DecAt w N g a b S l w1) (hr:Tr w2 (N + 1) l2) (ha:Apart [N + 1] w1 w2) (hg:¬ g=N + 1):DecAt w N g a b S l2 w2:=
 ⟨hr,h.cm.apart ha (by simpa using hg),h.res.apart ha (by simp),h.bel.trans (ha.below N (Nat.le_trans h.base h.bel.size) (by simp)),h.base⟩
theorem DecAt.later (h:DecAt w N g a b S l w1) (hb:Below w1.heap.size w1 w2):DecAt w N g a b S l w2:=
 ⟨(hb.block _ h.rd.lt).trans h.rd,(hb.block _ h.cm.lt).trans h.cm,(hb.block _ h.res.lt).trans h.res,h.bel.trans (hb.mono (Nat.le_trans h.base h.bel.size)),h.base⟩
theorem DecAt.two (h:DecAt w N g 0 0 S l w1) (hg:N + 1 < g):DecAt w N g 1 1 S l ((w1.setCell ⟨g,1,none⟩ (.int .u64 1)).setCell ⟨g,2,none⟩ (.int .u64 1)):=by
 have hA:=(Apart.setCell w1 g 1 (.int .u64 1)).trans (Apart.setCell _ g 2 (.int .u64 1))
 exact ⟨h.rd.apart hA (by simp;omega),(h.cm.set 1 (.int .u64 1)).set 2 (.int .u64 1),h.res.apart hA (by simp;omega),(h.bel.setCell (p:=⟨g,1,none⟩) (by show N≤g;omega) _).setCell (p:=⟨g,2,none⟩) (by show N≤g;omega) _,h.base⟩
theorem DecAt.end_ (h:DecAt w N g a b (.slice none 0 0) l w1) (hg:N + 1 < g) (S:Value) (l2:List UInt8):DecAt w N g a b S l2 ((w1.setCell ⟨g,3,none⟩ S).setCell ⟨N + 1,0,none⟩ (.string (crcm.mk l2))):=by
 have hA:=Apart.setCell w1 g 3 S;have hB:=Apart.setCell (w1.setCell ⟨g,3,none⟩ S) (N + 1) 0 (.string (crcm.mk l2))
 have h1:Tr (w1.setCell ⟨g,3,none⟩ S) (N + 1) l:=h.rd.apart hA (by simp;omega)
 exact ⟨h1.set 0 _,(h.cm.set 3 S).apart hB (by simp;omega),(h.res.apart hA (by simp;omega)).apart hB (by simp),(h.bel.setCell (p:=⟨g,3,none⟩) (by show N≤g;omega) _).setCell (p:=⟨N + 1,0,none⟩) (by show N≤N + 1;omega) _,h.base⟩
end
theorem CellAt.block {w w':World} {b o:Nat} {c:ce.Cell} (h:CellAt w b o c) (e:w'.heap[b]?=w.heap[b]?):CellAt w' b o c:=λj u hj=>by
 have:=h j u hj
 simpa [World.cell?,e] using this
set_option maxHeartbeats 16000000 in
theorem Xm (c:ce.Cell) (hm:ce.may c=true) (h1:c.ts < 18446744073709551616) (h2:c.seq < 18446744073709551616) (w:World) :
  Calls Tryz.prog 360 #[.string (crcm.mk (tx c))] w λe w'=>∃ b k,e=.returned (.tuple #[.agg (cmdV (.slice (some ⟨b,0,none⟩) 1 k)),.int .i64 0])∧CellAt w' b 0 c∧1≤k∧w.heap.size≤b∧Below w.heap.size w w':=by
 have hlen:(ce.enc c).length≤250:=by
  obtain ⟨l1,l2,l3,_⟩:=ce.may_len hm;rw [ce.enc_len];omega
 obtain ⟨i0,hi,hz0,hz1,hz2⟩:=info_parts XX;obtain ⟨l1,e1⟩:∃ l1,l1=ce.le8 1 ++ (ce.le8 1 ++ (1 :: (ce.enc c ++ []))):=⟨_,rfl⟩;obtain ⟨l2,e2⟩:∃ l2,l2=ce.le8 1 ++ (1 :: (ce.enc c ++ [])):=⟨_,rfl⟩;obtain ⟨l3,e3⟩:∃ l3,l3=1 :: (ce.enc c ++ []):=⟨_,rfl⟩;obtain ⟨l4,e4⟩:∃ l4,l4=ce.enc c ++ []:=⟨_,rfl⟩
 have e0:tx c=1 :: l1:=by rw [e1];unfold tx txP;simp
 have n4:l4.length≤250:=by rw [e4,List.length_append,List.length_nil];exact hlen
 have n3:l3.length≤300:=by rw [e3,← e4,List.length_cons];omega
 have n2:l2.length≤300:=by rw [e2,← e4,List.length_append,List.length_cons,ce.le8_len];omega
 have n1:l1.length≤300:=by rw [e1,← e4,List.length_append,List.length_append,List.length_cons,ce.le8_len];omega
 rw [← e4] at e3;rw [← e4,← e3] at e2;rw [← e4,← e3,← e2] at e1
 have D0:Hid (∀ q w',Tr w' q (tx c)→Calls Tryz.prog 419 #[.pointer (some ⟨q,0,none⟩),.int .i64 1] w' λe w''=>e=.returned (.int .u64 1)∧Tr w'' q l1∧Apart [q] w' w''):=Uq λq w' h=>Vo 1 l1 q w' (by rw [← e0];exact h) (by omega)
 have D1:Hid (∀ q w',Tr w' q l1→Calls Tryz.prog 419 #[.pointer (some ⟨q,0,none⟩),.int .i64 8] w' λe w''=>e=.returned (.int .u64 1)∧Tr w'' q l2∧Apart [q] w' w''):=Uq λq w' h=>KR 1 l2 q w' (by decide) (by rw [← e1];exact h) (by omega)
 have D2:Hid (∀ q w',Tr w' q l2→Calls Tryz.prog 419 #[.pointer (some ⟨q,0,none⟩),.int .i64 8] w' λe w''=>e=.returned (.int .u64 1)∧Tr w'' q l3∧Apart [q] w' w''):=Uq λq w' h=>KR 1 l3 q w' (by decide) (by rw [← e2];exact h) (by omega)
 have D3:Hid (∀ q w',Tr w' q l3→Calls Tryz.prog 419 #[.pointer (some ⟨q,0,none⟩),.int .i64 1] w' λe w''=>e=.returned (.int .u64 1)∧Tr w'' q l4∧Apart [q] w' w''):=Uq λq w' h=>Vo 1 l4 q w' (by rw [← e3];exact h) (by omega)
 have DC:Hid (∀ w',Calls Tryz.prog 197 #[.string (crcm.mk l4)] w' λe w''=>e=.returned (.tuple #[qO c,.string ⟨#[]⟩,.int .i64 0])∧Below w'.heap.size w' w''):=Uq λw'=>by rw [e4];exact vI c hm h1 h2 [] (by simp) w'
 have DE:=Uq λw' b k (h:CellAt w' b 0 c) (hk:1≤k)=>ka c hm h1 h2 w' b 0 k h hk
 unfold qO at DC;unfold cmdV at DE ⊢;obtain ⟨N,hN⟩:∃ N,w.heap.size=N:=⟨_,rfl⟩;obtain ⟨T,hT⟩:∃ T,tx c=T:=⟨_,rfl⟩;have hTT:((crcm.mk T).toList == (crcm.mk T).toList)=true:=beq_self_eq_true _;rw [hT] at D0 DE ⊢;obtain ⟨X,hX⟩:∃ X,(w.alloc (.cells #[.int .i64 0,.int .u64 0,.int .u64 0,.slice none 0 0,.string ⟨#[]⟩,.int .u64 0,.int .u32 0,.int .u64 0,.slice none 0 0] 81)).alloc (.cells #[.string (crcm.mk T),.bool false] 483)=X:=⟨_,rfl⟩
 have hb0:Below N w X:=by rw [← hX,← hN];exact qd (qd (Below.refl _ _) _) _
 have v2:Tr X (N + 1) T:=by rw [← hX];exact QQ w N hN _ _
 have v1:Vb X N (cmC 0 0 0 (.slice none 0 0)) 81:=by
  rw [← hX,← hN]
  exact (Below.heap_alloc _ _ _ (by rw [size_alloc'];omega)).trans (heap_alloc_new w _)
 have hsX:X.heap.size=N + 2:=by rw [← hX,size_alloc',size_alloc',hN]
 have HX:=Uq hX;have HN:=Uq hN;have HB:=Uq hb0;have V1:=Uq v1;have V2:=Uq v2;clear hX hb0 v1 v2 e0 e1 e2 e3 e4 n1 n2 n3 n4 h1 h2 hm hlen hT hN
 go_enter Tryz.func360,Tryz.ntmps360
 go_upto_region 2 with fail;rw [HX.out,HN.out]
 go_upto_region 3 with (go_at_call 419;with_reducible refine (D0.out _ _ V2.out).mono ?_;rintro e w1 ⟨rfl,hr1,ha1⟩;have HR:=Uq hr1;have HV:=Uq (V1.out.apart ha1 (by simp));have HA:=Uq ha1;clear hr1 ha1)
 have hs1:=HA.out.size;obtain ⟨g,hg⟩:∃ g,w1.heap.size=g:=⟨_,rfl⟩
 have hgN:N + 1 < g:=by omega
 obtain ⟨w2,hw2⟩:∃ w2,w1.alloc (.cells #[.int .i64 1,.int .u64 0,.int .u64 0,.slice none 0 0,.string ⟨#[]⟩,.int .u64 0,.int .u32 0,.int .u64 0,.slice none 0 0] 81)=w2:=⟨_,rfl⟩
 have hb2:Below w1.heap.size w1 w2:=by rw [← hw2];exact qd (Below.refl _ _) _
 have hC2:Vb w2 g (cmC 1 0 0 (.slice none 0 0)) 81:=by rw [← hw2,← hg];exact Vb.new _ _ _
 have H2:Hid (DecAt w N g 0 0 (.slice none 0 0) l1 w2):=Uq ⟨(hb2.block _ HR.out.lt).trans HR.out,hC2,(hb2.block _ HV.out.lt).trans HV.out,(HB.out.trans (HA.out.below N (by omega) (by simp))).trans (hb2.mono (by omega)),Nat.le_of_eq HN.out.symm⟩
 rw [hw2,hg]
 have n2:¬ g=N + 1:=by omega
 have n3:¬ N + 1=g:=by omega
 have HG:=Uq hgN;have z0:w2.cell? ⟨g,0,none⟩=some (.int .i64 1):=H2.out.cm.cell 0 _ rfl;clear hb2 hC2 hw2 hg HR HV HA hs1 hsX HX HB V1 V2 D0 hgN
 go_upto_region 6 with (go_at_call 419;first
  | (with_reducible refine (D1.out _ _ H2.out.rd).mono ?_;rintro e w3 ⟨rfl,hr,ha⟩;have H3:=Uq (H2.out.take hr ha n2);clear hr ha)
  | (with_reducible refine (D2.out _ _ H3.out.rd).mono ?_;rintro e w4 ⟨rfl,hr,ha⟩;have H4:=Uq (H3.out.take hr ha n2);have k1:w4.cell? ⟨g,1,none⟩=some (.int .u64 0):=H4.out.cm.cell 1 _ rfl;have k2:w4.cell? ⟨g,2,none⟩=some (.int .u64 0):=H4.out.cm.cell 2 _ rfl;have k3:=H4.out.cm.free 1;have k4:=H4.out.cm.free 2;clear hr ha))
 have h5:=H4.out.two HG.out;obtain ⟨w5,hw5⟩:∃ w5,(w4.setCell ⟨g,1,none⟩ (.int .u64 1)).setCell ⟨g,2,none⟩ (.int .u64 1)=w5:=⟨_,rfl⟩;rw [hw5] at h5 ⊢;have H5:=Uq h5;clear h5 hw5 k1 k2 k3 k4 z0 H2 H3 H4 D1 D2
 go_upto_region 7 with (go_at_call 419;with_reducible refine (D3.out _ _ H5.out.rd).mono ?_;rintro e w6 ⟨rfl,hr,ha⟩;have H6:=Uq (H5.out.take hr ha n2);have j0:=H6.out.rd.cell 0 _ rfl;clear hr ha)
 refine wp_loop_rounds 2 ?_;rw [rounds_succ]
 go_upto_region 11 with (go_at_call 197;with_reducible refine (DC.out _).mono ?_;rintro e w7 ⟨rfl,hb⟩;have H7:=Uq (H6.out.later hb);clear hb)
 have hb8:Below w7.heap.size w7 (w7.alloc (.cells #[.string (crcm.mk c.row),.string (crcm.mk c.col),.int .u64 (c.ts:Int),.int .u64 (c.seq:Int),.bool c.del,.string (crcm.mk c.val)] 46)):=qd (Below.refl _ _) _;have v8:=Vb.new w7 (qt c) 46;obtain ⟨w8,hw8⟩:∃ w8,w7.alloc (.cells #[.string (crcm.mk c.row),.string (crcm.mk c.col),.int .u64 (c.ts:Int),.int .u64 (c.seq:Int),.bool c.del,.string (crcm.mk c.val)] 46)=w8:=⟨_,rfl⟩;obtain ⟨h,hh⟩:∃ h,w7.heap.size=h:=⟨_,rfl⟩
 have v8:Vb w8 h (qt c) 46:=by rw [← hw8,← hh];exact v8
 rw [hw8] at hb8 ⊢;rw [hh];have H8:=Uq (H7.out.later hb8);have a0:=v8.cell 0 _ rfl;have a1:=v8.cell 1 _ rfl;have a2:=v8.cell 2 _ rfl;have a3:=v8.cell 3 _ rfl;have a4:=v8.cell 4 _ rfl;have a5:=v8.cell 5 _ rfl;have z3:w8.cell? ⟨g,3,none⟩=some (.slice none 0 0):=H8.out.cm.cell 3 _ rfl;clear hb8 v8 hw8 hh H5 H6 H7 j0 DC D3
 go_wp2_with (at_builtin;refine wpList_append_own _ rfl _ _ 40 rfl w8.heap.size 46 i0 _ 6 72 Tryz.underlying40 hi hz0 hz1 hz2 rfl (by decide) _ _ _ rfl (World.ownsRow_nil _ _ _ _) ⟨w8.heap.size,0,none⟩ 1 1 (qt c) rfl rfl ?c1 ?c2 ?c3 ?c4 ?c5 ?_)
 case c1=>exact Zb w8 (qt c) _
 case c2=>exact Qj c
 case c3=>unfold maxLen;omega
 case c4=>omega
 case c5=>rw [size_alloc'];omega
 intro v10 w10 hown10 hgrow10 _
 have hb10:Below w8.heap.size w8 w10:=(qd (Below.refl _ w8) _).grown hgrow10 (by rw [size_alloc'];omega) (λj hj=>by cases hj)
 have H10:=Uq (H8.out.later hb10)
 obtain ⟨b,k,rfl,hge,hlt,hk⟩:∃ b k,v10=.slice (some ⟨b,0,none⟩) 1 k∧w8.heap.size≤b∧b < w10.heap.size∧1≤k:=by
  rcases hown10.2 with ⟨_,h0⟩ | ⟨g',cap,cur,hv,hb,hh,hn,_⟩
  ·exact absurd h0 (by decide)
  ·exact ⟨g',cap,hv,hb,(Array.getElem?_eq_some_iff.1 hh).1,hn⟩
 have hca:CellAt w10 b 0 c:=λj u hj=>by
  have:=hown10.cells (g:=b) rfl j u hj;rw [qn] at this;exact this
 have hgl:g < w8.heap.size:=H8.out.cm.lt;have hrl:N + 1 < w8.heap.size:=H8.out.rd.lt
 have bg:¬ b=g:=by omega
 have br:¬ b=N + 1:=by omega
 have hNb:N < b:=by have:=HG.out;omega
 have hca2:CellAt ((w10.setCell ⟨g,3,none⟩ (.slice (some ⟨b,0,none⟩) 1 k)).setCell ⟨N + 1,0,none⟩ (.string (crcm.mk []))) b 0 c:=
  (hca.block ((Apart.setCell w10 g 3 _).block b hlt (by simpa using bg))).block ((Apart.setCell _ (N + 1) 0 _).block b (by have:=(Apart.setCell w10 g 3 (.slice (some ⟨b,0,none⟩) 1 k)).size;omega) (by simpa using br))
 have h11:=H10.out.end_ HG.out (.slice (some ⟨b,0,none⟩) 1 k) [];have k3:w10.cell? ⟨g,3,none⟩=some (.slice none 0 0):=H10.out.cm.cell 3 _ rfl;have k4:=H10.out.cm.free 3;have r0:=H10.out.rd.cell 0 _ rfl;have r1:=H10.out.rd.free 0;have H11:=Uq h11;have HCA:=Uq hca2;have HK:=Uq hk;have HNB:=Uq hNb;clear hb10 hown10 hgrow10 hge hlt hk hca hgl hrl bg br hNb hca2 h11 H8 a0 a1 a2 a3 a4 a5 z3;go_wp2_with fail;obtain ⟨w11,hw11⟩:∃ w11,(w10.setCell ⟨g,3,none⟩ (.slice (some ⟨b,0,none⟩) 1 k)).setCell ⟨N + 1,0,none⟩ (.string ⟨#[]⟩)=w11:=⟨_,rfl⟩
 have H11:Hid (DecAt w N g 1 1 (.slice (some ⟨b,0,none⟩) 1 k) [] w11):=by rw [← hw11];exact H11
 have HCA:Hid (CellAt w11 b 0 c):=by rw [← hw11];exact HCA
 rw [hw11];clear hw11 H10 k3 k4 r0 r1
 have nn:∀ w',DecAt w N g 1 1 (.slice (some ⟨b,0,none⟩) 1 k) [] w'→w'.cell? ⟨g,0,none⟩=some (.int .i64 1)∧w'.cell? ⟨g,1,none⟩=some (.int .u64 1)∧w'.cell? ⟨g,2,none⟩=some (.int .u64 1)∧w'.cell? ⟨g,3,none⟩=some (.slice (some ⟨b,0,none⟩) 1 k)∧w'.cell? ⟨g,4,none⟩=some (.string ⟨#[]⟩)∧w'.cell? ⟨g,5,none⟩=some (.int .u64 0)∧w'.cell? ⟨g,6,none⟩=some (.int .u32 0)∧w'.cell? ⟨g,7,none⟩=some (.int .u64 0)∧w'.cell? ⟨g,8,none⟩=some (.slice none 0 0):=λw' h=>Ko h.cm
 have NN:=Uq nn;clear nn;obtain ⟨a0,a1,a2,a3,a4,a5,a6,a7,a8⟩:=NN.out _ H11.out;rw [rounds_succ]
 go_upto_region 22 with (go_at_call 123;with_reducible refine (DE.out _ b k HCA.out HK.out).mono ?_;rintro e w12 ⟨rfl,hb⟩;have H12:=Uq (H11.out.later hb);have HCA2:=Uq (HCA.out.later hb);clear hb)
 clear a0 a1 a2 a3 a4 a5 a6 a7 a8;obtain ⟨a0,a1,a2,a3,a4,a5,a6,a7,a8⟩:=NN.out _ H12.out;have j1:w12.cell? ⟨N + 1,1,none⟩=some (.bool false):=H12.out.rd.cell 1 _ rfl;obtain ⟨z0,z1,z2,z3,z4,z5,z6,z7,z8⟩:w12.cell? ⟨N,0,none⟩=some (.int .i64 0)∧w12.cell? ⟨N,1,none⟩=some (.int .u64 0)∧w12.cell? ⟨N,2,none⟩=some (.int .u64 0)∧w12.cell? ⟨N,3,none⟩=some (.slice none 0 0)∧w12.cell? ⟨N,4,none⟩=some (.string ⟨#[]⟩)∧w12.cell? ⟨N,5,none⟩=some (.int .u64 0)∧w12.cell? ⟨N,6,none⟩=some (.int .u32 0)∧w12.cell? ⟨N,7,none⟩=some (.int .u64 0)∧w12.cell? ⟨N,8,none⟩=some (.slice none 0 0):=Ko H12.out.res;have y0:=H12.out.res.free 0;have y1:=H12.out.res.free 1;have y2:=H12.out.res.free 2;have y3:=H12.out.res.free 3;have y4:=H12.out.res.free 4;have y5:=H12.out.res.free 5;have y6:=H12.out.res.free 6;have y7:=H12.out.res.free 7;have y8:=H12.out.res.free 8;go_wp2_with fail;have hF:=(((((((((H12.out.res.set 0 (.int .i64 1)).set 1 (.int .u64 1)).set 2 (.int .u64 1)).set 3 (.slice (some ⟨b,0,none⟩) 1 k)).set 4 (.string ⟨#[]⟩)).set 5 (.int .u64 0)).set 6 (.int .u32 0)).set 7 (.int .u64 0)).set 8 (.slice none 0 0));have hb14:=H12.out.bel;have hB:=(((((((((hb14.setCell (p:=⟨N,0,none⟩) (Nat.le_refl _) (.int .i64 1)).setCell (p:=⟨N,1,none⟩) (Nat.le_refl _) (.int .u64 1)).setCell (p:=⟨N,2,none⟩) (Nat.le_refl _) (.int .u64 1)).setCell (p:=⟨N,3,none⟩) (Nat.le_refl _) (.slice (some ⟨b,0,none⟩) 1 k)).setCell (p:=⟨N,4,none⟩) (Nat.le_refl _) (.string ⟨#[]⟩)).setCell (p:=⟨N,5,none⟩) (Nat.le_refl _) (.int .u64 0)).setCell (p:=⟨N,6,none⟩) (Nat.le_refl _) (.int .u32 0)).setCell (p:=⟨N,7,none⟩) (Nat.le_refl _) (.int .u64 0)).setCell (p:=⟨N,8,none⟩) (Nat.le_refl _) (.slice none 0 0));have hA:=(((((((((Apart.setCell w12 N 0 (.int .i64 1)).trans (Apart.setCell _ N 1 (.int .u64 1))).trans (Apart.setCell _ N 2 (.int .u64 1))).trans (Apart.setCell _ N 3 (.slice (some ⟨b,0,none⟩) 1 k))).trans (Apart.setCell _ N 4 (.string ⟨#[]⟩))).trans (Apart.setCell _ N 5 (.int .u64 0))).trans (Apart.setCell _ N 6 (.int .u32 0))).trans (Apart.setCell _ N 7 (.int .u64 0))).trans (Apart.setCell _ N 8 (.slice none 0 0)))
 have hcF:=HCA2.out.block (hA.block b (World.block_lt_of_cell? _ _ (HCA2.out 0 _ rfl)) (by have:=HNB.out;simp;omega))
 refine bodyPost_ret (tb_res2 rfl _ _ N _ _ (0,0) _ rfl hF Tryz.underlying81 rfl (by rw [K1];rfl)) rfl ?_
 refine ⟨b,k,rfl,hcF,HK.out,?_,?_⟩
 ·have:=HNB.out;have:=HN.out;omega
 ·rw [HN.out];exact hB
end Go.Proofs.YtppibhieabideaaGreatDoor
namespace Go.Proofs.YtppibhieabideaaGreatDoor
set_option maxHeartbeats 4000000
open Go Go.RowKit
set_option maxRecDepth 100000
theorem Za:(Tryz.prog.info? 46).map (λi=>(i.zero,i.size,i.bytes))=some (some (.agg #[.string .empty,.string .empty,.int .u64 0,.int .u64 0,.bool false,.string .empty]),6,72):=by kernel_rfl
set_option maxHeartbeats 2000000 in
theorem cl_grow (n:Nat) (w:World) (hn:n≤1000000) :
  Calls Tryz.prog 186 #[.slice none 0 0,.int .i64 (n:Int)] w λe w'=>∃ v,e=.returned v∧w'.ownsRow w.heap.size 46 6 v 0 []∧Below w.heap.size w w':=by
 obtain ⟨i0,hi,hz0,hz1,hz2⟩:=info_parts Za
 by_cases h0:n=0
 ·subst h0
  go_enter Tryz.func186,Tryz.ntmps186
  go_wp2;go_ret;exact ⟨_,rfl,World.ownsRow_nil _ _ _ _,Below.refl _ _⟩
 ·have hrz:∀ ty,(Builtin.append_ #[40,3] ty #[.slice none 0 0,.int .i64 (n:Int)]).run Tryz.prog w=.ok _ _:=λty=>
   Lib.run_append_grow_zeros w 40 3 ty 46 i0 _ .i64 .i64 Tryz.underlying40 Tryz.underlying3 hi hz0 none 0 0 [] (run_firstCells_none w.drew i0.size 0 0 0) n (by omega) (by omega) (by omega) (by omega)
    (by rw [hz2];omega) (growslice_fits (by omega) (by rw [hz2];omega))
  have hge:=grownCap_ge w (0 + n) 0 46
  have hle:=grownCap_le_maxLen w (0 + n) 0 46 (by unfold maxLen;omega)
  obtain ⟨G,hG⟩:∃ G,grownCap w (0 + n) 0 46=G:=⟨_,rfl⟩;rw [hG,Nat.zero_add] at hrz hge;rw [hG] at hle;obtain ⟨Z,hZ⟩:∃ Z:Array Value,(#[] ++ Builtin.zeroCells (Value.agg #[.string .empty,.string .empty,.int .u64 0,.int .u64 0,.bool false,.string .empty]).cells n ++ Builtin.zeroCells (Value.agg #[.string .empty,.string .empty,.int .u64 0,.int .u64 0,.bool false,.string .empty]).cells (G - n))=Z:=⟨_,rfl⟩;have hw2:Below w.heap.size w (w.drew.alloc (.cells Z 46)):=(below_drewN (Below.refl _ w) 1).alloc (Nat.le_refl _) _;have hb2:=heap_alloc_new w.drew (.cells Z 46)
  have hsz:Z.size=G * 6:=by
   rw [← hZ,Array.size_append,Array.size_append,size_zeroCells,size_zeroCells]
   simp [Value.cells]
   omega
  obtain ⟨W,hW⟩:∃ W,w.drew.alloc (.cells Z 46)=W:=⟨_,rfl⟩;rw [hW] at hw2 hb2
  have hrz2:∀ ty,(Builtin.append_ #[40,3] ty #[.slice none 0 0,.int .i64 (n:Int)]).run Tryz.prog w=.ok (.slice (some ⟨w.heap.size,0,none⟩) n G) W:=λty=>by rw [hrz ty,hZ,hW]
  have Hw2:=Uq hw2;have Hb2:=Uq hb2;have Hsz:=Uq hsz;unfold maxLen at hle;clear hrz hW hw2 hb2 hsz hG hZ
  go_enter Tryz.func186,Tryz.ntmps186
  go_wp2_with (at_builtin;refine Lib.wpList_append_run _ rfl _ _ _ _ rfl _ _ rfl rfl _ _ (hrz2 _) ?_)
  go_ret
  refine ⟨_,rfl,⟨rfl,.inr ⟨w.heap.size,G,_,rfl,Nat.le_refl _,Hb2.out,Nat.zero_le _,hle,Hsz.out,by simp⟩⟩,Hw2.out⟩
theorem vB (g k:Nat) (vs:List Value) (ns:List Nat) (xss:List (List Value)) (w:World) (h1:vs.length=ns.length) (h2:xss.length=ns.length) (hg:∀ j u,vs[j]?=some u→w.cell? ⟨g,j,none⟩=some u)
  (hc:∀ (j:Nat) (v:Value) (n:Nat) (xs:List Value),vs[j]?=some v→ns[j]?=some n→xss[j]?=some xs→Cut w 6 v n xs) (hs:ns.sum≤100000) (hl:ns.length≤100000) :
  Calls Tryz.prog 78 #[.slice (some ⟨g,0,none⟩) ns.length k] w λe w'=>∃ v,e=.returned v∧w'.ownsRow w.heap.size 46 6 v ns.sum xss.flatten∧Below w.heap.size w w':=by
 obtain ⟨i0,hi,hz0,hz1,hz2⟩:=info_parts Za;obtain ⟨N,hN⟩:∃ N,ns.length=N:=⟨_,rfl⟩;obtain ⟨T,hT⟩:∃ T,ns.sum=T:=⟨_,rfl⟩
 have hstep:∀ j,j < N→∃ (A:Option Addr) (n c:Nat) (xs:List Value),w.cell? ⟨g,j,none⟩=some (.slice A n c)∧Cut w 6 (.slice A n c) n xs∧(ns.take (j + 1)).sum=(ns.take j).sum + n∧(ns.take j).sum + n≤T∧(xss.take (j + 1)).flatten=(xss.take j).flatten ++ xs:=λj hj=>by
  have e1:vs[j]?=some (vs[j]'(by omega)):=List.getElem?_eq_getElem (by omega)
  have e2:ns[j]?=some (ns[j]'(by omega)):=List.getElem?_eq_getElem (by omega)
  have e3:xss[j]?=some (xss[j]'(by omega)):=List.getElem?_eq_getElem (by omega)
  have hcut:=hc j _ _ _ e1 e2 e3;obtain ⟨⟨A,c,hv,_⟩,_,_⟩:=id hcut
  refine ⟨A,_,c,_,by rw [← hv];exact hg j _ e1,by rw [← hv];exact hcut,?_,?_,?_⟩
  ·exact QD e2
  ·rw [← hT,← QD e2];exact zy ns (j + 1)
  ·exact zz e3
 have hfull:(ns.take N).sum=T∧(xss.take N).flatten=xss.flatten:=⟨by rw [← hT,← hN,List.take_length],by rw [← hN,← h2,List.take_length]⟩
 rw [hT] at hs ⊢;rw [hN] at hl ⊢;have HS:=Uq hstep;have HF:=Uq hfull
 have HG:=Uq (cl_grow T w (by omega))
 clear hstep hfull hc hg h1 h2 hN hT
 go_enter Tryz.func78,Tryz.ntmps78
 go_wp2_with fail
 go_loop [3,11] (λs i=>∃ j:Nat,j≤N∧i=.int .i64 j∧s=.int .i64 ((ns.take j).sum:Nat)) (λ_ i=>N - (intOf i).toNat)
 case atStart=>exact ⟨0,Nat.zero_le _,rfl,rfl⟩
 case round=>
  obtain ⟨j,hj,rfl,rfl⟩:=hrel
  by_cases hlt:j < N
  ·obtain ⟨A,n,c,xs,c0,-,e1,e2,-⟩:=HS.out j hlt;obtain ⟨S0,hS0⟩:∃ S0,(ns.take j).sum=S0:=⟨_,rfl⟩;rw [hS0] at e1 e2 ⊢;have HE:=Uq e1;clear e1 hS0
   have q1:¬ (S0:Int) + (n:Int) < 0:=by omega
   have q2:(S0:Int) + (n:Int)≤100000:=by omega
   go_wp2_with fail
   go_round
   ·exact ⟨j + 1,by omega,by go_num,by rw [HE.out];go_num⟩
   ·simp [intOf];omega
  ·obtain rfl:j=N:=by omega
   rw [HF.out.1]
   go_upto_region 11 with (go_at_call 186;refine HG.out.mono ?_;rintro e w1 ⟨v1,rfl,ho,hb⟩;have HO:=Uq ho;have HB:=Uq hb;clear ho hb)
   go_loopw [6,27] (λs i wr=>∃ j':Nat,j'≤j∧i=.int .i64 j'∧wr.ownsRow w.heap.size 46 6 s (ns.take j').sum (xss.take j').flatten∧Below w.heap.size w wr) (λ_ i _=>j - (intOf i).toNat)
   case atStart=>exact ⟨0,Nat.zero_le _,rfl,HO.out,HB.out⟩
   case round=>
    obtain ⟨j',hj',rfl,ho,hb⟩:=hrel;have HO2:=Uq ho;have HB2:=Uq hb;clear ho hb
    by_cases hlt2:j' < j
    ·obtain ⟨A,n,c,xs,c0,hcut,e1,e2,e3⟩:=HS.out j' hlt2;have c1:=cell_later HB2.out c0;have HC:=Uq (hcut.later HB2.out);have HE1:=Uq e1;have HE3:=Uq e3;have HE2:=Uq e2;clear hcut e1 e2 e3 c0
     go_wp2_with (at_builtin;refine qo _ rfl _ _ 40 rfl w.heap.size 46 i0 _ 6 72 Tryz.underlying40 hi hz0 hz1 hz2 rfl (by decide) _ _ _ rfl HO2.out A n c xs rfl ?c1 ?c2 ?c3 ?c4 ?c5 ?c6 ?_)
     case c1=>exact HC.out.len
     case c2=>exact HC.out.at_
     case c3=>exact HC.out.one
     case c4=>have:=HE2.out;unfold maxLen;omega
     case c5=>have:=HE2.out;omega
     case c6=>exact HB2.out.size
     intro v2 w2 hown2 hgrow2
     have hb2:Below w.heap.size w w2:=HB2.out.grown hgrow2 HB2.out.size (λi hi=>(HO2.out.lt i hi).1)
     rw [← HE1.out,← HE3.out] at hown2;have HO3:=Uq hown2;have HB3:=Uq hb2;clear hown2 hb2 hgrow2;go_wp2_with fail;go_roundw
     case rel=>exact ⟨j' + 1,by omega,by go_num,HO3.out,HB3.out⟩
     case measure=>simp [intOf];omega
    ·obtain rfl:j'=j:=by omega
     have ho:=HO2.out;rw [HF.out.1,HF.out.2] at ho;have HO3:=Uq ho;clear ho;go_wp2_with fail;go_ret;exact ⟨_,rfl,HO3.out,HB2.out⟩
theorem jL (v:Value) (n:Nat) (xs:List Value) (w:World) (hc:Cut w 6 v n xs) (hn:n≤100000) :
  Calls Tryz.prog 96 #[v] w λe w'=>∃ u,e=.returned u∧w'.ownsRow w.heap.size 46 6 u n xs∧Below w.heap.size w w':=by
 obtain ⟨i0,hi,hz0,hz1,hz2⟩:=info_parts Za;obtain ⟨⟨A,c,rfl,hA⟩,_,_⟩:=id hc
 have q22:∀ (w:World) (a:Option Addr) (n c n' c':Nat),(binOp .eql 40 (.slice a n c) (.slice none n' c')).run Tryz.prog w=.ok (.bool a.isNone) w:=λw a n c n' c'=>Lib.run_eql_slice_nil w _ _ a n c n' c' Tryz.underlying40
 have HC:=Uq hc
 cases A with
 | none=>
  have h0:n=0:=(hA.1 rfl).1;have hc0:c=0:=(hA.1 rfl).2
  have hx:xs=[]:=List.eq_nil_of_length_eq_zero (by have:=hc.len;omega)
  subst h0;subst hc0;subst hx;clear hA hc
  go_enter Tryz.func96,Tryz.ntmps96
  go_wp2_with fail;go_ret;exact ⟨_,rfl,World.ownsRow_nil _ _ _ _,Below.refl _ _⟩
 | some ad=>
  clear hA hc
  go_enter Tryz.func96,Tryz.ntmps96
  go_wp2_with (at_builtin;refine qo _ rfl _ _ 40 rfl w.heap.size 46 i0 _ 6 72 Tryz.underlying40 hi hz0 hz1 hz2 rfl (by decide) _ _ _ rfl (Yq w 0 46 6) (some ad) n c xs rfl ?c1 ?c2 ?c3 ?c4 ?c5 ?c6 ?_)
  case c1=>exact HC.out.len
  case c2=>exact (HC.out.later ((Below.refl _ w).alloc (Nat.le_refl _) _)).at_
  case c3=>exact HC.out.one
  case c4=>unfold maxLen;omega
  case c5=>omega
  case c6=>simp
  intro v2 w2 hown2 hgrow2
  have hb2:Below w.heap.size w w2:=((Below.refl _ w).alloc (Nat.le_refl _) _).grown hgrow2 (by simp) (λi hi=>by cases hi;simp)
  have HO:=Uq hown2;have HB:=Uq hb2;clear hown2 hb2 hgrow2;go_wp2_with fail;go_ret;exact ⟨_,rfl,HO.out,HB.out⟩
theorem xG:(Tryz.prog.info? 487).map (λi=>(i.zero,i.size,i.bytes))=some (some (.agg #[.int .u64 0,.int .u64 0,.int .i64 0]),3,24):=by kernel_rfl
theorem uY (v:Value) (n:Nat) (xs:List Value) (w:World) (hc:Cut w 3 v n xs) (hn:n≤100000) :
  Calls Tryz.prog 424 #[v] w λe w'=>∃ u,e=.returned u∧w'.ownsRow w.heap.size 487 3 u n xs∧Below w.heap.size w w':=by
 obtain ⟨i0,hi,hz0,hz1,hz2⟩:=info_parts xG;obtain ⟨⟨A,c,rfl,hA⟩,_,_⟩:=id hc
 have q22:∀ (w:World) (a:Option Addr) (n c n' c':Nat),(binOp .eql 204 (.slice a n c) (.slice none n' c')).run Tryz.prog w=.ok (.bool a.isNone) w:=λw a n c n' c'=>Lib.run_eql_slice_nil w _ _ a n c n' c' Tryz.underlying204
 have HC:=Uq hc
 cases A with
 | none=>
  have h0:n=0:=(hA.1 rfl).1;have hc0:c=0:=(hA.1 rfl).2
  have hx:xs=[]:=List.eq_nil_of_length_eq_zero (by have:=hc.len;omega)
  subst h0;subst hc0;subst hx;clear hA hc
  go_enter Tryz.func424,Tryz.ntmps424
  go_wp2_with fail;go_ret;exact ⟨_,rfl,World.ownsRow_nil _ _ _ _,Below.refl _ _⟩
 | some ad=>
  clear hA hc
  go_enter Tryz.func424,Tryz.ntmps424
  go_wp2_with (at_builtin;refine qo _ rfl _ _ 204 rfl w.heap.size 487 i0 _ 3 24 Tryz.underlying204 hi hz0 hz1 hz2 rfl (by decide) _ _ _ rfl (Yq w 0 487 3) (some ad) n c xs rfl ?c1 ?c2 ?c3 ?c4 ?c5 ?c6 ?_)
  case c1=>exact HC.out.len
  case c2=>exact (HC.out.later ((Below.refl _ w).alloc (Nat.le_refl _) _)).at_
  case c3=>exact HC.out.one
  case c4=>unfold maxLen;omega
  case c5=>omega
  case c6=>simp
  intro v2 w2 hown2 hgrow2
  have hb2:Below w.heap.size w w2:=((Below.refl _ w).alloc (Nat.le_refl _) _).grown hgrow2 (by simp) (λi hi=>by cases hi;simp)
  have HO:=Uq hown2;have HB:=Uq hb2;clear hown2 hb2 hgrow2;go_wp2_with fail;go_ret;exact ⟨_,rfl,HO.out,HB.out⟩
end Go.Proofs.YtppibhieabideaaGreatDoor
