/- CrcIter, CrcAllIt, WlOpen, WlLaw, WlUse: one behind the other. -/
import Derived.RangeFuncBox
import Derived.RangeFuncNested
import Derived.RangeFuncBound
import Derived.RangeFuncCalls
import Derived.RangeFuncLeaves
import Derived.Shelf.RegionOpen
import Derived.WalkKit
import Derived.OwnWalkIn
import Derived.TacticsInMore
import Derived.LoopNIn
import Derived.LoopIn
import Derived.Maps.AppendAt
import Derived.Test.YtmcibggjolckoaaGreatDoorGm5
import Derived.RegionIn
import Derived.BigRegionIn
namespace Go.Proofs.YtmcibggjolckoaaGreatDoor
open Go Go.RowKit
set_option maxRecDepth 100000
attribute [local go_sem] Oper.semAt_some
def encP (x:Nat × List UInt8):Array Value:=#[.int .i64 (x.1:Int),.string (crcm.mk x.2)]
def KeepS (n₀ Bs:Nat) (W W':World):Prop:=Below n₀ W W'∧W'.heap[Bs]?=W.heap[Bs]?
theorem AbidesFrom.mono {β:Type} {B B':Nat} {J:β→World→Prop} (h:AbidesFrom B J) (hB:B≤B'):AbidesFrom B' J:=
 fun s X Y row hs hg hr=>h s X Y row hs hg (fun r e=>⟨Nat.le_trans hB (hr r e).1,(hr r e).2⟩)
set_option maxRecDepth 100000 in
set_option maxHeartbeats 4000000 in
theorem texts1_in (n:Nat) (hn:1≤n) (l Bs n₀:Nat) (s:ByteArray) (hs:s.size≤10000000) (hn₀:0 < n₀) (J Jx:List (Nat × List UInt8)→World→Prop)
  (W:World) (hJ:AbidesFrom W.heap.size J)
  (hY:∀ pre x W1,J pre W1→pre.length < (crcm.pairsFrom 0 s.data.toList).length→YieldAt Fence.wide (n - 1) Tryz.prog l (encP x) W1 fun e W'=>
   (e=.returned (.bool true)∧J (pre ++ [x]) W'∧KeepS n₀ Bs W1 W')∨(e=.returned (.bool false)∧Jx (pre ++ [x]) W'))
  (hBs:W.heap[Bs]?=some (.cells #[.string s] 9 (0,0))) (hsz1:n₀≤W.heap.size) (ht:TabAt W) (h0:J [] W) :
  CallsIn Fence.wide n Tryz.prog 110 #[.func (.yield l) #[] #[],.pointer (some ⟨Bs,0,none⟩)] W fun e W'=>(∃ v,e=.returned v) ∧
   ((∃ ys,ys=crcm.pairsFrom 0 s.data.toList∧J ys W')∨(∃ pre,pre <+: crcm.pairsFrom 0 s.data.toList∧Jx pre W')):=by
 refine callsIn_of_wp Tryz.func110 rfl trivial ?_ rfl
 simp only [Tryz.ntmps110,List.size_toArray,List.length_cons,List.length_nil,Nat.reduceAdd,Nat.reduceSub,Array.replicate_succ,Array.replicate_zero,List.push_toArray,List.append_toArray,List.nil_append,List.cons_append]
 have Hl:=Lib.hid (crcm.size_len s)
 gi_wp2
 gi_loopw [3] (fun at_ wr=>∃ (k:Nat) (pre:List (Nat × List UInt8)),k≤s.size∧at_=.int .i64 k∧crcm.pairsFrom 0 s.data.toList=pre ++ crcm.pairsFrom k (s.data.toList.drop k)∧J pre wr∧KeepS n₀ Bs W wr)
  (fun at_ _=>s.size - (intOf at_).toNat)
 case atStart=>exact ⟨0,[],Nat.zero_le _,rfl,rfl,h0,Below.refl _ _,rfl⟩
 case round=>
  obtain ⟨k,pre,hk,rfl,hall,hJs,hkeep⟩:=hrel
  have htr:=ht.below hkeep.1 hn₀
  have hsz0:n₀≤wr.heap.size:=Nat.le_trans hsz1 hkeep.1.size
  have hbs:wr.heap[Bs]?=some (.cells #[.string s] 9 (0,0)):=hkeep.2.trans hBs
  have hcb:=cell_of_one hbs
  have HA:=Lib.hid hall
  clear hall
  have hsz:(s.extract k s.size).size≤maxLen:=extract_le _ _ _ (by omega)
  have hdl:(s.data.toList.drop k).length=s.size - k:=by rw [List.length_drop,Hl.out]
  have hex:(s.extract k s.size).data.toList=s.data.toList.drop k:=by
   rw [Lib.extract_data,List.take_of_length_le (by omega)]
  obtain ⟨t,m,er,hg⟩:∃ t n er,crcm.get (s.data.toList.drop k)=(t,n,er):=⟨_,_,_,rfl⟩
  by_cases he:er=0
  ·subst he
   have h0:(crcm.get (s.data.toList.drop k)).2.2=0:=by rw [hg]
   have hok:=crcm.get_ok h0
   have hst:=crcm.pairsFrom_step (k:=k) h0
   rw [hg] at hok hst
   simp only [hdl] at hok
   have o1:=hok.1
   have o2:=hok.2.1
   clear hok
   have hg2:crcm.get (s.extract k s.size).data.toList=(t,m,0):=by rw [hex];exact hg
   have Hg:=Lib.hid hg2
   have hstep:crcm.pairsFrom 0 s.data.toList=(pre ++ [(k + m,t)]) ++ crcm.pairsFrom (k + m) (s.data.toList.drop (k + m)):=by
    rw [HA.out,hst]
    simp only [List.drop_drop,List.append_assoc,List.cons_append,List.nil_append]
   have hlen:pre.length < (crcm.pairsFrom 0 s.data.toList).length:=by rw [hstep];simp only [List.length_append,List.length_cons,List.length_nil];omega
   have HS:=Lib.hid hstep
   obtain ⟨en,hen⟩:∃ en,k + m=en:=⟨_,rfl⟩
   have heni:(k:Int) + (m:Int)=(en:Int):=by omega
   have Hen:=Lib.hid hen
   have hY':=hY
   have HY:=Lib.hid hY'
   have hJ':=hJ
   have HJ:=Lib.hid hJ'
   clear hstep hst hg2 hg hex hdl h0 hY hJ hY' hJ' hen
   gi_wp2_with (refine ⟨trivial,?_⟩;gi_at_call 111;refine (callsIn_wide.2 (get_any _ _ hsz htr)).mono ?_;unfold GetPost;rw [Hg.out];rintro e w1 ⟨rfl,hb1⟩;have hJ1:=(AbidesFrom.mono HJ.out hkeep.1.size) pre wr w1 none hJs (grown_of_below hb1 none) (by intro r e;cases e);obtain ⟨fn,tmps,assign,body,hy,hR⟩:=HY.out pre (en,t) w1 hJ1 hlen;dsimp only [encP] at hy)
   refine hR.mono ?_
   have hk1:KeepS n₀ Bs wr w1:=⟨hb1.mono hsz0,hb1.block Bs (lt_of_block hbs)⟩
   rintro e W3 (⟨rfl,hJ3,hk3⟩ | ⟨rfl,hJx3⟩)
   ·gi_wp2
    go_roundw
    case rel=>exact ⟨en,pre ++ [(en,t)],by rw [← Hen.out];omega,rfl,by rw [HS.out,Hen.out],hJ3,hkeep.1.trans (hk1.1.trans hk3.1),hk3.2.trans (hk1.2.trans hkeep.2)⟩
    case measure=>simp [intOf];omega
   ·gi_wp2
    refine bodyPost_ret (results_none rfl _ _ _) rfl ?_
    exact ⟨⟨_,rfl⟩,.inr ⟨pre ++ [(en,t)],⟨_,by rw [HS.out,Hen.out]⟩,hJx3⟩⟩
  ·have h0:(crcm.get (s.data.toList.drop k)).2.2 ≠ 0:=by rw [hg];exact he
   have hst:=crcm.pairsFrom_stop (k:=k) h0
   have hg2:crcm.get (s.extract k s.size).data.toList=(t,m,er):=by rw [hex];exact hg
   have Hg:=Lib.hid hg2
   have hstep:crcm.pairsFrom 0 s.data.toList=pre:=by
    rw [HA.out,hst,List.append_nil]
   have HS:=Lib.hid hstep
   have hb:((er:Int) != 0)=true:=by rw [bne_iff_ne];omega
   have hJ':=hJ
   have HJ:=Lib.hid hJ'
   clear hstep hst hg2 hg hex hdl h0 hJ hJ' hY
   gi_wp2_with (refine ⟨trivial,?_⟩;gi_at_call 111;refine (callsIn_wide.2 (get_any _ _ hsz htr)).mono ?_;unfold GetPost;rw [Hg.out];rintro e w1 ⟨rfl,hb1⟩)
   refine bodyPost_ret (results_none rfl _ _ _) rfl ?_
   exact ⟨⟨_,rfl⟩,.inl ⟨_,HS.out.symm,(AbidesFrom.mono HJ.out hkeep.1.size) pre wr w1 none hJs (grown_of_below hb1 none) (by intro r e;cases e)⟩⟩
end Go.Proofs.YtmcibggjolckoaaGreatDoor
namespace Go.Proofs.YtmcibggjolckoaaGreatDoor
open Go Go.RowKit
set_option maxRecDepth 100000
attribute [local go_sem] Oper.semAt_some
theorem KeepS.trans {n₀ Bs:Nat} {A B C:World} (h:KeepS n₀ Bs A B) (k:KeepS n₀ Bs B C):KeepS n₀ Bs A C:=⟨h.1.trans k.1,k.2.trans h.2⟩
theorem texts_stops (n:Nat) (hn:1≤n) (Bs n₀:Nat) (s:ByteArray) (hs:s.size≤10000000) (hn₀:0 < n₀) (w:World) (hsz:n₀≤w.heap.size) (hb:w.heap[Bs]?=some (.cells #[.string s] 9 (0,0))) (ht:TabAt w) :
  SeqStopsK Fence.wide n Tryz.prog 110 #[.pointer (some ⟨Bs,0,none⟩)] encP (KeepS n₀ Bs) (fun ys=>ys=crcm.pairsFrom 0 s.data.toList) (fun pre=>pre <+: crcm.pairsFrom 0 s.data.toList) (crcm.pairsFrom 0 s.data.toList).length w:=
 fun l J Jx W hW hJ _ hY h0=>texts1_in n hn l Bs n₀ s hs hn₀ J Jx W hJ hY ((hW.block Bs (lt_of_block hb)).trans hb) (Nat.le_trans hsz hW.size) (ht.below hW ht.1) h0
theorem texts_in (n:Nat) (s:ByteArray) (w:World) :
  CallsIn Fence.wide n Tryz.prog 90 #[.string s] w fun e w'=>e=.returned (.func (.func 110) #[] #[.pointer (some ⟨w.heap.size,0,none⟩)])∧w'=w.alloc (.cells #[.string s] 9):=by
 refine callsIn_of_wp Tryz.func90 rfl trivial ?_ rfl
 simp only [Tryz.ntmps90,List.size_toArray,List.length_cons,List.length_nil,Nat.reduceAdd,Nat.reduceSub,Array.replicate_succ,Array.replicate_zero,List.push_toArray,List.append_toArray,List.nil_append,List.cons_append]
 gi_wp2
 go_ret
 exact ⟨rfl,rfl⟩
theorem row_far {W:World} {base:Nat} {e:TypeId} {size k:Nat} {v:Value} {xs:List Value} (hr:W.ownsRow base e size v k xs) {B:Nat} (h:B < base):some B ≠ v.ownBlock:=by
 intro e'
 have:=(hr.lt B e'.symm).1
 omega
theorem box_grown {W w1:World} {B base:Nat} {t e:TypeId} {size k:Nat} {u v:Value} {xs:List Value} {tmp:Obj} (hv:Boxed W B t u) (h:B < base) (hrow:W.ownsRow base e size v k xs) (hg:(W.alloc tmp).grownBy w1 v.ownBlock):Boxed w1 B t u:=
 (hv.alloc tmp).kept hg (row_far hrow h)
theorem grown_keeps {W w1:World} {base:Nat} {e:TypeId} {size k:Nat} {v:Value} {xs:List Value} {tmp:Obj} (hrow:W.ownsRow base e size v k xs) (hgrow:(W.alloc tmp).grownBy w1 v.ownBlock):KeepsOthers W w1:=by
 refine (KeepsOthers.alloc W tmp).trans (KeepsOthers.of_grownBy hgrow fun j o ej hj=>?_)
 rcases (hrow.alloc tmp).2 with ⟨rfl,_⟩ | ⟨g,cap,cur,rfl,_,hgb,_⟩
 ·simp [Value.ownBlock] at ej
 ·obtain rfl:g=j:=by simpa [Value.ownBlock] using ej
  rw [hgb] at hj;cases hj;rfl
theorem grown_below {W w1:World} {base n₀:Nat} {e:TypeId} {size k:Nat} {v:Value} {xs:List Value} {tmp:Obj} (hrow:W.ownsRow base e size v k xs) (hgrow:(W.alloc tmp).grownBy w1 v.ownBlock) (h:n₀≤base) (hn:n₀≤W.heap.size):Below n₀ W w1:=
 ((Below.refl n₀ W).alloc hn tmp).grown hgrow (by simp;omega) fun j ej=>Nat.le_trans h (hrow.lt j ej).1
theorem box_own {β:Type} (B:Nat) (t:TypeId) (f:β→Value):Own (fun s W=>Boxed W B t (f s)):=fun s X Y row h hg hrow=>
 h.kept hg (fun e'=>by
  obtain ⟨o,ho,hc⟩:=hrow B e'.symm
  rw [show X.heap[B]?=_ from h] at ho;cases ho;cases hc)
theorem owns_mono {w:World} {base base':Nat} {e:TypeId} {size n:Nat} {v:Value} {xs:List Value} (h:w.ownsRow base e size v n xs) (hb:base'≤base):w.ownsRow base' e size v n xs:=by
 refine ⟨h.1,?_⟩
 rcases h.2 with h | ⟨g,cap,cur,e1,h1,r⟩
 ·exact .inl h
 ·exact .inr ⟨g,cap,cur,e1,Nat.le_trans hb h1,r⟩
def StrsB (B:Nat) (w:World) (v:Value) (ls:List (List UInt8)):Prop:=
 ∃ A c,v=.slice A ls.length c∧∀ k,k < ls.length→∃ ad,A=some ad∧B≤ad.block∧w.cell? (ad.add k)=some (.string (crcm.mk (ls.getD k [])))
theorem strsB_of_owns {w:World} {base:Nat} {e:TypeId} {v:Value} {n:Nat} {ls:List (List UInt8)} (hn:n=ls.length) (h:w.ownsRow base e 1 v n (ls.map strV)):StrsB base w v ls:=by
 obtain ⟨A,c,e1,hc⟩:=strs_of_owns hn h
 refine ⟨A,c,e1,fun k hk=>?_⟩
 obtain ⟨ad,e2,h2⟩:=hc k hk
 refine ⟨ad,e2,?_,h2⟩
 subst e2
 exact (h.lt ad.block (by rw [e1];rfl)).1
set_option maxRecDepth 100000 in
set_option maxHeartbeats 4000000 in
theorem all_own (s:ByteArray) (w:World) (hs:s.size≤10000000) (ht:TabAt w) :
  Calls Tryz.prog 73 #[.string s] w fun e w'=>∃ v,e=.returned (.tuple #[v,.int .i64 ((crcm.allOf s.data.toList).2:Nat)])∧w'.ownsRow w.heap.size 9 1 v (crcm.allOf s.data.toList).1.length ((crcm.allOf s.data.toList).1.map strV)∧Below w.heap.size w w':=by
 obtain ⟨i0,hi,hz0,hz1,hz2⟩:=info_parts info_string
 refine (callsIn_wide (n:=3)).1 ?_
 refine callsIn_of_wp_marks Tryz.func73 rfl trivial ?_ rfl
 simp only [Tryz.ntmps73,List.size_toArray,List.length_cons,List.length_nil,Nat.reduceAdd,Nat.reduceSub,Array.replicate_succ,Array.replicate_zero,List.push_toArray,List.append_toArray,List.nil_append,List.cons_append]
 gi_wp2_with (refine ⟨trivial,?_⟩;gi_at_call 90;refine (texts_in _ _ _).mono ?_;rintro e w' ⟨rfl,rfl⟩)
 have hpa:=crcm.pairs_all s.data.toList.length 0 s.data.toList (Nat.le_refl _)
 rw [crcm.size_len] at hpa
 have Hpa:=Lib.hid hpa
 have hnp:(crcm.pairsFrom 0 s.data.toList).length≤10000000:=by have:=hpa.2.2;omega
 clear hpa
 have bO:=Boxed.new w 22 (.slice none 0 0)
 have bE:=Boxed.new (w.alloc (.cells #[.slice none 0 0] 22)) 3 (.int .i64 0)
 have bS:=Boxed.new ((w.alloc (.cells #[.slice none 0 0] 22)).alloc (.cells #[.int .i64 0] 3)) 9 (.string s)
 simp only [World.size_alloc] at bE bS
 have hB0:Below w.heap.size w (((w.alloc (.cells #[.slice none 0 0] 22)).alloc (.cells #[.int .i64 0] 3)).alloc (.cells #[.string s] 9)):=(((Below.refl _ w).alloc (Nat.le_refl _) _).alloc (by simp) _).alloc (by simp;omega) _
 have ht0:=ht.below hB0 ht.1
 refine wpIn_rangeFunc_ownG rfl (by decide) (gf:=110) (lb:=#[.pointer (some ⟨w.heap.size + 1 + 1,0,none⟩)]) rfl trivial (enters_of Tryz.func110 (by kernel_rfl) rfl)
  (texts_stops 2 (by decide) (w.heap.size + 1 + 1) w.heap.size s hs ht.1 _ (by simp;omega) bS ht0) KeepS.trans
  (fun W l o o' hl h h1 h2=>⟨belowK_b (w:=(((w.alloc (.cells #[.slice none 0 0] 22)).alloc (.cells #[.int .i64 0] 3)).alloc (.cells #[.string s] 9))) (by simp;omega) W l o o' hl h h1 h2,World.putObj_heap_other (by simp at hl;omega)⟩) (Below.refl _ _) (fun _=>rfl)
  (fun pre W=>(∃ v,Boxed W w.heap.size 22 v∧W.ownsRow (w.heap.size + 3) 9 1 v pre.length ((pre.map (·.2)).map strV)∧True)∧Boxed W (w.heap.size + 1) 3 (.int .i64 (crcm.lastEnd 0 pre:Nat))∧Boxed W (w.heap.size + 1 + 1) 9 (.string s)∧Below w.heap.size w W)
  (fun _ _ _=>False)
  (OwnFrom.and (Own.from (holdsRow_own (w.heap.size + 3) w.heap.size 22 9 1 (fun pre:List (Nat × List UInt8)=>pre.length) (fun pre=>(pre.map (·.2)).map strV) (fun _ _=>True)) _) (OwnFrom.and (Own.from (box_own _ _ (fun pre:List (Nat × List UInt8)=>Value.int .i64 (crcm.lastEnd 0 pre:Nat))) _) (OwnFrom.and (Own.from (box_own _ _ (fun _:List (Nat × List UInt8)=>Value.string s)) _) (ownFrom_below (Nat.le_refl _) (by simp;omega)))))
  (fun _ _ _ _ _ hs _ _=>hs)
  ⟨⟨_,(bO.alloc _).alloc _,World.ownsRow_nil _ _ _ _,trivial⟩,bE.alloc _,bS,hB0⟩
  (fun x=>{ tmps:=#[.string s,undef,.pointer (some ⟨w.heap.size,0,none⟩),.pointer (some ⟨w.heap.size + 1,0,none⟩),.int .i64 (x.1:Int),.string (crcm.mk x.2),.string s,.func (.func 110) #[] #[.pointer (some ⟨w.heap.size + 1 + 1,0,none⟩)],.int .i64 (x.1:Int),.string (crcm.mk x.2),undef,undef,undef,undef,undef,undef,undef],defers:=[] }) ?assign ?body ?done ?stop
 case assign=>
  intro l x W K hK
  dsimp only [encP]
  gi_wp2
  exact hK
 case body=>
  rintro l pre x W ⟨⟨v,hv,hrow,_⟩,hE,hS,hB⟩ hlt
  have hc:=hv.cell
  have hsz3:w.heap.size + 3≤W.heap.size:=by have:=hS.lt;omega
  gi_wp2_with (gi_at_builtin;refine wpListIn_append_own _ rfl _ _ 22 rfl (w.heap.size + 3) 9 i0 (.string .empty) 1 16 Tryz.underlying22 hi hz0 hz1 hz2 rfl (by decide) _ _ _ rfl (hrow.alloc _) ⟨W.heap.size,0,none⟩ 1 1 [strV x.2] rfl rfl (cell_one_new _ _ _) (strV_one _) (by unfold maxLen;omega) (by omega) (by simp;omega) ?_;intro v' w1 hown' hgrow _;obtain ⟨g',cap',rfl⟩:=ownsRow_succ hown';have hv1:=box_grown hv (by omega) hrow hgrow;have hE1:=box_grown hE (by omega) hrow hgrow;have hS1:=box_grown hS (by omega) hrow hgrow;have hc1:=hv1.cell;have hf1:=hv1.frozen;have he1:=hE1.cell;have hef:=hE1.frozen)
  have hgr:(W.alloc (.cells #[strV x.2] 9)).grownBy w1 v.ownBlock:=hgrow
  have hko:=grown_keeps hrow hgr
  have hbl:=grown_below hrow hgr (Nat.le_add_right w.heap.size 3) (by omega)
  have hlen:pre.length + 1=(pre ++ [x]).length:=by simp
  have hmap:(pre.map (·.2)).map strV ++ [strV x.2]=((pre ++ [x]).map (·.2)).map strV:=by simp
  refine ⟨((hko.trans (KeepsOthers.setCell _ _ _)).trans (KeepsOthers.setCell _ _ _)).from _,⟨(hbl.setCell (p:=⟨w.heap.size,0,none⟩) (Nat.le_refl _) _).setCell (p:=⟨w.heap.size + 1,0,none⟩) (Nat.le_succ _) _,?_⟩,⟨_,(hv1.set _).other (by omega) _,?_,trivial⟩,?_,(hS1.other (by omega) _).other (by omega) _,hB.trans ((hbl.setCell (p:=⟨w.heap.size,0,none⟩) (Nat.le_refl _) _).setCell (p:=⟨w.heap.size + 1,0,none⟩) (Nat.le_succ _) _)⟩
  ·exact ((hS1.other (B':=w.heap.size) (by omega) _).other (B':=w.heap.size + 1) (by omega) _).trans hS.symm
  ·rw [← hlen,← hmap]
   exact (hown'.kept (grownBy_setCell' _ _ _) (.inr (row_far hown' (by omega)).symm)).kept (grownBy_setCell' _ _ _) (.inr (row_far hown' (by omega)).symm)
  ·rw [crcm.lastEnd_snoc]
   exact (hE1.other (by omega) _).set _
 case done=>
  rintro D ys W hD rfl ⟨⟨v,hv,hrow,_⟩,hE,hS,hB⟩ hK
  have hc:=hv.cell
  have hcf:=hv.frozen
  have he:=hE.cell
  have hef:=hE.frozen
  obtain ⟨a,n,c,rfl⟩:∃ a n c,v=.slice a n c:=by
   rcases hrow.2 with ⟨h,_⟩ | ⟨g,cap,cur,h,_⟩
   ·exact ⟨_,_,_,h⟩
   ·exact ⟨_,_,_,h⟩
  gi_wp2
  gi_region
  gi_wp2
  obtain ⟨W2,hW2⟩:∃ W2,((W.setCell ⟨w.heap.size,0,none⟩ (Value.slice a n c)).setCell ⟨w.heap.size + 1,0,none⟩ (Value.int .i64 (crcm.lastEnd 0 (crcm.pairsFrom 0 s.data.toList):Nat))).drew=W2:=⟨_,rfl⟩
  have hK2:W2.heap[D]?=some (.deferred (some [])):=by rw [← hW2];exact (((KeepsOthers.setCell _ _ _).trans (KeepsOthers.setCell _ _ _)).trans (KeepsOthers.drew _)).same D _ hK rfl
  have hv2:Boxed W2 w.heap.size 22 (.slice a n c):=by rw [← hW2];exact (hv.set _).other (by omega) _
  have he2:Boxed W2 (w.heap.size + 1) 3 (.int .i64 (crcm.lastEnd 0 (crcm.pairsFrom 0 s.data.toList):Nat)):=by rw [← hW2];exact (hE.other (by omega) _).set _
  have hr2:W2.ownsRow (w.heap.size + 3) 9 1 (.slice a n c) (crcm.pairsFrom 0 s.data.toList).length (((crcm.pairsFrom 0 s.data.toList).map (·.2)).map strV):=by
   rw [← hW2];exact ((hrow.kept (grownBy_setCell' _ _ _) (.inr (row_far hrow (by omega)).symm)).kept (grownBy_setCell' _ _ _) (.inr (row_far hrow (by omega)).symm)).drew
  have hb2:Below w.heap.size w W2:=by rw [← hW2];exact ((hB.setCell (p:=⟨w.heap.size,0,none⟩) (Nat.le_refl _) _).setCell (p:=⟨w.heap.size + 1,0,none⟩) (Nat.le_succ _) _).drew
  rw [hW2]
  clear hW2
  refine ⟨by simp,.inl ⟨_,_,rfl,run_takeDeferred hK2,?_⟩⟩
  have hc3:=cell_kept hv2.cell (grownBy_putObj' _ D (.deferred none)) (fun r e=>by cases e;exact ⟨_,hK2,rfl⟩)
  have he3:=cell_kept he2.cell (grownBy_putObj' _ D (.deferred none)) (fun r e=>by cases e;exact ⟨_,hK2,rfl⟩)
  have hr3:=ownsRow_putObj hr2 (.deferred none) hK2 rfl
  have hb3:Below w.heap.size w (W2.putObj D (.deferred none)):=hb2.trans (belowK_b (w:=w) (Nat.le_refl _) W2 D _ _ (by simp at hD;omega) hK2 rfl rfl)
  refine ⟨.tuple #[.slice a n c,.int .i64 (crcm.lastEnd 0 (crcm.pairsFrom 0 s.data.toList):Nat)],?_,.slice a n c,?_,?_,hb3⟩
  ·simp [results,Tryz.f73,go_sem,hc3,he3]
  ·rw [Hpa.out.2.1,Nat.zero_add]
  ·rw [← Hpa.out.1]
   refine owns_mono ?_ (show w.heap.size≤w.heap.size + 3 by omega)
   rw [List.length_map]
   exact hr3
 case stop=>
  rintro D c pre W _ _ h _
  exact h.elim
end Go.Proofs.YtmcibggjolckoaaGreatDoor
namespace Go.Proofs.YtmcibggjolckoaaGreatDoor
open Go Go.RowKit
set_option maxRecDepth 100000
namespace wl
def openE (n:vd.Name):Bool:=decide (n ≠ []) && decide (n.length≤59)
def mend (d:vd.Disk) (n:vd.Name):vd.Disk × Nat:=
 if (vd.read d n).2=3∨(crcm.allOf (vd.read d n).1).2 < (vd.read d n).1.length then write d n ((vd.read d n).1.take (crcm.allOf (vd.read d n).1).2) else vd.sync d n
def open_ (d:vd.Disk) (n:vd.Name):vd.Disk × List (List UInt8) × Nat:=
 if openE n=false then (d,[],1) else
 if (vd.read d n).2 ≠ 0∧(vd.read d n).2 ≠ 3 then (d,[],(vd.read d n).2) else
 if (mend d n).2 ≠ 0 then ((mend d n).1,[],(mend d n).2) else ((mend d n).1,(crcm.allOf (vd.read d n).1).1,0)
end wl
theorem strs_none (w:World):Strs w (.slice none 0 0) []:=⟨none,0,rfl,fun k hk=>by simp at hk⟩
theorem StrsB.apart {B:Nat} {S:List Nat} {w w':World} {v:Value} {ls:List (List UInt8)} (h:StrsB B w v ls) (hA:Apart S w w') (hS:∀ x ∈ S,x < B∨w.heap.size≤x):Strs w' v ls:=by
 obtain ⟨A,c,e,hc⟩:=h
 refine ⟨A,c,e,fun k hk=>?_⟩
 obtain ⟨ad,e2,h1,h2⟩:=hc k hk
 refine ⟨ad,e2,?_⟩
 have hlt:(ad.add k).block < w.heap.size:=World.block_lt_of_cell? _ _ h2
 have hn:(ad.add k).block ∉ S:=fun hx=>by
  have hb:B≤(ad.add k).block:=by rw [show (ad.add k).block=ad.block from by simp only [Addr.add];split <;> rfl];exact h1
  rcases hS _ hx with h | h <;> omega
 have:=hA.block _ hlt hn
 unfold World.cell? at h2 ⊢
 rw [this];exact h2
theorem owns_apart {w w':World} {base:Nat} {e:TypeId} {size n:Nat} {v:Value} {xs:List Value} {S:List Nat} (h:w.ownsRow base e size v n xs) (hA:Apart S w w') (hS:∀ g,v.ownBlock=some g→g ∉ S):w'.ownsRow base e size v n xs:=by
 refine ⟨h.1,?_⟩
 rcases h.2 with h | ⟨g,cap,cur,rfl,hb,hh,r⟩
 ·exact .inl h
 ·exact .inr ⟨g,cap,cur,rfl,hb,(hA.block g (Array.getElem?_eq_some_iff.1 hh).1 (hS g rfl)).trans hh,r⟩
theorem own_out2 {w:World} {base n:Nat} {v:Value} {xs:List Value} (h:w.ownsRow base 9 1 v n xs) {p b:Nat} {d:vd.Disk} (hd:Dk w p b d):∀ x,v.ownBlock=some x→x ∉ [p,b]:=by
 intro x hx
 rcases h.2 with ⟨rfl,_⟩ | ⟨y,cap,cur,rfl,_,hh,_⟩
 ·cases hx
 ·obtain rfl:y=x:=by simpa [Value.ownBlock] using hx
  intro hm
  rcases List.mem_cons.1 hm with rfl | hm
  ·have:=hd.blk
   unfold Vb at this
   rw [hh] at this
   simp at this
  rcases List.mem_cons.1 hm with rfl | hm
  ·obtain ⟨es,c,hb,_⟩:=hd.map
   rw [hh] at hb;cases hb
  cases hm
def Opened (w:World) (p b:Nat) (d:vd.Disk) (n:vd.Name) (e:Ending) (w':World):Prop:=
 ∃ lv tv g,e=.returned (.tuple #[lv,tv,.int .i64 ((wl.open_ d n).2.2:Nat)])∧Dk w' p b (wl.open_ d n).1∧Apart [p,b] w w'∧vd.Ok (wl.open_ d n).1∧w.heap.size≤g∧(∀ w'',Apart [p,b,g] w' w''→Strs w'' tv (wl.open_ d n).2.1) ∧
  ((wl.open_ d n).2.2=0→lv=.pointer (some ⟨g,0,none⟩)∧Lg w' g p ⟨n,(wl.open_ d n).2.1.length,false⟩)∧((wl.open_ d n).2.2 ≠ 0→lv=.pointer none)∧w'.ownsRow w.heap.size 9 1 tv (wl.open_ d n).2.1.length ((wl.open_ d n).2.1.map strV)
theorem vd.read_len {d:vd.Disk} (hok:vd.Ok d) (n:vd.Name):(vd.read d n).1.length≤d.cap:=by
 have h1:=vd.total_del d.files n
 have h2:=hok.tot
 unfold vd.read
 split
 ·exact Nat.zero_le _
 ·split
  ·show (vd.at_ d.files n).1.length≤_;omega
  ·exact Nat.zero_le _
set_option maxHeartbeats 8000000 in
theorem wal_open {w:World} {p b:Nat} {d:vd.Disk} (n:vd.Name) (hd:Dk w p b d) (hok:vd.Ok d) (hc:d.cap≤10000000) (hn:n.length≤200) (ht:TabAt w) (ht0:0 < w.heap.size) :
  Calls Tryz.prog 54 #[dptr p,keyV n] w (Opened w p b d n):=by
 have hnl:n.length≤maxLen:=by unfold maxLen;omega
 have hrl:=vd.read_len hok n
 have hpl:=hd.blk.lt
 have hbl:=hd.map.lt
 have hrd:=vd_read n hd hnl
 obtain ⟨Sx,hS⟩:∃ S,(vd.read d n).1=S:=⟨_,rfl⟩
 obtain ⟨er,her⟩:∃ er,(vd.read d n).2=er:=⟨_,rfl⟩
 obtain ⟨ts,hts⟩:∃ ts,(crcm.allOf Sx).1=ts:=⟨_,rfl⟩
 obtain ⟨en,hen⟩:∃ en,(crcm.allOf Sx).2=en:=⟨_,rfl⟩
 rw [hS,her] at hrd
 rw [hS] at hrl
 have hle:=crcm.allOf_le Sx
 rw [hts,hen] at hle
 obtain ⟨SL,hSL⟩:∃ SL,Sx.length=SL:=⟨_,rfl⟩
 rw [hSL] at hle hrl
 have hsz:(crcm.mk Sx).size=SL:=by rw [crcm.mk_size,hSL]
 have hall:∀ w',Below w.heap.size w w'→Calls Tryz.prog 73 #[.string (crcm.mk Sx)] w' fun e w2=>∃ v,e=.returned (.tuple #[v,.int .i64 (en:Nat)])∧w2.ownsRow w'.heap.size 9 1 v ts.length (ts.map strV)∧Below w'.heap.size w' w2:=by
  intro w' hb
  have:=all_own (crcm.mk Sx) w' (by rw [hsz];omega) (ht.below hb ht0)
  rw [crcm.mk_toList,hts,hen] at this
  exact this
 obtain ⟨m,hm⟩:∃ m,wl.mend d n=m:=⟨_,rfl⟩
 have hmend:m=if er=3∨en < SL then wl.write d n (Sx.take en) else vd.sync d n:=by rw [← hm];unfold wl.mend;rw [her,hS,hen,hSL]
 have hres:wl.open_ d n=if wl.openE n=false then (d,[],1) else if er ≠ 0∧er ≠ 3 then (d,[],er) else if m.2 ≠ 0 then (m.1,[],m.2) else (m.1,ts,0):=by
  unfold wl.open_
  rw [her,hS,hm,hts]
 have hdk:∀ w',Below w.heap.size w w'→Dk w' p b d:=fun w' h=>⟨(h.block _ hpl).trans hd.blk,hd.map.below h⟩
 have hie:(crcm.mk n).toList.isEmpty=n.isEmpty:=by rw [mk_toL]
 obtain ⟨N,hN⟩:∃ N,n.length=N:=⟨_,rfl⟩
 have hszn:(crcm.mk n).size=N:=by rw [crcm.mk_size,hN]
 have HALL:=Lib.hid hall
 have HM:=Lib.hid hmend
 have HR:=Lib.hid hres
 have HK:=Lib.hid hdk
 have HOK:=Lib.hid hok
 have hex:(crcm.mk Sx).extract 0 en=crcm.mk (Sx.take en):=by rw [Lib.extract_eq];show (⟨((crcm.mk Sx).data.toList.drop 0 |>.take (en - 0)).toArray⟩:ByteArray)=_;rw [crcm.mk_toList];rfl
 have htk:(Sx.take en).length≤1000000000:=by rw [List.length_take];omega
 clear hall hmend hres hdk hm hS her hts hen hSL hok hd ht
 unfold dptr keyV
 unfold dptr keyV at hrd
 go_enter Tryz.func54,Tryz.ntmps54
 by_cases hg:wl.openE n=true
 ·have hg':=hg
  unfold wl.openE at hg
  rw [Bool.and_eq_true,decide_eq_true_iff,decide_eq_true_iff,hN] at hg
  obtain ⟨hne,h59⟩:=hg
  have hni:n.isEmpty=false:=by
   cases n with
   | nil=>exact absurd rfl hne
   | cons x r=>rfl
  rw [hni] at hie
  have HG:=Lib.hid hg'
  clear hne hni hg' hN
  go_wp2_with fail
  refine hrd.mono ?_
  rintro e w1 ⟨rfl,hb1⟩
  clear hrd
  by_cases he:er ≠ 0∧er ≠ 3
  ·have hb0:((er:Int) != 0)=true:=by simp;omega
   have hb3:((er:Int) != 3)=true:=by simp;omega
   have hR2:wl.open_ d n=(d,[],er):=by rw [HR.out,HG.out,if_neg (by simp),if_pos he]
   have HR2:=Lib.hid hR2
   clear hR2
   go_wp2_with fail
   go_ret3
   unfold Opened
   rw [HR2.out]
   exact ⟨_,_,_,rfl,HK.out _ hb1,.of_below hb1 _,HOK.out,Nat.le_refl _,fun _ _=>strs_none _,fun h=>absurd h he.1,fun _=>rfl,World.ownsRow_nil _ _ _ _⟩
  ·have her:er=0∨er=3:=by omega
   have hR2:wl.open_ d n=if m.2 ≠ 0 then (m.1,[],m.2) else (m.1,ts,0):=by rw [HR.out,HG.out,if_neg (by simp),if_neg he]
   have HR2:=Lib.hid hR2
   have hcall:=HALL.out w1 hb1
   have htail:∀ w2 v,Below w.heap.size w w2→w2.ownsRow w1.heap.size 9 1 v ts.length (ts.map strV)→∃ A c,v=.slice A ts.length c∧(∀ w'',Apart [p,b,w2.heap.size] w2 w''→Strs w'' v ts) ∧
     ∀ W,W=w2.alloc (.cells #[dptr p,keyV n,.int .i64 (ts.length:Int),.bool false] 121)→Lg W w2.heap.size p ⟨n,ts.length,false⟩∧Dk W p b d∧Apart [p,b] w W∧Apart [p,b,w2.heap.size] w2 W∧W.ownsRow w.heap.size 9 1 v ts.length (ts.map strV):=by
    intro w2 v hb2 hv
    obtain ⟨A,c,e,hA⟩:=strsB_of_owns rfl hv
    have hs1:=hb1.size
    refine ⟨A,c,e,fun w'' h=>StrsB.apart ⟨A,c,e,hA⟩ h (by simp;omega),?_⟩
    rintro W rfl
    have hb3:Below w2.heap.size w2 (w2.alloc (.cells #[dptr p,keyV n,.int .i64 (ts.length:Int),.bool false] 121)):=(Below.refl _ w2).alloc (Nat.le_refl _) _
    have hb03:=hb2.trans (hb3.mono hb2.size)
    exact ⟨Vb.new w2 _ _,HK.out _ hb03,.of_below hb03 _,.of_below hb3 _,owns_mono (owns_below hv hb3) (by omega)⟩
   have hwrite:∀ W g,Lg W g p ⟨n,ts.length,false⟩→Dk W p b d→Calls Tryz.prog 74 #[.pointer (some ⟨g,0,none⟩),.string (crcm.mk (Sx.take en))] W (fun e w'=>e=.returned (.int .i64 ((wl.write d n (Sx.take en)).2:Nat))∧Dk w' p b (wl.write d n (Sx.take en)).1∧Apart [p,b] W w'∧vd.Ok (wl.write d n (Sx.take en)).1):=
    fun W g h1 h2=>wal_write (l:=⟨n,ts.length,false⟩) _ h1 h2 HOK.out hn htk
   have hsync:∀ W,Dk W p b d→Calls Tryz.prog 75 #[.pointer (some ⟨p,0,none⟩),.string (crcm.mk n)] W (fun e w'=>e=.returned (.int .i64 ((vd.sync d n).2:Nat))∧Dk w' p b (vd.sync d n).1∧Apart [p,b] W w'):=
    fun W h2=>vd_sync n h2 HOK.out hnl
   have HT:=Lib.hid htail
   have HW:=Lib.hid hwrite
   have HS:=Lib.hid hsync
   have hmk0:∀ (D2:vd.Disk) w2 W w5 v,m=(D2,0)→Dk w5 p b D2→Apart [p,b] w W→Apart [p,b] W w5→Below w.heap.size w w2→Lg W w2.heap.size p ⟨n,ts.length,false⟩→Dk W p b d→Apart [p,b,w2.heap.size] w2 W→(∀ w'',Apart [p,b,w2.heap.size] w2 w''→Strs w'' v ts)→vd.Ok D2→W.ownsRow w.heap.size 9 1 v ts.length (ts.map strV) →
     Opened w p b d n (.returned (.tuple #[.pointer (some ⟨w2.heap.size,0,none⟩),v,.int .i64 0])) w5:=by
    intro D2 w2 W w5 v hm h1 h2 h3 h4 h5 h6 h7 h8 h9 h10
    unfold Opened
    rw [HR2.out,hm]
    exact ⟨_,_,w2.heap.size,rfl,h1,h2.trans h3,h9,h4.size,fun w'' h=>h8 w'' ((h7.trans (h3.mono (by simp))).trans h),fun _=>⟨rfl,h5.apart h3 (log_out h5 h6)⟩,fun h=>absurd rfl h,owns_apart h10 h3 (own_out2 h10 h6)⟩
   have hmk1:∀ (D2:vd.Disk) (e2:Nat) W w5,m=(D2,e2)→e2 ≠ 0→Dk w5 p b D2→Apart [p,b] w W→Apart [p,b] W w5→vd.Ok D2 →
     Opened w p b d n (.returned (.tuple #[.pointer none,.slice none 0 0,.int .i64 (e2:Nat)])) w5:=by
    intro D2 e2 W w5 hm h0 h1 h2 h3 h9
    unfold Opened
    rw [HR2.out,hm,if_pos h0]
    exact ⟨_,_,_,rfl,h1,h2.trans h3,h9,Nat.le_refl _,fun _ _=>strs_none _,fun h=>absurd h h0,fun _=>rfl,World.ownsRow_nil _ _ _ _⟩
   have HM0:=Lib.hid hmk0
   have HM1:=Lib.hid hmk1
   clear htail hwrite hsync hmk0 hmk1 hR2 he
   rcases her with rfl | rfl
   ·by_cases hlt:en < SL
    ·have hlti:(en:Int) < (SL:Int):=by omega
     have hm2:m=wl.write d n (Sx.take en):=by rw [HM.out,if_pos (.inr hlt)]
     obtain ⟨⟨D2,e2⟩,hr⟩:∃ r,wl.write d n (Sx.take en)=r:=⟨_,rfl⟩
     rw [hr] at hm2
     have HM2:=Lib.hid hm2
     have HRR:=Lib.hid hr
     clear hm2 hr
     go_wp2_with fail
     refine hcall.mono ?_
     rintro e w2 ⟨v,rfl,hv,hb2⟩
     have hb02:=hb1.trans (hb2.mono hb1.size)
     obtain ⟨A,c,rfl,hkeep,hW'⟩:=HT.out w2 v hb02 hv
     obtain ⟨W,hW⟩:∃ W,w2.alloc (.cells #[.pointer (some ⟨p,0,none⟩),.string (crcm.mk n),.int .i64 (ts.length:Int),.bool false] 121)=W:=⟨_,rfl⟩
     obtain ⟨hgW,hdW,hAW,hAW2,hOW⟩:=hW' W hW.symm
     have hw:=HW.out W _ hgW hdW
     rw [HRR.out] at hw
     have HKP:=Lib.hid hkeep
     have HOW:=Lib.hid hOW
     clear hW' hcall hv hkeep hOW
     go_wp2_with fail
     refine hw.mono ?_
     rintro e w5 ⟨rfl,h1,h2,h3⟩
     by_cases h0:e2=0
     ·subst h0
      go_wp2_with fail
      go_ret3
      exact HM0.out D2 w2 W w5 _ HM2.out h1 hAW h2 hb02 hgW hdW hAW2 HKP.out h3 HOW.out
     ·have h0i:¬ (e2:Int)=0:=by omega
      go_wp2_with fail
      go_ret3
      exact HM1.out D2 e2 W w5 HM2.out h0 h1 hAW h2 h3
    ·have hlti:¬ (en:Int) < (SL:Int):=by omega
     have hm2:m=vd.sync d n:=by rw [HM.out,if_neg (by omega)]
     obtain ⟨⟨D2,e2⟩,hr⟩:∃ r,vd.sync d n=r:=⟨_,rfl⟩
     rw [hr] at hm2
     have HM2:=Lib.hid hm2
     have HRR:=Lib.hid hr
     clear hm2 hr
     go_wp2_with fail
     refine hcall.mono ?_
     rintro e w2 ⟨v,rfl,hv,hb2⟩
     have hb02:=hb1.trans (hb2.mono hb1.size)
     obtain ⟨A,c,rfl,hkeep,hW'⟩:=HT.out w2 v hb02 hv
     obtain ⟨W,hW⟩:∃ W,w2.alloc (.cells #[.pointer (some ⟨p,0,none⟩),.string (crcm.mk n),.int .i64 (ts.length:Int),.bool false] 121)=W:=⟨_,rfl⟩
     obtain ⟨hgW,hdW,hAW,hAW2,hOW⟩:=hW' W hW.symm
     have hw:=HS.out W hdW
     rw [HRR.out] at hw
     have HKP:=Lib.hid hkeep
     have HOW:=Lib.hid hOW
     clear hW' hcall hv hkeep hOW
     go_wp2_with fail
     refine hw.mono ?_
     rintro e w5 ⟨rfl,h1,h2⟩
     have h3:vd.Ok D2:=by have:=vd.ok_sync HOK.out n;rw [HRR.out] at this;exact this
     by_cases h0:e2=0
     ·subst h0
      go_wp2_with fail
      go_ret3
      exact HM0.out D2 w2 W w5 _ HM2.out h1 hAW h2 hb02 hgW hdW hAW2 HKP.out h3 HOW.out
     ·have h0i:¬ (e2:Int)=0:=by omega
      go_wp2_with fail
      go_ret3
      exact HM1.out D2 e2 W w5 HM2.out h0 h1 hAW h2 h3
   ·have hm2:m=wl.write d n (Sx.take en):=by rw [HM.out,if_pos (.inl rfl)]
    obtain ⟨⟨D2,e2⟩,hr⟩:∃ r,wl.write d n (Sx.take en)=r:=⟨_,rfl⟩
    rw [hr] at hm2
    have HM2:=Lib.hid hm2
    have HRR:=Lib.hid hr
    clear hm2 hr
    go_wp2_with fail
    refine hcall.mono ?_
    rintro e w2 ⟨v,rfl,hv,hb2⟩
    have hb02:=hb1.trans (hb2.mono hb1.size)
    obtain ⟨A,c,rfl,hkeep,hW'⟩:=HT.out w2 v hb02 hv
    obtain ⟨W,hW⟩:∃ W,w2.alloc (.cells #[.pointer (some ⟨p,0,none⟩),.string (crcm.mk n),.int .i64 (ts.length:Int),.bool false] 121)=W:=⟨_,rfl⟩
    obtain ⟨hgW,hdW,hAW,hAW2,hOW⟩:=hW' W hW.symm
    have hw:=HW.out W _ hgW hdW
    rw [HRR.out] at hw
    have HKP:=Lib.hid hkeep
    have HOW:=Lib.hid hOW
    clear hW' hcall hv hkeep hOW
    go_wp2_with fail
    refine hw.mono ?_
    rintro e w5 ⟨rfl,h1,h2,h3⟩
    by_cases h0:e2=0
    ·subst h0
     go_wp2_with fail
     go_ret3
     exact HM0.out D2 w2 W w5 _ HM2.out h1 hAW h2 hb02 hgW hdW hAW2 HKP.out h3 HOW.out
    ·have h0i:¬ (e2:Int)=0:=by omega
     go_wp2_with fail
     go_ret3
     exact HM1.out D2 e2 W w5 HM2.out h0 h1 hAW h2 h3
 ·have hR2:wl.open_ d n=(d,[],1):=by rw [HR.out,if_pos (by simpa using hg)]
  have HR2:=Lib.hid hR2
  have hfin:Opened w p b d n (.returned (.tuple #[.pointer none,.slice none 0 0,.int .i64 1])) w:=by
   unfold Opened
   rw [hR2]
   exact ⟨_,_,_,rfl,HK.out w (Below.refl _ _),.refl _ _,HOK.out,Nat.le_refl _,fun _ _=>strs_none _,fun h=>absurd h (by simp),fun _=>rfl,World.ownsRow_nil _ _ _ _⟩
  have HFIN:=Lib.hid hfin
  clear hR2 hfin
  by_cases hne:n=[]
  ·rw [hne,show ([]:List UInt8).isEmpty=true from rfl,← hne] at hie
   clear hne hg
   go_wp2_with fail
   go_ret3
   exact HFIN.out
  ·have hni:n.isEmpty=false:=by
    cases n with
    | nil=>exact absurd rfl hne
    | cons x r=>rfl
   rw [hni] at hie
   have h59:59 < N:=by
    unfold wl.openE at hg
    rcases Nat.lt_or_ge 59 N with h | h
    ·exact h
    ·exact absurd (by rw [Bool.and_eq_true,decide_eq_true_iff,decide_eq_true_iff,hN];exact ⟨hne,h⟩) hg
   clear hne hni hg hN
   go_wp2_with fail
   go_ret3
   exact HFIN.out
end Go.Proofs.YtmcibggjolckoaaGreatDoor
namespace Go.Proofs.YtmcibggjolckoaaGreatDoor
open Go Go.RowKit
set_option maxRecDepth 100000
namespace vd
theorem put_put (M:Files) (n:Name) (f g:File):put (put M n f) n g=put M n g:=by
 induction M with
 | nil=>simp [put]
 | cons x r ih=>
  obtain ⟨m,h⟩:=x
  by_cases hm:m=n
  ·simp [put,hm]
  ·simp [put,hm,ih]
theorem del_none (M:Files) (n:Name) (h:has M n=false):del M n=M:=by
 induction M with
 | nil=>rfl
 | cons x r ih=>
  obtain ⟨m,g⟩:=x
  unfold has at h
  by_cases hm:m=n
  ·rw [if_pos hm] at h;cases h
  ·rw [if_neg hm] at h
   unfold del
   rw [if_neg hm,ih h]
theorem del_put_none (M:Files) (n:Name) (f:File) (h:has M n=false):del (put M n f) n=M:=by
 induction M with
 | nil=>simp [put,del]
 | cons x r ih=>
  obtain ⟨m,g⟩:=x
  unfold has at h
  by_cases hm:m=n
  ·rw [if_pos hm] at h;cases h
  ·rw [if_neg hm] at h
   unfold put
   rw [if_neg hm]
   unfold del
   rw [if_neg hm,ih h]
theorem has_del (M:Files) (n:Name) (hd:(M.map (·.1)).Nodup):has (del M n) n=false:=by
 cases h:has (del M n) n with
 | false=>rfl
 | true=>
  have h1:=(has_names _ _).1 h
  clear h
  induction M with
  | nil=>simp [del] at h1
  | cons x r ih=>
   obtain ⟨m,g⟩:=x
   rw [List.map_cons,List.nodup_cons] at hd
   unfold del at h1
   by_cases hm:m=n
   ·rw [if_pos hm] at h1
    rw [← hm] at h1
    exact absurd h1 hd.1
   ·rw [if_neg hm,List.map_cons] at h1
    rcases List.mem_cons.1 h1 with e | e
    ·exact absurd e.symm hm
    ·exact ih hd.2 e
theorem del_len (M:Files) (n:Name):(del M n).length≤M.length:=(del_sub M n).length_le
theorem total_del_le (M:Files) (n:Name):total (del M n)≤total M:=by have:=total_del M n;omega
def Quiet (d:Disk):Prop:=d.off=false∧d.left=0
theorem done_quiet {d:Disk} (h:Quiet d) (f2:Files) (a:Bool):done d f2 a={ d with files:=f2 }∧doneE d=0:=by
 obtain ⟨h1,h2⟩:=h
 have h3:less d=d:=by unfold less;rw [h2];cases d;simp_all
 have h4:goes d a=true:=by unfold goes;rw [h2];rfl
 refine ⟨?_,?_⟩
 ·unfold done
  rw [h4,h3]
  show (if d.left=1 then _ else _)=_
  rw [if_neg (by omega)];rfl
 ·unfold doneE;rw [h2];rfl
theorem err_quiet {d:Disk} (h:Quiet d) {n:Name} (hn:good n=true):nameErr d.off [n]=0:=by
 unfold nameErr;rw [h.1];simp [hn]
theorem there_quiet {d:Disk} (h:Quiet d) {n:Name} (hn:good n=true) (hh:has d.files n=true) (f2:Files) (a:Bool):there d n f2 a=({ d with files:=f2 },0):=by
 obtain ⟨h1,h2⟩:=done_quiet h f2 a
 unfold there
 rw [err_quiet h hn,hh,h1,h2];rfl
theorem there_none {d:Disk} (h:Quiet d) {n:Name} (hn:good n=true) (hh:has d.files n=false) (f2:Files) (a:Bool):there d n f2 a=(d,3):=by
 unfold there
 rw [err_quiet h hn,hh];rfl
end vd
namespace wl
open vd
theorem good_of {n:Name} (h:openE n=true):good n=true∧good (n ++ [43])=true∧n ≠ n ++ [43]:=by
 unfold openE at h
 rw [Bool.and_eq_true,decide_eq_true_iff,decide_eq_true_iff] at h
 refine ⟨?_,?_,?_⟩
 ·unfold good;rw [Bool.and_eq_true,decide_eq_true_iff,decide_eq_true_iff];exact ⟨h.1,by omega⟩
 ·unfold good;rw [Bool.and_eq_true,decide_eq_true_iff,decide_eq_true_iff,List.length_append];exact ⟨by simp,by simp;omega⟩
 ·intro e
  have:=congrArg List.length e
  rw [List.length_append] at this
  simp at this
theorem run_ok {f:Op1} {r:List Op1} {d d':Disk} (h:f d=(d',0)):run (f :: r) d=run r d':=by
 show (if (f d).2 ≠ 0 then f d else run r (f d).1)=_
 rw [h];rfl
theorem mend_eq {d:Disk} {n:Name} {S:List UInt8} {e:Nat} (hr:vd.read d n=(S,e)):mend d n=if e=3∨(crcm.allOf S).2 < S.length then write d n (S.take (crcm.allOf S).2) else vd.sync d n:=by
 unfold mend;rw [hr]
theorem open_eq {d:Disk} {n:Name} {S:List UInt8} {e:Nat} (hn:openE n=true) (hr:vd.read d n=(S,e)):open_ d n=if e ≠ 0∧e ≠ 3 then (d,[],e) else if (mend d n).2 ≠ 0 then ((mend d n).1,[],(mend d n).2) else ((mend d n).1,(crcm.allOf S).1,0):=by
 unfold open_;rw [hn,hr];rfl
theorem change_ok {d d2:Disk} {l:L} {ls:List (List UInt8)} {many:Nat} {op:List UInt8→Op1} (hl:l.off=false) (hb:bytes ls=(crcm.flat ls,0)) (h:op (crcm.flat ls) d=(d2,0)):change d l ls many op=(d2,{ l with many:=many },0):=by
 unfold change
 rw [if_neg (by rw [hl];simp),hb]
 show (if (0:Nat) ≠ 0 then _ else ((op (crcm.flat ls) d).1,told l (op (crcm.flat ls) d).2 many,(op (crcm.flat ls) d).2))=_
 rw [if_neg (by simp),h]
 rfl
theorem del_quiet {d:Disk} (h:Quiet d) {o:Name} (ho:good o=true):del d o=({ d with files:=vd.del d.files o },0):=by
 unfold del vd.delete
 cases hh:has d.files o with
 | true=>rw [there_quiet h ho hh];rfl
 | false=>rw [there_none h ho hh,del_none _ _ hh];rfl
theorem write_quiet {d:Disk} (h:Quiet d) (hok:Ok d) {n:Name} (hn:openE n=true) (s:List UInt8) (hl:d.files.length < 200) (hr:total (vd.del d.files (n ++ [43])) + s.length≤d.cap) :
  write d n s=({ d with files:=vd.put (vd.del d.files (n ++ [43])) n (s,s.length) },0):=by
 obtain ⟨g1,g2,g3⟩:=good_of hn
 obtain ⟨o,ho⟩:∃ o,n ++ [43]=o:=⟨_,rfl⟩
 rw [ho] at g2 g3 hr
 unfold write
 rw [ho]
 have a1:=del_quiet h g2
 obtain ⟨M,hM⟩:∃ M,vd.del d.files o=M:=⟨_,rfl⟩
 have hno:has M o=false:=by rw [← hM];exact has_del _ _ hok.nod
 have hML:M.length < 200:=by rw [← hM];have:=del_len d.files o;omega
 rw [hM] at a1 hr ⊢
 have q1:Quiet { d with files:=M }:=h
 have a2:vd.create { d with files:=M } o=({ d with files:=vd.put M o ([],0) },0):=by
  obtain ⟨h1,h2⟩:=done_quiet q1 (vd.put M o ([],0)) false
  unfold vd.create
  rw [err_quiet q1 g2]
  show (if (0:Nat) ≠ 0 then _ else if has M o=true then _ else if 200≤M.length then _ else _)=_
  rw [if_neg (by simp),hno,if_neg (by simp),if_neg (by omega),h1,h2]
 have e2:at_ (vd.put M o ([],0)) o=([],0):=by rw [at_put,if_pos rfl]
 have e3:has (vd.put M o ([],0)) o=true:=by rw [has_put];simp
 have e4:total (vd.put M o ([],0))=total M:=by
  have:=total_put M o ([],0)
  have k:(at_ M o).1.length=0:=by
   have h2:=total_del M o
   rw [del_none M o hno] at h2;omega
  simp at this;omega
 have q2:Quiet { d with files:=vd.put M o ([],0) }:=h
 have a3:vd.append { d with files:=vd.put M o ([],0) } o s=({ d with files:=vd.put M o (s,0) },0):=by
  unfold vd.append
  rw [if_neg]
  ·rw [there_quiet q2 g2 e3]
   show (({ d with files:=vd.put (vd.put M o ([],0)) o ((at_ (vd.put M o ([],0)) o).1 ++ s,(at_ (vd.put M o ([],0)) o).2) }:Disk),0)=_
   rw [e2,put_put];rfl
  ·show ¬ (_∧_∧d.cap < total (vd.put M o ([],0)) + s.length)
   rw [e4];omega
 have q3:Quiet { d with files:=vd.put M o (s,0) }:=h
 have e5:has (vd.put M o (s,0)) o=true:=by rw [has_put];simp
 have a4:vd.sync { d with files:=vd.put M o (s,0) } o=({ d with files:=vd.put M o (s,s.length) },0):=by
  unfold vd.sync
  rw [there_quiet q3 g2 e5]
  show (({ d with files:=vd.put (vd.put M o (s,0)) o ((at_ (vd.put M o (s,0)) o).1,(at_ (vd.put M o (s,0)) o).1.length) }:Disk),0)=_
  rw [at_put,if_pos rfl,put_put]
 have q4:Quiet { d with files:=vd.put M o (s,s.length) }:=h
 have e6:has (vd.put M o (s,s.length)) o=true:=by rw [has_put];simp
 have a5:vd.rename { d with files:=vd.put M o (s,s.length) } o n=({ d with files:=vd.put M n (s,s.length) },0):=by
  unfold vd.rename
  have:nameErr d.off [o,n]=0:=by unfold nameErr;rw [h.1];simp [g1,g2]
  show (if nameErr d.off [o,n] ≠ 0 then _ else there _ _ _ _)=_
  rw [this,if_neg (by simp),there_quiet q4 g2 e6]
  show (({ d with files:=vd.put (vd.del (vd.put M o (s,s.length)) o) n (at_ (vd.put M o (s,s.length)) o) }:Disk),0)=_
  rw [at_put,if_pos rfl,del_put_none _ _ _ hno]
 exact (run_ok a1).trans ((run_ok a2).trans ((run_ok a3).trans ((run_ok a4).trans (run_ok a5))))
theorem read_quiet {d:Disk} (h:Quiet d) {n:Name} (hn:good n=true):vd.read d n=if has d.files n then ((at_ d.files n).1,0) else ([],3):=by
 unfold vd.read
 rw [err_quiet h hn,if_neg (by simp)]
theorem open_new {d:Disk} (h:Quiet d) (hok:Ok d) {n:Name} (hn:openE n=true) (hh:has d.files n=false) (hl:d.files.length < 200) :
  open_ d n=({ d with files:=vd.put (vd.del d.files (n ++ [43])) n ([],0) },[],0):=by
 have hr:=read_quiet h (good_of hn).1
 rw [hh] at hr
 simp only [Bool.false_eq_true,if_false] at hr
 have hw:=write_quiet h hok hn [] hl (by have:=total_del_le d.files (n ++ [43]);have:=hok.tot;simp;omega)
 have hm:mend d n=({ d with files:=vd.put (vd.del d.files (n ++ [43])) n ([],0) },0):=by
  rw [mend_eq hr,if_pos (.inl rfl)]
  exact hw
 rw [open_eq hn hr,if_neg (by simp),hm]
 rfl
theorem open_whole {d:Disk} (h:Quiet d) {n:Name} (hn:openE n=true) (hh:has d.files n=true) (ts:List (List UInt8)) (ha:crcm.allOf (at_ d.files n).1=(ts,(at_ d.files n).1.length)) :
  open_ d n=({ d with files:=vd.put d.files n ((at_ d.files n).1,(at_ d.files n).1.length) },ts,0):=by
 have hr:=read_quiet h (good_of hn).1
 rw [hh] at hr
 simp only [if_true] at hr
 have hm:mend d n=({ d with files:=vd.put d.files n ((at_ d.files n).1,(at_ d.files n).1.length) },0):=by
  rw [mend_eq hr,ha,if_neg (by simp)]
  unfold vd.sync
  rw [there_quiet h (good_of hn).1 hh]
 rw [open_eq hn hr,if_neg (by simp),hm,ha]
 rfl
theorem bytes_fit (ls:List (List UInt8)) (h:∀ t ∈ ls,t.length≤65535):bytes ls=(crcm.flat ls,0):=by
 unfold bytes
 rw [if_pos]
 rw [List.all_eq_true]
 intro t ht
 exact decide_eq_true (h t ht)
theorem allOf_whole (ls:List (List UInt8)) (h:∀ t ∈ ls,t.length≤65535):crcm.allOf (crcm.flat ls)=(ls,(crcm.flat ls).length):=by
 have:=crcm.allOf_flat ls [] h (crcm.flat ls).length (Nat.le_refl _)
 rw [List.append_nil,List.take_length,Nat.sub_self] at this
 rw [this]
 simp [crcm.flat,crcm.allOf,crcm.all]
theorem reset_log {d:Disk} (h:Quiet d) (hok:Ok d) {l:L} (hl:l.off=false) (hn:openE l.name=true) (ls:List (List UInt8)) (hf:∀ t ∈ ls,t.length≤65535) (hL:d.files.length < 200) (hr:total (vd.del d.files (l.name ++ [43])) + (crcm.flat ls).length≤d.cap) :
  reset d l ls=({ d with files:=vd.put (vd.del d.files (l.name ++ [43])) l.name (crcm.flat ls,(crcm.flat ls).length) },{ l with many:=ls.length },0):=by
 exact change_ok hl (bytes_fit ls hf) (write_quiet h hok hn _ hL hr)
end wl
end Go.Proofs.YtmcibggjolckoaaGreatDoor
namespace Go.Proofs.YtmcibggjolckoaaGreatDoor
open Go Go.RowKit
set_option maxRecDepth 100000
namespace wl
open vd
def st (c:Nat) (n:Name) (S:List UInt8) (k:Int):Disk:=⟨c,[(n,(S,S.length))],false,0,k⟩
variable {c:Nat} {n:Name} {S:List UInt8} {k:Int}
end wl
namespace wl
open vd
theorem ok_run {fs:List Op1} (h:∀ f ∈ fs,∀ d,Ok d→Ok (f d).1) {d:Disk} (hd:Ok d):Ok (run fs d).1:=by
 induction fs generalizing d with
 | nil=>exact hd
 | cons f r ih=>
  show Ok (if (f d).2 ≠ 0 then f d else run r (f d).1).1
  by_cases h0:(f d).2=0
  ·rw [if_neg (by simp [h0])];exact ih (fun g hg=>h g (by simp [hg])) (h f (by simp) d hd)
  ·rw [if_pos h0];exact h f (by simp) d hd
theorem ok_write {d:Disk} (h:Ok d) (n:Name) (s:List UInt8):Ok (write d n s).1:=by
 unfold write writeOps
 refine ok_run (fun f hf=>?_) h
 rcases List.mem_cons.1 hf with rfl | hf
 ·exact fun d h=>ok_delete h _
 rcases List.mem_cons.1 hf with rfl | hf
 ·exact fun d h=>ok_create h _
 rcases List.mem_cons.1 hf with rfl | hf
 ·exact fun d h=>vd.ok_append h _ s
 rcases List.mem_cons.1 hf with rfl | hf
 ·exact fun d h=>ok_sync h _
 rcases List.mem_cons.1 hf with rfl | hf
 ·exact fun d h=>ok_rename h _ _
 cases hf
theorem ok_change {d:Disk} (h:Ok d) (l:L) (ls:List (List UInt8)) (m:Nat) (op:List UInt8→Op1) (ho:∀ s,Ok (op s d).1):Ok (change d l ls m op).1:=by
 unfold change
 split
 ·exact h
 ·split
  ·exact h
  ·exact ho _
theorem ok_append {d:Disk} (h:Ok d) (l:L) (ls:List (List UInt8)):Ok (append d l ls).1:=by
 refine ok_change h _ _ _ _ (fun s=>?_)
 unfold appendOps
 refine ok_run (fun f hf=>?_) h
 rcases List.mem_cons.1 hf with rfl | hf
 ·exact fun d h=>vd.ok_append h _ s
 rcases List.mem_cons.1 hf with rfl | hf
 ·exact fun d h=>ok_sync h _
 cases hf
theorem ok_reset {d:Disk} (h:Ok d) (l:L) (ls:List (List UInt8)):Ok (reset d l ls).1:=ok_change h _ _ _ _ (fun s=>ok_write h _ s)
theorem cap_done (d:Disk) (f2:Files) (a:Bool):(done d f2 a).cap=d.cap:=by
 unfold done
 cases goes d a <;> by_cases h:d.left=1 <;> simp [h,crash,less]
theorem cap_there (d:Disk) (n:Name) (f2:Files) (a:Bool):(there d n f2 a).1.cap=d.cap:=by
 unfold there
 split
 ·rfl
 ·split
  ·exact cap_done _ _ _
  ·rfl
theorem cap_append (d:Disk) (n:Name) (s:List UInt8):(vd.append d n s).1.cap=d.cap:=by
 unfold vd.append
 split
 ·rfl
 ·exact cap_there _ _ _ _
theorem cap_rename (d:Disk) (n m:Name):(vd.rename d n m).1.cap=d.cap:=by
 unfold vd.rename
 split
 ·rfl
 ·exact cap_there _ _ _ _
theorem cap_create (d:Disk) (n:Name):(vd.create d n).1.cap=d.cap:=by
 unfold vd.create
 split
 ·rfl
 ·split
  ·rfl
  ·split
   ·rfl
   ·exact cap_done _ _ _
theorem cap_run {fs:List Op1} (h:∀ f ∈ fs,∀ d,(f d).1.cap=d.cap) (d:Disk):(run fs d).1.cap=d.cap:=by
 induction fs generalizing d with
 | nil=>rfl
 | cons f r ih=>
  show (if (f d).2 ≠ 0 then f d else run r (f d).1).1.cap=_
  by_cases h0:(f d).2=0
  ·rw [if_neg (by simp [h0]),ih (fun g hg=>h g (by simp [hg])) (f d).1,h f (by simp) d]
  ·rw [if_pos h0];exact h f (by simp) d
theorem cap_write (d:Disk) (n:Name) (s:List UInt8):(write d n s).1.cap=d.cap:=by
 unfold write writeOps
 refine cap_run (fun f hf=>?_) d
 rcases List.mem_cons.1 hf with rfl | hf
 ·exact fun d=>cap_there _ _ _ _
 rcases List.mem_cons.1 hf with rfl | hf
 ·exact fun d=>cap_create _ _
 rcases List.mem_cons.1 hf with rfl | hf
 ·exact fun d=>cap_append _ _ _
 rcases List.mem_cons.1 hf with rfl | hf
 ·exact fun d=>cap_there _ _ _ _
 rcases List.mem_cons.1 hf with rfl | hf
 ·exact fun d=>cap_rename _ _ _
 cases hf
theorem cap_open (d:Disk) (n:Name):(open_ d n).1.cap=d.cap:=by
 have hm:(mend d n).1.cap=d.cap:=by
  unfold mend
  split
  ·exact cap_write _ _ _
  ·exact cap_there _ _ _ _
 unfold open_
 split
 ·rfl
 ·split
  ·rfl
  ·split
   ·exact hm
   ·exact hm
theorem cap_change {d:Disk} {l:L} {ls:List (List UInt8)} {m:Nat} {op:List UInt8→Op1} (ho:∀ s,(op s d).1.cap=d.cap):(change d l ls m op).1.cap=d.cap:=by
 unfold change
 split
 ·rfl
 ·split
  ·rfl
  ·exact ho _
theorem cap_reset (d:Disk) (l:L) (ls:List (List UInt8)):(reset d l ls).1.cap=d.cap:=cap_change (fun _=>cap_write _ _ _)
end wl
structure Ldk (w0 w:World) (p b:Nat) (d:vd.Disk):Prop where
 bel:Below w0.heap.size w0 w
 dk:Dk w p b d
 hp:w0.heap.size≤p
 hb:w0.heap.size≤b
 ok:vd.Ok d
 cap:d.cap≤10000000
theorem Ldk.next {w0 w w':World} {p b:Nat} {d d2:vd.Disk} {S:List Nat} (h:Ldk w0 w p b d) (hA:Apart S w w') (hS:∀ x ∈ S,w0.heap.size≤x) (hd:Dk w' p b d2) (ho:vd.Ok d2) (hc:d2.cap=d.cap):Ldk w0 w' p b d2:=
 ⟨h.bel.trans (hA.below _ h.bel.size hS),hd,h.hp,h.hb,ho,by rw [hc];exact h.cap⟩
theorem Ldk.later {w0 w w':World} {p b:Nat} {d:vd.Disk} (h:Ldk w0 w p b d) (hb:Below w.heap.size w w'):Ldk w0 w' p b d:=
 ⟨h.bel.trans (hb.mono h.bel.size),⟨(hb.block _ h.dk.blk.lt).trans h.dk.blk,h.dk.map.below hb⟩,h.hp,h.hb,h.ok,h.cap⟩
theorem ok_empty (c:Nat) (h:c≤10000000) (k:Int):vd.Ok ⟨c,[],false,0,k⟩:=⟨by show c≤_;omega,Nat.zero_le _,List.nodup_nil,fun x hx=>(by cases hx),fun x hx=>(by cases hx),by show 0≤_;omega⟩
def LOpened (w0 w:World) (p b:Nat) (d:vd.Disk) (n:vd.Name) (e:Ending) (w':World):Prop:=
 ∃ lv A c g,e=.returned (.tuple #[lv,.slice A (wl.open_ d n).2.1.length c,.int .i64 ((wl.open_ d n).2.2:Nat)])∧Ldk w0 w' p b (wl.open_ d n).1∧Apart [p,b] w w'∧w.heap.size≤g∧(∀ w'',Apart [p,b,g] w' w''→Strs w'' (.slice A (wl.open_ d n).2.1.length c) (wl.open_ d n).2.1) ∧
  ((wl.open_ d n).2.2=0→lv=.pointer (some ⟨g,0,none⟩)∧Lg w' g p ⟨n,(wl.open_ d n).2.1.length,false⟩)∧((wl.open_ d n).2.2 ≠ 0→lv=.pointer none)∧w'.ownsRow w.heap.size 9 1 (.slice A (wl.open_ d n).2.1.length c) (wl.open_ d n).2.1.length ((wl.open_ d n).2.1.map strV)
theorem ld_open {w0 w:World} {p b:Nat} {d:vd.Disk} (n:vd.Name) (h:Ldk w0 w p b d) (hn:n.length≤200) (ht:TabAt w0) :
  Calls Tryz.prog 54 #[.pointer (some ⟨p,0,none⟩),.string (crcm.mk n)] w (LOpened w0 w p b d n):=by
 have ht1:=ht.below h.bel ht.1
 refine (wal_open n h.dk h.ok h.cap hn ht1 ht1.1).mono ?_
 rintro e w' ⟨lv,tv,g,h1,h2,h3,h4,h5,h6,h7,h8,h10⟩
 obtain ⟨A,c,h9,_⟩:=h6 w' (.refl _ _)
 subst h9
 exact ⟨lv,A,c,g,h1,h.next h3 (by have:=h.hp;have:=h.hb;simp;omega) h2 h4 (wl.cap_open d n),h3,h5,h6,h7,h8,h10⟩
theorem LOpened.ok {w0 w:World} {p b:Nat} {d d2:vd.Disk} {n:vd.Name} {e:Ending} {w':World} {ts:List (List UInt8)} (h:LOpened w0 w p b d n e w') (he:wl.open_ d n=(d2,ts,0)) :
  ∃ A c g,e=.returned (.tuple #[.pointer (some ⟨g,0,none⟩),.slice A ts.length c,.int .i64 0])∧Ldk w0 w' p b d2∧Apart [p,b] w w'∧w.heap.size≤g∧(∀ w'',Apart [p,b,g] w' w''→Strs w'' (.slice A ts.length c) ts)∧Lg w' g p ⟨n,ts.length,false⟩:=by
 unfold LOpened at h
 rw [he] at h
 obtain ⟨lv,A,c,g,h1,h2,h3,h4,h5,h6,_⟩:=h
 obtain ⟨rfl,h7⟩:=h6 rfl
 exact ⟨A,c,g,h1,h2,h3,h4,h5,h7⟩
section
variable {w0 w:World} {p b g:Nat} {d:vd.Disk} {l:wl.L}
theorem ld_reset (v:Value) (ls:List (List UInt8)) (h:Ldk w0 w p b d) (hg:Lg w g p l) (hgb:w0.heap.size≤g) (hv:Strs w v ls) (hf:(crcm.flat ls).length≤1000000000) (hl:ls.length≤1000000000) (hm:l.name.length≤200) (ht:TabAt w0) :
  Calls Tryz.prog 71 #[.pointer (some ⟨g,0,none⟩),v] w (fun e w'=>e=.returned (.int .i64 ((wl.reset d l ls).2.2:Nat))∧Ldk w0 w' p b (wl.reset d l ls).1∧Lg w' g p (wl.reset d l ls).2.1∧Apart [p,b,g] w w'):=
 (wal_reset v ls hg h.dk h.ok hv hf hl (ht.below h.bel ht.1) hm).mono (by
  rintro e w' ⟨h1,h2,h3,h4⟩
  exact ⟨h1,h.next h4 (by have:=h.hp;have:=h.hb;simp;omega) h2 (wl.ok_reset h.ok l ls) (wl.cap_reset d l ls),h3,h4⟩)
end
end Go.Proofs.YtmcibggjolckoaaGreatDoor
