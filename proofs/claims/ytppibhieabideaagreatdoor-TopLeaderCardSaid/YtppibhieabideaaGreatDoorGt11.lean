/- A part of the walk of the program, and of its plain law. -/
import Derived.Test.YtppibhieabideaaGreatDoorGt10
namespace Go.Proofs.YtppibhieabideaaGreatDoor
set_option maxHeartbeats 4000000
open Go Go.RowKit Go.Deep
set_option maxRecDepth 100000
def qP (n:rf.Node) (j:Nat):List Nat:=(List.range j).filter λj=>(j:Int) != n.id
theorem K7 {n:rf.Node} {j:Nat} (h:(j:Int)=n.id):qP n (j + 1)=qP n j:=by
 unfold qP;rw [List.range_succ,List.filter_append];simp [h]
theorem Kk {n:rf.Node} {j:Nat} (h:(j:Int) ≠ n.id):qP n (j + 1)=qP n j ++ [j]:=by
 unfold qP;rw [List.range_succ,List.filter_append];simp [h]
theorem Kl (n:rf.Node) (j:Nat):(qP n j).length≤j:=by
 have:=List.length_filter_le (λj:Nat=>(j:Int) != n.id) (List.range j)
 simpa [qP] using this
theorem Z2 {base s:Nat} {w:World} {n:rf.Node} {ev sv:Value} {ms:List rf.Msg} (F:Nat) (fst caps:Array Value) (f:Nat→rf.Msg) (h:St base w s n ev sv ms) (hm0:0≤n.many) (hl:ms.length≤900)
  (eg:∀ args w,(callFunc F args).run Tryz.prog w=.ok (.enter F args) w)
  (K:World→Prop) (hK:K w)
  (hf:∀ (j:Nat) (A B:Option Addr) (c d:Nat) (ms':List rf.Msg) (w1:World),j < 7→ms'.length≤950→K w1→St base w1 s n (.slice A n.log.length c) (.slice B ms'.length d) ms' →
   Calls Tryz.prog F (fst.push (.int .i64 (j:Int)) ++ caps) w1 (λe w2=>e=.returned (.tuple #[])∧StTo base w1 s n (ms' ++ [f j]) w2∧K w2)) :
  Calls Tryz.prog 260 #[.pointer (some ⟨s,0,none⟩),.func (.func F) fst caps] w λe w'=>e=.returned (.tuple #[])∧StTo base w s n (ms ++ (rf.others n).map f) w'∧K w':=by
 obtain ⟨N,hN⟩:∃ N:Nat,min n.many 7=(N:Int):=⟨(min n.many 7).toNat,by omega⟩
 have hN7:N≤7:=by omega
 have hs:rf.size n=N:=by unfold rf.size;omega
 refine (JB (s:=s) F fst caps n.id n.many N hN hN7 (λj w1=>K w1∧∃ A B c d,Sx base w w1 s n (.slice A n.log.length c) (.slice B (ms ++ (qP n j).map f).length d) (ms ++ (qP n j).map f)) ?_ ?_ eg ?_ ?_).mono ?_
 ·rintro j w1 ⟨_,A,B,c,d,hx⟩;exact ⟨hx.st.cell 0 _ (qb _ _ 0 _ rfl),hx.st.cell 1 _ (qb _ _ 1 _ rfl)⟩
 ·rintro j w1 ⟨hk,A,B,c,d,hx⟩ e;have e2:=K7 e
  exact ⟨hk,A,B,c,d,by rw [e2];exact hx⟩
 ·rintro j w1 hj hne ⟨hk,A,B,c,d,hx⟩;have hlen:=Kl n j
  refine (hf j A B c d _ w1 (by omega) (by rw [List.length_append,List.length_map];omega) hk hx.st).mono ?_
  rintro e w2 ⟨rfl,hst,hk2⟩;obtain ⟨A2,c2,B2,d2,hx2⟩:=hx.call hst;refine ⟨rfl,hk2,A2,B2,c2,d2,?_⟩;rw [Kk hne,List.map_append,← List.append_assoc];exact hx2
 ·obtain ⟨A,c,rfl⟩:=h.ents.form;obtain ⟨B,d,rfl⟩:=h.sent.form;refine ⟨hK,A,B,c,d,?_⟩;simp only [qP,List.range_zero,List.filter_nil,List.map_nil,List.append_nil];exact Sx.start h
 ·rintro e w' ⟨rfl,hk,A,B,c,d,hx⟩;refine ⟨rfl,?_,hk⟩
  have:rf.others n=qP n N:=by unfold rf.others qP;rw [hs]
  rw [this];exact hx.to
theorem Jp (s g b:Nat) (k i x:Nat) (w:World) (hk:k < 7) (h1:w.cell? ⟨b,0,none⟩=some (.pointer (some ⟨s,0,none⟩))) (h2:w.cell? ⟨g,0,none⟩=some (.int .u64 (i:Int))) (h3:w.cell? ⟨s,23 + k,none⟩=some (.int .u64 (x:Int))) :
  Calls Tryz.prog 375 #[.int .i64 (k:Int),.pointer (some ⟨b,0,none⟩),.pointer (some ⟨g,0,none⟩)] w λe w'=>e=.returned (.bool (decide (i≤x)))∧Below w.heap.size w w':=by
 have hd:decide ((i:Int)≤(x:Int))=decide (i≤x):=by simp
 have HB:Hid (Below w.heap.size w w.drew):=Uq (below_drewN (Below.refl _ w) 1)
 go_enter Tryz.func375,Tryz.ntmps375
 go_wp2_with fail;go_region
 all_goals
  go_wp2;go_ret;exact ⟨rfl,HB.out⟩
theorem ke {base s:Nat} {w:World} {n:rf.Node} {A B:Option Addr} {c d:Nat} {ms:List rf.Msg} (h:St base w s n (.slice A n.log.length c) (.slice B ms.length d) ms) (hm0:0≤n.many) (hlog:n.log.length≤10000) :
  Calls Tryz.prog 270 #[.pointer (some ⟨s,0,none⟩)] w λe w'=>e=.returned (.tuple #[])∧StTo base w s (rf.tally n) ms w'∧Only s w w':=by
 obtain ⟨L,hL⟩:∃ L,n.log.length=L:=⟨_,rfl⟩;rw [hL] at h;obtain ⟨b,hbe⟩:∃ b,w.heap.size=b:=⟨_,rfl⟩;obtain ⟨X,hX⟩:∃ X,w.alloc (.cells #[.pointer (some ⟨s,0,none⟩)] 233)=X:=⟨_,rfl⟩
 have hbX:Below w.heap.size w X:=by rw [← hX];exact (Below.refl _ w).alloc (Nat.le_refl _) _
 have kb:Blk X b [.pointer (some ⟨s,0,none⟩)] 233:=by rw [← hX,← hbe];exact Blk.new w _ _
 have hx:=(Sx.start h).later hbX;have c0:=kb.cell 0 _ rfl;have c2:=hx.st.cell 2 _ (qb _ _ 2 _ rfl);have c3:=hx.st.cell 3 _ (qb _ _ 3 _ rfl);have c4:=hx.st.cell 4 _ (qb _ _ 4 _ rfl);have HL:=Uq hL;have HX:=Uq hX;have HBX:=Uq hbX;have HKB:=Uq kb;have HSX:=Uq hx;have HLog:=Uq hlog;have HBE:=Uq hbe;clear hL hX kb hx h hbX hlog
 go_enter Tryz.func270,Tryz.ntmps270
 go_upto_region 1 with fail;rw [HX.out];clear hbe HX;go_wp2_with fail
 refine (Q0 n.term n.vote _ n.log X HSX.out.st.ents.1 (by have:=HLog.out;omega)).mono ?_
 rintro e w1 ⟨rfl,hb1⟩;rw [HL.out];have hx:=HSX.out.later hb1;have kb:=HKB.out.below hb1;clear c0 c2 c3 c4 HKB HSX;have HSX:=Uq hx;have HKB:=Uq kb;have HBX:=Uq (HBX.out.trans (hb1.mono HBX.out.size));clear hx kb hb1;go_wp2_with fail
 have hT0:rf.tallyAt n L=rf.tally n:=by unfold rf.tally;rw [HL.out]
 have HT0:=Uq hT0;clear hT0
 go_loopw [4] (λp wr=>∃ i g:Nat,i≤L∧p=.pointer (some ⟨g,0,none⟩)∧Blk wr g [.int .u64 (i:Int)] 30∧rf.tallyAt n i=rf.tally n∧Below w1.heap.size w1 wr∧w1.heap.size≤g)
  (λp wr=>match p with | .pointer (some a)=>(match wr.cell? a with | some v=>(intOf v).toNat | none=>0) | _=>0)
 case atStart=>exact ⟨L,w1.heap.size,Nat.le_refl _,rfl,Blk.new w1 _ _,HT0.out,(Below.refl _ w1).alloc (Nat.le_refl _) _,Nat.le_refl _⟩
 case round=>
  obtain ⟨i,g,hi,rfl,kg,hT,hB,hg⟩:=hrel;have hx:=HSX.out.later hB;have kb:=HKB.out.below hB;have c0:=kb.cell 0 _ rfl;have g0:=kg.cell 0 _ rfl;have gf:=kg.free 0;have c2:=hx.st.cell 2 _ (qb _ _ 2 _ rfl);have c3:=hx.st.cell 3 _ (qb _ _ 3 _ rfl);have c4:=hx.st.cell 4 _ (qb _ _ 4 _ rfl);have c7:=hx.st.cell 7 _ (qb _ _ 7 _ rfl)
  by_cases hlt:n.commit < i
  ·have hd:decide ((n.commit:Int) < (i:Int))=true:=by simp;exact hlt
   obtain ⟨k,hk⟩:∃ k,i=k + 1:=⟨i - 1,by omega⟩
   have hk1:IntKind.u64.wrap ((i:Int) - 1)=(k:Int):=by rw [show (i:Int) - 1=(k:Int) by omega];exact qD (by omega) (by have:=HLog.out;have:=HL.out;omega)
   obtain ⟨t,is,ht⟩:∃ t is,rl.termAt n.log i=(t,is):=⟨_,_,rfl⟩
   have hTk:rf.tallyAt n i=(if (t == n.term && rf.majority n (λk=>decide (i≤n.mat.getD k 0)))=true then { n with commit:=i } else rf.tallyAt n k):=by
    subst hk
    conv=>lhs;unfold rf.tallyAt
    rw [if_pos hlt,ht]
   have hx5:=hx.drew;have kb5:Blk wr.drew b [.pointer (some ⟨s,0,none⟩)] 233:=kb;have kg5:Blk wr.drew g [.int .u64 (i:Int)] 30:=kg;have hB5:Below w1.heap.size w1 wr.drew:=below_drewN hB 1;have HG0:=Uq g0;have HX5:=Uq hx5;have HB5:=Uq hB5;have HKB5:=Uq kb5;have HKG5:=Uq kg5;have HT:=Uq hT;have HTK:=Uq hTk;have Hk:=Uq hk;have Ht:=Uq ht;clear hx5 kb5 kg5 hB5 hT hTk hk ht hx kb kg hB;go_wp2_with fail;go_region;obtain ⟨Y,hY⟩:∃ Y,wr.drew=Y:=⟨_,rfl⟩;rw [hY] at HX5 HB5 HKB5 HKG5 ⊢;clear c0 g0 gf c2 c3 c4 c7 hd hY
   have MK:Hid (∀ w',Below Y.heap.size Y w'→w'.cell? ⟨b,0,none⟩=some (.pointer (some ⟨s,0,none⟩))∧w'.cell? ⟨g,0,none⟩=some (.int .u64 (i:Int))∧w'.cell? ⟨s,2,none⟩=some (.int .u64 (n.term:Int))∧w'.cell? ⟨s,3,none⟩=some (.int .i64 n.vote)∧w'.cell? ⟨s,4,none⟩=some (.slice A L c)):=Uq (λw' h=>by
    have h1:=HX5.out.later h
    exact ⟨(HKB5.out.below h).cell 0 _ rfl,(HKG5.out.below h).cell 0 _ rfl,h1.st.cell 2 _ (qb _ _ 2 _ rfl),h1.st.cell 3 _ (qb _ _ 3 _ rfl),h1.st.cell 4 _ (qb _ _ 4 _ rfl)⟩)
   have hW:Below Y.heap.size Y Y.drew:=below_drewN (Below.refl _ Y) 1;go_wp2_with fail
   go_region_held3 (λw'=>w'.cell? ⟨b,0,none⟩=some (.pointer (some ⟨s,0,none⟩))∧w'.cell? ⟨g,0,none⟩=some (.int .u64 (i:Int))∧w'.cell? ⟨s,2,none⟩=some (.int .u64 (n.term:Int))∧w'.cell? ⟨s,3,none⟩=some (.int .i64 n.vote)∧w'.cell? ⟨s,4,none⟩=some (.slice A L c))
    (exact MK.out _ hW)
    (first | (go_at_call 368;refine (zn n.term n.vote _ n.log i _ (HX5.out.later hW).st.ents.1 (by have:=HLog.out;omega) (by have:=HLog.out;have:=HL.out;omega)).mono ?_;rintro e w6 ⟨rfl,hb⟩;rw [Ht.out];have hW:=hW.trans (hb.mono hW.size)))
   have hx6:=HX5.out.later hW;have hB6:=HB5.out.trans (hW.mono HB5.out.size);have kb6:=HKB5.out.below hW;have kg6:=HKG5.out.below hW;have c0:=kb6.cell 0 _ rfl;have g0:=kg6.cell 0 _ rfl;have c2:=hx6.st.cell 2 _ (qb _ _ 2 _ rfl);have HX6:=Uq hx6;have HB6:=Uq hB6;have HKB6:=Uq kb6;have HKG6:=Uq kg6;clear hx6 hB6 kb6 kg6 HX5 HB5 HKB5 HKG5 hW hb MK
   have hnext:∀ Y2:World,Below w6.heap.size w6 Y2→(t == n.term && rf.majority n (λk=>decide (i≤n.mat.getD k 0)))=false→∃ i g':Nat,i≤L∧Value.pointer (some ⟨Y2.heap.size,0,none⟩)=.pointer (some ⟨g',0,none⟩)∧Blk (Y2.alloc (.cells #[.int .u64 (k:Int)] 30)) g' [.int .u64 (i:Int)] 30∧rf.tallyAt n i=rf.tally n∧Below w1.heap.size w1 (Y2.alloc (.cells #[.int .u64 (k:Int)] 30))∧w1.heap.size≤g':=by
    intro Y2 hY2 hno;have h2:=HB6.out.trans (hY2.mono HB6.out.size);have hTk:=HTK.out
    rw [hno,if_neg (by simp)] at hTk
    exact ⟨k,Y2.heap.size,by have:=Hk.out;omega,rfl,Blk.new Y2 _ _,by rw [← hTk];exact HT.out,h2.alloc h2.size _,h2.size⟩
   have HN:=Uq hnext;clear hnext
   have hmeas:∀ Y2:World,(match (Value.pointer (some ⟨Y2.heap.size,0,none⟩)) with | .pointer (some a)=>(match (Y2.alloc (.cells #[.int .u64 (k:Int)] 30)).cell? a with | some v=>(intOf v).toNat | none=>0) | _=>0) <
     (match (Value.pointer (some ⟨g,0,none⟩)) with | .pointer (some a)=>(match wr.cell? a with | some v=>(intOf v).toNat | none=>0) | _=>0):=by
    intro Y2;have e1:=HG0.out;have e2:(Y2.alloc (.cells #[.int .u64 (k:Int)] 30)).cell? ⟨Y2.heap.size,0,none⟩=some (.int .u64 (k:Int)):=(Blk.new Y2 [.int .u64 (k:Int)] 30).cell 0 _ rfl;simp only [e1,e2,intOf];have:=Hk.out;omega
   have HM:=Uq hmeas;clear hmeas
   by_cases htt:t=n.term
   ·have hf:((t:Int) == (n.term:Int))=true:=by rw [beq_iff_eq];omega
    obtain ⟨N,hN⟩:∃ N:Nat,min n.many 7=(N:Int):=⟨(min n.many 7).toNat,by omega⟩
    have hN7:N≤7:=by omega
    have hs:rf.size n=N:=by unfold rf.size;omega
    have hmaj:rf.majority n (λk=>decide (i≤n.mat.getD k 0))=decide (n.many < 2 * (cnt (λk=>decide (i≤n.mat.getD k 0)) N:Int)):=by unfold rf.majority rf.count cnt;rw [hs]
    have HMJ:=Uq hmaj;have Htt:=Uq htt;have HN:=Uq HN.out;have HNN:=Uq hN;have HN7:=Uq hN7;clear hmaj hs htt hN hN7;go_wp2_with fail
    refine (ZM (s:=s) 375 #[.pointer (some ⟨b,0,none⟩),.pointer (some ⟨g,0,none⟩)] n.many N HNN.out HN7.out (λk=>decide (i≤n.mat.getD k 0)) (λw'=>Below w6.heap.size w6 w') ?_ (qm Tryz.func375 (by kernel_rfl) rfl) ?_ (Below.refl _ _)).mono ?_
    ·intro w' h;exact (HX6.out.later h).st.cell 1 _ (qb _ _ 1 _ rfl)
    ·intro j w' hj h;have hx':=HX6.out.later h
     refine (Jp s g b j i (n.mat.getD j 0) w' (by have:=HN7.out;omega) ((HKB6.out.below h).cell 0 _ rfl) ((HKG6.out.below h).cell 0 _ rfl) (hx'.st.cell _ _ (qb _ _ _ _ (yP hx'.st.ok _ j (by have:=HN7.out;omega))))).mono ?_
     rintro e w2 ⟨rfl,h2⟩;exact ⟨rfl,h.trans (h2.mono h.size)⟩
    rintro e w7 ⟨rfl,h7⟩;rw [← HMJ.out];have hx7:=HX6.out.later h7;have c0:=(HKB6.out.below h7).cell 0 _ rfl;have g0:=(HKG6.out.below h7).cell 0 _ rfl;have f7:=hx7.st.free 7;have c7:=hx7.st.cell 7 _ (qb _ _ 7 _ rfl);have H7:=Uq h7;have HX7:=Uq hx7;clear h7 hx7 c2
    cases hmm:rf.majority n (λk=>decide (i≤n.mat.getD k 0)) with
    | true=>
     have hfin:rf.tally n={ n with commit:=i }:=by
      rw [← HT.out,HTK.out,hmm,if_pos];rw [Htt.out];simp
     have HFin:=Uq hfin;have hst:=HX7.out.store 7 (.int .u64 (i:Int)) (n':={ n with commit:=i }) rfl rfl (HX7.out.st.ok.of rfl rfl rfl);have HST:=Uq hst;clear hfin hst hmm;go_wp2;refine bodyPost_ret (results_none rfl _ _ _) rfl ?_;rw [HFin.out];exact ⟨rfl,HST.out.to,(Only.below (HBX.out.trans ((HB6.out.trans (H7.out.mono HB6.out.size)).mono HBX.out.size))).set _ _⟩
    | false=>
     have hno:(t == n.term && rf.majority n (λk=>decide (i≤n.mat.getD k 0)))=false:=by rw [hmm];simp
     have HNO:=Uq hno;clear hno hmm;go_wp2_with fail;go_roundw
     case rel=>exact HN.out _ H7.out HNO.out
     case measure=>exact HM.out _
   ·have hf:((t:Int) == (n.term:Int))=false:=by rw [beq_eq_false_iff_ne];omega
    have hno:(t == n.term && rf.majority n (λk=>decide (i≤n.mat.getD k 0)))=false:=by rw [beq_eq_false_iff_ne.2 htt];rfl
    have HNO:=Uq hno;clear htt hno;go_wp2_with fail;go_roundw
    case rel=>exact HN.out _ (Below.refl _ _) HNO.out
    case measure=>exact HM.out _
  ·have hd:decide ((n.commit:Int) < (i:Int))=false:=by simp;omega
   have hfin:rf.tally n=n:=by
    rw [← hT]
    cases i with
    | zero=>rfl
    | succ i=>unfold rf.tallyAt;rw [if_neg hlt]
   have HFin:=Uq hfin;have HFX:=Uq hx.drew;have HFB:Hid (Below w.heap.size w wr.drew):=Uq (below_drewN (HBX.out.trans (hB.mono HBX.out.size)) 1);clear hfin hT hx kb kg hB;go_wp2_with fail;go_region
   all_goals
    go_wp2;go_end0;rw [HFin.out];exact ⟨rfl,HFX.out.to,Only.below HFB.out⟩
theorem St.row_ne {base s:Nat} {w:World} {n:rf.Node} {ev sv:Value} {ms:List rf.Msg} (h:St base w s n ev sv ms):∀ k,sv.ownBlock=some k→k ≠ s:=by
 intro k hk e;subst e;obtain ⟨evs,_,h2,_⟩:=h.sent;exact Go.Proofs.YtppibhieabideaaGreatDoor.row_ne h2 h.blk hk.symm
theorem Sx.setLog {base s:Nat} {w0 w:World} {n:rf.Node} {ev sv:Value} {ms:List rf.Msg} (h:Sx base w0 w s n ev sv ms) (v':Value) (ls':List rl.Ent) (he:EntsB base w v' ls') :
  Sx base w0 (w.setCell ⟨s,4,none⟩ v') s { n with log:=ls' } v' sv ms:=by
 have hb:Below base w (w.setCell ⟨s,4,none⟩ v'):=(Below.refl _ w).setCell (p:=⟨s,4,none⟩) h.st.sb v';have hk:=Keeps.set s 4 w v'
 exact ⟨⟨h.st.sb,h.st.blk.set 4 v',he.keep hk hb h.st.blk,h.st.sent.keep hk hb h.st.blk (λk hk2=>Below.heap_setCell _ _ _ k (λe=>h.st.row_ne k hk2 e)),h.st.ok.of rfl rfl rfl⟩,h.keeps.trans hk,h.below.trans hb⟩
theorem za {w:World} {base b:Nat} {e:TypeId} {size n:Nat} {v:Value} {xs:List Value} (h:w.ownsRow b e size v n xs) (hb:base≤b):w.ownsRow base e size v n xs:=by
 refine ⟨h.1,?_⟩
 rcases h.2 with h2 | ⟨g,cap,cur,h2,h3,h4⟩
 ·exact .inl h2
 ·exact .inr ⟨g,cap,cur,h2,Nat.le_trans hb h3,h4⟩
theorem Kb (n:rf.Node) (i:Nat):rf.tallyAt n i={ n with commit:=(rf.tallyAt n i).commit }:=by
 induction i with
 | zero=>rfl
 | succ i ih=>
  unfold rf.tallyAt
  split
  ·split
   ·rfl
   ·exact ih
  ·rfl
theorem qh (n:rf.Node):rf.tally n={ n with commit:=(rf.tally n).commit }:=Kb n _
theorem Jo (n:rf.Node):(rf.tally n).many=n.many:=by rw [qh]
theorem zV (n:rf.Node):(rf.tally n).log=n.log:=by rw [qh]
theorem NOk.setV {n:rf.Node} (h:NOk n) (i:Nat) (b:Bool):NOk { n with votes:=n.votes.set i b }:=⟨by simp [h.v7],h.n7,h.m7,h.ms,h.ns⟩
theorem NOk.setN {n:rf.Node} (h:NOk n) (i x:Nat) (hx:x≤1000000001):NOk { n with next:=n.next.set i x }:=⟨h.v7,by simp [h.n7],h.m7,h.ms,by
 intro y hy
 rcases List.mem_or_eq_of_mem_set hy with h1 | rfl
 ·exact h.ns y h1
 ·exact hx⟩
theorem NOk.setM {n:rf.Node} (h:NOk n) (i x:Nat) (hx:x≤1000000000):NOk { n with mat:=n.mat.set i x }:=⟨h.v7,h.n7,by simp [h.m7],by
 intro y hy
 rcases List.mem_or_eq_of_mem_set hy with h1 | rfl
 ·exact h.ms y h1
 ·exact hx,h.ns⟩
theorem xS {base s:Nat} {w:World} {n:rf.Node} {A B:Option Addr} {c d:Nat} {ms:List rf.Msg} (text:List UInt8) (h:St base w s n (.slice A n.log.length c) (.slice B ms.length d) ms) (hm0:0≤n.many) (hid:0≤n.id) (hid7:n.id < 7) (hl:ms.length≤900) (hlog:n.log.length≤9990) :
  Calls Tryz.prog 152 #[.pointer (some ⟨s,0,none⟩),.string (crcm.mk text)] w λe w'=>e=.returned (.int .u64 (n.log.length + 1:Nat))∧StTo base w s (rf.add n text).1 (ms ++ (rf.add n text).2) w':=by
 obtain ⟨i0,hi,hz0,hz1,hz2⟩:=info_parts zj;obtain ⟨L,hL⟩:∃ L,n.log.length=L:=⟨_,rfl⟩
 obtain ⟨K,hK⟩:∃ K:Nat,n.id=(K:Int):=⟨n.id.toNat,by omega⟩
 rw [hL] at h;have c2:=h.cell 2 _ (qb _ _ 2 _ rfl);have c4:=h.cell 4 _ (qb _ _ 4 _ rfl);have hx:=Sx.start h;have HL:=Uq hL;have HX:=Uq hx;have HLog:=Uq hlog;have HML:=Uq hl;have HKK:=Uq hK;have hW9:Below w.heap.size w w.drew:=below_drewN (Below.refl _ w) 1;have hWA:Below w.heap.size w (w.alloc (.cells #[.int .u64 (n.term:Int),.string (crcm.mk text)] 36)).drew:=below_drewN ((Below.refl _ w).alloc (Nat.le_refl _) _) 1;have d2:=(HX.out.later hWA).st.cell 2 _ (qb _ _ 2 _ rfl);have d4:=(HX.out.later hWA).st.cell 4 _ (qb _ _ 4 _ rfl)
 have hLL:L≤9990:=by omega
 clear hL hlog hl hx h
 go_enter Tryz.func152,Tryz.ntmps152
 go_wp2_with fail
 go_cut [] (λwx=>∃ A' c',Sx base w wx s { n with log:=n.log ++ [(n.term,text)] } (.slice A' (L + 1) c') (.slice B ms.length d) ms)
 case first=>
  go_region_law (first | (refine qA rfl (.tmp 14) (.tmp 23) 29 rfl w.heap.size 36 i0 _ 2 24 Tryz.underlying29 hi hz0 hz1 hz2 rfl (by decide) (.slice A6 L c6) L (qg n.log) rfl (hown.alloc _) ⟨w6.heap.size,0,none⟩ 1 1 [.int .u64 (n.term:Int),.string (crcm.mk text)] rfl rfl (Zs _ _ _ _) (Qd [(n.term,text)]) ?_ ?_ ?_ ?_;unfold maxLen;omega;omega;(have q1:=hW9.size;simp;omega);intro v' w3 hown' hgrow';obtain ⟨A',c',rfl⟩:=ql hown';have hfin:=HX.out.later ((hW9.alloc hW9.size (.cells #[.int .u64 (n.term:Int),.string (crcm.mk text)] 36)).grown hgrow' (by have q1:=hW9.size;simp;omega) (λj hj=>(hown.lt j hj).1));have c43:=hfin.st.cell 4 _ (qb _ _ 4 _ rfl);have f43:=hfin.st.free 4) | (refine qA rfl (.tmp 14) (.tmp 23) 29 rfl w.heap.size 36 i0 _ 2 24 Tryz.underlying29 hi hz0 hz1 hz2 rfl (by decide) (.slice A6 L c6) L (qg n.log) rfl hown ⟨w.heap.size,0,none⟩ 1 1 [.int .u64 (n.term:Int),.string (crcm.mk text)] rfl rfl (λj u hj=>cell_later hb6 (Zs w _ _ _ j u hj)) (Qd [(n.term,text)]) ?_ ?_ ?_ ?_;unfold maxLen;omega;omega;(have q1:=hW9.size;simp;omega);intro v' w3 hown' hgrow';obtain ⟨A',c',rfl⟩:=ql hown';have hfin:=HX.out.later (hW9.grown hgrow' (by have q1:=hW9.size;simp;omega) (λj hj=>(hown.lt j hj).1));have c43:=hfin.st.cell 4 _ (qb _ _ 4 _ rfl);have f43:=hfin.st.free 4) | (go_simp;go_at_call 49;refine (zZ A L c n.log _ (HX.out.st.ents.1.below hW9) (by have:=HLog.out;omega)).mono ?_;rintro e w6 ⟨A6,c6,rfl,hown,hb6⟩;have hown:=za hown hW9.size;have hW9:=hW9.trans (hb6.mono hW9.size);rw [HL.out] at hown ⊢;have z2:=(HX.out.later hW9).st.cell 2 _ (qb _ _ 2 _ rfl);have z4:=(HX.out.later hW9).st.cell 4 _ (qb _ _ 4 _ rfl);have zf:=(HX.out.later hW9).st.free 4) | (go_simp;go_at_call 49;refine (zZ A L c n.log _ (HX.out.st.ents.1.below hWA) (by have:=HLog.out;omega)).mono ?_;rintro e w6 ⟨A6,c6,rfl,hown,hb6⟩;have hown:=za hown hWA.size;have hW9:=hWA.trans (hb6.mono hWA.size);rw [HL.out] at hown ⊢;have z2:=(HX.out.later hW9).st.cell 2 _ (qb _ _ 2 _ rfl);have z4:=(HX.out.later hW9).st.cell 4 _ (qb _ _ 4 _ rfl);have zf:=(HX.out.later hW9).st.free 4))
  all_goals
   have hF:=hfin.setLog (.slice A' (L + 1) c') (n.log ++ [(n.term,text)]) (EntsB.of_owns (base':=w.heap.size) (by rw [qV,List.length_append,HL.out];exact hown'))
   go_wp2_with fail;go_meet;exact ⟨A',c',hF⟩
 case rest=>
  obtain ⟨A',c',hF⟩:=hcut;have HF:=Uq hF;clear hF d2 d4 c2 c4 hW9 hWA HX hi hz0 hz1 hz2;obtain ⟨n1,hn1⟩:∃ n1,{ n with log:=n.log ++ [(n.term,text)] }=n1:=⟨_,rfl⟩
  have hl1:n1.log.length=L + 1:=by rw [← hn1,List.length_append,HL.out];rfl
  have hid1:n1.id=(K:Int):=by rw [← hn1];exact HKK.out
  have hm1:0≤n1.many:=by rw [← hn1];exact hm0
  have hgr:rf.grown n text={ n1 with mat:=n1.mat.set K (L + 1),next:=n1.next.set K (L + 1 + 1) }:=by
   rw [← hn1];unfold rf.grown;rw [HL.out,HKK.out]
   rfl
  rw [hn1] at HF;have hx:=HF.out;have c0:=hx.st.cell 0 _ (qb _ _ 0 _ rfl);rw [hid1] at c0;have c2:=hx.st.cell 2 _ (qb _ _ 2 _ rfl);have c3:=hx.st.cell 3 _ (qb _ _ 3 _ rfl);have c4:=hx.st.cell 4 _ (qb _ _ 4 _ rfl);have Hl1:=Uq hl1;have Hid1:=Uq hid1;have Hm1:=Uq hm1;have HGR:=Uq hgr
  have hK7:K < 7:=by have:=HKK.out;omega
  have HK7:=Uq hK7;have HM0:=Uq hm0;clear hx hn1 hl1 hid1 hm1 hgr hid hid7 hm0;go_wp2_with fail
  refine (Q0 n1.term n1.vote _ n1.log _ HF.out.st.ents.1 (by have:=Hl1.out;omega)).mono ?_
  rw [Hl1.out];rintro e w2 ⟨rfl,hb2⟩;have hx:=HF.out.later hb2;have c0:=hx.st.cell 0 _ (qb _ _ 0 _ rfl);rw [Hid1.out] at c0;have cM:=hx.st.cell (23 + K) _ (qb _ _ _ _ (yP hx.st.ok _ K HK7.out));have cN:=hx.st.cell (16 + K) _ (qb _ _ _ _ (zH hx.st.ok _ K HK7.out));have fM:=hx.st.free (23 + K);have fN:=hx.st.free (16 + K);have HX2:=Uq hx
  have hwL:IntKind.u64.wrap (((L + 1:Nat):Int) + 1)=((L + 1 + 1:Nat):Int):=by rw [show ((L + 1:Nat):Int) + 1=((L + 1 + 1:Nat):Int) by omega];exact qD (by omega) (by omega)
  obtain ⟨L1,hL1⟩:∃ x,L + 1=x:=⟨_,rfl⟩;rw [hL1] at hwL HGR ⊢;obtain ⟨L2,hL2⟩:∃ x,L1 + 1=x:=⟨_,rfl⟩;rw [hL2] at hwL HGR;have HL1:=Uq hL1;have HL2:=Uq hL2
  have hK0:(0:Int)≤(K:Int):=by omega
  have hKi:(K:Int) < 7:=by omega
  clear hx hb2 hL1 hL2 c2 c3 c4;go_wp2_with fail;go_region
  have h3:=((HX2.out.store (23 + K) (.int .u64 (L1:Int)) (n':={ n1 with mat:=n1.mat.set K L1 }) (Yi HX2.out.st.ok _ _ K HK7.out L1) rfl (HX2.out.st.ok.setM K L1 (by have:=HL1.out;omega))))
  have h4:=(h3.store (16 + K) (.int .u64 (L2:Int)) (n':={ n1 with mat:=n1.mat.set K L1,next:=n1.next.set K L2 }) (ZE h3.st.ok _ _ K HK7.out L2) rfl (h3.st.ok.setN K L2 (by have:=HL1.out;have:=HL2.out;omega))).drew
  have hgl:(rf.grown n text).log.length=L1:=by rw [HGR.out,← HL1.out];exact Hl1.out
  have hgm:0≤(rf.grown n text).many:=by rw [HGR.out];exact Hm1.out
  obtain ⟨W4,hW4⟩:∃ W4,((w2.setCell ⟨s,23 + K,none⟩ (.int .u64 (L1:Int))).setCell ⟨s,16 + K,none⟩ (.int .u64 (L2:Int))).drew=W4:=⟨_,rfl⟩;rw [hW4] at h4 ⊢;rw [← HGR.out,HL1.out,← hgl] at h4;have H4:=Uq h4;have HGL:=Uq hgl;have HGM:=Uq hgm;clear h3 h4 hgl hgm c0 cM cN fM fN hwL;obtain ⟨g,hg⟩:∃ g,rf.grown n text=g:=⟨_,rfl⟩
  have hadd:rf.add n text=(rf.tally g,rf.puts (rf.tally g)):=by unfold rf.add;rw [hg]
  rw [hg] at H4 HGL HGM;have HADD:=Uq hadd;clear hg hadd HGR;go_wp2_with fail
  refine (ke H4.out.st HGM.out (by have:=HGL.out;have:=HL1.out;omega)).mono ?_
  rintro e w4 ⟨rfl,hst,_⟩;obtain ⟨A4,c4,B4,d4,h5⟩:=H4.out.call hst;have H5:=Uq h5;clear h5 hst;go_wp2_with fail
  refine (Z2 261 #[.pointer (some ⟨s,0,none⟩)] #[] (λj=>rf.stamp (rf.tally g) (rf.putMsg (rf.tally g) j)) H5.out.st (by rw [Jo];exact HGM.out) HML.out (qm Tryz.func261 (by kernel_rfl) rfl) (λ_=>True) trivial ?_).mono ?_
  ·intro j A B c d ms' w1 hj hl _ hst
   refine (ZN j hst hj (by omega) (by rw [zV,HGL.out];have:=HL1.out;omega)).mono ?_
   rintro e w2 ⟨rfl,h2⟩;exact ⟨rfl,h2,trivial⟩
  rintro e w5 ⟨rfl,hst,_⟩;obtain ⟨A6,c6,B6,d6,h6⟩:=H5.out.call hst;have H6:=Uq h6;clear h6 hst;go_wp2;go_ret;rw [HADD.out,HL.out]
  exact ⟨Zl (zh (by have:=HL1.out;omega)),H6.out.to⟩
def Q4 {α:Type} (x:α) (l:List α) (j:Nat):List α:=List.replicate j x ++ l.drop j
theorem YE {α:Type} (x:α) (l:List α) (j:Nat) (h:j < l.length):(Q4 x l j).set j x=Q4 x l (j + 1):=by
 unfold Q4
 rw [List.set_append_right _ _ (by simp),List.length_replicate,Nat.sub_self,List.drop_eq_getElem_cons h,List.set_cons_zero,List.replicate_succ',List.append_assoc]
 rfl
theorem YF {α:Type} (x:α) (l:List α) (j:Nat) (h:j≤l.length):(Q4 x l j).length=l.length:=by
 unfold Q4;simp;omega
theorem YG {α:Type} (x:α) (l:List α) (j:Nat) (h:l.length≤j):Q4 x l j=List.replicate j x:=by
 unfold Q4;rw [List.drop_eq_nil_of_le h,List.append_nil]
def zK (n:rf.Node) (L1 j:Nat):rf.Node:={ n with role:=2,lead:=n.id,idle:=0,next:=Q4 L1 n.next j,mat:=Q4 0 n.mat j }
theorem XQ {n:rf.Node} (h:NOk n):zK n (n.log.length + 1) 7=rf.led n:=by
 unfold zK rf.led
 rw [YG _ _ _ (by rw [h.n7];exact Nat.le_refl _),YG _ _ _ (by rw [h.m7];exact Nat.le_refl _)]
theorem un {base s:Nat} {w:World} {n:rf.Node} {A B:Option Addr} {c d:Nat} {ms:List rf.Msg} (h:St base w s n (.slice A n.log.length c) (.slice B ms.length d) ms) (hm0:0≤n.many) (hid:0≤n.id) (hid7:n.id < 7) (hl:ms.length≤900) (hlog:n.log.length≤9990) :
  Calls Tryz.prog 432 #[.pointer (some ⟨s,0,none⟩)] w λe w'=>e=.returned (.tuple #[])∧StTo base w s (rf.lead n).1 (ms ++ (rf.lead n).2) w':=by
 obtain ⟨L,hL⟩:∃ L,n.log.length=L:=⟨_,rfl⟩;rw [hL] at h;have c2:=h.cell 2 _ (qb _ _ 2 _ rfl);have c3:=h.cell 3 _ (qb _ _ 3 _ rfl);have c4:=h.cell 4 _ (qb _ _ 4 _ rfl);have HH:=Uq h;have HL:=Uq hL;have HLog:=Uq hlog;have HML:=Uq hl;have HI:=Uq hid;have HI7:=Uq hid7;have HM:=Uq hm0
 have hlL:L≤9990:=by omega
 clear hL h hlog hl hid hid7 hm0
 go_enter Tryz.func432,Tryz.ntmps432
 go_wp2_with fail
 refine (Q0 n.term n.vote _ n.log _ HH.out.ents.1 (by have:=HLog.out;omega)).mono ?_
 rw [HL.out];rintro e w1 ⟨rfl,hb⟩;have hx:=(Sx.start HH.out).later hb;clear c2 c3 c4;have c0:=hx.st.cell 0 _ (qb _ _ 0 _ rfl);have c5:=hx.st.cell 5 _ (qb _ _ 5 _ rfl);have c6:=hx.st.cell 6 _ (qb _ _ 6 _ rfl);have c8:=hx.st.cell 8 _ (qb _ _ 8 _ rfl);have f5:=hx.st.free 5;have f6:=hx.st.free 6;have f8:=hx.st.free 8;have h0:=((hx.store 5 (.int .i64 2) (n':={ n with role:=2 }) rfl rfl (hx.st.ok.of rfl rfl rfl)).store 6 (.int .i64 n.id) (n':={ n with role:=2,lead:=n.id }) rfl rfl (hx.st.ok.of rfl rfl rfl)).store 8 (.int .i64 0) (n':=zK n (L + 1) 0) rfl rfl (hx.st.ok.of rfl rfl rfl);have H0:=Uq h0
 have hwL:IntKind.u64.wrap ((L:Int) + 1)=((L + 1:Nat):Int):=by rw [show (L:Int) + 1=((L + 1:Nat):Int) by omega];exact qD (by omega) (by omega)
 obtain ⟨L1,hL1⟩:∃ x,L + 1=x:=⟨_,rfl⟩;rw [hL1] at hwL H0;have HL1:=Uq hL1;have HOK:=Uq hx.st.ok;clear h0 hx hb hL1;go_wp2_with fail
 go_loopw [31] (λi wr=>∃ j:Nat,j≤7∧i=.int .i64 j∧Sx base w wr s (zK n L1 j) (.slice A L c) (.slice B ms.length d) ms) (λi _=>7 - (intOf i).toNat)
 case atStart=>exact ⟨0,by omega,rfl,H0.out⟩
 case round=>
  obtain ⟨j,hj,rfl,hx⟩:=hrel
  by_cases hlt:j < 7
  ·have hok:=hx.st.ok;have cM:=hx.st.cell (23 + j) _ (qb _ _ _ _ (yP hok _ j hlt));have cN:=hx.st.cell (16 + j) _ (qb _ _ _ _ (zH hok _ j hlt));have fM:=hx.st.free (23 + j);have fN:=hx.st.free (16 + j)
   have h1:=hx.store (16 + j) (.int .u64 (L1:Int)) (ZE hok _ _ j hlt L1) rfl (hok.setN j L1 (by have:=HL1.out;omega))
   have h2:=(h1.store (23 + j) (.int .u64 ((0:Nat):Int)) (n':=zK n L1 (j + 1)) ((Yi h1.st.ok _ _ j hlt 0).trans (by
    congr 1
    unfold zK;dsimp only
    rw [YE _ _ _ (by rw [HOK.out.n7];exact hlt),YE _ _ _ (by rw [HOK.out.m7];exact hlt)])) rfl ⟨HOK.out.v7,by unfold zK;dsimp only;rw [YF _ _ _ (by rw [HOK.out.n7];exact hlt)];exact HOK.out.n7,by unfold zK;dsimp only;rw [YF _ _ _ (by rw [HOK.out.m7];exact hlt)];exact HOK.out.m7,by
     intro x hx2;unfold zK Q4 at hx2;dsimp only at hx2
     rcases List.mem_append.1 hx2 with h3 | h3
     ·rw [List.eq_of_mem_replicate h3];omega
     ·exact HOK.out.ms x (List.mem_of_mem_drop h3),by
     intro x hx2;unfold zK Q4 at hx2;dsimp only at hx2
     rcases List.mem_append.1 hx2 with h3 | h3
     ·rw [List.eq_of_mem_replicate h3];have:=HL1.out;omega
     ·exact HOK.out.ns x (List.mem_of_mem_drop h3)⟩)
   have H2:=Uq h2.drew
   have hj7:(j:Int) < 7:=by omega
   clear hx hok h1 h2;go_wp2_with fail;go_region
   all_goals
    go_wp2_with fail;go_roundw
    case rel=>exact ⟨j + 1,by omega,by go_num,H2.out⟩
    case measure=>simp [intOf];omega
  ·obtain rfl:j=7:=by omega
   have hled:zK n L1 7=rf.led n:=by rw [← HL1.out,← HL.out];exact XQ HOK.out
   rw [hled] at hx;have hst:=hx
   rw [show L=(rf.led n).log.length from HL.out.symm] at hst
   have HST:=Uq hst;clear hx hst hled;go_wp2_with fail
   refine (xS [] HST.out.st HM.out HI.out HI7.out HML.out (by have:=HLog.out;exact this)).mono ?_
   rintro e w9 ⟨rfl,h9⟩;obtain ⟨A9,c9,B9,d9,h10⟩:=HST.out.call h9;have H10:=Uq h10;clear h9 h10;go_wp2;go_end0;exact ⟨rfl,H10.out.to⟩
theorem Ja (s b:Nat) (k:Nat) (x:Bool) (w:World) (hk:k < 7) (h1:w.cell? ⟨b,0,none⟩=some (.pointer (some ⟨s,0,none⟩))) (h3:w.cell? ⟨s,9 + k,none⟩=some (.bool x)) :
  Calls Tryz.prog 431 #[.int .i64 (k:Int),.pointer (some ⟨b,0,none⟩)] w λe w'=>e=.returned (.bool x)∧w=w':=by
 go_enter Tryz.func431,Tryz.ntmps431
 go_wp2;go_ret;exact ⟨rfl,rfl⟩
theorem Y8 {base s:Nat} {w:World} {n:rf.Node} {A B:Option Addr} {c d:Nat} {ms:List rf.Msg} (K:Nat) (h:St base w s n (.slice A n.log.length c) (.slice B ms.length d) ms) (hK7:K < 7) (hm0:0≤n.many) (hid:0≤n.id) (hid7:n.id < 7) (hl:ms.length≤900) (hlog:n.log.length≤9990) :
  Calls Tryz.prog 370 #[.pointer (some ⟨s,0,none⟩),.int .i64 (K:Int)] w λe w'=>e=.returned (.tuple #[])∧StTo base w s (rf.voted n (K:Int)).1 (ms ++ (rf.voted n (K:Int)).2) w':=by
 obtain ⟨n1,hn1⟩:∃ n1,{ n with votes:=n.votes.set K true }=n1:=⟨_,rfl⟩
 have hv:rf.voted n (K:Int)=(if rf.elected n1=true then rf.lead n1 else (n1,[])):=by
  unfold rf.voted
  rw [if_pos (by omega),Int.toNat_natCast,hn1]
 obtain ⟨L,hL⟩:∃ L,n.log.length=L:=⟨_,rfl⟩;rw [hL] at h;obtain ⟨b,hbe⟩:∃ b,w.heap.size=b:=⟨_,rfl⟩;obtain ⟨X,hX⟩:∃ X,w.alloc (.cells #[.pointer (some ⟨s,0,none⟩)] 233)=X:=⟨_,rfl⟩
 have hbX:Below w.heap.size w X:=by rw [← hX];exact (Below.refl _ w).alloc (Nat.le_refl _) _
 have kb:Blk X b [.pointer (some ⟨s,0,none⟩)] 233:=by rw [← hX,← hbe];exact Blk.new w _ _
 have hbs:b ≠ s:=by have:=h.blk.lt;omega
 have hx:=(Sx.start h).later hbX;have c0:=kb.cell 0 _ rfl;have cV:=hx.st.cell (9 + K) _ (qb _ _ _ _ (Qt hx.st.ok _ K hK7));have fV:=hx.st.free (9 + K)
 have hx1:=hx.store (9 + K) (.bool true) (n':=n1) (by rw [← hn1];exact QG hx.st.ok _ _ K hK7 true) (by rw [← hn1]) (by rw [← hn1];exact hx.st.ok.setV K true)
 have kb1:=kb.other ⟨s,9 + K,none⟩ (.bool true) hbs;have hbs':¬ b=s:=hbs
 have hk0:(0:Int)≤(K:Int):=by omega
 have hk7:(K:Int) < 7:=by omega
 have d0:decide ((K:Int) < 0)=false:=by simp
 have d7:decide ((7:Int)≤(K:Int))=false:=by simp;omega
 have hmany:n1.many=n.many:=by rw [← hn1]
 have hid1:n1.id=n.id:=by rw [← hn1]
 have hlog1:n1.log.length=L:=by rw [← hn1];exact hL
 obtain ⟨N,hN⟩:∃ N:Nat,min n1.many 7=(N:Int):=⟨(min n1.many 7).toNat,by omega⟩
 have hN7:N≤7:=by omega
 have hs:rf.size n1=N:=by unfold rf.size;omega
 have hmaj:rf.elected n1=decide (n1.many < 2 * (cnt (λk=>n1.votes.getD k false) N:Int)):=by unfold rf.elected rf.majority rf.count cnt;rw [hs]
 have HMJ:=Uq hmaj;have HX:=Uq hX;have HX1:=Uq hx1;have HKB:=Uq kb1;have HV:=Uq hv;have HN:=Uq hN;have HN7:=Uq hN7;have HLL:=Uq hlog1;have HID:=Uq hid;have HID7:=Uq hid7;have HID1:=Uq hid1;have HM:=Uq hm0;have HMN:=Uq hmany;have HML:=Uq hl
 have HLog:Hid (L≤9990):=Uq (by omega)
 clear hmaj hX hx1 kb1 hv hN hN7 hlog1 hid hid7 hid1 hm0 hmany hl hlog hx kb h hbX hn1 hL hs hbs
 go_enter Tryz.func370,Tryz.ntmps370
 go_upto_region 1 with fail;rw [HX.out];go_wp2_with fail;obtain ⟨Y,hY⟩:∃ Y,X.setCell ⟨s,9 + K,none⟩ (.bool true)=Y:=⟨_,rfl⟩;rw [hY] at HX1 HKB ⊢
 refine (ZM (s:=s) 431 #[.pointer (some ⟨b,0,none⟩)] n1.many N HN.out HN7.out (λk=>n1.votes.getD k false) (λw'=>Y=w') ?_ (qm Tryz.func431 (by kernel_rfl) rfl) ?_ rfl).mono ?_
 ·rintro w' rfl;exact HX1.out.st.cell 1 _ (qb _ _ 1 _ rfl)
 ·rintro j w' hj rfl
  exact Ja s b j _ Y (by have:=HN7.out;omega) (HKB.out.cell 0 _ rfl) (HX1.out.st.cell _ _ (qb _ _ _ _ (Qt HX1.out.st.ok _ j (by have:=HN7.out;omega))))
 rintro e w2 ⟨rfl,rfl⟩;rw [← HMJ.out];clear hY cV fV c0;have c0:=HKB.out.cell 0 _ rfl
 cases he:rf.elected n1 with
 | false=>
  have hv:=HV.out
  rw [he,if_neg (by simp)] at hv
  have HV2:=Uq hv;clear hv he;go_wp2;go_end0;rw [HV2.out]
  exact ⟨rfl,by rw [List.append_nil];exact HX1.out.to⟩
 | true=>
  have hv:=HV.out;rw [he,if_pos rfl] at hv;have HV2:=Uq hv;clear hv he;have h2:=HX1.out;rw [← HLL.out] at h2;have H2:=Uq h2;clear h2;go_wp2_with fail
  refine (un H2.out.st (by rw [HMN.out];exact HM.out) (by rw [HID1.out];exact HID.out) (by rw [HID1.out];exact HID7.out) HML.out (by rw [HLL.out];exact HLog.out)).mono ?_
  rintro e w9 ⟨rfl,h9⟩;obtain ⟨A9,c9,B9,d9,h10⟩:=H2.out.call h9;have H10:=Uq h10;clear h9 h10;go_wp2;go_end0;rw [HV2.out];exact ⟨rfl,H10.out.to⟩
theorem Blk.drew {w:World} {g:Nat} {vs:List Value} {t:TypeId} (h:Blk w g vs t):Blk w.drew g vs t:=h
theorem EntsB.nil (base:Nat) (w:World):EntsB base w (.slice none 0 0) []:=
 ⟨⟨none,0,rfl,Nat.le_refl _,Nat.zero_le _,λh=>absurd h (by simp)⟩,λb o n c e h=>absurd h (by simp)⟩
theorem seven {α:Type} (l:List α) (x:α) (h:l.length=7):(((((((l.set 0 x).set 1 x).set 2 x).set 3 x).set 4 x).set 5 x).set 6 x)=List.replicate 7 x:=by
 rcases l with _ | ⟨a0,_ | ⟨a1,_ | ⟨a2,_ | ⟨a3,_ | ⟨a4,_ | ⟨a5,_ | ⟨a6,_ | ⟨a7,l⟩⟩⟩⟩⟩⟩⟩⟩ <;> simp at h
 rfl
theorem ZT (n:rf.Node) (t:List UInt8):(rf.add n t).1.id=n.id∧(rf.add n t).1.many=n.many∧(rf.add n t).1.role=n.role∧(rf.add n t).1.log.length=n.log.length + 1:=by
 unfold rf.add;dsimp only;rw [qh]
 simp [rf.grown]
theorem qX (n:rf.Node) (K:Nat) (h:K < 7):(rf.voted n (K:Int)=({ n with votes:=n.votes.set K true },[]))∨(rf.voted n (K:Int)=rf.lead { n with votes:=n.votes.set K true }):=by
 unfold rf.voted
 rw [if_pos (by omega),Int.toNat_natCast]
 split
 ·exact .inr rfl
 ·exact .inl rfl
theorem Vg (n:rf.Node) (K:Nat) (h:K < 7):(rf.voted n (K:Int)).1.id=n.id:=by
 rcases qX n K h with e | e <;> rw [e]
 exact (ZT _ _).1
theorem j9 (n:rf.Node) (K:Nat) (h:K < 7):(rf.voted n (K:Int)).1.many=n.many:=by
 rcases qX n K h with e | e <;> rw [e]
 exact (ZT _ _).2.1
theorem Y7 (n:rf.Node) (K:Nat) (h:K < 7):(rf.voted n (K:Int)).1.log.length≤n.log.length + 1:=by
 rcases qX n K h with e | e <;> rw [e]
 ·exact Nat.le_succ _
 ·exact Nat.le_of_eq (ZT _ _).2.2.2
theorem Yp (n:rf.Node):(rf.puts n).length≤7:=by
 unfold rf.puts rf.others rf.size;rw [List.length_map]
 have:=List.length_filter_le (λj:Nat=>(j:Int) != n.id) (List.range (min n.many 7).toNat)
 rw [List.length_range] at this;omega
theorem ZU (n:rf.Node) (K:Nat) (h:K < 7):(rf.voted n (K:Int)).2.length≤7:=by
 rcases qX n K h with e | e <;> rw [e]
 ·exact Nat.zero_le _
 ·exact Yp _
def KH (j ix t:Nat):rf.Msg:={ rf.msg0 with kind:=1,dst:=(j:Int),index:=ix,at_:=t }
theorem Jt {base s:Nat} {w:World} {n:rf.Node} {ev:Value} {B:Option Addr} {d:Nat} {ms:List rf.Msg} (j b b2 b3 ix t:Nat) (h:St base w s n ev (.slice B ms.length d) ms) (h1:w.cell? ⟨b,0,none⟩=some (.pointer (some ⟨s,0,none⟩))) (h2:w.cell? ⟨b2,0,none⟩=some (.int .u64 (ix:Int))) (h3:w.cell? ⟨b3,0,none⟩=some (.int .u64 (t:Int))) (hl:ms.length≤1000) :
  Calls Tryz.prog 371 #[.int .i64 (j:Int),.pointer (some ⟨b,0,none⟩),.pointer (some ⟨b2,0,none⟩),.pointer (some ⟨b3,0,none⟩)] w λe w'=>e=.returned (.tuple #[])∧StTo base w s n (ms ++ [rf.stamp n (KH j ix t)]) w':=by
 have HS:=Uq (QU (KH j ix t) h (EntsB.nil base w) hl);clear h hl;unfold KH rf.msg0 at HS
 go_enter Tryz.func371,Tryz.ntmps371
 go_wp2_with fail;refine HS.out.mono ?_;rintro e w2 ⟨rfl,hst⟩;have H2:=Uq hst;clear hst;go_wp2;go_end0;exact ⟨rfl,H2.out⟩
theorem Xs {base s:Nat} {w:World} {n:rf.Node} {A B:Option Addr} {c d:Nat} {ms:List rf.Msg} (h:St base w s n (.slice A n.log.length c) (.slice B ms.length d) ms) (hm0:0≤n.many) (hid:0≤n.id) (hid7:n.id < 7) (hl:ms.length≤800) (hlog:n.log.length≤9990) :
  Calls Tryz.prog 263 #[.pointer (some ⟨s,0,none⟩)] w λe w'=>e=.returned (.tuple #[])∧StTo base w s (rf.stand n).1 (ms ++ (rf.stand n).2) w':=by
 obtain ⟨L,hL⟩:∃ L,n.log.length=L:=⟨_,rfl⟩;rw [hL] at h
 obtain ⟨K,hK⟩:∃ K:Nat,n.id=(K:Int):=⟨n.id.toNat,by omega⟩
 obtain ⟨b,hbe⟩:∃ b,w.heap.size=b:=⟨_,rfl⟩;obtain ⟨X,hX⟩:∃ X,w.alloc (.cells #[.pointer (some ⟨s,0,none⟩)] 233)=X:=⟨_,rfl⟩
 have hbX:Below w.heap.size w X:=by rw [← hX];exact (Below.refl _ w).alloc (Nat.le_refl _) _
 have kb:Blk X b [.pointer (some ⟨s,0,none⟩)] 233:=by rw [← hX,← hbe];exact Blk.new w _ _
 have hbs:¬ b=s:=by have:=h.blk.lt;omega
 have hx:=(Sx.start h).later hbX;have c0:=kb.cell 0 _ rfl;have d0:=hx.st.cell 0 _ (qb _ _ 0 _ rfl);have c2:=hx.st.cell 2 _ (qb _ _ 2 _ rfl);have c3:=hx.st.cell 3 _ (qb _ _ 3 _ rfl);have c5:=hx.st.cell 5 _ (qb _ _ 5 _ rfl);have c6:=hx.st.cell 6 _ (qb _ _ 6 _ rfl);have c8:=hx.st.cell 8 _ (qb _ _ 8 _ rfl);have f2:=hx.st.free 2;have f3:=hx.st.free 3;have f5:=hx.st.free 5;have f6:=hx.st.free 6;have f8:=hx.st.free 8
 have v0:=hx.st.cell (9 + 0) _ (qb _ _ _ _ (Qt hx.st.ok _ 0 (by omega)))
 have v1:=hx.st.cell (9 + 1) _ (qb _ _ _ _ (Qt hx.st.ok _ 1 (by omega)))
 have v2:=hx.st.cell (9 + 2) _ (qb _ _ _ _ (Qt hx.st.ok _ 2 (by omega)))
 have v3:=hx.st.cell (9 + 3) _ (qb _ _ _ _ (Qt hx.st.ok _ 3 (by omega)))
 have v4:=hx.st.cell (9 + 4) _ (qb _ _ _ _ (Qt hx.st.ok _ 4 (by omega)))
 have v5:=hx.st.cell (9 + 5) _ (qb _ _ _ _ (Qt hx.st.ok _ 5 (by omega)))
 have v6:=hx.st.cell (9 + 6) _ (qb _ _ _ _ (Qt hx.st.ok _ 6 (by omega)))
 have g0:=hx.st.free 9;have g1:=hx.st.free 10;have g2:=hx.st.free 11;have g3:=hx.st.free 12;have g4:=hx.st.free 13;have g5:=hx.st.free 14;have g6:=hx.st.free 15
 have hwT:IntKind.u64.wrap ((n.term:Int) + 1)=(((n.term + 1) % 18446744073709551616:Nat):Int):=by simp [IntKind.wrap,IntKind.bits,IntKind.signed]
 obtain ⟨T1,hT1⟩:∃ x,(n.term + 1) % 18446744073709551616=x:=⟨_,rfl⟩;rw [hT1] at hwT;rw [hK] at d0;have HT1:=Uq hT1;clear hT1;have hok:=hx.st.ok;have q1:=(((hx.store 8 (.int .i64 0) (n':={ n with idle:=0 }) rfl rfl (hok.of rfl rfl rfl)).store 5 (.int .i64 1) (n':={ n with idle:=0,role:=1 }) rfl rfl (hok.of rfl rfl rfl)).store 6 (.int .i64 (-1)) (n':={ n with idle:=0,role:=1,lead:=-1 }) rfl rfl (hok.of rfl rfl rfl));have q2:=(q1.store 2 (.int .u64 (T1:Int)) (n':={ n with idle:=0,role:=1,lead:=-1,term:=T1 }) rfl rfl (hok.of rfl rfl rfl)).store 3 (.int .i64 (K:Int)) (n':={ n with idle:=0,role:=1,lead:=-1,term:=T1,vote:=(K:Int) }) rfl rfl (hok.of rfl rfl rfl)
 have q3:=q2.store (9 + 0) (.bool false) (QG q2.st.ok _ _ 0 (by omega) false) rfl (q2.st.ok.setV 0 false)
 have q4:=q3.store (9 + 1) (.bool false) (QG q3.st.ok _ _ 1 (by omega) false) rfl (q3.st.ok.setV 1 false)
 have q5:=q4.store (9 + 2) (.bool false) (QG q4.st.ok _ _ 2 (by omega) false) rfl (q4.st.ok.setV 2 false)
 have q6:=q5.store (9 + 3) (.bool false) (QG q5.st.ok _ _ 3 (by omega) false) rfl (q5.st.ok.setV 3 false)
 have q7:=q6.store (9 + 4) (.bool false) (QG q6.st.ok _ _ 4 (by omega) false) rfl (q6.st.ok.setV 4 false)
 have q8:=q7.store (9 + 5) (.bool false) (QG q7.st.ok _ _ 5 (by omega) false) rfl (q7.st.ok.setV 5 false)
 have q9:=(q8.store (9 + 6) (.bool false) (QG q8.st.ok _ _ 6 (by omega) false) rfl (q8.st.ok.setV 6 false)).drew.drew
 simp only [Nat.reduceAdd] at q9;rw [seven _ _ hok.v7] at q9
 have hstood:rf.stood n={ n with idle:=0,role:=1,lead:=-1,term:=T1,vote:=(K:Int),votes:=List.replicate 7 false }:=by unfold rf.stood;rw [HT1.out,hK]
 rw [← hstood] at q9;have kq:=((((((((((((kb.other ⟨s,8,none⟩ (.int .i64 0) hbs).other ⟨s,5,none⟩ (.int .i64 1) hbs).other ⟨s,6,none⟩ (.int .i64 (-1)) hbs).other ⟨s,2,none⟩ (.int .u64 (T1:Int)) hbs).other ⟨s,3,none⟩ (.int .i64 (K:Int)) hbs).other ⟨s,9,none⟩ (.bool false) hbs).other ⟨s,10,none⟩ (.bool false) hbs).other ⟨s,11,none⟩ (.bool false) hbs).other ⟨s,12,none⟩ (.bool false) hbs).other ⟨s,13,none⟩ (.bool false) hbs).other ⟨s,14,none⟩ (.bool false) hbs).other ⟨s,15,none⟩ (.bool false) hbs).drew.drew;have HQ9:=Uq q9;have HKQ:=Uq kq;have HSTD:=Uq hstood;have HL:=Uq hL;have HKK:=Uq hK
 have HLog:Hid (L≤9990):=Uq (by omega)
 have HML:=Uq hl;have HM:=Uq hm0;have HI7:=Uq hid7;clear q1 q2 q3 q4 q5 q6 q7 q8 q9 kq hstood hL hlog hl hm0 hid hid7 hok;have HX:=Uq hX;clear hX hx kb h hbX
 go_enter Tryz.func263,Tryz.ntmps263
 go_upto_region 1 with fail;rw [HX.out];go_wp2_with fail;go_region;go_wp2_with fail;go_region;go_wp2_with fail;obtain ⟨Y,hY⟩:∃ Y,((((((((((((X.setCell ⟨s,8,none⟩ (.int .i64 0)).setCell ⟨s,5,none⟩ (.int .i64 1)).setCell ⟨s,6,none⟩ (.int .i64 (-1))).setCell ⟨s,2,none⟩ (.int .u64 (T1:Int))).setCell ⟨s,3,none⟩ (.int .i64 (K:Int))).setCell ⟨s,9,none⟩ (.bool false)).setCell ⟨s,10,none⟩ (.bool false)).setCell ⟨s,11,none⟩ (.bool false)).setCell ⟨s,12,none⟩ (.bool false)).setCell ⟨s,13,none⟩ (.bool false)).setCell ⟨s,14,none⟩ (.bool false)).setCell ⟨s,15,none⟩ (.bool false)).drew.drew=Y:=⟨_,rfl⟩
 have hq:Sx base w Y s (rf.stood n) (.slice A L c) (.slice B ms.length d) ms:=by rw [← hY];exact HQ9.out
 have hkq:Blk Y b [.pointer (some ⟨s,0,none⟩)] 233:=by rw [← hY];exact HKQ.out
 rw [hY];clear HQ9 HKQ hY c2 c3 c5 c6 c8 f2 f3 f5 f6 f8 v0 v1 v2 v3 v4 v5 v6 g0 g1 g2 g3 g4 g5 g6 c0 d0;have HQ:=Uq hq;have HKQ:=Uq hkq;clear hq hkq;obtain ⟨m,hm⟩:∃ m,rf.stood n=m:=⟨_,rfl⟩
 have hmid:m.id=(K:Int):=by rw [← hm,HSTD.out];exact HKK.out
 have hmm:m.many=n.many:=by rw [← hm,HSTD.out]
 have hml:m.log.length=L:=by rw [← hm,HSTD.out];exact HL.out
 have hK7:K < 7:=by have:=HI7.out;omega
 obtain ⟨v,ov,hv⟩:∃ v ov,rf.voted m (K:Int)=(v,ov):=⟨_,_,rfl⟩
 have hvid:v.id=(K:Int):=by have:=Vg m K hK7;rw [hv,hmid] at this;exact this
 have hvm:v.many=n.many:=by have:=j9 m K hK7;rw [hv,hmm] at this;exact this
 have hvl:v.log.length≤L + 1:=by have:=Y7 m K hK7;rw [hv,hml] at this;exact this
 have hvo:ov.length≤7:=by have:=ZU m K hK7;rw [hv] at this;exact this
 have hstand:rf.stand n=if v.role=2 then (v,ov) else (v,ov ++ rf.asks v):=by unfold rf.stand;rw [hm,HKK.out,hv]
 have hq:=HQ.out.drew;rw [hm,← hml] at hq
 have hc:=Y8 K hq.st hK7 (by rw [hmm];exact HM.out) (by rw [hmid];omega) (by rw [hmid];omega) (by have:=HML.out;omega) (by rw [hml];exact HLog.out)
 rw [hv] at hc
 have hS0:Y.drew.cell? ⟨b,0,none⟩=some (.pointer (some ⟨s,0,none⟩))∧Y.drew.cell? ⟨s,0,none⟩=some (.int .i64 (K:Int)):=⟨HKQ.out.drew.cell 0 _ rfl,by have:=hq.st.cell 0 _ (qb _ _ 0 _ rfl);rw [hmid] at this;exact this⟩
 have HC:=Uq hc;have HSD:=Uq hstand;have HQ2:=Uq hq;have HVI:=Uq hvid;have HVM:=Uq hvm;have HVL:=Uq hvl;have HVO:=Uq hvo;have HK7:=Uq hK7;clear hq hc hstand hv hvid hvm hvl hvo hm hmid hmm hml HQ HSTD hK7 hK hwT
 go_region_held3 (λw'=>w'.cell? ⟨b,0,none⟩=some (.pointer (some ⟨s,0,none⟩))∧w'.cell? ⟨s,0,none⟩=some (.int .i64 (K:Int)))
  (first | exact hS9 | exact hS0)
  (first | (go_at_call 370;refine HC.out.mono ?_;rintro e w9 ⟨rfl,hst⟩;have hkb9:Blk w9 b [.pointer (some ⟨s,0,none⟩)] 233:=(by obtain ⟨_,_,_,_,_,h2,_⟩:=hst;exact h2.blk HKQ.out.drew hbs (by decide));have hS9:w9.cell? ⟨b,0,none⟩=some (.pointer (some ⟨s,0,none⟩))∧w9.cell? ⟨s,0,none⟩=some (.int .i64 (K:Int)):=(by obtain ⟨_,_,_,_,h1,_,_⟩:=hst;have h3:=h1.cell 0 _ (qb _ _ 0 _ rfl);rw [HVI.out] at h3;exact ⟨hkb9.cell 0 _ rfl,h3⟩)))
 obtain ⟨A9,c9,B9,d9,hx9⟩:=HQ2.out.call hst;have b0:=hkb9.cell 0 _ rfl;have c5:=hx9.st.cell 5 _ (qb _ _ 5 _ rfl);have c2:=hx9.st.cell 2 _ (qb _ _ 2 _ rfl);have c3:=hx9.st.cell 3 _ (qb _ _ 3 _ rfl);have c4:=hx9.st.cell 4 _ (qb _ _ 4 _ rfl);have HX9:=Uq hx9;have HK9:=Uq hkb9;clear hx9 hkb9 hS9 hS0 hst
 by_cases hr:v.role=2
 ·have hrr:(v.role == 2)=true:=by rw [hr];rfl
  have hsd:=HSD.out;rw [if_pos hr] at hsd;have HSD2:=Uq hsd;clear hsd hr;go_wp2;refine bodyPost_ret (results_none rfl _ _ _) rfl ?_;rw [HSD2.out];exact ⟨rfl,HX9.out.to⟩
 ·have hrr:(v.role == 2)=false:=by rw [beq_eq_false_iff_ne];exact hr
  have hsd:=HSD.out;rw [if_neg hr] at hsd;have HSD2:=Uq hsd;clear hsd hr;go_wp2_with fail
  refine (Q0 v.term v.vote _ v.log _ HX9.out.st.ents.1 (by have:=HVL.out;have:=HLog.out;omega)).mono ?_
  rintro e w10 ⟨rfl,hb10⟩;have hx10:=HX9.out.later hb10;have kb10:=HK9.out.below hb10;clear b0 c5 c2 c3 c4;have b0:=kb10.cell 0 _ rfl;have HX10:=Uq hx10;have HK10:=Uq kb10;obtain ⟨W2,hW2⟩:∃ W2,(w10.alloc (.cells #[.int .u64 (v.log.length:Int)] 30)).alloc (.cells #[.int .u64 (rl.lastTerm v.log:Int)] 30)=W2:=⟨_,rfl⟩;obtain ⟨g2,hg2⟩:∃ g2,w10.heap.size=g2:=⟨_,rfl⟩
  have k2:Blk W2 g2 [.int .u64 (v.log.length:Int)] 30:=by rw [← hW2,← hg2];exact (Blk.new w10 [.int .u64 (v.log.length:Int)] _).alloc _
  have k3:Blk W2 (g2 + 1) [.int .u64 (rl.lastTerm v.log:Int)] 30:=by
   rw [← hW2,← hg2];have h:=Blk.new (w10.alloc (.cells #[.int .u64 (v.log.length:Int)] 30)) [.int .u64 (rl.lastTerm v.log:Int)] 30;rw [World.size_alloc] at h;exact h
  have hb12:Below w10.heap.size w10 W2:=by rw [← hW2];exact ((Below.refl _ w10).alloc (Nat.le_refl _) _).alloc (by simp) _
  have hx12:=hx10.later hb12;have kb12:=kb10.below hb12
  have hsg:g2 ≠ s:=by have:=hx10.st.blk.lt;omega
  have hsg3:g2 + 1 ≠ s:=by have:=hx10.st.blk.lt;omega
  have b1:=kb12.cell 0 _ rfl;have HX12:=Uq hx12;have HK12:=Uq kb12;have HK2:=Uq k2;have HK3:=Uq k3;have HW2:=Uq hW2;have HS2:=Uq hsg;have HS3:=Uq hsg3;clear hx10 kb10 hb10 hx12 kb12 k2 k3 hW2 hb12 hsg hsg3;go_upto_region 8 with fail;rw [HW2.out];go_wp2_with fail
  refine (Z2 371 #[] #[.pointer (some ⟨b,0,none⟩),.pointer (some ⟨g2,0,none⟩),.pointer (some ⟨g2 + 1,0,none⟩)] (λj=>rf.stamp v (KH j v.log.length (rl.lastTerm v.log))) HX12.out.st (by rw [HVM.out];exact HM.out) (by rw [List.length_append];have:=HML.out;have:=HVO.out;omega) (qm Tryz.func371 (by kernel_rfl) rfl) (λw'=>Blk w' b [.pointer (some ⟨s,0,none⟩)] 233∧Blk w' g2 [.int .u64 (v.log.length:Int)] 30∧Blk w' (g2 + 1) [.int .u64 (rl.lastTerm v.log:Int)] 30) ⟨HK12.out,HK2.out,HK3.out⟩ ?_).mono ?_
  ·rintro j A B c d ms' w1 hj hl ⟨k1,k2,k3⟩ hst
   refine (Jt j b g2 (g2 + 1) _ _ hst (k1.cell 0 _ rfl) (k2.cell 0 _ rfl) (k3.cell 0 _ rfl) (by omega)).mono ?_
   rintro e w2 ⟨rfl,h2⟩;refine ⟨rfl,h2,?_⟩;obtain ⟨_,_,_,_,_,hk,_⟩:=h2
   exact ⟨hk.blk k1 hbs (by decide),hk.blk k2 HS2.out (by decide),hk.blk k3 HS3.out (by decide)⟩
  rintro e w5 ⟨rfl,hst,_⟩;obtain ⟨A6,c6,B6,d6,h6⟩:=HX12.out.call hst;have H6:=Uq h6;clear h6 hst;go_wp2;go_end0;rw [HSD2.out];refine ⟨rfl,?_⟩;rw [← List.append_assoc];exact H6.out.to
end Go.Proofs.YtppibhieabideaaGreatDoor
