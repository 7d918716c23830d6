/- A part of the walk of the program, and of its plain law. -/
import Derived.Test.YtppibhieabideaaGreatDoorGt13
namespace Go.Proofs.YtppibhieabideaaGreatDoor
open Go Go.RowKit Go.Deep
set_option maxRecDepth 100000
def qi:rf.Node:=⟨0,0,0,0,[],0,0,0,0,List.replicate 7 false,List.replicate 7 0,List.replicate 7 0⟩
def nilV:Value:=.slice none 0 0
theorem Zt {n:rf.Node} (h:NOk n) (ev:Value):Tryz.prog.built 235 [(0,.agg (ndC n ev).toArray)]=some (stC n ev nilV).toArray:=by
 obtain ⟨h1,h2,h3,_,_⟩:=h;obtain ⟨a,b,c,d,e,f,g,i,j,v,x,m⟩:=n;dsimp only at h1 h2 h3
 rcases v with _ | ⟨v0,_ | ⟨v1,_ | ⟨v2,_ | ⟨v3,_ | ⟨v4,_ | ⟨v5,_ | ⟨v6,_ | ⟨v7,v⟩⟩⟩⟩⟩⟩⟩⟩ <;> simp at h1
 rcases x with _ | ⟨x0,_ | ⟨x1,_ | ⟨x2,_ | ⟨x3,_ | ⟨x4,_ | ⟨x5,_ | ⟨x6,_ | ⟨x7,x⟩⟩⟩⟩⟩⟩⟩⟩ <;> simp at h2
 rcases m with _ | ⟨m0,_ | ⟨m1,_ | ⟨m2,_ | ⟨m3,_ | ⟨m4,_ | ⟨m5,_ | ⟨m6,_ | ⟨m7,m⟩⟩⟩⟩⟩⟩⟩⟩ <;> simp at h3
 kernel_rfl
theorem Qz {P:Program} {ops:Array Oper} {rest:List Oper} {o:Oper} {a:Act} {w:World} {Q:Exit→Act→World→Prop} (hg:o.guard=none) (t:TypeId) (i:Nat) (x:Operand) (ho:o.op=.build t #[(i,x)]) (v:Value) (hx:a.eval x=v) (cells:Array Value) (hb:P.built t [(i,v)]=some cells)
  (h:wpList P ops Q rest (a.put o.dst (.agg cells)) w):wpList P ops Q (o :: rest) a w:=by
 refine wpList_build hg t _ ho ?_ ?_
 ·simp [hx,hb]
 ·simpa [hx,hb] using h
theorem Sx.fresh {w X:World} {n:rf.Node} {A:Option Addr} {c:Nat} (hb:Below w.heap.size w X) (hE:EntsB w.heap.size w (.slice A n.log.length c) n.log) (ok:NOk n) :
  Sx w.heap.size X (X.alloc (.cells (stC n (.slice A n.log.length c) nilV).toArray 235)) X.heap.size n (.slice A n.log.length c) (.slice none ([]:List rf.Msg).length 0) []:=by
 have hb2:Below X.heap.size X (X.alloc (.cells (stC n (.slice A n.log.length c) nilV).toArray 235)):=(Below.refl _ X).alloc (Nat.le_refl _) _;exact ⟨⟨hb.size,Blk.new X _ _,(hE.later hb).later hb2,Sent.nil _ _,ok⟩,Keeps.below hb2,hb2.mono hb.size⟩
def Out (w:World) (n:rf.Node) (ms:List rf.Msg) (w':World) (nv sv:Value):Prop:=
 ∃ A c B d,nv=ndV n (.slice A n.log.length c)∧sv=.slice B ms.length d∧EntsB w.heap.size w' (.slice A n.log.length c) n.log∧Sent w.heap.size w' (.slice B ms.length d) ms∧NOk n∧Below w.heap.size w w'
theorem qL {w:World} {s:Nat} {n:rf.Node} {ev sv:Value} (h:Blk w s (stC n ev sv) 235):w.rangeAt s 0 (ndC n ev):=λj v hv=>by
 rw [Nat.zero_add];exact h.cell j v (qb ev sv j v hv)
theorem EntsB.row {base g:Nat} {w:World} {ev:Value} {ls:List rl.Ent} {vs old:List Value} (h:EntsB base w ev ls) (hg:base≤g) (hb:Blk w g old 100):EntsB base (w.setRow g vs.toArray) ev ls:=by
 obtain ⟨⟨A,c,rfl,h1,h2,h3⟩,h4⟩:=h
 have hsame:∀ b o n c',(Value.slice A ls.length c)=.slice (some ⟨b,o,none⟩) n c'→0 < ls.length→(w.setRow g vs.toArray).heap[b]?=w.heap[b]?:=by
  intro b o n c' e h0;obtain ⟨_,hh⟩:=h4 b o n c' e h0
  refine qz w g _ b (λe2=>?_)
  subst e2
  rcases hh with h5 | ⟨cur,h5⟩
  ·omega
  ·unfold Blk at hb;rw [hb] at h5
   injection h5 with h5
   injection h5 with _ h6 _
   exact absurd h6 (by decide)
 refine ⟨⟨A,c,rfl,h1,h2,λh0=>?_⟩,λb o n c' e h0=>?_⟩
 ·obtain ⟨b,o,rfl,hA⟩:=h3 h0;have e:=hsame b o _ _ rfl h0
  refine ⟨b,o,rfl,λk hk=>?_⟩
  rw [World.cell?_of_block (w:=w) (w':=w.setRow g vs.toArray) (a:=⟨b,o + k * 2,none⟩) e,World.cell?_of_block (w:=w) (w':=w.setRow g vs.toArray) (a:=⟨b,o + k * 2 + 1,none⟩) e];exact hA k hk
 ·have e2:=hsame b o n c' e h0;obtain ⟨hlt,hh⟩:=h4 b o n c' e h0
  exact ⟨by simpa [World.setRow] using hlt,by rw [e2];exact hh⟩
theorem Sent.row {base g:Nat} {w:World} {sv:Value} {ms:List rf.Msg} {vs old:List Value} (h:Sent base w sv ms) (hg:base≤g) (hb:Blk w g old 100):Sent base (w.setRow g vs.toArray) sv ms:=by
 obtain ⟨evs,h1,h2,h3⟩:=h
 refine ⟨evs,h1,⟨h2.1,?_⟩,λp hp=>(h3 p hp).row hg hb⟩
 rcases h2.2 with h4 | ⟨k,cap,cur,rfl,hk,hh,hr⟩
 ·exact .inl h4
 ·refine .inr ⟨k,cap,cur,rfl,hk,(qz w g _ k (λe=>?_)).trans hh,hr⟩
  subst e;unfold Blk at hb;rw [hb] at hh
  injection hh with hh
  injection hh with _ h6 _
  exact absurd h6 (by decide)
theorem Sx.out {w w0 W:World} {s br:Nat} {n:rf.Node} {A B:Option Addr} {c d:Nat} {ms:List rf.Msg} {old:List Value} (h:Sx w.heap.size w0 W s n (.slice A n.log.length c) (.slice B ms.length d) ms) (hbr:Blk W br old 100) (hb:w.heap.size≤br) (hw:Below w.heap.size w w0) :
  Blk (W.setRow br (ndC n (.slice A n.log.length c)).toArray) br (ndC n (.slice A n.log.length c)) 100∧Out w n ms (W.setRow br (ndC n (.slice A n.log.length c)).toArray) (ndV n (.slice A n.log.length c)) (.slice B ms.length d):=
 ⟨hbr.row _,A,c,B,d,rfl,rfl,h.st.ents.row hb hbr,h.st.sent.row hb hbr,h.st.ok,(hw.trans h.below).trans (qk W br _ hb)⟩
set_option maxHeartbeats 8000000 in
theorem Vp (n:rf.Node) (A:Option Addr) (c:Nat) (w:World) (hE:EntsB w.heap.size w (.slice A n.log.length c) n.log) (ok:NOk n) (hm0:0≤n.many) (hid:0≤n.id) (hid7:n.id < 7) (hi0:0≤n.idle) (hi1:n.idle≤1000000) (hlog:n.log.length≤9990) :
  Calls Tryz.prog 148 #[ndV n (.slice A n.log.length c)] w λe w'=>∃ nv sv,e=.returned (.tuple #[nv,sv])∧Out w (rf.tick n).1 (rf.tick n).2 w' nv sv:=by
 obtain ⟨L,hL⟩:∃ L,n.log.length=L:=⟨_,rfl⟩;obtain ⟨X,bn,hX,hbn,hbX,kb⟩:=qp w (ndC n (.slice A L c)) 100;obtain ⟨Y,br,hY,hbr,hbY,kr⟩:=qp X (ndC qi nilV) 100
 obtain rfl:br=bn + 1:=by rw [← hbr,← hX,← hbn];simp
 have hbXY:=hbX.trans (hbY.mono hbX.size);have kbY:=kb.below hbY;obtain ⟨Z,s,hZ,hs,hbZ,ks⟩:=qp Y (stC n (.slice A L c) nilV) 235
 have hx:Sx w.heap.size Y Z s n (.slice A L c) (.slice none ([]:List rf.Msg).length 0) []:=by
  have h:=Sx.fresh hbXY hE ok;rw [hL,hZ,hs] at h;exact h
 have kbZ:=kbY.below hbZ;have krZ:=kr.below hbZ
 have hbs:¬ bn=s:=by have:=kbY.lt;omega
 have hrs:¬ bn + 1=s:=by have:=kr.lt;omega
 have hsb:¬ s=bn:=λe=>hbs e.symm
 have hbase:w.heap.size≤bn + 1:=by rw [← hbr];exact hbX.size
 have hbt:=Zt ok (.slice A L c);have HX:=Uq hX;have HY:Hid (X.alloc (.cells #[.int .i64 0,.int .i64 0,.int .u64 0,.int .i64 0,.slice none 0 0,.int .i64 0,.int .i64 0,.int .u64 0,.int .i64 0,.bool false,.bool false,.bool false,.bool false,.bool false,.bool false,.bool false,.int .u64 0,.int .u64 0,.int .u64 0,.int .u64 0,.int .u64 0,.int .u64 0,.int .u64 0,.int .u64 0,.int .u64 0,.int .u64 0,.int .u64 0,.int .u64 0,.int .u64 0,.int .u64 0] 100)=Y):=Uq hY;have HZ:=Uq hZ;have HSX:=Uq hx;have HKB:=Uq kbZ;have HKR:=Uq krZ;have HKBY:=Uq kbY;have HBT:=Uq hbt;have HXY:=Uq hbXY;have HBASE:=Uq hbase;have HL:=Uq hL;have HLog:=Uq hlog;have HM0:=Uq hm0;have HID:=Uq hid;have HID7:=Uq hid7;have HOK:=Uq ok
 have hiw:IntKind.i64.wrap (n.idle + 1)=n.idle + 1:=by rw [IntKind.wrap_i64];omega
 have HNS:Hid ((ndC n (.slice A L c)).toArray.size=30):=Uq (by rw [List.size_toArray,qe ok])
 rw [hL];clear hX hY hZ hx kbZ krZ kbY kb kr ks hbt hbXY hbX hbY hbZ hbase hL hlog hm0 hid hid7 ok hE;unfold ndV
 go_enter Tryz.func148,Tryz.ntmps148
 go_upto_region 1 with fail;rw [HX.out,HY.out]
 go_upto_region 2 with (first | (refine wpList_load_row rfl 100 _ rfl bn rfl _ _ _ _ HKBY.out Tryz.underlying100 rfl (by rw [qc,HNS.out]) ?_) | (refine Qz rfl 235 0 (.tmp 5) rfl _ rfl _ HBT.out ?_))
 rw [HZ.out];have c8:=HSX.out.st.cell 8 _ (qb _ _ 8 _ rfl);have c5:=HSX.out.st.cell 5 _ (qb _ _ 5 _ rfl);have f8:=HSX.out.st.free 8;have b5:=HKB.out.cell 5 _ rfl;have h1:=HSX.out.store 8 (.int .i64 (n.idle + 1)) (n':={ n with idle:=n.idle + 1 }) rfl rfl (HOK.out.of rfl rfl rfl);have k1:=HKB.out.other ⟨s,8,none⟩ (.int .i64 (n.idle + 1)) hbs;have r1:=HKR.out.other ⟨s,8,none⟩ (.int .i64 (n.idle + 1)) hrs;have H1:=Uq h1;have HK1:=Uq k1;have HR1:=Uq r1;clear h1 k1 r1
 by_cases hr:n.role=2
 ·have fr:(n.role == 2)=true:=by rw [beq_iff_eq];exact hr
  have fr2:(n.role != 2)=false:=by rw [hr];rfl
  by_cases hi:3≤n.idle + 1
  ·have hd:decide ((3:Int)≤n.idle + 1)=true:=by simp;omega
   have ht:rf.tick n=({ n with idle:=0 },rf.puts { n with idle:=0 }):=by unfold rf.tick;rw [if_pos hr,if_pos hi]
   have HTK:=Uq ht;have h2:=H1.out.store 8 (.int .i64 0) (n':={ n with idle:=0 }) rfl rfl (HOK.out.of rfl rfl rfl);have r2:=HR1.out.other ⟨s,8,none⟩ (.int .i64 0) hrs;rw [← HL.out] at h2;have H2:=Uq h2;have HR2:=Uq r2;clear h2 r2 ht hr hi;go_wp2_with fail
   refine (Z2 261 #[.pointer (some ⟨s,0,none⟩)] #[] (λj=>rf.stamp { n with idle:=0 } (rf.putMsg { n with idle:=0 } j)) H2.out.st HM0.out (Nat.zero_le _) (qm Tryz.func261 (by kernel_rfl) rfl) (λ_=>True) trivial ?_).mono ?_
   ·intro j A B c d ms' w1 hj hl _ hst
    refine (ZN j hst hj (by omega) (by have:=HLog.out;exact (by omega:n.log.length≤10000))).mono ?_
    rintro e w2 ⟨rfl,h2⟩;exact ⟨rfl,h2,trivial⟩
   rintro e w5 ⟨rfl,hst,_⟩
   have r9:Blk w5 (bn + 1) (ndC qi nilV) 100:=by
    obtain ⟨_,_,_,_,_,hk,_⟩:=hst
    exact hk.blk HR2.out hrs (by decide)
   obtain ⟨A9,c9,B9,d9,h9⟩:=H2.out.call hst;rw [List.nil_append] at h9
   change Sx w.heap.size Y w5 s { n with idle:=0 } (.slice A9 n.log.length c9) (.slice B9 (rf.puts { n with idle:=0 }).length d9) (rf.puts { n with idle:=0 }) at h9
   rw [show n.log.length=({ n with idle:=0 }:rf.Node).log.length from rfl] at h9
   clear hst c8 c5 f8 b5;obtain ⟨n9,ms9,hT⟩:∃ n9 ms9,rf.tick n=(n9,ms9):=⟨_,_,rfl⟩;have e9:=HTK.out;rw [hT] at e9;have f9:=congrArg Prod.snd e9
   replace e9:=congrArg Prod.fst e9
   dsimp only at e9 f9;rw [← f9,← e9] at h9;have H9:=Uq h9;have HR9:=Uq r9;have HTT:=Uq hT;clear h9 r9 hT e9 f9 HTK;go_wp2_with fail;obtain ⟨W9,hW9⟩:∃ W9,w5=W9:=⟨_,rfl⟩;have hx9:=H9.out.drew;have hr9:=HR9.out.drew;rw [hW9] at hx9 hr9 ⊢;have hs9:=qe hx9.st.ok (.slice A9 n9.log.length c9);have ho9:=hx9.out hr9 HBASE.out HXY.out;have hS9:W9.drew.rangeAt s 0 (ndC n9 (.slice A9 n9.log.length c9))∧W9.drew.cell? ⟨s,30,none⟩=some (.slice B9 ms9.length d9):=⟨qL hx9.st.blk,hx9.st.cell 30 _ (qI hx9.st.ok _ _)⟩
   have hS8:(W9.drew.setRow (bn + 1) (ndC n9 (.slice A9 n9.log.length c9)).toArray).rangeAt s 0 (ndC n9 (.slice A9 n9.log.length c9))∧(W9.drew.setRow (bn + 1) (ndC n9 (.slice A9 n9.log.length c9)).toArray).cell? ⟨s,30,none⟩=some (.slice B9 ms9.length d9):=by
    have hb:Blk (W9.drew.setRow (bn + 1) (ndC n9 (.slice A9 n9.log.length c9)).toArray) s (stC n9 (.slice A9 n9.log.length c9) (.slice B9 ms9.length d9)) 235:=(qz _ _ _ s (λe=>hrs e.symm)).trans hx9.st.blk
    exact ⟨qL hb,hb.cell 30 _ (qI hx9.st.ok _ _)⟩
   have HSZ:Hid ((Tryz.prog.info? 100).map (·.size)=some (ndC n9 (.slice A9 n9.log.length c9)).length):=Uq (by rw [qc,hs9])
   have HSZ2:Hid ((Tryz.prog.info? 100).map (·.size)=some (ndC n9 (.slice A9 n9.log.length c9)).toArray.size):=Uq (by rw [qc,List.size_toArray,hs9])
   have HSZ3:Hid ((ndC qi nilV).toArray.size=(ndC n9 (.slice A9 n9.log.length c9)).toArray.size):=Uq (by rw [List.size_toArray,List.size_toArray,hs9];rfl)
   have HONE:Hid ((ndC n9 (.slice A9 n9.log.length c9)).toArray.all (·.oneCell')=true):=Uq (qy rfl)
   have HS2:=Uq hS8;have HBR:=Uq hr9;have HOUT1:=Uq ho9.1;have HOUT2:=Uq ho9.2;clear hx9 hr9 hs9 ho9 hS8 hW9
   refine wp_region_held_drew (S:=(λw'=>w'.rangeAt s 0 (ndC n9 (.slice A9 n9.log.length c9))∧w'.cell? ⟨s,30,none⟩=some (.slice B9 ms9.length d9))) (by kernel_rfl) hS9 (λhHeld=>?_)
   clear hS9
   (refine tk 0 ?_ ?_ ?_;rotate_left;focus (intro w hSw;(try dsimp only at hSw);go_simp;(try with_reducible rfl);done))
   (try simp only [Act.put,Ur,Us,Ut])
   (refine tk 1 ?_ ?_ ?_;rotate_left;focus (intro w hSw;(try dsimp only at hSw);go_simp;(try with_reducible rfl);done))
   (try simp only [Act.put,Ur,Us,Ut])
   (refine tk 2 ?_ ?_ ?_;rotate_left;focus (intro w hSw;(try dsimp only at hSw);go_simp;(try with_reducible rfl);done))
   (try simp only [Act.put,Ur,Us,Ut])
   refine wpAnyH_take (i:=3) (qx rfl) (by kernel_rfl) (by kernel_rfl) (by kernel_rfl) (λ_ _ _ h=>h) (yieldsIf_load_mid (by rfl) _ _ rfl _ _ rfl _ _ (λ_ h=>h.1) Tryz.underlying100 rfl HSZ.out) (by assumption) ?_
   (try simp only [Act.put,Ur,Us,Ut])
   (refine tk 4 ?_ ?_ ?_;rotate_left;focus (intro w hSw;(try dsimp only at hSw);go_simp;(try with_reducible rfl);done))
   (try simp only [Act.put,Ur,Us,Ut])
   (refine tk 5 ?_ ?_ ?_;rotate_left;focus (intro w hSw;(try dsimp only at hSw);go_simp;(try with_reducible rfl);done))
   (try simp only [Act.put,Ur,Us,Ut])
   (refine tk 6 ?_ ?_ ?_;rotate_left;focus (intro w hSw;(try dsimp only at hSw);go_simp;(try with_reducible rfl);done))
   (try simp only [Act.put,Ur,Us,Ut])
   (refine tk 7 ?_ ?_ ?_;rotate_left;focus (intro w hSw;(try dsimp only at hSw);go_simp;(try with_reducible rfl);done))
   (try simp only [Act.put,Ur,Us,Ut])
   refine wpAnyH_ready (rs:=[8]) (by kernel_rfl) (by simp) ?_
   refine AllReadyH.cons (qx rfl) (λK hK=>?_) AllReadyH.nil
   rw [if_pos (by rfl)]
   refine wp_store_row 100 _ _ rfl _ _ rfl rfl _ _ HBR.out HSZ2.out HSZ3.out HONE.out ?_
   (try simp only [Act.put])
   refine hK.out _ _ HS2.out (λhHeld=>?_)
   clear hK K
   (try simp only [Act.put,Ur,Us,Ut])
   (refine tk 9 ?_ ?_ ?_;rotate_left;focus (intro w hSw;(try dsimp only at hSw);go_simp;(try with_reducible rfl);done))
   (try simp only [Act.put,Ur,Us,Ut])
   refine wpAnyH_done (by kernel_rfl) ?_ _
   go_wp2_with fail
   refine bodyPost_ret (qj rfl _ _ (bn + 1) _ _ (0,0) _ rfl HOUT1.out Tryz.underlying100 rfl (by rw [← HSZ2.out])) rfl ?_
   rw [HTT.out];exact ⟨_,_,rfl,HOUT2.out⟩
  ·have hd:decide ((3:Int)≤n.idle + 1)=false:=by simp;omega
   have ht:rf.tick n=({ n with idle:=n.idle + 1 },[]):=by unfold rf.tick;rw [if_pos hr,if_neg hi]
   have HTK:=Uq ht;clear ht hr hi;go_wp2_with fail;obtain ⟨W1,hW1⟩:∃ W1,Z.setCell ⟨s,8,none⟩ (.int .i64 (n.idle + 1))=W1:=⟨_,rfl⟩;rw [hW1] at H1 HK1 HR1 ⊢
   have HSZN:Hid ((Tryz.prog.info? 100).map (·.size)=some (ndC n (.slice A L c)).length):=Uq (by rw [qc,qe HOK.out])
   have MK:Hid (∀ w',Below W1.heap.size W1 w'→w'.cell? ⟨bn,5,none⟩=some (.int .i64 n.role)∧w'.cell? ⟨s,8,none⟩=some (.int .i64 (n.idle + 1))∧w'.rangeAt bn 0 (ndC n (.slice A L c))):=Uq (λw' h=>by
    have h1:=H1.out.later h;have k1:=HK1.out.below h
    exact ⟨k1.cell 5 _ rfl,h1.st.cell 8 _ (qb _ _ 8 _ rfl),λj v hv=>by rw [Nat.zero_add];exact k1.cell j v hv⟩)
   have hW6:Below W1.heap.size W1 W1.drew:=below_drewN (Below.refl _ W1) 1;have hW:=hW6
   refine wp_region_held_drew (S:=(λw'=>w'.cell? ⟨bn,5,none⟩=some (.int .i64 n.role)∧w'.cell? ⟨s,8,none⟩=some (.int .i64 (n.idle + 1))∧w'.rangeAt bn 0 (ndC n (.slice A L c)))) (by kernel_rfl) (MK.out _ hW) (λhHeld=>?_)
   first | (refine tk 0 ?_ ?_ ?_;rotate_left;focus (intro w hSw;(try dsimp only at hSw);go_simp;(try with_reducible rfl);done)) | (refine tku 0 ?_)
   (try simp only [Act.put,Ur,Us,Ut])
   first | (refine tk 1 ?_ ?_ ?_;rotate_left;focus (intro w hSw;(try dsimp only at hSw);go_simp;(try with_reducible rfl);done)) | (refine tku 1 ?_)
   (try simp only [Act.put,Ur,Us,Ut])
   first | (refine tk 2 ?_ ?_ ?_;rotate_left;focus (intro w hSw;(try dsimp only at hSw);go_simp;(try with_reducible rfl);done)) | (refine tku 2 ?_)
   (try simp only [Act.put,Ur,Us,Ut])
   first | (refine tk 3 ?_ ?_ ?_;rotate_left;focus (intro w hSw;(try dsimp only at hSw);go_simp;(try with_reducible rfl);done)) | (refine tku 3 ?_)
   (try simp only [Act.put,Ur,Us,Ut])
   first | (refine tk 4 ?_ ?_ ?_;rotate_left;focus (intro w hSw;(try dsimp only at hSw);go_simp;(try with_reducible rfl);done)) | (refine tku 4 ?_)
   (try simp only [Act.put,Ur,Us,Ut])
   first | (refine tk 5 ?_ ?_ ?_;rotate_left;focus (intro w hSw;(try dsimp only at hSw);go_simp;(try with_reducible rfl);done)) | (refine tku 5 ?_)
   (try simp only [Act.put,Ur,Us,Ut])
   first | (refine tk 6 ?_ ?_ ?_;rotate_left;focus (intro w hSw;(try dsimp only at hSw);go_simp;(try with_reducible rfl);done)) | (refine tku 6 ?_)
   (try simp only [Act.put,Ur,Us,Ut])
   first | (refine tk 7 ?_ ?_ ?_;rotate_left;focus (intro w hSw;(try dsimp only at hSw);go_simp;(try with_reducible rfl);done)) | (refine tku 7 ?_)
   (try simp only [Act.put,Ur,Us,Ut])
   first | (refine tk 8 ?_ ?_ ?_;rotate_left;focus (intro w hSw;(try dsimp only at hSw);go_simp;(try with_reducible rfl);done)) | (refine tku 8 ?_)
   (try simp only [Act.put,Ur,Us,Ut])
   first | (refine wpAnyH_take (i:=9) (qx rfl) (by kernel_rfl) (by kernel_rfl) (by kernel_rfl) (λ_ _ _ h=>h) (yieldsIf_load_mid (by rfl) _ _ rfl _ _ rfl _ _ (λ_ h=>h.2.2) Tryz.underlying100 rfl HSZN.out) (by assumption) ?_) | (refine tku 9 ?_)
   (try simp only [Act.put,Ur,Us,Ut])
   first | (refine wpAnyH_ready (rs:=[10]) (by kernel_rfl) (by simp) ?_;refine AllReadyH.cons (qx rfl) (λK hK=>?_) AllReadyH.nil;go_simp;go_at_call 262;refine (yZ n _ _ HID.out HID7.out).mono ?_;rintro e w6 ⟨rfl,hb⟩;have hW:=hW.trans (hb.mono hW.size);dsimp only;refine hK.out _ _ (MK.out _ hW) (λhHeld=>?_);clear hK K) | (refine tku 10 ?_)
   (try simp only [Act.put,Ur,Us,Ut])
   first | (refine tk 11 ?_ ?_ ?_;rotate_left;focus (intro w hSw;(try dsimp only at hSw);go_simp;(try with_reducible rfl);done)) | (refine tku 11 ?_)
   (try simp only [Act.put,Ur,Us,Ut])
   first | (refine tk 12 ?_ ?_ ?_;rotate_left;focus (intro w hSw;(try dsimp only at hSw);go_simp;(try with_reducible rfl);done)) | (refine tku 12 ?_)
   (try simp only [Act.put,Ur,Us,Ut])
   first | (refine tk 13 ?_ ?_ ?_;rotate_left;focus (intro w hSw;(try dsimp only at hSw);go_simp;(try with_reducible rfl);done)) | (refine tku 13 ?_)
   (try simp only [Act.put,Ur,Us,Ut])
   refine wpAnyH_done (by kernel_rfl) ?_ _
   have h9:=H1.out.later hW;have r9:=HR1.out.below hW;rw [← HL.out] at h9
   rw [show n.log.length=({ n with idle:=n.idle + 1 }:rf.Node).log.length from rfl] at h9
   clear c8 c5 f8 b5 hW hW6;obtain ⟨n9,ms9,hT⟩:∃ n9 ms9,rf.tick n=(n9,ms9):=⟨_,_,rfl⟩;have e9:=HTK.out;rw [hT] at e9;have f9:=congrArg Prod.snd e9
   replace e9:=congrArg Prod.fst e9
   dsimp only at e9 f9;rw [← f9,← e9] at h9;have H9:=Uq h9;have HR9:=Uq r9;have HTT:=Uq hT;clear h9 r9 hT e9 f9 HTK;go_wp2_with fail;obtain ⟨W9,hW9⟩:∃ W9,W1.drew=W9:=⟨_,rfl⟩;have hx9:=H9.out.drew;have hr9:=HR9.out.drew;rw [hW9] at hx9 hr9 ⊢;have hs9:=qe hx9.st.ok (.slice A n9.log.length c);have ho9:=hx9.out hr9 HBASE.out HXY.out;have hS9:W9.drew.rangeAt s 0 (ndC n9 (.slice A n9.log.length c))∧W9.drew.cell? ⟨s,30,none⟩=some (.slice none ms9.length 0):=⟨qL hx9.st.blk,hx9.st.cell 30 _ (qI hx9.st.ok _ _)⟩
   have hS8:(W9.drew.setRow (bn + 1) (ndC n9 (.slice A n9.log.length c)).toArray).rangeAt s 0 (ndC n9 (.slice A n9.log.length c))∧(W9.drew.setRow (bn + 1) (ndC n9 (.slice A n9.log.length c)).toArray).cell? ⟨s,30,none⟩=some (.slice none ms9.length 0):=by
    have hb:Blk (W9.drew.setRow (bn + 1) (ndC n9 (.slice A n9.log.length c)).toArray) s (stC n9 (.slice A n9.log.length c) (.slice none ms9.length 0)) 235:=(qz _ _ _ s (λe=>hrs e.symm)).trans hx9.st.blk
    exact ⟨qL hb,hb.cell 30 _ (qI hx9.st.ok _ _)⟩
   have HSZ:Hid ((Tryz.prog.info? 100).map (·.size)=some (ndC n9 (.slice A n9.log.length c)).length):=Uq (by rw [qc,hs9])
   have HSZ2:Hid ((Tryz.prog.info? 100).map (·.size)=some (ndC n9 (.slice A n9.log.length c)).toArray.size):=Uq (by rw [qc,List.size_toArray,hs9])
   have HSZ3:Hid ((ndC qi nilV).toArray.size=(ndC n9 (.slice A n9.log.length c)).toArray.size):=Uq (by rw [List.size_toArray,List.size_toArray,hs9];rfl)
   have HONE:Hid ((ndC n9 (.slice A n9.log.length c)).toArray.all (·.oneCell')=true):=Uq (qy rfl)
   have HS2:=Uq hS8;have HBR:=Uq hr9;have HOUT1:=Uq ho9.1;have HOUT2:=Uq ho9.2;clear hx9 hr9 hs9 ho9 hS8 hW9
   refine wp_region_held_drew (S:=(λw'=>w'.rangeAt s 0 (ndC n9 (.slice A n9.log.length c))∧w'.cell? ⟨s,30,none⟩=some (.slice none ms9.length 0))) (by kernel_rfl) hS9 (λhHeld=>?_)
   clear hS9
   (refine tk 0 ?_ ?_ ?_;rotate_left;focus (intro w hSw;(try dsimp only at hSw);go_simp;(try with_reducible rfl);done))
   (try simp only [Act.put,Ur,Us,Ut])
   (refine tk 1 ?_ ?_ ?_;rotate_left;focus (intro w hSw;(try dsimp only at hSw);go_simp;(try with_reducible rfl);done))
   (try simp only [Act.put,Ur,Us,Ut])
   (refine tk 2 ?_ ?_ ?_;rotate_left;focus (intro w hSw;(try dsimp only at hSw);go_simp;(try with_reducible rfl);done))
   (try simp only [Act.put,Ur,Us,Ut])
   refine wpAnyH_take (i:=3) (qx rfl) (by kernel_rfl) (by kernel_rfl) (by kernel_rfl) (λ_ _ _ h=>h) (yieldsIf_load_mid (by rfl) _ _ rfl _ _ rfl _ _ (λ_ h=>h.1) Tryz.underlying100 rfl HSZ.out) (by assumption) ?_
   (try simp only [Act.put,Ur,Us,Ut])
   (refine tk 4 ?_ ?_ ?_;rotate_left;focus (intro w hSw;(try dsimp only at hSw);go_simp;(try with_reducible rfl);done))
   (try simp only [Act.put,Ur,Us,Ut])
   (refine tk 5 ?_ ?_ ?_;rotate_left;focus (intro w hSw;(try dsimp only at hSw);go_simp;(try with_reducible rfl);done))
   (try simp only [Act.put,Ur,Us,Ut])
   (refine tk 6 ?_ ?_ ?_;rotate_left;focus (intro w hSw;(try dsimp only at hSw);go_simp;(try with_reducible rfl);done))
   (try simp only [Act.put,Ur,Us,Ut])
   (refine tk 7 ?_ ?_ ?_;rotate_left;focus (intro w hSw;(try dsimp only at hSw);go_simp;(try with_reducible rfl);done))
   (try simp only [Act.put,Ur,Us,Ut])
   refine wpAnyH_ready (rs:=[8]) (by kernel_rfl) (by simp) ?_
   refine AllReadyH.cons (qx rfl) (λK hK=>?_) AllReadyH.nil
   rw [if_pos (by rfl)]
   refine wp_store_row 100 _ _ rfl _ _ rfl rfl _ _ HBR.out HSZ2.out HSZ3.out HONE.out ?_
   (try simp only [Act.put])
   refine hK.out _ _ HS2.out (λhHeld=>?_)
   clear hK K
   (try simp only [Act.put,Ur,Us,Ut])
   (refine tk 9 ?_ ?_ ?_;rotate_left;focus (intro w hSw;(try dsimp only at hSw);go_simp;(try with_reducible rfl);done))
   (try simp only [Act.put,Ur,Us,Ut])
   refine wpAnyH_done (by kernel_rfl) ?_ _
   go_wp2_with fail
   refine bodyPost_ret (qj rfl _ _ (bn + 1) _ _ (0,0) _ rfl HOUT1.out Tryz.underlying100 rfl (by rw [← HSZ2.out])) rfl ?_
   rw [HTT.out];exact ⟨_,_,rfl,HOUT2.out⟩
 ·have fr:(n.role == 2)=false:=by rw [beq_eq_false_iff_ne];exact hr
  have fr2:(n.role != 2)=true:=by rw [bne_iff_ne];exact hr
  by_cases hi:10 + 3 * n.id≤n.idle + 1
  ·have hd:decide (10 + 3 * n.id≤n.idle + 1)=true:=by simp;omega
   have ht:rf.tick n=rf.stand { n with idle:=n.idle + 1 }:=by unfold rf.tick;rw [if_neg hr,if_pos hi]
   have HTK:=Uq ht;clear ht hr hi;go_wp2_with fail;obtain ⟨W1,hW1⟩:∃ W1,Z.setCell ⟨s,8,none⟩ (.int .i64 (n.idle + 1))=W1:=⟨_,rfl⟩;rw [hW1] at H1 HK1 HR1 ⊢
   have HSZN:Hid ((Tryz.prog.info? 100).map (·.size)=some (ndC n (.slice A L c)).length):=Uq (by rw [qc,qe HOK.out])
   have MK:Hid (∀ w',Below W1.heap.size W1 w'→w'.cell? ⟨bn,5,none⟩=some (.int .i64 n.role)∧w'.cell? ⟨s,8,none⟩=some (.int .i64 (n.idle + 1))∧w'.rangeAt bn 0 (ndC n (.slice A L c))):=Uq (λw' h=>by
    have h1:=H1.out.later h;have k1:=HK1.out.below h
    exact ⟨k1.cell 5 _ rfl,h1.st.cell 8 _ (qb _ _ 8 _ rfl),λj v hv=>by rw [Nat.zero_add];exact k1.cell j v hv⟩)
   have hW6:Below W1.heap.size W1 W1.drew:=below_drewN (Below.refl _ W1) 1;have hW:=hW6
   refine wp_region_held_drew (S:=(λw'=>w'.cell? ⟨bn,5,none⟩=some (.int .i64 n.role)∧w'.cell? ⟨s,8,none⟩=some (.int .i64 (n.idle + 1))∧w'.rangeAt bn 0 (ndC n (.slice A L c)))) (by kernel_rfl) (MK.out _ hW) (λhHeld=>?_)
   first | (refine tk 0 ?_ ?_ ?_;rotate_left;focus (intro w hSw;(try dsimp only at hSw);go_simp;(try with_reducible rfl);done)) | (refine tku 0 ?_)
   (try simp only [Act.put,Ur,Us,Ut])
   first | (refine tk 1 ?_ ?_ ?_;rotate_left;focus (intro w hSw;(try dsimp only at hSw);go_simp;(try with_reducible rfl);done)) | (refine tku 1 ?_)
   (try simp only [Act.put,Ur,Us,Ut])
   first | (refine tk 2 ?_ ?_ ?_;rotate_left;focus (intro w hSw;(try dsimp only at hSw);go_simp;(try with_reducible rfl);done)) | (refine tku 2 ?_)
   (try simp only [Act.put,Ur,Us,Ut])
   first | (refine tk 3 ?_ ?_ ?_;rotate_left;focus (intro w hSw;(try dsimp only at hSw);go_simp;(try with_reducible rfl);done)) | (refine tku 3 ?_)
   (try simp only [Act.put,Ur,Us,Ut])
   first | (refine tk 4 ?_ ?_ ?_;rotate_left;focus (intro w hSw;(try dsimp only at hSw);go_simp;(try with_reducible rfl);done)) | (refine tku 4 ?_)
   (try simp only [Act.put,Ur,Us,Ut])
   first | (refine tk 5 ?_ ?_ ?_;rotate_left;focus (intro w hSw;(try dsimp only at hSw);go_simp;(try with_reducible rfl);done)) | (refine tku 5 ?_)
   (try simp only [Act.put,Ur,Us,Ut])
   first | (refine tk 6 ?_ ?_ ?_;rotate_left;focus (intro w hSw;(try dsimp only at hSw);go_simp;(try with_reducible rfl);done)) | (refine tku 6 ?_)
   (try simp only [Act.put,Ur,Us,Ut])
   first | (refine tk 7 ?_ ?_ ?_;rotate_left;focus (intro w hSw;(try dsimp only at hSw);go_simp;(try with_reducible rfl);done)) | (refine tku 7 ?_)
   (try simp only [Act.put,Ur,Us,Ut])
   first | (refine tk 8 ?_ ?_ ?_;rotate_left;focus (intro w hSw;(try dsimp only at hSw);go_simp;(try with_reducible rfl);done)) | (refine tku 8 ?_)
   (try simp only [Act.put,Ur,Us,Ut])
   first | (refine wpAnyH_take (i:=9) (qx rfl) (by kernel_rfl) (by kernel_rfl) (by kernel_rfl) (λ_ _ _ h=>h) (yieldsIf_load_mid (by rfl) _ _ rfl _ _ rfl _ _ (λ_ h=>h.2.2) Tryz.underlying100 rfl HSZN.out) (by assumption) ?_) | (refine tku 9 ?_)
   (try simp only [Act.put,Ur,Us,Ut])
   first | (refine wpAnyH_ready (rs:=[10]) (by kernel_rfl) (by simp) ?_;refine AllReadyH.cons (qx rfl) (λK hK=>?_) AllReadyH.nil;go_simp;go_at_call 262;refine (yZ n _ _ HID.out HID7.out).mono ?_;rintro e w6 ⟨rfl,hb⟩;have hW:=hW.trans (hb.mono hW.size);dsimp only;refine hK.out _ _ (MK.out _ hW) (λhHeld=>?_);clear hK K) | (refine tku 10 ?_)
   (try simp only [Act.put,Ur,Us,Ut])
   first | (refine tk 11 ?_ ?_ ?_;rotate_left;focus (intro w hSw;(try dsimp only at hSw);go_simp;(try with_reducible rfl);done)) | (refine tku 11 ?_)
   (try simp only [Act.put,Ur,Us,Ut])
   first | (refine tk 12 ?_ ?_ ?_;rotate_left;focus (intro w hSw;(try dsimp only at hSw);go_simp;(try with_reducible rfl);done)) | (refine tku 12 ?_)
   (try simp only [Act.put,Ur,Us,Ut])
   first | (refine tk 13 ?_ ?_ ?_;rotate_left;focus (intro w hSw;(try dsimp only at hSw);go_simp;(try with_reducible rfl);done)) | (refine tku 13 ?_)
   (try simp only [Act.put,Ur,Us,Ut])
   refine wpAnyH_done (by kernel_rfl) ?_ _
   have h2:=H1.out.later hW;have r2:=HR1.out.below hW;rw [← HL.out] at h2;have H2:=Uq h2;have HR2:=Uq r2;clear h2 r2 hW hW6 c8 c5 f8 b5;go_wp2_with fail;refine (Xs (n:={ n with idle:=n.idle + 1 }) H2.out.st HM0.out HID.out HID7.out (Nat.zero_le _) HLog.out).mono ?_;rintro e w5 ⟨rfl,hst⟩
   have r9:Blk w5 (bn + 1) (ndC qi nilV) 100:=by
    obtain ⟨_,_,_,_,_,hk,_⟩:=hst
    exact hk.blk HR2.out hrs (by decide)
   obtain ⟨A9,c9,B9,d9,h9⟩:=H2.out.call hst;rw [List.nil_append] at h9;clear hst;obtain ⟨n9,ms9,hT⟩:∃ n9 ms9,rf.tick n=(n9,ms9):=⟨_,_,rfl⟩;have e9:=HTK.out;rw [hT] at e9;have f9:=congrArg Prod.snd e9
   replace e9:=congrArg Prod.fst e9
   dsimp only at e9 f9;rw [← f9,← e9] at h9;have H9:=Uq h9;have HR9:=Uq r9;have HTT:=Uq hT;clear h9 r9 hT e9 f9 HTK;go_wp2_with fail;obtain ⟨W9,hW9⟩:∃ W9,w5=W9:=⟨_,rfl⟩;have hx9:=H9.out.drew;have hr9:=HR9.out.drew;rw [hW9] at hx9 hr9 ⊢;have hs9:=qe hx9.st.ok (.slice A9 n9.log.length c9);have ho9:=hx9.out hr9 HBASE.out HXY.out;have hS9:W9.drew.rangeAt s 0 (ndC n9 (.slice A9 n9.log.length c9))∧W9.drew.cell? ⟨s,30,none⟩=some (.slice B9 ms9.length d9):=⟨qL hx9.st.blk,hx9.st.cell 30 _ (qI hx9.st.ok _ _)⟩
   have hS8:(W9.drew.setRow (bn + 1) (ndC n9 (.slice A9 n9.log.length c9)).toArray).rangeAt s 0 (ndC n9 (.slice A9 n9.log.length c9))∧(W9.drew.setRow (bn + 1) (ndC n9 (.slice A9 n9.log.length c9)).toArray).cell? ⟨s,30,none⟩=some (.slice B9 ms9.length d9):=by
    have hb:Blk (W9.drew.setRow (bn + 1) (ndC n9 (.slice A9 n9.log.length c9)).toArray) s (stC n9 (.slice A9 n9.log.length c9) (.slice B9 ms9.length d9)) 235:=(qz _ _ _ s (λe=>hrs e.symm)).trans hx9.st.blk
    exact ⟨qL hb,hb.cell 30 _ (qI hx9.st.ok _ _)⟩
   have HSZ:Hid ((Tryz.prog.info? 100).map (·.size)=some (ndC n9 (.slice A9 n9.log.length c9)).length):=Uq (by rw [qc,hs9])
   have HSZ2:Hid ((Tryz.prog.info? 100).map (·.size)=some (ndC n9 (.slice A9 n9.log.length c9)).toArray.size):=Uq (by rw [qc,List.size_toArray,hs9])
   have HSZ3:Hid ((ndC qi nilV).toArray.size=(ndC n9 (.slice A9 n9.log.length c9)).toArray.size):=Uq (by rw [List.size_toArray,List.size_toArray,hs9];rfl)
   have HONE:Hid ((ndC n9 (.slice A9 n9.log.length c9)).toArray.all (·.oneCell')=true):=Uq (qy rfl)
   have HS2:=Uq hS8;have HBR:=Uq hr9;have HOUT1:=Uq ho9.1;have HOUT2:=Uq ho9.2;clear hx9 hr9 hs9 ho9 hS8 hW9
   refine wp_region_held_drew (S:=(λw'=>w'.rangeAt s 0 (ndC n9 (.slice A9 n9.log.length c9))∧w'.cell? ⟨s,30,none⟩=some (.slice B9 ms9.length d9))) (by kernel_rfl) hS9 (λhHeld=>?_)
   clear hS9
   (refine tk 0 ?_ ?_ ?_;rotate_left;focus (intro w hSw;(try dsimp only at hSw);go_simp;(try with_reducible rfl);done))
   (try simp only [Act.put,Ur,Us,Ut])
   (refine tk 1 ?_ ?_ ?_;rotate_left;focus (intro w hSw;(try dsimp only at hSw);go_simp;(try with_reducible rfl);done))
   (try simp only [Act.put,Ur,Us,Ut])
   (refine tk 2 ?_ ?_ ?_;rotate_left;focus (intro w hSw;(try dsimp only at hSw);go_simp;(try with_reducible rfl);done))
   (try simp only [Act.put,Ur,Us,Ut])
   refine wpAnyH_take (i:=3) (qx rfl) (by kernel_rfl) (by kernel_rfl) (by kernel_rfl) (λ_ _ _ h=>h) (yieldsIf_load_mid (by rfl) _ _ rfl _ _ rfl _ _ (λ_ h=>h.1) Tryz.underlying100 rfl HSZ.out) (by assumption) ?_
   (try simp only [Act.put,Ur,Us,Ut])
   (refine tk 4 ?_ ?_ ?_;rotate_left;focus (intro w hSw;(try dsimp only at hSw);go_simp;(try with_reducible rfl);done))
   (try simp only [Act.put,Ur,Us,Ut])
   (refine tk 5 ?_ ?_ ?_;rotate_left;focus (intro w hSw;(try dsimp only at hSw);go_simp;(try with_reducible rfl);done))
   (try simp only [Act.put,Ur,Us,Ut])
   (refine tk 6 ?_ ?_ ?_;rotate_left;focus (intro w hSw;(try dsimp only at hSw);go_simp;(try with_reducible rfl);done))
   (try simp only [Act.put,Ur,Us,Ut])
   (refine tk 7 ?_ ?_ ?_;rotate_left;focus (intro w hSw;(try dsimp only at hSw);go_simp;(try with_reducible rfl);done))
   (try simp only [Act.put,Ur,Us,Ut])
   refine wpAnyH_ready (rs:=[8]) (by kernel_rfl) (by simp) ?_
   refine AllReadyH.cons (qx rfl) (λK hK=>?_) AllReadyH.nil
   rw [if_pos (by rfl)]
   refine wp_store_row 100 _ _ rfl _ _ rfl rfl _ _ HBR.out HSZ2.out HSZ3.out HONE.out ?_
   (try simp only [Act.put])
   refine hK.out _ _ HS2.out (λhHeld=>?_)
   clear hK K
   (try simp only [Act.put,Ur,Us,Ut])
   (refine tk 9 ?_ ?_ ?_;rotate_left;focus (intro w hSw;(try dsimp only at hSw);go_simp;(try with_reducible rfl);done))
   (try simp only [Act.put,Ur,Us,Ut])
   refine wpAnyH_done (by kernel_rfl) ?_ _
   go_wp2_with fail
   refine bodyPost_ret (qj rfl _ _ (bn + 1) _ _ (0,0) _ rfl HOUT1.out Tryz.underlying100 rfl (by rw [← HSZ2.out])) rfl ?_
   rw [HTT.out];exact ⟨_,_,rfl,HOUT2.out⟩
  ·have hd:decide (10 + 3 * n.id≤n.idle + 1)=false:=by simp;omega
   have ht:rf.tick n=({ n with idle:=n.idle + 1 },[]):=by unfold rf.tick;rw [if_neg hr,if_neg hi]
   have HTK:=Uq ht;clear ht hr hi;go_wp2_with fail;obtain ⟨W1,hW1⟩:∃ W1,Z.setCell ⟨s,8,none⟩ (.int .i64 (n.idle + 1))=W1:=⟨_,rfl⟩;rw [hW1] at H1 HK1 HR1 ⊢
   have HSZN:Hid ((Tryz.prog.info? 100).map (·.size)=some (ndC n (.slice A L c)).length):=Uq (by rw [qc,qe HOK.out])
   have MK:Hid (∀ w',Below W1.heap.size W1 w'→w'.cell? ⟨bn,5,none⟩=some (.int .i64 n.role)∧w'.cell? ⟨s,8,none⟩=some (.int .i64 (n.idle + 1))∧w'.rangeAt bn 0 (ndC n (.slice A L c))):=Uq (λw' h=>by
    have h1:=H1.out.later h;have k1:=HK1.out.below h
    exact ⟨k1.cell 5 _ rfl,h1.st.cell 8 _ (qb _ _ 8 _ rfl),λj v hv=>by rw [Nat.zero_add];exact k1.cell j v hv⟩)
   have hW6:Below W1.heap.size W1 W1.drew:=below_drewN (Below.refl _ W1) 1;have hW:=hW6
   refine wp_region_held_drew (S:=(λw'=>w'.cell? ⟨bn,5,none⟩=some (.int .i64 n.role)∧w'.cell? ⟨s,8,none⟩=some (.int .i64 (n.idle + 1))∧w'.rangeAt bn 0 (ndC n (.slice A L c)))) (by kernel_rfl) (MK.out _ hW) (λhHeld=>?_)
   first | (refine tk 0 ?_ ?_ ?_;rotate_left;focus (intro w hSw;(try dsimp only at hSw);go_simp;(try with_reducible rfl);done)) | (refine tku 0 ?_)
   (try simp only [Act.put,Ur,Us,Ut])
   first | (refine tk 1 ?_ ?_ ?_;rotate_left;focus (intro w hSw;(try dsimp only at hSw);go_simp;(try with_reducible rfl);done)) | (refine tku 1 ?_)
   (try simp only [Act.put,Ur,Us,Ut])
   first | (refine tk 2 ?_ ?_ ?_;rotate_left;focus (intro w hSw;(try dsimp only at hSw);go_simp;(try with_reducible rfl);done)) | (refine tku 2 ?_)
   (try simp only [Act.put,Ur,Us,Ut])
   first | (refine tk 3 ?_ ?_ ?_;rotate_left;focus (intro w hSw;(try dsimp only at hSw);go_simp;(try with_reducible rfl);done)) | (refine tku 3 ?_)
   (try simp only [Act.put,Ur,Us,Ut])
   first | (refine tk 4 ?_ ?_ ?_;rotate_left;focus (intro w hSw;(try dsimp only at hSw);go_simp;(try with_reducible rfl);done)) | (refine tku 4 ?_)
   (try simp only [Act.put,Ur,Us,Ut])
   first | (refine tk 5 ?_ ?_ ?_;rotate_left;focus (intro w hSw;(try dsimp only at hSw);go_simp;(try with_reducible rfl);done)) | (refine tku 5 ?_)
   (try simp only [Act.put,Ur,Us,Ut])
   first | (refine tk 6 ?_ ?_ ?_;rotate_left;focus (intro w hSw;(try dsimp only at hSw);go_simp;(try with_reducible rfl);done)) | (refine tku 6 ?_)
   (try simp only [Act.put,Ur,Us,Ut])
   first | (refine tk 7 ?_ ?_ ?_;rotate_left;focus (intro w hSw;(try dsimp only at hSw);go_simp;(try with_reducible rfl);done)) | (refine tku 7 ?_)
   (try simp only [Act.put,Ur,Us,Ut])
   first | (refine tk 8 ?_ ?_ ?_;rotate_left;focus (intro w hSw;(try dsimp only at hSw);go_simp;(try with_reducible rfl);done)) | (refine tku 8 ?_)
   (try simp only [Act.put,Ur,Us,Ut])
   first | (refine wpAnyH_take (i:=9) (qx rfl) (by kernel_rfl) (by kernel_rfl) (by kernel_rfl) (λ_ _ _ h=>h) (yieldsIf_load_mid (by rfl) _ _ rfl _ _ rfl _ _ (λ_ h=>h.2.2) Tryz.underlying100 rfl HSZN.out) (by assumption) ?_) | (refine tku 9 ?_)
   (try simp only [Act.put,Ur,Us,Ut])
   first | (refine wpAnyH_ready (rs:=[10]) (by kernel_rfl) (by simp) ?_;refine AllReadyH.cons (qx rfl) (λK hK=>?_) AllReadyH.nil;go_simp;go_at_call 262;refine (yZ n _ _ HID.out HID7.out).mono ?_;rintro e w6 ⟨rfl,hb⟩;have hW:=hW.trans (hb.mono hW.size);dsimp only;refine hK.out _ _ (MK.out _ hW) (λhHeld=>?_);clear hK K) | (refine tku 10 ?_)
   (try simp only [Act.put,Ur,Us,Ut])
   first | (refine tk 11 ?_ ?_ ?_;rotate_left;focus (intro w hSw;(try dsimp only at hSw);go_simp;(try with_reducible rfl);done)) | (refine tku 11 ?_)
   (try simp only [Act.put,Ur,Us,Ut])
   first | (refine tk 12 ?_ ?_ ?_;rotate_left;focus (intro w hSw;(try dsimp only at hSw);go_simp;(try with_reducible rfl);done)) | (refine tku 12 ?_)
   (try simp only [Act.put,Ur,Us,Ut])
   first | (refine tk 13 ?_ ?_ ?_;rotate_left;focus (intro w hSw;(try dsimp only at hSw);go_simp;(try with_reducible rfl);done)) | (refine tku 13 ?_)
   (try simp only [Act.put,Ur,Us,Ut])
   refine wpAnyH_done (by kernel_rfl) ?_ _
   have h9:=H1.out.later hW;have r9:=HR1.out.below hW;rw [← HL.out] at h9
   rw [show n.log.length=({ n with idle:=n.idle + 1 }:rf.Node).log.length from rfl] at h9
   clear c8 c5 f8 b5 hW hW6;obtain ⟨n9,ms9,hT⟩:∃ n9 ms9,rf.tick n=(n9,ms9):=⟨_,_,rfl⟩;have e9:=HTK.out;rw [hT] at e9;have f9:=congrArg Prod.snd e9
   replace e9:=congrArg Prod.fst e9
   dsimp only at e9 f9;rw [← f9,← e9] at h9;have H9:=Uq h9;have HR9:=Uq r9;have HTT:=Uq hT;clear h9 r9 hT e9 f9 HTK;go_wp2_with fail;obtain ⟨W9,hW9⟩:∃ W9,w6=W9:=⟨_,rfl⟩;have hx9:=H9.out.drew;have hr9:=HR9.out.drew;rw [hW9] at hx9 hr9 ⊢;have hs9:=qe hx9.st.ok (.slice A n9.log.length c);have ho9:=hx9.out hr9 HBASE.out HXY.out;have hS9:W9.drew.rangeAt s 0 (ndC n9 (.slice A n9.log.length c))∧W9.drew.cell? ⟨s,30,none⟩=some (.slice none ms9.length 0):=⟨qL hx9.st.blk,hx9.st.cell 30 _ (qI hx9.st.ok _ _)⟩
   have hS8:(W9.drew.setRow (bn + 1) (ndC n9 (.slice A n9.log.length c)).toArray).rangeAt s 0 (ndC n9 (.slice A n9.log.length c))∧(W9.drew.setRow (bn + 1) (ndC n9 (.slice A n9.log.length c)).toArray).cell? ⟨s,30,none⟩=some (.slice none ms9.length 0):=by
    have hb:Blk (W9.drew.setRow (bn + 1) (ndC n9 (.slice A n9.log.length c)).toArray) s (stC n9 (.slice A n9.log.length c) (.slice none ms9.length 0)) 235:=(qz _ _ _ s (λe=>hrs e.symm)).trans hx9.st.blk
    exact ⟨qL hb,hb.cell 30 _ (qI hx9.st.ok _ _)⟩
   have HSZ:Hid ((Tryz.prog.info? 100).map (·.size)=some (ndC n9 (.slice A n9.log.length c)).length):=Uq (by rw [qc,hs9])
   have HSZ2:Hid ((Tryz.prog.info? 100).map (·.size)=some (ndC n9 (.slice A n9.log.length c)).toArray.size):=Uq (by rw [qc,List.size_toArray,hs9])
   have HSZ3:Hid ((ndC qi nilV).toArray.size=(ndC n9 (.slice A n9.log.length c)).toArray.size):=Uq (by rw [List.size_toArray,List.size_toArray,hs9];rfl)
   have HONE:Hid ((ndC n9 (.slice A n9.log.length c)).toArray.all (·.oneCell')=true):=Uq (qy rfl)
   have HS2:=Uq hS8;have HBR:=Uq hr9;have HOUT1:=Uq ho9.1;have HOUT2:=Uq ho9.2;clear hx9 hr9 hs9 ho9 hS8 hW9
   refine wp_region_held_drew (S:=(λw'=>w'.rangeAt s 0 (ndC n9 (.slice A n9.log.length c))∧w'.cell? ⟨s,30,none⟩=some (.slice none ms9.length 0))) (by kernel_rfl) hS9 (λhHeld=>?_)
   clear hS9
   (refine tk 0 ?_ ?_ ?_;rotate_left;focus (intro w hSw;(try dsimp only at hSw);go_simp;(try with_reducible rfl);done))
   (try simp only [Act.put,Ur,Us,Ut])
   (refine tk 1 ?_ ?_ ?_;rotate_left;focus (intro w hSw;(try dsimp only at hSw);go_simp;(try with_reducible rfl);done))
   (try simp only [Act.put,Ur,Us,Ut])
   (refine tk 2 ?_ ?_ ?_;rotate_left;focus (intro w hSw;(try dsimp only at hSw);go_simp;(try with_reducible rfl);done))
   (try simp only [Act.put,Ur,Us,Ut])
   refine wpAnyH_take (i:=3) (qx rfl) (by kernel_rfl) (by kernel_rfl) (by kernel_rfl) (λ_ _ _ h=>h) (yieldsIf_load_mid (by rfl) _ _ rfl _ _ rfl _ _ (λ_ h=>h.1) Tryz.underlying100 rfl HSZ.out) (by assumption) ?_
   (try simp only [Act.put,Ur,Us,Ut])
   (refine tk 4 ?_ ?_ ?_;rotate_left;focus (intro w hSw;(try dsimp only at hSw);go_simp;(try with_reducible rfl);done))
   (try simp only [Act.put,Ur,Us,Ut])
   (refine tk 5 ?_ ?_ ?_;rotate_left;focus (intro w hSw;(try dsimp only at hSw);go_simp;(try with_reducible rfl);done))
   (try simp only [Act.put,Ur,Us,Ut])
   (refine tk 6 ?_ ?_ ?_;rotate_left;focus (intro w hSw;(try dsimp only at hSw);go_simp;(try with_reducible rfl);done))
   (try simp only [Act.put,Ur,Us,Ut])
   (refine tk 7 ?_ ?_ ?_;rotate_left;focus (intro w hSw;(try dsimp only at hSw);go_simp;(try with_reducible rfl);done))
   (try simp only [Act.put,Ur,Us,Ut])
   refine wpAnyH_ready (rs:=[8]) (by kernel_rfl) (by simp) ?_
   refine AllReadyH.cons (qx rfl) (λK hK=>?_) AllReadyH.nil
   rw [if_pos (by rfl)]
   refine wp_store_row 100 _ _ rfl _ _ rfl rfl _ _ HBR.out HSZ2.out HSZ3.out HONE.out ?_
   (try simp only [Act.put])
   refine hK.out _ _ HS2.out (λhHeld=>?_)
   clear hK K
   (try simp only [Act.put,Ur,Us,Ut])
   (refine tk 9 ?_ ?_ ?_;rotate_left;focus (intro w hSw;(try dsimp only at hSw);go_simp;(try with_reducible rfl);done))
   (try simp only [Act.put,Ur,Us,Ut])
   refine wpAnyH_done (by kernel_rfl) ?_ _
   go_wp2_with fail
   refine bodyPost_ret (qj rfl _ _ (bn + 1) _ _ (0,0) _ rfl HOUT1.out Tryz.underlying100 rfl (by rw [← HSZ2.out])) rfl ?_
   rw [HTT.out];exact ⟨_,_,rfl,HOUT2.out⟩
end Go.Proofs.YtppibhieabideaaGreatDoor
