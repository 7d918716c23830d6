/- A part of the walk of the program, and of its plain law. -/
import Derived.Test.YtppibhieabideaaGreatDoorGt11
namespace Go.Proofs.YtppibhieabideaaGreatDoor
open Go Go.RowKit Go.Deep
set_option maxRecDepth 100000
theorem qx {ops:Array Oper} {i:Nat} {oi:Oper} (h:(ops.toList.drop i).head?=some oi):ops[i]?=some oi:=by
 rw [List.head?_drop] at h;rw [← h,Array.getElem?_toList]
theorem tk {P:Program} {md:Region.Mode} {ops:Array Oper} {Q:Exit→Act→World→Prop} {S:World→Prop} {oi:Oper} {fuel:Nat} {listed:Array Bool} {a:Act} {w:World} (i:Nat) (v:Value) (hy:∀ w,S w→(execOp a.eval oi).run P w=.ok (.value v) w) (h:wpAnyH P md ops Q S fuel (listed.setIfInBounds i true) (a.put oi.dst v) w) (hi:ops[i]?=some oi:=by exact qx rfl) (hs:Region.noSelect ops=true:=by kernel_rfl) (hf:Region.free md ops listed i=true:=by kernel_rfl) (hr:(Region.ready md ops listed).contains i=true:=by kernel_rfl) (hQ:∀ c a w,Q (.panic c) (a.put oi.dst v) w→Q (.panic c) a w:=by exact λ_ _ _ h=>h) (hw:Region.wanted oi (yielded ops a.tmps)=true:=by rfl) (hS:S w:=by assumption):wpAnyH P md ops Q S (fuel+1) listed a w:=wpAnyH_take hi hs hf hr hQ (.inl ⟨hw,hy⟩) hS h
theorem tku {P:Program} {md:Region.Mode} {ops:Array Oper} {Q:Exit→Act→World→Prop} {S:World→Prop} {oi:Oper} {fuel:Nat} {listed:Array Bool} {a:Act} {w:World} (i:Nat) (h:wpAnyH P md ops Q S fuel (listed.setIfInBounds i true) (a.put oi.dst undef) w) (hi:ops[i]?=some oi:=by exact qx rfl) (hs:Region.noSelect ops=true:=by kernel_rfl) (hf:Region.free md ops listed i=true:=by kernel_rfl) (hr:(Region.ready md ops listed).contains i=true:=by kernel_rfl) (hQ:∀ c a w,Q (.panic c) (a.put oi.dst undef) w→Q (.panic c) a w:=by exact λ_ _ _ h=>h) (hw:Region.wanted oi (yielded ops a.tmps)=false:=by rfl) (hS:S w:=by assumption):wpAnyH P md ops Q S (fuel+1) listed a w:=wpAnyH_take hi hs hf hr hQ (.inr ⟨hw,rfl⟩) hS h
def msgV (m:rf.Msg) (em:Value):Value:=.agg (msgC m em).toArray
theorem qp (w:World) (vs:List Value) (t:TypeId):∃ X b,w.alloc (.cells vs.toArray t)=X∧w.heap.size=b∧Below w.heap.size w X∧Blk X b vs t:=⟨_,_,rfl,rfl,(Below.refl _ w).alloc (Nat.le_refl _) _,Blk.new w vs t⟩
theorem Uj (n:rf.Node) (m:rf.Msg):rf.askOk n m=(decide (m.term=n.term) && (decide (n.vote = -1) || decide (n.vote=m.frm)) && rl.newer n.log m.at_ m.index):=rfl
set_option maxHeartbeats 8000000 in
theorem ask_any {base s:Nat} {w:World} {n:rf.Node} {A B:Option Addr} {c d:Nat} {ms:List rf.Msg} (m:rf.Msg) (A2:Option Addr) (k2 c2:Nat) (h:St base w s n (.slice A n.log.length c) (.slice B ms.length d) ms) (hl:ms.length≤900) (hlog:n.log.length≤10000) :
  Calls Tryz.prog 265 #[.pointer (some ⟨s,0,none⟩),msgV m (.slice A2 k2 c2)] w λe w'=>e=.returned (.tuple #[])∧StTo base w s (rf.ask n m).1 (ms ++ (rf.ask n m).2) w':=by
 obtain ⟨X,bm,hX,hbm,hbX,kb⟩:=qp w (msgC m (.slice A2 k2 c2)) 229
 have hbs:¬ bm=s:=by have:=h.blk.lt;omega
 have hbs2:¬ s=bm:=λe=>hbs e.symm
 obtain ⟨L,hL⟩:∃ L,n.log.length=L:=⟨_,rfl⟩;rw [hL] at h hlog;have hx:=(Sx.start h).later hbX;have HX:=Uq hX;have HSX:=Uq hx;have HKB:=Uq kb;have HL:=Uq hL;have HLog:=Uq hlog;have HML:=Uq hl
 have MK:Hid (∀ w',Below X.heap.size X w'→w'.cell? ⟨s,2,none⟩=some (.int .u64 (n.term:Int))∧w'.cell? ⟨s,3,none⟩=some (.int .i64 n.vote)∧w'.cell? ⟨s,4,none⟩=some (.slice A L c)∧w'.cell? ⟨bm,1,none⟩=some (.int .i64 m.frm)∧w'.cell? ⟨bm,3,none⟩=some (.int .u64 (m.term:Int))∧w'.cell? ⟨bm,4,none⟩=some (.int .u64 (m.index:Int))∧w'.cell? ⟨bm,5,none⟩=some (.int .u64 (m.at_:Int))):=Uq (λw' h=>by
  have h1:=HSX.out.later h;have k1:=HKB.out.below h
  exact ⟨h1.st.cell 2 _ (qb _ _ 2 _ rfl),h1.st.cell 3 _ (qb _ _ 3 _ rfl),h1.st.cell 4 _ (qb _ _ 4 _ rfl),k1.cell 1 _ rfl,k1.cell 3 _ rfl,k1.cell 4 _ rfl,k1.cell 5 _ rfl⟩)
 clear hX hx kb hL h hlog hl hbX;unfold msgV msgC
 go_enter Tryz.func265,Tryz.ntmps265
 go_upto_region 1 with fail
 rw [show w.alloc (.cells #[.int .i64 m.kind,.int .i64 m.frm,.int .i64 m.dst,.int .u64 (m.term:Int),.int .u64 (m.index:Int),.int .u64 (m.at_:Int),.int .u64 (m.commit:Int),.slice A2 k2 c2,.bool m.ok] 229)=X from HX.out]
 go_wp2_with fail;have hW:Below X.heap.size X X.drew:=below_drewN (Below.refl _ X) 1
 go_cut [5] (λs5 wx=>s5=.bool (rf.askOk n m)∧Below X.heap.size X wx)
 case first=>
  have hcs:∃ q:Bool,(∃ f1 f2 f3:Bool,((m.term:Int) == (n.term:Int))=f1∧(n.vote == -1)=f2∧(n.vote == m.frm)=f3∧(f1 && (f2 || f3))=q)∧rf.askOk n m=(q && rl.newer n.log m.at_ m.index):=by
   refine ⟨_,⟨_,_,_,rfl,rfl,rfl,rfl⟩,?_⟩;rw [Uj]
   congr 1
   have e1:((m.term:Int) == (n.term:Int))=decide (m.term=n.term):=by
    by_cases h:m.term=n.term
    ·rw [h];simp
    ·rw [decide_eq_false h,beq_eq_false_iff_ne];omega
   rw [e1]
   rfl
  obtain ⟨q,⟨f1,f2,f3,h1,h2,h3,hq⟩,hfin⟩:=hcs;have HF:=Uq hfin;clear hfin
  refine wp_region_held_drew (S:=(λw'=>w'.cell? ⟨s,2,none⟩=some (.int .u64 (n.term:Int))∧w'.cell? ⟨s,3,none⟩=some (.int .i64 n.vote)∧w'.cell? ⟨s,4,none⟩=some (.slice A L c)∧w'.cell? ⟨bm,1,none⟩=some (.int .i64 m.frm)∧w'.cell? ⟨bm,3,none⟩=some (.int .u64 (m.term:Int))∧w'.cell? ⟨bm,4,none⟩=some (.int .u64 (m.index:Int))∧w'.cell? ⟨bm,5,none⟩=some (.int .u64 (m.at_:Int)))) (by kernel_rfl) (MK.out _ hW) (λhHeld=>?_)
  cases f1 <;> cases f2 <;> cases f3 <;> (have hq:=hq.symm;simp only [Bool.false_and,Bool.true_and,Bool.or_true,Bool.or_false] at hq;subst hq)
  all_goals
   first | (refine tk 0 ?_ ?_ ?_;rotate_left;focus (intro w hSw;(try dsimp only at hSw);go_simp;(try with_reducible rfl);done)) | (refine tku 0 ?_)
   (try simp only [Act.put,Ur,Us,Ut])
   first | (refine tk 1 ?_ ?_ ?_;rotate_left;focus (intro w hSw;(try dsimp only at hSw);go_simp;(try with_reducible rfl);done)) | (refine tku 1 ?_)
   (try simp only [Act.put,Ur,Us,Ut])
   first | (refine tk 2 ?_ ?_ ?_;rotate_left;focus (intro w hSw;(try dsimp only at hSw);go_simp;(try with_reducible rfl);done)) | (refine tku 2 ?_)
   (try simp only [Act.put,Ur,Us,Ut])
   first | (refine tk 3 ?_ ?_ ?_;rotate_left;focus (intro w hSw;(try dsimp only at hSw);go_simp;(try with_reducible rfl);done)) | (refine tku 3 ?_)
   (try simp only [Act.put,Ur,Us,Ut])
   first | (refine tk 4 ?_ ?_ ?_;rotate_left;focus (intro w hSw;(try dsimp only at hSw);go_simp;(try with_reducible rfl);done)) | (refine tku 4 ?_)
   (try simp only [Act.put,Ur,Us,Ut])
   first | (refine tk 5 ?_ ?_ ?_;rotate_left;focus (intro w hSw;(try dsimp only at hSw);go_simp;(try with_reducible rfl);done)) | (refine tku 5 ?_)
   (try simp only [Act.put,Ur,Us,Ut])
   first | (refine tk 6 ?_ ?_ ?_;rotate_left;focus (intro w hSw;(try dsimp only at hSw);go_simp;(try with_reducible rfl);done)) | (refine tku 6 ?_)
   (try simp only [Act.put,Ur,Us,Ut])
   first | (refine tk 7 ?_ ?_ ?_;rotate_left;focus (intro w hSw;(try dsimp only at hSw);go_simp;(try with_reducible rfl);done)) | (refine tku 7 ?_)
   (try simp only [Act.put,Ur,Us,Ut])
   first | (refine tk 8 ?_ ?_ ?_;rotate_left;focus (intro w hSw;(try dsimp only at hSw);go_simp;(try with_reducible rfl);done)) | (refine tku 8 ?_)
   (try simp only [Act.put,Ur,Us,Ut])
   first | (refine tk 9 ?_ ?_ ?_;rotate_left;focus (intro w hSw;(try dsimp only at hSw);go_simp;(try with_reducible rfl);done)) | (refine tku 9 ?_)
   (try simp only [Act.put,Ur,Us,Ut])
   first | (refine tk 10 ?_ ?_ ?_;rotate_left;focus (intro w hSw;(try dsimp only at hSw);go_simp;(try with_reducible rfl);done)) | (refine tku 10 ?_)
   (try simp only [Act.put,Ur,Us,Ut])
   first | (refine tk 11 ?_ ?_ ?_;rotate_left;focus (intro w hSw;(try dsimp only at hSw);go_simp;(try with_reducible rfl);done)) | (refine tku 11 ?_)
   (try simp only [Act.put,Ur,Us,Ut])
   first | (refine tk 12 ?_ ?_ ?_;rotate_left;focus (intro w hSw;(try dsimp only at hSw);go_simp;(try with_reducible rfl);done)) | (refine tku 12 ?_)
   (try simp only [Act.put,Ur,Us,Ut])
   first | (refine tk 13 ?_ ?_ ?_;rotate_left;focus (intro w hSw;(try dsimp only at hSw);go_simp;(try with_reducible rfl);done)) | (refine tku 13 ?_)
   (try simp only [Act.put,Ur,Us,Ut])
   first | (refine tk 14 ?_ ?_ ?_;rotate_left;focus (intro w hSw;(try dsimp only at hSw);go_simp;(try with_reducible rfl);done)) | (refine tku 14 ?_)
   (try simp only [Act.put,Ur,Us,Ut])
   first | (refine tk 15 ?_ ?_ ?_;rotate_left;focus (intro w hSw;(try dsimp only at hSw);go_simp;(try with_reducible rfl);done)) | (refine tku 15 ?_)
   (try simp only [Act.put,Ur,Us,Ut])
   first | (refine tk 16 ?_ ?_ ?_;rotate_left;focus (intro w hSw;(try dsimp only at hSw);go_simp;(try with_reducible rfl);done)) | (refine tku 16 ?_)
   (try simp only [Act.put,Ur,Us,Ut])
   first | (refine tk 17 ?_ ?_ ?_;rotate_left;focus (intro w hSw;(try dsimp only at hSw);go_simp;(try with_reducible rfl);done)) | (refine tku 17 ?_)
   (try simp only [Act.put,Ur,Us,Ut])
   first | (refine tk 18 ?_ ?_ ?_;rotate_left;focus (intro w hSw;(try dsimp only at hSw);go_simp;(try with_reducible rfl);done)) | (refine tku 18 ?_)
   (try simp only [Act.put,Ur,Us,Ut])
   first | (refine tk 19 ?_ ?_ ?_;rotate_left;focus (intro w hSw;(try dsimp only at hSw);go_simp;(try with_reducible rfl);done)) | (refine tku 19 ?_)
   (try simp only [Act.put,Ur,Us,Ut])
   first | (refine tk 20 ?_ ?_ ?_;rotate_left;focus (intro w hSw;(try dsimp only at hSw);go_simp;(try with_reducible rfl);done)) | (refine tku 20 ?_)
   (try simp only [Act.put,Ur,Us,Ut])
   first | (refine tk 21 ?_ ?_ ?_;rotate_left;focus (intro w hSw;(try dsimp only at hSw);go_simp;(try with_reducible rfl);done)) | (refine tku 21 ?_)
   (try simp only [Act.put,Ur,Us,Ut])
   first | (refine tk 22 ?_ ?_ ?_;rotate_left;focus (intro w hSw;(try dsimp only at hSw);go_simp;(try with_reducible rfl);done)) | (refine tku 22 ?_)
   (try simp only [Act.put,Ur,Us,Ut])
   first | (refine tk 23 ?_ ?_ ?_;rotate_left;focus (intro w hSw;(try dsimp only at hSw);go_simp;(try with_reducible rfl);done)) | (refine tku 23 ?_)
   (try simp only [Act.put,Ur,Us,Ut])
   first | (refine tk 24 ?_ ?_ ?_;rotate_left;focus (intro w hSw;(try dsimp only at hSw);go_simp;(try with_reducible rfl);done)) | (refine tku 24 ?_)
   (try simp only [Act.put,Ur,Us,Ut])
   first | (refine tk 25 ?_ ?_ ?_;rotate_left;focus (intro w hSw;(try dsimp only at hSw);go_simp;(try with_reducible rfl);done)) | (refine tku 25 ?_)
   (try simp only [Act.put,Ur,Us,Ut])
   first | (refine tk 26 ?_ ?_ ?_;rotate_left;focus (intro w hSw;(try dsimp only at hSw);go_simp;(try with_reducible rfl);done)) | (refine tku 26 ?_)
   (try simp only [Act.put,Ur,Us,Ut])
   first | (refine tk 27 ?_ ?_ ?_;rotate_left;focus (intro w hSw;(try dsimp only at hSw);go_simp;(try with_reducible rfl);done)) | (refine tku 27 ?_)
   (try simp only [Act.put,Ur,Us,Ut])
   first | (refine tk 28 ?_ ?_ ?_;rotate_left;focus (intro w hSw;(try dsimp only at hSw);go_simp;(try with_reducible rfl);done)) | (refine tku 28 ?_)
   (try simp only [Act.put,Ur,Us,Ut])
   first | (refine tk 29 ?_ ?_ ?_;rotate_left;focus (intro w hSw;(try dsimp only at hSw);go_simp;(try with_reducible rfl);done)) | (refine tku 29 ?_)
   (try simp only [Act.put,Ur,Us,Ut])
   first | (refine tk 30 ?_ ?_ ?_;rotate_left;focus (intro w hSw;(try dsimp only at hSw);go_simp;(try with_reducible rfl);done)) | (refine tku 30 ?_)
   (try simp only [Act.put,Ur,Us,Ut])
   first | (refine tk 31 ?_ ?_ ?_;rotate_left;focus (intro w hSw;(try dsimp only at hSw);go_simp;(try with_reducible rfl);done)) | (refine tku 31 ?_)
   (try simp only [Act.put,Ur,Us,Ut])
   first | (refine tk 32 ?_ ?_ ?_;rotate_left;focus (intro w hSw;(try dsimp only at hSw);go_simp;(try with_reducible rfl);done)) | (refine tku 32 ?_)
   (try simp only [Act.put,Ur,Us,Ut])
   first | (refine wpAnyH_ready (rs:=[33]) (by kernel_rfl) (by simp) ?_;refine AllReadyH.cons (qx rfl) (λK hK=>?_) AllReadyH.nil;go_simp;go_at_call 372;refine (XL n.term n.vote _ n.log m.at_ m.index _ (HSX.out.later hW).st.ents.1 (by have:=HLog.out;have:=HL.out;omega)).mono ?_;rintro e w6 ⟨rfl,hb⟩;have hW:=hW.trans (hb.mono hW.size);dsimp only;refine hK.out _ _ (MK.out _ hW) (λhHeld=>?_);clear hK K) | (refine tku 33 ?_)
   (try simp only [Act.put,Ur,Us,Ut])
   first | (refine tk 34 ?_ ?_ ?_;rotate_left;focus (intro w hSw;(try dsimp only at hSw);go_simp;(try with_reducible rfl);done)) | (refine tku 34 ?_)
   (try simp only [Act.put,Ur,Us,Ut])
   first | (refine tk 35 ?_ ?_ ?_;rotate_left;focus (intro w hSw;(try dsimp only at hSw);go_simp;(try with_reducible rfl);done)) | (refine tku 35 ?_)
   (try simp only [Act.put,Ur,Us,Ut])
   refine wpAnyH_done (by kernel_rfl) ?_ _
   go_wp2_with fail;go_meet
   exact ⟨by rw [HF.out];rfl,hW⟩
 case rest=>
  obtain ⟨rfl,hc⟩:=hcut;have hx:=HSX.out.later hc;have kb:=HKB.out.below hc;have c3:=hx.st.cell 3 _ (qb _ _ 3 _ rfl);have c8:=hx.st.cell 8 _ (qb _ _ 8 _ rfl);have f3:=hx.st.free 3;have f8:=hx.st.free 8;have m1:=kb.cell 1 _ rfl;have h0:=hx;rw [← HL.out] at h0;have h1:=((h0.store 3 (.int .i64 m.frm) (n':={ n with vote:=m.frm }) rfl rfl (hx.st.ok.of rfl rfl rfl)).store 8 (.int .i64 0) (n':={ n with vote:=m.frm,idle:=0 }) rfl rfl (hx.st.ok.of rfl rfl rfl));have H0:=Uq h0;have H1:=Uq h1;clear hx kb h0 h1 hc hW
  cases hq:rf.askOk n m with
  | false=>
   have ha:rf.ask n m=(n,[rf.stamp n { rf.msg0 with kind:=2,dst:=m.frm }]):=by unfold rf.ask;rw [hq];rfl
   have HA:=Uq ha
   have hs:=QU { rf.msg0 with kind:=2,dst:=m.frm } H0.out.st (EntsB.nil base wc) (by have:=HML.out;omega)
   unfold rf.msg0 at hs;have HS:=Uq hs;clear hq ha hs;go_wp2_with fail;refine HS.out.mono ?_;rintro e w9 ⟨rfl,h9⟩;obtain ⟨A9,c9,B9,d9,h10⟩:=H0.out.call h9;have H10:=Uq h10;clear h9 h10;go_wp2;go_end0;rw [HA.out];exact ⟨rfl,H10.out.to⟩
  | true=>
   have ha:rf.ask n m=({ n with vote:=m.frm,idle:=0 },[rf.stamp n { rf.msg0 with kind:=2,dst:=m.frm,ok:=true }]):=by unfold rf.ask;rw [hq];rfl
   have HA:=Uq ha;have m1b:=(HKB.out.below (Below.refl _ X))
   have hs:=QU { rf.msg0 with kind:=2,dst:=m.frm,ok:=true } H1.out.st (EntsB.nil base _) (by have:=HML.out;omega)
   unfold rf.msg0 at hs;have HS:=Uq hs;clear hq ha hs m1b;go_wp2_with fail;refine HS.out.mono ?_;rintro e w9 ⟨rfl,h9⟩;obtain ⟨A9,c9,B9,d9,h10⟩:=H1.out.call h9;have H10:=Uq h10;clear h9 h10;go_wp2;go_end0;rw [HA.out];exact ⟨rfl,H10.out.to⟩
set_option maxHeartbeats 8000000 in
theorem Vh {base s:Nat} {w:World} {n:rf.Node} {A B:Option Addr} {c d:Nat} {ms:List rf.Msg} (m:rf.Msg) (A2:Option Addr) (k2 c2:Nat) (K:Nat) (hf:m.frm=(K:Int)) (hK7:K < 7) (h:St base w s n (.slice A n.log.length c) (.slice B ms.length d) ms) (hm0:0≤n.many) (hid:0≤n.id) (hid7:n.id < 7) (hl:ms.length≤900) (hlog:n.log.length≤9990) :
  Calls Tryz.prog 266 #[.pointer (some ⟨s,0,none⟩),msgV m (.slice A2 k2 c2)] w λe w'=>e=.returned (.tuple #[])∧StTo base w s (rf.vote n m).1 (ms ++ (rf.vote n m).2) w':=by
 obtain ⟨X,bm,hX,hbm,hbX,kb⟩:=qp w (msgC m (.slice A2 k2 c2)) 229
 have hbs:¬ bm=s:=by have:=h.blk.lt;omega
 have hbs2:¬ s=bm:=λe=>hbs e.symm
 have hx:=(Sx.start h).later hbX;have c5:=hx.st.cell 5 _ (qb _ _ 5 _ rfl);have c2':=hx.st.cell 2 _ (qb _ _ 2 _ rfl);have m1:=kb.cell 1 _ rfl;have m3:=kb.cell 3 _ rfl;have m8:=kb.cell 8 _ rfl;rw [hf] at m1
 have hv:rf.vote n m=if n.role=1∧m.term=n.term∧m.ok=true then rf.voted n (K:Int) else (n,[]):=by unfold rf.vote;rw [hf]
 have HX:=Uq hX;have HXX:=Uq hx;have HKB:=Uq kb
 have hcall:∀ wx,Below X.heap.size X wx→Calls Tryz.prog 370 #[.pointer (some ⟨s,0,none⟩),.int .i64 (K:Int)] wx λe w'=>e=.returned (.tuple #[])∧StTo base w s (rf.voted n (K:Int)).1 (ms ++ (rf.voted n (K:Int)).2) w':=by
  intro wx hb;have hx':=hx.later hb;refine (Y8 K hx'.st hK7 hm0 hid hid7 hl hlog).mono ?_;rintro e w' ⟨rfl,h1⟩;obtain ⟨A9,c9,B9,d9,h10⟩:=hx'.call h1;exact ⟨rfl,h10.to⟩
 have HC:=Uq hcall;have HV:=Uq hv;have HF:=Uq hf;clear hX hx kb h hbX hv hf hm0 hid hid7 hl hlog hcall;unfold msgV msgC
 go_enter Tryz.func266,Tryz.ntmps266
 go_upto_region 1 with fail
 rw [show w.alloc (.cells #[.int .i64 m.kind,.int .i64 m.frm,.int .i64 m.dst,.int .u64 (m.term:Int),.int .u64 (m.index:Int),.int .u64 (m.at_:Int),.int .u64 (m.commit:Int),.slice A2 k2 c2,.bool m.ok] 229)=X from HX.out]
 go_cut [24] (λs24 wx=>s24=.bool (decide (n.role=1∧m.term=n.term∧m.ok=true))∧Below X.heap.size X wx)
 case first=>
  by_cases h1:n.role=1
  ·have f1:(n.role == 1)=true:=by rw [beq_iff_eq];exact h1
   by_cases h2:m.term=n.term
   ·have f2:((m.term:Int) == (n.term:Int))=true:=by rw [beq_iff_eq];omega
    have hq:decide (n.role=1∧m.term=n.term∧m.ok=true)=m.ok:=by simp [h1,h2]
    have HQ:=Uq hq;clear hq h1 h2;go_wp2_with fail
    go_quiet (fail)
    go_wp2_with fail;go_meet
    exact ⟨by rw [HQ.out],below_drewN (Below.refl _ X) nq⟩
   ·have f2:((m.term:Int) == (n.term:Int))=false:=by rw [beq_eq_false_iff_ne];omega
    have hq:decide (n.role=1∧m.term=n.term∧m.ok=true)=false:=by simp [h2]
    have HQ:=Uq hq;clear hq h1 h2;go_wp2_with fail
    go_quiet (fail)
    go_wp2_with fail;go_meet
    exact ⟨by rw [HQ.out],below_drewN (Below.refl _ X) nq⟩
  ·have f1:(n.role == 1)=false:=by rw [beq_eq_false_iff_ne];exact h1
   have hq:decide (n.role=1∧m.term=n.term∧m.ok=true)=false:=by simp [h1]
   have HQ:=Uq hq;clear hq h1;go_wp2_with fail
   go_quiet (fail)
   go_wp2_with fail;go_meet
   exact ⟨by rw [HQ.out],below_drewN (Below.refl _ X) nq⟩
 case rest=>
  obtain ⟨rfl,hc⟩:=hcut;have m1:=(HKB.out.below hc).cell 1 _ rfl;rw [HF.out] at m1;have hx':=HXX.out.later hc;have hcal:=HC.out _ hc;have HX2:=Uq hx';have HC2:=Uq hcal;clear hx' hcal hc
  by_cases hq:n.role=1∧m.term=n.term∧m.ok=true
  ·have hv:=HV.out;rw [if_pos hq] at hv;have HV2:=Uq hv;have hd:decide (n.role=1∧m.term=n.term∧m.ok=true)=true:=decide_eq_true hq;rw [hd];clear hv hq hd;go_wp2_with fail;refine HC2.out.mono ?_;rintro e w9 ⟨rfl,h9⟩;have H9:=Uq h9;clear h9;go_wp2;go_end0;rw [HV2.out];exact ⟨rfl,H9.out⟩
  ·have hv:=HV.out;rw [if_neg hq] at hv;have HV2:=Uq hv;have hd:decide (n.role=1∧m.term=n.term∧m.ok=true)=false:=decide_eq_false hq;rw [hd];clear hv hq hd;go_wp2;go_end0;rw [HV2.out]
   exact ⟨rfl,by rw [List.append_nil];exact HX2.out.to⟩
theorem EntsB.of_rowT {base:Nat} {w:World} {u:Value} {ls:List rl.Ent} (h:Ents w u ls) (ht:RowT w u):EntsB base w u ls:=⟨h,λb o n c e h0=>by
 subst e
 exact ⟨h.lt h0,.inr (ht b o n c rfl)⟩⟩
theorem _root_.Go.RowKit.Below.box3 {B:Nat} {w w':World} (h:Below B w w') (g:Nat) (hg:B≤g) (x y z:Value):Below B w (((w'.setCell ⟨g,0,none⟩ x).setCell ⟨g,1,none⟩ y).setCell ⟨g,2,none⟩ z):=
 ((h.setCell (p:=⟨g,0,none⟩) hg x).setCell (p:=⟨g,1,none⟩) hg y).setCell (p:=⟨g,2,none⟩) hg z
theorem kJ {w:World} {u:Value} {ls:List rl.Ent} (h:Ents w u ls):∃ A c,u=.slice A ls.length c:=by
 obtain ⟨A,c,e,_⟩:=h;exact ⟨A,c,e⟩
theorem EntsB.of_match {base:Nat} {w:World} {A Au:Option Addr} {L k c cu:Nat} {ls ls':List rl.Ent} (h:EntsB base w (.slice A L c) ls) (hE:Ents w (.slice Au k cu) ls') (hT:Value.slice Au k cu=.slice A L c∨RowT w (.slice Au k cu)):EntsB base w (.slice Au k cu) ls':=by
 rcases hT with e | hT
 ·refine ⟨hE,λb o n c' e2 h0=>h.2 b o n c' (by rw [← e];exact e2) ?_⟩
  obtain ⟨_,_,e3,_⟩:=hE;obtain ⟨_,_,e4,_⟩:=h.1
  injection e with _ e5 _
  injection e3 with _ e6 _
  injection e4 with _ e7 _
  omega
 ·exact EntsB.of_rowT hE hT
theorem EntsB.far {base g j:Nat} {w:World} {ev x:Value} {ls:List rl.Ent} {vs:List Value} {t:TypeId} (h:EntsB base w ev ls) (hg:base≤g) (hb:Blk w g vs t) (ht:t ≠ 36):EntsB base (w.setCell ⟨g,j,none⟩ x) ev ls:=by
 obtain ⟨⟨A,c,rfl,h1,h2,h3⟩,h4⟩:=h
 have hsame:∀ b o n c',(Value.slice A ls.length c)=.slice (some ⟨b,o,none⟩) n c'→0 < ls.length→(w.setCell ⟨g,j,none⟩ x).heap[b]?=w.heap[b]?:=by
  intro b o n c' e h0;obtain ⟨_,hh⟩:=h4 b o n c' e h0
  refine Below.heap_setCell _ _ _ b (λe2=>?_)
  have e2:b=g:=e2;subst e2
  rcases hh with h5 | ⟨cur,h5⟩
  ·omega
  ·unfold Blk at hb;rw [hb] at h5
   injection h5 with h5
   injection h5 with _ h6 _
   exact ht h6
 refine ⟨⟨A,c,rfl,h1,h2,λh0=>?_⟩,λb o n c' e h0=>?_⟩
 ·obtain ⟨b,o,rfl,hA⟩:=h3 h0;have e:=hsame b o _ _ rfl h0
  refine ⟨b,o,rfl,λk hk=>?_⟩
  rw [World.cell?_of_block (w:=w) (w':=w.setCell ⟨g,j,none⟩ x) (a:=⟨b,o + k * 2,none⟩) e,World.cell?_of_block (w:=w) (w':=w.setCell ⟨g,j,none⟩ x) (a:=⟨b,o + k * 2 + 1,none⟩) e];exact hA k hk
 ·have e2:=hsame b o n c' e h0;obtain ⟨hlt,hh⟩:=h4 b o n c' e h0
  exact ⟨by simpa [World.setCell] using hlt,by rw [e2];exact hh⟩
theorem EntsB.box3 {base g:Nat} {w:World} {ev a b c x y z:Value} {ls:List rl.Ent} (h:EntsB base w ev ls) (hg:base≤g) (hb:Blk w g [a,b,c] 96) :
  EntsB base (((w.setCell ⟨g,0,none⟩ x).setCell ⟨g,1,none⟩ y).setCell ⟨g,2,none⟩ z) ev ls∧Blk (((w.setCell ⟨g,0,none⟩ x).setCell ⟨g,1,none⟩ y).setCell ⟨g,2,none⟩ z) g [x,y,z] 96:=by
 have h0:=h.far (j:=0) (x:=x) hg hb (by decide)
 have b0:=hb.set 0 x
 have h1:=h0.far (j:=1) (x:=y) hg b0 (by decide)
 have b1:=b0.set 1 y
 exact ⟨h1.far (j:=2) (x:=z) hg b1 (by decide),b1.set 2 z⟩
theorem Zc (n:rf.Node) (t:Nat):(rf.back n t).log=n.log∧(rf.back n t).id=n.id∧(rf.back n t).many=n.many∧(rf.back n t).commit=n.commit∧(rf.back n t).idle=n.idle:=by
 unfold rf.back
 split <;> exact ⟨rfl,rfl,rfl,rfl,rfl⟩
set_option maxHeartbeats 8000000 in
theorem VW {base s:Nat} {w:World} {n:rf.Node} {A B:Option Addr} {c d:Nat} {ms:List rf.Msg} (m:rf.Msg) (A2:Option Addr) (k2 c2:Nat) (h:St base w s n (.slice A n.log.length c) (.slice B ms.length d) ms) (hm:EntsB base w (.slice A2 k2 c2) m.ents) (hl:ms.length≤900) (hlog:n.log.length≤10000) (hml:m.ents.length≤10000) (hix:m.index < 18446744073709551616) :
  Calls Tryz.prog 267 #[.pointer (some ⟨s,0,none⟩),msgV m (.slice A2 k2 c2)] w λe w'=>e=.returned (.tuple #[])∧StTo base w s (rf.put n m).1 (ms ++ (rf.put n m).2) w':=by
 obtain ⟨X,bm,hX,hbm,hbX,kb⟩:=qp w (msgC m (.slice A2 k2 c2)) 229
 have hbs:¬ bm=s:=by have:=h.blk.lt;omega
 have hbs2:¬ s=bm:=λe=>hbs e.symm
 have hx:=(Sx.start h).later hbX;have hmX:=hm.later hbX;have c2':=hx.st.cell 2 _ (qb _ _ 2 _ rfl);have m1:=kb.cell 1 _ rfl;have m3:=kb.cell 3 _ rfl;have HX:=Uq hX;have HXX:=Uq hx;have HKB:=Uq kb;have HMX:=Uq hmX;have HLog:=Uq hlog;have HML:=Uq hl;have HMM:=Uq hml;have HIX:=Uq hix;clear hX hx kb h hbX hl hlog hm hmX hml hix;unfold msgV msgC
 go_enter Tryz.func267,Tryz.ntmps267
 go_upto_region 1 with fail
 rw [show w.alloc (.cells #[.int .i64 m.kind,.int .i64 m.frm,.int .i64 m.dst,.int .u64 (m.term:Int),.int .u64 (m.index:Int),.int .u64 (m.at_:Int),.int .u64 (m.commit:Int),.slice A2 k2 c2,.bool m.ok] 229)=X from HX.out]
 by_cases hlt:m.term < n.term
 ·have hd:decide ((m.term:Int) < (n.term:Int))=true:=by simp;exact hlt
  have hput:rf.put n m=(n,[rf.stamp n { rf.msg0 with kind:=4,dst:=m.frm }]):=by unfold rf.put;rw [if_pos hlt]
  have HP:=Uq hput
  have hdn:decide (m.term < n.term)=true:=by simp;exact hlt
  clear hlt hput;go_wp2_with fail
  go_quiet (fail)
  have hb:=below_drewN (Below.refl X.heap.size X) nq;have hx2:=HXX.out.later hb;have m1:=(HKB.out.below hb).cell 1 _ rfl
  have hs:=QU { rf.msg0 with kind:=4,dst:=m.frm } hx2.st (EntsB.nil base _) (by have:=HML.out;omega)
  unfold rf.msg0 at hs;have HS:=Uq hs;have HX2:=Uq hx2;clear hs hx2 hb c2' m3;go_wp2_with fail;refine HS.out.mono ?_;rintro e w9 ⟨rfl,h9⟩;obtain ⟨A9,c9,B9,d9,h10⟩:=HX2.out.call h9;have H10:=Uq h10;clear h9 h10;go_wp2;refine bodyPost_ret (results_none rfl _ _ _) rfl ?_;rw [HP.out];exact ⟨rfl,H10.out.to⟩
 ·have hd:decide ((m.term:Int) < (n.term:Int))=false:=by simp;omega
  have hdn:decide (m.term < n.term)=false:=by simp;omega
  have Hlt:=Uq hlt;clear hlt;go_wp2_with fail
  go_quiet (fail)
  have hb:=below_drewN (Below.refl X.heap.size X) nq;have hx2:=HXX.out.later hb;have kb2:=HKB.out.below hb;have hm2:=HMX.out.later hb;have m3:=kb2.cell 3 _ rfl;have hs:=jP m.term hx2.st;obtain ⟨X2,hX2⟩:∃ X2,X.drewN nq=X2:=⟨_,rfl⟩;rw [hX2] at hx2 kb2 hm2 m3 hs ⊢;have HS:=Uq hs;have HX2:=Uq hx2;have HKB2:=Uq kb2;have HMX2:=Uq hm2;clear hs hx2 kb2 hm2 hb hX2 c2' m1 HXX HKB HMX;go_wp2_with fail;refine HS.out.mono ?_;rintro e w3 ⟨rfl,h3,ho3⟩;have hk3:=ho3.blk HKB2.out hbs
  have hm3:EntsB base w3 (.slice A2 k2 c2) m.ents:=by
   obtain ⟨_,_,_,_,_,h4,h5⟩:=h3;exact HMX2.out.keep h4 h5 HX2.out.st.blk
  obtain ⟨A3,c3,B3,d3,hx3⟩:=HX2.out.call h3;have ht1:=Zc n m.term;obtain ⟨n1,hn1⟩:∃ n1,rf.back n m.term=n1:=⟨_,rfl⟩;rw [hn1] at hx3 ht1;obtain ⟨hlog1,hid1,hmany1,hcom1,hidle1⟩:=ht1
  have htk:rf.taken n m={ n1 with lead:=m.frm,idle:=0 }:=by unfold rf.taken;rw [hn1]
  have c6:=hx3.st.cell 6 _ (qb _ _ 6 _ rfl);have c8:=hx3.st.cell 8 _ (qb _ _ 8 _ rfl);have f6:=hx3.st.free 6;have f8:=hx3.st.free 8;have m1:=hk3.cell 1 _ rfl
  have h4:=((hx3.store 6 (.int .i64 m.frm) (n':={ n1 with lead:=m.frm }) rfl rfl (hx3.st.ok.of rfl rfl rfl)).store 8 (.int .i64 0) (n':=rf.taken n m) (by rw [htk];rfl) (by rw [htk]) (by rw [htk];exact hx3.st.ok.of rfl rfl rfl))
  have k4:=(hk3.other ⟨s,6,none⟩ (.int .i64 m.frm) hbs).other ⟨s,8,none⟩ (.int .i64 0) hbs;have hm4:=(hm3.keep (Keeps.set s 6 w3 (.int .i64 m.frm)) ((Below.refl _ w3).setCell (p:=⟨s,6,none⟩) hx3.st.sb _) hx3.st.blk);have hm5:=hm4.keep (Keeps.set s 8 _ (.int .i64 0)) ((Below.refl _ _).setCell (p:=⟨s,8,none⟩) hx3.st.sb _) (hx3.st.blk.set 6 _);obtain ⟨L,hL⟩:∃ L,n.log.length=L:=⟨_,rfl⟩
  have htl:(rf.taken n m).log=n.log:=by rw [htk];exact hlog1
  rw [hlog1,hL] at h4;obtain ⟨Y,hY⟩:∃ Y,(w3.setCell ⟨s,6,none⟩ (.int .i64 m.frm)).setCell ⟨s,8,none⟩ (.int .i64 0)=Y:=⟨_,rfl⟩;rw [hY] at h4 k4 hm5;obtain ⟨t1,ht1⟩:∃ t1,rf.taken n m=t1:=⟨_,rfl⟩;rw [ht1] at h4 htl
  have hput0:rl.termAt n.log m.index=(m.at_,true)→rf.put n m=({ t1 with log:=(rl.match_ n.log m.index m.at_ m.ents).1,commit:=max n.commit (min m.commit (rl.match_ n.log m.index m.at_ m.ents).2.1) },[rf.stamp t1 { rf.msg0 with kind:=4,dst:=m.frm,ok:=true,index:=(rl.match_ n.log m.index m.at_ m.ents).2.1 }]):=by
   intro h;unfold rf.put rl.match_;rw [if_neg Hlt.out,ht1,htl,if_pos h]
   rfl
  have hput3:¬ rl.termAt n.log m.index=(m.at_,true)→rf.put n m=(t1,[rf.stamp t1 { rf.msg0 with kind:=4,dst:=m.frm,index:=L }]):=by
   intro h;unfold rf.put rl.match_;rw [if_neg Hlt.out,ht1,htl,if_neg h,hL]
   rfl
  have hput:=And.intro hput0 hput3
  have htc:t1.commit=n.commit:=by rw [← ht1,htk];exact hcom1
  have HP:=Uq hput;have H4:=Uq h4;have HK4:=Uq k4;have HM5:=Uq hm5;have HY:=Uq hY;have HL:=Uq hL;have HTL:=Uq htl;have HTC:=Uq htc;clear hput hput0 hput3 h4 k4 hm4 hm5 hY hL htl htc hx3 hk3 hm3 hlog1 hid1 hmany1 hcom1 hidle1 htk hn1 ht1 h3 ho3 HS HX2 HKB2 HMX2 m3;go_upto_region 5 with fail;rw [HY.out];clear c6 c8 f6 f8 m1
  have MK:Hid (∀ w',Below Y.heap.size Y w'→w'.cell? ⟨s,2,none⟩=some (.int .u64 (t1.term:Int))∧w'.cell? ⟨s,3,none⟩=some (.int .i64 t1.vote)∧w'.cell? ⟨s,4,none⟩=some (.slice A3 L c3)∧w'.cell? ⟨bm,4,none⟩=some (.int .u64 (m.index:Int))∧w'.cell? ⟨bm,5,none⟩=some (.int .u64 (m.at_:Int))∧w'.cell? ⟨bm,7,none⟩=some (.slice A2 k2 c2)):=Uq (λw' h=>by
   have h1:=H4.out.later h;have k1:=HK4.out.below h
   exact ⟨h1.st.cell 2 _ (qb _ _ 2 _ rfl),h1.st.cell 3 _ (qb _ _ 3 _ rfl),h1.st.cell 4 _ (qb _ _ 4 _ rfl),k1.cell 4 _ rfl,k1.cell 5 _ rfl,k1.cell 7 _ rfl⟩)
  have hW:Below Y.heap.size Y Y.drew:=below_drewN (Below.refl _ Y) 1;have hWA:Below Y.heap.size Y (Y.alloc (.cells #[.int .u64 0,.int .i64 0,.slice none 0 0] 96)).drew:=below_drewN ((Below.refl _ Y).alloc (Nat.le_refl _) _) 1;have zA:Blk (Y.alloc (.cells #[.int .u64 0,.int .i64 0,.slice none 0 0] 96)).drew Y.heap.size [.int .u64 0,.int .i64 0,.slice none 0 0] 96:=Blk.new Y [.int .u64 0,.int .i64 0,.slice none 0 0] _;have HZA:=Uq zA;have hgA:Y.heap.size≤Y.heap.size:=Nat.le_refl _;clear zA;obtain ⟨M,hM⟩:∃ M,rl.match_ n.log m.index m.at_ m.ents=M:=⟨_,rfl⟩;have HM:=Uq hM;clear hM
  go_cut [4,5,6] (λs4 s5 s6 wx=>∃ (A9:Option Addr) (c9 g:Nat),s4=.pointer (some ⟨g,0,none⟩)∧s5=.int .u64 (M.2.1:Nat)∧s6=.int .i64 (M.2.2:Nat)∧Blk wx g [.int .u64 (t1.term:Int),.int .i64 t1.vote,.slice A9 M.1.length c9] 96∧EntsB base wx (.slice A9 M.1.length c9) M.1∧Below Y.heap.size Y wx)
  case first=>
   go_region_held3 (λw'=>w'.cell? ⟨s,2,none⟩=some (.int .u64 (t1.term:Int))∧w'.cell? ⟨s,3,none⟩=some (.int .i64 t1.vote)∧w'.cell? ⟨s,4,none⟩=some (.slice A3 L c3)∧w'.cell? ⟨bm,4,none⟩=some (.int .u64 (m.index:Int))∧w'.cell? ⟨bm,5,none⟩=some (.int .u64 (m.at_:Int))∧w'.cell? ⟨bm,7,none⟩=some (.slice A2 k2 c2))
    (first | with_reducible exact MK.out _ hW | with_reducible exact MK.out _ hWA | with_reducible exact MK.out _ (hW.alloc hW.size _) | with_reducible exact MK.out _ (hW.box3 _ hgA _ _ _) | with_reducible exact MK.out _ ((hW.alloc hW.size _).box3 _ hW.size _ _ _))
    (first | (go_at_call 373;refine (kA t1.term t1.vote _ _ n.log m.ents m.index m.at_ _ (by have h1:=(H4.out.later hW).st.ents.1;rw [HTL.out] at h1;exact h1) (HM5.out.later hW).1 HLog.out HMM.out HIX.out).mono ?_;rintro e w6 ⟨u,rfl,hE,hT,hb⟩;rw [HM.out] at hE ⊢;obtain ⟨Au,cu,hu⟩:=kJ hE;subst hu;unfold stV;have hW:=hW.trans (hb.mono hW.size)) | (go_at_call 373;refine (kA t1.term t1.vote _ _ n.log m.ents m.index m.at_ _ (by have h1:=(H4.out.later hWA).st.ents.1;rw [HTL.out] at h1;exact h1) (HM5.out.later hWA).1 HLog.out HMM.out HIX.out).mono ?_;rintro e w6 ⟨u,rfl,hE,hT,hb⟩;rw [HM.out] at hE ⊢;obtain ⟨Au,cu,hu⟩:=kJ hE;subst hu;unfold stV;have hW:=hWA.trans (hb.mono hWA.size);have hz:=HZA.out.below hb;have z0:=hz.cell 0 _ rfl;have z1:=hz.cell 1 _ rfl;have z2:=hz.cell 2 _ rfl;have zf0:=hz.free 0;have zf1:=hz.free 1;have zf2:=hz.free 2))
   all_goals
    go_wp2_with fail;go_meet;have hEB:EntsB base w6 (.slice Au M.1.length cu) M.1:=EntsB.of_match (H4.out.later hW).st.ents hE hT
    first
     | exact ⟨Au,cu,w6.heap.size,rfl,rfl,rfl,Blk.new w6 _ _,hEB.later ((Below.refl _ w6).alloc (Nat.le_refl _) _),hW.alloc hW.size _⟩
     | exact ⟨Au,cu,Y.heap.size,rfl,rfl,rfl,(hEB.box3 H4.out.st.baseLe hz).2,(hEB.box3 H4.out.st.baseLe hz).1,hW.box3 _ hgA _ _ _⟩
  case rest=>
   obtain ⟨A9,c9,g,rfl,rfl,rfl,kg,hE9,hb9⟩:=hcut;have hx9:=H4.out.later hb9;have hk9:=HK4.out.below hb9
   have hgs:¬ g=s:=by
    intro e;subst e;have h1:=hx9.st.blk;unfold Blk at h1 kg;rw [h1] at kg
    injection kg with kg
    injection kg with _ kg _
    exact absurd kg (by decide)
   have hgs2:¬ s=g:=λe=>hgs e.symm
   have m1:=hk9.cell 1 _ rfl;have m6:=hk9.cell 6 _ rfl;have c2:=hx9.st.cell 2 _ (qb _ _ 2 _ rfl);have c3:=hx9.st.cell 3 _ (qb _ _ 3 _ rfl);have c4:=hx9.st.cell 4 _ (qb _ _ 4 _ rfl);have c7:=hx9.st.cell 7 _ (qb _ _ 7 _ rfl);have f2:=hx9.st.free 2;have f3:=hx9.st.free 3;have f4:=hx9.st.free 4;have f7:=hx9.st.free 7;have g0:=kg.cell 0 _ rfl;have g1:=kg.cell 1 _ rfl;have g2:=kg.cell 2 _ rfl;have HX9:=Uq hx9;have HK9:=Uq hk9;have HE9:=Uq hE9;clear hx9 hk9 hE9 hb9 hW hWA hgA kg MK
   by_cases hM:rl.termAt n.log m.index=(m.at_,true)
   ·have hp:=HP.out.1 hM;rw [HM.out] at hp
    have hM0:M.2.2=0:=by rw [← HM.out];unfold rl.match_;rw [if_pos hM]
    have HPP:=Uq hp;clear hp hM;obtain ⟨M1,M2,M3⟩:=M;dsimp only at *;subst hM0;obtain ⟨E,hE⟩:∃ E,max n.commit (min m.commit M2)=E:=⟨_,rfl⟩
    have hEi:max (t1.commit:Int) (min (m.commit:Int) (M2:Int))=(E:Int):=by rw [HTC.out];omega
    have q1:=(HX9.out.store 2 (.int .u64 (t1.term:Int)) (n':=t1) rfl rfl HX9.out.st.ok).store 3 (.int .i64 t1.vote) (n':=t1) rfl rfl HX9.out.st.ok
    have e1:EntsB base ((wc.setCell ⟨s,2,none⟩ (.int .u64 (t1.term:Int))).setCell ⟨s,3,none⟩ (.int .i64 t1.vote)) (.slice A9 M1.length c9) M1:=
     (HE9.out.keep (Keeps.set s 2 wc _) ((Below.refl _ wc).setCell (p:=⟨s,2,none⟩) HX9.out.st.sb _) HX9.out.st.blk).keep (Keeps.set s 3 _ _) ((Below.refl _ _).setCell (p:=⟨s,3,none⟩) HX9.out.st.sb _) (HX9.out.st.blk.set 2 _)
    have q2:=((q1.setLog (.slice A9 M1.length c9) M1 e1).store 7 (.int .u64 (E:Int)) (n':={ t1 with log:=M1,commit:=E }) rfl rfl (HX9.out.st.ok.of rfl rfl rfl)).drew;have k2:=((((HK9.out.other ⟨s,2,none⟩ (.int .u64 (t1.term:Int)) hbs).other ⟨s,3,none⟩ (.int .i64 t1.vote) hbs).other ⟨s,4,none⟩ (.slice A9 M1.length c9) hbs).other ⟨s,7,none⟩ (.int .u64 (E:Int)) hbs).drew;have m1':=k2.cell 1 _ rfl;rw [hE] at HPP
    have hs:=QU { rf.msg0 with kind:=4,dst:=m.frm,ok:=true,index:=M2 } q2.st (EntsB.nil base _) (by have:=HML.out;omega)
    unfold rf.msg0 at hs;have HS:=Uq hs;have HQ2:=Uq q2;clear hs q1 q2 e1 k2 hE;go_wp2_with fail;go_region;go_wp2_with fail;refine HS.out.mono ?_;rintro e w9 ⟨rfl,h9⟩;obtain ⟨A10,c10,B10,d10,h10⟩:=HQ2.out.call h9;have H10:=Uq h10;clear h9 h10;go_wp2;go_end0;rw [HPP.out];exact ⟨rfl,H10.out.to⟩
   ·have hp:=HP.out.2 hM
    have hM0:M.2.2=3:=by rw [← HM.out];unfold rl.match_;rw [if_neg hM]
    have HPP:=Uq hp;clear hp hM;obtain ⟨M1,M2,M3⟩:=M;dsimp only at *;subst hM0;go_wp2_with fail
    refine (Q0 t1.term t1.vote _ t1.log _ HX9.out.st.ents.1 (by rw [HTL.out];have:=HLog.out;omega)).mono ?_
    rw [HTL.out,HL.out];rintro e w10 ⟨rfl,hb10⟩;have hx10:=HX9.out.later hb10;have m1':=(HK9.out.below hb10).cell 1 _ rfl
    have hs:=QU { rf.msg0 with kind:=4,dst:=m.frm,index:=L } hx10.st (EntsB.nil base _) (by have:=HML.out;omega)
    unfold rf.msg0 at hs;have HS:=Uq hs;have HX10:=Uq hx10;clear hs hx10 hb10;go_wp2_with fail;refine HS.out.mono ?_;rintro e w9 ⟨rfl,h9⟩;obtain ⟨A10,c10,B10,d10,h10⟩:=HX10.out.call h9;have H10:=Uq h10;clear h9 h10;go_wp2;refine bodyPost_ret (results_none rfl _ _ _) rfl ?_;rw [HPP.out];have ht:=H10.out.to;exact ⟨rfl,ht⟩
end Go.Proofs.YtppibhieabideaaGreatDoor
