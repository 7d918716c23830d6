/- A part of the walk of the program, and of its plain law. -/
import Derived.Test.YtppibhieabideaaGreatDoorGt32
namespace Go.Proofs.YtppibhieabideaaGreatDoor
set_option maxHeartbeats 4000000
open Go Go.RowKit Go.Deep
set_option maxRecDepth 100000
abbrev qH (w:World) (mm:Nat):Prop:=Vb w mm [.pointer none,.int .i64 0,.int .i64 0] 118
theorem eng_new {w0 w:World} {p b:Nat} {d d1 d2:vd.Disk} (h:Ldk w0 w p b d) (h1:wl.open_ d MANI=(d1,[],0)) (h2:wl.open_ d1 ELOG=(d2,[],0)) (hk:∀ x ∈ d2.files,Known x.1) (hf:d2.files.length≤200) (ht:TabAt w0) :
  Calls Tryz.prog 30 #[dptr p] w λe w'=>∃ ge ed lg tb mm,e=.returned (.tuple #[.pointer (some ⟨ge,0,none⟩),.int .i64 0])∧Ldk w0 w' p b d2∧EngAt w' p ge ed lg tb mm 0 0∧qH w' mm∧w.heap.size≤ge∧w.heap.size≤ed∧w.heap.size≤lg∧w.heap.size≤tb∧w.heap.size≤mm∧Apart [p,b] w w':=by
 obtain ⟨N,hN⟩:∃ N,w.heap.size=N:=⟨_,rfl⟩;have hbase:=h.bel.size
 have HM:=Uq λW=>mem_new W
 obtain ⟨A,hA⟩:∃ A,w.alloc (.map #[] 0)=A:=⟨_,rfl⟩;obtain ⟨B,hB⟩:∃ B,A.alloc (.cells #[.pointer none,.int .i64 0,.int .i64 0] 118)=B:=⟨_,rfl⟩;obtain ⟨C,hC⟩:∃ C,B.alloc (.cells (engC p (.pointer none) (.pointer none) N (N + 1) 0).toArray 173)=C:=⟨_,rfl⟩;obtain ⟨X,hX⟩:∃ X,C.alloc (.cells (kK (N + 1 + 1)).toArray 70)=X:=⟨_,rfl⟩
 have sA:A.heap.size=N + 1:=by rw [← hA,← hN];simp
 have sB:B.heap.size=N + 1 + 1:=by rw [← hB,← sA];simp
 have sC:C.heap.size=N + 1 + 1 + 1:=by rw [← hC,← sB];simp
 have bA:Below N w A:=by rw [← hA,← hN];exact (Below.refl _ w).alloc (Nat.le_refl _) _
 have bB:Below (N + 1) A B:=by rw [← hB,← sA];exact (Below.refl _ A).alloc (Nat.le_refl _) _
 have bC:Below (N + 1 + 1) B C:=by rw [← hC,← sB];exact (Below.refl _ B).alloc (Nat.le_refl _) _
 have bX:Below (N + 1 + 1 + 1) C X:=by rw [← hX,← sC];exact (Below.refl _ C).alloc (Nat.le_refl _) _
 have mA:A.heap[N]?=some (.map #[] 0):=by rw [← hA,← hN];exact (MapKept.heap_alloc w _).1
 have mB:qH B (N + 1):=by rw [← hB,← sA];exact Vb.new A [.pointer none,.int .i64 0,.int .i64 0] _
 have vC:Vb C (N + 1 + 1) (engC p (.pointer none) (.pointer none) N (N + 1) 0) 173:=by rw [← hC,← sB];exact Vb.new B _ _
 have vX:Vb X (N + 1 + 1 + 1) (kK (N + 1 + 1)) 70:=by rw [← hX,← sC];exact Vb.new C _ _
 have bBX:Below (N + 1 + 1) B X:=bC.trans (bX.mono (by omega))
 have bAX:Below (N + 1) A X:=bB.trans (bBX.mono (by omega))
 have bwX:Below N w X:=bA.trans (bAX.mono (by omega))
 have mX:X.heap[N]?=some (.map #[] 0):=(bAX.block N (by omega)).trans mA
 have mmX:qH X (N + 1):=(bBX.block (N + 1) (by omega)).trans mB
 have vCX:Vb X (N + 1 + 1) (engC p (.pointer none) (.pointer none) N (N + 1) 0) 173:=(bX.block (N + 1 + 1) (by omega)).trans vC
 rw [← hN] at bwX;have hX0:=h.later bwX;rw [hN] at bwX;have pl:=h.dk.blk.lt;have bl:=h.dk.map.lt
 have hST:=Uq (vt (G:=N + 1 + 1 + 1) hX0 (by omega) h1 h2 hk hf vCX mX (by simp;omega) vX ht)
 have HX:Hid ((((w.alloc (.map #[] 0)).alloc (.cells #[.pointer none,.int .i64 0,.int .i64 0] 118)).alloc (.cells (engC p (.pointer none) (.pointer none) N (N + 1) 0).toArray 173)).alloc (.cells (kK (N + 1 + 1)).toArray 70)=X):=Uq (by rw [hA,hB,hC,hX])
 have HXX:=Uq (And.intro bwX (And.intro mX (And.intro mmX (And.intro pl bl))));unfold engC kK engFs dptr at HX;clear hA hB hC hX sA sB sC bA bB bC bX mA mB vC vX bBX bAX bwX mX mmX vCX hX0 h h1 h2 hk hf ht pl bl;have hmm:=@run_makeMap Tryz.prog;unfold dptr
 go_enter Tryz.func30,Tryz.ntmps30
 go_upto_region 2 with (go_at_call 17;refine (HM.out _).mono ?_;rintro e w' ⟨rfl,rfl⟩)
 go_wp2_with fail;have hX:=HX.out;simp only [List.map] at hX
 rw [show ((0:Nat):Int)=0 from rfl] at hX
 rw [hX];refine hST.out.mono ?_;rintro e w1 ⟨rfl,hE⟩;have HE:=Uq hE;clear hE hX;go_wp2_with fail
 go_ret2
 obtain ⟨k0,k⟩:=HE.out
 rw [if_neg (by decide),if_neg (by decide)] at k
 obtain ⟨k1,ed,lg,k2,k3,k4,k5,k6⟩:=k;obtain ⟨bwX,mX,mmX,pl,bl⟩:=HXX.out;have hsz:=bwX.size;have hXs:=mmX.lt
 have hnm:N ∉ [p,b,N + 1 + 1]:=by simp;omega
 have hnn:N + 1 ∉ [p,b,N + 1 + 1]:=by simp;omega
 refine ⟨N + 1 + 1,ed,lg,N,N + 1,rfl,k1,⟨k4,k2,k3,(k0.block _ (by omega) hnm).trans mX⟩,Vb.apart mmX k0 hnn,by omega,by omega,by omega,by omega,by omega,?_⟩
 rw [← hN] at bwX
 exact (Apart.of_below bwX [p,b]).then k0 (λx hx=>.inl hx) (λx hx=>by
  simp only [List.mem_cons,List.not_mem_nil,or_false] at hx ⊢
  omega)
theorem uQ (c:ce.Cell) (hm:ce.may c=true) (w:World) :
  Calls Tryz.prog 93 #[qO c] w λe w'=>e=.returned (.bool false)∧Below w.heap.size w w':=by
 obtain ⟨l1,l2,l3,_⟩:=ce.may_len hm
 have HM:=Uq λw=>Ks c ⟨by omega,by omega,by omega⟩ w
 rw [hm] at HM;unfold qO at HM ⊢;clear hm l1 l2 l3
 go_enter Tryz.func93,Tryz.ntmps93
 go_wp2_with (go_at_call 59;refine (HM.out _).mono ?_;rintro e w1 ⟨rfl,hb⟩;have HB:=Uq hb;clear hb)
 go_ret
 exact ⟨rfl,(qd (Below.refl _ w) _).trans (HB.out.mono (by simp))⟩
theorem jp (c:ce.Cell) (hm:ce.may c=true) (w:World) (b k:Nat) (h:CellAt w b 0 c) :
  Calls Tryz.prog 200 #[.slice (some ⟨b,0,none⟩) 1 k,.func (.func 93) #[] #[]] w λe w'=>e=.returned (.int .i64 (-1))∧Below w.heap.size w w':=by
 obtain ⟨c0,c1,c2,c3,c4,c5⟩:=Qb h
 have HW:=Uq λw=>uQ c hm w
 unfold qO at HW;clear h hm
 go_enter Tryz.func200,Tryz.ntmps200
 go_upto_region 2 with fail;refine wp_loop_rounds 2 ?_;rw [rounds_succ]
 go_wp2_with (go_at_call 93;refine (HW.out _).mono ?_;rintro e w1 ⟨rfl,hb⟩;have HB:=Uq hb;clear hb)
 rw [rounds_succ];go_wp2_with fail;go_ret;exact ⟨rfl,HB.out⟩
theorem Kx (c:ce.Cell) (hm:ce.may c=true) (w:World) (b k:Nat) (h:CellAt w b 0 c) :
  Calls Tryz.prog 94 #[.slice (some ⟨b,0,none⟩) 1 k,.func (.func 93) #[] #[]] w λe w'=>e=.returned (.bool false)∧Below w.heap.size w w':=by
 have HI:=Uq (jp c hm w b k h);clear h hm
 go_enter Tryz.func94,Tryz.ntmps94
 go_wp2_with (go_at_call 200;refine HI.out.mono ?_;rintro e w1 ⟨rfl,hb⟩;have HB:=Uq hb;clear hb)
 go_ret;exact ⟨rfl,HB.out⟩
theorem bld_len (B b:Nat) (l:List Value) (w:World) (h:Bld B b l w) (n:Nat) (hn:l.length=n) :
  Calls Tryz.prog 70 #[.pointer (some ⟨b,0,none⟩)] w λe w'=>e=.returned (.int .i64 (n:Int))∧w=w':=by
 have key:∃ v,w.cell? ⟨b,1,none⟩=some v∧w.ownsRow B 5 1 v l.length l:=by
  rcases h with h | h
  ·obtain ⟨hB,v,hbk,hown,hne⟩:=h
   exact ⟨v,by rw [Lib.cell_of_heap hbk];rfl,hown⟩
  ·obtain ⟨hB,v,hbk,hown,hne⟩:=h
   exact ⟨v,by rw [Lib.cell_of_heap hbk];rfl,hown⟩
 obtain ⟨v,c1,hown⟩:=key;obtain ⟨A,c,rfl⟩:=ql hown;rw [hn] at c1;clear h hown hn
 go_enter Tryz.func70,Tryz.ntmps70
 go_wp2_with fail;go_ret;exact ⟨rfl,rfl⟩
def QZ (c:ce.Cell):List Value:=[.string (crcm.mk c.row),.string (crcm.mk c.col),.int .u64 (c.ts:Int),.int .u64 (c.seq:Int),.bool c.del,.string (crcm.mk c.val),.pointer none,.pointer none,.int .i64 0]
theorem JG (c:ce.Cell) (w:World) :
  Calls Tryz.prog 57 #[.pointer none,qO c] w λe w'=>∃ g,e=.returned (.tuple #[.pointer (some ⟨g,0,none⟩),.bool true])∧Vb w' g (QZ c) 247∧w.heap.size≤g∧Below w.heap.size w w':=by
 unfold qO
 go_enter Tryz.func57,Tryz.ntmps57
 go_wp2_with fail
 go_ret2
 exact ⟨w.heap.size + 1,rfl,QQ w _ rfl _ _,by omega,qd (qd (Below.refl _ _) _) _⟩
theorem mm_put1 (c:ce.Cell) (hm:ce.may c=true) (h1:c.ts < 18446744073709551616) (h2:c.seq < 18446744073709551616) (w:World) (mm:Nat) (h:qH w mm) :
  Calls Tryz.prog 18 #[.pointer (some ⟨mm,0,none⟩),qO c] w λe w'=>∃ g n,e=.returned (.int .i64 0)∧Vb w' mm [.pointer (some ⟨g,0,none⟩),.int .i64 1,.int .i64 (n:Int)] 118∧Vb w' g (QZ c) 247∧w.heap.size≤g∧Apart [mm] w w':=by
 obtain ⟨L,hL⟩:∃ L,(ce.enc c).length=L:=⟨_,rfl⟩
 have hL2:L≤1000:=by
  obtain ⟨l1,l2,l3,_⟩:=ce.may_len hm;rw [← hL,ce.enc_len];omega
 have sz:(crcm.mk (ce.enc c)).size=L:=by rw [crcm.mk_size,hL]
 have HE:=Uq λw'=>Zq c hm h1 h2 w'
 have HP:=Uq λw'=>JG c w'
 obtain ⟨X,N,hX,hN,hb,vX⟩:=KF w (qt c) 46;have hX:w.alloc (.cells #[.string (crcm.mk c.row),.string (crcm.mk c.col),.int .u64 (c.ts:Int),.int .u64 (c.seq:Int),.bool c.del,.string (crcm.mk c.val)] 46)=X:=hX
 have MK:Hid (∀ w',Below X.heap.size X w'→w'.cell? ⟨N,0,none⟩=some (.string (crcm.mk c.row))∧w'.cell? ⟨N,1,none⟩=some (.string (crcm.mk c.col))∧w'.cell? ⟨N,2,none⟩=some (.int .u64 (c.ts:Int))∧w'.cell? ⟨N,3,none⟩=some (.int .u64 (c.seq:Int))∧w'.cell? ⟨N,4,none⟩=some (.bool c.del)∧w'.cell? ⟨N,5,none⟩=some (.string (crcm.mk c.val))∧w'.cell? ⟨mm,0,none⟩=some (.pointer none)∧qH w' mm):=Uq λw' hb'=>
  ⟨cell_later hb' (vX.cell 0 _ rfl),cell_later hb' (vX.cell 1 _ rfl),cell_later hb' (vX.cell 2 _ rfl),cell_later hb' (vX.cell 3 _ rfl),cell_later hb' (vX.cell 4 _ rfl),cell_later hb' (vX.cell 5 _ rfl),cell_later (hb.trans (hb'.mono hb.size)) (h.cell 0 _ rfl),((hb.trans (hb'.mono hb.size)).block _ h.lt).trans h⟩
 have hml:=h.lt;obtain ⟨k0,k1,k2,k3,k4,k5,-,-⟩:=MK.out X (Below.refl _ _);have HB:=Uq hb;have HX:=Uq hX;have HN:=Uq hN;have HML:=Uq hml;unfold qO at HE HP ⊢;clear hb hX hN vX h hm h1 h2 hL hml
 go_enter Tryz.func18,Tryz.ntmps18
 go_upto_region 1 with fail;rw [HX.out,HN.out]
 go_upto_region 4 with (go_at_call 56;refine (HE.out _).mono ?_;rintro e w1 ⟨rfl,hb1⟩;have HW1:=Uq hb1;clear hb1)
 have hW:Below X.heap.size X w1.drew:=HW1.out.drew
 go_region_held3 (λw'=>w'.cell? ⟨N,0,none⟩=some (.string (crcm.mk c.row))∧w'.cell? ⟨N,1,none⟩=some (.string (crcm.mk c.col))∧w'.cell? ⟨N,2,none⟩=some (.int .u64 (c.ts:Int))∧w'.cell? ⟨N,3,none⟩=some (.int .u64 (c.seq:Int))∧w'.cell? ⟨N,4,none⟩=some (.bool c.del)∧w'.cell? ⟨N,5,none⟩=some (.string (crcm.mk c.val))∧w'.cell? ⟨mm,0,none⟩=some (.pointer none)) (with_reducible exact (λh=>⟨h.1,h.2.1,h.2.2.1,h.2.2.2.1,h.2.2.2.2.1,h.2.2.2.2.2.1,h.2.2.2.2.2.2.1⟩) (MK.out _ hW)) ((go_at_call 57;refine (HP.out _).mono ?_;rintro e w2 ⟨g,rfl,hg,hge,hb2⟩;have hWold:=hW;have hW:=hW.trans (hb2.mono hW.size)))
 obtain ⟨-,-,-,-,-,-,-,hm2⟩:=MK.out _ hW;have hXw:=HB.out.trans (hW.mono HB.out.size)
 have hgm:¬ g=mm:=by
  have h1:=HML.out;have h2:=HB.out.size;have h3:=hWold.size;omega
 have hgw:w.heap.size≤g:=by
  have h2:=HB.out.size;have h3:=hWold.size;omega
 have c0:w2.cell? ⟨mm,0,none⟩=some (.pointer none):=hm2.cell 0 _ rfl;have c1:w2.cell? ⟨mm,1,none⟩=some (.int .i64 0):=hm2.cell 1 _ rfl;have c2:w2.cell? ⟨mm,2,none⟩=some (.int .i64 0):=hm2.cell 2 _ rfl;have f0:=hm2.free 0;have f1:=hm2.free 1;have f2:=hm2.free 2;have hA:=((Apart.setCell w2 mm 0 (.pointer (some ⟨g,0,none⟩))).trans (Apart.setCell _ mm 1 (.int .i64 1))).trans (Apart.setCell _ mm 2 (.int .i64 (L:Int)));have hV:=((hm2.set 0 (.pointer (some ⟨g,0,none⟩))).set 1 (.int .i64 1)).set 2 (.int .i64 (L:Int))
 have hG:=hg.apart hA (by simpa using hgm)
 have HV:=Uq hV;have HG:=Uq hG;have HA:=Uq ((Apart.of_below hXw [mm]).trans hA);have HGW:=Uq hgw;clear hm2 hXw hgm hgw hA hV hG hg hge hb2 hWold hW k0 k1 k2 k3 k4 k5 hX;go_wp2_with fail;go_ret;exact ⟨g,L,rfl,HV.out,HG.out,HGW.out,HA.out⟩
attribute [local go_sem] Oper.semAt_some
def jV (T:Array Value) (D:List Deferred) (M:World→Prop):Exit→Act→World→Prop:=λe a W=>e=.normal∧a={ tmps:=T,defers:=D }∧M W
def OldKept (n0:Nat) (W0 W W':World):Prop:=Below n0 W W'∧(∀ k,k < W0.heap.size→W'.heap[k]?=W.heap[k]?)∧∀ (k:Nat) (o:Obj),W.heap[k]?=some o→o.isCells=true→W'.heap[k]?=some o
theorem span_on (w:World) (s:ByteArray) (Bt Bf:Nat) (ht:w.cell? ⟨Bt,0,none⟩=some (.string ⟨#[]⟩)) (hf:w.cell? ⟨Bf,0,none⟩=some (.string ⟨#[]⟩)) :
  Calls Tryz.prog 167 #[.string s,.pointer (some ⟨Bt,0,none⟩),.pointer (some ⟨Bf,0,none⟩)] w λe w'=>e=.returned (.tuple #[.bool true,.bool true,.bool true])∧Below w.heap.size w w':=by
 have hb:¬ Op.bytesLess s.toList []=true:=by cases s.toList <;> simp [Op.bytesLess]
 go_enter Tryz.func167,Tryz.ntmps167
 go_wp2_with fail;refine bodyPost_ret (results_tmp3 rfl _ _ _) rfl ?_;exact ⟨rfl,Below.refl _ _⟩
theorem all_fn (w:World) (r:Option Addr) (f:Fn) (x y:Array Value) :
  Calls Tryz.prog 166 #[.pointer r,.func f x y] w λe w'=>e=.returned (.func (.func 279) #[] #[.pointer (some ⟨w.heap.size,0,none⟩),.pointer (some ⟨w.heap.size + 1,0,none⟩)])∧w'=(w.alloc (.cells #[.pointer r] 116)).alloc (.cells #[.func f x y] 254):=by
 have hmf:∀ (fn:Fn) (first cap:Array Value) (w:World),(Instr.makeFunc fn first cap).run Tryz.prog w=.ok (.func fn first cap) w:=λ_ _ _ _=>rfl
 go_enter Tryz.func166,Tryz.ntmps166
 go_wp2_with fail;go_ret;exact ⟨rfl,rfl⟩
theorem jS (n l Bn Bo:Nat) (W:World) (hn:W.cell? ⟨Bn,0,none⟩=some (.pointer none)) :
  CallsIn Fence.wide n Tryz.prog 279 #[.func (.yield l) #[] #[],.pointer (some ⟨Bn,0,none⟩),.pointer (some ⟨Bo,0,none⟩)] W λe W'=>(∃ v,e=.returned v)∧Below W.heap.size W W':=by
 have hn2:=cell_later ((Below.refl _ W).alloc (Nat.le_refl _) (.cells #[.func (.yield l) #[] #[]] 123)) hn;refine callsIn_of_wp_marks Tryz.func279 rfl trivial ?_ rfl;simp only [Tryz.ntmps279,List.size_toArray,List.length_cons,List.length_nil,Nat.reduceAdd,Nat.reduceSub,Array.replicate_succ,Array.replicate_zero,List.push_toArray,List.append_toArray,List.nil_append,List.cons_append]
 gi_wp2
 refine (show LeavesInM Fence.wide n _ _ _ _ [] _ _ from ⟨_,results_none rfl _ _ _,⟨_,rfl⟩,(Below.refl _ W).alloc (Nat.le_refl _) _⟩)
theorem KJ (w:World) (r:Option Addr) (f:Fn) (x y:Array Value) :
  Calls Tryz.prog 166 #[.pointer r,.func f x y] w λe w'=>e=.returned (.func (.func 279) #[] #[.pointer (some ⟨w.heap.size,0,none⟩),.pointer (some ⟨w.heap.size + 1,0,none⟩)])∧Below w.heap.size w w'∧w'.cell? ⟨w.heap.size,0,none⟩=some (.pointer r)∧w'.cell? ⟨w.heap.size + 1,0,none⟩=some (.func f x y)∧w'.heap.size=w.heap.size + 1 + 1:=
 (all_fn w r f x y).mono (by
  rintro e w' ⟨rfl,rfl⟩;have h2:=(Vb.new (w.alloc (.cells #[.pointer r] 116)) [.func f x y] 254).cell 0 _ rfl;rw [World.size_alloc] at h2
  exact ⟨rfl,qd (qd (Below.refl _ w) _) _,cell_later ((Below.refl _ _).alloc (Nat.le_refl _) _) ((Vb.new w [.pointer r] 116).cell 0 _ rfl),h2,by simp⟩)
theorem Um (n:Nat) (hn:3≤n) (c:ce.Cell) (Bn Bo nd Bf Bt:Nat) (w:World) (h1:w.cell? ⟨Bn,0,none⟩=some (.pointer (some ⟨nd,0,none⟩))) (h2:Vb w nd (QZ c) 247) (h3:w.cell? ⟨Bo,0,none⟩=some (.func (.func 167) #[] #[.pointer (some ⟨Bt,0,none⟩),.pointer (some ⟨Bf,0,none⟩)]))
  (ht:w.cell? ⟨Bt,0,none⟩=some (.string ⟨#[]⟩)) (hf:w.cell? ⟨Bf,0,none⟩=some (.string ⟨#[]⟩)) :
  Once Fence.wide n Tryz.prog 279 #[.pointer (some ⟨Bn,0,none⟩),.pointer (some ⟨Bo,0,none⟩)] #[qO c] (Below w.heap.size) (OldKept w.heap.size) w:=by
 intro l R W hW hY
 have HK:Hid (∀ w',Below w.heap.size w w'→w'.cell? ⟨Bn,0,none⟩=some (.pointer (some ⟨nd,0,none⟩))∧Vb w' nd (QZ c) 247∧w'.cell? ⟨Bo,0,none⟩=some (.func (.func 167) #[] #[.pointer (some ⟨Bt,0,none⟩),.pointer (some ⟨Bf,0,none⟩)])∧w'.cell? ⟨Bt,0,none⟩=some (.string ⟨#[]⟩)∧w'.cell? ⟨Bf,0,none⟩=some (.string ⟨#[]⟩)):=Uq λw' hb=>⟨cell_later hb h1,(hb.block _ h2.lt).trans h2,cell_later hb h3,cell_later hb ht,cell_later hb hf⟩
 have HY:=Uq hY
 have HS:Hid (∀ w',Below w.heap.size w w'→Calls Tryz.prog 167 #[.string (crcm.mk c.row),.pointer (some ⟨Bt,0,none⟩),.pointer (some ⟨Bf,0,none⟩)] w' λe w''=>e=.returned (.tuple #[.bool true,.bool true,.bool true])∧Below w'.heap.size w' w''):=Uq λw' hb=>span_on w' _ Bt Bf (HK.out _ hb).2.2.2.1 (HK.out _ hb).2.2.2.2
 clear h1 h2 h3 ht hf hY;obtain ⟨X,hX⟩:∃ X,W.alloc (.cells #[.func (.yield l) #[] #[]] 123)=X:=⟨_,rfl⟩;obtain ⟨N,hN⟩:∃ N,W.heap.size=N:=⟨_,rfl⟩
 have vX:Vb X N [.func (.yield l) #[] #[]] 123:=by rw [← hX,← hN];exact Vb.new W _ _
 have bX:Below W.heap.size W X:=by rw [← hX];exact (Below.refl _ W).alloc (Nat.le_refl _) _
 have BX:=Uq bX;have BW:=Uq (hW.trans (bX.mono hW.size));obtain ⟨k1,k2,k3,k4,k5⟩:=HK.out _ BW.out;have y0:=vX.cell 0 _ rfl;have n0:=k2.cell 0 _ rfl
 have j1:(W.alloc (.cells #[.func (.yield l) #[] #[]] 123)).cell? ⟨Bn,0,none⟩=some (.pointer (some ⟨nd,0,none⟩)):=by rw [hX];exact k1
 have VX:=Uq vX;have HX:=Uq hX;have HN:=Uq hN;clear vX bX hX hN hW k4 k5;refine callsIn_of_wp_marks Tryz.func279 rfl trivial ?_ rfl;simp only [Tryz.ntmps279,List.size_toArray,List.length_cons,List.length_nil,Nat.reduceAdd,Nat.reduceSub,Array.replicate_succ,Array.replicate_zero,List.push_toArray,List.append_toArray,List.nil_append,List.cons_append]
 gi_wp2_with fail
 rw [HX.out,HN.out];clear j1
 have hn1:1≤n:=by omega
 refine wpIn_mono (Q:=jV #[.func (.yield l) #[] #[],.pointer (some ⟨Bn,0,none⟩),.pointer (some ⟨Bo,0,none⟩),.pointer (some ⟨N,0,none⟩),.bool true,.bool true,.bool true,undef,undef,.pointer (some ⟨nd,0,none⟩),.bool false,.tuple #[.bool true,.bool true,.bool true],.func (.func 167) #[] #[.pointer (some ⟨Bt,0,none⟩),.pointer (some ⟨Bf,0,none⟩)],.pointer (some ⟨nd,0,none⟩),.pointer (some ⟨nd,0,none⟩),.pointer (some ⟨nd,0,none⟩),.pointer (some ⟨nd,0,none⟩),.string (crcm.mk c.row),.tuple #[.bool true,.bool true,.bool true],.bool true,.bool true,.bool true,undef,undef,undef,undef,undef,undef,undef,undef,undef,undef,undef,undef,undef,undef,undef,undef,undef,undef,undef,undef,undef,undef,undef,undef,undef,undef,undef,undef,undef,undef,undef,undef,undef,undef] [] (Below X.heap.size X)) ?_ ?_
 ·refine wpIn_mono (Q:=Qs _) ?_ (Qa _)
  gi_region_with (refine ⟨trivial,(callsIn_wide.2 (HS.out _ (below_drewN BW.out 1))).mono ?_⟩;rintro e w1 ⟨rfl,hb1⟩)
  all_goals refine ⟨rfl,by go_simp,(below_drewN (Below.refl _ X) 1).trans hb1⟩
 rintro e a1 w1 ⟨rfl,rfl,hb1⟩;have BW1:=Uq (BW.out.trans (hb1.mono BW.out.size));obtain ⟨k1,k2,k3,k4,k5⟩:=HK.out _ BW1.out;have n0:=k2.cell 0 _ rfl;have n6:=k2.cell 6 _ rfl;have n7:=k2.cell 7 _ rfl;clear k4 k5
 gi_wp2
 refine wpIn_mono (Q:=jV #[.func (.yield l) #[] #[],.pointer (some ⟨Bn,0,none⟩),.pointer (some ⟨Bo,0,none⟩),.pointer (some ⟨N,0,none⟩),.bool true,.bool true,.bool true,undef,undef,.pointer (some ⟨nd,0,none⟩),.bool false,.tuple #[.bool true,.bool true,.bool true],.func (.func 167) #[] #[.pointer (some ⟨Bt,0,none⟩),.pointer (some ⟨Bf,0,none⟩)],.pointer (some ⟨nd,0,none⟩),.pointer (some ⟨nd,0,none⟩),.pointer (some ⟨nd,0,none⟩),.pointer (some ⟨nd,0,none⟩),.string (crcm.mk c.row),.tuple #[.bool true,.bool true,.bool true],.bool true,.bool true,.bool true,.bool true,.pointer (some ⟨nd,0,none⟩),.pointer (some ⟨nd,0,none⟩),.pointer (some ⟨nd,6,none⟩),.pointer none,.func (.func 167) #[] #[.pointer (some ⟨Bt,0,none⟩),.pointer (some ⟨Bf,0,none⟩)],.func (.func 279) #[] #[.pointer (some ⟨w1.heap.size,0,none⟩),.pointer (some ⟨w1.heap.size + 1,0,none⟩)],undef,undef,undef,undef,undef,undef,undef,undef,undef,undef,undef,undef,undef,undef,undef,undef,undef,undef,undef,undef,undef,undef,undef,undef,undef,undef,undef] [] (λW=>Below w1.heap.size w1 W∧W.cell? ⟨w1.heap.size,0,none⟩=some (.pointer none))) ?_ ?_
 ·refine wpIn_mono (Q:=Qs _) ?_ (Qa _)
  gi_region_with (refine ⟨trivial,(callsIn_wide.2 (KJ _ _ _ _ _)).mono ?_⟩;rintro e w2 ⟨rfl,hb2,q1,q2,q3⟩)
  all_goals refine ⟨rfl,by go_simp,(below_drewN (Below.refl _ w1) 1).trans hb2,q1⟩
 rintro e a2 w2 ⟨rfl,rfl,hb2,hc2⟩;have BW2:=Uq (BW1.out.trans (hb2.mono BW1.out.size));clear k1 k2 k3 n0 n6 n7
 gi_wp2
 refine QF rfl hn1 (gf:=279) (lb:=#[.pointer (some ⟨w1.heap.size,0,none⟩),.pointer (some ⟨w1.heap.size + 1,0,none⟩)]) rfl trivial (enters_of Tryz.func279 (by kernel_rfl) rfl) (λl3 W3 hb3=>jS _ _ _ _ _ (cell_later hb3 hc2)) ?_
 intro D1 w3 hD1 hb3 hk3;have hbw13:Below w1.heap.size w1 w3:=hb2.trans (hb3.mono hb2.size);have BW3:=Uq (BW2.out.trans (hb3.mono BW2.out.size));have BC3:Hid (Below W.heap.size W w3):=Uq (BX.out.trans ((hb1.trans (hbw13.mono hb1.size)).mono BX.out.size));obtain ⟨k1,k2,k3,k4,k5⟩:=HK.out _ BW3.out;have c0:=k2.cell 0 _ rfl;have c1:=k2.cell 1 _ rfl;have c2:=k2.cell 2 _ rfl;have c3:=k2.cell 3 _ rfl;have c4:=k2.cell 4 _ rfl;have c5:=k2.cell 5 _ rfl;have y3:w3.cell? ⟨N,0,none⟩=some (.func (.yield l) #[] #[]):=cell_later (hb1.trans (hbw13.mono hb1.size)) y0;have hD3:D1 < w3.heap.size:=(Array.getElem?_eq_some_iff.1 hk3).1;have HD:=Uq (And.intro hD1 hk3);have HH3:=Uq hbw13
 have hsz:W.heap.size≤w2.heap.size:=by
  have e1:=BX.out.size;have e2:=hb1.size;have e3:=hb2.size;omega
 have HSZ:=Uq hsz;clear y0 hc2 hD1 hk3 hb1 hb2 hb3 hbw13 k2 k4 k5 hsz
 obtain ⟨fn,tmps,assign,body,hy,hR⟩:=HY.out w3.drew (show Below W.heap.size W w3.drew from below_drewN BC3.out 1)
 unfold qO at hy
 gi_wp2
 refine wpIn_mono (Q:=jV #[.func (.yield l) #[] #[],.pointer (some ⟨Bn,0,none⟩),.pointer (some ⟨Bo,0,none⟩),.pointer (some ⟨N,0,none⟩),.bool true,.bool true,.bool true,undef,undef,.pointer (some ⟨nd,0,none⟩),.bool false,.tuple #[.bool true,.bool true,.bool true],.func (.func 167) #[] #[.pointer (some ⟨Bt,0,none⟩),.pointer (some ⟨Bf,0,none⟩)],.pointer (some ⟨nd,0,none⟩),.pointer (some ⟨nd,0,none⟩),.pointer (some ⟨nd,0,none⟩),.pointer (some ⟨nd,0,none⟩),.string (crcm.mk c.row),.tuple #[.bool true,.bool true,.bool true],.bool true,.bool true,.bool true,.bool true,.pointer (some ⟨nd,0,none⟩),.pointer (some ⟨nd,0,none⟩),.pointer (some ⟨nd,6,none⟩),.pointer none,.func (.func 167) #[] #[.pointer (some ⟨Bt,0,none⟩),.pointer (some ⟨Bf,0,none⟩)],.func (.func 279) #[] #[.pointer (some ⟨w1.heap.size,0,none⟩),.pointer (some ⟨w1.heap.size + 1,0,none⟩)],undef,undef,undef,undef,undef,.bool true,.bool true,.func (.yield l) #[] #[],.pointer (some ⟨nd,0,none⟩),.pointer (some ⟨nd,0,none⟩),.pointer (some ⟨nd,0,none⟩),qO c,.bool true,.bool false,.bool false,undef,undef,undef,undef,undef,undef,undef,undef,undef,undef,undef,undef] [{ target:=.collected D1,args:=#[] }] (λW4=>Below w.heap.size w3 W4∧KeepsFrom W.heap.size w3 W4∧R W4)) ?_ ?_
 ·refine wpIn_mono (Q:=Qs _) ?_ (Qa _)
  gi_region_with (refine hR.mono ?_;rintro e w4 ⟨rfl,hk4,hf4,hr4⟩)
  all_goals refine ⟨rfl,by unfold qO;go_simp,(below_drewN (Below.refl _ w3) 1).trans hk4,((KeepsOthers.drew _).from _).trans hf4,hr4⟩
 rintro e a4 w4 ⟨rfl,rfl,hb4,hf4,hr4⟩;have BW4:=Uq (BW3.out.trans hb4);obtain ⟨j1,j2,j3,j4,j5⟩:=HK.out _ BW4.out;have n7:=j2.cell 7 _ rfl;have HB4:=Uq hb4;have HR4:=Uq hr4
 have hkD1:w4.heap[D1]?=some (.deferred (some [])):=hf4.same _ _ (by have:=HSZ.out;have:=HD.out.1;omega) HD.out.2 rfl
 have HKD:=Uq (And.intro hkD1 hf4);clear k1 k3 c0 c1 c2 c3 c4 c5 y3 hy hR hkD1 hf4 hb4 hr4 j2 j4 j5
 gi_wp2
 refine wpIn_mono (Q:=jV #[.func (.yield l) #[] #[],.pointer (some ⟨Bn,0,none⟩),.pointer (some ⟨Bo,0,none⟩),.pointer (some ⟨N,0,none⟩),.bool true,.bool true,.bool true,undef,undef,.pointer (some ⟨nd,0,none⟩),.bool false,.tuple #[.bool true,.bool true,.bool true],.func (.func 167) #[] #[.pointer (some ⟨Bt,0,none⟩),.pointer (some ⟨Bf,0,none⟩)],.pointer (some ⟨nd,0,none⟩),.pointer (some ⟨nd,0,none⟩),.pointer (some ⟨nd,0,none⟩),.pointer (some ⟨nd,0,none⟩),.string (crcm.mk c.row),.tuple #[.bool true,.bool true,.bool true],.bool true,.bool true,.bool true,.bool true,.pointer (some ⟨nd,0,none⟩),.pointer (some ⟨nd,0,none⟩),.pointer (some ⟨nd,6,none⟩),.pointer none,.func (.func 167) #[] #[.pointer (some ⟨Bt,0,none⟩),.pointer (some ⟨Bf,0,none⟩)],.func (.func 279) #[] #[.pointer (some ⟨w1.heap.size,0,none⟩),.pointer (some ⟨w1.heap.size + 1,0,none⟩)],undef,undef,undef,undef,undef,.bool true,.bool true,.func (.yield l) #[] #[],.pointer (some ⟨nd,0,none⟩),.pointer (some ⟨nd,0,none⟩),.pointer (some ⟨nd,0,none⟩),qO c,.bool true,.bool false,.bool false,.bool true,.pointer (some ⟨nd,0,none⟩),.pointer (some ⟨nd,0,none⟩),.pointer (some ⟨nd,7,none⟩),.pointer none,.func (.func 167) #[] #[.pointer (some ⟨Bt,0,none⟩),.pointer (some ⟨Bf,0,none⟩)],.func (.func 279) #[] #[.pointer (some ⟨w4.heap.size,0,none⟩),.pointer (some ⟨w4.heap.size + 1,0,none⟩)],undef,undef,undef,undef,undef] [{ target:=.collected D1,args:=#[] }] (λW=>Below w4.heap.size w4 W∧W.cell? ⟨w4.heap.size,0,none⟩=some (.pointer none))) ?_ ?_
 ·refine wpIn_mono (Q:=Qs _) ?_ (Qa _)
  gi_region_with (refine ⟨trivial,(callsIn_wide.2 (KJ _ _ _ _ _)).mono ?_⟩;rintro e w2 ⟨rfl,hb2,q1,q2,q3⟩)
  all_goals refine ⟨rfl,by go_simp,(below_drewN (Below.refl _ w4) 1).trans hb2,q1⟩
 rintro e a5 w5 ⟨rfl,rfl,hb5,hc5⟩;clear j1 j3 n7
 gi_wp2
 refine QF rfl hn1 (gf:=279) (lb:=#[.pointer (some ⟨w4.heap.size,0,none⟩),.pointer (some ⟨w4.heap.size + 1,0,none⟩)]) rfl trivial (enters_of Tryz.func279 (by kernel_rfl) rfl) (λl3 W3 hb3=>jS _ _ _ _ _ (cell_later hb3 hc5)) ?_
 intro D2 w6 hD2 hb6 hk6;have hb46:Below w4.heap.size w4 w6:=hb5.trans (hb6.mono hb5.size);have hD4:D1 < w4.heap.size:=(Array.getElem?_eq_some_iff.1 HKD.out.1).1;have hkD1:w6.heap[D1]?=some (.deferred (some [])):=(hb46.block _ hD4).trans HKD.out.1
 have hne:D1 ≠ D2:=by have:=hb5.size;omega
 have HF:=Uq (And.intro hb46 (And.intro hD4 (And.intro hne (And.intro hk6 hkD1))));have HD2:=Uq hD2;have HS5:=Uq hb5.size;clear hb5 hc5 hD2 hb6 hk6 hb46 hD4 hkD1 hne
 gi_wp2
 refine ⟨by simp,.inl ⟨_,_,rfl,run_takeDeferred HF.out.2.2.2.1,?_⟩⟩
 refine ⟨by simp,.inl ⟨_,_,rfl,run_takeDeferred ((World.putObj_heap_other HF.out.2.2.1).trans HF.out.2.2.2.2),?_⟩⟩
 refine ⟨_,results_none rfl _ _ _,⟨_,rfl⟩,w4,HR4.out,?_⟩;obtain ⟨hb46,hD4,hne,hk6,hk61⟩:=HF.out;have s1:=BW.out.size;have s2:=BW4.out.size;have s3:=HD.out.1;have s4:=HD2.out;have s5:=HS5.out;have s6:=HSZ.out;have s7:=BX.out.size;have s8:=hb46.size;have s9:=BW2.out.size;have hk41:=HKD.out.1
 refine ⟨((hb46.mono s2).trans (belowK_b (w:=w) (Nat.le_refl _) w6 D2 _ (.deferred none) (by omega) hk6 rfl rfl)).trans (belowK_b (w:=w) (Nat.le_refl _) _ D1 _ (.deferred none) (by omega) ((World.putObj_heap_other hne).trans hk61) rfl rfl),λk hk=>?_,λk o hk ho=>?_⟩
 ·rw [World.putObj_heap_other (by omega),World.putObj_heap_other (by omega)]
  exact hb46.block k (by omega)
 ·have hlt:k < w4.heap.size:=(Array.getElem?_eq_some_iff.1 hk).1
  have hn1:k ≠ D1:=λe=>by
   subst e;rw [hk41] at hk
   cases hk
   cases ho
  rw [World.putObj_heap_other hn1,World.putObj_heap_other (by omega)]
  exact (hb46.block k hlt).trans hk
attribute [local go_sem] Oper.semAt_some
theorem Y0 {W W':World} {base:Nat} {e:TypeId} {size k:Nat} {v:Value} {xs:List Value} (h:W.ownsRow base e size v k xs) (hk:∀ (k:Nat) (o:Obj),W.heap[k]?=some o→o.isCells=true→W'.heap[k]?=some o):W'.ownsRow base e size v k xs:=by
 refine ⟨h.1,?_⟩
 rcases h.2 with h | ⟨g,cap,cur,e1,h1,h2,r⟩
 ·exact .inl h
 ·exact .inr ⟨g,cap,cur,e1,h1,hk g _ h2 rfl,r⟩
theorem vb_own (B Bx:Nat) (vs:List Value) (t:TypeId):OwnFrom B (λ(_:Unit) W=>Vb W Bx vs t):=λs A W' row hs hg hr=>
 (hg.block Bx hs.lt (λe=>by
  obtain ⟨_,o,ho,hc⟩:=hr Bx e.symm;unfold Vb at hs;rw [hs] at ho
  cases ho
  cases hc)).trans hs
theorem Ya {w:World} {b:Nat} {vs:List Value} {t:TypeId} (h:Vb w b vs t):∀ j u,vs[j]?=some u→w.cell? ((⟨b,0,none⟩:Addr).add j)=some u:=λj u hj=>by
 rw [qn,Nat.zero_add];exact h.cell j u hj
theorem seq_one (c:ce.Cell) (Bn Bo nd Bf Bt:Nat) (w:World) (h1:w.cell? ⟨Bn,0,none⟩=some (.pointer (some ⟨nd,0,none⟩))) (h2:Vb w nd (QZ c) 247) (h3:w.cell? ⟨Bo,0,none⟩=some (.func (.func 167) #[] #[.pointer (some ⟨Bt,0,none⟩),.pointer (some ⟨Bf,0,none⟩)]))
  (ht:w.cell? ⟨Bt,0,none⟩=some (.string ⟨#[]⟩)) (hf:w.cell? ⟨Bf,0,none⟩=some (.string ⟨#[]⟩)) :
  Calls Tryz.prog 278 #[.slice none 0 0,.func (.func 279) #[] #[.pointer (some ⟨Bn,0,none⟩),.pointer (some ⟨Bo,0,none⟩)]] w λe w'=>∃ v,e=.returned v∧w'.ownsRow w.heap.size 46 6 v 1 (qt c)∧Below w.heap.size w w':=by
 obtain ⟨i0,hi,hz0,hz1,hz2⟩:=info_parts Za
 have HONE:=Uq (Um 5 (by decide) c Bn Bo nd Bf Bt w h1 h2 h3 ht hf)
 clear h1 h2 h3 ht hf;obtain ⟨w1,hw1⟩:∃ w1,w.alloc (.cells #[.slice none 0 0] 40)=w1:=⟨_,rfl⟩;obtain ⟨B,hB⟩:∃ B,w.heap.size=B:=⟨_,rfl⟩
 have hs1:w1.heap.size=B + 1:=by rw [← hw1,World.size_alloc,hB]
 have hb1:Below w.heap.size w w1:=by rw [← hw1];exact (Below.refl _ w).alloc (Nat.le_refl _) _
 have bx:Boxed w1 B 40 (.slice none 0 0):=by rw [← hw1,← hB];exact Boxed.new w _ _
 refine (callsIn_wide (n:=6)).1 ?_;refine callsIn_of_wp_marks Tryz.func278 rfl trivial ?_ rfl;simp only [Tryz.ntmps278,List.size_toArray,List.length_cons,List.length_nil,Nat.reduceAdd,Nat.reduceSub,Array.replicate_succ,Array.replicate_zero,List.push_toArray,List.append_toArray,List.nil_append,List.cons_append]
 gi_wp2
 rw [hB] at hb1
 refine QK rfl (by decide) (gf:=279) (lb:=#[.pointer (some ⟨Bn,0,none⟩),.pointer (some ⟨Bo,0,none⟩)]) rfl trivial (enters_of Tryz.func279 (by kernel_rfl) rfl)
  HONE.out belowK_t (belowK_b (by omega)) (by rw [hB];exact hb1) rfl
  (λW=>(∃ v,Boxed W B 40 v∧W.ownsRow B 46 6 v 1 (qt c)∧True)∧Below B w W) (λW=>(∃ v,Boxed W B 40 v∧W.ownsRow B 46 6 v 1 (qt c)∧True)∧Below B w W)
  (OwnFrom.and (Own.from (holdsRow_own B B 40 46 6 (λ_:Unit=>1) (λ_=>qt c) (λ_ _=>True)) _) (ownFrom_below (by omega) (by omega)))
  (OwnFrom.and (Own.from (holdsRow_own B B 40 46 6 (λ_:Unit=>1) (λ_=>qt c) (λ_ _=>True)) _) (ownFrom_below (by omega) (by omega)))
  ?hT (λa' W=>∃ Bx,B < Bx∧Vb W Bx (qt c) 46∧a'={ tmps:=#[.slice none 0 0,.func (.func 279) #[] #[.pointer (some ⟨Bn,0,none⟩),.pointer (some ⟨Bo,0,none⟩)],.pointer (some ⟨B,0,none⟩),undef,.slice none 0 0,.pointer (some ⟨Bx,0,none⟩),.func (.func 279) #[] #[.pointer (some ⟨Bn,0,none⟩),.pointer (some ⟨Bo,0,none⟩)],qO c,undef,undef,undef,undef,undef],defers:=[] }) ?hAx ?assign ?body ?done
 case hT=>
  rintro W0 W W' hb0 ⟨⟨v,hv,hr,_⟩,hb⟩ ⟨k1,k2,k3⟩
  exact ⟨⟨⟨v,k3 _ _ hv rfl,Y0 hr k3,trivial⟩,hb.trans (by rw [← hB];exact k1)⟩,λk o _ hk ho _=>(k2 k hk).trans ho⟩
 case hAx=>
  rintro a' s A W' row ⟨Bx,hx,hv,e⟩ hg hr;exact ⟨Bx,hx,vb_own _ Bx _ _ () A W' row hv hg hr,e⟩
 case assign=>
  intro l W K hb hK;have hle:w1.heap.size≤W.heap.size:=hb.size;unfold qO
  gi_wp2
  refine hK _ _ ((KeepsOthers.alloc _ _).from _) ((Below.refl _ W).alloc (by omega) _) (hb.alloc hle _) ⟨W.heap.size,by omega,Vb.new W _ _,rfl⟩
 case body=>
  rintro l a' W hl hr hb ⟨Bx,hx,vx,rfl⟩;have hle:w1.heap.size≤W.heap.size:=hb.size
  have hv:Boxed W B 40 (.slice none 0 0):=(hb.block B (by omega)).trans bx
  have hc:=hv.cell;have x0:=vx.cell 0 _ rfl;have x1:=vx.cell 1 _ rfl;have x2:=vx.cell 2 _ rfl;have x3:=vx.cell 3 _ rfl;have x4:=vx.cell 4 _ rfl;have x5:=vx.cell 5 _ rfl
  gi_wp2_with (gi_at_builtin;refine wpListIn_append_own _ rfl _ _ 40 rfl B 46 i0 (.agg #[.string .empty,.string .empty,.int .u64 0,.int .u64 0,.bool false,.string .empty]) 6 72 Tryz.underlying40 hi hz0 hz1 hz2 rfl (by decide) (.slice none 0 0) 0 [] rfl (World.ownsRow_nil _ _ _ _) ⟨W.heap.size,0,none⟩ 1 1 (qt c) rfl rfl (Ya (Vb.new W (qt c) 46)) (Qj c) (by unfold maxLen;omega) (by omega) (by simp;omega) ?_;intro v' w2 hown' hgrow _;obtain ⟨g',cap',rfl⟩:=ownsRow_succ hown';obtain ⟨hv1,hv2,hr2,hk2,hb2⟩:=hv.appended (by decide) (World.ownsRow_nil _ _ _ _) (show B≤W.heap.size by omega) (Nat.le_refl _) hown' hgrow;have hc1:=hv1.cell;have hf1:=hv1.frozen)
  exact ⟨hk2.from _,⟨_,hv2,hr2⟩,(hb1.trans (hb.mono (by omega))).trans hb2⟩
 case done=>
  rintro D W hD ⟨⟨v,hv,hr,_⟩,hb⟩ hK;have hc:=hv.cell;obtain ⟨g',cap',rfl⟩:=ownsRow_succ (k:=0) hr
  gi_wp2
  refine ⟨by simp,.inl ⟨_,_,rfl,run_takeDeferred hK,?_⟩⟩
  refine ⟨_,results_tmp rfl _ _ _,?_⟩;rw [hB]
  exact ⟨_,rfl,ownsRow_putObj hr _ hK rfl,hb.trans (belowK_b (w:=w1) (by omega) W D _ _ hD hK rfl rfl)⟩
theorem jK (c:ce.Cell) (Bn Bo nd Bf Bt:Nat) (w:World) (h1:w.cell? ⟨Bn,0,none⟩=some (.pointer (some ⟨nd,0,none⟩))) (h2:Vb w nd (QZ c) 247) (h3:w.cell? ⟨Bo,0,none⟩=some (.func (.func 167) #[] #[.pointer (some ⟨Bt,0,none⟩),.pointer (some ⟨Bf,0,none⟩)]))
  (ht:w.cell? ⟨Bt,0,none⟩=some (.string ⟨#[]⟩)) (hf:w.cell? ⟨Bf,0,none⟩=some (.string ⟨#[]⟩)) :
  Calls Tryz.prog 165 #[.func (.func 279) #[] #[.pointer (some ⟨Bn,0,none⟩),.pointer (some ⟨Bo,0,none⟩)]] w λe w'=>∃ b k,e=.returned (.slice (some ⟨b,0,none⟩) 1 k)∧CellAt w' b 0 c∧1≤k∧w.heap.size≤b∧Below w.heap.size w w':=by
 have HS:=Uq (seq_one c Bn Bo nd Bf Bt w h1 h2 h3 ht hf);clear h1 h2 h3 ht hf
 go_enter Tryz.func165,Tryz.ntmps165
 go_wp2_with (go_at_call 278;refine HS.out.mono ?_;rintro e w1 ⟨v,rfl,ho,hb⟩;obtain ⟨b3,k3,rfl,p1,p2,p3,p4,p5⟩:=QP ho;have HP:=Uq (And.intro p4 (And.intro p3 (And.intro p1 hb)));clear ho hb p1 p2 p3 p4 p5)
 go_ret;exact ⟨_,_,rfl,HP.out.1,HP.out.2.1,HP.out.2.2.1,HP.out.2.2.2⟩
set_option maxHeartbeats 2000000 in
theorem VG {mm g:Nat} {n:Int} (c:ce.Cell) (w:World) (hm:Vb w mm [.pointer (some ⟨g,0,none⟩),.int .i64 1,.int .i64 n] 118) (hg:Vb w g (QZ c) 247) :
  Calls Tryz.prog 58 #[.pointer (some ⟨mm,0,none⟩),.string ⟨#[]⟩,.string ⟨#[]⟩] w λe w'=>∃ b k,e=.returned (.slice (some ⟨b,0,none⟩) 1 k)∧CellAt w' b 0 c∧1≤k∧w.heap.size≤b∧Below w.heap.size w w':=by
 have hmf:∀ (fn:Fn) (first cap:Array Value) (w:World),(Instr.makeFunc fn first cap).run Tryz.prog w=.ok (.func fn first cap) w:=λ_ _ _ _=>rfl
 obtain ⟨w2,hw2⟩:∃ w2,(w.alloc (.cells #[.string ⟨#[]⟩] 9)).alloc (.cells #[.string ⟨#[]⟩] 9)=w2:=⟨_,rfl⟩;obtain ⟨B,hB⟩:∃ B,w.heap.size=B:=⟨_,rfl⟩
 have hb2:Below w.heap.size w w2:=by rw [← hw2];exact qd (qd (Below.refl _ w) _) _
 have hs2:w2.heap.size=B + 1 + 1:=by rw [← hw2,World.size_alloc,World.size_alloc,hB]
 have v0:Vb w2 B [.string ⟨#[]⟩] 9:=by rw [← hw2,← hB];exact ((Below.refl _ _).alloc (Nat.le_refl _) _).block _ (Vb.new w [.string ⟨#[]⟩] 9).lt |>.trans (Vb.new w _ _)
 have v1:Vb w2 (B + 1) [.string ⟨#[]⟩] 9:=by
  have:=Vb.new (w.alloc (.cells #[.string ⟨#[]⟩] 9)) [.string ⟨#[]⟩] 9;rw [World.size_alloc,hB] at this;rw [← hw2];exact this
 have hm2:=(hb2.block _ hm.lt).trans hm;have hg2:Vb w2 g (QZ c) 247:=(hb2.block _ hg.lt).trans hg;have c0:w2.cell? ⟨mm,0,none⟩=some (.pointer (some ⟨g,0,none⟩)):=Vb.cell (g:=mm) hm2 0 _ rfl
 have HCL:=Uq λw3 (hb:Below w2.heap.size w2 w3) (q1:w3.cell? ⟨w2.heap.size,0,none⟩=some (.pointer (some ⟨g,0,none⟩))) (q2:w3.cell? ⟨w2.heap.size + 1,0,none⟩=some (.func (.func 167) #[] #[.pointer (some ⟨B + 1,0,none⟩),.pointer (some ⟨B,0,none⟩)]))=>jK c w2.heap.size (w2.heap.size + 1) g B (B + 1) w3 q1 ((hb.block _ hg2.lt).trans hg2) q2 (cell_later hb (v1.cell 0 _ rfl)) (cell_later hb (v0.cell 0 _ rfl))
 have HB2:=Uq (And.intro hb2 hs2);clear hm hg hm2 hg2 v0 v1 hb2 hs2
 go_enter Tryz.func58,Tryz.ntmps58
 go_wp2_with (first | (go_at_call 166;refine (KJ _ _ _ _ _).mono ?_;rintro e w3 ⟨rfl,hb3,q1,q2,q3⟩;have HB3:=Uq hb3;have HC3:=Uq (HCL.out _ hb3 q1 q2);clear hb3 q1 q2 q3) | (go_at_call 165;refine HC3.out.mono ?_;rintro e w4 ⟨b,k,rfl,r1,r2,r3,r4⟩;have HP:=Uq (And.intro r1 (And.intro r2 (And.intro r3 r4)));clear r1 r2 r3 r4))
 go_ret;rw [hB];have e1:=HB2.out.1.size;have e2:=HB3.out.size;refine ⟨_,_,rfl,HP.out.1,HP.out.2.1,?_,?_⟩
 ·have:=HP.out.2.2.1;omega
 ·rw [← hB];exact HB2.out.1.trans ((HB3.out.trans (HP.out.2.2.2.mono e2)).mono e1)
theorem vH {mm g:Nat} {n:Int} (c:ce.Cell) (w:World) (hm:Vb w mm [.pointer (some ⟨g,0,none⟩),.int .i64 1,.int .i64 n] 118) (hg:Vb w g (QZ c) 247) :
  Calls Tryz.prog 19 #[.pointer (some ⟨mm,0,none⟩)] w λe w'=>∃ b k,e=.returned (.slice (some ⟨b,0,none⟩) 1 k)∧CellAt w' b 0 c∧1≤k∧w.heap.size≤b∧Below w.heap.size w w':=by
 have HS:=Uq (VG c w hm hg);clear hm hg
 go_enter Tryz.func19,Tryz.ntmps19
 go_wp2_with (go_at_call 58;refine HS.out.mono ?_;rintro e w4 ⟨b,k,rfl,r1,r2,r3,r4⟩;have HP:=Uq (And.intro r1 (And.intro r2 (And.intro r3 r4)));clear r1 r2 r3 r4)
 go_ret;exact ⟨_,_,rfl,HP.out.1,HP.out.2.1,HP.out.2.2.1,HP.out.2.2.2⟩
section
variable {w:World} {b k:Nat} {c:ce.Cell}
theorem vw_past (c:ce.Cell) (n q:Nat) (hn:c.seq≤n) (w:World) (hq:w.cell? ⟨q,0,none⟩=some (.int .u64 (n:Int))) :
  Calls Tryz.prog 323 #[qO c,.pointer (some ⟨q,0,none⟩)] w λe w'=>e=.returned (.bool false)∧Below w.heap.size w w':=by
 have hq2:=cell_later ((Below.refl _ w).alloc (Nat.le_refl _) (.cells (qt c).toArray 46)) hq
 have hd2:¬ ((n:Int) < (c.seq:Int)):=by omega
 unfold qO;unfold qt at hq2;clear hn
 go_enter Tryz.func323,Tryz.ntmps323
 go_wp2_with fail;go_ret;exact ⟨rfl,qd (Below.refl _ w) _⟩
theorem Vf (n q:Nat) (hn:c.seq≤n) (h:CellAt w b 0 c) (hq:w.cell? ⟨q,0,none⟩=some (.int .u64 (n:Int))) :
  Calls Tryz.prog 200 #[.slice (some ⟨b,0,none⟩) 1 k,.func (.func 323) #[] #[.pointer (some ⟨q,0,none⟩)]] w λe w'=>e=.returned (.int .i64 (-1))∧Below w.heap.size w w':=by
 obtain ⟨c0,c1,c2,c3,c4,c5⟩:=Qb h;have HW:=Uq (vw_past c n q hn w hq);unfold qO at HW;clear h hn hq
 go_enter Tryz.func200,Tryz.ntmps200
 go_upto_region 2 with fail;refine wp_loop_rounds 2 ?_;rw [rounds_succ]
 go_wp2_with (go_at_call 323;refine HW.out.mono ?_;rintro e w1 ⟨rfl,hb⟩;have HB:=Uq hb;clear hb)
 rw [rounds_succ];go_wp2_with fail;go_ret;exact ⟨rfl,HB.out⟩
theorem Xa (n q:Nat) (hn:c.seq≤n) (h:CellAt w b 0 c) (hq:w.cell? ⟨q,0,none⟩=some (.int .u64 (n:Int))) :
  Calls Tryz.prog 225 #[.slice (some ⟨b,0,none⟩) 1 k,.func (.func 323) #[] #[.pointer (some ⟨q,0,none⟩)]] w λe w'=>e=.returned (.slice (some ⟨b,0,none⟩) 1 k)∧Below w.heap.size w w':=by
 have HI:=Uq (Vf (k:=k) n q hn h hq);clear h hn hq
 go_enter Tryz.func225,Tryz.ntmps225
 go_wp2_with (go_at_call 200;refine HI.out.mono ?_;rintro e w1 ⟨rfl,hb⟩;have HB:=Uq hb;clear hb)
 go_ret;exact ⟨rfl,HB.out⟩
theorem x9 (w:World) (b k:Nat) (f:Value) :
  Calls Tryz.prog 450 #[.slice (some ⟨b,0,none⟩) 1 k,.int .i64 0,.int .i64 1,f] w λe w'=>e=.returned (.tuple #[])∧w=w':=by
 go_enter Tryz.func450,Tryz.ntmps450
 go_upto_region 1 with fail;refine wp_loop_rounds 1 ?_;rw [rounds_succ];go_wp2_with fail;go_end0;exact ⟨rfl,rfl⟩
theorem xZ (w:World) (b k:Nat) (f:Value) :
  Calls Tryz.prog 404 #[.slice (some ⟨b,0,none⟩) 1 k,.int .i64 1,f] w λe w'=>e=.returned (.tuple #[])∧w=w':=by
 have HI:=Uq λw=>x9 w b k f
 go_enter Tryz.func404,Tryz.ntmps404
 go_upto_region 2 with fail;refine wp_loop_rounds 1 ?_;rw [rounds_succ]
 go_upto_region 7 with (go_at_call 450;refine (HI.out _).mono ?_;rintro e w1 ⟨rfl,rfl⟩)
 refine wp_loop_rounds 1 ?_;rw [rounds_succ];go_wp2_with fail;go_end0;exact ⟨rfl,rfl⟩
theorem vw_sort (w:World) (b k:Nat) (f:Value) :
  Calls Tryz.prog 324 #[.slice (some ⟨b,0,none⟩) 1 k,f] w λe w'=>e=.returned (.tuple #[])∧w=w':=by
 have HI:=Uq λw=>xZ w b k f
 go_enter Tryz.func324,Tryz.ntmps324
 go_wp2_with (go_at_call 404;refine (HI.out _).mono ?_;rintro e w1 ⟨rfl,rfl⟩)
 go_end0;exact ⟨rfl,rfl⟩
theorem j7 (w:World) (b k:Nat) (f:Value) :
  Calls Tryz.prog 325 #[.slice (some ⟨b,0,none⟩) 1 k,f] w λe w'=>e=.returned (.slice (some ⟨b,0,none⟩) 1 k)∧w=w':=by
 go_enter Tryz.func325,Tryz.ntmps325
 go_wp2_with fail;go_ret;exact ⟨rfl,rfl⟩
theorem vw_all (n g kk b1 k1:Nat) (hk:1≤k1) (hn:c.seq≤n) (hg:w.cell? ⟨g,0,none⟩=some (.slice (some ⟨b1,0,none⟩) 1 k1)) (h:CellAt w b1 0 c) :
  Calls Tryz.prog 209 #[.slice (some ⟨g,0,none⟩) 1 kk,.int .u64 (n:Int)] w λe w'=>∃ b k,e=.returned (.slice (some ⟨b,0,none⟩) 1 k)∧CellAt w' b 0 c∧1≤k∧w.heap.size≤b∧Below w.heap.size w w':=by
 have hmf:∀ (fn:Fn) (first cap:Array Value) (w:World),(Instr.makeFunc fn first cap).run Tryz.prog w=.ok (.func fn first cap) w:=λ_ _ _ _=>rfl
 obtain ⟨X,N,hX,hN,hb,vX⟩:=KF w [.int .u64 (n:Int)] 30
 have HC:=Uq (vB g kk [.slice (some ⟨b1,0,none⟩) 1 k1] [1] [qt c] X rfl rfl (by
  intro j u hj
  match j,hj with
  | 0,hj=>
   cases hj
   exact cell_later hb hg
  | j + 1,hj=>simp at hj) (by
  intro j v m xs h1 h2 h3
  match j,h1 with
  | 0,h1=>
   cases h1
   cases h2
   cases h3
   exact YK (h.later hb) hk
  | j + 1,h1=>simp at h1) (by decide) (by decide))
 have HD:=Uq λw' b k (h:CellAt w' b 0 c) hq=>Xa (w:=w') (b:=b) (k:=k) n N hn h hq
 have HS:=Uq λw' b k f=>vw_sort w' b k f
 have HP:=Uq λw' b k f=>j7 w' b k f
 have HB:=Uq hb;have HX:=Uq hX;have HN:=Uq hN;have VX:=Uq vX;clear h hk hn hg hb hX hN vX
 go_enter Tryz.func209,Tryz.ntmps209
 go_upto_region 1 with fail;rw [HX.out,HN.out]
 go_upto_region 2 with (go_at_call 78;refine HC.out.mono ?_;rintro e w1 ⟨v,rfl,ho,hb1⟩;have ho:=(show w1.ownsRow X.heap.size 46 6 v 1 (qt c) from ho);obtain ⟨b3,k3,rfl,p1,p2,p3,p4,p5⟩:=QP ho;have HB1:=Uq hb1;have P:=Uq (And.intro p1 (And.intro p2 (And.intro p3 p4)));clear ho hb1 p1 p2 p3 p4 p5)
 have HY:=Uq (HB.out.trans (HB1.out.mono HB.out.size))
 have VQ:=Uq (show w1.cell? ⟨N,0,none⟩=some (.int .u64 (n:Int)) from cell_later HB1.out (VX.out.cell 0 _ rfl))
 go_upto_region 3 with (go_at_call 225;refine (HD.out _ _ _ P.out.2.2.2 VQ.out).mono ?_;rintro e w2 ⟨rfl,hb2⟩;have HB2:=Uq hb2;clear hb2)
 go_wp2_with (first | (go_at_call 324;refine (HS.out _ _ _ _).mono ?_;rintro e w3 ⟨rfl,rfl⟩) | (go_at_call 325;refine (HP.out _ _ _ _).mono ?_;rintro e w3 ⟨rfl,rfl⟩))
 go_ret;exact ⟨_,_,rfl,P.out.2.2.2.later HB2.out,P.out.2.2.1,Nat.le_trans HB.out.size P.out.1,HY.out.trans (HB2.out.mono HY.out.size)⟩
end
end Go.Proofs.YtppibhieabideaaGreatDoor
