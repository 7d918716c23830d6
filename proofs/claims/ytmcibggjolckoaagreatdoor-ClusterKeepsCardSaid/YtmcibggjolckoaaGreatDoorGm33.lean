/- KlSys, KlDoes, KlLsame, KlAbase: one behind the other. -/
import Derived.Test.YtmcibggjolckoaaGreatDoorGm26
import Derived.Test.YtmcibggjolckoaaGreatDoorGm32
import Derived.Test.YtmcibggjolckoaaGreatDoorGm28
import Derived.Deep.RegionHeld3
import Derived.Deep.DeepCutAuto
import Derived.BigQuiet
import Derived.Deep.QuietTactic
namespace Go.Proofs.YtmcibggjolckoaaGreatDoor
open Go Go.RowKit Go.Deep
set_option maxRecDepth 100000
structure Sy (E:cl.Clu→Prop) (B:Nat) (w0:World) (c n M:Nat) (bs:Nat→Nat) (C:cl.Clu) (g:cl.Gh) (w:World):Prop where
 s:Sys B w0 c n M bs C g w
 ext:E C
def Nxt (E:cl.Clu→Prop) (B:Nat) (w0:World) (c n M:Nat) (bs:Nat→Nat) (C:cl.Clu) (g:cl.Gh) (w w':World):Prop:=
 ∃ C' g',Sy E B w0 c n M bs C' g' w'∧cl.Le C.sts g C'.sts g'∧Stay (bsF bs) n w w'
section
variable {E E':cl.Clu→Prop} {B:Nat} {w0:World} {c n M b:Nat} {bs:Nat→Nat} {C:cl.Clu} {g:cl.Gh} {w:World}
theorem Sy.mono {M':Nat} (h:Sy E B w0 c n M bs C g w) (hM:M≤M'):Sy E B w0 c n M' bs C g w:=⟨h.s.mono hM,h.ext⟩
theorem Sy.later {w':World} (h:Sy E B w0 c n M bs C g w) (hb:Below w.heap.size w w'):Sy E B w0 c n M bs C g w':=⟨h.s.later hb,h.ext⟩
theorem Sy.to (h:Sy E B w0 c n M bs C g w) (hE:E' C):Sy E' B w0 c n M bs C g w:=⟨h.s,hE⟩
theorem Sy.same {w':World} {M':Nat} (h:Sy E B w0 c n M bs C g w) (hE:E' C) (hM:M≤M') (hb:Below w.heap.size w w'):Nxt E' B w0 c n M' bs C g w w':=⟨C,g,((h.to hE).mono hM).later hb,cl.Le.refl _ _,Stay.of_below hb⟩
theorem Nxt.trans {M1:Nat} {C1:cl.Clu} {g1:cl.Gh} {w1 w2:World} (hl:cl.Le C.sts g C1.sts g1) (hs:Stay (bsF bs) n w w1) (h:Nxt E B w0 c n M1 bs C1 g1 w1 w2):Nxt E B w0 c n M1 bs C g w w2:=by
 obtain ⟨C2,g2,k1,k2,k3⟩:=h
 exact ⟨C2,g2,k1,hl.trans k2,hs.trans k3⟩
theorem Nxt.mono {M':Nat} {w':World} (h:Nxt E B w0 c n M bs C g w w') (hM:M≤M'):Nxt E B w0 c n M' bs C g w w':=by
 obtain ⟨C',g',h1,h2,h3⟩:=h
 exact ⟨C',g',h1.mono hM,h2,h3⟩
theorem Nxt.more {b':Nat} {w':World} (h:Nxt (cl.Ext b) B w0 c n M bs C g w w') (hb:b≤b'):Nxt (cl.Ext b') B w0 c n M bs C g w w':=by
 obtain ⟨C',g',h1,h2,h3⟩:=h
 exact ⟨C',g',h1.to (h1.ext.mono hb),h2,h3⟩
theorem Nxt.pre {v w':World} (h:Nxt E B w0 c n M bs C g w w') (hb:Stay (bsF bs) n v w):Nxt E B w0 c n M bs C g v w':=by
 obtain ⟨C',g',h1,h2,h3⟩:=h
 exact ⟨C',g',h1,h2,hb.trans h3⟩
theorem turned_nxt {C0:cl.Clu} {R k i:Nat} {F:Nat→Fp} {x:rf.Node} {ms:List rf.Msg} {z:Int} {M':Nat} {w':World} (hn:C.n=n) (hn0:C0.n=n) (hF:∀ i,i < n→(F i).b=bs i) (hi:i < n) (hI:cl.Inv C0 g) (hL:cl.Lim M M C) (hM:M≤M') (h200:C.way.length≤200)
  (hOn:∀ C',cl.After C i x ms C'→cl.Onward C0 C') (hE:∀ C',cl.After C i x ms C'→E' C') (hb:cl.BothLim M' M' (x,ms)) (h:Turned B w0 c R C F k i x ms z w w'):Nxt E' B w0 c n M' bs C0 g w w':=by
 obtain ⟨C',F',wv',h1,⟨hfp,ho⟩,h3⟩:=h
 have hA:cl.After C i x ms C'∧C'.way.length≤200:=by
  rcases ho with ⟨_,e⟩ | ⟨_,_,s,hs,e⟩
  ·rw [e];exact ⟨.ok,last_len _⟩
  ·rcases hs with hs | hs
   ·rw [e,hs];exact ⟨.old _,h200⟩
   ·rw [e,hs];exact ⟨.new _,h200⟩
 obtain ⟨hnn,hon⟩:=hOn C' hA.1
 obtain ⟨g',hI',hle⟩:=hon g hI
 refine ⟨C',g',⟨⟨hnn.trans hn0,hA.1.lim hL hM hM hb,hI',hA.2,R,k,F',wv',h1,fun j hj=>?_⟩,hE C' hA.1⟩,hle,?_⟩
 ·by_cases hji:j=i
  ·subst hji;rw [hfp.b];exact hF _ hj
  ·rw [hfp.other _ hji];exact hF _ hj
 ·rw [hn] at h3;exact Sys.stay hF h3
theorem sy_tick {i:Nat} (h:Sy E B w0 c n M bs C g w) (hb:Bd B M) (ht:TabAt w0) (hi:i < n) (hE:(C.p i).up=true→∀ C',cl.After C i (rf.tick (C.p i).x).1 (rf.tick (C.p i).x).2 C'→E' C') (h0:E' C) :
  Calls Tryz.prog 26 #[cptr c,.int .i64 (i:Int)] w fun e w'=>∃ z:Int,e=.returned (.int .i64 z)∧Nxt E' B w0 c n (M + 1) bs C g w w':=by
 obtain ⟨R,k,F,wv,h1,hF⟩:=h.s.at_
 have hi':i < C.n:=by rw [h.s.cn];exact hi
 cases hu:(C.p i).up with
 | true=>
  have rd:=h.s.ready hb hi hu
  refine (tick_up h1 rd ht).mono ?_
  rintro e w' ⟨z,rfl,hT⟩
  have hid:=rd.id
  have h7:=h1.n7
  exact ⟨z,rfl,turned_nxt h.s.cn h.s.cn hF hi h.s.inv h.s.lim (Nat.le_succ M) h.s.w200 (fun C' hA=>cl.onward_tick h.s.lim rd.hK h7 hi' hu hA) (hE hu) (cl.tick_lim rd.hK rd.lim (by omega) (by omega)) hT⟩
 | false=>
  refine (tick_no h1 (fun fv w hw=>on_down fv hw hi' hu)).mono ?_
  rintro e w' ⟨rfl,hb'⟩
  exact ⟨6,rfl,h.same h0 (Nat.le_succ M) hb'⟩
theorem Sy.n7 (h:Sy E B w0 c n M bs C g w):C.n≤7:=by
 obtain ⟨R,k,F,wv,h1,h2⟩:=h.s.at_
 exact h1.n7
theorem ext_ticked {i:Nat} (h:Sy (cl.Ext b) B w0 c n M bs C g w) (hb:Bd B M) (ht:TabAt w0) (hi:i < n) :
  Calls Tryz.prog 26 #[cptr c,.int .i64 (i:Int)] w fun e w'=>∃ z:Int,e=.returned (.int .i64 z)∧Nxt (cl.Ext (b + 1)) B w0 c n (M + 1) bs C g w w':=
 sy_tick h hb ht hi (fun hu _ hA=>cl.ext_tick h.ext h.s.inv h.n7 (by rw [h.s.cn];exact hi) hu hA) (h.ext.mono (Nat.le_succ b))
theorem extT_ticked {i:Nat} (h:Sy (cl.ExtT b i) B w0 c n M bs C g w) (hb:Bd B M) (ht:TabAt w0) (hi:i < n) :
  Calls Tryz.prog 26 #[cptr c,.int .i64 (i:Int)] w fun e w'=>∃ z:Int,e=.returned (.int .i64 z)∧Nxt (cl.ExtT b i) B w0 c n (M + 1) bs C g w w':=
 sy_tick h hb ht hi (fun hu _ hA=>cl.extT_tick h.ext h.s.inv h.n7 (by rw [h.s.cn];exact hi) hu hA) h.ext
theorem sy_deliver {j:Nat} (h:Sy (cl.Ext b) B w0 c n M bs C g w) (hb:Bd B M) (ht:TabAt w0) :
  Calls Tryz.prog 30 #[cptr c,.int .i64 (j:Int)] w fun e w'=>∃ z:Int,e=.returned (.int .i64 z)∧Nxt (cl.Ext b) B w0 c n M bs C g w w':=by
 obtain ⟨R,k,F,wv,h1,hF⟩:=h.s.at_
 by_cases hj:j < C.way.length
 ·have hm:C.way[j]?=some C.way[j]:=List.getElem?_eq_getElem hj
  obtain ⟨m,hmm⟩:∃ m,C.way[j]=m:=⟨_,rfl⟩
  rw [hmm] at hm
  have hmem:m ∈ C.way:=List.mem_of_getElem? hm
  obtain ⟨_,d,_,hd,_,hdn,_⟩:=(h.s.inv.way m hmem).dom
  have hwe:∀ m ∈ cl.off C.way j,m ∈ C.way:=fun m hm=>cl.off_mem hm
  have hoff:(cl.off C.way j).length≤200:=by have:=cl.off_len hj;have:=h.s.w200;omega
  cases hu:(C.p d).up with
  | true=>
   have hdn2:d < n:=by rw [← h.s.cn];exact hdn
   have rd:=h.s.ready hb hdn2 hu
   have hml:=h.s.lim.way m hmem
   refine (deliver_up h1 hm hd rd ht hml).mono ?_
   rintro e w' ⟨z,rfl,hT⟩
   exact ⟨z,rfl,turned_nxt (C:={ C with way:=cl.off C.way j }) h.s.cn h.s.cn hF hdn2 h.s.inv (cl.lim_way h.s.lim hwe) (Nat.le_refl M) hoff (fun C' hA=>cl.onward_step h1.n7 hdn hu hmem hwe hA) (fun C' hA=>cl.ext_step h.ext h.s.inv h.s.lim h1.n7 hdn hu hmem hwe hA) (cl.step_lim (by have:=hb.1;omega) rd.lim hml) hT⟩
  | false=>
   refine (deliver_down h1 hm hd hdn hu (by have:=h.s.w200;omega)).mono ?_
   rintro e w' ⟨rfl,wv',h2,h3⟩
   obtain ⟨g',hI',hle⟩:=(cl.onward_way (w:=cl.off C.way j) hwe).2 g h.s.inv
   rw [h.s.cn] at h3
   exact ⟨6,rfl,{ C with way:=cl.off C.way j },g',⟨⟨h.s.cn,cl.lim_way h.s.lim hwe,hI',hoff,R,k,F,wv',h2,hF⟩,cl.ext_way h.ext hwe⟩,hle,Sys.stay hF h3⟩
 ·refine (deliver_no h1 (by omega)).mono ?_
  rintro e w' ⟨rfl,hb'⟩
  exact ⟨1,rfl,h.same h.ext (Nat.le_refl M) hb'⟩
theorem sy_drop {j:Nat} (h:Sy (cl.Ext b) B w0 c n M bs C g w) :
  Calls Tryz.prog 29 #[cptr c,.int .i64 (j:Int)] w fun e w'=>∃ z:Int,e=.returned (.int .i64 z)∧Nxt (cl.Ext b) B w0 c n M bs C g w w':=by
 obtain ⟨R,k,F,wv,h1,hF⟩:=h.s.at_
 by_cases hj:j < C.way.length
 ·have hwe:∀ m ∈ cl.off C.way j,m ∈ C.way:=fun m hm=>cl.off_mem hm
  refine (drop_yes h1 hj (by have:=h.s.w200;omega)).mono ?_
  rintro e w' ⟨rfl,wv',h2,h3⟩
  obtain ⟨g',hI',hle⟩:=(cl.onward_way (w:=cl.off C.way j) hwe).2 g h.s.inv
  rw [h.s.cn] at h3
  exact ⟨0,rfl,{ C with way:=cl.off C.way j },g',⟨⟨h.s.cn,cl.lim_way h.s.lim hwe,hI',by have:=cl.off_len hj;have:=h.s.w200;show (cl.off C.way j).length≤200;omega,R,k,F,wv',h2,hF⟩,cl.ext_way h.ext hwe⟩,hle,Sys.stay hF h3⟩
 ·refine (drop_no h1 (by omega)).mono ?_
  rintro e w' ⟨rfl,hb'⟩
  exact ⟨1,rfl,h.same h.ext (Nat.le_refl M) hb'⟩
theorem sy_double {j:Nat} (h:Sy (cl.Ext b) B w0 c n M bs C g w) :
  Calls Tryz.prog 28 #[cptr c,.int .i64 (j:Int)] w fun e w'=>∃ z:Int,e=.returned (.int .i64 z)∧Nxt (cl.Ext b) B w0 c n M bs C g w w':=by
 obtain ⟨R,k,F,wv,h1,hF⟩:=h.s.at_
 by_cases hj:j < C.way.length
 ·have hm:C.way[j]?=some C.way[j]:=List.getElem?_eq_getElem hj
  obtain ⟨m,hmm⟩:∃ m,C.way[j]=m:=⟨_,rfl⟩
  rw [hmm] at hm
  have hmem:m ∈ C.way:=List.mem_of_getElem? hm
  have hwe:∀ y ∈ cl.last (C.way ++ [m]),y ∈ C.way:=fun y hy=>by
   rcases List.mem_append.1 (cl.mem_last hy) with h1 | h1
   ·exact h1
   ·rw [List.mem_singleton.1 h1];exact hmem
  refine (double_yes h1 hm (by have:=h.s.w200;omega)).mono ?_
  rintro e w' ⟨rfl,wv',h2,h3⟩
  obtain ⟨g',hI',hle⟩:=(cl.onward_way (w:=cl.last (C.way ++ [m])) hwe).2 g h.s.inv
  rw [h.s.cn] at h3
  exact ⟨0,rfl,{ C with way:=cl.last (C.way ++ [m]) },g',⟨⟨h.s.cn,cl.lim_way h.s.lim hwe,hI',last_len _,R,k,F,wv',h2,hF⟩,cl.ext_way h.ext hwe⟩,hle,Sys.stay hF h3⟩
 ·refine (double_no h1 (by omega)).mono ?_
  rintro e w' ⟨rfl,rfl⟩
  exact ⟨1,rfl,h.same h.ext (Nat.le_refl M) (Below.refl _ _)⟩
theorem sy_propose {i:Nat} (text:List UInt8) (htx:text.length≤100) (h:Sy (cl.Ext b) B w0 c n M bs C g w) (hb:Bd B M) (ht:TabAt w0) (hi:i < n) :
  Calls Tryz.prog 13 #[cptr c,.int .i64 (i:Int),.string (crcm.mk text)] w fun e w'=>∃ v z:Int,e=.returned (.tuple #[.int .u64 v,.int .i64 z])∧Nxt (cl.Ext (b + 10)) B w0 c n (M + 1) bs C g w w':=by
 obtain ⟨R,k,F,wv,h1,hF⟩:=h.s.at_
 have hi':i < C.n:=by rw [h.s.cn];exact hi
 have h10:=h.ext.mono (Nat.le_add_right b 10)
 cases hu:(C.p i).up with
 | true=>
  have rd:=h.s.ready hb hi hu
  by_cases hr:(C.p i).x.role=2
  ·refine (propose_led text htx h1 rd ht hr).mono ?_
   rintro e w' ⟨z,rfl,hT⟩
   have hlm:=cl.propose_lim (by have:=hb.1;omega) rd.lim htx
   exact ⟨_,z,rfl,turned_nxt h.s.cn h.s.cn hF hi h.s.inv h.s.lim (Nat.le_succ M) h.s.w200 (fun C' hA=>cl.onward_propose h1.n7 hi' hu hA) (fun C' hA=>cl.ext_propose h.ext h.s.inv h1.n7 hi' hu htx hA) ⟨hlm.1.mono (Nat.le_refl _) (Nat.le_succ _),fun m hm=>(hlm.2 m hm).mono (Nat.le_refl _) (Nat.le_succ _)⟩ hT⟩
  ·refine (propose_not text htx h1 rd ht hr).mono ?_
   rintro e w' ⟨rfl,hb'⟩
   exact ⟨0,170,rfl,h.same h10 (Nat.le_succ M) hb'⟩
 | false=>
  refine (propose_no (by decide) text h1 (fun fv w hw=>on_down fv hw hi' hu)).mono ?_
  rintro e w' ⟨rfl,hb'⟩
  exact ⟨0,6,rfl,h.same h10 (Nat.le_succ M) hb'⟩
theorem sy_crash {i:Nat} (keep:Int) (h:Sy (cl.Ext b) B w0 c n M bs C g w) (hi:i < n) :
  Calls Tryz.prog 23 #[cptr c,.int .i64 (i:Int),.int .i64 keep] w fun e w'=>∃ z:Int,e=.returned (.int .i64 z)∧Nxt (cl.Ext b) B w0 c n M bs C g w w':=by
 obtain ⟨R,k,F,wv,h1,hF⟩:=h.s.at_
 have hi':i < C.n:=by rw [h.s.cn];exact hi
 cases hu:(C.p i).up with
 | true=>
  refine (crash_up keep h1 hi' hu).mono ?_
  rintro e w' ⟨rfl,hf⟩
  obtain ⟨g',hI',hle⟩:=(cl.onward_fall (C:=C) (i:=i) zeroN).2 g h.s.inv
  have h3:=hf.2
  rw [h.s.cn] at h3
  exact ⟨0,rfl,cl.fallen C i (C.p i).s zeroN,g',⟨⟨h.s.cn,cl.lim_fall h.s.lim _,hI',h.s.w200,R,k,_,wv,hf.1,upd_b hF rfl⟩,cl.ext_fall h.ext hi' _⟩,hle,Sys.stay hF h3⟩
 | false=>
  refine (crash_no keep h1 (fun fv w hw=>on_down fv hw hi' hu)).mono ?_
  rintro e w' ⟨rfl,hb'⟩
  exact ⟨6,rfl,h.same h.ext (Nat.le_refl M) hb'⟩
theorem sy_fuse {i:Nat} (m keep:Int) (hm:m≤9223372036854775807) (h:Sy (cl.Ext b) B w0 c n M bs C g w) (hi:i < n) :
  Calls Tryz.prog 21 #[cptr c,.int .i64 (i:Int),.int .i64 m,.int .i64 keep] w fun e w'=>∃ z:Int,e=.returned (.int .i64 z)∧Nxt (cl.Ext b) B w0 c n M bs C g w w':=by
 obtain ⟨R,k,F,wv,h1,hF⟩:=h.s.at_
 have hi':i < C.n:=by rw [h.s.cn];exact hi
 cases hu:(C.p i).up with
 | true=>
  refine (fuse_up m keep h1 hi' hu hm).mono ?_
  rintro e w' ⟨rfl,hf⟩
  have h3:=hf.2
  rw [h.s.cn] at h3
  exact ⟨0,rfl,C,g,⟨⟨h.s.cn,h.s.lim,h.s.inv,h.s.w200,R,k,_,wv,hf.1,upd_b hF rfl⟩,h.ext⟩,cl.Le.refl _ _,Sys.stay hF h3⟩
 | false=>
  refine (fuse_no m keep h1 (fun fv w hw=>on_down fv hw hi' hu)).mono ?_
  rintro e w' ⟨rfl,hb'⟩
  exact ⟨6,rfl,h.same h.ext (Nat.le_refl M) hb'⟩
theorem sy_start {i:Nat} (h:Sy (cl.Ext b) B w0 c n M bs C g w) (ht:TabAt w0) (hi:i < n) :
  Calls Tryz.prog 22 #[cptr c,.int .i64 (i:Int)] w fun e w'=>∃ z:Int,e=.returned (.int .i64 z)∧Nxt (cl.Ext b) B w0 c n M bs C g w w':=by
 obtain ⟨R,k,F,wv,h1,hF⟩:=h.s.at_
 have hi':i < C.n:=by rw [h.s.cn];exact hi
 cases hu:(C.p i).up with
 | true=>
  refine (start_up h1 hi' hu).mono ?_
  rintro e w' ⟨rfl,hb'⟩
  exact ⟨5,rfl,h.same h.ext (Nat.le_refl M) hb'⟩
 | false=>
  refine (start_yes h1 hi' hu ht).mono ?_
  rintro e w' ⟨rfl,F',h2,hfp,_,h3⟩
  obtain ⟨g',hI',hle⟩:=(cl.onward_start (C:=C) (i:=i)).2 g h.s.inv
  rw [h.s.cn] at h3
  refine ⟨0,rfl,cl.started C i,g',⟨⟨h.s.cn,cl.lim_start h.s.lim hi',hI',h.s.w200,R,k,F',wv,h2,fun j hj=>?_⟩,cl.ext_start h.ext hi' hu⟩,hle,Sys.stay hF h3⟩
  by_cases hji:j=i
  ·subst hji;rw [hfp.b];exact hF _ hj
  ·rw [hfp.other _ hji];exact hF _ hj
theorem sy_round (h:Sy (cl.Ext b) B w0 c n M bs C g w) (hb:Bd B (M + n)) (ht:TabAt w0) :
  Calls Tryz.prog 12 #[cptr c] w fun e w'=>e=.returned (.tuple #[])∧Nxt (cl.Ext (b + n)) B w0 c n (M + n) bs C g w w':=by
 obtain ⟨R,k,F,wv,h1,hF⟩:=h.s.at_
 have c0:=h1.c0
 rw [h.s.cn] at c0
 have h7:=h1.n7
 rw [h.s.cn] at h7
 have hbm:∀ j,j≤n→Bd B (M + j):=fun j hj=>⟨by have:=hb.1;omega,by have:=hb.2;have:206 * (M + j + 2)≤206 * (M + n + 2):=Nat.mul_le_mul_left _ (by omega);omega⟩
 refine round_any (fun j w'=>Nxt (cl.Ext (b + j)) B w0 c n (M + j) bs C g w w') (fun _ w'=>Nxt (cl.Ext (b + n)) B w0 c n (M + n) bs C g w w') (fun w'=>Nxt (cl.Ext (b + n)) B w0 c n (M + n) bs C g w w') h7 c0 (h.same h.ext (Nat.le_refl _) (Below.refl _ _)) (fun j w1 hj hT=>?_) (fun _ hT=>hT) (fun j w1 hj hT=>?_) (fun _ hT=>hT)
 ·obtain ⟨C1,g1,s1,l1,t1⟩:=hT
  refine (ext_ticked s1 (hbm j (by omega)) ht hj).mono ?_
  rintro e w2 ⟨z,rfl,hN⟩
  exact ⟨z,rfl,Nxt.trans l1 t1 hN⟩
 ·obtain ⟨C1,g1,s1,l1,t1⟩:=hT
  refine (sy_deliver (j:=0) s1 hb ht).mono ?_
  rintro e w2 ⟨z,rfl,hN⟩
  exact ⟨z,rfl,fun _=>Nxt.trans l1 t1 hN,fun _=>Nxt.trans l1 t1 hN⟩
end
end Go.Proofs.YtmcibggjolckoaaGreatDoor
namespace Go.Proofs.YtmcibggjolckoaaGreatDoor
open Go Go.RowKit Go.Deep
set_option maxRecDepth 100000
section
variable {B:Nat} {w0:World} {c n M:Nat} {bs:Nat→Nat} {C:cl.Clu} {g:cl.Gh} {w:World}
theorem Sys.wait (h:Sys B w0 c n M bs C g w):Calls Tryz.prog 25 #[.pointer (some ⟨c,0,none⟩)] w fun e w'=>e=.returned (.int .i64 (C.way.length:Int))∧w=w':=by
 obtain ⟨R,k,F,wv,h1,h2⟩:=h.at_
 exact waiting_any h1
theorem Sys.lead (h:Sys B w0 c n M bs C g w):Calls Tryz.prog 14 #[.pointer (some ⟨c,0,none⟩)] w fun e w'=>e=.returned (.int .i64 (cl.leadTo C n))∧Below w.heap.size w w':=by
 obtain ⟨R,k,F,wv,h1,h2⟩:=h.at_
 have:=leader_any h1
 rw [h.cn] at this
 exact this
theorem Sys.n7 (h:Sys B w0 c n M bs C g w):n≤7:=by
 obtain ⟨R,k,F,wv,h1,h2⟩:=h.at_
 have:=h1.n7
 rw [h.cn] at this
 exact this
theorem Sys.maps (h:Sys B w0 c n M bs C g w):∀ i,i < n→∃ M,FMap w ((bsF bs) i).b M:=by
 obtain ⟨R,k,F,wv,h1,h2⟩:=h.at_
 intro i hi
 obtain ⟨M,hM⟩:=h1.maps i (by rw [h.cn];exact hi)
 exact ⟨M,by show FMap w (bs i) M;rw [← h2 i hi];exact hM⟩
end
theorem bd_mono {B M M':Nat} (h:Bd B M') (hM:M≤M'):Bd B M:=⟨by have:=h.1;omega,by have:=h.2;have:206 * (M + 2)≤206 * (M' + 2):=Nat.mul_le_mul_left _ (by omega);omega⟩
theorem tmod_nat (a b:Nat):((a:Int)).tmod (b:Int)=((a % b:Nat):Int):=by
 rw [Int.tmod_eq_emod_of_nonneg (by omega)]
 omega
set_option maxHeartbeats 16000000 in
theorem does_any {B b:Nat} {w0:World} {c n M:Nat} {bs:Nat→Nat} {C:cl.Clu} {g:cl.Gh} {w:World} (h:Sy (cl.Ext b) B w0 c n M bs C g w) (hb:Bd B (M + 20)) (ht:TabAt w0) (h1:1≤n) (x:cl.Act) (ok:ActOk x) (hx:x.text.length≤100) :
  Calls Tryz.prog 17 #[.pointer (some ⟨c,0,none⟩),.agg (actC x).toArray,.int .i64 (n:Int)] w fun e w'=>∃ v:Int,e=.returned (.int .u64 v)∧Nxt (cl.Ext (b + 10)) B w0 c n (M + 20) bs C g w w':=by
 obtain ⟨X,bx,hX,hbx,hbX,kb⟩:=box_blk w (actC x) 41
 have h7:=h.s.n7
 have hv:Vb X bx (actC x) 41:=kb
 have hCA:∀ W,Below X.heap.size X W→(W.cell? ⟨bx,0,none⟩=some (.int .u8 (x.kind:Int))∧W.cell? ⟨bx,2,none⟩=some (.int .u8 (x.k:Int))∧W.cell? ⟨bx,3,none⟩=some (.int .u8 (x.n:Int))∧W.cell? ⟨bx,4,none⟩=some (.int .i64 x.keep)∧W.cell? ⟨bx,5,none⟩=some (.string (crcm.mk x.text))):=fun W hb=>⟨cell_later hb (hv.cell 0 _ rfl),cell_later hb (hv.cell 2 _ rfl),cell_later hb (hv.cell 3 _ rfl),cell_later hb (hv.cell 4 _ rfl),cell_later hb (hv.cell 5 _ rfl)⟩
 have x1:=hv.cell 1 _ rfl
 obtain ⟨i,hi⟩:∃ i,x.i % n=i:=⟨_,rfl⟩
 have hin:i < n:=by rw [← hi];exact Nat.mod_lt _ h1
 have hw1:IntKind.i64.wrap (x.i:Int)=(x.i:Int):=wrap_i64_in (by omega) (by have:=ok.i;omega)
 have hm1:((x.i:Int)).tmod (n:Int)=(i:Int):=by rw [tmod_nat,hi]
 have hCAx:=Lib.hid hCA
 have HX:=Lib.hid hX
 have HBX:=Lib.hid hbx
 have HB0:=Lib.hid hbX
 have HS:=Lib.hid (h.later hbX)
 have HV:=Lib.hid hv
 have HIN:=Lib.hid hin
 have HOK:=Lib.hid ok
 have HW:=Lib.hid (h.later hbX).s.wait
 have HN7:=Lib.hid h7
 have HBD:=Lib.hid hb
 have HT:=Lib.hid ht
 have HXT:=Lib.hid hx
 have H1:=Lib.hid h1
 obtain ⟨xi,hxi⟩:∃ i,x.i=i:=⟨_,rfl⟩
 rw [hxi] at x1 hw1 hm1
 have hn0:¬ (n:Int)=0:=by omega
 clear hi hX hbx hbX kb hv h hin ok hxi hCA h7 hb ht hx h1
 go_enter Tryz.func17,Tryz.ntmps17
 go_upto_region 1 with fail
 (try rw [HX.out,HBX.out])
 go_upto_if 20 with (go_at_call 25;refine HW.out.mono ?_;rintro e w1 ⟨rfl,rfl⟩)
 clear x1 hw1 hm1
 go_cut [8] (fun s8 wx=>∃ kk:Nat,s8=.int .i64 (kk:Int)∧Below X.heap.size X wx)
 case first=>
  obtain ⟨L,hL⟩:∃ L,C.way.length=L:=⟨_,rfl⟩
  rw [hL] at HW ⊢
  by_cases hl0:0 < L
  ·have e1:decide (0 < (L:Int))=true:=decide_eq_true (by omega)
   obtain ⟨d0,d2,d3,d4,d5⟩:=hCAx.out X (Below.refl _ _)
   obtain ⟨xk,hxk⟩:∃ i,x.k=i:=⟨_,rfl⟩
   rw [hxk] at d2
   have hw2:IntKind.i64.wrap (xk:Int)=(xk:Int):=wrap_i64_in (by omega) (by have:=HOK.out.k;omega)
   have hm2:=tmod_nat xk L
   obtain ⟨kk,hkk⟩:∃ i,xk % L=i:=⟨_,rfl⟩
   rw [hkk] at hm2
   have hL0:¬ (L:Int)=0:=by omega
   have hL1:¬ L=0:=by omega
   have hL2:((L:Int) == 0)=false:=by first | (simp;done) | (simp;omega)
   have hW:Below X.heap.size X X.drew:=below_drewN (Below.refl _ X) 1
   have HWD:=Lib.hid (show Calls Tryz.prog 25 #[.pointer (some ⟨c,0,none⟩)] X.drew fun e w'=>e=.returned (.int .i64 (L:Int))∧X.drew=w' by have:=(HS.out.later hW).s.wait;rw [hL] at this;exact this)
   have d2x:X.drew.cell? ⟨bx,2,none⟩=some (.int .u8 (xk:Int)):=cell_later hW d2
   clear d0 d3 d4 d5 hxk hkk hl0
   go_upto_region 4 with fail
   go_region_held3 (fun w'=>w'.cell? ⟨bx,2,none⟩=some (.int .u8 (xk:Int))) (first | exact d2x | exact d2) (first | (go_at_call 25;refine HWD.out.mono ?_;rintro e w2 ⟨rfl,rfl⟩))
   all_goals
    go_wp2_with fail
    go_meet
    exact ⟨kk,rfl,hW⟩
  ·obtain rfl:L=0:=by omega
   have e1:decide (0 < ((0:Nat):Int))=false:=rfl
   go_wp2_with fail
   go_meet
   exact ⟨0,rfl,Below.refl _ _⟩
 case rest=>
  obtain ⟨kk,rfl,hbW⟩:=hcut
  obtain ⟨W,hWW⟩:∃ W,wc=W:=⟨_,rfl⟩
  rw [hWW] at hbW ⊢
  have HSW:=Lib.hid (HS.out.later hbW)
  have HBW:=Lib.hid (HB0.out.trans (hbW.mono HB0.out.size))
  have HVW:Hid (Vb W bx (actC x) 41):=Lib.hid ((hbW.block _ HV.out.lt).trans HV.out)
  obtain ⟨d0,d2,d3,d4,d5⟩:=hCAx.out W hbW
  obtain ⟨xd,hxd⟩:∃ i,x.kind=i:=⟨_,rfl⟩
  obtain ⟨xn,hxn⟩:∃ i,x.n=i:=⟨_,rfl⟩
  rw [hxd] at d0
  rw [hxn] at d3
  have hxn2:xn < 256:=by rw [← hxn];exact HOK.out.n
  have hwn:IntKind.i64.wrap (xn:Int)=(xn:Int):=wrap_i64_in (by omega) (by omega)
  have hr:xd % 15 < 15:=Nat.mod_lt _ (by decide)
  have hrt:=tmod_nat xd 15
  obtain ⟨r,hrr⟩:∃ r,xd % 15=r:=⟨_,rfl⟩
  rw [hrr] at hr hrt
  have HXN:=Lib.hid hxn
  clear hbW hWW hCAx HX HBX HB0 HS HV HW hxd hxn hrr d2 hn0
  have hcase:r=0∨r=1∨r=2∨r=3∨r=4∨r=5∨r=6∨r=7∨r=8∨r=9∨r=10∨r=11∨r=12∨r=13∨r=14:=by omega
  clear hr
  rcases hcase with rfl | rfl | rfl | rfl | rfl | rfl | rfl | rfl | rfl | rfl | rfl | rfl | rfl | rfl | rfl
  ·have hk:((xd:Int)).tmod 15=0:=hrt
   clear hrt
   obtain ⟨t,htt⟩:∃ t,xn % 20=t:=⟨_,rfl⟩
   have ht20:t < 20:=by rw [← htt];exact Nat.mod_lt _ (by decide)
   have hmt:=tmod_nat xn 20
   rw [htt] at hmt
   have hmt:((xn:Int)).tmod 20=(t:Int):=hmt
   clear htt d4 d5
   go_upto_region 10 with fail
   clear d3 d0
   go_loopw [9] (fun q wx=>∃ (m:Nat) (C':cl.Clu) (g':cl.Gh),m≤t + 1∧q=.int .i64 m∧Sy (cl.ExtT b i) B w0 c n (M + m) bs C' g' wx∧cl.Le C.sts g C'.sts g'∧Stay (bsF bs) n W wx) (fun q _=>t + 1 - (intOf q).toNat)
   case atStart=>exact ⟨0,C,g,Nat.zero_le _,rfl,HSW.out.to (HSW.out.ext.toT i),cl.Le.refl _ _,Stay.refl _ _ _⟩
   case round=>
    obtain ⟨m,C',g',hm,rfl,hs,hle,hst⟩:=hrel
    have hwm:IntKind.i64.wrap ((m:Int) + 1)=(m:Int) + 1:=wrap_i64_in (by omega) (by omega)
    have d3:=(HVW.out.stay hst (by decide) HSW.out.s.maps).cell 3 _ rfl
    rw [HXN.out] at d3
    have HST:=Lib.hid (And.intro hle hst)
    have HSS:=Lib.hid hs
    clear hs hle hst
    by_cases hlt:m≤t
    ·have hltI:decide ((m:Int)≤(t:Int))=true:=decide_eq_true (by omega)
     have hltN:decide (m≤t)=true:=decide_eq_true hlt
     have hcall:=extT_ticked HSS.out (bd_mono HBD.out (by omega)) HT.out HIN.out
     unfold cptr at hcall
     have HCALL:=Lib.hid hcall
     have HLT:=Lib.hid hlt
     clear hcall hlt hm
     go_wp2_with (go_at_call 26;refine HCALL.out.mono ?_;rintro e w5 ⟨z,rfl,hN⟩;have HN:=Lib.hid hN;clear hN)
     go_roundw
     case rel=>
      obtain ⟨C2,g2,s2,l2,t2⟩:=HN.out
      exact ⟨m + 1,C2,g2,by have:=HLT.out;omega,by go_num,s2,HST.out.1.trans l2,HST.out.2.trans t2⟩
     case measure=>have:=HLT.out;simp [intOf];omega
    ·have hltI:decide ((m:Int)≤(t:Int))=false:=decide_eq_false (by omega)
     have hltN:decide (m≤t)=false:=decide_eq_false hlt
     have hm20:m≤20:=by omega
     have HM:=Lib.hid hm20
     clear hlt hm hm20
     go_wp2_with fail
     go_ret
     exact ⟨_,rfl,C',g',(HSS.out.mono (by have:=HM.out;omega)).to (HSS.out.ext.back (by rw [HSS.out.s.cn];exact HIN.out)),HST.out.1,(Stay.of_below HBW.out).trans HST.out.2⟩
  ·have hk:((xd:Int)).tmod 15=1:=hrt
   clear hrt
   obtain ⟨t,htt⟩:∃ t,xn % 20=t:=⟨_,rfl⟩
   have ht20:t < 20:=by rw [← htt];exact Nat.mod_lt _ (by decide)
   have hmt:=tmod_nat xn 20
   rw [htt] at hmt
   have hmt:((xn:Int)).tmod 20=(t:Int):=hmt
   clear htt d4 d5
   go_upto_region 10 with fail
   clear d3 d0
   go_loopw [9] (fun q wx=>∃ (m:Nat) (C':cl.Clu) (g':cl.Gh),m≤t + 1∧q=.int .i64 m∧Sy (cl.ExtT b i) B w0 c n (M + m) bs C' g' wx∧cl.Le C.sts g C'.sts g'∧Stay (bsF bs) n W wx) (fun q _=>t + 1 - (intOf q).toNat)
   case atStart=>exact ⟨0,C,g,Nat.zero_le _,rfl,HSW.out.to (HSW.out.ext.toT i),cl.Le.refl _ _,Stay.refl _ _ _⟩
   case round=>
    obtain ⟨m,C',g',hm,rfl,hs,hle,hst⟩:=hrel
    have hwm:IntKind.i64.wrap ((m:Int) + 1)=(m:Int) + 1:=wrap_i64_in (by omega) (by omega)
    have d3:=(HVW.out.stay hst (by decide) HSW.out.s.maps).cell 3 _ rfl
    rw [HXN.out] at d3
    have HST:=Lib.hid (And.intro hle hst)
    have HSS:=Lib.hid hs
    clear hs hle hst
    by_cases hlt:m≤t
    ·have hltI:decide ((m:Int)≤(t:Int))=true:=decide_eq_true (by omega)
     have hltN:decide (m≤t)=true:=decide_eq_true hlt
     have hcall:=extT_ticked HSS.out (bd_mono HBD.out (by omega)) HT.out HIN.out
     unfold cptr at hcall
     have HCALL:=Lib.hid hcall
     have HLT:=Lib.hid hlt
     clear hcall hlt hm
     go_wp2_with (go_at_call 26;refine HCALL.out.mono ?_;rintro e w5 ⟨z,rfl,hN⟩;have HN:=Lib.hid hN;clear hN)
     go_roundw
     case rel=>
      obtain ⟨C2,g2,s2,l2,t2⟩:=HN.out
      exact ⟨m + 1,C2,g2,by have:=HLT.out;omega,by go_num,s2,HST.out.1.trans l2,HST.out.2.trans t2⟩
     case measure=>have:=HLT.out;simp [intOf];omega
    ·have hltI:decide ((m:Int)≤(t:Int))=false:=decide_eq_false (by omega)
     have hltN:decide (m≤t)=false:=decide_eq_false hlt
     have hm20:m≤20:=by omega
     have HM:=Lib.hid hm20
     clear hlt hm hm20
     go_wp2_with fail
     go_ret
     exact ⟨_,rfl,C',g',(HSS.out.mono (by have:=HM.out;omega)).to (HSS.out.ext.back (by rw [HSS.out.s.cn];exact HIN.out)),HST.out.1,(Stay.of_below HBW.out).trans HST.out.2⟩
  ·have hk:((xd:Int)).tmod 15=2:=hrt
   clear hrt
   obtain ⟨t,htt⟩:∃ t,xn % 20=t:=⟨_,rfl⟩
   have ht20:t < 20:=by rw [← htt];exact Nat.mod_lt _ (by decide)
   have hmt:=tmod_nat xn 20
   rw [htt] at hmt
   have hmt:((xn:Int)).tmod 20=(t:Int):=hmt
   clear htt d4 d5
   go_upto_region 10 with fail
   clear d3 d0
   go_loopw [9] (fun q wx=>∃ (m:Nat) (C':cl.Clu) (g':cl.Gh),m≤t + 1∧q=.int .i64 m∧Sy (cl.ExtT b i) B w0 c n (M + m) bs C' g' wx∧cl.Le C.sts g C'.sts g'∧Stay (bsF bs) n W wx) (fun q _=>t + 1 - (intOf q).toNat)
   case atStart=>exact ⟨0,C,g,Nat.zero_le _,rfl,HSW.out.to (HSW.out.ext.toT i),cl.Le.refl _ _,Stay.refl _ _ _⟩
   case round=>
    obtain ⟨m,C',g',hm,rfl,hs,hle,hst⟩:=hrel
    have hwm:IntKind.i64.wrap ((m:Int) + 1)=(m:Int) + 1:=wrap_i64_in (by omega) (by omega)
    have d3:=(HVW.out.stay hst (by decide) HSW.out.s.maps).cell 3 _ rfl
    rw [HXN.out] at d3
    have HST:=Lib.hid (And.intro hle hst)
    have HSS:=Lib.hid hs
    clear hs hle hst
    by_cases hlt:m≤t
    ·have hltI:decide ((m:Int)≤(t:Int))=true:=decide_eq_true (by omega)
     have hltN:decide (m≤t)=true:=decide_eq_true hlt
     have hcall:=extT_ticked HSS.out (bd_mono HBD.out (by omega)) HT.out HIN.out
     unfold cptr at hcall
     have HCALL:=Lib.hid hcall
     have HLT:=Lib.hid hlt
     clear hcall hlt hm
     go_wp2_with (go_at_call 26;refine HCALL.out.mono ?_;rintro e w5 ⟨z,rfl,hN⟩;have HN:=Lib.hid hN;clear hN)
     go_roundw
     case rel=>
      obtain ⟨C2,g2,s2,l2,t2⟩:=HN.out
      exact ⟨m + 1,C2,g2,by have:=HLT.out;omega,by go_num,s2,HST.out.1.trans l2,HST.out.2.trans t2⟩
     case measure=>have:=HLT.out;simp [intOf];omega
    ·have hltI:decide ((m:Int)≤(t:Int))=false:=decide_eq_false (by omega)
     have hltN:decide (m≤t)=false:=decide_eq_false hlt
     have hm20:m≤20:=by omega
     have HM:=Lib.hid hm20
     clear hlt hm hm20
     go_wp2_with fail
     go_ret
     exact ⟨_,rfl,C',g',(HSS.out.mono (by have:=HM.out;omega)).to (HSS.out.ext.back (by rw [HSS.out.s.cn];exact HIN.out)),HST.out.1,(Stay.of_below HBW.out).trans HST.out.2⟩
  ·have hk:((xd:Int)).tmod 15=3:=hrt
   clear hrt
   clear d4 d5 d3
   have hcall:=sy_deliver (j:=kk) HSW.out (bd_mono HBD.out (by omega)) HT.out
   unfold cptr at hcall
   have HCALL:=Lib.hid hcall
   clear hcall
   go_wp2_with (go_at_call 30;refine HCALL.out.mono ?_;rintro e w5 ⟨z,rfl,hN⟩;have HN:=Lib.hid hN;clear hN)
   go_ret
   exact ⟨_,rfl,((HN.out.mono (by omega)).more (Nat.le_add_right _ _)).pre (Stay.of_below HBW.out)⟩
  ·have hk:((xd:Int)).tmod 15=4:=hrt
   clear hrt
   clear d4 d5 d3
   have hcall:=sy_deliver (j:=kk) HSW.out (bd_mono HBD.out (by omega)) HT.out
   unfold cptr at hcall
   have HCALL:=Lib.hid hcall
   clear hcall
   go_wp2_with (go_at_call 30;refine HCALL.out.mono ?_;rintro e w5 ⟨z,rfl,hN⟩;have HN:=Lib.hid hN;clear hN)
   go_ret
   exact ⟨_,rfl,((HN.out.mono (by omega)).more (Nat.le_add_right _ _)).pre (Stay.of_below HBW.out)⟩
  ·have hk:((xd:Int)).tmod 15=5:=hrt
   clear hrt
   clear d4 d5 d3
   have hcall:=sy_deliver (j:=kk) HSW.out (bd_mono HBD.out (by omega)) HT.out
   unfold cptr at hcall
   have HCALL:=Lib.hid hcall
   clear hcall
   go_wp2_with (go_at_call 30;refine HCALL.out.mono ?_;rintro e w5 ⟨z,rfl,hN⟩;have HN:=Lib.hid hN;clear hN)
   go_ret
   exact ⟨_,rfl,((HN.out.mono (by omega)).more (Nat.le_add_right _ _)).pre (Stay.of_below HBW.out)⟩
  ·have hk:((xd:Int)).tmod 15=6:=hrt
   clear hrt
   clear d4 d5 d3
   have hcall:=sy_deliver (j:=kk) HSW.out (bd_mono HBD.out (by omega)) HT.out
   unfold cptr at hcall
   have HCALL:=Lib.hid hcall
   clear hcall
   go_wp2_with (go_at_call 30;refine HCALL.out.mono ?_;rintro e w5 ⟨z,rfl,hN⟩;have HN:=Lib.hid hN;clear hN)
   go_ret
   exact ⟨_,rfl,((HN.out.mono (by omega)).more (Nat.le_add_right _ _)).pre (Stay.of_below HBW.out)⟩
  ·have hk:((xd:Int)).tmod 15=7:=hrt
   clear hrt
   clear d4 d5 d3
   have hcall:=sy_drop (j:=kk) HSW.out
   unfold cptr at hcall
   have HCALL:=Lib.hid hcall
   clear hcall
   go_wp2_with (go_at_call 29;refine HCALL.out.mono ?_;rintro e w5 ⟨z,rfl,hN⟩;have HN:=Lib.hid hN;clear hN)
   go_ret
   exact ⟨_,rfl,((HN.out.mono (by omega)).more (Nat.le_add_right _ _)).pre (Stay.of_below HBW.out)⟩
  ·have hk:((xd:Int)).tmod 15=8:=hrt
   clear hrt
   clear d4 d5 d3
   have hcall:=sy_double (j:=kk) HSW.out
   unfold cptr at hcall
   have HCALL:=Lib.hid hcall
   clear hcall
   go_wp2_with (go_at_call 28;refine HCALL.out.mono ?_;rintro e w5 ⟨z,rfl,hN⟩;have HN:=Lib.hid hN;clear hN)
   go_ret
   exact ⟨_,rfl,((HN.out.mono (by omega)).more (Nat.le_add_right _ _)).pre (Stay.of_below HBW.out)⟩
  ·have hk:((xd:Int)).tmod 15=9:=hrt
   clear hrt
   have hlor:=cl.leadTo_or C n
   have hlead:=HSW.out.s.lead
   obtain ⟨l0,hl0⟩:∃ l,cl.leadTo C n=l:=⟨_,rfl⟩
   rw [hl0] at hlor hlead
   have HLEQ:=Lib.hid hl0
   have HLEAD:=Lib.hid hlead
   have hpr:=fun (j:Nat) (hj:j < n) (V:World) (hb:Below W.heap.size W V)=>sy_propose x.text HXT.out (HSW.out.later hb) (bd_mono HBD.out (by omega)) HT.out hj
   unfold cptr at hpr
   have HPR:=Lib.hid hpr
   clear hlead hl0 hpr
   obtain ⟨p,hpp⟩:∃ t,xn % 2=t:=⟨_,rfl⟩
   have hmp:=tmod_nat xn 2
   rw [hpp] at hmp
   have hmp:((xn:Int)).tmod 2=(p:Int):=hmp
   have hp2:p < 2:=by rw [← hpp];exact Nat.mod_lt _ (by decide)
   clear hpp d4
   have hpcase:p=0∨p=1:=by omega
   clear hp2
   rcases hpcase with rfl | rfl
   ·have hmp:((xn:Int)).tmod 2=0:=hmp
    rcases hlor with rfl | ⟨m,hm,rfl,_,_⟩
    ·have HIN2:=HIN
     go_upto_region 27 with (first | (go_at_call 14;refine HLEAD.out.mono ?_;rintro e w4 ⟨rfl,hb4⟩;have d5:=cell_later hb4 d5) | (go_at_call 13;refine (HPR.out i HIN.out _ hb4).mono ?_;rintro e w5 ⟨v5,z,rfl,hN⟩;have HN:=Lib.hid hN;clear hN))
     by_cases hz:z=0
     ·subst hz
      have HNN:=Lib.hid ((HN.out.mono (by omega:M + 1≤M + 20)).pre ((Stay.of_below HBW.out).trans (Stay.of_below hb4)))
      go_wp2_with fail
      go_ret
      exact ⟨_,rfl,HNN.out⟩
     ·have hzb:(z == 0)=false:=by simpa using hz
      have HNN:=Lib.hid ((HN.out.mono (by omega:M + 1≤M + 20)).pre ((Stay.of_below HBW.out).trans (Stay.of_below hb4)))
      go_wp2_with fail
      go_ret
      exact ⟨_,rfl,HNN.out⟩
    ·have e1:decide (0≤(m:Int))=true:=decide_eq_true (by omega)
     have HM:=Lib.hid hm
     have HLD2:Hid (∀ V,Below W.heap.size W V→Calls Tryz.prog 14 #[.pointer (some ⟨c,0,none⟩)] V fun e w'=>e=.returned (.int .i64 (m:Int))∧Below V.heap.size V w'):=Lib.hid fun V hb=>by
      have h:=(HSW.out.later hb).s.lead
      have h2:=HLEQ.out
      rw [h2] at h
      exact h
     clear hm
     have hbz:Below W.heap.size W W:=Below.refl _ _
     go_upto_region 27 with (first | (go_at_call 14;refine (HLD2.out _ hbz).mono ?_;rintro e w4 ⟨rfl,hb4⟩;have hbz:=hbz.trans (hb4.mono hbz.size);have d5:=cell_later hb4 d5) | (go_at_call 13;refine (HPR.out m HM.out _ hbz).mono ?_;rintro e w5 ⟨v5,z,rfl,hN⟩;have HN:=Lib.hid hN;clear hN))
     by_cases hz:z=0
     ·subst hz
      have HNN:=Lib.hid ((HN.out.mono (by omega:M + 1≤M + 20)).pre ((Stay.of_below HBW.out).trans (Stay.of_below hbz)))
      go_wp2_with fail
      go_ret
      exact ⟨_,rfl,HNN.out⟩
     ·have hzb:(z == 0)=false:=by simpa using hz
      have HNN:=Lib.hid ((HN.out.mono (by omega:M + 1≤M + 20)).pre ((Stay.of_below HBW.out).trans (Stay.of_below hbz)))
      go_wp2_with fail
      go_ret
      exact ⟨_,rfl,HNN.out⟩
   ·have hmp:((xn:Int)).tmod 2=1:=hmp
    have hbz:Below W.heap.size W W:=Below.refl _ _
    go_upto_region 27 with (first | (go_at_call 14;refine HLEAD.out.mono ?_;rintro e w4 ⟨rfl,hb4⟩;have d5:=cell_later hb4 d5) | (go_at_call 13;refine (HPR.out i HIN.out _ hbz).mono ?_;rintro e w5 ⟨v5,z,rfl,hN⟩;have HN:=Lib.hid hN;clear hN))
    by_cases hz:z=0
    ·subst hz
     have HNN:=Lib.hid ((HN.out.mono (by omega:M + 1≤M + 20)).pre ((Stay.of_below HBW.out).trans (Stay.of_below hbz)))
     go_wp2_with fail
     go_ret
     exact ⟨_,rfl,HNN.out⟩
    ·have hzb:(z == 0)=false:=by simpa using hz
     have HNN:=Lib.hid ((HN.out.mono (by omega:M + 1≤M + 20)).pre ((Stay.of_below HBW.out).trans (Stay.of_below hbz)))
     go_wp2_with fail
     go_ret
     exact ⟨_,rfl,HNN.out⟩
  ·have hk:((xd:Int)).tmod 15=10:=hrt
   clear hrt
   clear d5 d3
   have hcall:=sy_crash x.keep HSW.out HIN.out
   unfold cptr at hcall
   have HCALL:=Lib.hid hcall
   clear hcall
   go_wp2_with (go_at_call 23;refine HCALL.out.mono ?_;rintro e w5 ⟨z,rfl,hN⟩;have HN:=Lib.hid hN;clear hN)
   go_ret
   exact ⟨_,rfl,((HN.out.mono (by omega)).more (Nat.le_add_right _ _)).pre (Stay.of_below HBW.out)⟩
  ·have hk:((xd:Int)).tmod 15=11:=hrt
   clear hrt
   clear d4 d5 d3
   have hcall:=sy_start HSW.out HT.out HIN.out
   unfold cptr at hcall
   have HCALL:=Lib.hid hcall
   clear hcall
   go_wp2_with (go_at_call 22;refine HCALL.out.mono ?_;rintro e w5 ⟨z,rfl,hN⟩;have HN:=Lib.hid hN;clear hN)
   go_ret
   exact ⟨_,rfl,((HN.out.mono (by omega)).more (Nat.le_add_right _ _)).pre (Stay.of_below HBW.out)⟩
  ·have hk:((xd:Int)).tmod 15=12:=hrt
   clear hrt
   clear d4 d5 d3
   have hcall:=sy_start HSW.out HT.out HIN.out
   unfold cptr at hcall
   have HCALL:=Lib.hid hcall
   clear hcall
   go_wp2_with (go_at_call 22;refine HCALL.out.mono ?_;rintro e w5 ⟨z,rfl,hN⟩;have HN:=Lib.hid hN;clear hN)
   go_ret
   exact ⟨_,rfl,((HN.out.mono (by omega)).more (Nat.le_add_right _ _)).pre (Stay.of_below HBW.out)⟩
  ·have hk:((xd:Int)).tmod 15=13:=hrt
   clear hrt
   clear d5
   obtain ⟨t,htt⟩:∃ t,xn % 12=t:=⟨_,rfl⟩
   have hmt:=tmod_nat xn 12
   rw [htt] at hmt
   have hmt:((xn:Int)).tmod 12=(t:Int):=hmt
   have ht12:t < 12:=by rw [← htt];exact Nat.mod_lt _ (by decide)
   have hcall:=sy_fuse (t:Int) x.keep (by omega) HSW.out HIN.out
   clear htt ht12
   unfold cptr at hcall
   have HCALL:=Lib.hid hcall
   clear hcall
   go_wp2_with (go_at_call 21;refine HCALL.out.mono ?_;rintro e w5 ⟨z,rfl,hN⟩;have HN:=Lib.hid hN;clear hN)
   go_ret
   exact ⟨_,rfl,((HN.out.mono (by omega)).more (Nat.le_add_right _ _)).pre (Stay.of_below HBW.out)⟩
  ·have hk:((xd:Int)).tmod 15=14:=hrt
   clear hrt
   clear d4 d5 d3
   have hcall:=sy_round HSW.out (bd_mono HBD.out (by have:=HN7.out;omega)) HT.out
   unfold cptr at hcall
   have HCALL:=Lib.hid hcall
   clear hcall
   go_wp2_with (go_at_call 12;refine HCALL.out.mono ?_;rintro e w5 ⟨rfl,hN⟩;have HN:=Lib.hid hN;clear hN)
   go_ret
   exact ⟨_,rfl,((HN.out.mono (by have:=HN7.out;omega)).more (by have:=HN7.out;omega)).pre (Stay.of_below HBW.out)⟩
end Go.Proofs.YtmcibggjolckoaaGreatDoor
namespace Go.Proofs.YtmcibggjolckoaaGreatDoor
open Go Go.RowKit Go.Deep
set_option maxRecDepth 100000
set_option maxHeartbeats 4000000 in
theorem same_true {u v:Value} {la lb:List rl.Ent} {w:World} (hu:Ents w u la) (hv:Ents w v lb) (h1:la.length≤100000) (h2:lb.length≤100000) (he:∀ j,j < la.length→j < lb.length→la.getD j rl.e0=lb.getD j rl.e0) :
  Calls Tryz.prog 18 #[u,v] w fun e w'=>e=.returned (.bool true)∧Below w.heap.size w w':=by
 obtain ⟨A,c,rfl,hac,_,hA⟩:=hu
 obtain ⟨B,d,rfl,hbd,_,hB⟩:=hv
 obtain ⟨n,hn⟩:∃ n,la.length=n:=⟨_,rfl⟩
 obtain ⟨m,hm⟩:∃ n,lb.length=n:=⟨_,rfl⟩
 rw [hn] at hA hac h1 ⊢
 rw [hm] at hB hbd h2 ⊢
 rw [hn,hm] at he
 have HA:=Lib.hid hA
 have HB:=Lib.hid hB
 have Hn:=Lib.hid hn
 have Hm:=Lib.hid hm
 have HE:=Lib.hid he
 have HLIM:=Lib.hid (And.intro h1 h2)
 have hacI:(n:Int)≤(c:Int):=by omega
 have hbdI:(m:Int)≤(d:Int):=by omega
 clear hA hB hn hm he h1 h2 hac hbd
 go_enter Tryz.func18,Tryz.ntmps18
 go_upto_region 2 with fail
 go_loopw [5] (fun i wr=>∃ k:Nat,k≤n∧k≤m∧i=.int .i64 k∧Below w.heap.size w wr) (fun i _=>n - (intOf i).toNat)
 case atStart=>exact ⟨0,Nat.zero_le _,Nat.zero_le _,rfl,Below.refl _ _⟩
 case round=>
  obtain ⟨k,hk,hk2,rfl,hbw⟩:=hrel
  have HBW:=Lib.hid hbw
  have hwk:IntKind.i64.wrap ((k:Int) + 1)=(k:Int) + 1:=wrap_i64_in (by omega) (by have:=HLIM.out;omega)
  clear hbw
  by_cases hlt:k < n
  ·have hi:decide ((k:Int) < (n:Int))=true:=decide_eq_true (by omega)
   have hiN:decide (k < n)=true:=decide_eq_true hlt
   by_cases hlt2:k < m
   ·have hi2:decide ((k:Int) < (m:Int))=true:=decide_eq_true (by omega)
    have hi2N:decide (k < m)=true:=decide_eq_true hlt2
    obtain ⟨b,o,rfl,hA⟩:=HA.out (by omega)
    obtain ⟨b',o',rfl,hB⟩:=HB.out (by omega)
    obtain ⟨x0,x1⟩:=hA k (by rw [Hn.out];exact hlt)
    obtain ⟨y0,y1⟩:=hB k (by rw [Hm.out];exact hlt2)
    have x0':=cell_later HBW.out x0
    have x1':=cell_later HBW.out x1
    have y0':=cell_later HBW.out y0
    have y1':=cell_later HBW.out y1
    have hxy:=HE.out k hlt hlt2
    rw [← hxy] at y0' y1'
    obtain ⟨x,hx⟩:∃ x,la.getD k rl.e0=x:=⟨_,rfl⟩
    rw [hx] at x0' x1' y0' y1'
    have f1:((x.1:Int) == (x.1:Int))=true:=by simp
    have f2:(x.2 == x.2)=true:=by simp
    have hml:(crcm.mk x.2).toList=x.2:=by rw [ByteArray.toList_eq];rfl
    have HLT:=Lib.hid (And.intro hlt hlt2)
    have hkI:(k:Int) < (n:Int):=by omega
    have hkI2:(k:Int) < (m:Int):=by omega
    clear hA hB x0 x1 y0 y1 hx hxy hlt hlt2 hk hk2
    go_upto_region 4 with fail
    go_quiet (fail)
    go_wp2_with fail
    go_roundw
    case rel=>exact ⟨k + 1,HLT.out.1,HLT.out.2,by go_num,below_drewN HBW.out _⟩
    case measure=>have:=HLT.out;simp [intOf];omega
   ·have hi2:decide ((k:Int) < (m:Int))=false:=decide_eq_false (by omega)
    have hi2N:decide (k < m)=false:=decide_eq_false hlt2
    clear hlt2 hk hk2
    go_wp2_with fail
    go_ret
    exact ⟨rfl,HBW.out⟩
  ·have hi:decide ((k:Int) < (n:Int))=false:=decide_eq_false (by omega)
   have hiN:decide (k < n)=false:=decide_eq_false hlt
   clear hlt hk hk2
   go_wp2_with fail
   go_ret
   exact ⟨rfl,HBW.out⟩
end Go.Proofs.YtmcibggjolckoaaGreatDoor
namespace Go.Proofs.YtmcibggjolckoaaGreatDoor
open Go Go.RowKit Go.Deep
set_option maxRecDepth 100000
theorem act_size:(Tryz.prog.info? 41).map (·.size)=some 6:=by kernel_rfl
theorem EntsB.stay {F:Nat→Fp} {n:Nat} {w w':World} {v:Value} {ls:List rl.Ent} (h:EntsB 0 w v ls) (hs:Stay F n w w') (hm:∀ i,i < n→∃ M,FMap w (F i).b M):EntsB 0 w' v ls:=by
 obtain ⟨S,hA,hS⟩:=hs.apart
 refine h.apart hA fun y hy cur e=>?_
 obtain ⟨o,ho,hc⟩:=hS y hy
 rw [ho] at e
 injection e with e
 subst e
 rcases hc with ⟨cur',t,z,e,ht⟩ | ⟨i,hi,e⟩
 ·injection e with _ e _
  subst e
  exact absurd ht (by decide)
 ·obtain ⟨M,es,cl,h1,_⟩:=hm i hi
  rw [← e,ho] at h1
  cases h1
section
variable {B:Nat} {w0:World} {c n M:Nat} {bs:Nat→Nat} {C:cl.Clu} {g:cl.Gh} {w:World}
theorem Sys.bel (h:Sys B w0 c n M bs C g w):Below w0.heap.size w0 w:=by
 obtain ⟨R,k,F,wv,h1,h2⟩:=h.at_
 exact h1.bel
theorem Sys.com {i:Nat} (h:Sys B w0 c n M bs C g w) (hb:Bd B M) (hi:i < n) :
  Calls Tryz.prog 15 #[.pointer (some ⟨c,0,none⟩),.int .i64 (i:Int)] w fun e w'=>∃ D e',e=.returned (.slice D (shownLog C i).length e')∧w'.ownsRow w.heap.size 35 2 (.slice D (shownLog C i).length e') (shownLog C i).length (entCells (shownLog C i))∧Below w.heap.size w w':=by
 obtain ⟨R,k,F,wv,h1,hF⟩:=h.at_
 have hi':i < C.n:=by rw [h.cn];exact hi
 exact committed_any h1 hi' (fun hu=>(cl.done_of h.inv hi' hu).1) (fun hu=>by have:=(h.lim.up i hi' hu).len;have:=hb.1;omega)
end
theorem new_sys (n:Nat) (w:World) (h1:1≤n) (h7:n≤7) (ht:TabAt w) :
  Calls Tryz.prog 11 #[.int .i64 (n:Int),.int .i64 10000000] w fun e w'=>∃ c bs,e=.returned (.tuple #[.pointer (some ⟨c,0,none⟩),.int .i64 0])∧Sys 5000000 w c n 0 bs (cl.fresh n) cl.gh0 w':=by
 refine (new_any_clu (B:=5000000) n 10000000 w h1 h7 (by decide) (by decide) ht).mono ?_
 rintro e w' ⟨c,R,k,F,rfl,h2,h3⟩
 exact ⟨c,fun i=>(F i).b,rfl,rfl,⟨fun i _=>⟨Nat.zero_le _,Nat.zero_le _,fun e he=>(by cases he),by show -1≤(-1:Int);decide,by show (-1:Int)≤6;decide⟩,fun i _ _=>⟨Nat.zero_le _,fun h=>absurd (show (0:Int)=1 from h) (by decide),Nat.zero_le _,Int.le_refl _,(by decide:(0:Int)≤100),fun e he=>(by cases he),by show -1≤(-1:Int);decide,by show (-1:Int)≤6;decide⟩,fun m hm=>(by cases hm)⟩,cl.inv_fresh n,Nat.zero_le _,R,k,F,_,h2,fun _ _=>rfl⟩
theorem bounded_yes {l:List cl.Act} (h:boundedB l=true):l.length≤150∧∀ k,k < l.length→(l.getD k default).text.length≤100:=by
 unfold boundedB at h
 rw [Bool.and_eq_true] at h
 refine ⟨of_decide_eq_true h.2,fun k hk=>?_⟩
 rw [List.getD_eq_getElem?_getD,List.getElem?_eq_getElem hk]
 exact of_decide_eq_true (List.all_eq_true.1 h.1 _ (List.getElem_mem hk))
theorem bd_3000 {M:Nat} (h:M≤3100):Bd 5000000 M:=⟨by omega,by omega⟩
end Go.Proofs.YtmcibggjolckoaaGreatDoor
