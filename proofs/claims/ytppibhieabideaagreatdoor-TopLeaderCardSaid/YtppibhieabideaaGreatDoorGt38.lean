/- A part of the walk of the program, and of its plain law. -/
import Derived.Test.YtppibhieabideaaGreatDoorGt37
import Derived.Test.YtppibhieabideaaGreatDoorRows
import Derived.Deep.DeepHandedRow
import Derived.Lib.LaidTab
namespace Go.Proofs.YtppibhieabideaaGreatDoor
set_option maxHeartbeats 4000000
open Go Go.RowKit Go.Deep
set_option maxRecDepth 100000
theorem uN {p ge ed lg tb mm last many:Nat} (c:ce.Cell) (hd:c.del=false) (hs:c.seq≤18446744073709551615) (w:World) (hE:EngAt w p ge ed lg tb mm last many) (hm:OneIn w mm c) :
  Calls Tryz.prog 33 #[.pointer (some ⟨ge,0,none⟩),.int .u64 18446744073709551615,.string ⟨#[]⟩,.string ⟨#[]⟩] w λe w'=>∃ b k,e=.returned (.slice (some ⟨b,0,none⟩) 1 k)∧CellAt w' b 0 c∧Below w.heap.size w w':=by
 have HL:=Uq (XP c w hE hm)
 have HV:=Uq λw' g kk b1 k1 hk hg h=>Xb c hd 18446744073709551615 g kk b1 k1 hs hk w' hg h
 clear hE hm hs hd
 go_enter Tryz.func33,Tryz.ntmps33
 go_wp2_with (first | (go_at_call 100;refine HL.out.mono ?_;rintro e w1 ⟨g,kk,b1,k1,rfl,q1,q2,q3,q4⟩;have HS:=Uq (HV.out w1 g kk b1 k1 q2 q1 q3);have HB:=Uq q4;clear q1 q2 q3 q4) | (go_at_call 99;refine HS.out.mono ?_;rintro e w2 ⟨b,k,rfl,r1,r2⟩;have HR:=Uq (And.intro r1 r2);clear r1 r2))
 go_ret;exact ⟨_,_,rfl,HR.out.1,HB.out.trans (HR.out.2.mono HB.out.size)⟩
section
variable {w0 w:World} {a:Ad} {x:rf.Node}
theorem wd_scan (c:ce.Cell) (hd:c.del=false) (hs:c.seq≤18446744073709551615) (h:Cel w0 a x c w) :
  Calls Tryz.prog 40 #[.pointer (some ⟨a.wd,0,none⟩),.int .i64 0,.string ⟨#[]⟩,.string ⟨#[]⟩] w λe w'=>∃ b k,e=.returned (.tuple #[.slice (some ⟨b,0,none⟩) 1 k,.int .i64 0])∧CellAt w' b 0 c∧Below w.heap.size w w':=by
 obtain ⟨b3,k3,hw,hm⟩:=h;have HU:=Uq (Y3 hw)
 have HH:=Uq λw' (hb:Below w.heap.size w w')=>Va (hw.later hb)
 have HLA:=Uq λw' (hb:Below w.heap.size w w')=>YH (hw.later hb).rest.eng
 have HSC:=Uq λw' (hb:Below w.heap.size w w')=>uN c hd hs w' (hw.later hb).rest.eng (hm.later hb)
 have HK:Hid (∀ w',Below w.heap.size w w'→w'.cell? ⟨a.wd,1,none⟩=some (.slice (some ⟨a.nb,0,none⟩) 1 1)∧w'.cell? ⟨a.nb,0,none⟩=some (.pointer (some ⟨a.ge,0,none⟩))∧w'.cell? ⟨a.nb,1,none⟩=some (.int .u64 (c.seq:Int))):=Uq λw' hb=>⟨(hw.later hb).c1,(hw.later hb).n0,(hw.later hb).n1⟩
 clear hw hm hd hs
 go_enter Tryz.func40,Tryz.ntmps40
 go_upto_region 5 with (first | (go_at_call 143;refine HU.out.mono ?_;rintro e w1 ⟨rfl,hb⟩;have HB:=Uq hb;clear hb) | (go_at_call 142;refine (HH.out _ (Below.refl _ _)).mono ?_;rintro e w2 ⟨rfl,rfl⟩))
 have hW:Below w.heap.size w w1.drew:=below_drewN HB.out 1
 go_region_held3 (λw'=>w'.cell? ⟨a.wd,1,none⟩=some (.slice (some ⟨a.nb,0,none⟩) 1 1)∧w'.cell? ⟨a.nb,0,none⟩=some (.pointer (some ⟨a.ge,0,none⟩))∧w'.cell? ⟨a.nb,1,none⟩=some (.int .u64 (c.seq:Int))) (exact HK.out _ hW) ((go_at_call 141;refine (HLA.out _ hW).mono ?_;rintro e w3 ⟨rfl,rfl⟩))
 have hW2:Below w.heap.size w w1.drew:=below_drewN HB.out 1;obtain ⟨c1,c2,c3⟩:=HK.out _ hW2;have HW2:=Uq hW2;clear hW hW2
 go_wp2_with (go_at_call 33;refine (HSC.out _ HW2.out).mono ?_;rintro e w4 ⟨b,k,rfl,r1,r2⟩;have HR:=Uq (And.intro r1 (HW2.out.trans (r2.mono HW2.out.size)));clear r1 r2)
 refine bodyPost_ret (results_tmp2 rfl _ _ _) rfl ?_;exact ⟨_,_,rfl,HR.out.1,HR.out.2⟩
end
theorem um:∀ y ∈ M3,Known y.1:=λy hy=>by
 have e:M3.map (·.1)=[RAFT,MANI,ELOG]:=by decide
 have h:=List.mem_map_of_mem (f:=λz:vd.Name × vd.File=>z.1) hy
 rw [e] at h
 simpa [Known] using h
theorem shown_true (w:World) (ht:TabAt w) :
  Calls Tryz.prog 8 #[] w λe w'=>e=.returned (.bool true)∧Below w.heap.size w w':=by
 have HN:=Uq (xU w ht)
 have HS:=Uq λ(a:Ad) w' (h:SetAt w a M3 0 0 0 w')=>xV h um ht
 have HP:=Uq λ(a:Ad) w' b k (h:SetAt w a M3 0 0 12 w') (hc:CellAt w' b 0 QL) (hk:1≤k)=>jX h ht hc hk
 have HC:=Uq λ(a:Ad) w' (h:Cel w a x13 { QL with seq:=2 } w')=>wd_scan { QL with seq:=2 } rfl (by decide) h
 clear ht;unfold cmdV at HP
 go_enter Tryz.func8,Tryz.ntmps8
 go_upto_region 2 with (go_at_call 36;refine HN.out.mono ?_;rintro e w1 ⟨a,rfl,h1,h2,h3⟩;have H1:=Uq (show SetAt w a M3 0 0 0 w1 from ⟨⟨h1,h2⟩,h3⟩);clear h1 h2 h3)
 go_upto_region 5 with (go_at_call 37;refine (HS.out a w1 H1.out).mono ?_;rintro e w2 ⟨rfl,h2⟩;have H2:=Uq h2;clear h2)
 have hb2:Below w2.heap.size w2 (w2.alloc (.cells (qt QL).toArray 46)):=(Below.refl _ w2).alloc (Nat.le_refl _) _;have v2:=Vb.new w2 (qt QL) 46
 have HPR:=Uq (HP.out a _ w2.heap.size 1 (H2.out.later hb2) (λj u hj=>by rw [Nat.zero_add];exact v2.cell j u hj) (Nat.le_refl _))
 clear hb2 v2
 go_upto_region 6 with (go_at_call 38;refine HPR.out.mono ?_;rintro e w3 ⟨rfl,h3⟩;have H3:=Uq h3;clear h3)
 go_upto_region 7 with (go_at_call 40;refine (HC.out a w3 H3.out).mono ?_;rintro e w4 ⟨b,k,rfl,h4,h5⟩;have H4:=Uq (And.intro h4 h5);clear h4 h5)
 obtain ⟨c0,c1,c2,c3,c4,c5⟩:=Qb H4.out.1;dsimp only at c3;rw [Nat.zero_add] at c3;clear c0 c1 c2 c4 c5;go_wp2_with fail;go_ret;obtain ⟨b3,k3,hw,hm⟩:=H3.out;exact ⟨rfl,hw.one.bel.trans (H4.out.2.mono hw.one.bel.size)⟩
end Go.Proofs.YtppibhieabideaaGreatDoor
namespace Go.Proofs.YtppibhieabideaaGreatDoor.frame
open Go Go.ChangeShapes Go.WideShapes Go.ChangeAt Go.RowKit
section
variable {H:Type} {enc:TypeId × Value→H} {P:Program}
theorem J9 (hl:laidOutB P=true) {W W':World} (hb:Below W.heap.size W W'):∀ {ts:List TypeId} {vs:List Value} {ds:List (DataW H)} {ps:List MemPlace},
  (∀ t ∈ ts,P.readableRec t=true∧t < P.types.size)→DataW.TrodAll enc P W 0 (λ_=>true) true ts vs ds ps→(∀ x ∈ ps,x.block < W.heap.size) →
  DataW.TrodAll enc P W' 0 (λb=>decide (b < W.heap.size)) true ts vs ds ps:=by
 intro ts
 induction ts with
 | nil=>
  intro vs ds ps _ h _;obtain ⟨rfl,rfl,rfl⟩:=trodAll_nil h;exact trodAll_mk0
 | cons t ts ih=>
  intro vs ds ps hr h hlt;obtain ⟨v,vs1,d,ds1,a,b,rfl,rfl,rfl,h1,h2⟩:=trodAll_cons h
  have ht:=hr t (by simp)
  exact ⟨a,b,Below.trod hl ht.1 ht.2 h1 hb (λx hx=>hlt x (by simp [hx])),ih (λt ht=>hr t (by simp [ht])) h2 (λx hx=>hlt x (by simp [hx])),rfl⟩
theorem law_post {f:Func} {s:ChangeSpec} {tb:TypeId} {W W':World} {args:Array Value} {ds gs:List (DataW H)} {before:List MemPlace}
  (hl:laidOutB P=true) (hbool:P.underlying tb=some .bool) (hres:f.resultTypes=#[tb]) (hvars:s.vars=[])
  (hr:∀ t ∈ f.params.toList,P.readableRec t=true∧t < P.types.size)
  (hW:DataW.Whole enc P f.params.toList s.vars false W args.toList ds gs before)
  (hs:gs=[]→(s.fn H (ds ++ gs)).results=[.lit (.bool true)]∧(s.fn H (ds ++ gs)).args=ds∧(s.fn H (ds ++ gs)).vars=[]) (hb:Below W.heap.size W W') :
  s.post enc P f false true false false W args (.bool true) W':=by
 have hW':=hW;obtain ⟨p,q,hA,hV,rfl,hfz,hnd⟩:=hW;rw [hvars] at hV;obtain ⟨rfl,rfl⟩:=trodVars_none hV;obtain ⟨s1,s2,s3⟩:=hs rfl
 refine ⟨ds,[],p ++ [],[],p,[],hW',?_,?_,?_,hb.frame _,λh=>by cases h⟩
 ·rw [s1,hres];exact trodAll_mk1 (shut_bool hbool true)
 ·rw [s2]
  exact J9 hl hb hr hA (λx hx=>hW'.lt x (by simp [hx]))
 ·rw [s3,hvars]
  rfl
end
theorem own:ownKnob Tryz.prog.godebug=none:=by kernel_rfl
theorem laidOut:laidOutB Tryz.prog=true:=by kernel_rfl
end Go.Proofs.YtppibhieabideaaGreatDoor.frame
