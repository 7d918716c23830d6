/- TopLeader: whatever comes in, it returns true, and each argument reads behind the call as it read before. Conditions: what the row itself says (the table of the sums as the program's text lays it: tied by the card); no other. -/
import Derived.Test.YtppibhieabideaaGreatDoorCards
import Derived.Test.YtppibhieabideaaGreatDoorTg
import Derived.Lay
import Derived.LaidLaws
import Derived.Stop.Joined
import Derived.Test.YtppibhieabideaaGreatDoorTopLeaderF1
import Derived.Test.YtppibhieabideaaGreatDoorTopLeaderF2
import Derived.Test.YtppibhieabideaaGreatDoorTopLeaderF3
import Derived.Test.YtppibhieabideaaGreatDoorTopLeaderF4
import Derived.Test.YtppibhieabideaaGreatDoorTopLeaderF5
import Derived.Test.YtppibhieabideaaGreatDoorGt28
import Derived.Test.YtppibhieabideaaGreatDoorGt38
namespace Go.Proofs.YtppibhieabideaaGreatDoor.topLeader
open Go Go.ChangeShapes Go.WideShapes Go.ChangeAt Go.RowKit
open Go.ChangeMaps (open_string shut_string)
theorem gTab:Tryz.prog.globalNamed "rickyard/crc.four"=some 0:=by kernel_rfl
theorem gTabType:(Tryz.prog.globals[0]?).map (·.type)=some 369:=by kernel_rfl
theorem cellsA:Tryz.prog.cellsOf 369=16:=by kernel_rfl
theorem cellsE:Tryz.prog.cellsOf 78=1:=by kernel_rfl
def nums:List Int:=[0,498536548,997073096,651767980,1994146192,1802195444,1303535960,1342533948,3988292384,4027552580,3604390888,3412177804,2607071920,2262029012,2685067896,3183342108]
theorem table {W:World} (h:laidMetH Tryz.prog Rows.topLeaderRow.laid W):TabAt W:=by
 rw [MakeChecks.laidMetH_plain _ _ _ (by kernel_rfl)] at h
 have ht:Lib.TabIs Tryz.prog W "rickyard/crc.four" .u32 nums:=Lib.tabIs_of_head (rest:=Rows.topLeaderRow.laid.tail) gTab gTabType Tryz.underlying369 Tryz.underlying78 cellsE cellsA h
 have hc:∀ i,i < 16→W.cell? ⟨0,i,none⟩=some (.int .u32 ((crcm.tab.getD i 0:Nat):Int)):=fun i hi=>by
  rw [ht.cell gTab i hi]
  have:∀ i,i < 16→nums.getD i 0=((crcm.tab.getD i 0:Nat):Int):=by decide
  rw [this i hi]
 exact ⟨by have:=World.block_lt_of_cell? _ _ (hc 0 (by decide));exact Nat.lt_of_le_of_lt (Nat.zero_le _) this,hc⟩
theorem readable:∀ t ∈ Tryz.f3.params.toList,Tryz.prog.readableRec t=true∧t < Tryz.prog.types.size:=by
 rw [Tryz.params3]
 intro t ht
 simp only [List.mem_cons,or_false,List.not_mem_nil] at ht
 rcases ht with rfl | rfl
 ·exact ⟨by kernel_rfl,of_decide_eq_true (by kernel_rfl)⟩
 ·exact ⟨by kernel_rfl,of_decide_eq_true (by kernel_rfl)⟩
set_option maxRecDepth 100000 in
theorem contract (H:Type) (enc:TypeId × Value→H) (W:World) (base:Nat) (args:Array Value) (ds gs:List (DataW H)) (before:List MemPlace)
  (hval:∀ (j:Nat) t v,Tryz.f3.params[j]?=some t→args[j]?=some v→Value.okWide Tryz.prog W .any base t v)
  (hW:DataW.Whole enc Tryz.prog Tryz.f3.params.toList Rows.topLeaderSpec.vars false W args.toList ds gs before) (hL:laidMetH Tryz.prog Rows.topLeaderRow.laid W) :
  Calls Tryz.prog 3 args W fun e W'=>∃ v,e=.returned v∧Rows.topLeaderSpec.post enc Tryz.prog Tryz.f3 false true false false W args v W':=by
 have hW':=hW
 obtain ⟨p,q,hA0,hV,rfl,hfz,hnd⟩:=hW
 have hA:DataW.TrodAll enc Tryz.prog W 0 (fun _=>true) true Tryz.f3.params.toList args.toList ds p:=hA0
 rw [Tryz.params3] at hA hval
 obtain ⟨v0,vs0,d0,ds0,p0,q0,hargs,rfl,rfl,h0,r0⟩:=trodAll_cons hA
 obtain ⟨v1,vs1,d1,ds1,p1,q1,rfl,rfl,rfl,h1,r1⟩:=trodAll_cons r0
 obtain ⟨rfl,rfl,rfl⟩:=trodAll_nil r1
 obtain rfl:args=#[v0,v1]:=by cases args;simp_all
 obtain ⟨rfl,rfl⟩:=trodVars_none hV
 obtain ⟨a0,len0,cap0,rfl⟩:=okWide_slice Tryz.underlying22 (hval 0 22 v0 rfl rfl)
 obtain ⟨ss0,hss0⟩:∃ ls,Texts W (.slice a0 len0 cap0) ls:=texts_of_reading Tryz.underlying22 Tryz.underlying9 (by kernel_rfl) h0
 obtain ⟨l1,hl1,hm1⟩:=bytes_of_arg (hval 1 23 v1 rfl rfl) h1
 have ht:=table hL
 refine (top_leader shown_true _ _ _ _ W hss0 hl1 hm1 ht).mono fun e W' ⟨he,hb⟩=>?_
 subst he
 exact ⟨_,rfl,frame.law_post frame.laidOut Tryz.underlying4 rfl rfl readable hW' (fun _=>⟨rfl,rfl,rfl⟩) hb⟩
noncomputable def laidWorld (os:Os):World:=World.laidAll Tryz.prog os Rows.topLeaderRow.laid
theorem laid_met (os:Os):laidMet Tryz.prog Rows.topLeaderRow.laid ((laidWorld os).forCall (fun _ _=>0) ⟨#[],#[.slice none 0 0,.slice none 0 0],[]⟩).memory:=laidMet_laidAll _ (by kernel_rfl) (by kernel_rfl)
theorem shaped (os:Os):((laidWorld os).forCall (fun _ _=>0) ⟨#[],#[.slice none 0 0,.slice none 0 0],[]⟩).Shaped Tryz.prog:=World.shaped_of_ZipB (by kernel_rfl) (by kernel_rfl)
theorem witness_row_shaped {H:Type} {enc:TypeId × Value→H} {C:Checked} {os:Os} {f:FuncId} {fn:Func} {s:OpenSpec} {conds:List PathCond} {apart:Bool} {laid:List (String × DataW Unit)} (w0:World) (args:Array Value) (hos:w0.os=os)
  (hsh:(w0.forCall (fun _ _=>0) ⟨#[],args,[]⟩).Shaped C.prog)
  (hok:Input.okWideB C.prog (w0.forCall (fun _ _=>0) ⟨#[],args,[]⟩) f ⟨#[],args,[]⟩=true)
  (hrow:s.preRow enc C.prog fn conds apart laid (w0.forCall (fun _ _=>0) ⟨#[],args,[]⟩).memory args) :
  ∃ (w:World) (tape:Tape) (i:Input),w.os=os∧(w.forCall tape i).Shaped C.prog∧i.vars=[]∧Input.okWide C.prog (w.forCall tape i) .any w.heap.size f i ∧
   s.preRow enc C.prog fn conds apart laid (w.forCall tape i).memory i.args∧({ modest:=false }:Assume).holds C.prog (lone (Frame.enter C.prog f i.args .normal) [] (w.forCall tape i)):=
 ⟨w0,fun _ _=>0,⟨#[],args,[]⟩,hos,hsh,(Input.okWide_of_okWideB (base:=0) hok).1,(Input.okWide_of_okWideB hok).2,hrow,by
  simp only [Assume.holds]
  exact ⟨by simp,by simp,fun _=>Modest.zero,by simp,by simp⟩⟩
theorem reads (os:Os) {H:Type} (enc:TypeId × Value→H):∃ places,DataW.whole enc Tryz.prog ((laidWorld os).forCall (fun _ _=>0) ⟨#[],#[.slice none 0 0,.slice none 0 0],[]⟩).memory Tryz.f3.params.toList Rows.topLeaderSpec.vars false (#[.slice none 0 0,.slice none 0 0]:Array Value).toList 8=some ([.nil,.nil],[],places):=
 ⟨[],by kernel_rfl⟩
theorem fit_noinit:Tryz.checked.prog.inits.idxOf? 3=none:=by kernel_rfl
theorem fit_args (os:Os):Input.okWideB Tryz.checked.prog ((laidWorld os).forCall (fun _ _=>0) ⟨#[],#[.slice none 0 0,.slice none 0 0],[]⟩) 3 ⟨#[],#[.slice none 0 0,.slice none 0 0],[]⟩=true:=by kernel_rfl
theorem fit_sized (os:Os) {H:Type} (enc:TypeId × Value→H):(OpenSpec.ofChange Rows.topLeaderSpec).bare.sizedB enc Tryz.prog Tryz.f3 false ((laidWorld os).forCall (fun _ _=>0) ⟨#[],#[.slice none 0 0,.slice none 0 0],[]⟩).memory #[.slice none 0 0,.slice none 0 0] 8=true:=by kernel_rfl
theorem fit_laid (os:Os):laidMetH Tryz.prog Rows.topLeaderRow.laid ((laidWorld os).forCall (fun _ _=>0) ⟨#[],#[.slice none 0 0,.slice none 0 0],[]⟩).memory:=by
 rw [MakeChecks.laidMetH_plain _ _ _ (by kernel_rfl)]
 exact laid_met os
theorem fit_row (os:Os) {H:Type} (enc:TypeId × Value→H):(OpenSpec.ofChange Rows.topLeaderSpec).preRow enc Tryz.prog Tryz.f3 Rows.topLeaderRow.domain false Rows.topLeaderRow.laid ((laidWorld os).forCall (fun _ _=>0) ⟨#[],#[.slice none 0 0,.slice none 0 0],[]⟩).memory #[.slice none 0 0,.slice none 0 0]:=by
 obtain ⟨places,hx⟩:=reads os enc
 exact OpenSpec.preRow_of_cond 8 hx rfl (fun k hk=>by cases hk) (fit_sized os enc) (fit_laid os)
set_option maxRecDepth 100000 in
theorem lifted (os:Os) (started:os.Started) (H:Type) (enc:TypeId × Value→H) (F:Stop.Interp) :
  ReturnsInHanded {} Tryz.checked os 3 .any ((OpenSpec.ofChange Rows.topLeaderSpec).preRow enc Tryz.prog Tryz.f3 Rows.topLeaderRow.domain false Rows.topLeaderRow.laid) (((OpenSpec.ofChange Rows.topLeaderSpec).at F).post enc Tryz.prog Tryz.f3 false true false false):=by
 refine returnsInHanded_of_row (C:=Tryz.checked) (s:=OpenSpec.ofChange Rows.topLeaderSpec) frame.own started fit_noinit Tryz.func3
  (witness_row_shaped (enc:=enc) (C:=Tryz.checked) (laidWorld os) #[.slice none 0 0,.slice none 0 0] (World.laidAll_os _ _ _) (shaped os) (fit_args os) (fit_row os enc)) ?_
 intro W base args ds gs before hval hW _ _ _ hL _ _
 exact contract H enc W base args ds gs before hval hW hL
theorem k0:(Rows.topLeaderRow.wf (OpenSpec.ofChange (OpenSpec.ofChange Rows.topLeaderSpec).bare))=true:=by kernel_rfl
theorem k3:(Tryz.f3.params.all (Tryz.pinned.checked.prog.readableRec ·))=true:=by kernel_rfl
theorem k4:(namedTie Tryz.pinned.checked.prog Rows.topLeaderRow.named (OpenSpec.ofChange Rows.topLeaderSpec).bare.vars)=true:=by kernel_rfl
theorem k5:((Rows.topLeaderRow.stops == []))=true:=by kernel_rfl
theorem k6:((Tryz.pinned.checked.prog.stops == []))=true:=by kernel_rfl
theorem k7:((Rows.topLeaderRow.knobs == []))=true:=by kernel_rfl
theorem k8:((Tryz.pinned.checked.prog.stopKnobs == []))=true:=by kernel_rfl
theorem k13:((Rows.topLeaderRow.maps == (Tryz.f3.params.toList ++ (OpenSpec.ofChange Rows.topLeaderSpec).bare.plain.varTypes Tryz.pinned.checked.prog).any (Tryz.pinned.checked.prog.mapsRec ·)))=true:=by kernel_rfl
theorem k14:((Rows.topLeaderRow.ifaces == (Tryz.f3.params.toList ++ (OpenSpec.ofChange Rows.topLeaderSpec).bare.plain.varTypes Tryz.pinned.checked.prog).any (Tryz.pinned.checked.prog.ifacesRec ·)))=true:=by kernel_rfl
theorem k15:((Rows.topLeaderRow.mapsOut == Tryz.pinned.checked.prog.mapsAmong Tryz.f3.resultTypes.toList))=true:=by kernel_rfl
theorem k16:((Rows.topLeaderRow.loops == (Tryz.f3.params.toList ++ (OpenSpec.ofChange Rows.topLeaderSpec).bare.plain.varTypes Tryz.pinned.checked.prog).any (Tryz.pinned.checked.prog.loopsFrom ·)))=true:=by kernel_rfl
theorem k17:((Rows.topLeaderRow.wideKeys == (Tryz.f3.params.toList ++ (OpenSpec.ofChange Rows.topLeaderSpec).bare.plain.varTypes Tryz.pinned.checked.prog ++ Tryz.f3.resultTypes.toList).any (Tryz.pinned.checked.prog.wideKeysFrom ·)))=true:=by kernel_rfl
theorem k18:((OpenSpec.ofChange Rows.topLeaderSpec).bare.vars.all (Tryz.pinned.checked.prog.varReadable ·))=true:=by kernel_rfl
theorem k19:(Tryz.f3.resultTypes.all (fun t=>Tryz.pinned.checked.prog.readableRec t && decide (t < Tryz.pinned.checked.prog.types.size)))=true:=by kernel_rfl
theorem k20:((Rows.topLeaderRow.ifacesOut == Tryz.f3.resultTypes.toList.any (Tryz.pinned.checked.prog.ifacesRec ·)))=true:=by kernel_rfl
theorem k21:((Rows.topLeaderRow.loopsOut == Tryz.f3.resultTypes.toList.any (Tryz.pinned.checked.prog.loopsFrom ·)))=true:=by kernel_rfl
theorem k22:((Rows.topLeaderRow.plainKeys == Tryz.pinned.checked.prog.plainKeys))=true:=by kernel_rfl
theorem k23:(Rows.topLeaderRow.shortTexts.isNone)=true:=by kernel_rfl
theorem k26:((Rows.topLeaderRow.lifted == Tryz.pinned.checked.prog.liftsFinal))=true:=by kernel_rfl
theorem k27:((Tryz.pinned.checked.prog.make == some Rows.topLeaderRow.make))=true:=by kernel_rfl
theorem k28:((Rows.topLeaderRow.kinds == (if Rows.topLeaderRow.domain.isEmpty then [] else Tryz.f3.params.toList.map fun t=>match Tryz.pinned.checked.prog.underlying t with | some (.int k)=>some k | _=>none)))=true:=by kernel_rfl
theorem k29:((Rows.topLeaderRow.pinned == Rows.topLeaderRow.pinnedBy))=true:=by kernel_rfl
theorem k30:((Rows.topLeaderRow.veiled == (Tryz.f3.params.toList ++ (OpenSpec.ofChange Rows.topLeaderSpec).bare.plain.varTypes Tryz.pinned.checked.prog ++ Tryz.f3.resultTypes.toList).any (Tryz.pinned.checked.prog.veiledRec ·)))=true:=by kernel_rfl
theorem k31:(Rows.topLeaderRow.veiledFits Tryz.pinned.checked.prog Tryz.f3.params.toList (Tryz.f3.params.toList ++ (OpenSpec.ofChange Rows.topLeaderSpec).bare.plain.varTypes Tryz.pinned.checked.prog ++ Tryz.f3.resultTypes.toList))=true:=by kernel_rfl
theorem band {a b:Bool} (h:a=true) (k:b=true):(a && b)=true:=by rw [h,k];rfl
set_option maxRecDepth 100000 in
theorem fit_closed:joinedFacts Tryz.pinned.checked.prog 3 Tryz.f3 (OpenSpec.ofChange Rows.topLeaderSpec).bare Rows.topLeaderRow=true:=by
 unfold joinedFacts
 exact (band (band (band (band (band (band (band (band (band (band (band (band (band (band (band (band (band (band (band (band (band (band (band (band (band (band (band (band (band (band (band k0 frame.laidOut) k2) k3) k4) k5) k6) k7) k8) k9) k10) k11) k12) k13) k14) k15) k16) k17) k18) k19) k20) k21) k22) k23) k24) k25) k26) k27) k28) k29) k30) k31)
theorem fit_func:Tryz.pinned.checked.prog.funcNamed Rows.topLeaderRow.func=some 3:=by kernel_rfl
theorem fit_inst:Tryz.f3.isInstance Tryz.pinned.checked.prog Rows.topLeaderRow.origin Rows.topLeaderRow.targs:=of_decide_eq_true (by kernel_rfl)
theorem fit_wrap:Tryz.f3.isWrapper Tryz.pinned.checked.prog Rows.topLeaderRow.wrapper Rows.topLeaderRow.mainSum:=by unfold Func.isWrapper;rw [if_neg (of_decide_eq_false (by kernel_rfl))];exact ⟨rfl,rfl⟩
theorem said:Rows.TopLeaderSaid:=
 OpenClaim.holds_of_cond 3 Tryz.f3 rfl rfl rfl rfl rfl rfl rfl ⟨rfl,rfl,rfl,rfl,rfl⟩ rfl rfl rfl rfl rfl fit_func Tryz.func3 fit_closed fit_inst fit_wrap
  (fun os started H enc _ F=>by rw [OpenClaim.pre_eq_preRow];exact lifted os started H enc F)
theorem goes_none {P:Program} (h:P.funcs.any Func.goes=false) (f:FuncId):P.goes f=false:=by
 have h1:∀ i fn,P.funcs[i]?=some fn→Func.goes fn=false:=fun i fn hi=>by
  have h2:=Array.any_eq_false.1 h
  obtain ⟨hlt,e⟩:=Array.getElem?_eq_some_iff.1 hi
  have:=h2 i hlt
  rw [e] at this
  simpa using this
 unfold Program.goes
 rw [h,Bool.and_false,Bool.or_false]
 rw [List.any_eq_false]
 intro g _
 cases hg:P.funcs[g]? with
 | none=>simp
 | some fn=>simp [h1 g fn hg]
theorem goes_by {P:Program} {c:OpenClaim} {f:FuncId} (h:P.funcs.any Func.goes=false) (hf:P.funcNamed c.func=some f) (hs:c.start=.entering):false=c.goesBy P:=by
 unfold OpenClaim.goesBy Program.goesAt Program.goesFrom
 rw [hf,hs]
 show false=(P.goes f || false)
 rw [goes_none h]
 rfl
theorem plain (f:FuncId) (fn:Func) (hf:Tryz.pinned.checked.prog.funcNamed "rickyard/rickyardtop.TopLeader"=some f) (hfn:Tryz.pinned.checked.prog.funcs[f]?=some fn) :
  true=Tryz.pinned.checked.prog.looks []∧∀ (j:Nat) t,fn.params[j]?=some t→Tryz.pinned.checked.prog.wantsStandIn t=false:=by
 obtain rfl:f=3:=Option.some.inj ((show Tryz.prog.funcNamed "rickyard/rickyardtop.TopLeader"=some 3 by kernel_rfl).symm.trans hf) |>.symm
 obtain rfl:fn=Tryz.f3:=(Option.some.inj (Tryz.func3.symm.trans hfn)).symm
 refine ⟨by kernel_rfl,fun j t ht=>?_⟩
 rw [Tryz.params3] at ht
 have hm:=Array.mem_of_getElem? ht
 simp only [List.mem_toArray,List.mem_cons,List.not_mem_nil,or_false] at hm
 rcases hm with rfl | rfl
 ·exact (show Tryz.prog.wantsStandIn 22=false by kernel_rfl)
 ·exact (show Tryz.prog.wantsStandIn 23=false by kernel_rfl)
theorem fit_form:Rows.topLeaderRow.wfByText (OpenSpec.ofChange Rows.topLeaderSpec)=true:=by kernel_rfl
theorem fit_main:Tryz.pinned.checked.prog.mainIs=some (true,("c3ae9179de9dfff5fb0b46d8d11c0ff25184aa0441ab1351f165da8aa537e644":String).toList):=by kernel_rfl
theorem fit_goes:false=Rows.topLeaderRow.goesBy Tryz.pinned.checked.prog:=goes_by kg fit_func rfl
theorem card:Rows.TopLeaderCardSaid:=
 Claim7.holds_tied_plain_at .later [] _ _ _ _ said (fun _ h=>by cases h) fit_form (fun _ h=>by cases h) topLeader_row_tie rfl ⟨rfl,rfl⟩ fit_main rfl plain fit_goes
end Go.Proofs.YtppibhieabideaaGreatDoor.topLeader
