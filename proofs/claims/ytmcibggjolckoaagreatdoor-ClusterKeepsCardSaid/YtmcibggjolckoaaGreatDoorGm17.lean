/- KsOpen, KsSave: one behind the other. -/
import Derived.Test.YtmcibggjolckoaaGreatDoorGm16
import Derived.Deep.Slices
import Derived.ChangeSame
namespace Go.Proofs.YtmcibggjolckoaaGreatDoor
open Go Go.RowKit
set_option maxRecDepth 100000
theorem sv_strs {w:World} {v:Value} {ls:List (List UInt8)} (h:Strs w v ls):Strs w v ls:=h
theorem strs_sv {w:World} {v:Value} {ls:List (List UInt8)} (h:Strs w v ls):Strs w v ls:=h
def RAFT:vd.Name:=[82,65,70,84]
theorem RAFT_ok:wl.openE RAFT=true:=by decide
theorem EntsB.apart {base:Nat} {S:List Nat} {w w':World} {v:Value} {ls:List rl.Ent} (h:EntsB base w v ls) (hA:Apart S w w') (hS:∀ x ∈ S,∀ cur,w.heap[x]? ≠ some (.cells cur 35 (0,0))):EntsB base w' v ls:=by
 obtain ⟨⟨A,c,rfl,h1,h2,h3⟩,h4⟩:=h
 have hsame:∀ b o n c',(Value.slice A ls.length c)=.slice (some ⟨b,o,none⟩) n c'→0 < ls.length→w'.heap[b]?=w.heap[b]?:=by
  intro b o n c' e h0
  obtain ⟨hlt,hh⟩:=h4 b o n c' e h0
  refine hA.block b hlt (fun hx=>?_)
  rcases hh with h5 | ⟨cur,h5⟩
  ·omega
  ·exact hS b hx cur h5
 refine ⟨⟨A,c,rfl,h1,h2,fun h0=>?_⟩,fun b o n c' e h0=>?_⟩
 ·obtain ⟨b,o,rfl,hA⟩:=h3 h0
  have e:=hsame b o _ _ rfl h0
  refine ⟨b,o,rfl,fun k hk=>?_⟩
  rw [World.cell?_of_block (w:=w) (w':=w') (a:=⟨b,o + k * 2,none⟩) e,World.cell?_of_block (w:=w) (w':=w') (a:=⟨b,o + k * 2 + 1,none⟩) e]
  exact hA k hk
 ·have e2:=hsame b o n c' e h0
  obtain ⟨hlt,hh⟩:=h4 b o n c' e h0
  exact ⟨Nat.lt_of_lt_of_le hlt hA.size,by rw [e2];exact hh⟩
theorem results_mid {P:Program} {fn:Func} {p u v:Tmp} {ty:TypeId} (h:fn.results=#[.tmp u,.cell p ty,.tmp v]) (tmps:Array Value) (w:World) (g:Nat) (t:TypeId) (cs:Array Value) (fr:Nat × Nat) (d:TypeDesc)
  (hp:tmps.getD p undef=.pointer (some ⟨g,0,none⟩)) (hg:w.heap[g]?=some (.cells cs t fr))
  (hu:P.underlying ty=some d) (hd:(match d with | .struct _ | .array _ _=>true | _=>false)=true) (hi:(P.info? ty).map (·.size)=some cs.size) :
  (results fn tmps).run P w=.ok (.tuple #[tmps.getD u undef,.agg cs,tmps.getD v undef]) w:=by
 have hp':tmps[p]?.getD undef=.pointer (some ⟨g,0,none⟩):=by simpa using hp
 simp [results,h,hp',asAddr,run_loadVar_row w g t ty cs fr d hg hu hd hi]
section
variable {w0 w:World} {p b g s:Nat} {d:vd.Disk} {l:wl.L}
abbrev kSt (w:World) (s g:Nat):Prop:=Vb w s [.pointer (some ⟨g,0,none⟩)] 103
set_option maxHeartbeats 8000000 in
theorem raft_open {d2:vd.Disk} {ts:List (List UInt8)} {T:Nat} {V:Int} {es:List rl.Ent} (h:Ldk w0 w p b d) (ht:TabAt w0) (hq:wl.open_ d RAFT=(d2,ts,0)) (hf:rl.from_ ts=((T,V,es),0)) (hl:ts.length≤10000) (hall:∀ t ∈ ts,t.length≤maxLen) :
  Calls Tryz.prog 41 #[.pointer (some ⟨p,0,none⟩)] w (fun e w'=>∃ s g u,e=.returned (.tuple #[.pointer (some ⟨s,0,none⟩),stV T V u,.int .i64 0])∧Ldk w0 w' p b d2∧Apart [p,b] w w'∧w.heap.size≤g∧w.heap.size≤s∧kSt w' s g∧Lg w' g p ⟨RAFT,ts.length,false⟩∧EntsB 0 w' u es):=by
 obtain ⟨W,hW⟩:∃ W,w.alloc (.cells #[.int .u64 0,.int .i64 0,.slice none 0 0] 46)=W:=⟨_,rfl⟩
 have hb:Below w.heap.size w W:=by rw [← hW];exact (Below.refl _ w).alloc (Nat.le_refl _) _
 have hv:Vb W w.heap.size [.int .u64 0,.int .i64 0,.slice none 0 0] 46:=by rw [← hW];exact Vb.new w _ _
 have hdW:=h.later hb
 have hO:=ld_open RAFT hdW (by unfold RAFT;simp) ht
 have HQ:=Lib.hid hq
 have HF:=Lib.hid hf
 have HALL:=Lib.hid hall
 have hpl:=h.dk.blk.lt
 have hbl:=h.dk.map.lt
 have H:=Lib.hid h
 clear hq hf hall h
 go_enter Tryz.func41,Tryz.ntmps41
 go_wp2_with fail
 refine hO.mono ?_
 rintro e w1 h1
 obtain ⟨A,c,g,rfl,hd1,hA1,hg1,hk1,hl1⟩:=h1.ok HQ.out
 have hv1:Vb w1 w.heap.size _ _:=hv.apart hA1 (by simp;omega)
 have hfr:=from_any (.slice A ts.length c) ts w1 (sv_strs (hk1 w1 (.refl _ _))) hl HALL.out
 unfold FromPost at hfr
 rw [HF.out] at hfr
 have R1:=Lib.hid (And.intro hd1 (And.intro hl1 hv1))
 have hgs:=hb.size
 clear hO h1 hk1 hd1 hl1 hv hv1 hdW
 go_wp2_with fail
 refine hfr.mono ?_
 rintro e w2 ⟨u,rfl,hE,hb2⟩
 obtain ⟨A2,c2,rfl⟩:∃ A c,u=.slice A es.length c:=hE.form
 unfold stV
 obtain ⟨hd1,hl1,hv1⟩:=R1.out
 have hv2:Vb w2 w.heap.size _ _:=(hb2.block _ hv1.lt).trans hv1
 have hd2:=hd1.later hb2
 have hl2:Lg w2 g p _:=(hb2.block _ (Vb.lt hl1)).trans hl1
 have hA2:Apart [p,b] w w2:=((Apart.of_below hb _).trans hA1).trans (.of_below hb2 _)
 obtain ⟨W2,hW2⟩:∃ W2,w2.alloc (.cells #[.int .u64 (T:Int),.int .i64 V,.slice A2 es.length c2] 46)=W2:=⟨_,rfl⟩
 have hb3:Below w2.heap.size w2 W2:=by rw [← hW2];exact (Below.refl _ w2).alloc (Nat.le_refl _) _
 have hs3:W2.heap.size=w2.heap.size + 1:=by rw [← hW2];exact Array.size_push _
 have hv3:Vb W2 w.heap.size _ _:=(hb3.block _ hv2.lt).trans hv2
 have hx3:Vb W2 w2.heap.size [.int .u64 (T:Int),.int .i64 V,.slice A2 es.length c2] 46:=by rw [← hW2];exact Vb.new w2 _ _
 have q0:=hx3.cell 0 _ rfl
 have q1:=hx3.cell 1 _ rfl
 have q2:=hx3.cell 2 _ rfl
 have y0:=hv3.cell 0 _ rfl
 have y1:=hv3.cell 1 _ rfl
 have y2:=hv3.cell 2 _ rfl
 have z0:=hv3.free 0
 have z1:=hv3.free 1
 have z2:=hv3.free 2
 have hb4:Below W2.heap.size W2 (W2.alloc (.cells #[.pointer (some ⟨g,0,none⟩)] 103)):=(Below.refl _ W2).alloc (Nat.le_refl _) _
 have hv4:Vb (W2.alloc (.cells #[.pointer (some ⟨g,0,none⟩)] 103)) w.heap.size _ _:=(hb4.block _ hv3.lt).trans hv3
 have v0:=hv4.cell 0 _ rfl
 have v1:=hv4.cell 1 _ rfl
 have v2:=hv4.cell 2 _ rfl
 have f0:=hv4.free 0
 have f1:=hv4.free 1
 have f2:=hv4.free 2
 have x0:=cell_later hb4 q0
 have x1:=cell_later hb4 q1
 have x2:=cell_later hb4 q2
 obtain ⟨W3,hW3⟩:∃ W3,W2.alloc (.cells #[.pointer (some ⟨g,0,none⟩)] 103)=W3:=⟨_,rfl⟩
 have hst3:Vb W3 (w2.heap.size + 1) [.pointer (some ⟨g,0,none⟩)] 103:=by
  have:=Vb.new W2 [.pointer (some ⟨g,0,none⟩)] 103
  rw [hs3] at this
  rw [← hW3];exact this
 rw [hW3] at hb4 hv4 v0 v1 v2 f0 f1 f2 x0 x1 x2
 have hws:w.heap.size < w2.heap.size:=by have:=hv2.lt;exact this
 have hgne:g ≠ w.heap.size:=by have:W.heap.size=w.heap.size + 1:=by { rw [← hW];exact Array.size_push _ };omega
 obtain ⟨W5,hW5⟩:∃ W5,(((W3.setCell ⟨w.heap.size,0,none⟩ (.int .u64 (T:Int))).setCell ⟨w.heap.size,1,none⟩ (.int .i64 V)).setCell ⟨w.heap.size,2,none⟩ (.slice A2 es.length c2)).drew=W5:=⟨_,rfl⟩
 have hA5:Apart [w.heap.size] W3 W5:=by
  rw [← hW5]
  exact (((Apart.setCell W3 w.heap.size 0 _).trans (Apart.setCell _ w.heap.size 1 _)).trans (Apart.setCell _ w.heap.size 2 _)).trans (.drew _ _)
 have hx5:Vb W5 w.heap.size [.int .u64 (T:Int),.int .i64 V,.slice A2 es.length c2] 46:=by
  rw [← hW5]
  exact ((hv4.set 0 _).set 1 _).set 2 _
 have hd3:=(hd2.later hb3).later hb4
 have hd5:Ldk w0 W5 p b d2:=hd3.next hA5 (by have:=H.out.bel.size;simp;omega) (hd3.dk.apart hA5 (by simp;omega) (by simp;omega)) hd3.ok rfl
 have hl3:Lg W3 g p _:=(hb4.block _ (Vb.lt (show Lg W2 g p _ from (hb3.block _ (Vb.lt hl2)).trans hl2))).trans ((hb3.block _ (Vb.lt hl2)).trans hl2)
 have hl5:Lg W5 g p ⟨RAFT,ts.length,false⟩:=hl3.apart hA5 (by simpa using hgne)
 have hst5:kSt W5 (w2.heap.size + 1) g:=hst3.apart hA5 (by simp;omega)
 have hE3:EntsB 0 W3 (.slice A2 es.length c2) es:=(hE.later hb3).later hb4
 have hE5:EntsB 0 W5 (.slice A2 es.length c2) es:=hE3.apart hA5 (by
  intro x hx cur e
  obtain rfl:x=w.heap.size:=by simpa using hx
  unfold Vb at hv4
  rw [hv4] at e
  injection e with e
  injection e with _ e _
  exact absurd e (by decide))
 have hA05:Apart [p,b] w W5:=(((hA2.trans (.of_below hb3 _)).trans (.of_below hb4 _))).then hA5 (by simp) (by simp)
 have R2:=Lib.hid (And.intro hd5 (And.intro hl5 (And.intro hA05 (And.intro hE5 (And.intro hst5 hx5)))))
 have hsb:w.heap.size≤w2.heap.size + 1:=by omega
 have hgb:w.heap.size≤g:=by have:=hb.size;omega
 have HSB:=Lib.hid hsb
 have HGB:=Lib.hid hgb
 clear hx5 hd3 hd5 hl3 hl5 hst5 hE3 hE5 hA05 hA5 hst3 hgne hsb hgb
 clear hfr hd1 hl1 hv1 hv2 hd2 hl2 hA2 hE hA1 hv3 hv4 hb4
 go_wp2_with fail
 go_region
 all_goals go_wp2
 all_goals
  obtain ⟨hd5,hl5,hA05,hE5,hst5,hx5⟩:=R2.out
  refine bodyPost_ret (results_mid rfl _ _ w.heap.size _ _ (0,0) _ rfl hx5 Tryz.underlying46 rfl state_size) rfl ?_
  exact ⟨w2.heap.size + 1,g,.slice A2 es.length c2,rfl,hd5,hA05,HGB.out,HSB.out,hst5,hl5,hE5⟩
end
end Go.Proofs.YtmcibggjolckoaaGreatDoor
namespace Go.Proofs.YtmcibggjolckoaaGreatDoor
open Go Go.RowKit Go.ChangeShapes Go.WideShapes Go.Deep
set_option maxRecDepth 100000
structure LSt where
 T:Nat
 V:Int
 u:Value
 es:List rl.Ent
instance:Inhabited LSt:=⟨⟨0,0,.slice none 0 0,[]⟩⟩
structure StAt (w:World) (b o:Nat) (x:LSt):Prop where
 k0:w.cell? ⟨b,o,none⟩=some (.int .u64 (x.T:Int))
 k1:w.cell? ⟨b,o + 1,none⟩=some (.int .i64 x.V)
 k2:w.cell? ⟨b,o + 2,none⟩=some x.u
 ents:Ents w x.u x.es
 fine:Fine x.es
 top:x.T < 18446744073709551616
section
variable {w0 w:World} {p b g s:Nat} {d:vd.Disk} {l:wl.L}
set_option maxHeartbeats 8000000 in
theorem raft_save (T:Nat) (V:Int) (u:Value) (es:List rl.Ent) (hE:Ents w u es) (h1:-1≤V) (h2:V≤254) (hw:Writable T es) (h:Ldk w0 w p b d) (hs:kSt w s g) (hg:Lg w g p l) (hgb:w0.heap.size≤g)
  (hf:(crcm.flat (rl.texts T V es)).length≤1000000000) (hm:l.name.length≤200) (ht0:TabAt w0) :
  Calls Tryz.prog 53 #[.pointer (some ⟨s,0,none⟩),stV T V u] w (fun e w'=>e=.returned (.int .i64 ((wl.reset d l (rl.texts T V es)).2.2:Nat))∧Ldk w0 w' p b (wl.reset d l (rl.texts T V es)).1∧Lg w' g p (wl.reset d l (rl.texts T V es)).2.1∧Apart [p,b,g] w w'):=by
 obtain ⟨A,c,rfl⟩:=hE.form
 obtain ⟨W,hW⟩:∃ W,w.alloc (.cells #[.int .u64 (T:Int),.int .i64 V,.slice A es.length c] 46)=W:=⟨_,rfl⟩
 have hb:Below w.heap.size w W:=by rw [← hW];exact (Below.refl _ w).alloc (Nat.le_refl _) _
 have hv:Vb W w.heap.size [.int .u64 (T:Int),.int .i64 V,.slice A es.length c] 46:=by rw [← hW];exact Vb.new w _ _
 have q0:=hv.cell 0 _ rfl
 have q1:=hv.cell 1 _ rfl
 have q2:=hv.cell 2 _ rfl
 have ht:=texts_good T V _ es W (hE.below hb) h1 h2 hw
 have hlen:(rl.texts T V es).length=es.length + 1:=by unfold rl.texts;simp
 have R:=Lib.hid (And.intro h (And.intro hs hg))
 have HL:=Lib.hid hlen
 have HW2:=Lib.hid hw.2.1
 unfold stV at *
 clear hE h1 h2 hw h hs hg hlen
 go_enter Tryz.func53,Tryz.ntmps53
 go_wp2_with fail
 refine ht.mono ?_
 rintro e w1 ⟨v1,rfl,own1,hb1⟩
 obtain ⟨h,hs,hg⟩:=R.out
 have hb01:=hb.trans (hb1.mono hb.size)
 have hd1:=h.later hb01
 have hs1:Vb w1 s _ _:=(hb01.block _ (Vb.lt hs)).trans hs
 have hg1:Lg w1 g p l:=(hb01.block _ (Vb.lt hg)).trans hg
 have c0:=hs1.cell 0 _ rfl
 have hst:Strs w1 v1 (rl.texts T V es):=strs_sv (strs_of_owns HL.out.symm own1)
 have hr:=ld_reset v1 (rl.texts T V es) hd1 hg1 hgb hst hf (by rw [HL.out];have:=HW2.out;omega) hm ht0
 have hA:=Apart.of_below hb01 [p,b,g]
 clear ht h hs hg hd1 hs1 hg1 hst own1
 go_wp2_with fail
 refine hr.mono ?_
 rintro e w2 ⟨rfl,hd2,hg2,hA2⟩
 go_wp2_with fail
 go_ret
 exact ⟨rfl,hd2,hg2,hA.trans hA2⟩
end
end Go.Proofs.YtmcibggjolckoaaGreatDoor
